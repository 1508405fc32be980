/- Changes: Apply. -/
import Derived.Test.YtilkjcobkdjlkaaAcs
section
namespace Go.Proofs.Ytilkjcobkdjlkaa.Sim
open Go
set_option maxRecDepth 100000
set_option linter.unusedVariables false
set_option linter.unusedSimpArgs false
attribute [local irreducible] Go Mean
def eI (x : Int) : List D := [.at (.int .i64 x)]
abbrev dInts (l : List Int) : D := .sl 1 (l.map eI)
structure PSet where
  idx : Int
  row : List Int
def eSet (s : PSet) : List D := [.at (.int .i64 s.idx), dInts s.row]
abbrev dSets (l : List PSet) : D := .sl 2 (l.map eSet)
structure PChg where
  fr : Int
  tt : Int
  count : Int
  sets : List PSet
abbrev vChg (c : PChg) : V := .ag [I c.fr, I c.tt, I c.count, .d (dSets c.sets)]
theorem getD_map {α β : Type} (f : α → β) (z : β) (w : α) : ∀ (l : List α) (k : Nat), k < l.length → (l.map f).getD k z = f (l.getD k w)
  | [], k, h => by simp at h
  | x :: l, 0, h => rfl
  | x :: l, k + 1, h => by
    simp only [List.map_cons, List.getD_cons_succ]
    exact getD_map f z w l k (by simpa using h)
theorem drop_get {α : Type} (w : α) : ∀ (l : List α) (k : Nat), k < l.length → l.drop k = l.getD k w :: l.drop (k + 1)
  | [], k, h => by simp at h
  | x :: l, 0, h => rfl
  | x :: l, k + 1, h => by
    simp only [List.drop_succ_cons, List.getD_cons_succ]
    exact drop_get w l k (by simpa using h)
def numF (n : Int) : Bool := decide (1 ≤ n) && decide (n < 2147483647)
theorem numbered (n : Int) : Does Try.prog 119 [I n] [] (B (numF n)) [] [] := by
  refine go_change_numbered rfl BxOK.nil fun cx hm0 => go_in 5000 ?_
  unfold ac_change_numbered rs_change_numbered
  repeat' (first | simp (maxSteps := 9999999) only [↓GE, PL, PP, EE, QQ, seval] | (simp (disch := omega) only [IntWalk.i64_in]) | (refine go_brD (fun h => ?_) (fun h => ?_)) | (refine go_gsD (by ((try simp only [EE, QQ, seval]) <;> rfl)) (fun h => ?_) (fun h => ?_)) | (refine go_br (fun h => ?_) (fun h => ?_)) | (refine go_gs (by ((try simp only [EE, QQ, seval]) <;> rfl)) (fun h => ?_) (fun h => ?_)) | (with_reducible apply And.intro) | (with_reducible exact trivial) | omega | (simp only [List.length_map, List.length_cons, List.length_nil] at *; omega) | (show _ = true; first | rfl | kernel_rfl))
  all_goals
    (first | apply ret_mk [] | apply end_mk []); (· ((try simp only [CC, LL, EE, QQ, seval]) <;> rfl))
    · simp only [CC, LL, EE, QQ, seval]
      simp [numF, *] <;> omega
    · trivial
    · decide
    · trivial
theorem cloneInts (l : List Int) (hl : l.length ≤ 17592186044416) : Does Try.prog 64 [.d (dInts l)] [] (.og 1000000 0) [] [.arr 0 1 true (l.map eI)] := by
  refine go_slices_Clone_int_int rfl BxOK.nil fun cx hm0 => go_in 5000 ?_
  unfold ac_slices_Clone_int_int rs_slices_Clone_int_int
  cases l with
  | nil =>
    repeat' (first | simp (maxSteps := 9999999) only [↓GE, PL, PP, EE, QQ, seval] | (simp (disch := omega) only [IntWalk.i64_in]) | (refine go_brD (fun h => ?_) (fun h => ?_)) | (refine go_gsD (by ((try simp only [EE, QQ, seval]) <;> rfl)) (fun h => ?_) (fun h => ?_)) | (refine go_br (fun h => ?_) (fun h => ?_)) | (refine go_gs (by ((try simp only [EE, QQ, seval]) <;> rfl)) (fun h => ?_) (fun h => ?_)) | (with_reducible apply And.intro) | (with_reducible exact trivial) | omega | (simp only [List.length_map, List.length_cons, List.length_nil] at *; omega) | (show _ = true; first | rfl | kernel_rfl))
    · (first | apply ret_mk [none] | apply end_mk [none]); (· ((try simp only [CC, LL, EE, QQ, seval]) <;> rfl))
      all_goals (first | trivial | decide | ((try simp only [CC, LL, EE, QQ, seval]) <;> repeat' (first | (with_reducible apply And.intro) | (exact ⟨_, rfl, rfl, rfl⟩) | (exact ⟨_, _, _, rfl⟩) | (exact ⟨_, rfl⟩) | trivial | rfl | (simp; done))))
    · (first | apply ret_mk [some 5] | apply end_mk [some 5]); (· ((try simp only [CC, LL, EE, QQ, seval]) <;> rfl))
      all_goals (first | trivial | decide | ((try simp only [CC, LL, EE, QQ, seval]) <;> repeat' (first | (with_reducible apply And.intro) | (exact ⟨_, rfl, rfl, rfl⟩) | (exact ⟨_, _, _, rfl⟩) | (exact ⟨_, rfl⟩) | trivial | rfl | (simp; done))))
  | cons x l =>
    repeat' (first | simp (maxSteps := 9999999) only [↓GE, PL, PP, EE, QQ, seval] | (simp (disch := omega) only [IntWalk.i64_in]) | (refine go_brD (fun h => ?_) (fun h => ?_)) | (refine go_gsD (by ((try simp only [EE, QQ, seval]) <;> rfl)) (fun h => ?_) (fun h => ?_)) | (refine go_br (fun h => ?_) (fun h => ?_)) | (refine go_gs (by ((try simp only [EE, QQ, seval]) <;> rfl)) (fun h => ?_) (fun h => ?_)) | (with_reducible apply And.intro) | (with_reducible exact trivial) | omega | (simp only [List.length_map, List.length_cons, List.length_nil] at *; omega) | (show _ = true; first | rfl | kernel_rfl))
    (first | apply ret_mk [some 5] | apply end_mk [some 5]); (· ((try simp only [CC, LL, EE, QQ, seval]) <;> rfl))
    all_goals (first | trivial | decide | ((try simp only [CC, LL, EE, QQ, seval]) <;> repeat' (first | (with_reducible apply And.intro) | (exact ⟨_, rfl, rfl, rfl⟩) | (exact ⟨_, _, _, rfl⟩) | (exact ⟨_, rfl⟩) | trivial | rfl | (simp; done))))
theorem own (s : PSet) (hl : s.row.length ≤ 17592186044416) : Does Try.prog 104 [.ag [I s.idx, .d (dInts s.row)]] [] (.ag [I s.idx, .og 1000000 0]) [] [.arr 0 1 true (s.row.map eI)] := by
  refine go_change_own rfl BxOK.nil fun cx hm0 => go_in 5000 ?_
  unfold ac_change_own rs_change_own
  repeat' (first | simp (maxSteps := 9999999) only [↓GE, PL, PP, EE, QQ, seval] | (simp (disch := omega) only [IntWalk.i64_in]) | (refine go_brD (fun h => ?_) (fun h => ?_)) | (refine go_gsD (by ((try simp only [EE, QQ, seval]) <;> rfl)) (fun h => ?_) (fun h => ?_)) | (refine go_br (fun h => ?_) (fun h => ?_)) | (refine go_gs (by ((try simp only [EE, QQ, seval]) <;> rfl)) (fun h => ?_) (fun h => ?_)) | (apply go_call 5000 (cloneInts _ hl) rfl rfl; (· ((try simp only [CC, LL, NM, EE, QQ, seval]) <;> (first | rfl | ((repeat constructor); done)))); (· exact CallForm.news rfl rfl); (· ((try simp only [CC, LL, NM, EE, QQ, seval]) <;> (first | rfl | ((repeat constructor); done)))); (· ((try simp only [CC, LL, NM, EE, QQ, seval]) <;> (first | rfl | ((repeat constructor); done))))) | (with_reducible apply And.intro) | (with_reducible exact trivial) | omega | (simp only [List.length_map, List.length_cons, List.length_nil] at *; omega) | (show _ = true; first | rfl | kernel_rfl))
  (first | apply ret_mk [some 9000] | apply end_mk [some 9000]); (· ((try simp only [CC, LL, EE, QQ, seval]) <;> rfl))
  all_goals (first | trivial | decide | ((try simp only [CC, LL, EE, QQ, seval]) <;> repeat' (first | (with_reducible apply And.intro) | (exact ⟨_, rfl, rfl, rfl⟩) | (exact ⟨_, _, _, rfl⟩) | (exact ⟨_, rfl⟩) | trivial | rfl | (simp; done))))
def formGo (count : Int) : Int → List PSet → Bool
  | _, [] => true
  | last, s :: r => if s.idx ≤ last ∨ s.idx ≥ count then false else formGo count s.idx r
def formF (c : PChg) : Bool := numF c.fr && numF c.tt && decide (c.fr < c.tt) && decide (0 ≤ c.count) && decide (c.count ≤ 1024) && formGo c.count (-1) c.sets
def noSet : PSet := ⟨0, []⟩
theorem formed (c : PChg) (hl : c.sets.length ≤ 17592186044416) : Does Try.prog 109 [vChg c] [] (B (formF c)) [] [] := by
  refine go_change_formed rfl BxOK.nil fun cx hm0 => go_in 5000 ?_
  unfold ac_change_formed rs_change_formed
  repeat' (first | simp (maxSteps := 9999999) only [↓GE, PL, PP, EE, QQ, seval] | (simp (disch := omega) only [IntWalk.i64_in]) | (refine go_brD (fun h => ?_) (fun h => ?_)) | (refine go_gsD (by ((try simp only [EE, QQ, seval]) <;> rfl)) (fun h => ?_) (fun h => ?_)) | (refine go_br (fun h => ?_) (fun h => ?_)) | (refine go_gs (by ((try simp only [EE, QQ, seval]) <;> rfl)) (fun h => ?_) (fun h => ?_)) | (apply go_call 5000 (numbered _) rfl rfl; (· ((try simp only [CC, LL, NM, EE, QQ, seval]) <;> (first | rfl | ((repeat constructor); done)))); (· exact CallForm.plain rfl); (· ((try simp only [CC, LL, NM, EE, QQ, seval]) <;> (first | rfl | ((repeat constructor); done)))); (· ((try simp only [CC, LL, NM, EE, QQ, seval]) <;> (first | rfl | ((repeat constructor); done))))) | (with_reducible apply And.intro) | (with_reducible exact trivial) | omega | (simp only [List.length_map, List.length_cons, List.length_nil] at *; omega) | (show _ = true; first | rfl | kernel_rfl))
  any_goals ((first | apply ret_mk [] | apply end_mk []); (· ((try simp only [CC, LL, EE, QQ, seval]) <;> rfl)); (· ((try simp only [CC, LL, EE, QQ, seval]) <;> repeat' (first | (with_reducible apply And.intro) | rfl | trivial | (exact ⟨_, rfl⟩) | (exact ⟨_, _, _, rfl⟩) | (simp [*, formF]; done) | (simp [*, formF]; omega) | (simp_all [formF]; done) | (simp_all [formF]; omega)))); all_goals (first | trivial | decide | ((try simp only [CC, LL, EE, QQ, seval]) <;> repeat' (first | (with_reducible apply And.intro) | (exact ⟨_, rfl, rfl, rfl⟩) | (exact ⟨_, _, _, rfl⟩) | (exact ⟨_, rfl⟩) | trivial | rfl | (simp; done)))))
  refine go_loop 5000 hm0 (ι := {p : Nat × Int // p.1 ≤ c.sets.length ∧ formGo c.count (-1) c.sets = formGo c.count p.2 (c.sets.drop p.1)}) (fun i => [(1, .bp 1 0 0), (2, B false), (3, I i.1.2), (34, .d (dSets c.sets)), (35, I c.sets.length), (36, I i.1.1)]) (fun i => [(1, .box 0 [I c.fr, I c.tt, I c.count, .d (dSets c.sets)])]) (fun i => c.sets.length - i.1.1) [] ⟨(0, -1), by simp⟩ ?_ ?_
  · (simp only [GeS]; refine ⟨?_, ?_, ?_, ?_⟩; all_goals (repeat' (first | trivial | (with_reducible rfl) | simp only [CC, LL, EE, QQ, seval] | (with_reducible apply And.intro) | rfl | (refine ⟨_, rfl, ?_⟩) | (simp; done) | omega)))
  · rintro ⟨⟨k, last⟩, hk, hv⟩
    by_cases hkl : k < c.sets.length
    · have hs := getD_map eSet [] noSet c.sets k hkl
      rw [drop_get noSet _ _ hkl] at hv
      generalize c.sets.getD k noSet = s at hs hv
      simp only [formGo] at hv
      repeat' (first | simp (maxSteps := 9999999) only [↓GE, PL, PP, EE, QQ, seval, hs, eSet] | (simp (disch := omega) only [IntWalk.i64_in]) | (refine go_brD (fun h => ?_) (fun h => ?_)) | (refine go_gsD (by ((try simp only [EE, QQ, seval]) <;> rfl)) (fun h => ?_) (fun h => ?_)) | (refine go_br (fun h => ?_) (fun h => ?_)) | (refine go_gs (by ((try simp only [EE, QQ, seval]) <;> rfl)) (fun h => ?_) (fun h => ?_)) | (with_reducible apply And.intro) | (with_reducible exact trivial) | omega | (simp only [List.length_map, List.length_cons, List.length_nil] at *; omega) | (show _ = true; first | rfl | kernel_rfl))
      any_goals ((first | apply ret_mk [] | apply end_mk []); (· ((try simp only [CC, LL, EE, QQ, seval]) <;> rfl)); (· ((try simp only [CC, LL, EE, QQ, seval]) <;> repeat' (first | (with_reducible apply And.intro) | rfl | trivial | (exact ⟨_, rfl⟩) | (exact ⟨_, _, _, rfl⟩) | (simp [*, formF]; done) | (simp [*, formF]; omega) | (simp_all [formF]; done) | (simp_all [formF]; omega)))); all_goals (first | trivial | decide | ((try simp only [CC, LL, EE, QQ, seval]) <;> repeat' (first | (with_reducible apply And.intro) | (exact ⟨_, rfl, rfl, rfl⟩) | (exact ⟨_, _, _, rfl⟩) | (exact ⟨_, rfl⟩) | trivial | rfl | (simp; done)))))
      refine ⟨⟨(k + 1, s.idx), hkl, by rw [hv, if_neg (by omega)]⟩, ?_, by simp only; omega⟩
      (simp only [GeS]; refine ⟨?_, ?_, ?_, ?_⟩; all_goals (repeat' (first | trivial | (with_reducible rfl) | simp only [CC, LL, EE, QQ, seval] | (with_reducible apply And.intro) | rfl | (refine ⟨_, rfl, ?_⟩) | (simp; done) | omega)))
    · have : k = c.sets.length := by simp only at hk; omega
      subst this
      simp only [List.drop_length, formGo] at hv
      repeat' (first | simp (maxSteps := 9999999) only [↓GE, PL, PP, EE, QQ, seval] | (simp (disch := omega) only [IntWalk.i64_in]) | (refine go_brD (fun h => ?_) (fun h => ?_)) | (refine go_gsD (by ((try simp only [EE, QQ, seval]) <;> rfl)) (fun h => ?_) (fun h => ?_)) | (refine go_br (fun h => ?_) (fun h => ?_)) | (refine go_gs (by ((try simp only [EE, QQ, seval]) <;> rfl)) (fun h => ?_) (fun h => ?_)) | (with_reducible apply And.intro) | (with_reducible exact trivial) | omega | (simp only [List.length_map, List.length_cons, List.length_nil] at *; omega) | (show _ = true; first | rfl | kernel_rfl))
      all_goals ((first | apply ret_mk [] | apply end_mk []); (· ((try simp only [CC, LL, EE, QQ, seval]) <;> rfl)); (· ((try simp only [CC, LL, EE, QQ, seval]) <;> repeat' (first | (with_reducible apply And.intro) | rfl | trivial | (exact ⟨_, rfl⟩) | (exact ⟨_, _, _, rfl⟩) | (simp [*, formF]; done) | (simp [*, formF]; omega) | (simp_all [formF]; done) | (simp_all [formF]; omega)))); all_goals (first | trivial | decide | ((try simp only [CC, LL, EE, QQ, seval]) <;> repeat' (first | (with_reducible apply And.intro) | (exact ⟨_, rfl, rfl, rfl⟩) | (exact ⟨_, _, _, rfl⟩) | (exact ⟨_, rfl⟩) | trivial | rfl | (simp; done)))))
def behindF (index : Int) (l : List PSet) : Nat := l.countP fun s => decide (s.idx ≥ index)
theorem behind (c : PChg) (x : Int) (hl : c.sets.length ≤ 17592186044416) : Does Try.prog 110 [vChg c, I x] [] (I (behindF x c.sets)) [] [] := by
  refine go_change_behind rfl BxOK.nil fun cx hm0 => go_in 5000 ?_
  unfold ac_change_behind rs_change_behind
  repeat' (first | simp (maxSteps := 9999999) only [↓GE, PL, PP, EE, QQ, seval] | (simp (disch := omega) only [IntWalk.i64_in]) | (refine go_brD (fun h => ?_) (fun h => ?_)) | (refine go_gsD (by ((try simp only [EE, QQ, seval]) <;> rfl)) (fun h => ?_) (fun h => ?_)) | (refine go_br (fun h => ?_) (fun h => ?_)) | (refine go_gs (by ((try simp only [EE, QQ, seval]) <;> rfl)) (fun h => ?_) (fun h => ?_)) | (with_reducible apply And.intro) | (with_reducible exact trivial) | omega | (simp only [List.length_map, List.length_cons, List.length_nil] at *; omega) | (show _ = true; first | rfl | kernel_rfl))
  refine go_loop 5000 hm0 (ι := {p : Nat × Nat // p.1 ≤ c.sets.length ∧ p.2 ≤ p.1 ∧ behindF x c.sets = p.2 + behindF x (c.sets.drop p.1)}) (fun i => [(1, I x), (2, .bp 2 0 0), (5, I i.1.2), (9, .d (dSets c.sets)), (10, I c.sets.length), (11, I i.1.1)]) (fun i => [(2, .box 0 [I c.fr, I c.tt, I c.count, .d (dSets c.sets)])]) (fun i => c.sets.length - i.1.1) [] ⟨(0, 0), by simp⟩ ?_ ?_
  · (simp only [GeS]; refine ⟨?_, ?_, ?_, ?_⟩; all_goals (repeat' (first | trivial | (with_reducible rfl) | simp only [CC, LL, EE, QQ, seval] | (with_reducible apply And.intro) | rfl | (refine ⟨_, rfl, ?_⟩) | (simp; done) | omega)))
  · rintro ⟨⟨k, n⟩, hk, hn, hv⟩
    by_cases hkl : k < c.sets.length
    · have hs := getD_map eSet [] noSet c.sets k hkl
      rw [drop_get noSet _ _ hkl] at hv
      generalize c.sets.getD k noSet = s at hs hv
      simp only [behindF, List.countP_cons] at hv
      repeat' (first | simp (maxSteps := 9999999) only [↓GE, PL, PP, EE, QQ, seval, hs, eSet] | (simp (disch := omega) only [IntWalk.i64_in]) | (refine go_brD (fun h => ?_) (fun h => ?_)) | (refine go_gsD (by ((try simp only [EE, QQ, seval]) <;> rfl)) (fun h => ?_) (fun h => ?_)) | (refine go_br (fun h => ?_) (fun h => ?_)) | (refine go_gs (by ((try simp only [EE, QQ, seval]) <;> rfl)) (fun h => ?_) (fun h => ?_)) | (with_reducible apply And.intro) | (with_reducible exact trivial) | omega | (simp only [List.length_map, List.length_cons, List.length_nil] at *; omega) | (show _ = true; first | rfl | kernel_rfl))
      · refine ⟨⟨(k + 1, n + 1), hkl, by omega, by simp_all [behindF]; omega⟩, ?_, by simp only; omega⟩
        (simp only [GeS]; refine ⟨?_, ?_, ?_, ?_⟩; all_goals (repeat' (first | trivial | (with_reducible rfl) | simp only [CC, LL, EE, QQ, seval] | (with_reducible apply And.intro) | rfl | (refine ⟨_, rfl, ?_⟩) | (simp; done) | omega)))
      · refine ⟨⟨(k + 1, n), hkl, by omega, by simp_all [behindF]⟩, ?_, by simp only; omega⟩
        (simp only [GeS]; refine ⟨?_, ?_, ?_, ?_⟩; all_goals (repeat' (first | trivial | (with_reducible rfl) | simp only [CC, LL, EE, QQ, seval] | (with_reducible apply And.intro) | rfl | (refine ⟨_, rfl, ?_⟩) | (simp; done) | omega)))
    · have : k = c.sets.length := by simp only at hk; omega
      subst this
      simp only [List.drop_length, behindF, List.countP_nil] at hv
      repeat' (first | simp (maxSteps := 9999999) only [↓GE, PL, PP, EE, QQ, seval] | (simp (disch := omega) only [IntWalk.i64_in]) | (refine go_brD (fun h => ?_) (fun h => ?_)) | (refine go_gsD (by ((try simp only [EE, QQ, seval]) <;> rfl)) (fun h => ?_) (fun h => ?_)) | (refine go_br (fun h => ?_) (fun h => ?_)) | (refine go_gs (by ((try simp only [EE, QQ, seval]) <;> rfl)) (fun h => ?_) (fun h => ?_)) | (with_reducible apply And.intro) | (with_reducible exact trivial) | omega | (simp only [List.length_map, List.length_cons, List.length_nil] at *; omega) | (show _ = true; first | rfl | kernel_rfl))
      all_goals ((first | apply ret_mk [] | apply end_mk []); (· ((try simp only [CC, LL, EE, QQ, seval]) <;> rfl)); (· ((try simp only [CC, LL, EE, QQ, seval]) <;> repeat' (first | (with_reducible apply And.intro) | rfl | trivial | (exact ⟨_, rfl⟩) | (exact ⟨_, _, _, rfl⟩) | (simp [*, behindF]; done) | (simp [*, behindF]; omega) | (simp_all [behindF]; done) | (simp_all [behindF]; omega)))); all_goals (first | trivial | decide | ((try simp only [CC, LL, EE, QQ, seval]) <;> repeat' (first | (with_reducible apply And.intro) | (exact ⟨_, rfl, rfl, rfl⟩) | (exact ⟨_, _, _, rfl⟩) | (exact ⟨_, rfl⟩) | trivial | rfl | (simp; done)))))
end Go.Proofs.Ytilkjcobkdjlkaa.Sim
end
section
namespace Go.Proofs.Ytilkjcobkdjlkaa.Sim
open Go
set_option maxRecDepth 100000
set_option linter.unusedVariables false
set_option linter.unusedSimpArgs false
attribute [local irreducible] Go Mean
noncomputable def fieldB (p : Int) : Bool := @decide (2 ≤ p ∧ p ≤ 65521 ∧ ∀ d : Int, 2 ≤ d → d * d ≤ p → p.tmod d ≠ 0) (Classical.propDecidable _)
theorem fieldB_iff {p : Int} : fieldB p = true ↔ 2 ≤ p ∧ p ≤ 65521 ∧ ∀ d : Int, 2 ≤ d → d * d ≤ p → p.tmod d ≠ 0 := by simp [fieldB]
theorem fieldB_no {p : Int} (h : ¬(2 ≤ p ∧ p ≤ 65521 ∧ ∀ d : Int, 2 ≤ d → d * d ≤ p → p.tmod d ≠ 0)) : fieldB p = false := by
  cases e : fieldB p with
  | false => rfl
  | true => exact absurd (fieldB_iff.1 e) h
theorem sq_ge {d : Int} (h : 0 ≤ d) : d ≤ d * d := by
  by_cases h0 : d = 0
  · subst h0; decide
  · have := Int.mul_le_mul_of_nonneg_right (show (1 : Int) ≤ d by omega) h
    rwa [Int.one_mul] at this
theorem sq_le {d e : Int} (h0 : 0 ≤ d) (h : d ≤ e) : d * d ≤ e * e := Int.mul_le_mul h h h0 (by omega)
theorem no_more {p d : Int} (hd : 2 ≤ d) (hp : 2 ≤ p) (hp2 : p ≤ 65521) (hn : ∀ e : Int, 2 ≤ e → e < d → p.tmod e ≠ 0) (h : ¬d * d ≤ p) : fieldB p = true := by
  refine fieldB_iff.2 ⟨hp, hp2, fun e he h2 => ?_⟩
  by_cases h3 : e < d
  · exact hn e he h3
  · have := sq_le (d := d) (e := e) (by omega) (by omega)
    omega
theorem resOf (p : Int) : Does Try.prog 94 [.ag [I p]] [] (.tu [I (if fieldB p = true then p else 0), B (fieldB p)]) [] [] := by
  refine go_residue_Of rfl BxOK.nil fun cx hm0 => go_in 5000 ?_
  unfold ac_residue_Of rs_residue_Of
  repeat' (first | simp (maxSteps := 9999999) only [↓GE, PL, PP, EE, QQ, seval] | (simp (disch := omega) only [IntWalk.i64_in]) | (refine go_brD (fun h => ?_) (fun h => ?_)) | (refine go_gsD (by ((try simp only [EE, QQ, seval]) <;> rfl)) (fun h => ?_) (fun h => ?_)) | (refine go_br (fun h => ?_) (fun h => ?_)) | (refine go_gs (by ((try simp only [EE, QQ, seval]) <;> rfl)) (fun h => ?_) (fun h => ?_)) | (with_reducible apply And.intro) | (with_reducible exact trivial) | omega | (simp only [List.length_map, List.length_cons, List.length_nil] at *; omega) | (show _ = true; first | rfl | kernel_rfl))
  · have hf : fieldB p = false := fieldB_no (by omega)
    ((first | apply ret_mk [] | apply end_mk []); (· ((try simp only [CC, LL, EE, QQ, seval]) <;> rfl)); (· ((try simp only [CC, LL, EE, QQ, seval]) <;> repeat' (first | (with_reducible apply And.intro) | rfl | trivial | (exact ⟨_, rfl⟩) | (exact ⟨_, _, _, rfl⟩) | (simp [*, hf]; done) | (simp [*, hf]; omega) | (simp_all [hf]; done) | (simp_all [hf]; omega)))); all_goals (first | trivial | decide | ((try simp only [CC, LL, EE, QQ, seval]) <;> repeat' (first | (with_reducible apply And.intro) | (exact ⟨_, rfl, rfl, rfl⟩) | (exact ⟨_, _, _, rfl⟩) | (exact ⟨_, rfl⟩) | trivial | rfl | (simp; done)))))
  · have hf : fieldB p = false := fieldB_no (by omega)
    ((first | apply ret_mk [] | apply end_mk []); (· ((try simp only [CC, LL, EE, QQ, seval]) <;> rfl)); (· ((try simp only [CC, LL, EE, QQ, seval]) <;> repeat' (first | (with_reducible apply And.intro) | rfl | trivial | (exact ⟨_, rfl⟩) | (exact ⟨_, _, _, rfl⟩) | (simp [*, hf]; done) | (simp [*, hf]; omega) | (simp_all [hf]; done) | (simp_all [hf]; omega)))); all_goals (first | trivial | decide | ((try simp only [CC, LL, EE, QQ, seval]) <;> repeat' (first | (with_reducible apply And.intro) | (exact ⟨_, rfl, rfl, rfl⟩) | (exact ⟨_, _, _, rfl⟩) | (exact ⟨_, rfl⟩) | trivial | rfl | (simp; done)))))
  refine go_loop 5000 hm0 (ι := {d : Int // 2 ≤ d ∧ d ≤ 65522 ∧ ∀ e : Int, 2 ≤ e → e < d → p.tmod e ≠ 0}) (fun i => [(1, .bp 1 0 0), (2, I 0), (3, B false), (4, I i.1)]) (fun i => [(1, .box 0 [I p])]) (fun i => (65523 - i.1).toNat) [] ⟨2, by omega, by omega, fun e h1 h2 => by omega⟩ ?_ ?_
  · (simp only [GeS]; refine ⟨?_, ?_, ?_, ?_⟩; all_goals (repeat' (first | trivial | (with_reducible rfl) | simp only [CC, LL, EE, QQ, seval] | (with_reducible apply And.intro) | rfl | (refine ⟨_, rfl, ?_⟩) | (simp; done) | omega)))
  · rintro ⟨d, hd, hd2, hn⟩
    have hb := sq_le (show (0 : Int) ≤ d by omega) hd2
    have hb2 := sq_ge (show (0 : Int) ≤ d by omega)
    repeat' (first | simp (maxSteps := 9999999) only [↓GE, PL, PP, EE, QQ, seval] | (simp (disch := omega) only [IntWalk.i64_in]) | (refine go_brD (fun h => ?_) (fun h => ?_)) | (refine go_gsD (by ((try simp only [EE, QQ, seval]) <;> rfl)) (fun h => ?_) (fun h => ?_)) | (refine go_br (fun h => ?_) (fun h => ?_)) | (refine go_gs (by ((try simp only [EE, QQ, seval]) <;> rfl)) (fun h => ?_) (fun h => ?_)) | (with_reducible apply And.intro) | (with_reducible exact trivial) | omega | (simp only [List.length_map, List.length_cons, List.length_nil] at *; omega) | (show _ = true; first | rfl | kernel_rfl))
    · rename_i h
      have hf : fieldB p = false := fieldB_no fun hh => hh.2.2 d hd (by assumption) (by simpa using h)
      ((first | apply ret_mk [] | apply end_mk []); (· ((try simp only [CC, LL, EE, QQ, seval]) <;> rfl)); (· ((try simp only [CC, LL, EE, QQ, seval]) <;> repeat' (first | (with_reducible apply And.intro) | rfl | trivial | (exact ⟨_, rfl⟩) | (exact ⟨_, _, _, rfl⟩) | (simp [*, hf]; done) | (simp [*, hf]; omega) | (simp_all [hf]; done) | (simp_all [hf]; omega)))); all_goals (first | trivial | decide | ((try simp only [CC, LL, EE, QQ, seval]) <;> repeat' (first | (with_reducible apply And.intro) | (exact ⟨_, rfl, rfl, rfl⟩) | (exact ⟨_, _, _, rfl⟩) | (exact ⟨_, rfl⟩) | trivial | rfl | (simp; done)))))
    · rename_i h
      refine ⟨⟨d + 1, by omega, by omega, fun e h1 h2 => ?_⟩, ?_, by simp only; omega⟩
      · by_cases he : e = d
        · subst he; simpa using h
        · exact hn e h1 (by omega)
      · (simp only [GeS]; refine ⟨?_, ?_, ?_, ?_⟩; all_goals (repeat' (first | trivial | (with_reducible rfl) | simp only [CC, LL, EE, QQ, seval] | (with_reducible apply And.intro) | rfl | (refine ⟨_, rfl, ?_⟩) | (simp; done) | omega)))
    · have hf : fieldB p = true := no_more hd (by omega) (by omega) hn (by assumption)
      ((first | apply ret_mk [] | apply end_mk []); (· ((try simp only [CC, LL, EE, QQ, seval]) <;> rfl)); (· ((try simp only [CC, LL, EE, QQ, seval]) <;> repeat' (first | (with_reducible apply And.intro) | rfl | trivial | (exact ⟨_, rfl⟩) | (exact ⟨_, _, _, rfl⟩) | (simp [*, hf]; done) | (simp [*, hf]; omega) | (simp_all [hf]; done) | (simp_all [hf]; omega)))); all_goals (first | trivial | decide | ((try simp only [CC, LL, EE, QQ, seval]) <;> repeat' (first | (with_reducible apply And.intro) | (exact ⟨_, rfl, rfl, rfl⟩) | (exact ⟨_, _, _, rfl⟩) | (exact ⟨_, rfl⟩) | trivial | rfl | (simp; done)))))
/-- An element of the field. -/
def inE (p x : Int) : Bool := decide (0 ≤ x) && decide (x < p)
theorem has (p x : Int) : Does Try.prog 98 [I p, I x] [] (B (inE p x)) [] [] := by
  refine go_residue_Field_Has rfl BxOK.nil fun cx hm0 => go_in 5000 ?_
  unfold ac_residue_Field_Has rs_residue_Field_Has
  repeat' (first | simp (maxSteps := 9999999) only [↓GE, PL, PP, EE, QQ, seval] | (simp (disch := omega) only [IntWalk.i64_in]) | (refine go_brD (fun h => ?_) (fun h => ?_)) | (refine go_gsD (by ((try simp only [EE, QQ, seval]) <;> rfl)) (fun h => ?_) (fun h => ?_)) | (refine go_br (fun h => ?_) (fun h => ?_)) | (refine go_gs (by ((try simp only [EE, QQ, seval]) <;> rfl)) (fun h => ?_) (fun h => ?_)) | (with_reducible apply And.intro) | (with_reducible exact trivial) | omega | (simp only [List.length_map, List.length_cons, List.length_nil] at *; omega) | (show _ = true; first | rfl | kernel_rfl))
  all_goals ((first | apply ret_mk [] | apply end_mk []); (· ((try simp only [CC, LL, EE, QQ, seval]) <;> rfl)); (· ((try simp only [CC, LL, EE, QQ, seval]) <;> repeat' (first | (with_reducible apply And.intro) | rfl | trivial | (exact ⟨_, rfl⟩) | (exact ⟨_, _, _, rfl⟩) | (simp [*, inE]; done) | (simp [*, inE]; omega) | (simp_all [inE]; done) | (simp_all [inE]; omega)))); all_goals (first | trivial | decide | ((try simp only [CC, LL, EE, QQ, seval]) <;> repeat' (first | (with_reducible apply And.intro) | (exact ⟨_, rfl, rfl, rfl⟩) | (exact ⟨_, _, _, rfl⟩) | (exact ⟨_, rfl⟩) | trivial | rfl | (simp; done)))))
theorem all1 (p x : Int) : Does Try.prog 113 [I x, .bp 900000 0 0] [(900000, .box 0 [I p])] (B (!inE p x)) [(900000, .box 0 [I p])] [] := by
  refine go_residue_Field_All_1 rfl BxOK.one fun cx hm0 => go_in 5000 ?_
  unfold ac_residue_Field_All_1 rs_residue_Field_All_1
  repeat' (first | simp (maxSteps := 9999999) only [↓GE, PL, PP, EE, QQ, seval] | (simp (disch := omega) only [IntWalk.i64_in]) | (refine go_brD (fun h => ?_) (fun h => ?_)) | (refine go_gsD (by ((try simp only [EE, QQ, seval]) <;> rfl)) (fun h => ?_) (fun h => ?_)) | (refine go_br (fun h => ?_) (fun h => ?_)) | (refine go_gs (by ((try simp only [EE, QQ, seval]) <;> rfl)) (fun h => ?_) (fun h => ?_)) | (apply go_call 5000 (has _ _) rfl rfl; (· ((try simp only [CC, LL, NM, EE, QQ, seval]) <;> (first | rfl | ((repeat constructor); done)))); (· exact CallForm.plain rfl); (· ((try simp only [CC, LL, NM, EE, QQ, seval]) <;> (first | rfl | ((repeat constructor); done)))); (· ((try simp only [CC, LL, NM, EE, QQ, seval]) <;> (first | rfl | ((repeat constructor); done))))) | (with_reducible apply And.intro) | (with_reducible exact trivial) | omega | (simp only [List.length_map, List.length_cons, List.length_nil] at *; omega) | (show _ = true; first | rfl | kernel_rfl))
  all_goals ((first | apply ret_mk [] | apply end_mk []); (· ((try simp only [CC, LL, EE, QQ, seval]) <;> rfl)); (· ((try simp only [CC, LL, EE, QQ, seval]) <;> repeat' (first | (with_reducible apply And.intro) | rfl | trivial | (exact ⟨_, rfl⟩) | (exact ⟨_, _, _, rfl⟩) | (simp [*, inE]; done) | (simp [*, inE]; omega) | (simp_all [inE]; done) | (simp_all [inE]; omega)))); all_goals (first | trivial | decide | ((try simp only [CC, LL, EE, QQ, seval]) <;> repeat' (first | (with_reducible apply And.intro) | (exact ⟨_, rfl, rfl, rfl⟩) | (exact ⟨_, _, _, rfl⟩) | (exact ⟨_, rfl⟩) | trivial | rfl | (simp; done)))))
def ixF (p : Int) : Nat → List Int → Int
  | _, [] => -1
  | k, x :: r => if inE p x = true then ixF p (k + 1) r else k
theorem ixF_neg (p : Int) : ∀ (l : List Int) (k : Nat), (ixF p k l ≥ 0 ↔ l.all (inE p) = false)
  | [], k => by simp [ixF]
  | x :: r, k => by
    by_cases h : inE p x = true
    · simpa [ixF, h] using ixF_neg p r (k + 1)
    · simp [ixF, h]
theorem indexF (p : Int) (l : List Int) (hl : l.length ≤ 17592186044416) : Does Try.prog 121 [.d (dInts l), .cl 113 [.bp 900000 0 0]] [(900000, .box 0 [I p])] (I (ixF p 0 l)) [(900000, .box 0 [I p])] [] := by
  refine go_slices_IndexFunc_int_int rfl BxOK.one fun cx hm0 => go_in 5000 ?_
  unfold ac_slices_IndexFunc_int_int rs_slices_IndexFunc_int_int
  repeat' (first | simp (maxSteps := 9999999) only [↓GE, PL, PP, EE, QQ, seval] | (simp (disch := omega) only [IntWalk.i64_in]) | (refine go_brD (fun h => ?_) (fun h => ?_)) | (refine go_gsD (by ((try simp only [EE, QQ, seval]) <;> rfl)) (fun h => ?_) (fun h => ?_)) | (refine go_br (fun h => ?_) (fun h => ?_)) | (refine go_gs (by ((try simp only [EE, QQ, seval]) <;> rfl)) (fun h => ?_) (fun h => ?_)) | (with_reducible apply And.intro) | (with_reducible exact trivial) | omega | (simp only [List.length_map, List.length_cons, List.length_nil] at *; omega) | (show _ = true; first | rfl | kernel_rfl))
  refine go_loop 5000 hm0 (ι := {k : Nat // k ≤ l.length ∧ ixF p 0 l = ixF p k (l.drop k)}) (fun i => [(0, .d (dInts l)), (1, .cl 113 [.bp 900000 0 0]), (4, I 0), (7, I l.length), (8, I i.1)]) (fun i => [(900000, .box 0 [I p])]) (fun i => l.length - i.1) [] ⟨0, by simp⟩ ?_ ?_
  · (simp only [GeS]; refine ⟨?_, ?_, ?_, ?_⟩; all_goals (repeat' (first | trivial | (with_reducible rfl) | simp only [CC, LL, EE, QQ, seval] | (with_reducible apply And.intro) | rfl | (refine ⟨_, rfl, ?_⟩) | (simp; done) | omega)))
  · rintro ⟨k, hk, hv⟩
    by_cases hkl : k < l.length
    · have hs := getD_map eI [] 0 l k hkl
      rw [drop_get 0 _ _ hkl] at hv
      generalize l.getD k 0 = s at hs hv
      simp only [ixF] at hv
      repeat' (first | simp (maxSteps := 9999999) only [↓GE, PL, PP, EE, QQ, seval, hs, eI] | (simp (disch := omega) only [IntWalk.i64_in]) | (refine go_brD (fun h => ?_) (fun h => ?_)) | (refine go_gsD (by ((try simp only [EE, QQ, seval]) <;> rfl)) (fun h => ?_) (fun h => ?_)) | (refine go_br (fun h => ?_) (fun h => ?_)) | (refine go_gs (by ((try simp only [EE, QQ, seval]) <;> rfl)) (fun h => ?_) (fun h => ?_)) | (apply go_callv 5000 (all1 p s) rfl (by kernel_rfl) rfl; (· ((try simp only [CC, LL, NM, EE, QQ, seval]) <;> (first | rfl | ((repeat constructor); done)))); (· exact CallForm.lent (by (try simp only [CC, LL, NM, EE, QQ, seval]); repeat' (first | trivial | (with_reducible rfl) | omega | (with_reducible apply And.intro) | rfl)) rfl rfl); (· ((try simp only [CC, LL, NM, EE, QQ, seval]) <;> (first | rfl | ((repeat constructor); done)))); (· ((try simp only [CC, LL, NM, EE, QQ, seval]) <;> (first | rfl | ((repeat constructor); done))))) | (with_reducible apply And.intro) | (with_reducible exact trivial) | omega | (simp only [List.length_map, List.length_cons, List.length_nil] at *; omega) | (show _ = true; first | rfl | kernel_rfl))
      · rw [if_neg (by simp_all)] at hv
        ((first | apply ret_mk [] | apply end_mk []); (· ((try simp only [CC, LL, EE, QQ, seval]) <;> rfl)); (· ((try simp only [CC, LL, EE, QQ, seval]) <;> repeat' (first | (with_reducible apply And.intro) | rfl | trivial | (exact ⟨_, rfl⟩) | (exact ⟨_, _, _, rfl⟩) | (simp [*, hv]; done) | (simp [*, hv]; omega) | (simp_all [hv]; done) | (simp_all [hv]; omega)))); all_goals (first | trivial | decide | ((try simp only [CC, LL, EE, QQ, seval]) <;> repeat' (first | (with_reducible apply And.intro) | (exact ⟨_, rfl, rfl, rfl⟩) | (exact ⟨_, _, _, rfl⟩) | (exact ⟨_, rfl⟩) | trivial | rfl | (simp; done)))))
      · rw [if_pos (by simp_all)] at hv
        refine ⟨⟨k + 1, hkl, hv⟩, ?_, by simp only; omega⟩
        (simp only [GeS]; refine ⟨?_, ?_, ?_, ?_⟩; all_goals (repeat' (first | trivial | (with_reducible rfl) | simp only [CC, LL, EE, QQ, seval] | (with_reducible apply And.intro) | rfl | (refine ⟨_, rfl, ?_⟩) | (simp; done) | omega)))
    · have : k = l.length := by omega
      subst this
      simp only [List.drop_length, ixF] at hv
      repeat' (first | simp (maxSteps := 9999999) only [↓GE, PL, PP, EE, QQ, seval] | (simp (disch := omega) only [IntWalk.i64_in]) | (refine go_brD (fun h => ?_) (fun h => ?_)) | (refine go_gsD (by ((try simp only [EE, QQ, seval]) <;> rfl)) (fun h => ?_) (fun h => ?_)) | (refine go_br (fun h => ?_) (fun h => ?_)) | (refine go_gs (by ((try simp only [EE, QQ, seval]) <;> rfl)) (fun h => ?_) (fun h => ?_)) | (with_reducible apply And.intro) | (with_reducible exact trivial) | omega | (simp only [List.length_map, List.length_cons, List.length_nil] at *; omega) | (show _ = true; first | rfl | kernel_rfl))
      all_goals ((first | apply ret_mk [] | apply end_mk []); (· ((try simp only [CC, LL, EE, QQ, seval]) <;> rfl)); (· ((try simp only [CC, LL, EE, QQ, seval]) <;> repeat' (first | (with_reducible apply And.intro) | rfl | trivial | (exact ⟨_, rfl⟩) | (exact ⟨_, _, _, rfl⟩) | (simp [*, hv]; done) | (simp [*, hv]; omega) | (simp_all [hv]; done) | (simp_all [hv]; omega)))); all_goals (first | trivial | decide | ((try simp only [CC, LL, EE, QQ, seval]) <;> repeat' (first | (with_reducible apply And.intro) | (exact ⟨_, rfl, rfl, rfl⟩) | (exact ⟨_, _, _, rfl⟩) | (exact ⟨_, rfl⟩) | trivial | rfl | (simp; done)))))
theorem containsF (p : Int) (l : List Int) (hl : l.length ≤ 17592186044416) : Does Try.prog 112 [.d (dInts l), .cl 113 [.bp 900000 0 0]] [(900000, .box 0 [I p])] (B (!l.all (inE p))) [(900000, .box 0 [I p])] [] := by
  refine go_slices_ContainsFunc_int_int rfl BxOK.one fun cx hm0 => go_in 5000 ?_
  unfold ac_slices_ContainsFunc_int_int rs_slices_ContainsFunc_int_int
  repeat' (first | simp (maxSteps := 9999999) only [↓GE, PL, PP, EE, QQ, seval] | (simp (disch := omega) only [IntWalk.i64_in]) | (refine go_brD (fun h => ?_) (fun h => ?_)) | (refine go_gsD (by ((try simp only [EE, QQ, seval]) <;> rfl)) (fun h => ?_) (fun h => ?_)) | (refine go_br (fun h => ?_) (fun h => ?_)) | (refine go_gs (by ((try simp only [EE, QQ, seval]) <;> rfl)) (fun h => ?_) (fun h => ?_)) | (apply go_call 5000 (indexF p l hl) rfl rfl; (· ((try simp only [CC, LL, NM, EE, QQ, seval]) <;> (first | rfl | ((repeat constructor); done)))); (· exact CallForm.lent (by (try simp only [CC, LL, NM, EE, QQ, seval]); repeat' (first | trivial | (with_reducible rfl) | omega | (with_reducible apply And.intro) | rfl)) rfl rfl); (· ((try simp only [CC, LL, NM, EE, QQ, seval]) <;> (first | rfl | ((repeat constructor); done)))); (· ((try simp only [CC, LL, NM, EE, QQ, seval]) <;> (first | rfl | ((repeat constructor); done))))) | (with_reducible apply And.intro) | (with_reducible exact trivial) | omega | (simp only [List.length_map, List.length_cons, List.length_nil] at *; omega) | (show _ = true; first | rfl | kernel_rfl))
  have h : decide (ixF p 0 l ≥ 0) = !l.all (inE p) := by have := ixF_neg p l 0; cases hb : l.all (inE p) <;> simp_all
  ((first | apply ret_mk [] | apply end_mk []); (· ((try simp only [CC, LL, EE, QQ, seval]) <;> rfl)); (· ((try simp only [CC, LL, EE, QQ, seval]) <;> repeat' (first | (with_reducible apply And.intro) | rfl | trivial | (exact ⟨_, rfl⟩) | (exact ⟨_, _, _, rfl⟩) | (simp [*, h]; done) | (simp [*, h]; omega) | (simp_all [h]; done) | (simp_all [h]; omega)))); all_goals (first | trivial | decide | ((try simp only [CC, LL, EE, QQ, seval]) <;> repeat' (first | (with_reducible apply And.intro) | (exact ⟨_, rfl, rfl, rfl⟩) | (exact ⟨_, _, _, rfl⟩) | (exact ⟨_, rfl⟩) | trivial | rfl | (simp; done)))))
theorem allF (p : Int) (l : List Int) (hl : l.length ≤ 17592186044416) : Does Try.prog 95 [I p, .d (dInts l)] [] (B (l.all (inE p))) [] [] := by
  refine go_residue_Field_All rfl BxOK.nil fun cx hm0 => go_in 5000 ?_
  unfold ac_residue_Field_All rs_residue_Field_All
  repeat' (first | simp (maxSteps := 9999999) only [↓GE, PL, PP, EE, QQ, seval] | (simp (disch := omega) only [IntWalk.i64_in]) | (refine go_brD (fun h => ?_) (fun h => ?_)) | (refine go_gsD (by ((try simp only [EE, QQ, seval]) <;> rfl)) (fun h => ?_) (fun h => ?_)) | (refine go_br (fun h => ?_) (fun h => ?_)) | (refine go_gs (by ((try simp only [EE, QQ, seval]) <;> rfl)) (fun h => ?_) (fun h => ?_)) | (apply go_call 5000 ((containsF p l hl).nm1 2 0 (by decide) rfl rfl rfl rfl rfl) rfl rfl; (· ((try simp only [CC, LL, NM, EE, QQ, seval]) <;> (first | rfl | ((repeat constructor); done)))); (· exact CallForm.lent (by (try simp only [CC, LL, NM, EE, QQ, seval]); repeat' (first | trivial | (with_reducible rfl) | omega | (with_reducible apply And.intro) | rfl)) rfl rfl); (· ((try simp only [CC, LL, NM, EE, QQ, seval]) <;> (first | rfl | ((repeat constructor); done)))); (· ((try simp only [CC, LL, NM, EE, QQ, seval]) <;> (first | rfl | ((repeat constructor); done))))) | (with_reducible apply And.intro) | (with_reducible exact trivial) | omega | (simp only [List.length_map, List.length_cons, List.length_nil] at *; omega) | (show _ = true; first | rfl | kernel_rfl))
  ((first | apply ret_mk [] | apply end_mk []); (· ((try simp only [CC, LL, EE, QQ, seval]) <;> rfl)); (· ((try simp only [CC, LL, EE, QQ, seval]) <;> repeat' (first | (with_reducible apply And.intro) | rfl | trivial | (exact ⟨_, rfl⟩) | (exact ⟨_, _, _, rfl⟩) | (simp [*, ]; done) | (simp [*, ]; omega) | (simp_all []; done) | (simp_all []; omega)))); all_goals (first | trivial | decide | ((try simp only [CC, LL, EE, QQ, seval]) <;> repeat' (first | (with_reducible apply And.intro) | (exact ⟨_, rfl, rfl, rfl⟩) | (exact ⟨_, _, _, rfl⟩) | (exact ⟨_, rfl⟩) | trivial | rfl | (simp; done)))))
theorem r3check (p : Int) : Does Try.prog 66 [.ag [I p]] [] (I (if fieldB p = true then 0 else 9)) [] [] := by
  refine go_ref03_Check rfl BxOK.nil fun cx hm0 => go_in 5000 ?_
  unfold ac_ref03_Check rs_ref03_Check
  repeat' (first | simp (maxSteps := 9999999) only [↓GE, PL, PP, EE, QQ, seval] | (simp (disch := omega) only [IntWalk.i64_in]) | (refine go_brD (fun h => ?_) (fun h => ?_)) | (refine go_gsD (by ((try simp only [EE, QQ, seval]) <;> rfl)) (fun h => ?_) (fun h => ?_)) | (refine go_br (fun h => ?_) (fun h => ?_)) | (refine go_gs (by ((try simp only [EE, QQ, seval]) <;> rfl)) (fun h => ?_) (fun h => ?_)) | (with_reducible apply And.intro) | (with_reducible exact trivial) | omega | (simp only [List.length_map, List.length_cons, List.length_nil] at *; omega) | (show _ = true; first | rfl | kernel_rfl))
  · have hf : fieldB p = false := fieldB_no (by omega)
    ((first | apply ret_mk [] | apply end_mk []); (· ((try simp only [CC, LL, EE, QQ, seval]) <;> rfl)); (· ((try simp only [CC, LL, EE, QQ, seval]) <;> repeat' (first | (with_reducible apply And.intro) | rfl | trivial | (exact ⟨_, rfl⟩) | (exact ⟨_, _, _, rfl⟩) | (simp [*, hf]; done) | (simp [*, hf]; omega) | (simp_all [hf]; done) | (simp_all [hf]; omega)))); all_goals (first | trivial | decide | ((try simp only [CC, LL, EE, QQ, seval]) <;> repeat' (first | (with_reducible apply And.intro) | (exact ⟨_, rfl, rfl, rfl⟩) | (exact ⟨_, _, _, rfl⟩) | (exact ⟨_, rfl⟩) | trivial | rfl | (simp; done)))))
  · have hf : fieldB p = false := fieldB_no (by omega)
    ((first | apply ret_mk [] | apply end_mk []); (· ((try simp only [CC, LL, EE, QQ, seval]) <;> rfl)); (· ((try simp only [CC, LL, EE, QQ, seval]) <;> repeat' (first | (with_reducible apply And.intro) | rfl | trivial | (exact ⟨_, rfl⟩) | (exact ⟨_, _, _, rfl⟩) | (simp [*, hf]; done) | (simp [*, hf]; omega) | (simp_all [hf]; done) | (simp_all [hf]; omega)))); all_goals (first | trivial | decide | ((try simp only [CC, LL, EE, QQ, seval]) <;> repeat' (first | (with_reducible apply And.intro) | (exact ⟨_, rfl, rfl, rfl⟩) | (exact ⟨_, _, _, rfl⟩) | (exact ⟨_, rfl⟩) | trivial | rfl | (simp; done)))))
  refine go_loop 5000 hm0 (ι := {d : Int // 2 ≤ d ∧ d ≤ 65522 ∧ ∀ e : Int, 2 ≤ e → e < d → p.tmod e ≠ 0}) (fun i => [(1, .bp 1 0 0), (2, I 0), (3, I i.1)]) (fun i => [(1, .box 0 [I p])]) (fun i => (65523 - i.1).toNat) [] ⟨2, by omega, by omega, fun e h1 h2 => by omega⟩ ?_ ?_
  · (simp only [GeS]; refine ⟨?_, ?_, ?_, ?_⟩; all_goals (repeat' (first | trivial | (with_reducible rfl) | simp only [CC, LL, EE, QQ, seval] | (with_reducible apply And.intro) | rfl | (refine ⟨_, rfl, ?_⟩) | (simp; done) | omega)))
  · rintro ⟨d, hd, hd2, hn⟩
    have hb := sq_le (show (0 : Int) ≤ d by omega) hd2
    have hb2 := sq_ge (show (0 : Int) ≤ d by omega)
    repeat' (first | simp (maxSteps := 9999999) only [↓GE, PL, PP, EE, QQ, seval] | (simp (disch := omega) only [IntWalk.i64_in]) | (refine go_brD (fun h => ?_) (fun h => ?_)) | (refine go_gsD (by ((try simp only [EE, QQ, seval]) <;> rfl)) (fun h => ?_) (fun h => ?_)) | (refine go_br (fun h => ?_) (fun h => ?_)) | (refine go_gs (by ((try simp only [EE, QQ, seval]) <;> rfl)) (fun h => ?_) (fun h => ?_)) | (with_reducible apply And.intro) | (with_reducible exact trivial) | omega | (simp only [List.length_map, List.length_cons, List.length_nil] at *; omega) | (show _ = true; first | rfl | kernel_rfl))
    · rename_i h
      have hf : fieldB p = false := fieldB_no fun hh => hh.2.2 d hd (by assumption) (by simpa using h)
      ((first | apply ret_mk [] | apply end_mk []); (· ((try simp only [CC, LL, EE, QQ, seval]) <;> rfl)); (· ((try simp only [CC, LL, EE, QQ, seval]) <;> repeat' (first | (with_reducible apply And.intro) | rfl | trivial | (exact ⟨_, rfl⟩) | (exact ⟨_, _, _, rfl⟩) | (simp [*, hf]; done) | (simp [*, hf]; omega) | (simp_all [hf]; done) | (simp_all [hf]; omega)))); all_goals (first | trivial | decide | ((try simp only [CC, LL, EE, QQ, seval]) <;> repeat' (first | (with_reducible apply And.intro) | (exact ⟨_, rfl, rfl, rfl⟩) | (exact ⟨_, _, _, rfl⟩) | (exact ⟨_, rfl⟩) | trivial | rfl | (simp; done)))))
    · rename_i h
      refine ⟨⟨d + 1, by omega, by omega, fun e h1 h2 => ?_⟩, ?_, by simp only; omega⟩
      · by_cases he : e = d
        · subst he; simpa using h
        · exact hn e h1 (by omega)
      · (simp only [GeS]; refine ⟨?_, ?_, ?_, ?_⟩; all_goals (repeat' (first | trivial | (with_reducible rfl) | simp only [CC, LL, EE, QQ, seval] | (with_reducible apply And.intro) | rfl | (refine ⟨_, rfl, ?_⟩) | (simp; done) | omega)))
    · have hf : fieldB p = true := no_more hd (by omega) (by omega) hn (by assumption)
      ((first | apply ret_mk [] | apply end_mk []); (· ((try simp only [CC, LL, EE, QQ, seval]) <;> rfl)); (· ((try simp only [CC, LL, EE, QQ, seval]) <;> repeat' (first | (with_reducible apply And.intro) | rfl | trivial | (exact ⟨_, rfl⟩) | (exact ⟨_, _, _, rfl⟩) | (simp [*, hf]; done) | (simp [*, hf]; omega) | (simp_all [hf]; done) | (simp_all [hf]; omega)))); all_goals (first | trivial | decide | ((try simp only [CC, LL, EE, QQ, seval]) <;> repeat' (first | (with_reducible apply And.intro) | (exact ⟨_, rfl, rfl, rfl⟩) | (exact ⟨_, _, _, rfl⟩) | (exact ⟨_, rfl⟩) | trivial | rfl | (simp; done)))))
theorem r3in (p : Int) (l : List Int) (hl : l.length ≤ 17592186044416) : Does Try.prog 67 [.ag [I p], .d (dInts l)] [] (B (fieldB p && l.all (inE p))) [] [] := by
  refine go_ref03_In rfl BxOK.nil fun cx hm0 => go_in 5000 ?_
  unfold ac_ref03_In rs_ref03_In
  cases hf : fieldB p with
  | false =>
    repeat' (first | simp (maxSteps := 9999999) only [↓GE, PL, PP, EE, QQ, seval, hf] | (simp (disch := omega) only [IntWalk.i64_in]) | (refine go_brD (fun h => ?_) (fun h => ?_)) | (refine go_gsD (by ((try simp only [EE, QQ, seval]) <;> rfl)) (fun h => ?_) (fun h => ?_)) | (refine go_br (fun h => ?_) (fun h => ?_)) | (refine go_gs (by ((try simp only [EE, QQ, seval]) <;> rfl)) (fun h => ?_) (fun h => ?_)) | (apply go_call 5000 (r3check p) rfl rfl; (· ((try simp only [CC, LL, NM, EE, QQ, seval]) <;> (first | rfl | ((repeat constructor); done)))); (· exact CallForm.plain rfl); (· ((try simp only [CC, LL, NM, EE, QQ, seval]) <;> (first | rfl | ((repeat constructor); done)))); (· ((try simp only [CC, LL, NM, EE, QQ, seval]) <;> (first | rfl | ((repeat constructor); done))))) | (with_reducible apply And.intro) | (with_reducible exact trivial) | omega | (simp only [List.length_map, List.length_cons, List.length_nil] at *; omega) | (show _ = true; first | rfl | kernel_rfl))
    all_goals ((first | apply ret_mk [] | apply end_mk []); (· ((try simp only [CC, LL, EE, QQ, seval]) <;> rfl)); (· ((try simp only [CC, LL, EE, QQ, seval]) <;> repeat' (first | (with_reducible apply And.intro) | rfl | trivial | (exact ⟨_, rfl⟩) | (exact ⟨_, _, _, rfl⟩) | (simp [*, hf]; done) | (simp [*, hf]; omega) | (simp_all [hf]; done) | (simp_all [hf]; omega)))); all_goals (first | trivial | decide | ((try simp only [CC, LL, EE, QQ, seval]) <;> repeat' (first | (with_reducible apply And.intro) | (exact ⟨_, rfl, rfl, rfl⟩) | (exact ⟨_, _, _, rfl⟩) | (exact ⟨_, rfl⟩) | trivial | rfl | (simp; done)))))
  | true =>
    repeat' (first | simp (maxSteps := 9999999) only [↓GE, PL, PP, EE, QQ, seval, hf] | (simp (disch := omega) only [IntWalk.i64_in]) | (refine go_brD (fun h => ?_) (fun h => ?_)) | (refine go_gsD (by ((try simp only [EE, QQ, seval]) <;> rfl)) (fun h => ?_) (fun h => ?_)) | (refine go_br (fun h => ?_) (fun h => ?_)) | (refine go_gs (by ((try simp only [EE, QQ, seval]) <;> rfl)) (fun h => ?_) (fun h => ?_)) | (apply go_call 5000 (r3check p) rfl rfl; (· ((try simp only [CC, LL, NM, EE, QQ, seval]) <;> (first | rfl | ((repeat constructor); done)))); (· exact CallForm.plain rfl); (· ((try simp only [CC, LL, NM, EE, QQ, seval]) <;> (first | rfl | ((repeat constructor); done)))); (· ((try simp only [CC, LL, NM, EE, QQ, seval]) <;> (first | rfl | ((repeat constructor); done))))) | (with_reducible apply And.intro) | (with_reducible exact trivial) | omega | (simp only [List.length_map, List.length_cons, List.length_nil] at *; omega) | (show _ = true; first | rfl | kernel_rfl))
    refine go_loop 5000 hm0 (ι := {k : Nat // k ≤ l.length ∧ l.all (inE p) = (l.drop k).all (inE p)}) (fun i => [(2, .bp 2 0 0), (4, B false), (10, .d (dInts l)), (11, I l.length), (12, I i.1)]) (fun i => [(2, .box 0 [I p])]) (fun i => l.length - i.1) [] ⟨0, by simp⟩ ?_ ?_
    · (simp only [GeS]; refine ⟨?_, ?_, ?_, ?_⟩; all_goals (repeat' (first | trivial | (with_reducible rfl) | simp only [CC, LL, EE, QQ, seval] | (with_reducible apply And.intro) | rfl | (refine ⟨_, rfl, ?_⟩) | (simp; done) | omega)))
    · rintro ⟨k, hk, hv⟩
      by_cases hkl : k < l.length
      · have hs := getD_map eI [] 0 l k hkl
        rw [drop_get 0 _ _ hkl] at hv
        generalize l.getD k 0 = s at hs hv
        simp only [List.all_cons] at hv
        repeat' (first | simp (maxSteps := 9999999) only [↓GE, PL, PP, EE, QQ, seval, hs, eI] | (simp (disch := omega) only [IntWalk.i64_in]) | (refine go_brD (fun h => ?_) (fun h => ?_)) | (refine go_gsD (by ((try simp only [EE, QQ, seval]) <;> rfl)) (fun h => ?_) (fun h => ?_)) | (refine go_br (fun h => ?_) (fun h => ?_)) | (refine go_gs (by ((try simp only [EE, QQ, seval]) <;> rfl)) (fun h => ?_) (fun h => ?_)) | (with_reducible apply And.intro) | (with_reducible exact trivial) | omega | (simp only [List.length_map, List.length_cons, List.length_nil] at *; omega) | (show _ = true; first | rfl | kernel_rfl))
        any_goals ((first | apply ret_mk [] | apply end_mk []); (· ((try simp only [CC, LL, EE, QQ, seval]) <;> rfl)); (· ((try simp only [CC, LL, EE, QQ, seval]) <;> repeat' (first | (with_reducible apply And.intro) | rfl | trivial | (exact ⟨_, rfl⟩) | (exact ⟨_, _, _, rfl⟩) | (simp [*, hv, inE]; done) | (simp [*, hv, inE]; omega) | (simp_all [hv, inE]; done) | (simp_all [hv, inE]; omega)))); all_goals (first | trivial | decide | ((try simp only [CC, LL, EE, QQ, seval]) <;> repeat' (first | (with_reducible apply And.intro) | (exact ⟨_, rfl, rfl, rfl⟩) | (exact ⟨_, _, _, rfl⟩) | (exact ⟨_, rfl⟩) | trivial | rfl | (simp; done)))))
        refine ⟨⟨k + 1, hkl, ?_⟩, ?_, by simp only; omega⟩
        · rw [hv, show inE p s = true by simp only [inE, Bool.and_eq_true, decide_eq_true_eq]; omega, Bool.true_and]
        (simp only [GeS]; refine ⟨?_, ?_, ?_, ?_⟩; all_goals (repeat' (first | trivial | (with_reducible rfl) | simp only [CC, LL, EE, QQ, seval] | (with_reducible apply And.intro) | rfl | (refine ⟨_, rfl, ?_⟩) | (simp; done) | omega)))
      · have : k = l.length := by omega
        subst this
        simp only [List.drop_length, List.all_nil] at hv
        repeat' (first | simp (maxSteps := 9999999) only [↓GE, PL, PP, EE, QQ, seval] | (simp (disch := omega) only [IntWalk.i64_in]) | (refine go_brD (fun h => ?_) (fun h => ?_)) | (refine go_gsD (by ((try simp only [EE, QQ, seval]) <;> rfl)) (fun h => ?_) (fun h => ?_)) | (refine go_br (fun h => ?_) (fun h => ?_)) | (refine go_gs (by ((try simp only [EE, QQ, seval]) <;> rfl)) (fun h => ?_) (fun h => ?_)) | (with_reducible apply And.intro) | (with_reducible exact trivial) | omega | (simp only [List.length_map, List.length_cons, List.length_nil] at *; omega) | (show _ = true; first | rfl | kernel_rfl))
        all_goals ((first | apply ret_mk [] | apply end_mk []); (· ((try simp only [CC, LL, EE, QQ, seval]) <;> rfl)); (· ((try simp only [CC, LL, EE, QQ, seval]) <;> repeat' (first | (with_reducible apply And.intro) | rfl | trivial | (exact ⟨_, rfl⟩) | (exact ⟨_, _, _, rfl⟩) | (simp [*, hv]; done) | (simp [*, hv]; omega) | (simp_all [hv]; done) | (simp_all [hv]; omega)))); all_goals (first | trivial | decide | ((try simp only [CC, LL, EE, QQ, seval]) <;> repeat' (first | (with_reducible apply And.intro) | (exact ⟨_, rfl, rfl, rfl⟩) | (exact ⟨_, _, _, rfl⟩) | (exact ⟨_, rfl⟩) | trivial | rfl | (simp; done)))))
end Go.Proofs.Ytilkjcobkdjlkaa.Sim
end
section
namespace Go.Proofs.Ytilkjcobkdjlkaa.Sim
open Go
set_option maxRecDepth 100000
set_option linter.unusedVariables false
set_option linter.unusedSimpArgs false
attribute [local irreducible] Go Mean
def modP (x : Int) : Int := x % 2147483647
theorem tmod_pos {x k : Int} (h : 0 ≤ x) : x.tmod k = x % k := Int.tmod_eq_emod_of_nonneg h
theorem tmod_range (x : Int) : -2147483647 < x.tmod 2147483647 ∧ x.tmod 2147483647 < 2147483647 := by
  rcases Int.le_total 0 x with h | h
  · rw [tmod_pos h]; omega
  · have e := Int.neg_tmod (-x) 2147483647
    rw [Int.neg_neg, tmod_pos (x := -x) (by omega)] at e
    rw [e]; omega
theorem modP_plus (x : Int) : (x.tmod 2147483647 + 2147483647) % 2147483647 = modP x := by
  unfold modP
  rcases Int.le_total 0 x with h | h
  · rw [tmod_pos h]; omega
  · have e := Int.neg_tmod (-x) 2147483647
    rw [Int.neg_neg, tmod_pos (x := -x) (by omega)] at e
    rw [e]; omega
theorem r11mod (x : Int) : Does Try.prog 105 [I x] [] (I (modP x)) [] [] := by
  refine go_ref11_mod rfl BxOK.nil fun cx hm0 => go_in 5000 ?_
  unfold ac_ref11_mod rs_ref11_mod
  have h := tmod_range x
  repeat' (first | simp (maxSteps := 9999999) only [↓GE, PL, PP, EE, QQ, seval] | (simp (disch := omega) only [IntWalk.i64_in]) | (refine go_brD (fun h => ?_) (fun h => ?_)) | (refine go_gsD (by ((try simp only [EE, QQ, seval]) <;> rfl)) (fun h => ?_) (fun h => ?_)) | (refine go_br (fun h => ?_) (fun h => ?_)) | (refine go_gs (by ((try simp only [EE, QQ, seval]) <;> rfl)) (fun h => ?_) (fun h => ?_)) | (with_reducible apply And.intro) | (with_reducible exact trivial) | omega | (simp only [List.length_map, List.length_cons, List.length_nil] at *; omega) | (show _ = true; first | rfl | kernel_rfl))
  have h2 := modP_plus x
  rw [← tmod_pos (by omega)] at h2
  ((first | apply ret_mk [] | apply end_mk []); (· ((try simp only [CC, LL, EE, QQ, seval]) <;> rfl)); (· ((try simp only [CC, LL, EE, QQ, seval]) <;> repeat' (first | (with_reducible apply And.intro) | rfl | trivial | (exact ⟨_, rfl⟩) | (exact ⟨_, _, _, rfl⟩) | (simp [*, h2]; done) | (simp [*, h2]; omega) | (simp_all [h2]; done) | (simp_all [h2]; omega)))); all_goals (first | trivial | decide | ((try simp only [CC, LL, EE, QQ, seval]) <;> repeat' (first | (with_reducible apply And.intro) | (exact ⟨_, rfl, rfl, rfl⟩) | (exact ⟨_, _, _, rfl⟩) | (exact ⟨_, rfl⟩) | trivial | rfl | (simp; done)))))
def nodeF (a b : Int) : Int := (modP a * 1000003 + modP b + 3) % 2147483647
theorem modP_in (x : Int) : 0 ≤ modP x ∧ modP x < 2147483647 := by unfold modP; omega
theorem r11node (a b : Int) : Does Try.prog 118 [I a, I b] [] (I (nodeF a b)) [] [] := by
  refine go_ref11_Node rfl BxOK.nil fun cx hm0 => go_in 5000 ?_
  unfold ac_ref11_Node rs_ref11_Node
  have h := modP_in a
  have h' := modP_in b
  repeat' (first | simp (maxSteps := 9999999) only [↓GE, PL, PP, EE, QQ, seval] | (simp (disch := omega) only [IntWalk.i64_in]) | (refine go_brD (fun h => ?_) (fun h => ?_)) | (refine go_gsD (by ((try simp only [EE, QQ, seval]) <;> rfl)) (fun h => ?_) (fun h => ?_)) | (refine go_br (fun h => ?_) (fun h => ?_)) | (refine go_gs (by ((try simp only [EE, QQ, seval]) <;> rfl)) (fun h => ?_) (fun h => ?_)) | (apply go_call 5000 (r11mod _) rfl rfl; (· ((try simp only [CC, LL, NM, EE, QQ, seval]) <;> (first | rfl | ((repeat constructor); done)))); (· exact CallForm.plain rfl); (· ((try simp only [CC, LL, NM, EE, QQ, seval]) <;> (first | rfl | ((repeat constructor); done)))); (· ((try simp only [CC, LL, NM, EE, QQ, seval]) <;> (first | rfl | ((repeat constructor); done))))) | (with_reducible apply And.intro) | (with_reducible exact trivial) | omega | (simp only [List.length_map, List.length_cons, List.length_nil] at *; omega) | (show _ = true; first | rfl | kernel_rfl))
  have h2 : (modP a * 1000003 + modP b + 3).tmod 2147483647 = nodeF a b := tmod_pos (by omega)
  ((first | apply ret_mk [] | apply end_mk []); (· ((try simp only [CC, LL, EE, QQ, seval]) <;> rfl)); (· ((try simp only [CC, LL, EE, QQ, seval]) <;> repeat' (first | (with_reducible apply And.intro) | rfl | trivial | (exact ⟨_, rfl⟩) | (exact ⟨_, _, _, rfl⟩) | (simp [*, h2]; done) | (simp [*, h2]; omega) | (simp_all [h2]; done) | (simp_all [h2]; omega)))); all_goals (first | trivial | decide | ((try simp only [CC, LL, EE, QQ, seval]) <;> repeat' (first | (with_reducible apply And.intro) | (exact ⟨_, rfl, rfl, rfl⟩) | (exact ⟨_, _, _, rfl⟩) | (exact ⟨_, rfl⟩) | trivial | rfl | (simp; done)))))
def rowGo (d : Int) (l : List Int) : Int := l.foldl (fun d x => (d * 1000003 + modP x + 1) % 2147483647) d
def rowF (l : List Int) : Int := rowGo 2 l
theorem r11row (l : List Int) (hl : l.length ≤ 17592186044416) : Does Try.prog 84 [.d (dInts l)] [] (I (rowF l)) [] [] := by
  refine go_ref11_Row rfl BxOK.nil fun cx hm0 => go_in 5000 ?_
  unfold ac_ref11_Row rs_ref11_Row
  repeat' (first | simp (maxSteps := 9999999) only [↓GE, PL, PP, EE, QQ, seval] | (simp (disch := omega) only [IntWalk.i64_in]) | (refine go_brD (fun h => ?_) (fun h => ?_)) | (refine go_gsD (by ((try simp only [EE, QQ, seval]) <;> rfl)) (fun h => ?_) (fun h => ?_)) | (refine go_br (fun h => ?_) (fun h => ?_)) | (refine go_gs (by ((try simp only [EE, QQ, seval]) <;> rfl)) (fun h => ?_) (fun h => ?_)) | (with_reducible apply And.intro) | (with_reducible exact trivial) | omega | (simp only [List.length_map, List.length_cons, List.length_nil] at *; omega) | (show _ = true; first | rfl | kernel_rfl))
  refine go_loop 5000 hm0 (ι := {p : Nat × Int // p.1 ≤ l.length ∧ 0 ≤ p.2 ∧ p.2 < 2147483647 ∧ rowF l = rowGo p.2 (l.drop p.1)}) (fun i => [(2, I 0), (3, I i.1.2), (6, .d (dInts l)), (7, I l.length), (8, I i.1.1)]) (fun i => []) (fun i => l.length - i.1.1) [] ⟨(0, 2), by simp [rowF]⟩ ?_ ?_
  · (simp only [GeS]; refine ⟨?_, ?_, ?_, ?_⟩; all_goals (repeat' (first | trivial | (with_reducible rfl) | simp only [CC, LL, EE, QQ, seval] | (with_reducible apply And.intro) | rfl | (refine ⟨_, rfl, ?_⟩) | (simp; done) | omega)))
  · rintro ⟨⟨k, d⟩, hk, hd, hd2, hv⟩
    by_cases hkl : k < l.length
    · have hs := getD_map eI [] 0 l k hkl
      rw [drop_get 0 _ _ hkl] at hv
      generalize l.getD k 0 = s at hs hv
      simp only [rowGo, List.foldl_cons] at hv hd hd2
      have h' := modP_in s
      repeat' (first | simp (maxSteps := 9999999) only [↓GE, PL, PP, EE, QQ, seval, hs, eI] | (simp (disch := omega) only [IntWalk.i64_in]) | (refine go_brD (fun h => ?_) (fun h => ?_)) | (refine go_gsD (by ((try simp only [EE, QQ, seval]) <;> rfl)) (fun h => ?_) (fun h => ?_)) | (refine go_br (fun h => ?_) (fun h => ?_)) | (refine go_gs (by ((try simp only [EE, QQ, seval]) <;> rfl)) (fun h => ?_) (fun h => ?_)) | (apply go_call 5000 (r11mod s) rfl rfl; (· ((try simp only [CC, LL, NM, EE, QQ, seval]) <;> (first | rfl | ((repeat constructor); done)))); (· exact CallForm.plain rfl); (· ((try simp only [CC, LL, NM, EE, QQ, seval]) <;> (first | rfl | ((repeat constructor); done)))); (· ((try simp only [CC, LL, NM, EE, QQ, seval]) <;> (first | rfl | ((repeat constructor); done))))) | (with_reducible apply And.intro) | (with_reducible exact trivial) | omega | (simp only [List.length_map, List.length_cons, List.length_nil] at *; omega) | (show _ = true; first | rfl | kernel_rfl))
      rw [tmod_pos (by omega)]
      refine ⟨⟨(k + 1, (d * 1000003 + modP s + 1) % 2147483647), hkl, by omega, by omega, hv⟩, ?_, by simp only; omega⟩
      (simp only [GeS]; refine ⟨?_, ?_, ?_, ?_⟩; all_goals (repeat' (first | trivial | (with_reducible rfl) | simp only [CC, LL, EE, QQ, seval] | (with_reducible apply And.intro) | rfl | (refine ⟨_, rfl, ?_⟩) | (simp; done) | omega)))
    · have : k = l.length := by simp only at hk; omega
      subst this
      simp only [List.drop_length, rowGo, List.foldl_nil] at hv
      repeat' (first | simp (maxSteps := 9999999) only [↓GE, PL, PP, EE, QQ, seval] | (simp (disch := omega) only [IntWalk.i64_in]) | (refine go_brD (fun h => ?_) (fun h => ?_)) | (refine go_gsD (by ((try simp only [EE, QQ, seval]) <;> rfl)) (fun h => ?_) (fun h => ?_)) | (refine go_br (fun h => ?_) (fun h => ?_)) | (refine go_gs (by ((try simp only [EE, QQ, seval]) <;> rfl)) (fun h => ?_) (fun h => ?_)) | (with_reducible apply And.intro) | (with_reducible exact trivial) | omega | (simp only [List.length_map, List.length_cons, List.length_nil] at *; omega) | (show _ = true; first | rfl | kernel_rfl))
      all_goals ((first | apply ret_mk [] | apply end_mk []); (· ((try simp only [CC, LL, EE, QQ, seval]) <;> rfl)); (· ((try simp only [CC, LL, EE, QQ, seval]) <;> repeat' (first | (with_reducible apply And.intro) | rfl | trivial | (exact ⟨_, rfl⟩) | (exact ⟨_, _, _, rfl⟩) | (simp [*, hv]; done) | (simp [*, hv]; omega) | (simp_all [hv]; done) | (simp_all [hv]; omega)))); all_goals (first | trivial | decide | ((try simp only [CC, LL, EE, QQ, seval]) <;> repeat' (first | (with_reducible apply And.intro) | (exact ⟨_, rfl, rfl, rfl⟩) | (exact ⟨_, _, _, rfl⟩) | (exact ⟨_, rfl⟩) | trivial | rfl | (simp; done)))))
def modF (a k : Int) : Int := (a.tmod k + k).tmod k
/-- Equal lists. -/
theorem eq_iff_get {α : Type} (z : α) (a b : List α) (h : a.length = b.length) : a = b ↔ ∀ k, k < a.length → a.getD k z = b.getD k z := by
  constructor
  · rintro rfl _ _; rfl
  · intro hk
    apply List.ext_getElem h
    intro i h1 h2
    have := hk i h1
    simpa [List.getD_eq_getElem?_getD, h1, h2] using this
def eR (r : List Int) : List D := [dInts r]
abbrev dRows (l : List (List Int)) : D := .sl 1 (l.map eR)
instance instSet : DecidableEq PSet := fun a b => decidable_of_iff (a.idx = b.idx ∧ a.row = b.row) (by cases a; cases b; simp)
theorem equalI (a b : List Int) (ha : a.length ≤ 17592186044416) (hb : b.length ≤ 17592186044416) : Does Try.prog 91 [.d (dInts a), .d (dInts b)] [] (B (decide (a = b))) [] [] := by
  refine go_slices_Equal_int_int rfl BxOK.nil fun cx hm0 => go_in 5000 ?_
  unfold ac_slices_Equal_int_int rs_slices_Equal_int_int
  repeat' (first | simp (maxSteps := 9999999) only [↓GE, PL, PP, EE, QQ, seval, List.length_map] | (simp (disch := omega) only [IntWalk.i64_in]) | (refine go_brD (fun h => ?_) (fun h => ?_)) | (refine go_gsD (by ((try simp only [EE, QQ, seval]) <;> rfl)) (fun h => ?_) (fun h => ?_)) | (refine go_br (fun h => ?_) (fun h => ?_)) | (refine go_gs (by ((try simp only [EE, QQ, seval]) <;> rfl)) (fun h => ?_) (fun h => ?_)) | (with_reducible apply And.intro) | (with_reducible exact trivial) | omega | (simp only [List.length_map, List.length_cons, List.length_nil] at *; omega) | (show _ = true; first | rfl | kernel_rfl))
  · have hv : decide (a = b) = false := decide_eq_false fun e => by subst e; simp at h
    ((first | apply ret_mk [] | apply end_mk []); (· ((try simp only [CC, LL, EE, QQ, seval]) <;> rfl)); (· ((try simp only [CC, LL, EE, QQ, seval]) <;> repeat' (first | (with_reducible apply And.intro) | rfl | trivial | (exact ⟨_, rfl⟩) | (exact ⟨_, _, _, rfl⟩) | (simp [*, hv]; done) | (simp [*, hv]; omega) | (simp_all [hv]; done) | (simp_all [hv]; omega)))); all_goals (first | trivial | decide | ((try simp only [CC, LL, EE, QQ, seval]) <;> repeat' (first | (with_reducible apply And.intro) | (exact ⟨_, rfl, rfl, rfl⟩) | (exact ⟨_, _, _, rfl⟩) | (exact ⟨_, rfl⟩) | trivial | rfl | (simp; done)))))
  have hl : a.length = b.length := by simp at h; omega
  refine go_loop 5000 hm0 (ι := {k : Nat // k ≤ a.length ∧ ∀ j, j < k → a.getD j 0 = b.getD j 0}) (fun i => [(0, .d (dInts a)), (1, .d (dInts b)), (4, B false), (12, I a.length), (13, I i.1)]) (fun i => []) (fun i => a.length - i.1) [] ⟨0, by omega, fun j h => by omega⟩ ?_ ?_
  · (simp only [GeS]; refine ⟨?_, ?_, ?_, ?_⟩; all_goals (repeat' (first | trivial | (with_reducible rfl) | simp only [CC, LL, EE, QQ, seval] | (with_reducible apply And.intro) | rfl | (refine ⟨_, rfl, ?_⟩) | (simp; done) | omega)))
  · rintro ⟨k, hk, hv⟩
    by_cases hkl : k < a.length
    · have hs := getD_map eI [] 0 a k hkl
      have hs' := getD_map eI [] 0 b k (by omega)
      repeat' (first | simp (maxSteps := 9999999) only [↓GE, PL, PP, EE, QQ, seval, hs, hs', eI] | (simp (disch := omega) only [IntWalk.i64_in]) | (refine go_brD (fun h => ?_) (fun h => ?_)) | (refine go_gsD (by ((try simp only [EE, QQ, seval]) <;> rfl)) (fun h => ?_) (fun h => ?_)) | (refine go_br (fun h => ?_) (fun h => ?_)) | (refine go_gs (by ((try simp only [EE, QQ, seval]) <;> rfl)) (fun h => ?_) (fun h => ?_)) | (with_reducible apply And.intro) | (with_reducible exact trivial) | omega | (simp only [List.length_map, List.length_cons, List.length_nil] at *; omega) | (show _ = true; first | rfl | kernel_rfl))
      · have hv' : decide (a = b) = false := decide_eq_false fun e => by subst e; simp at h
        ((first | apply ret_mk [] | apply end_mk []); (· ((try simp only [CC, LL, EE, QQ, seval]) <;> rfl)); (· ((try simp only [CC, LL, EE, QQ, seval]) <;> repeat' (first | (with_reducible apply And.intro) | rfl | trivial | (exact ⟨_, rfl⟩) | (exact ⟨_, _, _, rfl⟩) | (simp [*, hv']; done) | (simp [*, hv']; omega) | (simp_all [hv']; done) | (simp_all [hv']; omega)))); all_goals (first | trivial | decide | ((try simp only [CC, LL, EE, QQ, seval]) <;> repeat' (first | (with_reducible apply And.intro) | (exact ⟨_, rfl, rfl, rfl⟩) | (exact ⟨_, _, _, rfl⟩) | (exact ⟨_, rfl⟩) | trivial | rfl | (simp; done)))))
      · refine ⟨⟨k + 1, hkl, fun j hj => ?_⟩, ?_, by simp only; omega⟩
        · by_cases e : j = k
          · subst e; simpa using h
          · exact hv j (by omega)
        (simp only [GeS]; refine ⟨?_, ?_, ?_, ?_⟩; all_goals (repeat' (first | trivial | (with_reducible rfl) | simp only [CC, LL, EE, QQ, seval] | (with_reducible apply And.intro) | rfl | (refine ⟨_, rfl, ?_⟩) | (simp; done) | omega)))
    · have : k = a.length := by omega
      subst this
      have hv' : decide (a = b) = true := decide_eq_true ((eq_iff_get 0 a b hl).2 hv)
      repeat' (first | simp (maxSteps := 9999999) only [↓GE, PL, PP, EE, QQ, seval] | (simp (disch := omega) only [IntWalk.i64_in]) | (refine go_brD (fun h => ?_) (fun h => ?_)) | (refine go_gsD (by ((try simp only [EE, QQ, seval]) <;> rfl)) (fun h => ?_) (fun h => ?_)) | (refine go_br (fun h => ?_) (fun h => ?_)) | (refine go_gs (by ((try simp only [EE, QQ, seval]) <;> rfl)) (fun h => ?_) (fun h => ?_)) | (with_reducible apply And.intro) | (with_reducible exact trivial) | omega | (simp only [List.length_map, List.length_cons, List.length_nil] at *; omega) | (show _ = true; first | rfl | kernel_rfl))
      all_goals ((first | apply ret_mk [] | apply end_mk []); (· ((try simp only [CC, LL, EE, QQ, seval]) <;> rfl)); (· ((try simp only [CC, LL, EE, QQ, seval]) <;> repeat' (first | (with_reducible apply And.intro) | rfl | trivial | (exact ⟨_, rfl⟩) | (exact ⟨_, _, _, rfl⟩) | (simp [*, hv']; done) | (simp [*, hv']; omega) | (simp_all [hv']; done) | (simp_all [hv']; omega)))); all_goals (first | trivial | decide | ((try simp only [CC, LL, EE, QQ, seval]) <;> repeat' (first | (with_reducible apply And.intro) | (exact ⟨_, rfl, rfl, rfl⟩) | (exact ⟨_, _, _, rfl⟩) | (exact ⟨_, rfl⟩) | trivial | rfl | (simp; done)))))
theorem sameI (a b : List Int) (ha : a.length ≤ 17592186044416) (hb : b.length ≤ 17592186044416) : Does Try.prog 89 [.d (dInts a), .d (dInts b)] [] (B (decide (a = b))) [] [] := by
  refine go_ref04_Same rfl BxOK.nil fun cx hm0 => go_in 5000 ?_
  unfold ac_ref04_Same rs_ref04_Same
  repeat' (first | simp (maxSteps := 9999999) only [↓GE, PL, PP, EE, QQ, seval, List.length_map] | (simp (disch := omega) only [IntWalk.i64_in]) | (refine go_brD (fun h => ?_) (fun h => ?_)) | (refine go_gsD (by ((try simp only [EE, QQ, seval]) <;> rfl)) (fun h => ?_) (fun h => ?_)) | (refine go_br (fun h => ?_) (fun h => ?_)) | (refine go_gs (by ((try simp only [EE, QQ, seval]) <;> rfl)) (fun h => ?_) (fun h => ?_)) | (with_reducible apply And.intro) | (with_reducible exact trivial) | omega | (simp only [List.length_map, List.length_cons, List.length_nil] at *; omega) | (show _ = true; first | rfl | kernel_rfl))
  · have hv : decide (a = b) = false := decide_eq_false fun e => by subst e; simp at h
    ((first | apply ret_mk [] | apply end_mk []); (· ((try simp only [CC, LL, EE, QQ, seval]) <;> rfl)); (· ((try simp only [CC, LL, EE, QQ, seval]) <;> repeat' (first | (with_reducible apply And.intro) | rfl | trivial | (exact ⟨_, rfl⟩) | (exact ⟨_, _, _, rfl⟩) | (simp [*, hv]; done) | (simp [*, hv]; omega) | (simp_all [hv]; done) | (simp_all [hv]; omega)))); all_goals (first | trivial | decide | ((try simp only [CC, LL, EE, QQ, seval]) <;> repeat' (first | (with_reducible apply And.intro) | (exact ⟨_, rfl, rfl, rfl⟩) | (exact ⟨_, _, _, rfl⟩) | (exact ⟨_, rfl⟩) | trivial | rfl | (simp; done)))))
  have hl : a.length = b.length := by simp at h; omega
  refine go_loop 5000 hm0 (ι := {k : Nat // k ≤ a.length ∧ ∀ j, j < k → a.getD j 0 = b.getD j 0}) (fun i => [(0, .d (dInts a)), (1, .d (dInts b)), (4, B false), (12, I a.length), (13, I i.1)]) (fun i => []) (fun i => a.length - i.1) [] ⟨0, by omega, fun j h => by omega⟩ ?_ ?_
  · (simp only [GeS]; refine ⟨?_, ?_, ?_, ?_⟩; all_goals (repeat' (first | trivial | (with_reducible rfl) | simp only [CC, LL, EE, QQ, seval] | (with_reducible apply And.intro) | rfl | (refine ⟨_, rfl, ?_⟩) | (simp; done) | omega)))
  · rintro ⟨k, hk, hv⟩
    by_cases hkl : k < a.length
    · have hs := getD_map eI [] 0 a k hkl
      have hs' := getD_map eI [] 0 b k (by omega)
      repeat' (first | simp (maxSteps := 9999999) only [↓GE, PL, PP, EE, QQ, seval, hs, hs', eI] | (simp (disch := omega) only [IntWalk.i64_in]) | (refine go_brD (fun h => ?_) (fun h => ?_)) | (refine go_gsD (by ((try simp only [EE, QQ, seval]) <;> rfl)) (fun h => ?_) (fun h => ?_)) | (refine go_br (fun h => ?_) (fun h => ?_)) | (refine go_gs (by ((try simp only [EE, QQ, seval]) <;> rfl)) (fun h => ?_) (fun h => ?_)) | (with_reducible apply And.intro) | (with_reducible exact trivial) | omega | (simp only [List.length_map, List.length_cons, List.length_nil] at *; omega) | (show _ = true; first | rfl | kernel_rfl))
      · have hv' : decide (a = b) = false := decide_eq_false fun e => by subst e; simp at h
        ((first | apply ret_mk [] | apply end_mk []); (· ((try simp only [CC, LL, EE, QQ, seval]) <;> rfl)); (· ((try simp only [CC, LL, EE, QQ, seval]) <;> repeat' (first | (with_reducible apply And.intro) | rfl | trivial | (exact ⟨_, rfl⟩) | (exact ⟨_, _, _, rfl⟩) | (simp [*, hv']; done) | (simp [*, hv']; omega) | (simp_all [hv']; done) | (simp_all [hv']; omega)))); all_goals (first | trivial | decide | ((try simp only [CC, LL, EE, QQ, seval]) <;> repeat' (first | (with_reducible apply And.intro) | (exact ⟨_, rfl, rfl, rfl⟩) | (exact ⟨_, _, _, rfl⟩) | (exact ⟨_, rfl⟩) | trivial | rfl | (simp; done)))))
      · refine ⟨⟨k + 1, hkl, fun j hj => ?_⟩, ?_, by simp only; omega⟩
        · by_cases e : j = k
          · subst e; simpa using h
          · exact hv j (by omega)
        (simp only [GeS]; refine ⟨?_, ?_, ?_, ?_⟩; all_goals (repeat' (first | trivial | (with_reducible rfl) | simp only [CC, LL, EE, QQ, seval] | (with_reducible apply And.intro) | rfl | (refine ⟨_, rfl, ?_⟩) | (simp; done) | omega)))
    · have : k = a.length := by omega
      subst this
      have hv' : decide (a = b) = true := decide_eq_true ((eq_iff_get 0 a b hl).2 hv)
      repeat' (first | simp (maxSteps := 9999999) only [↓GE, PL, PP, EE, QQ, seval] | (simp (disch := omega) only [IntWalk.i64_in]) | (refine go_brD (fun h => ?_) (fun h => ?_)) | (refine go_gsD (by ((try simp only [EE, QQ, seval]) <;> rfl)) (fun h => ?_) (fun h => ?_)) | (refine go_br (fun h => ?_) (fun h => ?_)) | (refine go_gs (by ((try simp only [EE, QQ, seval]) <;> rfl)) (fun h => ?_) (fun h => ?_)) | (with_reducible apply And.intro) | (with_reducible exact trivial) | omega | (simp only [List.length_map, List.length_cons, List.length_nil] at *; omega) | (show _ = true; first | rfl | kernel_rfl))
      all_goals ((first | apply ret_mk [] | apply end_mk []); (· ((try simp only [CC, LL, EE, QQ, seval]) <;> rfl)); (· ((try simp only [CC, LL, EE, QQ, seval]) <;> repeat' (first | (with_reducible apply And.intro) | rfl | trivial | (exact ⟨_, rfl⟩) | (exact ⟨_, _, _, rfl⟩) | (simp [*, hv']; done) | (simp [*, hv']; omega) | (simp_all [hv']; done) | (simp_all [hv']; omega)))); all_goals (first | trivial | decide | ((try simp only [CC, LL, EE, QQ, seval]) <;> repeat' (first | (with_reducible apply And.intro) | (exact ⟨_, rfl, rfl, rfl⟩) | (exact ⟨_, _, _, rfl⟩) | (exact ⟨_, rfl⟩) | trivial | rfl | (simp; done)))))
theorem mem_getD {α : Type} (z : α) (l : List α) (k : Nat) (h : k < l.length) : l.getD k z ∈ l := by
  rw [List.getD_eq_getElem?_getD, List.getElem?_eq_getElem h]; exact List.getElem_mem h
/-- Rows that are not too long. -/
def Short (l : List (List Int)) : Prop := ∀ r ∈ l, r.length ≤ 17592186044416
def ShortS (l : List PSet) : Prop := ∀ r ∈ l, r.row.length ≤ 17592186044416
theorem sameRows (a b : List (List Int)) (ha : a.length ≤ 17592186044416) (hb : b.length ≤ 17592186044416) (hsa : Short a) (hsb : Short b) : Does Try.prog 82 [.d (dRows a), .d (dRows b)] [] (B (decide (a = b))) [] [] := by
  refine go_ref04_SameRows rfl BxOK.nil fun cx hm0 => go_in 5000 ?_
  unfold ac_ref04_SameRows rs_ref04_SameRows
  repeat' (first | simp (maxSteps := 9999999) only [↓GE, PL, PP, EE, QQ, seval, List.length_map] | (simp (disch := omega) only [IntWalk.i64_in]) | (refine go_brD (fun h => ?_) (fun h => ?_)) | (refine go_gsD (by ((try simp only [EE, QQ, seval]) <;> rfl)) (fun h => ?_) (fun h => ?_)) | (refine go_br (fun h => ?_) (fun h => ?_)) | (refine go_gs (by ((try simp only [EE, QQ, seval]) <;> rfl)) (fun h => ?_) (fun h => ?_)) | (with_reducible apply And.intro) | (with_reducible exact trivial) | omega | (simp only [List.length_map, List.length_cons, List.length_nil] at *; omega) | (show _ = true; first | rfl | kernel_rfl))
  · have hv : decide (a = b) = false := decide_eq_false fun e => by subst e; simp at h
    ((first | apply ret_mk [] | apply end_mk []); (· ((try simp only [CC, LL, EE, QQ, seval]) <;> rfl)); (· ((try simp only [CC, LL, EE, QQ, seval]) <;> repeat' (first | (with_reducible apply And.intro) | rfl | trivial | (exact ⟨_, rfl⟩) | (exact ⟨_, _, _, rfl⟩) | (simp [*, hv]; done) | (simp [*, hv]; omega) | (simp_all [hv]; done) | (simp_all [hv]; omega)))); all_goals (first | trivial | decide | ((try simp only [CC, LL, EE, QQ, seval]) <;> repeat' (first | (with_reducible apply And.intro) | (exact ⟨_, rfl, rfl, rfl⟩) | (exact ⟨_, _, _, rfl⟩) | (exact ⟨_, rfl⟩) | trivial | rfl | (simp; done)))))
  have hl : a.length = b.length := by simp at h; omega
  refine go_loop 5000 hm0 (ι := {k : Nat // k ≤ a.length ∧ ∀ j, j < k → a.getD j [] = b.getD j []}) (fun i => [(0, .d (dRows a)), (1, .d (dRows b)), (4, B false), (12, I a.length), (13, I i.1)]) (fun i => []) (fun i => a.length - i.1) [] ⟨0, by omega, fun j h => by omega⟩ ?_ ?_
  · (simp only [GeS]; refine ⟨?_, ?_, ?_, ?_⟩; all_goals (repeat' (first | trivial | (with_reducible rfl) | simp only [CC, LL, EE, QQ, seval] | (with_reducible apply And.intro) | rfl | (refine ⟨_, rfl, ?_⟩) | (simp; done) | omega)))
  · rintro ⟨k, hk, hv⟩
    by_cases hkl : k < a.length
    · have hs := getD_map eR [] [] a k hkl
      have hs' := getD_map eR [] [] b k (by omega)
      have hq := sameI _ _ (hsa _ (mem_getD [] a k hkl)) (hsb _ (mem_getD [] b k (by omega)))
      repeat' (first | simp (maxSteps := 9999999) only [↓GE, PL, PP, EE, QQ, seval, hs, hs', eR] | (simp (disch := omega) only [IntWalk.i64_in]) | (refine go_brD (fun h => ?_) (fun h => ?_)) | (refine go_gsD (by ((try simp only [EE, QQ, seval]) <;> rfl)) (fun h => ?_) (fun h => ?_)) | (refine go_br (fun h => ?_) (fun h => ?_)) | (refine go_gs (by ((try simp only [EE, QQ, seval]) <;> rfl)) (fun h => ?_) (fun h => ?_)) | (apply go_call 5000 (hq) rfl rfl; (· ((try simp only [CC, LL, NM, EE, QQ, seval]) <;> (first | rfl | ((repeat constructor); done)))); (· exact CallForm.plain rfl); (· ((try simp only [CC, LL, NM, EE, QQ, seval]) <;> (first | rfl | ((repeat constructor); done)))); (· ((try simp only [CC, LL, NM, EE, QQ, seval]) <;> (first | rfl | ((repeat constructor); done))))) | (with_reducible apply And.intro) | (with_reducible exact trivial) | omega | (simp only [List.length_map, List.length_cons, List.length_nil] at *; omega) | (show _ = true; first | rfl | kernel_rfl))
      · have hv' : decide (a = b) = false := decide_eq_false fun e => by subst e; simp at h
        ((first | apply ret_mk [] | apply end_mk []); (· ((try simp only [CC, LL, EE, QQ, seval]) <;> rfl)); (· ((try simp only [CC, LL, EE, QQ, seval]) <;> repeat' (first | (with_reducible apply And.intro) | rfl | trivial | (exact ⟨_, rfl⟩) | (exact ⟨_, _, _, rfl⟩) | (simp [*, hv']; done) | (simp [*, hv']; omega) | (simp_all [hv']; done) | (simp_all [hv']; omega)))); all_goals (first | trivial | decide | ((try simp only [CC, LL, EE, QQ, seval]) <;> repeat' (first | (with_reducible apply And.intro) | (exact ⟨_, rfl, rfl, rfl⟩) | (exact ⟨_, _, _, rfl⟩) | (exact ⟨_, rfl⟩) | trivial | rfl | (simp; done)))))
      · refine ⟨⟨k + 1, hkl, fun j hj => ?_⟩, ?_, by simp only; omega⟩
        · by_cases e : j = k
          · subst e; simpa using h
          · exact hv j (by omega)
        (simp only [GeS]; refine ⟨?_, ?_, ?_, ?_⟩; all_goals (repeat' (first | trivial | (with_reducible rfl) | simp only [CC, LL, EE, QQ, seval] | (with_reducible apply And.intro) | rfl | (refine ⟨_, rfl, ?_⟩) | (simp; done) | omega)))
    · have : k = a.length := by omega
      subst this
      have hv' : decide (a = b) = true := decide_eq_true ((eq_iff_get [] a b hl).2 hv)
      repeat' (first | simp (maxSteps := 9999999) only [↓GE, PL, PP, EE, QQ, seval] | (simp (disch := omega) only [IntWalk.i64_in]) | (refine go_brD (fun h => ?_) (fun h => ?_)) | (refine go_gsD (by ((try simp only [EE, QQ, seval]) <;> rfl)) (fun h => ?_) (fun h => ?_)) | (refine go_br (fun h => ?_) (fun h => ?_)) | (refine go_gs (by ((try simp only [EE, QQ, seval]) <;> rfl)) (fun h => ?_) (fun h => ?_)) | (with_reducible apply And.intro) | (with_reducible exact trivial) | omega | (simp only [List.length_map, List.length_cons, List.length_nil] at *; omega) | (show _ = true; first | rfl | kernel_rfl))
      all_goals ((first | apply ret_mk [] | apply end_mk []); (· ((try simp only [CC, LL, EE, QQ, seval]) <;> rfl)); (· ((try simp only [CC, LL, EE, QQ, seval]) <;> repeat' (first | (with_reducible apply And.intro) | rfl | trivial | (exact ⟨_, rfl⟩) | (exact ⟨_, _, _, rfl⟩) | (simp [*, hv']; done) | (simp [*, hv']; omega) | (simp_all [hv']; done) | (simp_all [hv']; omega)))); all_goals (first | trivial | decide | ((try simp only [CC, LL, EE, QQ, seval]) <;> repeat' (first | (with_reducible apply And.intro) | (exact ⟨_, rfl, rfl, rfl⟩) | (exact ⟨_, _, _, rfl⟩) | (exact ⟨_, rfl⟩) | trivial | rfl | (simp; done)))))
end Go.Proofs.Ytilkjcobkdjlkaa.Sim
end
section
namespace Go.Proofs.Ytilkjcobkdjlkaa.Sim
open Go
set_option maxRecDepth 100000
set_option linter.unusedVariables false
set_option linter.unusedSimpArgs false
attribute [local irreducible] Go Mean
structure PTab where
  num : Int
  p : Int
  width : Int
  rows : List (List Int)
abbrev vTab (t : PTab) : V := .ag [I t.num, I t.p, I t.width, .d (dRows t.rows)]
def sameC (a b : PChg) : Bool := a.fr == b.fr && a.tt == b.tt && a.count == b.count && decide (a.sets = b.sets)
def sameT (a b : PTab) : Bool := a.num == b.num && a.p == b.p && a.width == b.width && decide (a.rows = b.rows)
theorem r14same (a b : PTab) (ha : a.rows.length ≤ 17592186044416) (hb : b.rows.length ≤ 17592186044416) (hsa : Short a.rows) (hsb : Short b.rows) : Does Try.prog 32 [vTab a, vTab b] [] (B (sameT a b)) [] [] := by
  refine go_ref14_Same rfl BxOK.nil fun cx hm0 => go_in 5000 ?_
  unfold ac_ref14_Same rs_ref14_Same
  repeat' (first | simp (maxSteps := 9999999) only [↓GE, PL, PP, EE, QQ, seval] | (simp (disch := omega) only [IntWalk.i64_in]) | (refine go_brD (fun h => ?_) (fun h => ?_)) | (refine go_gsD (by ((try simp only [EE, QQ, seval]) <;> rfl)) (fun h => ?_) (fun h => ?_)) | (refine go_br (fun h => ?_) (fun h => ?_)) | (refine go_gs (by ((try simp only [EE, QQ, seval]) <;> rfl)) (fun h => ?_) (fun h => ?_)) | (apply go_call 5000 (sameRows _ _ ha hb hsa hsb) rfl rfl; (· ((try simp only [CC, LL, NM, EE, QQ, seval]) <;> (first | rfl | ((repeat constructor); done)))); (· exact CallForm.plain rfl); (· ((try simp only [CC, LL, NM, EE, QQ, seval]) <;> (first | rfl | ((repeat constructor); done)))); (· ((try simp only [CC, LL, NM, EE, QQ, seval]) <;> (first | rfl | ((repeat constructor); done))))) | (with_reducible apply And.intro) | (with_reducible exact trivial) | omega | (simp only [List.length_map, List.length_cons, List.length_nil] at *; omega) | (show _ = true; first | rfl | kernel_rfl))
  all_goals ((first | apply ret_mk [] | apply end_mk []); (· ((try simp only [CC, LL, EE, QQ, seval]) <;> rfl)); (· ((try simp only [CC, LL, EE, QQ, seval]) <;> repeat' (first | (with_reducible apply And.intro) | rfl | trivial | (exact ⟨_, rfl⟩) | (exact ⟨_, _, _, rfl⟩) | (simp [*, sameT]; done) | (simp [*, sameT]; omega) | (simp_all [sameT]; done) | (simp_all [sameT]; omega)))); all_goals (first | trivial | decide | ((try simp only [CC, LL, EE, QQ, seval]) <;> repeat' (first | (with_reducible apply And.intro) | (exact ⟨_, rfl, rfl, rfl⟩) | (exact ⟨_, _, _, rfl⟩) | (exact ⟨_, rfl⟩) | trivial | rfl | (simp; done)))))
theorem r15same (a b : PChg) (ha : a.sets.length ≤ 17592186044416) (hb : b.sets.length ≤ 17592186044416) (hsa : ShortS a.sets) (hsb : ShortS b.sets) : Does Try.prog 48 [vChg a, vChg b] [] (B (sameC a b)) [] [] := by
  refine go_ref15_Same rfl BxOK.nil fun cx hm0 => go_in 5000 ?_
  unfold ac_ref15_Same rs_ref15_Same
  by_cases hll : a.sets.length = b.sets.length
  · repeat' (first | simp (maxSteps := 9999999) only [↓GE, PL, PP, EE, QQ, seval, List.length_map, hll] | (simp (disch := omega) only [IntWalk.i64_in]) | (refine go_brD (fun h => ?_) (fun h => ?_)) | (refine go_gsD (by ((try simp only [EE, QQ, seval]) <;> rfl)) (fun h => ?_) (fun h => ?_)) | (refine go_br (fun h => ?_) (fun h => ?_)) | (refine go_gs (by ((try simp only [EE, QQ, seval]) <;> rfl)) (fun h => ?_) (fun h => ?_)) | (with_reducible apply And.intro) | (with_reducible exact trivial) | omega | (simp only [List.length_map, List.length_cons, List.length_nil] at *; omega) | (show _ = true; first | rfl | kernel_rfl))
    any_goals ((first | apply ret_mk [] | apply end_mk []); (· ((try simp only [CC, LL, EE, QQ, seval]) <;> rfl)); (· ((try simp only [CC, LL, EE, QQ, seval]) <;> repeat' (first | (with_reducible apply And.intro) | rfl | trivial | (exact ⟨_, rfl⟩) | (exact ⟨_, _, _, rfl⟩) | (simp [*, sameC]; done) | (simp [*, sameC]; omega) | (simp_all [sameC]; done) | (simp_all [sameC]; omega)))); all_goals (first | trivial | decide | ((try simp only [CC, LL, EE, QQ, seval]) <;> repeat' (first | (with_reducible apply And.intro) | (exact ⟨_, rfl, rfl, rfl⟩) | (exact ⟨_, _, _, rfl⟩) | (exact ⟨_, rfl⟩) | trivial | rfl | (simp; done)))))
    refine go_loop 5000 hm0 (ι := {k : Nat // k ≤ a.sets.length ∧ ∀ j, j < k → a.sets.getD j noSet = b.sets.getD j noSet}) (fun i => [(2, .bp 2 0 0), (3, .bp 3 0 0), (4, B false), (36, I b.sets.length), (37, I i.1)]) (fun i => [(2, .box 0 [I a.fr, I a.tt, I a.count, .d (dSets a.sets)]), (3, .box 0 [I b.fr, I b.tt, I b.count, .d (dSets b.sets)])]) (fun i => a.sets.length - i.1) [] ⟨0, by omega, fun j h => by omega⟩ ?_ ?_
    · (simp only [GeS]; refine ⟨?_, ?_, ?_, ?_⟩; all_goals (repeat' (first | trivial | (with_reducible rfl) | simp only [CC, LL, EE, QQ, seval] | (with_reducible apply And.intro) | rfl | (refine ⟨_, rfl, ?_⟩) | (simp; done) | omega)))
    · rintro ⟨k, hk, hv⟩
      by_cases hkl : k < a.sets.length
      · have hs := getD_map eSet [] noSet a.sets k hkl
        have hs' := getD_map eSet [] noSet b.sets k (by omega)
        have hq := sameI _ _ (hsa _ (mem_getD noSet a.sets k hkl)) (hsb _ (mem_getD noSet b.sets k (by omega)))
        repeat' (first | simp (maxSteps := 9999999) only [↓GE, PL, PP, EE, QQ, seval, hs, hs', eSet] | (simp (disch := omega) only [IntWalk.i64_in]) | (refine go_brD (fun h => ?_) (fun h => ?_)) | (refine go_gsD (by ((try simp only [EE, QQ, seval]) <;> rfl)) (fun h => ?_) (fun h => ?_)) | (refine go_br (fun h => ?_) (fun h => ?_)) | (refine go_gs (by ((try simp only [EE, QQ, seval]) <;> rfl)) (fun h => ?_) (fun h => ?_)) | (apply go_call 5000 (hq) rfl rfl; (· ((try simp only [CC, LL, NM, EE, QQ, seval]) <;> (first | rfl | ((repeat constructor); done)))); (· exact CallForm.plain rfl); (· ((try simp only [CC, LL, NM, EE, QQ, seval]) <;> (first | rfl | ((repeat constructor); done)))); (· ((try simp only [CC, LL, NM, EE, QQ, seval]) <;> (first | rfl | ((repeat constructor); done))))) | (with_reducible apply And.intro) | (with_reducible exact trivial) | omega | (simp only [List.length_map, List.length_cons, List.length_nil] at *; omega) | (show _ = true; first | rfl | kernel_rfl))
        · have hv' : decide (a.sets = b.sets) = false := decide_eq_false fun e => by rw [e] at h; simp at h
          ((first | apply ret_mk [] | apply end_mk []); (· ((try simp only [CC, LL, EE, QQ, seval]) <;> rfl)); (· ((try simp only [CC, LL, EE, QQ, seval]) <;> repeat' (first | (with_reducible apply And.intro) | rfl | trivial | (exact ⟨_, rfl⟩) | (exact ⟨_, _, _, rfl⟩) | (simp [*, sameC, hv']; done) | (simp [*, sameC, hv']; omega) | (simp_all [sameC, hv']; done) | (simp_all [sameC, hv']; omega)))); all_goals (first | trivial | decide | ((try simp only [CC, LL, EE, QQ, seval]) <;> repeat' (first | (with_reducible apply And.intro) | (exact ⟨_, rfl, rfl, rfl⟩) | (exact ⟨_, _, _, rfl⟩) | (exact ⟨_, rfl⟩) | trivial | rfl | (simp; done)))))
        · have hv' : decide (a.sets = b.sets) = false := decide_eq_false fun e => by rw [e] at h; simp at h
          ((first | apply ret_mk [] | apply end_mk []); (· ((try simp only [CC, LL, EE, QQ, seval]) <;> rfl)); (· ((try simp only [CC, LL, EE, QQ, seval]) <;> repeat' (first | (with_reducible apply And.intro) | rfl | trivial | (exact ⟨_, rfl⟩) | (exact ⟨_, _, _, rfl⟩) | (simp [*, sameC, hv']; done) | (simp [*, sameC, hv']; omega) | (simp_all [sameC, hv']; done) | (simp_all [sameC, hv']; omega)))); all_goals (first | trivial | decide | ((try simp only [CC, LL, EE, QQ, seval]) <;> repeat' (first | (with_reducible apply And.intro) | (exact ⟨_, rfl, rfl, rfl⟩) | (exact ⟨_, _, _, rfl⟩) | (exact ⟨_, rfl⟩) | trivial | rfl | (simp; done)))))
        · have h2 : ((a.sets.getD k noSet).idx != (b.sets.getD k noSet).idx) = false := by assumption
          have he : a.sets.getD k noSet = b.sets.getD k noSet := by
            generalize a.sets.getD k noSet = s at h h2
            generalize b.sets.getD k noSet = t at h h2
            cases s; cases t
            simp at h h2
            simp [h, h2]
          refine ⟨⟨k + 1, hkl, fun j hj => ?_⟩, ?_, by simp only; omega⟩
          · by_cases e : j = k
            · subst e; exact he
            · exact hv j (by omega)
          (simp only [GeS]; refine ⟨?_, ?_, ?_, ?_⟩; all_goals (repeat' (first | trivial | (with_reducible rfl) | simp only [CC, LL, EE, QQ, seval] | (with_reducible apply And.intro) | rfl | (refine ⟨_, rfl, ?_⟩) | (simp; done) | omega)))
      · have : k = a.sets.length := by omega
        subst this
        have hv' : decide (a.sets = b.sets) = true := decide_eq_true ((eq_iff_get noSet a.sets b.sets hll).2 hv)
        repeat' (first | simp (maxSteps := 9999999) only [↓GE, PL, PP, EE, QQ, seval, hll] | (simp (disch := omega) only [IntWalk.i64_in]) | (refine go_brD (fun h => ?_) (fun h => ?_)) | (refine go_gsD (by ((try simp only [EE, QQ, seval]) <;> rfl)) (fun h => ?_) (fun h => ?_)) | (refine go_br (fun h => ?_) (fun h => ?_)) | (refine go_gs (by ((try simp only [EE, QQ, seval]) <;> rfl)) (fun h => ?_) (fun h => ?_)) | (with_reducible apply And.intro) | (with_reducible exact trivial) | omega | (simp only [List.length_map, List.length_cons, List.length_nil] at *; omega) | (show _ = true; first | rfl | kernel_rfl))
        all_goals ((first | apply ret_mk [] | apply end_mk []); (· ((try simp only [CC, LL, EE, QQ, seval]) <;> rfl)); (· ((try simp only [CC, LL, EE, QQ, seval]) <;> repeat' (first | (with_reducible apply And.intro) | rfl | trivial | (exact ⟨_, rfl⟩) | (exact ⟨_, _, _, rfl⟩) | (simp [*, sameC, hv']; done) | (simp [*, sameC, hv']; omega) | (simp_all [sameC, hv']; done) | (simp_all [sameC, hv']; omega)))); all_goals (first | trivial | decide | ((try simp only [CC, LL, EE, QQ, seval]) <;> repeat' (first | (with_reducible apply And.intro) | (exact ⟨_, rfl, rfl, rfl⟩) | (exact ⟨_, _, _, rfl⟩) | (exact ⟨_, rfl⟩) | trivial | rfl | (simp; done)))))
  · have hne : decide (a.sets = b.sets) = false := decide_eq_false fun e => hll (by rw [e])
    repeat' (first | simp (maxSteps := 9999999) only [↓GE, PL, PP, EE, QQ, seval, List.length_map] | (simp (disch := omega) only [IntWalk.i64_in]) | (refine go_brD (fun h => ?_) (fun h => ?_)) | (refine go_gsD (by ((try simp only [EE, QQ, seval]) <;> rfl)) (fun h => ?_) (fun h => ?_)) | (refine go_br (fun h => ?_) (fun h => ?_)) | (refine go_gs (by ((try simp only [EE, QQ, seval]) <;> rfl)) (fun h => ?_) (fun h => ?_)) | (with_reducible apply And.intro) | (with_reducible exact trivial) | omega | (simp only [List.length_map, List.length_cons, List.length_nil] at *; omega) | (show _ = true; first | rfl | kernel_rfl))
    any_goals ((first | apply ret_mk [] | apply end_mk []); (· ((try simp only [CC, LL, EE, QQ, seval]) <;> rfl)); (· ((try simp only [CC, LL, EE, QQ, seval]) <;> repeat' (first | (with_reducible apply And.intro) | rfl | trivial | (exact ⟨_, rfl⟩) | (exact ⟨_, _, _, rfl⟩) | (simp [*, sameC, hne]; done) | (simp [*, sameC, hne]; omega) | (simp_all [sameC, hne]; done) | (simp_all [sameC, hne]; omega)))); all_goals (first | trivial | decide | ((try simp only [CC, LL, EE, QQ, seval]) <;> repeat' (first | (with_reducible apply And.intro) | (exact ⟨_, rfl, rfl, rfl⟩) | (exact ⟨_, _, _, rfl⟩) | (exact ⟨_, rfl⟩) | trivial | rfl | (simp; done)))))
    all_goals (simp at h; omega)
/-- What is wrong with rows, or 0. -/
def rowsErr (p w : Int) : List (List Int) → Int
  | [] => 0
  | r :: l => if (r.length : Int) ≠ w then 2 else if r.all (inE p) = true then rowsErr p w l else 9
noncomputable def checkT (t : PTab) : Int := if t.num < 1 ∨ t.num ≥ 2147483647 then 1 else if fieldB t.p = false then 9 else if t.width < 1 ∨ t.width > 64 then 1 else if t.rows.length > 1024 then 4 else rowsErr t.p t.width t.rows
theorem tcheck (t : PTab) (hl : t.rows.length ≤ 17592186044416) (hs : Short t.rows) : Does Try.prog 61 [vTab t] [] (I (checkT t)) [] [] := by
  refine go_table_Check rfl BxOK.nil fun cx hm0 => go_in 5000 ?_
  unfold ac_table_Check rs_table_Check
  cases hf : fieldB t.p with
  | false =>
    have hv : checkT t = if t.num < 1 ∨ t.num ≥ 2147483647 then 1 else 9 := by simp [checkT, hf]
    repeat' (first | simp (maxSteps := 9999999) only [↓GE, PL, PP, EE, QQ, seval, hf, List.length_map] | (simp (disch := omega) only [IntWalk.i64_in]) | (refine go_brD (fun h => ?_) (fun h => ?_)) | (refine go_gsD (by ((try simp only [EE, QQ, seval]) <;> rfl)) (fun h => ?_) (fun h => ?_)) | (refine go_br (fun h => ?_) (fun h => ?_)) | (refine go_gs (by ((try simp only [EE, QQ, seval]) <;> rfl)) (fun h => ?_) (fun h => ?_)) | (apply go_call 5000 (resOf t.p) rfl rfl; (· ((try simp only [CC, LL, NM, EE, QQ, seval]) <;> (first | rfl | ((repeat constructor); done)))); (· exact CallForm.plain rfl); (· ((try simp only [CC, LL, NM, EE, QQ, seval]) <;> (first | rfl | ((repeat constructor); done)))); (· ((try simp only [CC, LL, NM, EE, QQ, seval]) <;> (first | rfl | ((repeat constructor); done))))) | (with_reducible apply And.intro) | (with_reducible exact trivial) | omega | (simp only [List.length_map, List.length_cons, List.length_nil] at *; omega) | (show _ = true; first | rfl | kernel_rfl))
    all_goals ((first | apply ret_mk [] | apply end_mk []); (· ((try simp only [CC, LL, EE, QQ, seval]) <;> rfl)); (· ((try simp only [CC, LL, EE, QQ, seval]) <;> repeat' (first | (with_reducible apply And.intro) | rfl | trivial | (exact ⟨_, rfl⟩) | (exact ⟨_, _, _, rfl⟩) | (simp [*, hv]; done) | (simp [*, hv]; omega) | (simp_all [hv]; done) | (simp_all [hv]; omega)))); all_goals (first | trivial | decide | ((try simp only [CC, LL, EE, QQ, seval]) <;> repeat' (first | (with_reducible apply And.intro) | (exact ⟨_, rfl, rfl, rfl⟩) | (exact ⟨_, _, _, rfl⟩) | (exact ⟨_, rfl⟩) | trivial | rfl | (simp; done)))))
  | true =>
    repeat' (first | simp (maxSteps := 9999999) only [↓GE, PL, PP, EE, QQ, seval, hf, List.length_map] | (simp (disch := omega) only [IntWalk.i64_in]) | (refine go_brD (fun h => ?_) (fun h => ?_)) | (refine go_gsD (by ((try simp only [EE, QQ, seval]) <;> rfl)) (fun h => ?_) (fun h => ?_)) | (refine go_br (fun h => ?_) (fun h => ?_)) | (refine go_gs (by ((try simp only [EE, QQ, seval]) <;> rfl)) (fun h => ?_) (fun h => ?_)) | (apply go_call 5000 (resOf t.p) rfl rfl; (· ((try simp only [CC, LL, NM, EE, QQ, seval]) <;> (first | rfl | ((repeat constructor); done)))); (· exact CallForm.plain rfl); (· ((try simp only [CC, LL, NM, EE, QQ, seval]) <;> (first | rfl | ((repeat constructor); done)))); (· ((try simp only [CC, LL, NM, EE, QQ, seval]) <;> (first | rfl | ((repeat constructor); done))))) | (with_reducible apply And.intro) | (with_reducible exact trivial) | omega | (simp only [List.length_map, List.length_cons, List.length_nil] at *; omega) | (show _ = true; first | rfl | kernel_rfl))
    any_goals ((first | apply ret_mk [] | apply end_mk []); (· ((try simp only [CC, LL, EE, QQ, seval]) <;> rfl)); (· ((try simp only [CC, LL, EE, QQ, seval]) <;> repeat' (first | (with_reducible apply And.intro) | rfl | trivial | (exact ⟨_, rfl⟩) | (exact ⟨_, _, _, rfl⟩) | (simp [*, checkT, hf]; done) | (simp [*, checkT, hf]; omega) | (simp_all [checkT, hf]; done) | (simp_all [checkT, hf]; omega)))); all_goals (first | trivial | decide | ((try simp only [CC, LL, EE, QQ, seval]) <;> repeat' (first | (with_reducible apply And.intro) | (exact ⟨_, rfl, rfl, rfl⟩) | (exact ⟨_, _, _, rfl⟩) | (exact ⟨_, rfl⟩) | trivial | rfl | (simp; done)))))
    have hv0 : checkT t = rowsErr t.p t.width t.rows := by
      simp only [checkT]
      rw [if_neg (by omega), if_neg (by simp [hf]), if_neg (by omega), if_neg (by omega)]
    refine go_loop 5000 hm0 (ι := {k : Nat // k ≤ t.rows.length ∧ rowsErr t.p t.width t.rows = rowsErr t.p t.width (t.rows.drop k)}) (fun i => [(1, .bp 1 0 0), (2, I 0), (3, I t.p), (40, .d (dRows t.rows)), (41, I t.rows.length), (42, I i.1)]) (fun i => [(1, .box 0 [I t.num, I t.p, I t.width, .d (dRows t.rows)])]) (fun i => t.rows.length - i.1) [] ⟨0, by simp⟩ ?_ ?_
    · (simp only [GeS]; refine ⟨?_, ?_, ?_, ?_⟩; all_goals (repeat' (first | trivial | (with_reducible rfl) | simp only [CC, LL, EE, QQ, seval] | (with_reducible apply And.intro) | rfl | (refine ⟨_, rfl, ?_⟩) | (simp; done) | omega)))
    · rintro ⟨k, hk, hv⟩
      by_cases hkl : k < t.rows.length
      · have hs' := getD_map eR [] [] t.rows k hkl
        have hr := hs _ (mem_getD [] t.rows k hkl)
        rw [drop_get [] _ _ hkl] at hv
        generalize t.rows.getD k [] = r at hs' hv hr
        have hq := allF t.p r hr
        repeat' (first | simp (maxSteps := 9999999) only [↓GE, PL, PP, EE, QQ, seval, hs', eR, hf, List.length_map, Bool.true_and] | (simp (disch := omega) only [IntWalk.i64_in]) | (refine go_brD (fun h => ?_) (fun h => ?_)) | (refine go_gsD (by ((try simp only [EE, QQ, seval]) <;> rfl)) (fun h => ?_) (fun h => ?_)) | (refine go_br (fun h => ?_) (fun h => ?_)) | (refine go_gs (by ((try simp only [EE, QQ, seval]) <;> rfl)) (fun h => ?_) (fun h => ?_)) | (apply go_call 5000 (hq) rfl rfl; (· ((try simp only [CC, LL, NM, EE, QQ, seval]) <;> (first | rfl | ((repeat constructor); done)))); (· exact CallForm.plain rfl); (· ((try simp only [CC, LL, NM, EE, QQ, seval]) <;> (first | rfl | ((repeat constructor); done)))); (· ((try simp only [CC, LL, NM, EE, QQ, seval]) <;> (first | rfl | ((repeat constructor); done))))) | (with_reducible apply And.intro) | (with_reducible exact trivial) | omega | (simp only [List.length_map, List.length_cons, List.length_nil] at *; omega) | (show _ = true; first | rfl | kernel_rfl))
        · have h2 : (r.length : Int) ≠ t.width := by simpa using h
          have hv1 : checkT t = 2 := by rw [hv0, hv, rowsErr, if_pos h2]
          ((first | apply ret_mk [] | apply end_mk []); (· ((try simp only [CC, LL, EE, QQ, seval]) <;> rfl)); (· ((try simp only [CC, LL, EE, QQ, seval]) <;> repeat' (first | (with_reducible apply And.intro) | rfl | trivial | (exact ⟨_, rfl⟩) | (exact ⟨_, _, _, rfl⟩) | (simp [*, hv1]; done) | (simp [*, hv1]; omega) | (simp_all [hv1]; done) | (simp_all [hv1]; omega)))); all_goals (first | trivial | decide | ((try simp only [CC, LL, EE, QQ, seval]) <;> repeat' (first | (with_reducible apply And.intro) | (exact ⟨_, rfl, rfl, rfl⟩) | (exact ⟨_, _, _, rfl⟩) | (exact ⟨_, rfl⟩) | trivial | rfl | (simp; done)))))
        · have h2 : (r.length : Int) = t.width := by simp at *; assumption
          have hv1 : checkT t = 9 := by rw [hv0, hv, rowsErr, if_neg (by simpa using h2), if_neg (by simpa using h)]
          ((first | apply ret_mk [] | apply end_mk []); (· ((try simp only [CC, LL, EE, QQ, seval]) <;> rfl)); (· ((try simp only [CC, LL, EE, QQ, seval]) <;> repeat' (first | (with_reducible apply And.intro) | rfl | trivial | (exact ⟨_, rfl⟩) | (exact ⟨_, _, _, rfl⟩) | (simp [*, hv1]; done) | (simp [*, hv1]; omega) | (simp_all [hv1]; done) | (simp_all [hv1]; omega)))); all_goals (first | trivial | decide | ((try simp only [CC, LL, EE, QQ, seval]) <;> repeat' (first | (with_reducible apply And.intro) | (exact ⟨_, rfl, rfl, rfl⟩) | (exact ⟨_, _, _, rfl⟩) | (exact ⟨_, rfl⟩) | trivial | rfl | (simp; done)))))
        · have h2 : (r.length : Int) = t.width := by simp at *; assumption
          rw [rowsErr, if_neg (by simpa using h2), if_pos (by simpa using h)] at hv
          refine ⟨⟨k + 1, hkl, hv⟩, ?_, by simp only; omega⟩
          (simp only [GeS]; refine ⟨?_, ?_, ?_, ?_⟩; all_goals (repeat' (first | trivial | (with_reducible rfl) | simp only [CC, LL, EE, QQ, seval] | (with_reducible apply And.intro) | rfl | (refine ⟨_, rfl, ?_⟩) | (simp; done) | omega)))
      · have : k = t.rows.length := by omega
        subst this
        simp only [List.drop_length, rowsErr] at hv
        rw [hv] at hv0
        repeat' (first | simp (maxSteps := 9999999) only [↓GE, PL, PP, EE, QQ, seval] | (simp (disch := omega) only [IntWalk.i64_in]) | (refine go_brD (fun h => ?_) (fun h => ?_)) | (refine go_gsD (by ((try simp only [EE, QQ, seval]) <;> rfl)) (fun h => ?_) (fun h => ?_)) | (refine go_br (fun h => ?_) (fun h => ?_)) | (refine go_gs (by ((try simp only [EE, QQ, seval]) <;> rfl)) (fun h => ?_) (fun h => ?_)) | (with_reducible apply And.intro) | (with_reducible exact trivial) | omega | (simp only [List.length_map, List.length_cons, List.length_nil] at *; omega) | (show _ = true; first | rfl | kernel_rfl))
        all_goals ((first | apply ret_mk [] | apply end_mk []); (· ((try simp only [CC, LL, EE, QQ, seval]) <;> rfl)); (· ((try simp only [CC, LL, EE, QQ, seval]) <;> repeat' (first | (with_reducible apply And.intro) | rfl | trivial | (exact ⟨_, rfl⟩) | (exact ⟨_, _, _, rfl⟩) | (simp [*, hv0]; done) | (simp [*, hv0]; omega) | (simp_all [hv0]; done) | (simp_all [hv0]; omega)))); all_goals (first | trivial | decide | ((try simp only [CC, LL, EE, QQ, seval]) <;> repeat' (first | (with_reducible apply And.intro) | (exact ⟨_, rfl, rfl, rfl⟩) | (exact ⟨_, _, _, rfl⟩) | (exact ⟨_, rfl⟩) | trivial | rfl | (simp; done)))))
theorem r14check (t : PTab) (hl : t.rows.length ≤ 17592186044416) (hs : Short t.rows) : Does Try.prog 53 [vTab t] [] (I (checkT t)) [] [] := by
  refine go_ref14_Check rfl BxOK.nil fun cx hm0 => go_in 5000 ?_
  unfold ac_ref14_Check rs_ref14_Check
  cases hf : fieldB t.p with
  | false =>
    have hv : checkT t = if t.num < 1 ∨ t.num ≥ 2147483647 then 1 else 9 := by simp [checkT, hf]
    repeat' (first | simp (maxSteps := 9999999) only [↓GE, PL, PP, EE, QQ, seval, hf, List.length_map] | (simp (disch := omega) only [IntWalk.i64_in]) | (refine go_brD (fun h => ?_) (fun h => ?_)) | (refine go_gsD (by ((try simp only [EE, QQ, seval]) <;> rfl)) (fun h => ?_) (fun h => ?_)) | (refine go_br (fun h => ?_) (fun h => ?_)) | (refine go_gs (by ((try simp only [EE, QQ, seval]) <;> rfl)) (fun h => ?_) (fun h => ?_)) | (apply go_call 5000 (r3check t.p) rfl rfl; (· ((try simp only [CC, LL, NM, EE, QQ, seval]) <;> (first | rfl | ((repeat constructor); done)))); (· exact CallForm.plain rfl); (· ((try simp only [CC, LL, NM, EE, QQ, seval]) <;> (first | rfl | ((repeat constructor); done)))); (· ((try simp only [CC, LL, NM, EE, QQ, seval]) <;> (first | rfl | ((repeat constructor); done))))) | (with_reducible apply And.intro) | (with_reducible exact trivial) | omega | (simp only [List.length_map, List.length_cons, List.length_nil] at *; omega) | (show _ = true; first | rfl | kernel_rfl))
    all_goals ((first | apply ret_mk [] | apply end_mk []); (· ((try simp only [CC, LL, EE, QQ, seval]) <;> rfl)); (· ((try simp only [CC, LL, EE, QQ, seval]) <;> repeat' (first | (with_reducible apply And.intro) | rfl | trivial | (exact ⟨_, rfl⟩) | (exact ⟨_, _, _, rfl⟩) | (simp [*, hv]; done) | (simp [*, hv]; omega) | (simp_all [hv]; done) | (simp_all [hv]; omega)))); all_goals (first | trivial | decide | ((try simp only [CC, LL, EE, QQ, seval]) <;> repeat' (first | (with_reducible apply And.intro) | (exact ⟨_, rfl, rfl, rfl⟩) | (exact ⟨_, _, _, rfl⟩) | (exact ⟨_, rfl⟩) | trivial | rfl | (simp; done)))))
  | true =>
    repeat' (first | simp (maxSteps := 9999999) only [↓GE, PL, PP, EE, QQ, seval, hf, List.length_map] | (simp (disch := omega) only [IntWalk.i64_in]) | (refine go_brD (fun h => ?_) (fun h => ?_)) | (refine go_gsD (by ((try simp only [EE, QQ, seval]) <;> rfl)) (fun h => ?_) (fun h => ?_)) | (refine go_br (fun h => ?_) (fun h => ?_)) | (refine go_gs (by ((try simp only [EE, QQ, seval]) <;> rfl)) (fun h => ?_) (fun h => ?_)) | (apply go_call 5000 (r3check t.p) rfl rfl; (· ((try simp only [CC, LL, NM, EE, QQ, seval]) <;> (first | rfl | ((repeat constructor); done)))); (· exact CallForm.plain rfl); (· ((try simp only [CC, LL, NM, EE, QQ, seval]) <;> (first | rfl | ((repeat constructor); done)))); (· ((try simp only [CC, LL, NM, EE, QQ, seval]) <;> (first | rfl | ((repeat constructor); done))))) | (with_reducible apply And.intro) | (with_reducible exact trivial) | omega | (simp only [List.length_map, List.length_cons, List.length_nil] at *; omega) | (show _ = true; first | rfl | kernel_rfl))
    any_goals ((first | apply ret_mk [] | apply end_mk []); (· ((try simp only [CC, LL, EE, QQ, seval]) <;> rfl)); (· ((try simp only [CC, LL, EE, QQ, seval]) <;> repeat' (first | (with_reducible apply And.intro) | rfl | trivial | (exact ⟨_, rfl⟩) | (exact ⟨_, _, _, rfl⟩) | (simp [*, checkT, hf]; done) | (simp [*, checkT, hf]; omega) | (simp_all [checkT, hf]; done) | (simp_all [checkT, hf]; omega)))); all_goals (first | trivial | decide | ((try simp only [CC, LL, EE, QQ, seval]) <;> repeat' (first | (with_reducible apply And.intro) | (exact ⟨_, rfl, rfl, rfl⟩) | (exact ⟨_, _, _, rfl⟩) | (exact ⟨_, rfl⟩) | trivial | rfl | (simp; done)))))
    have hv0 : checkT t = rowsErr t.p t.width t.rows := by
      simp only [checkT]
      rw [if_neg (by omega), if_neg (by simp [hf]), if_neg (by omega), if_neg (by omega)]
    refine go_loop 5000 hm0 (ι := {k : Nat // k ≤ t.rows.length ∧ rowsErr t.p t.width t.rows = rowsErr t.p t.width (t.rows.drop k)}) (fun i => [(1, .bp 1 0 0), (2, I 0), (33, .d (dRows t.rows)), (34, I t.rows.length), (35, I i.1)]) (fun i => [(1, .box 0 [I t.num, I t.p, I t.width, .d (dRows t.rows)])]) (fun i => t.rows.length - i.1) [] ⟨0, by simp⟩ ?_ ?_
    · (simp only [GeS]; refine ⟨?_, ?_, ?_, ?_⟩; all_goals (repeat' (first | trivial | (with_reducible rfl) | simp only [CC, LL, EE, QQ, seval] | (with_reducible apply And.intro) | rfl | (refine ⟨_, rfl, ?_⟩) | (simp; done) | omega)))
    · rintro ⟨k, hk, hv⟩
      by_cases hkl : k < t.rows.length
      · have hs' := getD_map eR [] [] t.rows k hkl
        have hr := hs _ (mem_getD [] t.rows k hkl)
        rw [drop_get [] _ _ hkl] at hv
        generalize t.rows.getD k [] = r at hs' hv hr
        have hq := r3in t.p r hr
        repeat' (first | simp (maxSteps := 9999999) only [↓GE, PL, PP, EE, QQ, seval, hs', eR, hf, List.length_map, Bool.true_and] | (simp (disch := omega) only [IntWalk.i64_in]) | (refine go_brD (fun h => ?_) (fun h => ?_)) | (refine go_gsD (by ((try simp only [EE, QQ, seval]) <;> rfl)) (fun h => ?_) (fun h => ?_)) | (refine go_br (fun h => ?_) (fun h => ?_)) | (refine go_gs (by ((try simp only [EE, QQ, seval]) <;> rfl)) (fun h => ?_) (fun h => ?_)) | (apply go_call 5000 (hq) rfl rfl; (· ((try simp only [CC, LL, NM, EE, QQ, seval]) <;> (first | rfl | ((repeat constructor); done)))); (· exact CallForm.plain rfl); (· ((try simp only [CC, LL, NM, EE, QQ, seval]) <;> (first | rfl | ((repeat constructor); done)))); (· ((try simp only [CC, LL, NM, EE, QQ, seval]) <;> (first | rfl | ((repeat constructor); done))))) | (with_reducible apply And.intro) | (with_reducible exact trivial) | omega | (simp only [List.length_map, List.length_cons, List.length_nil] at *; omega) | (show _ = true; first | rfl | kernel_rfl))
        · have h2 : (r.length : Int) ≠ t.width := by simpa using h
          have hv1 : checkT t = 2 := by rw [hv0, hv, rowsErr, if_pos h2]
          ((first | apply ret_mk [] | apply end_mk []); (· ((try simp only [CC, LL, EE, QQ, seval]) <;> rfl)); (· ((try simp only [CC, LL, EE, QQ, seval]) <;> repeat' (first | (with_reducible apply And.intro) | rfl | trivial | (exact ⟨_, rfl⟩) | (exact ⟨_, _, _, rfl⟩) | (simp [*, hv1]; done) | (simp [*, hv1]; omega) | (simp_all [hv1]; done) | (simp_all [hv1]; omega)))); all_goals (first | trivial | decide | ((try simp only [CC, LL, EE, QQ, seval]) <;> repeat' (first | (with_reducible apply And.intro) | (exact ⟨_, rfl, rfl, rfl⟩) | (exact ⟨_, _, _, rfl⟩) | (exact ⟨_, rfl⟩) | trivial | rfl | (simp; done)))))
        · have h2 : (r.length : Int) = t.width := by simp at *; assumption
          have hv1 : checkT t = 9 := by rw [hv0, hv, rowsErr, if_neg (by simpa using h2), if_neg (by simpa using h)]
          ((first | apply ret_mk [] | apply end_mk []); (· ((try simp only [CC, LL, EE, QQ, seval]) <;> rfl)); (· ((try simp only [CC, LL, EE, QQ, seval]) <;> repeat' (first | (with_reducible apply And.intro) | rfl | trivial | (exact ⟨_, rfl⟩) | (exact ⟨_, _, _, rfl⟩) | (simp [*, hv1]; done) | (simp [*, hv1]; omega) | (simp_all [hv1]; done) | (simp_all [hv1]; omega)))); all_goals (first | trivial | decide | ((try simp only [CC, LL, EE, QQ, seval]) <;> repeat' (first | (with_reducible apply And.intro) | (exact ⟨_, rfl, rfl, rfl⟩) | (exact ⟨_, _, _, rfl⟩) | (exact ⟨_, rfl⟩) | trivial | rfl | (simp; done)))))
        · have h2 : (r.length : Int) = t.width := by simp at *; assumption
          rw [rowsErr, if_neg (by simpa using h2), if_pos (by simpa using h)] at hv
          refine ⟨⟨k + 1, hkl, hv⟩, ?_, by simp only; omega⟩
          (simp only [GeS]; refine ⟨?_, ?_, ?_, ?_⟩; all_goals (repeat' (first | trivial | (with_reducible rfl) | simp only [CC, LL, EE, QQ, seval] | (with_reducible apply And.intro) | rfl | (refine ⟨_, rfl, ?_⟩) | (simp; done) | omega)))
      · have : k = t.rows.length := by omega
        subst this
        simp only [List.drop_length, rowsErr] at hv
        rw [hv] at hv0
        repeat' (first | simp (maxSteps := 9999999) only [↓GE, PL, PP, EE, QQ, seval] | (simp (disch := omega) only [IntWalk.i64_in]) | (refine go_brD (fun h => ?_) (fun h => ?_)) | (refine go_gsD (by ((try simp only [EE, QQ, seval]) <;> rfl)) (fun h => ?_) (fun h => ?_)) | (refine go_br (fun h => ?_) (fun h => ?_)) | (refine go_gs (by ((try simp only [EE, QQ, seval]) <;> rfl)) (fun h => ?_) (fun h => ?_)) | (with_reducible apply And.intro) | (with_reducible exact trivial) | omega | (simp only [List.length_map, List.length_cons, List.length_nil] at *; omega) | (show _ = true; first | rfl | kernel_rfl))
        all_goals ((first | apply ret_mk [] | apply end_mk []); (· ((try simp only [CC, LL, EE, QQ, seval]) <;> rfl)); (· ((try simp only [CC, LL, EE, QQ, seval]) <;> repeat' (first | (with_reducible apply And.intro) | rfl | trivial | (exact ⟨_, rfl⟩) | (exact ⟨_, _, _, rfl⟩) | (simp [*, hv0]; done) | (simp [*, hv0]; omega) | (simp_all [hv0]; done) | (simp_all [hv0]; omega)))); all_goals (first | trivial | decide | ((try simp only [CC, LL, EE, QQ, seval]) <;> repeat' (first | (with_reducible apply And.intro) | (exact ⟨_, rfl, rfl, rfl⟩) | (exact ⟨_, _, _, rfl⟩) | (exact ⟨_, rfl⟩) | trivial | rfl | (simp; done)))))
end Go.Proofs.Ytilkjcobkdjlkaa.Sim
end
section
namespace Go.Proofs.Ytilkjcobkdjlkaa.Sim
open Go
set_option maxRecDepth 100000
set_option maxHeartbeats 4000000
set_option linter.unusedVariables false
set_option linter.unusedSimpArgs false
attribute [local irreducible] Go Mean
/-- What is wrong with the rows of sets, or 0. -/
def setsErr (p w : Int) : List PSet → Int
  | [] => 0
  | s :: l => if (s.row.length : Int) ≠ w then 2 else if s.row.all (inE p) = true then setsErr p w l else 9
noncomputable def checkC (t : PTab) (c : PChg) : Int := if checkT t ≠ 0 then checkT t else if formF c = false then 2 else if c.fr ≠ t.num then 17 else
  if setsErr t.p t.width c.sets ≠ 0 then setsErr t.p t.width c.sets else if (behindF t.rows.length c.sets : Int) ≠ max 0 (c.count - t.rows.length) then 2 else 0
theorem rowsErr_in (p w : Int) : ∀ l, rowsErr p w l = 0 ∨ rowsErr p w l = 2 ∨ rowsErr p w l = 9
  | [] => .inl rfl
  | r :: l => by simp only [rowsErr]; split; · exact .inr (.inl rfl)
                 split
                 · exact rowsErr_in p w l
                 · exact .inr (.inr rfl)
theorem checkT_ok {t : PTab} (h : checkT t = 0) : fieldB t.p = true ∧ t.rows.length ≤ 1024 ∧ 1 ≤ t.num ∧ t.num < 2147483647 ∧ 1 ≤ t.width ∧ t.width ≤ 64 ∧ rowsErr t.p t.width t.rows = 0 := by
  unfold checkT at h
  split at h
  · cases h
  split at h
  · cases h
  split at h
  · cases h
  split at h
  · cases h
  rename_i h1 h2 h3 h4
  exact ⟨by simpa using h2, by omega, by omega, by omega, by omega, by omega, h⟩
theorem formF_ok {c : PChg} (h : formF c = true) : 1 ≤ c.fr ∧ c.fr < c.tt ∧ c.tt < 2147483647 ∧ 0 ≤ c.count ∧ c.count ≤ 1024 ∧ formGo c.count (-1) c.sets = true := by
  simp only [formF, numF, Bool.and_eq_true, decide_eq_true_eq] at h
  obtain ⟨⟨⟨⟨⟨⟨h1, h2⟩, h3, h4⟩, h5⟩, h6⟩, h7⟩, h8⟩ := h
  exact ⟨h1, h5, h4, h6, h7, h8⟩
theorem behindF_le (x : Int) (l : List PSet) : behindF x l ≤ l.length := List.countP_le_length
theorem ccheck (t : PTab) (c : PChg) (hl : t.rows.length ≤ 17592186044416) (hs : Short t.rows) (hc : c.sets.length ≤ 17592186044416) (hd : ShortS c.sets) : Does Try.prog 90 [vTab t, vChg c] [] (I (checkC t c)) [] [] := by
  refine go_change_Check rfl BxOK.nil fun cx hm0 => go_in 5000 ?_
  unfold ac_change_Check rs_change_Check
  by_cases h1 : checkT t = 0
  case neg =>
    have hv : checkC t c = checkT t := by simp [checkC, h1]
    have h1' : (checkT t != 0) = true := by simpa using h1
    repeat' (first | simp (maxSteps := 9999999) only [↓GE, PL, PP, EE, QQ, seval, h1'] | (simp (disch := omega) only [IntWalk.i64_in]) | (refine go_brD (fun h => ?_) (fun h => ?_)) | (refine go_gsD (by ((try simp only [EE, QQ, seval]) <;> rfl)) (fun h => ?_) (fun h => ?_)) | (refine go_br (fun h => ?_) (fun h => ?_)) | (refine go_gs (by ((try simp only [EE, QQ, seval]) <;> rfl)) (fun h => ?_) (fun h => ?_)) | (apply go_call 5000 (tcheck t hl hs) rfl rfl; (· ((try simp only [CC, LL, NM, EE, QQ, seval]) <;> (first | rfl | ((repeat constructor); done)))); (· exact CallForm.plain rfl); (· ((try simp only [CC, LL, NM, EE, QQ, seval]) <;> (first | rfl | ((repeat constructor); done)))); (· ((try simp only [CC, LL, NM, EE, QQ, seval]) <;> (first | rfl | ((repeat constructor); done))))) | (with_reducible apply And.intro) | (with_reducible exact trivial) | omega | (simp only [List.length_map, List.length_cons, List.length_nil] at *; omega) | (show _ = true; first | rfl | kernel_rfl))
    all_goals ((first | apply ret_mk [] | apply end_mk []); (· ((try simp only [CC, LL, EE, QQ, seval]) <;> rfl)); (· ((try simp only [CC, LL, EE, QQ, seval]) <;> repeat' (first | (with_reducible apply And.intro) | rfl | trivial | (exact ⟨_, rfl⟩) | (exact ⟨_, _, _, rfl⟩) | (simp [*, hv]; done) | (simp [*, hv]; omega) | (simp_all [hv]; done) | (simp_all [hv]; omega)))); all_goals (first | trivial | decide | ((try simp only [CC, LL, EE, QQ, seval]) <;> repeat' (first | (with_reducible apply And.intro) | (exact ⟨_, rfl, rfl, rfl⟩) | (exact ⟨_, _, _, rfl⟩) | (exact ⟨_, rfl⟩) | trivial | rfl | (simp; done)))))
  obtain ⟨hf, hr, hn1, hn2, hw1, hw2, hre⟩ := checkT_ok h1
  cases h2 : formF c with
  | false =>
    have hv : checkC t c = 2 := by simp [checkC, h1, h2]
    repeat' (first | simp (maxSteps := 9999999) only [↓GE, PL, PP, EE, QQ, seval, h1, h2] | (simp (disch := omega) only [IntWalk.i64_in]) | (refine go_brD (fun h => ?_) (fun h => ?_)) | (refine go_gsD (by ((try simp only [EE, QQ, seval]) <;> rfl)) (fun h => ?_) (fun h => ?_)) | (refine go_br (fun h => ?_) (fun h => ?_)) | (refine go_gs (by ((try simp only [EE, QQ, seval]) <;> rfl)) (fun h => ?_) (fun h => ?_)) | (apply go_call 5000 (tcheck t hl hs) rfl rfl; (· ((try simp only [CC, LL, NM, EE, QQ, seval]) <;> (first | rfl | ((repeat constructor); done)))); (· exact CallForm.plain rfl); (· ((try simp only [CC, LL, NM, EE, QQ, seval]) <;> (first | rfl | ((repeat constructor); done)))); (· ((try simp only [CC, LL, NM, EE, QQ, seval]) <;> (first | rfl | ((repeat constructor); done))))) | (apply go_call 5000 (formed c hc) rfl rfl; (· ((try simp only [CC, LL, NM, EE, QQ, seval]) <;> (first | rfl | ((repeat constructor); done)))); (· exact CallForm.plain rfl); (· ((try simp only [CC, LL, NM, EE, QQ, seval]) <;> (first | rfl | ((repeat constructor); done)))); (· ((try simp only [CC, LL, NM, EE, QQ, seval]) <;> (first | rfl | ((repeat constructor); done))))) | (with_reducible apply And.intro) | (with_reducible exact trivial) | omega | (simp only [List.length_map, List.length_cons, List.length_nil] at *; omega) | (show _ = true; first | rfl | kernel_rfl))
    all_goals ((first | apply ret_mk [] | apply end_mk []); (· ((try simp only [CC, LL, EE, QQ, seval]) <;> rfl)); (· ((try simp only [CC, LL, EE, QQ, seval]) <;> repeat' (first | (with_reducible apply And.intro) | rfl | trivial | (exact ⟨_, rfl⟩) | (exact ⟨_, _, _, rfl⟩) | (simp [*, hv]; done) | (simp [*, hv]; omega) | (simp_all [hv]; done) | (simp_all [hv]; omega)))); all_goals (first | trivial | decide | ((try simp only [CC, LL, EE, QQ, seval]) <;> repeat' (first | (with_reducible apply And.intro) | (exact ⟨_, rfl, rfl, rfl⟩) | (exact ⟨_, _, _, rfl⟩) | (exact ⟨_, rfl⟩) | trivial | rfl | (simp; done)))))
  | true =>
    obtain ⟨hf1, hf2, hf3, hf4, hf5, hf6⟩ := formF_ok h2
    have hv0 : checkC t c = if c.fr ≠ t.num then 17 else if setsErr t.p t.width c.sets ≠ 0 then setsErr t.p t.width c.sets else if (behindF t.rows.length c.sets : Int) ≠ max 0 (c.count - t.rows.length) then 2 else 0 := by
      rw [checkC, if_neg (by simp [h1]), if_neg (by simp [h2])]
    repeat' (first | simp (maxSteps := 9999999) only [↓GE, PL, PP, EE, QQ, seval, h1, h2, List.length_map] | (simp (disch := omega) only [IntWalk.i64_in]) | (refine go_brD (fun h => ?_) (fun h => ?_)) | (refine go_gsD (by ((try simp only [EE, QQ, seval]) <;> rfl)) (fun h => ?_) (fun h => ?_)) | (refine go_br (fun h => ?_) (fun h => ?_)) | (refine go_gs (by ((try simp only [EE, QQ, seval]) <;> rfl)) (fun h => ?_) (fun h => ?_)) | (apply go_call 5000 (tcheck t hl hs) rfl rfl; (· ((try simp only [CC, LL, NM, EE, QQ, seval]) <;> (first | rfl | ((repeat constructor); done)))); (· exact CallForm.plain rfl); (· ((try simp only [CC, LL, NM, EE, QQ, seval]) <;> (first | rfl | ((repeat constructor); done)))); (· ((try simp only [CC, LL, NM, EE, QQ, seval]) <;> (first | rfl | ((repeat constructor); done))))) | (apply go_call 5000 (formed c hc) rfl rfl; (· ((try simp only [CC, LL, NM, EE, QQ, seval]) <;> (first | rfl | ((repeat constructor); done)))); (· exact CallForm.plain rfl); (· ((try simp only [CC, LL, NM, EE, QQ, seval]) <;> (first | rfl | ((repeat constructor); done)))); (· ((try simp only [CC, LL, NM, EE, QQ, seval]) <;> (first | rfl | ((repeat constructor); done))))) | (with_reducible apply And.intro) | (with_reducible exact trivial) | omega | (simp only [List.length_map, List.length_cons, List.length_nil] at *; omega) | (show _ = true; first | rfl | kernel_rfl))
    · ((first | apply ret_mk [] | apply end_mk []); (· ((try simp only [CC, LL, EE, QQ, seval]) <;> rfl)); (· ((try simp only [CC, LL, EE, QQ, seval]) <;> repeat' (first | (with_reducible apply And.intro) | rfl | trivial | (exact ⟨_, rfl⟩) | (exact ⟨_, _, _, rfl⟩) | (simp [*, hv0]; done) | (simp [*, hv0]; omega) | (simp_all [hv0]; done) | (simp_all [hv0]; omega)))); all_goals (first | trivial | decide | ((try simp only [CC, LL, EE, QQ, seval]) <;> repeat' (first | (with_reducible apply And.intro) | (exact ⟨_, rfl, rfl, rfl⟩) | (exact ⟨_, _, _, rfl⟩) | (exact ⟨_, rfl⟩) | trivial | rfl | (simp; done)))))
    have h3 : c.fr = t.num := by simpa using h
    rw [if_neg (by simpa using h3)] at hv0
    refine go_loop 5000 hm0 (ι := {k : Nat // k ≤ c.sets.length ∧ setsErr t.p t.width c.sets = setsErr t.p t.width (c.sets.drop k)}) (fun i => [(2, .bp 2 0 0), (3, .bp 3 0 0), (4, I 0), (22, .d (dSets c.sets)), (23, I c.sets.length), (24, I i.1)]) (fun i => [(2, .box 0 [I t.num, I t.p, I t.width, .d (dRows t.rows)]), (3, .box 0 [I c.fr, I c.tt, I c.count, .d (dSets c.sets)])]) (fun i => c.sets.length - i.1) [] ⟨0, by simp⟩ ?_ ?_
    · (simp only [GeS]; refine ⟨?_, ?_, ?_, ?_⟩; all_goals (repeat' (first | trivial | (with_reducible rfl) | simp only [CC, LL, EE, QQ, seval] | (with_reducible apply And.intro) | rfl | (refine ⟨_, rfl, ?_⟩) | (simp; done) | omega)))
    · rintro ⟨k, hk, hv⟩
      by_cases hkl : k < c.sets.length
      · have hs' := getD_map eSet [] noSet c.sets k hkl
        have hr := hd _ (mem_getD noSet c.sets k hkl)
        rw [drop_get noSet _ _ hkl] at hv
        generalize c.sets.getD k noSet = r at hs' hv hr
        have hq := allF t.p r.row hr
        repeat' (first | simp (maxSteps := 9999999) only [↓GE, PL, PP, EE, QQ, seval, hs', eSet, List.length_map] | (simp (disch := omega) only [IntWalk.i64_in]) | (refine go_brD (fun h => ?_) (fun h => ?_)) | (refine go_gsD (by ((try simp only [EE, QQ, seval]) <;> rfl)) (fun h => ?_) (fun h => ?_)) | (refine go_br (fun h => ?_) (fun h => ?_)) | (refine go_gs (by ((try simp only [EE, QQ, seval]) <;> rfl)) (fun h => ?_) (fun h => ?_)) | (apply go_call 5000 (hq) rfl rfl; (· ((try simp only [CC, LL, NM, EE, QQ, seval]) <;> (first | rfl | ((repeat constructor); done)))); (· exact CallForm.plain rfl); (· ((try simp only [CC, LL, NM, EE, QQ, seval]) <;> (first | rfl | ((repeat constructor); done)))); (· ((try simp only [CC, LL, NM, EE, QQ, seval]) <;> (first | rfl | ((repeat constructor); done))))) | (with_reducible apply And.intro) | (with_reducible exact trivial) | omega | (simp only [List.length_map, List.length_cons, List.length_nil] at *; omega) | (show _ = true; first | rfl | kernel_rfl))
        · have h2 : (r.row.length : Int) ≠ t.width := by simpa using h
          have hv1 : checkC t c = 2 := by rw [hv0, hv, setsErr, if_pos h2]; rfl
          ((first | apply ret_mk [] | apply end_mk []); (· ((try simp only [CC, LL, EE, QQ, seval]) <;> rfl)); (· ((try simp only [CC, LL, EE, QQ, seval]) <;> repeat' (first | (with_reducible apply And.intro) | rfl | trivial | (exact ⟨_, rfl⟩) | (exact ⟨_, _, _, rfl⟩) | (simp [*, hv1]; done) | (simp [*, hv1]; omega) | (simp_all [hv1]; done) | (simp_all [hv1]; omega)))); all_goals (first | trivial | decide | ((try simp only [CC, LL, EE, QQ, seval]) <;> repeat' (first | (with_reducible apply And.intro) | (exact ⟨_, rfl, rfl, rfl⟩) | (exact ⟨_, _, _, rfl⟩) | (exact ⟨_, rfl⟩) | trivial | rfl | (simp; done)))))
        · have h2 : (r.row.length : Int) = t.width := by simp at *; assumption
          have he : setsErr t.p t.width c.sets = 9 := by rw [hv, setsErr, if_neg (by simpa using h2), if_neg (by simpa using h)]
          have hv1 : checkC t c = 9 := by rw [hv0, he]; rfl
          ((first | apply ret_mk [] | apply end_mk []); (· ((try simp only [CC, LL, EE, QQ, seval]) <;> rfl)); (· ((try simp only [CC, LL, EE, QQ, seval]) <;> repeat' (first | (with_reducible apply And.intro) | rfl | trivial | (exact ⟨_, rfl⟩) | (exact ⟨_, _, _, rfl⟩) | (simp [*, hv1]; done) | (simp [*, hv1]; omega) | (simp_all [hv1]; done) | (simp_all [hv1]; omega)))); all_goals (first | trivial | decide | ((try simp only [CC, LL, EE, QQ, seval]) <;> repeat' (first | (with_reducible apply And.intro) | (exact ⟨_, rfl, rfl, rfl⟩) | (exact ⟨_, _, _, rfl⟩) | (exact ⟨_, rfl⟩) | trivial | rfl | (simp; done)))))
        · have h2 : (r.row.length : Int) = t.width := by simp at *; assumption
          rw [setsErr, if_neg (by simpa using h2), if_pos (by simpa using h)] at hv
          refine ⟨⟨k + 1, hkl, hv⟩, ?_, by simp only; omega⟩
          (simp only [GeS]; refine ⟨?_, ?_, ?_, ?_⟩; all_goals (repeat' (first | trivial | (with_reducible rfl) | simp only [CC, LL, EE, QQ, seval] | (with_reducible apply And.intro) | rfl | (refine ⟨_, rfl, ?_⟩) | (simp; done) | omega)))
      · have : k = c.sets.length := by omega
        subst this
        simp only [List.drop_length, setsErr] at hv
        rw [hv, if_neg (by simp)] at hv0
        have hbl := behindF_le t.rows.length c.sets
        repeat' (first | simp (maxSteps := 9999999) only [↓GE, PL, PP, EE, QQ, seval, List.length_map] | (simp (disch := omega) only [IntWalk.i64_in]) | (refine go_brD (fun h => ?_) (fun h => ?_)) | (refine go_gsD (by ((try simp only [EE, QQ, seval]) <;> rfl)) (fun h => ?_) (fun h => ?_)) | (refine go_br (fun h => ?_) (fun h => ?_)) | (refine go_gs (by ((try simp only [EE, QQ, seval]) <;> rfl)) (fun h => ?_) (fun h => ?_)) | (apply go_call 5000 (behind c _ hc) rfl rfl; (· ((try simp only [CC, LL, NM, EE, QQ, seval]) <;> (first | rfl | ((repeat constructor); done)))); (· exact CallForm.plain rfl); (· ((try simp only [CC, LL, NM, EE, QQ, seval]) <;> (first | rfl | ((repeat constructor); done)))); (· ((try simp only [CC, LL, NM, EE, QQ, seval]) <;> (first | rfl | ((repeat constructor); done))))) | (with_reducible apply And.intro) | (with_reducible exact trivial) | omega | (simp only [List.length_map, List.length_cons, List.length_nil] at *; omega) | (show _ = true; first | rfl | kernel_rfl))
        all_goals ((first | apply ret_mk [] | apply end_mk []); (· ((try simp only [CC, LL, EE, QQ, seval]) <;> rfl)); (· ((try simp only [CC, LL, EE, QQ, seval]) <;> repeat' (first | (with_reducible apply And.intro) | rfl | trivial | (exact ⟨_, rfl⟩) | (exact ⟨_, _, _, rfl⟩) | (simp [*, hv0]; done) | (simp [*, hv0]; omega) | (simp_all [hv0]; done) | (simp_all [hv0]; omega)))); all_goals (first | trivial | decide | ((try simp only [CC, LL, EE, QQ, seval]) <;> repeat' (first | (with_reducible apply And.intro) | (exact ⟨_, rfl, rfl, rfl⟩) | (exact ⟨_, _, _, rfl⟩) | (exact ⟨_, rfl⟩) | trivial | rfl | (simp; done)))))
theorem formGo_step {count last : Int} {s : PSet} {r : List PSet} (h1 : ¬s.idx ≤ last) (h2 : ¬s.idx ≥ count) : formGo count last (s :: r) = formGo count s.idx r := by rw [formGo, if_neg (by omega)]
theorem formGo_no {count last : Int} {s : PSet} {r : List PSet} (h : s.idx ≤ last ∨ s.idx ≥ count) : formGo count last (s :: r) = false := by rw [formGo, if_pos h]
theorem r15form (c : PChg) (hc : c.sets.length ≤ 17592186044416) : Does Try.prog 85 [vChg c] [] (B (formF c)) [] [] := by
  refine go_ref15_form rfl BxOK.nil fun cx hm0 => go_in 5000 ?_
  unfold ac_ref15_form rs_ref15_form
  repeat' (first | simp (maxSteps := 9999999) only [↓GE, PL, PP, EE, QQ, seval] | (simp (disch := omega) only [IntWalk.i64_in]) | (refine go_brD (fun h => ?_) (fun h => ?_)) | (refine go_gsD (by ((try simp only [EE, QQ, seval]) <;> rfl)) (fun h => ?_) (fun h => ?_)) | (refine go_br (fun h => ?_) (fun h => ?_)) | (refine go_gs (by ((try simp only [EE, QQ, seval]) <;> rfl)) (fun h => ?_) (fun h => ?_)) | (with_reducible apply And.intro) | (with_reducible exact trivial) | omega | (simp only [List.length_map, List.length_cons, List.length_nil] at *; omega) | (show _ = true; first | rfl | kernel_rfl))
  any_goals ((first | apply ret_mk [] | apply end_mk []); (· ((try simp only [CC, LL, EE, QQ, seval]) <;> rfl)); (· ((try simp only [CC, LL, EE, QQ, seval]) <;> repeat' (first | (with_reducible apply And.intro) | rfl | trivial | (exact ⟨_, rfl⟩) | (exact ⟨_, _, _, rfl⟩) | (simp [*, formF, numF]; done) | (simp [*, formF, numF]; omega) | (simp_all [formF, numF]; done) | (simp_all [formF, numF]; omega)))); all_goals (first | trivial | decide | ((try simp only [CC, LL, EE, QQ, seval]) <;> repeat' (first | (with_reducible apply And.intro) | (exact ⟨_, rfl, rfl, rfl⟩) | (exact ⟨_, _, _, rfl⟩) | (exact ⟨_, rfl⟩) | trivial | rfl | (simp; done)))))
  have hv0 : formF c = formGo c.count (-1) c.sets := by
    have e1 : numF c.fr = true := by simp only [numF, Bool.and_eq_true, decide_eq_true_eq]; omega
    have e2 : numF c.tt = true := by simp only [numF, Bool.and_eq_true, decide_eq_true_eq]; omega
    simp only [formF, e1, e2, Bool.true_and]
    rw [decide_eq_true (by omega), decide_eq_true (by omega), decide_eq_true (by omega)]; rfl
  refine go_loop 5000 hm0 (ι := {p : Nat × Int // p.1 ≤ c.sets.length ∧ formGo c.count (-1) c.sets = formGo c.count p.2 (c.sets.drop p.1) ∧ ((p.1 = 0 ∧ p.2 = -1) ∨ (0 < p.1 ∧ 0 ≤ p.2 ∧ p.2 = (c.sets.getD (p.1 - 1) noSet).idx))}) (fun i => [(1, .bp 1 0 0), (2, B false), (31, .d (dSets c.sets)), (32, I c.sets.length), (33, I i.1.1)]) (fun i => [(1, .box 0 [I c.fr, I c.tt, I c.count, .d (dSets c.sets)])]) (fun i => c.sets.length - i.1.1) [] ⟨(0, -1), by simp⟩ ?_ ?_
  · (simp only [GeS]; refine ⟨?_, ?_, ?_, ?_⟩; all_goals (repeat' (first | trivial | (with_reducible rfl) | simp only [CC, LL, EE, QQ, seval] | (with_reducible apply And.intro) | rfl | (refine ⟨_, rfl, ?_⟩) | (simp; done) | omega)))
  · rintro ⟨⟨k, last⟩, hk, hv, hw⟩
    by_cases hkl : k < c.sets.length
    · have hs' := getD_map eSet [] noSet c.sets k hkl
      rw [drop_get noSet _ _ hkl] at hv
      have hu : c.sets.getD (k + 1 - 1) noSet = c.sets.getD k noSet := rfl
      generalize c.sets.getD k noSet = s at hs' hv hu
      rcases hw with ⟨hw1, hw2⟩ | ⟨hw1, hw2, hw3⟩
      · simp only at hw1 hw2
        subst hw1 hw2
        repeat' (first | simp (maxSteps := 9999999) only [↓GE, PL, PP, EE, QQ, seval, hs', eSet] | (simp (disch := omega) only [IntWalk.i64_in]) | (refine go_brD (fun h => ?_) (fun h => ?_)) | (refine go_gsD (by ((try simp only [EE, QQ, seval]) <;> rfl)) (fun h => ?_) (fun h => ?_)) | (refine go_br (fun h => ?_) (fun h => ?_)) | (refine go_gs (by ((try simp only [EE, QQ, seval]) <;> rfl)) (fun h => ?_) (fun h => ?_)) | (with_reducible apply And.intro) | (with_reducible exact trivial) | omega | (simp only [List.length_map, List.length_cons, List.length_nil] at *; omega) | (show _ = true; first | rfl | kernel_rfl))
        · have hv1 : formF c = false := by rw [hv0, hv]; exact formGo_no (by simp only; omega)
          ((first | apply ret_mk [] | apply end_mk []); (· ((try simp only [CC, LL, EE, QQ, seval]) <;> rfl)); (· ((try simp only [CC, LL, EE, QQ, seval]) <;> repeat' (first | (with_reducible apply And.intro) | rfl | trivial | (exact ⟨_, rfl⟩) | (exact ⟨_, _, _, rfl⟩) | (simp [*, hv1]; done) | (simp [*, hv1]; omega) | (simp_all [hv1]; done) | (simp_all [hv1]; omega)))); all_goals (first | trivial | decide | ((try simp only [CC, LL, EE, QQ, seval]) <;> repeat' (first | (with_reducible apply And.intro) | (exact ⟨_, rfl, rfl, rfl⟩) | (exact ⟨_, _, _, rfl⟩) | (exact ⟨_, rfl⟩) | trivial | rfl | (simp; done)))))
        · have hv1 : formF c = false := by rw [hv0, hv]; exact formGo_no (by simp only; omega)
          ((first | apply ret_mk [] | apply end_mk []); (· ((try simp only [CC, LL, EE, QQ, seval]) <;> rfl)); (· ((try simp only [CC, LL, EE, QQ, seval]) <;> repeat' (first | (with_reducible apply And.intro) | rfl | trivial | (exact ⟨_, rfl⟩) | (exact ⟨_, _, _, rfl⟩) | (simp [*, hv1]; done) | (simp [*, hv1]; omega) | (simp_all [hv1]; done) | (simp_all [hv1]; omega)))); all_goals (first | trivial | decide | ((try simp only [CC, LL, EE, QQ, seval]) <;> repeat' (first | (with_reducible apply And.intro) | (exact ⟨_, rfl, rfl, rfl⟩) | (exact ⟨_, _, _, rfl⟩) | (exact ⟨_, rfl⟩) | trivial | rfl | (simp; done)))))
        simp only at hv
        rw [formGo_step (by omega) (by omega)] at hv
        refine ⟨⟨(0 + 1, s.idx), hkl, hv, .inr ⟨by simp, by simp only; omega, by simp only [hu]⟩⟩, ?_, by simp only; omega⟩
        (simp only [GeS]; refine ⟨?_, ?_, ?_, ?_⟩; all_goals (repeat' (first | trivial | (with_reducible rfl) | simp only [CC, LL, EE, QQ, seval] | (with_reducible apply And.intro) | rfl | (refine ⟨_, rfl, ?_⟩) | (simp; done) | omega)))
      · have hs2 := getD_map eSet [] noSet c.sets (k - 1) (by simp only at hk; omega)
        have hix : ((k : Int) - 1).toNat = k - 1 := by omega
        simp only at hw1 hw2 hw3
        obtain ⟨s2, hs3⟩ : ∃ s2, s2 = c.sets.getD (k - 1) noSet := ⟨_, rfl⟩
        rw [← hs3] at hs2 hw3
        subst hw3
        repeat' (first | simp (maxSteps := 9999999) only [↓GE, PL, PP, EE, QQ, seval, hs', hs2, hix, eSet] | (simp (disch := omega) only [IntWalk.i64_in]) | (refine go_brD (fun h => ?_) (fun h => ?_)) | (refine go_gsD (by ((try simp only [EE, QQ, seval]) <;> rfl)) (fun h => ?_) (fun h => ?_)) | (refine go_br (fun h => ?_) (fun h => ?_)) | (refine go_gs (by ((try simp only [EE, QQ, seval]) <;> rfl)) (fun h => ?_) (fun h => ?_)) | (with_reducible apply And.intro) | (with_reducible exact trivial) | omega | (simp only [List.length_map, List.length_cons, List.length_nil] at *; omega) | (show _ = true; first | rfl | kernel_rfl))
        · have hv1 : formF c = false := by rw [hv0, hv]; exact formGo_no (by simp only; omega)
          ((first | apply ret_mk [] | apply end_mk []); (· ((try simp only [CC, LL, EE, QQ, seval]) <;> rfl)); (· ((try simp only [CC, LL, EE, QQ, seval]) <;> repeat' (first | (with_reducible apply And.intro) | rfl | trivial | (exact ⟨_, rfl⟩) | (exact ⟨_, _, _, rfl⟩) | (simp [*, hv1]; done) | (simp [*, hv1]; omega) | (simp_all [hv1]; done) | (simp_all [hv1]; omega)))); all_goals (first | trivial | decide | ((try simp only [CC, LL, EE, QQ, seval]) <;> repeat' (first | (with_reducible apply And.intro) | (exact ⟨_, rfl, rfl, rfl⟩) | (exact ⟨_, _, _, rfl⟩) | (exact ⟨_, rfl⟩) | trivial | rfl | (simp; done)))))
        · have hv1 : formF c = false := by rw [hv0, hv]; exact formGo_no (by simp only; omega)
          ((first | apply ret_mk [] | apply end_mk []); (· ((try simp only [CC, LL, EE, QQ, seval]) <;> rfl)); (· ((try simp only [CC, LL, EE, QQ, seval]) <;> repeat' (first | (with_reducible apply And.intro) | rfl | trivial | (exact ⟨_, rfl⟩) | (exact ⟨_, _, _, rfl⟩) | (simp [*, hv1]; done) | (simp [*, hv1]; omega) | (simp_all [hv1]; done) | (simp_all [hv1]; omega)))); all_goals (first | trivial | decide | ((try simp only [CC, LL, EE, QQ, seval]) <;> repeat' (first | (with_reducible apply And.intro) | (exact ⟨_, rfl, rfl, rfl⟩) | (exact ⟨_, _, _, rfl⟩) | (exact ⟨_, rfl⟩) | trivial | rfl | (simp; done)))))
        · have hv1 : formF c = false := by rw [hv0, hv]; exact formGo_no (by simp only; omega)
          ((first | apply ret_mk [] | apply end_mk []); (· ((try simp only [CC, LL, EE, QQ, seval]) <;> rfl)); (· ((try simp only [CC, LL, EE, QQ, seval]) <;> repeat' (first | (with_reducible apply And.intro) | rfl | trivial | (exact ⟨_, rfl⟩) | (exact ⟨_, _, _, rfl⟩) | (simp [*, hv1]; done) | (simp [*, hv1]; omega) | (simp_all [hv1]; done) | (simp_all [hv1]; omega)))); all_goals (first | trivial | decide | ((try simp only [CC, LL, EE, QQ, seval]) <;> repeat' (first | (with_reducible apply And.intro) | (exact ⟨_, rfl, rfl, rfl⟩) | (exact ⟨_, _, _, rfl⟩) | (exact ⟨_, rfl⟩) | trivial | rfl | (simp; done)))))
        simp only at hv
        rw [formGo_step (by omega) (by omega)] at hv
        refine ⟨⟨(k + 1, s.idx), hkl, hv, .inr ⟨by simp, by simp only; omega, by simp only [hu]⟩⟩, ?_, by simp only; omega⟩
        (simp only [GeS]; refine ⟨?_, ?_, ?_, ?_⟩; all_goals (repeat' (first | trivial | (with_reducible rfl) | simp only [CC, LL, EE, QQ, seval] | (with_reducible apply And.intro) | rfl | (refine ⟨_, rfl, ?_⟩) | (simp; done) | omega)))
    · have : k = c.sets.length := by simp only at hk; omega
      subst this
      simp only [List.drop_length, formGo] at hv
      rw [hv] at hv0
      repeat' (first | simp (maxSteps := 9999999) only [↓GE, PL, PP, EE, QQ, seval] | (simp (disch := omega) only [IntWalk.i64_in]) | (refine go_brD (fun h => ?_) (fun h => ?_)) | (refine go_gsD (by ((try simp only [EE, QQ, seval]) <;> rfl)) (fun h => ?_) (fun h => ?_)) | (refine go_br (fun h => ?_) (fun h => ?_)) | (refine go_gs (by ((try simp only [EE, QQ, seval]) <;> rfl)) (fun h => ?_) (fun h => ?_)) | (with_reducible apply And.intro) | (with_reducible exact trivial) | omega | (simp only [List.length_map, List.length_cons, List.length_nil] at *; omega) | (show _ = true; first | rfl | kernel_rfl))
      all_goals ((first | apply ret_mk [] | apply end_mk []); (· ((try simp only [CC, LL, EE, QQ, seval]) <;> rfl)); (· ((try simp only [CC, LL, EE, QQ, seval]) <;> repeat' (first | (with_reducible apply And.intro) | rfl | trivial | (exact ⟨_, rfl⟩) | (exact ⟨_, _, _, rfl⟩) | (simp [*, hv0]; done) | (simp [*, hv0]; omega) | (simp_all [hv0]; done) | (simp_all [hv0]; omega)))); all_goals (first | trivial | decide | ((try simp only [CC, LL, EE, QQ, seval]) <;> repeat' (first | (with_reducible apply And.intro) | (exact ⟨_, rfl, rfl, rfl⟩) | (exact ⟨_, _, _, rfl⟩) | (exact ⟨_, rfl⟩) | trivial | rfl | (simp; done)))))
end Go.Proofs.Ytilkjcobkdjlkaa.Sim
end
section
namespace Go.Proofs.Ytilkjcobkdjlkaa.Sim
open Go
set_option linter.unusedVariables false
/-- The row that is set at an index. -/
def findF (x : Int) : List PSet → Option (List Int)
  | [] => none
  | s :: r => if s.idx = x then some s.row else findF x r
theorem formGo_cons {count last : Int} {s : PSet} {r : List PSet} : formGo count last (s :: r) = true ↔ last < s.idx ∧ s.idx < count ∧ formGo count s.idx r = true := by
  rw [formGo]
  split
  · constructor
    · intro h; cases h
    · rintro ⟨h1, h2, _⟩; omega
  · exact ⟨fun h => ⟨by omega, by omega, h⟩, fun h => h.2.2⟩
theorem formGo_in {count : Int} : ∀ {l : List PSet} {last : Int}, formGo count last l = true → ∀ s ∈ l, last < s.idx ∧ s.idx < count
  | [], _, _ => by simp
  | s :: r, last, h => by
    obtain ⟨h1, h2, h3⟩ := formGo_cons.1 h
    intro t ht
    rcases List.mem_cons.1 ht with rfl | ht
    · exact ⟨h1, h2⟩
    · have := formGo_in h3 t ht
      omega
theorem formGo_len {count : Int} : ∀ {l : List PSet} {last : Int}, formGo count last l = true → last < count → (l.length : Int) ≤ count - 1 - last
  | [], _, _, _ => by simp; omega
  | s :: r, last, h, hl => by
    obtain ⟨h1, h2, h3⟩ := formGo_cons.1 h
    have := formGo_len h3 h2
    simp only [List.length_cons]
    omega
theorem findF_none {x : Int} : ∀ {l : List PSet}, (∀ s ∈ l, s.idx ≠ x) → findF x l = none
  | [], _ => rfl
  | s :: r, h => by
    rw [findF, if_neg (h s List.mem_cons_self)]
    exact findF_none fun t ht => h t (List.mem_cons_of_mem _ ht)
theorem behindF_all {x : Int} {l : List PSet} (h : ∀ s ∈ l, s.idx ≥ x) : behindF x l = l.length := by
  rw [behindF, List.countP_eq_length]
  exact fun s hs => by simpa using h s hs
theorem behind_all {count : Int} : ∀ {l : List PSet} {last x : Int}, formGo count last l = true → ((behindF x l : Int) = max 0 (count - x) ↔ ∀ i, x ≤ i → i < count → (findF i l).isSome = true)
  | [], last, x, h => by
    simp only [behindF, List.countP_nil, findF, Option.isSome_none]
    constructor
    · intro h2 i h3 h4; exfalso; have : (0 : Int) = max 0 (count - x) := h2; omega
    · intro h2
      have : ¬x < count := fun h3 => by have := h2 x (Int.le_refl _) h3; cases this
      show (0 : Int) = max 0 (count - x)
      omega
  | s :: r, last, x, h => by
    obtain ⟨h1, h2, h3⟩ := formGo_cons.1 h
    have hin := formGo_in h3
    have hlen := formGo_len h3 h2
    by_cases hx : s.idx < x
    · have e1 : behindF x (s :: r) = behindF x r := by simp only [behindF, List.countP_cons]; rw [if_neg (by simpa using hx)]; rfl
      rw [e1, behind_all h3]
      constructor
      · intro g i g1 g2; rw [findF, if_neg (by omega)]; exact g i g1 g2
      · intro g i g1 g2; have := g i g1 g2; rwa [findF, if_neg (by omega)] at this
    · have e1 : behindF x (s :: r) = (s :: r).length := behindF_all fun t ht => by
        rcases List.mem_cons.1 ht with rfl | ht
        · omega
        · have := hin t ht; omega
      rw [e1, List.length_cons]
      by_cases he : s.idx = x
      · have e2 : behindF (x + 1) r = r.length := behindF_all fun t ht => by have := hin t ht; omega
        have ih := behind_all (x := x + 1) h3
        rw [e2] at ih
        constructor
        · intro g i g1 g2
          rw [findF]
          split
          · rfl
          · exact (ih.1 (by omega)) i (by omega) g2
        · intro g
          have := ih.2 fun i g1 g2 => by have := g i (by omega) g2; rwa [findF, if_neg (by omega)] at this
          omega
      · constructor
        · intro g; exfalso; omega
        · intro g
          have := g x (Int.le_refl _) (by omega)
          rw [findF_none fun t ht => by
            rcases List.mem_cons.1 ht with rfl | ht
            · exact he
            · have := hin t ht; omega] at this
          cases this
end Go.Proofs.Ytilkjcobkdjlkaa.Sim
end
section
namespace Go.Proofs.Ytilkjcobkdjlkaa.Sim
open Go
set_option linter.unusedVariables false
/-- Rows, with sets written over them. -/
def setAll : List (List Int) → List PSet → List (List Int)
  | cur, [] => cur
  | cur, s :: r => setAll (cur.set s.idx.toNat s.row) r
theorem setAll_len : ∀ {l : List PSet} {cur : List (List Int)}, (setAll cur l).length = cur.length
  | [], _ => rfl
  | s :: r, cur => by rw [setAll, setAll_len, List.length_set]
theorem getD_set {α : Type} (z : α) (l : List α) (i j : Nat) (x : α) : (l.set i x).getD j z = if i = j ∧ j < l.length then x else l.getD j z := by
  simp only [List.getD_eq_getElem?_getD, List.getElem?_set]
  by_cases h : i = j
  · subst h
    by_cases h2 : i < l.length
    · simp [h2]
    · simp [h2]
  · simp [h]
theorem setAll_get {count : Int} : ∀ {l : List PSet} {last : Int} {cur : List (List Int)}, formGo count last l = true → -1 ≤ last → count ≤ cur.length → ∀ i : Nat, (setAll cur l).getD i [] = (findF i l).getD (cur.getD i [])
  | [], _, _, _, _, _, _ => rfl
  | s :: r, last, cur, h, h0, hc, i => by
    obtain ⟨h1, h2, h3⟩ := formGo_cons.1 h
    have hin := formGo_in h3
    rw [setAll, setAll_get h3 (by omega) (by simpa using hc) i, findF, getD_set]
    by_cases he : s.idx = (i : Int)
    · rw [if_pos he, if_pos (by omega), findF_none fun t ht => by have := hin t ht; omega]
      rfl
    · rw [if_neg he, if_neg (by omega)]
theorem take_succ_getD {α : Type} (w : α) : ∀ (l : List α) (k : Nat), k < l.length → l.take (k + 1) = l.take k ++ [l.getD k w]
  | [], k, h => by simp at h
  | x :: l, 0, h => by simp
  | x :: l, k + 1, h => by
    have := take_succ_getD w l k (by simpa using h)
    simp only [List.take_succ_cons, List.getD_cons_succ, this, List.cons_append]
theorem findF_mem {x : Int} : ∀ {l : List PSet} {r : List Int}, findF x l = some r → ∃ s ∈ l, s.row = r
  | [], r, h => by cases h
  | s :: l, r, h => by
    rw [findF] at h
    split at h
    · cases h; exact ⟨s, by simp, rfl⟩
    · obtain ⟨s', h1, h2⟩ := findF_mem h
      exact ⟨s', by simp [h1], h2⟩
/-- What a change makes of rows. -/
def applyRows (rows : List (List Int)) (c : PChg) : List (List Int) := (List.range c.count.toNat).map fun (i : Nat) => (findF i c.sets).getD (rows.getD i [])
theorem applyRows_len {rows : List (List Int)} {c : PChg} : (applyRows rows c).length = c.count.toNat := by simp [applyRows]
theorem applyRows_get {rows : List (List Int)} {c : PChg} {i : Nat} (h : i < c.count.toNat) : (applyRows rows c).getD i [] = (findF i c.sets).getD (rows.getD i []) := by
  simp [applyRows, List.getD_eq_getElem?_getD, h]
/-- The rows that stay, and room for the others. -/
def baseRows (rows : List (List Int)) (n : Nat) : List (List Int) := (List.range n).map fun i => rows.getD i []
theorem eq_getD (a b : List (List Int)) (h : a.length = b.length) : a = b ↔ ∀ k, k < a.length → a.getD k [] = b.getD k [] := by
  constructor
  · rintro rfl _ _; rfl
  · intro hk
    apply List.ext_getElem h
    intro i h1 h2
    have := hk i h1
    simpa [List.getD_eq_getElem?_getD, h1, h2] using this
theorem setAll_apply {rows : List (List Int)} {c : PChg} (h : formGo c.count (-1) c.sets = true) (h0 : 0 ≤ c.count) (cur : List (List Int)) (hl : cur.length = c.count.toNat) (hg : ∀ i, i < c.count.toNat → cur.getD i [] = rows.getD i []) : setAll cur c.sets = applyRows rows c := by
  apply (eq_getD _ _ (by rw [setAll_len, applyRows_len, hl])).2
  intro k hk
  rw [setAll_len, hl] at hk
  rw [setAll_get h (by omega) (by omega) k, applyRows_get hk, hg k hk]
end Go.Proofs.Ytilkjcobkdjlkaa.Sim
end
section
namespace Go.Proofs.Ytilkjcobkdjlkaa.Sim
open Go
set_option maxRecDepth 100000
set_option maxHeartbeats 4000000
set_option linter.unusedVariables false
set_option linter.unusedSimpArgs false
attribute [local irreducible] Go Mean
theorem r15find (c : PChg) (x : Int) (hc : c.sets.length ≤ 17592186044416) : Does Try.prog 78 [vChg c, I x] [] (.tu [.d (dInts ((findF x c.sets).getD [])), B (findF x c.sets).isSome]) [] [] := by
  refine go_ref15_find rfl BxOK.nil fun cx hm0 => go_in 5000 ?_
  unfold ac_ref15_find rs_ref15_find
  repeat' (first | simp (maxSteps := 9999999) only [↓GE, PL, PP, EE, QQ, seval] | (simp (disch := omega) only [IntWalk.i64_in]) | (refine go_brD (fun h => ?_) (fun h => ?_)) | (refine go_gsD (by ((try simp only [EE, QQ, seval]) <;> rfl)) (fun h => ?_) (fun h => ?_)) | (refine go_br (fun h => ?_) (fun h => ?_)) | (refine go_gs (by ((try simp only [EE, QQ, seval]) <;> rfl)) (fun h => ?_) (fun h => ?_)) | (with_reducible apply And.intro) | (with_reducible exact trivial) | omega | (simp only [List.length_map, List.length_cons, List.length_nil] at *; omega) | (show _ = true; first | rfl | kernel_rfl))
  refine go_loop 5000 hm0 (ι := {k : Nat // k ≤ c.sets.length ∧ findF x c.sets = findF x (c.sets.drop k)}) (fun i => [(1, I x), (2, .bp 2 0 0), (4, .nl 1), (5, B false), (9, .d (dSets c.sets)), (10, I c.sets.length), (11, I i.1)]) (fun i => [(2, .box 0 [I c.fr, I c.tt, I c.count, .d (dSets c.sets)])]) (fun i => c.sets.length - i.1) [] ⟨0, by simp⟩ ?_ ?_
  · (simp only [GeS]; refine ⟨?_, ?_, ?_, ?_⟩; all_goals (repeat' (first | trivial | (with_reducible rfl) | simp only [CC, LL, EE, QQ, seval] | (with_reducible apply And.intro) | rfl | (refine ⟨_, rfl, ?_⟩) | (simp; done) | omega)))
  · rintro ⟨k, hk, hv⟩
    by_cases hkl : k < c.sets.length
    · have hs' := getD_map eSet [] noSet c.sets k hkl
      rw [drop_get noSet _ _ hkl, findF] at hv
      generalize c.sets.getD k noSet = s at hs' hv
      repeat' (first | simp (maxSteps := 9999999) only [↓GE, PL, PP, EE, QQ, seval, hs', eSet] | (simp (disch := omega) only [IntWalk.i64_in]) | (refine go_brD (fun h => ?_) (fun h => ?_)) | (refine go_gsD (by ((try simp only [EE, QQ, seval]) <;> rfl)) (fun h => ?_) (fun h => ?_)) | (refine go_br (fun h => ?_) (fun h => ?_)) | (refine go_gs (by ((try simp only [EE, QQ, seval]) <;> rfl)) (fun h => ?_) (fun h => ?_)) | (with_reducible apply And.intro) | (with_reducible exact trivial) | omega | (simp only [List.length_map, List.length_cons, List.length_nil] at *; omega) | (show _ = true; first | rfl | kernel_rfl))
      · rw [if_pos (by simpa using h)] at hv
        ((first | apply ret_mk [] | apply end_mk []); (· ((try simp only [CC, LL, EE, QQ, seval]) <;> rfl)); (· ((try simp only [CC, LL, EE, QQ, seval]) <;> repeat' (first | (with_reducible apply And.intro) | rfl | trivial | (exact ⟨_, rfl⟩) | (exact ⟨_, _, _, rfl⟩) | (simp [*, hv]; done) | (simp [*, hv]; omega) | (simp_all [hv]; done) | (simp_all [hv]; omega)))); all_goals (first | trivial | decide | ((try simp only [CC, LL, EE, QQ, seval]) <;> repeat' (first | (with_reducible apply And.intro) | (exact ⟨_, rfl, rfl, rfl⟩) | (exact ⟨_, _, _, rfl⟩) | (exact ⟨_, rfl⟩) | trivial | rfl | (simp; done)))))
      · rw [if_neg (by simpa using h)] at hv
        refine ⟨⟨k + 1, hkl, hv⟩, ?_, by simp only; omega⟩
        (simp only [GeS]; refine ⟨?_, ?_, ?_, ?_⟩; all_goals (repeat' (first | trivial | (with_reducible rfl) | simp only [CC, LL, EE, QQ, seval] | (with_reducible apply And.intro) | rfl | (refine ⟨_, rfl, ?_⟩) | (simp; done) | omega)))
    · have : k = c.sets.length := by omega
      subst this
      simp only [List.drop_length, findF] at hv
      repeat' (first | simp (maxSteps := 9999999) only [↓GE, PL, PP, EE, QQ, seval] | (simp (disch := omega) only [IntWalk.i64_in]) | (refine go_brD (fun h => ?_) (fun h => ?_)) | (refine go_gsD (by ((try simp only [EE, QQ, seval]) <;> rfl)) (fun h => ?_) (fun h => ?_)) | (refine go_br (fun h => ?_) (fun h => ?_)) | (refine go_gs (by ((try simp only [EE, QQ, seval]) <;> rfl)) (fun h => ?_) (fun h => ?_)) | (with_reducible apply And.intro) | (with_reducible exact trivial) | omega | (simp only [List.length_map, List.length_cons, List.length_nil] at *; omega) | (show _ = true; first | rfl | kernel_rfl))
      all_goals ((first | apply ret_mk [] | apply end_mk []); (· ((try simp only [CC, LL, EE, QQ, seval]) <;> rfl)); (· ((try simp only [CC, LL, EE, QQ, seval]) <;> repeat' (first | (with_reducible apply And.intro) | rfl | trivial | (exact ⟨_, rfl⟩) | (exact ⟨_, _, _, rfl⟩) | (simp [*, hv]; done) | (simp [*, hv]; omega) | (simp_all [hv]; done) | (simp_all [hv]; omega)))); all_goals (first | trivial | decide | ((try simp only [CC, LL, EE, QQ, seval]) <;> repeat' (first | (with_reducible apply And.intro) | (exact ⟨_, rfl, rfl, rfl⟩) | (exact ⟨_, _, _, rfl⟩) | (exact ⟨_, rfl⟩) | trivial | rfl | (simp; done)))))
theorem r15check (t : PTab) (c : PChg) (hl : t.rows.length ≤ 17592186044416) (hs : Short t.rows) (hc : c.sets.length ≤ 17592186044416) (hd : ShortS c.sets) : Does Try.prog 77 [vTab t, vChg c] [] (I (checkC t c)) [] [] := by
  refine go_ref15_Check rfl BxOK.nil fun cx hm0 => go_in 5000 ?_
  unfold ac_ref15_Check rs_ref15_Check
  by_cases h1 : checkT t = 0
  case neg =>
    have hv : checkC t c = checkT t := by simp [checkC, h1]
    have h1' : (checkT t != 0) = true := by simpa using h1
    repeat' (first | simp (maxSteps := 9999999) only [↓GE, PL, PP, EE, QQ, seval, h1'] | (simp (disch := omega) only [IntWalk.i64_in]) | (refine go_brD (fun h => ?_) (fun h => ?_)) | (refine go_gsD (by ((try simp only [EE, QQ, seval]) <;> rfl)) (fun h => ?_) (fun h => ?_)) | (refine go_br (fun h => ?_) (fun h => ?_)) | (refine go_gs (by ((try simp only [EE, QQ, seval]) <;> rfl)) (fun h => ?_) (fun h => ?_)) | (apply go_call 5000 (r14check t hl hs) rfl rfl; (· ((try simp only [CC, LL, NM, EE, QQ, seval]) <;> (first | rfl | ((repeat constructor); done)))); (· exact CallForm.plain rfl); (· ((try simp only [CC, LL, NM, EE, QQ, seval]) <;> (first | rfl | ((repeat constructor); done)))); (· ((try simp only [CC, LL, NM, EE, QQ, seval]) <;> (first | rfl | ((repeat constructor); done))))) | (with_reducible apply And.intro) | (with_reducible exact trivial) | omega | (simp only [List.length_map, List.length_cons, List.length_nil] at *; omega) | (show _ = true; first | rfl | kernel_rfl))
    all_goals ((first | apply ret_mk [] | apply end_mk []); (· ((try simp only [CC, LL, EE, QQ, seval]) <;> rfl)); (· ((try simp only [CC, LL, EE, QQ, seval]) <;> repeat' (first | (with_reducible apply And.intro) | rfl | trivial | (exact ⟨_, rfl⟩) | (exact ⟨_, _, _, rfl⟩) | (simp [*, hv]; done) | (simp [*, hv]; omega) | (simp_all [hv]; done) | (simp_all [hv]; omega)))); all_goals (first | trivial | decide | ((try simp only [CC, LL, EE, QQ, seval]) <;> repeat' (first | (with_reducible apply And.intro) | (exact ⟨_, rfl, rfl, rfl⟩) | (exact ⟨_, _, _, rfl⟩) | (exact ⟨_, rfl⟩) | trivial | rfl | (simp; done)))))
  obtain ⟨hf, hr, hn1, hn2, hw1, hw2, hre⟩ := checkT_ok h1
  cases h2 : formF c with
  | false =>
    have hv : checkC t c = 2 := by simp [checkC, h1, h2]
    repeat' (first | simp (maxSteps := 9999999) only [↓GE, PL, PP, EE, QQ, seval, h1, h2] | (simp (disch := omega) only [IntWalk.i64_in]) | (refine go_brD (fun h => ?_) (fun h => ?_)) | (refine go_gsD (by ((try simp only [EE, QQ, seval]) <;> rfl)) (fun h => ?_) (fun h => ?_)) | (refine go_br (fun h => ?_) (fun h => ?_)) | (refine go_gs (by ((try simp only [EE, QQ, seval]) <;> rfl)) (fun h => ?_) (fun h => ?_)) | (apply go_call 5000 (r14check t hl hs) rfl rfl; (· ((try simp only [CC, LL, NM, EE, QQ, seval]) <;> (first | rfl | ((repeat constructor); done)))); (· exact CallForm.plain rfl); (· ((try simp only [CC, LL, NM, EE, QQ, seval]) <;> (first | rfl | ((repeat constructor); done)))); (· ((try simp only [CC, LL, NM, EE, QQ, seval]) <;> (first | rfl | ((repeat constructor); done))))) | (apply go_call 5000 (r15form c hc) rfl rfl; (· ((try simp only [CC, LL, NM, EE, QQ, seval]) <;> (first | rfl | ((repeat constructor); done)))); (· exact CallForm.plain rfl); (· ((try simp only [CC, LL, NM, EE, QQ, seval]) <;> (first | rfl | ((repeat constructor); done)))); (· ((try simp only [CC, LL, NM, EE, QQ, seval]) <;> (first | rfl | ((repeat constructor); done))))) | (with_reducible apply And.intro) | (with_reducible exact trivial) | omega | (simp only [List.length_map, List.length_cons, List.length_nil] at *; omega) | (show _ = true; first | rfl | kernel_rfl))
    all_goals ((first | apply ret_mk [] | apply end_mk []); (· ((try simp only [CC, LL, EE, QQ, seval]) <;> rfl)); (· ((try simp only [CC, LL, EE, QQ, seval]) <;> repeat' (first | (with_reducible apply And.intro) | rfl | trivial | (exact ⟨_, rfl⟩) | (exact ⟨_, _, _, rfl⟩) | (simp [*, hv]; done) | (simp [*, hv]; omega) | (simp_all [hv]; done) | (simp_all [hv]; omega)))); all_goals (first | trivial | decide | ((try simp only [CC, LL, EE, QQ, seval]) <;> repeat' (first | (with_reducible apply And.intro) | (exact ⟨_, rfl, rfl, rfl⟩) | (exact ⟨_, _, _, rfl⟩) | (exact ⟨_, rfl⟩) | trivial | rfl | (simp; done)))))
  | true =>
    obtain ⟨hf1, hf2, hf3, hf4, hf5, hf6⟩ := formF_ok h2
    have hv0 : checkC t c = if c.fr ≠ t.num then 17 else if setsErr t.p t.width c.sets ≠ 0 then setsErr t.p t.width c.sets else if (behindF t.rows.length c.sets : Int) ≠ max 0 (c.count - t.rows.length) then 2 else 0 := by
      rw [checkC, if_neg (by simp [h1]), if_neg (by simp [h2])]
    repeat' (first | simp (maxSteps := 9999999) only [↓GE, PL, PP, EE, QQ, seval, h1, h2, List.length_map] | (simp (disch := omega) only [IntWalk.i64_in]) | (refine go_brD (fun h => ?_) (fun h => ?_)) | (refine go_gsD (by ((try simp only [EE, QQ, seval]) <;> rfl)) (fun h => ?_) (fun h => ?_)) | (refine go_br (fun h => ?_) (fun h => ?_)) | (refine go_gs (by ((try simp only [EE, QQ, seval]) <;> rfl)) (fun h => ?_) (fun h => ?_)) | (apply go_call 5000 (r14check t hl hs) rfl rfl; (· ((try simp only [CC, LL, NM, EE, QQ, seval]) <;> (first | rfl | ((repeat constructor); done)))); (· exact CallForm.plain rfl); (· ((try simp only [CC, LL, NM, EE, QQ, seval]) <;> (first | rfl | ((repeat constructor); done)))); (· ((try simp only [CC, LL, NM, EE, QQ, seval]) <;> (first | rfl | ((repeat constructor); done))))) | (apply go_call 5000 (r15form c hc) rfl rfl; (· ((try simp only [CC, LL, NM, EE, QQ, seval]) <;> (first | rfl | ((repeat constructor); done)))); (· exact CallForm.plain rfl); (· ((try simp only [CC, LL, NM, EE, QQ, seval]) <;> (first | rfl | ((repeat constructor); done)))); (· ((try simp only [CC, LL, NM, EE, QQ, seval]) <;> (first | rfl | ((repeat constructor); done))))) | (with_reducible apply And.intro) | (with_reducible exact trivial) | omega | (simp only [List.length_map, List.length_cons, List.length_nil] at *; omega) | (show _ = true; first | rfl | kernel_rfl))
    · ((first | apply ret_mk [] | apply end_mk []); (· ((try simp only [CC, LL, EE, QQ, seval]) <;> rfl)); (· ((try simp only [CC, LL, EE, QQ, seval]) <;> repeat' (first | (with_reducible apply And.intro) | rfl | trivial | (exact ⟨_, rfl⟩) | (exact ⟨_, _, _, rfl⟩) | (simp [*, hv0]; done) | (simp [*, hv0]; omega) | (simp_all [hv0]; done) | (simp_all [hv0]; omega)))); all_goals (first | trivial | decide | ((try simp only [CC, LL, EE, QQ, seval]) <;> repeat' (first | (with_reducible apply And.intro) | (exact ⟨_, rfl, rfl, rfl⟩) | (exact ⟨_, _, _, rfl⟩) | (exact ⟨_, rfl⟩) | trivial | rfl | (simp; done)))))
    have h3 : c.fr = t.num := by simpa using h
    rw [if_neg (by simpa using h3)] at hv0
    refine go_loop 5000 hm0 (ι := {k : Nat // k ≤ c.sets.length ∧ setsErr t.p t.width c.sets = setsErr t.p t.width (c.sets.drop k)}) (fun i => [(2, .bp 2 0 0), (3, .bp 3 0 0), (4, I 0), (25, .d (dSets c.sets)), (26, I c.sets.length), (27, I i.1)]) (fun i => [(2, .box 0 [I t.num, I t.p, I t.width, .d (dRows t.rows)]), (3, .box 0 [I c.fr, I c.tt, I c.count, .d (dSets c.sets)])]) (fun i => c.sets.length - i.1) [] ⟨0, by simp⟩ ?_ ?_
    · (simp only [GeS]; refine ⟨?_, ?_, ?_, ?_⟩; all_goals (repeat' (first | trivial | (with_reducible rfl) | simp only [CC, LL, EE, QQ, seval] | (with_reducible apply And.intro) | rfl | (refine ⟨_, rfl, ?_⟩) | (simp; done) | omega)))
    · rintro ⟨k, hk, hv⟩
      by_cases hkl : k < c.sets.length
      · have hs' := getD_map eSet [] noSet c.sets k hkl
        have hr := hd _ (mem_getD noSet c.sets k hkl)
        rw [drop_get noSet _ _ hkl] at hv
        generalize c.sets.getD k noSet = r at hs' hv hr
        have hq := r3in t.p r.row hr
        repeat' (first | simp (maxSteps := 9999999) only [↓GE, PL, PP, EE, QQ, seval, hs', eSet, List.length_map, hf, Bool.true_and] | (simp (disch := omega) only [IntWalk.i64_in]) | (refine go_brD (fun h => ?_) (fun h => ?_)) | (refine go_gsD (by ((try simp only [EE, QQ, seval]) <;> rfl)) (fun h => ?_) (fun h => ?_)) | (refine go_br (fun h => ?_) (fun h => ?_)) | (refine go_gs (by ((try simp only [EE, QQ, seval]) <;> rfl)) (fun h => ?_) (fun h => ?_)) | (apply go_call 5000 (hq) rfl rfl; (· ((try simp only [CC, LL, NM, EE, QQ, seval]) <;> (first | rfl | ((repeat constructor); done)))); (· exact CallForm.plain rfl); (· ((try simp only [CC, LL, NM, EE, QQ, seval]) <;> (first | rfl | ((repeat constructor); done)))); (· ((try simp only [CC, LL, NM, EE, QQ, seval]) <;> (first | rfl | ((repeat constructor); done))))) | (with_reducible apply And.intro) | (with_reducible exact trivial) | omega | (simp only [List.length_map, List.length_cons, List.length_nil] at *; omega) | (show _ = true; first | rfl | kernel_rfl))
        · have h2 : (r.row.length : Int) ≠ t.width := by simpa using h
          have hv1 : checkC t c = 2 := by rw [hv0, hv, setsErr, if_pos h2]; rfl
          ((first | apply ret_mk [] | apply end_mk []); (· ((try simp only [CC, LL, EE, QQ, seval]) <;> rfl)); (· ((try simp only [CC, LL, EE, QQ, seval]) <;> repeat' (first | (with_reducible apply And.intro) | rfl | trivial | (exact ⟨_, rfl⟩) | (exact ⟨_, _, _, rfl⟩) | (simp [*, hv1]; done) | (simp [*, hv1]; omega) | (simp_all [hv1]; done) | (simp_all [hv1]; omega)))); all_goals (first | trivial | decide | ((try simp only [CC, LL, EE, QQ, seval]) <;> repeat' (first | (with_reducible apply And.intro) | (exact ⟨_, rfl, rfl, rfl⟩) | (exact ⟨_, _, _, rfl⟩) | (exact ⟨_, rfl⟩) | trivial | rfl | (simp; done)))))
        · have h2 : (r.row.length : Int) = t.width := by simp at *; assumption
          have he : setsErr t.p t.width c.sets = 9 := by rw [hv, setsErr, if_neg (by simpa using h2), if_neg (by simpa using h)]
          have hv1 : checkC t c = 9 := by rw [hv0, he]; rfl
          ((first | apply ret_mk [] | apply end_mk []); (· ((try simp only [CC, LL, EE, QQ, seval]) <;> rfl)); (· ((try simp only [CC, LL, EE, QQ, seval]) <;> repeat' (first | (with_reducible apply And.intro) | rfl | trivial | (exact ⟨_, rfl⟩) | (exact ⟨_, _, _, rfl⟩) | (simp [*, hv1]; done) | (simp [*, hv1]; omega) | (simp_all [hv1]; done) | (simp_all [hv1]; omega)))); all_goals (first | trivial | decide | ((try simp only [CC, LL, EE, QQ, seval]) <;> repeat' (first | (with_reducible apply And.intro) | (exact ⟨_, rfl, rfl, rfl⟩) | (exact ⟨_, _, _, rfl⟩) | (exact ⟨_, rfl⟩) | trivial | rfl | (simp; done)))))
        · have h2 : (r.row.length : Int) = t.width := by simp at *; assumption
          rw [setsErr, if_neg (by simpa using h2), if_pos (by simpa using h)] at hv
          refine ⟨⟨k + 1, hkl, hv⟩, ?_, by simp only; omega⟩
          (simp only [GeS]; refine ⟨?_, ?_, ?_, ?_⟩; all_goals (repeat' (first | trivial | (with_reducible rfl) | simp only [CC, LL, EE, QQ, seval] | (with_reducible apply And.intro) | rfl | (refine ⟨_, rfl, ?_⟩) | (simp; done) | omega)))
      · have : k = c.sets.length := by omega
        subst this
        simp only [List.drop_length, setsErr] at hv
        rw [hv, if_neg (by simp)] at hv0
        have hba := behind_all (x := t.rows.length) hf6
        repeat' (first | simp (maxSteps := 9999999) only [↓GE, PL, PP, EE, QQ, seval, List.length_map] | (simp (disch := omega) only [IntWalk.i64_in]) | (refine go_brD (fun h => ?_) (fun h => ?_)) | (refine go_gsD (by ((try simp only [EE, QQ, seval]) <;> rfl)) (fun h => ?_) (fun h => ?_)) | (refine go_br (fun h => ?_) (fun h => ?_)) | (refine go_gs (by ((try simp only [EE, QQ, seval]) <;> rfl)) (fun h => ?_) (fun h => ?_)) | (with_reducible apply And.intro) | (with_reducible exact trivial) | omega | (simp only [List.length_map, List.length_cons, List.length_nil] at *; omega) | (show _ = true; first | rfl | kernel_rfl))
        refine go_loop 5000 hm0 (ι := {i : Int // t.rows.length ≤ i ∧ i ≤ max (t.rows.length : Int) c.count ∧ ∀ j : Int, t.rows.length ≤ j → j < i → (findF j c.sets).isSome = true}) (fun i => [(2, .bp 2 0 0), (3, .bp 3 0 0), (4, I 0), (8, I i.1)]) (fun i => [(2, .box 0 [I t.num, I t.p, I t.width, .d (dRows t.rows)]), (3, .box 0 [I c.fr, I c.tt, I c.count, .d (dSets c.sets)])]) (fun i => (max (t.rows.length : Int) c.count - i.1).toNat) [] ⟨t.rows.length, by omega, by omega, fun j h1 h2 => by omega⟩ ?_ ?_
        · (simp only [GeS]; refine ⟨?_, ?_, ?_, ?_⟩; all_goals (repeat' (first | trivial | (with_reducible rfl) | simp only [CC, LL, EE, QQ, seval] | (with_reducible apply And.intro) | rfl | (refine ⟨_, rfl, ?_⟩) | (simp; done) | omega)))
        · rintro ⟨i, hi, hi2, hi3⟩
          repeat' (first | simp (maxSteps := 9999999) only [↓GE, PL, PP, EE, QQ, seval] | (simp (disch := omega) only [IntWalk.i64_in]) | (refine go_brD (fun h => ?_) (fun h => ?_)) | (refine go_gsD (by ((try simp only [EE, QQ, seval]) <;> rfl)) (fun h => ?_) (fun h => ?_)) | (refine go_br (fun h => ?_) (fun h => ?_)) | (refine go_gs (by ((try simp only [EE, QQ, seval]) <;> rfl)) (fun h => ?_) (fun h => ?_)) | (apply go_call 5000 (r15find c i hc) rfl rfl; (· ((try simp only [CC, LL, NM, EE, QQ, seval]) <;> (first | rfl | ((repeat constructor); done)))); (· exact CallForm.plain rfl); (· ((try simp only [CC, LL, NM, EE, QQ, seval]) <;> (first | rfl | ((repeat constructor); done)))); (· ((try simp only [CC, LL, NM, EE, QQ, seval]) <;> (first | rfl | ((repeat constructor); done))))) | (with_reducible apply And.intro) | (with_reducible exact trivial) | omega | (simp only [List.length_map, List.length_cons, List.length_nil] at *; omega) | (show _ = true; first | rfl | kernel_rfl))
          · have hv1 : checkC t c = 2 := by
              rw [hv0, if_pos]
              intro e
              have := hba.1 e i hi (by assumption)
              simp_all
            ((first | apply ret_mk [] | apply end_mk []); (· ((try simp only [CC, LL, EE, QQ, seval]) <;> rfl)); (· ((try simp only [CC, LL, EE, QQ, seval]) <;> repeat' (first | (with_reducible apply And.intro) | rfl | trivial | (exact ⟨_, rfl⟩) | (exact ⟨_, _, _, rfl⟩) | (simp [*, hv1]; done) | (simp [*, hv1]; omega) | (simp_all [hv1]; done) | (simp_all [hv1]; omega)))); all_goals (first | trivial | decide | ((try simp only [CC, LL, EE, QQ, seval]) <;> repeat' (first | (with_reducible apply And.intro) | (exact ⟨_, rfl, rfl, rfl⟩) | (exact ⟨_, _, _, rfl⟩) | (exact ⟨_, rfl⟩) | trivial | rfl | (simp; done)))))
          · refine ⟨⟨i + 1, by omega, by omega, fun j h1 h2 => ?_⟩, ?_, by simp only; omega⟩
            · by_cases e : j = i
              · subst e; simpa using h
              · exact hi3 j h1 (by omega)
            (simp only [GeS]; refine ⟨?_, ?_, ?_, ?_⟩; all_goals (repeat' (first | trivial | (with_reducible rfl) | simp only [CC, LL, EE, QQ, seval] | (with_reducible apply And.intro) | rfl | (refine ⟨_, rfl, ?_⟩) | (simp; done) | omega)))
          · have hv1 : checkC t c = 0 := by
              rw [hv0, if_neg]
              exact fun e => e (hba.2 fun j h1 h2 => hi3 j h1 (by omega))
            ((first | apply ret_mk [] | apply end_mk []); (· ((try simp only [CC, LL, EE, QQ, seval]) <;> rfl)); (· ((try simp only [CC, LL, EE, QQ, seval]) <;> repeat' (first | (with_reducible apply And.intro) | rfl | trivial | (exact ⟨_, rfl⟩) | (exact ⟨_, _, _, rfl⟩) | (simp [*, hv1]; done) | (simp [*, hv1]; omega) | (simp_all [hv1]; done) | (simp_all [hv1]; omega)))); all_goals (first | trivial | decide | ((try simp only [CC, LL, EE, QQ, seval]) <;> repeat' (first | (with_reducible apply And.intro) | (exact ⟨_, rfl, rfl, rfl⟩) | (exact ⟨_, _, _, rfl⟩) | (exact ⟨_, rfl⟩) | trivial | rfl | (simp; done)))))
end Go.Proofs.Ytilkjcobkdjlkaa.Sim
end
section
namespace Go.Proofs.Ytilkjcobkdjlkaa.Sim
open Go
set_option maxRecDepth 100000
set_option maxHeartbeats 4000000
set_option linter.unusedVariables false
set_option linter.unusedSimpArgs false
attribute [local irreducible] Go Mean
def noChg : PChg := ⟨0, 0, 0, []⟩
/-- Rows that are others, and where. -/
def diffGo (ra : List (List Int)) : Nat → List (List Int) → List PSet
  | _, [] => []
  | k, r :: l => if k ≥ ra.length ∨ r ≠ ra.getD k [] then ⟨k, r⟩ :: diffGo ra (k + 1) l else diffGo ra (k + 1) l
noncomputable def betweenF (a b : PTab) : PChg × Int := if checkT a ≠ 0 then (noChg, checkT a) else if checkT b ≠ 0 then (noChg, checkT b) else
  if a.p ≠ b.p ∨ a.width ≠ b.width then (noChg, 2) else if b.num ≤ a.num then (noChg, 17) else (⟨a.num, b.num, b.rows.length, diffGo a.rows 0 b.rows⟩, 0)
/-- A change and an error, the sets in new memory. -/
abbrev vC (x : PChg × Int) : V := .tu [.ag [I x.1.fr, I x.1.tt, I x.1.count, .og 1000000 0], I x.2]
abbrev oC (x : PChg × Int) : O := .arr 0 2 true (x.1.sets.map eSet)
theorem between (a b : PTab) (ha : a.rows.length ≤ 17592186044416) (hsa : Short a.rows) (hb : b.rows.length ≤ 17592186044416) (hsb : Short b.rows) : Does Try.prog 83 [vTab a, vTab b] [] (vC (betweenF a b)) [] [oC (betweenF a b)] := by
  refine go_change_Between rfl BxOK.nil fun cx hm0 => go_in 5000 ?_
  unfold ac_change_Between rs_change_Between
  by_cases h1 : checkT a = 0
  case neg =>
    have hv : betweenF a b = (noChg, checkT a) := by simp [betweenF, h1]
    rw [hv]
    have h1' : (checkT a != 0) = true := by simpa using h1
    repeat' (first | simp (maxSteps := 9999999) only [↓GE, PL, PP, EE, QQ, seval, h1'] | (simp (disch := omega) only [IntWalk.i64_in]) | (refine go_brD (fun h => ?_) (fun h => ?_)) | (refine go_gsD (by ((try simp only [EE, QQ, seval]) <;> rfl)) (fun h => ?_) (fun h => ?_)) | (refine go_br (fun h => ?_) (fun h => ?_)) | (refine go_gs (by ((try simp only [EE, QQ, seval]) <;> rfl)) (fun h => ?_) (fun h => ?_)) | (apply go_call 5000 (tcheck a ha hsa) rfl rfl; (· ((try simp only [CC, LL, NM, EE, QQ, seval]) <;> (first | rfl | ((repeat constructor); done)))); (· exact CallForm.plain rfl); (· ((try simp only [CC, LL, NM, EE, QQ, seval]) <;> (first | rfl | ((repeat constructor); done)))); (· ((try simp only [CC, LL, NM, EE, QQ, seval]) <;> (first | rfl | ((repeat constructor); done))))) | (with_reducible apply And.intro) | (with_reducible exact trivial) | omega | (simp only [List.length_map, List.length_cons, List.length_nil] at *; omega) | (show _ = true; first | rfl | kernel_rfl))
    all_goals ((first | apply ret_mk [none] | apply end_mk [none]); (· ((try simp only [CC, LL, EE, QQ, seval]) <;> rfl)); (· ((try simp only [CC, LL, EE, QQ, seval]) <;> repeat' (first | (with_reducible apply And.intro) | rfl | trivial | (exact ⟨_, rfl⟩) | (exact ⟨_, _, _, rfl⟩) | (simp [*, noChg]; done) | (simp [*, noChg]; omega) | (simp_all [noChg]; done) | (simp_all [noChg]; omega)))); all_goals (first | trivial | decide | ((try simp only [CC, LL, EE, QQ, seval]) <;> repeat' (first | (with_reducible apply And.intro) | (exact ⟨_, rfl, rfl, rfl⟩) | (exact ⟨_, _, _, rfl⟩) | (exact ⟨_, rfl⟩) | trivial | rfl | (simp; done)))))
  by_cases h2 : checkT b = 0
  case neg =>
    have hv : betweenF a b = (noChg, checkT b) := by simp [betweenF, h1, h2]
    rw [hv]
    have h2' : (checkT b != 0) = true := by simpa using h2
    repeat' (first | simp (maxSteps := 9999999) only [↓GE, PL, PP, EE, QQ, seval, h1, h2'] | (simp (disch := omega) only [IntWalk.i64_in]) | (refine go_brD (fun h => ?_) (fun h => ?_)) | (refine go_gsD (by ((try simp only [EE, QQ, seval]) <;> rfl)) (fun h => ?_) (fun h => ?_)) | (refine go_br (fun h => ?_) (fun h => ?_)) | (refine go_gs (by ((try simp only [EE, QQ, seval]) <;> rfl)) (fun h => ?_) (fun h => ?_)) | (apply go_call 5000 (tcheck a ha hsa) rfl rfl; (· ((try simp only [CC, LL, NM, EE, QQ, seval]) <;> (first | rfl | ((repeat constructor); done)))); (· exact CallForm.plain rfl); (· ((try simp only [CC, LL, NM, EE, QQ, seval]) <;> (first | rfl | ((repeat constructor); done)))); (· ((try simp only [CC, LL, NM, EE, QQ, seval]) <;> (first | rfl | ((repeat constructor); done))))) | (apply go_call 5000 (tcheck b hb hsb) rfl rfl; (· ((try simp only [CC, LL, NM, EE, QQ, seval]) <;> (first | rfl | ((repeat constructor); done)))); (· exact CallForm.plain rfl); (· ((try simp only [CC, LL, NM, EE, QQ, seval]) <;> (first | rfl | ((repeat constructor); done)))); (· ((try simp only [CC, LL, NM, EE, QQ, seval]) <;> (first | rfl | ((repeat constructor); done))))) | (with_reducible apply And.intro) | (with_reducible exact trivial) | omega | (simp only [List.length_map, List.length_cons, List.length_nil] at *; omega) | (show _ = true; first | rfl | kernel_rfl))
    all_goals ((first | apply ret_mk [none] | apply end_mk [none]); (· ((try simp only [CC, LL, EE, QQ, seval]) <;> rfl)); (· ((try simp only [CC, LL, EE, QQ, seval]) <;> repeat' (first | (with_reducible apply And.intro) | rfl | trivial | (exact ⟨_, rfl⟩) | (exact ⟨_, _, _, rfl⟩) | (simp [*, noChg]; done) | (simp [*, noChg]; omega) | (simp_all [noChg]; done) | (simp_all [noChg]; omega)))); all_goals (first | trivial | decide | ((try simp only [CC, LL, EE, QQ, seval]) <;> repeat' (first | (with_reducible apply And.intro) | (exact ⟨_, rfl, rfl, rfl⟩) | (exact ⟨_, _, _, rfl⟩) | (exact ⟨_, rfl⟩) | trivial | rfl | (simp; done)))))
  obtain ⟨_, ha2, _⟩ := checkT_ok h1
  obtain ⟨_, hb2, _⟩ := checkT_ok h2
  have hv0 : betweenF a b = if a.p ≠ b.p ∨ a.width ≠ b.width then (noChg, 2) else if b.num ≤ a.num then (noChg, 17) else (⟨a.num, b.num, b.rows.length, diffGo a.rows 0 b.rows⟩, 0) := by
    rw [betweenF, if_neg (by simp [h1]), if_neg (by simp [h2])]
  by_cases h3 : a.p ≠ b.p ∨ a.width ≠ b.width
  · rw [if_pos h3] at hv0
    rw [hv0]
    repeat' (first | simp (maxSteps := 9999999) only [↓GE, PL, PP, EE, QQ, seval, h1, h2, List.length_map] | (simp (disch := omega) only [IntWalk.i64_in]) | (refine go_brD (fun h => ?_) (fun h => ?_)) | (refine go_gsD (by ((try simp only [EE, QQ, seval]) <;> rfl)) (fun h => ?_) (fun h => ?_)) | (refine go_br (fun h => ?_) (fun h => ?_)) | (refine go_gs (by ((try simp only [EE, QQ, seval]) <;> rfl)) (fun h => ?_) (fun h => ?_)) | (apply go_call 5000 (tcheck a ha hsa) rfl rfl; (· ((try simp only [CC, LL, NM, EE, QQ, seval]) <;> (first | rfl | ((repeat constructor); done)))); (· exact CallForm.plain rfl); (· ((try simp only [CC, LL, NM, EE, QQ, seval]) <;> (first | rfl | ((repeat constructor); done)))); (· ((try simp only [CC, LL, NM, EE, QQ, seval]) <;> (first | rfl | ((repeat constructor); done))))) | (apply go_call 5000 (tcheck b hb hsb) rfl rfl; (· ((try simp only [CC, LL, NM, EE, QQ, seval]) <;> (first | rfl | ((repeat constructor); done)))); (· exact CallForm.plain rfl); (· ((try simp only [CC, LL, NM, EE, QQ, seval]) <;> (first | rfl | ((repeat constructor); done)))); (· ((try simp only [CC, LL, NM, EE, QQ, seval]) <;> (first | rfl | ((repeat constructor); done))))) | (with_reducible apply And.intro) | (with_reducible exact trivial) | omega | (simp only [List.length_map, List.length_cons, List.length_nil] at *; omega) | (show _ = true; first | rfl | kernel_rfl))
    any_goals ((first | apply ret_mk [none] | apply end_mk [none]); (· ((try simp only [CC, LL, EE, QQ, seval]) <;> rfl)); (· ((try simp only [CC, LL, EE, QQ, seval]) <;> repeat' (first | (with_reducible apply And.intro) | rfl | trivial | (exact ⟨_, rfl⟩) | (exact ⟨_, _, _, rfl⟩) | (simp [*, noChg]; done) | (simp [*, noChg]; omega) | (simp_all [noChg]; done) | (simp_all [noChg]; omega)))); all_goals (first | trivial | decide | ((try simp only [CC, LL, EE, QQ, seval]) <;> repeat' (first | (with_reducible apply And.intro) | (exact ⟨_, rfl, rfl, rfl⟩) | (exact ⟨_, _, _, rfl⟩) | (exact ⟨_, rfl⟩) | trivial | rfl | (simp; done)))))
    all_goals (exfalso; simp at *; omega)
  rw [if_neg h3] at hv0
  by_cases h4 : b.num ≤ a.num
  · rw [if_pos h4] at hv0
    rw [hv0]
    repeat' (first | simp (maxSteps := 9999999) only [↓GE, PL, PP, EE, QQ, seval, h1, h2, List.length_map] | (simp (disch := omega) only [IntWalk.i64_in]) | (refine go_brD (fun h => ?_) (fun h => ?_)) | (refine go_gsD (by ((try simp only [EE, QQ, seval]) <;> rfl)) (fun h => ?_) (fun h => ?_)) | (refine go_br (fun h => ?_) (fun h => ?_)) | (refine go_gs (by ((try simp only [EE, QQ, seval]) <;> rfl)) (fun h => ?_) (fun h => ?_)) | (apply go_call 5000 (tcheck a ha hsa) rfl rfl; (· ((try simp only [CC, LL, NM, EE, QQ, seval]) <;> (first | rfl | ((repeat constructor); done)))); (· exact CallForm.plain rfl); (· ((try simp only [CC, LL, NM, EE, QQ, seval]) <;> (first | rfl | ((repeat constructor); done)))); (· ((try simp only [CC, LL, NM, EE, QQ, seval]) <;> (first | rfl | ((repeat constructor); done))))) | (apply go_call 5000 (tcheck b hb hsb) rfl rfl; (· ((try simp only [CC, LL, NM, EE, QQ, seval]) <;> (first | rfl | ((repeat constructor); done)))); (· exact CallForm.plain rfl); (· ((try simp only [CC, LL, NM, EE, QQ, seval]) <;> (first | rfl | ((repeat constructor); done)))); (· ((try simp only [CC, LL, NM, EE, QQ, seval]) <;> (first | rfl | ((repeat constructor); done))))) | (with_reducible apply And.intro) | (with_reducible exact trivial) | omega | (simp only [List.length_map, List.length_cons, List.length_nil] at *; omega) | (show _ = true; first | rfl | kernel_rfl))
    any_goals ((first | apply ret_mk [none] | apply end_mk [none]); (· ((try simp only [CC, LL, EE, QQ, seval]) <;> rfl)); (· ((try simp only [CC, LL, EE, QQ, seval]) <;> repeat' (first | (with_reducible apply And.intro) | rfl | trivial | (exact ⟨_, rfl⟩) | (exact ⟨_, _, _, rfl⟩) | (simp [*, noChg]; done) | (simp [*, noChg]; omega) | (simp_all [noChg]; done) | (simp_all [noChg]; omega)))); all_goals (first | trivial | decide | ((try simp only [CC, LL, EE, QQ, seval]) <;> repeat' (first | (with_reducible apply And.intro) | (exact ⟨_, rfl, rfl, rfl⟩) | (exact ⟨_, _, _, rfl⟩) | (exact ⟨_, rfl⟩) | trivial | rfl | (simp; done)))))
    all_goals (exfalso; simp at *; omega)
  rw [if_neg h4] at hv0
  rw [hv0]
  repeat' (first | simp (maxSteps := 9999999) only [↓GE, PL, PP, EE, QQ, seval, h1, h2, List.length_map] | (simp (disch := omega) only [IntWalk.i64_in]) | (refine go_brD (fun h => ?_) (fun h => ?_)) | (refine go_gsD (by ((try simp only [EE, QQ, seval]) <;> rfl)) (fun h => ?_) (fun h => ?_)) | (refine go_br (fun h => ?_) (fun h => ?_)) | (refine go_gs (by ((try simp only [EE, QQ, seval]) <;> rfl)) (fun h => ?_) (fun h => ?_)) | (apply go_call 5000 (tcheck a ha hsa) rfl rfl; (· ((try simp only [CC, LL, NM, EE, QQ, seval]) <;> (first | rfl | ((repeat constructor); done)))); (· exact CallForm.plain rfl); (· ((try simp only [CC, LL, NM, EE, QQ, seval]) <;> (first | rfl | ((repeat constructor); done)))); (· ((try simp only [CC, LL, NM, EE, QQ, seval]) <;> (first | rfl | ((repeat constructor); done))))) | (apply go_call 5000 (tcheck b hb hsb) rfl rfl; (· ((try simp only [CC, LL, NM, EE, QQ, seval]) <;> (first | rfl | ((repeat constructor); done)))); (· exact CallForm.plain rfl); (· ((try simp only [CC, LL, NM, EE, QQ, seval]) <;> (first | rfl | ((repeat constructor); done)))); (· ((try simp only [CC, LL, NM, EE, QQ, seval]) <;> (first | rfl | ((repeat constructor); done))))) | (with_reducible apply And.intro) | (with_reducible exact trivial) | omega | (simp only [List.length_map, List.length_cons, List.length_nil] at *; omega) | (show _ = true; first | rfl | kernel_rfl))
  any_goals (exfalso; simp at *; omega)
  refine go_loop 5000 hm0 (ι := {p : Nat × Nat × List (List D) // p.1 ≤ b.rows.length ∧ p.2.2.length ≤ p.1 ∧ (diffGo a.rows 0 b.rows).map eSet = p.2.2 ++ (diffGo a.rows p.1 (b.rows.drop p.1)).map eSet}) (fun i => [(2, .bp 2 0 0), (4, .bp 4 0 0), (8, .bp 8 0 0), (51, .d (dRows b.rows)), (52, I b.rows.length), (53, I i.1.1)]) (fun i => [(2, .box 0 [I a.num, I a.p, I a.width, .d (dRows a.rows)]), (4, .box 0 [I 0, I 0, I 0, .nl 2]), (80, .arr i.1.2.1 2 true i.1.2.2), (8, .box 0 [I a.num, I b.num, I b.rows.length, .og 80 i.1.2.1])]) (fun i => b.rows.length - i.1.1) [80] ⟨(0, 0, []), by simp⟩ ?_ ?_
  · (simp only [GeS]; refine ⟨?_, ?_, ?_, ?_⟩; all_goals (repeat' (first | trivial | (with_reducible rfl) | simp only [CC, LL, EE, QQ, seval] | (with_reducible apply And.intro) | rfl | (refine ⟨_, rfl, ?_⟩) | (simp; done) | omega)))
  · rintro ⟨⟨k, v, acc⟩, hk, hl, hv⟩
    by_cases hkl : k < b.rows.length
    · have hs' := getD_map eR [] [] b.rows k hkl
      have hr := hsb _ (mem_getD [] b.rows k hkl)
      rw [drop_get [] _ _ hkl, diffGo] at hv
      generalize b.rows.getD k [] = r at hs' hv hr
      simp only at hk hl hv
      by_cases hka : k < a.rows.length
      · have hs2 := getD_map eR [] [] a.rows k hka
        have hr2 := hsa _ (mem_getD [] a.rows k hka)
        generalize a.rows.getD k [] = q at hs2 hv hr2
        repeat' (first | simp (maxSteps := 9999999) only [↓GE, PL, PP, EE, QQ, seval, hs', hs2, eR, List.length_map] | (simp (disch := omega) only [IntWalk.i64_in]) | (refine go_brD (fun h => ?_) (fun h => ?_)) | (refine go_gsD (by ((try simp only [EE, QQ, seval]) <;> rfl)) (fun h => ?_) (fun h => ?_)) | (refine go_br (fun h => ?_) (fun h => ?_)) | (refine go_gs (by ((try simp only [EE, QQ, seval]) <;> rfl)) (fun h => ?_) (fun h => ?_)) | (apply go_call 5000 (equalI r q hr hr2) rfl rfl; (· ((try simp only [CC, LL, NM, EE, QQ, seval]) <;> (first | rfl | ((repeat constructor); done)))); (· exact CallForm.plain rfl); (· ((try simp only [CC, LL, NM, EE, QQ, seval]) <;> (first | rfl | ((repeat constructor); done)))); (· ((try simp only [CC, LL, NM, EE, QQ, seval]) <;> (first | rfl | ((repeat constructor); done))))) | (apply go_call 5000 (own ⟨k, r⟩ hr) rfl rfl; (· ((try simp only [CC, LL, NM, EE, QQ, seval]) <;> (first | rfl | ((repeat constructor); done)))); (· exact CallForm.news rfl rfl); (· ((try simp only [CC, LL, NM, EE, QQ, seval]) <;> (first | rfl | ((repeat constructor); done)))); (· ((try simp only [CC, LL, NM, EE, QQ, seval]) <;> (first | rfl | ((repeat constructor); done))))) | (with_reducible apply And.intro) | (with_reducible exact trivial) | omega | (simp only [List.length_map, List.length_cons, List.length_nil] at *; omega) | (show _ = true; first | rfl | kernel_rfl))
        · rw [if_pos (.inr (by simpa using h))] at hv
          refine ⟨⟨(k + 1, v + 1, acc ++ [[.at (.int .i64 k), dInts r]]), hkl, by simp; omega, by rw [hv]; simp [eSet]⟩, ?_, by simp only; omega⟩
          (simp only [GeS]; refine ⟨?_, ?_, ?_, ?_⟩; all_goals (repeat' (first | trivial | (with_reducible rfl) | simp only [CC, LL, EE, QQ, seval] | (with_reducible apply And.intro) | rfl | (refine ⟨_, rfl, ?_⟩) | (simp; done) | omega)))
        · rw [if_neg (by simp at h; simp [h]; omega)] at hv
          refine ⟨⟨(k + 1, v, acc), hkl, by simp only; omega, hv⟩, ?_, by simp only; omega⟩
          (simp only [GeS]; refine ⟨?_, ?_, ?_, ?_⟩; all_goals (repeat' (first | trivial | (with_reducible rfl) | simp only [CC, LL, EE, QQ, seval] | (with_reducible apply And.intro) | rfl | (refine ⟨_, rfl, ?_⟩) | (simp; done) | omega)))
      · repeat' (first | simp (maxSteps := 9999999) only [↓GE, PL, PP, EE, QQ, seval, hs', eR, List.length_map] | (simp (disch := omega) only [IntWalk.i64_in]) | (refine go_brD (fun h => ?_) (fun h => ?_)) | (refine go_gsD (by ((try simp only [EE, QQ, seval]) <;> rfl)) (fun h => ?_) (fun h => ?_)) | (refine go_br (fun h => ?_) (fun h => ?_)) | (refine go_gs (by ((try simp only [EE, QQ, seval]) <;> rfl)) (fun h => ?_) (fun h => ?_)) | (apply go_call 5000 (own ⟨k, r⟩ hr) rfl rfl; (· ((try simp only [CC, LL, NM, EE, QQ, seval]) <;> (first | rfl | ((repeat constructor); done)))); (· exact CallForm.news rfl rfl); (· ((try simp only [CC, LL, NM, EE, QQ, seval]) <;> (first | rfl | ((repeat constructor); done)))); (· ((try simp only [CC, LL, NM, EE, QQ, seval]) <;> (first | rfl | ((repeat constructor); done))))) | (with_reducible apply And.intro) | (with_reducible exact trivial) | omega | (simp only [List.length_map, List.length_cons, List.length_nil] at *; omega) | (show _ = true; first | rfl | kernel_rfl))
        rw [if_pos (.inl (by omega))] at hv
        refine ⟨⟨(k + 1, v + 1, acc ++ [[.at (.int .i64 k), dInts r]]), hkl, by simp; omega, by rw [hv]; simp [eSet]⟩, ?_, by simp only; omega⟩
        (simp only [GeS]; refine ⟨?_, ?_, ?_, ?_⟩; all_goals (repeat' (first | trivial | (with_reducible rfl) | simp only [CC, LL, EE, QQ, seval] | (with_reducible apply And.intro) | rfl | (refine ⟨_, rfl, ?_⟩) | (simp; done) | omega)))
    · have : k = b.rows.length := by simp only at hk; omega
      subst this
      simp only [List.drop_length, diffGo, List.map_nil, List.append_nil] at hv
      subst hv
      repeat' (first | simp (maxSteps := 9999999) only [↓GE, PL, PP, EE, QQ, seval] | (simp (disch := omega) only [IntWalk.i64_in]) | (refine go_brD (fun h => ?_) (fun h => ?_)) | (refine go_gsD (by ((try simp only [EE, QQ, seval]) <;> rfl)) (fun h => ?_) (fun h => ?_)) | (refine go_br (fun h => ?_) (fun h => ?_)) | (refine go_gs (by ((try simp only [EE, QQ, seval]) <;> rfl)) (fun h => ?_) (fun h => ?_)) | (with_reducible apply And.intro) | (with_reducible exact trivial) | omega | (simp only [List.length_map, List.length_cons, List.length_nil] at *; omega) | (show _ = true; first | rfl | kernel_rfl))
      clear hv0
      all_goals ((first | apply ret_mk [some 80] | apply end_mk [some 80]); (· ((try simp only [CC, LL, EE, QQ, seval]) <;> rfl)); (· ((try simp only [CC, LL, EE, QQ, seval]) <;> repeat' (first | (with_reducible apply And.intro) | rfl | trivial | (exact ⟨_, rfl⟩) | (exact ⟨_, _, _, rfl⟩) | (simp [*, ]; done) | (simp [*, ]; omega) | (simp_all []; done) | (simp_all []; omega)))); all_goals (first | trivial | decide | ((try simp only [CC, LL, EE, QQ, seval]) <;> repeat' (first | (with_reducible apply And.intro) | (exact ⟨_, rfl, rfl, rfl⟩) | (exact ⟨_, _, _, rfl⟩) | (exact ⟨_, rfl⟩) | trivial | rfl | (simp; done)))))
theorem r15between (a b : PTab) (ha : a.rows.length ≤ 17592186044416) (hsa : Short a.rows) (hb : b.rows.length ≤ 17592186044416) (hsb : Short b.rows) : Does Try.prog 76 [vTab a, vTab b] [] (vC (betweenF a b)) [] [oC (betweenF a b)] := by
  refine go_ref15_Between rfl BxOK.nil fun cx hm0 => go_in 5000 ?_
  unfold ac_ref15_Between rs_ref15_Between
  by_cases h1 : checkT a = 0
  case neg =>
    have hv : betweenF a b = (noChg, checkT a) := by simp [betweenF, h1]
    rw [hv]
    have h1' : (checkT a != 0) = true := by simpa using h1
    repeat' (first | simp (maxSteps := 9999999) only [↓GE, PL, PP, EE, QQ, seval, h1'] | (simp (disch := omega) only [IntWalk.i64_in]) | (refine go_brD (fun h => ?_) (fun h => ?_)) | (refine go_gsD (by ((try simp only [EE, QQ, seval]) <;> rfl)) (fun h => ?_) (fun h => ?_)) | (refine go_br (fun h => ?_) (fun h => ?_)) | (refine go_gs (by ((try simp only [EE, QQ, seval]) <;> rfl)) (fun h => ?_) (fun h => ?_)) | (apply go_call 5000 (r14check a ha hsa) rfl rfl; (· ((try simp only [CC, LL, NM, EE, QQ, seval]) <;> (first | rfl | ((repeat constructor); done)))); (· exact CallForm.plain rfl); (· ((try simp only [CC, LL, NM, EE, QQ, seval]) <;> (first | rfl | ((repeat constructor); done)))); (· ((try simp only [CC, LL, NM, EE, QQ, seval]) <;> (first | rfl | ((repeat constructor); done))))) | (with_reducible apply And.intro) | (with_reducible exact trivial) | omega | (simp only [List.length_map, List.length_cons, List.length_nil] at *; omega) | (show _ = true; first | rfl | kernel_rfl))
    all_goals ((first | apply ret_mk [none] | apply end_mk [none]); (· ((try simp only [CC, LL, EE, QQ, seval]) <;> rfl)); (· ((try simp only [CC, LL, EE, QQ, seval]) <;> repeat' (first | (with_reducible apply And.intro) | rfl | trivial | (exact ⟨_, rfl⟩) | (exact ⟨_, _, _, rfl⟩) | (simp [*, noChg]; done) | (simp [*, noChg]; omega) | (simp_all [noChg]; done) | (simp_all [noChg]; omega)))); all_goals (first | trivial | decide | ((try simp only [CC, LL, EE, QQ, seval]) <;> repeat' (first | (with_reducible apply And.intro) | (exact ⟨_, rfl, rfl, rfl⟩) | (exact ⟨_, _, _, rfl⟩) | (exact ⟨_, rfl⟩) | trivial | rfl | (simp; done)))))
  by_cases h2 : checkT b = 0
  case neg =>
    have hv : betweenF a b = (noChg, checkT b) := by simp [betweenF, h1, h2]
    rw [hv]
    have h2' : (checkT b != 0) = true := by simpa using h2
    repeat' (first | simp (maxSteps := 9999999) only [↓GE, PL, PP, EE, QQ, seval, h1, h2'] | (simp (disch := omega) only [IntWalk.i64_in]) | (refine go_brD (fun h => ?_) (fun h => ?_)) | (refine go_gsD (by ((try simp only [EE, QQ, seval]) <;> rfl)) (fun h => ?_) (fun h => ?_)) | (refine go_br (fun h => ?_) (fun h => ?_)) | (refine go_gs (by ((try simp only [EE, QQ, seval]) <;> rfl)) (fun h => ?_) (fun h => ?_)) | (apply go_call 5000 (r14check a ha hsa) rfl rfl; (· ((try simp only [CC, LL, NM, EE, QQ, seval]) <;> (first | rfl | ((repeat constructor); done)))); (· exact CallForm.plain rfl); (· ((try simp only [CC, LL, NM, EE, QQ, seval]) <;> (first | rfl | ((repeat constructor); done)))); (· ((try simp only [CC, LL, NM, EE, QQ, seval]) <;> (first | rfl | ((repeat constructor); done))))) | (apply go_call 5000 (r14check b hb hsb) rfl rfl; (· ((try simp only [CC, LL, NM, EE, QQ, seval]) <;> (first | rfl | ((repeat constructor); done)))); (· exact CallForm.plain rfl); (· ((try simp only [CC, LL, NM, EE, QQ, seval]) <;> (first | rfl | ((repeat constructor); done)))); (· ((try simp only [CC, LL, NM, EE, QQ, seval]) <;> (first | rfl | ((repeat constructor); done))))) | (with_reducible apply And.intro) | (with_reducible exact trivial) | omega | (simp only [List.length_map, List.length_cons, List.length_nil] at *; omega) | (show _ = true; first | rfl | kernel_rfl))
    all_goals ((first | apply ret_mk [none] | apply end_mk [none]); (· ((try simp only [CC, LL, EE, QQ, seval]) <;> rfl)); (· ((try simp only [CC, LL, EE, QQ, seval]) <;> repeat' (first | (with_reducible apply And.intro) | rfl | trivial | (exact ⟨_, rfl⟩) | (exact ⟨_, _, _, rfl⟩) | (simp [*, noChg]; done) | (simp [*, noChg]; omega) | (simp_all [noChg]; done) | (simp_all [noChg]; omega)))); all_goals (first | trivial | decide | ((try simp only [CC, LL, EE, QQ, seval]) <;> repeat' (first | (with_reducible apply And.intro) | (exact ⟨_, rfl, rfl, rfl⟩) | (exact ⟨_, _, _, rfl⟩) | (exact ⟨_, rfl⟩) | trivial | rfl | (simp; done)))))
  obtain ⟨_, ha2, _⟩ := checkT_ok h1
  obtain ⟨_, hb2, _⟩ := checkT_ok h2
  have hv0 : betweenF a b = if a.p ≠ b.p ∨ a.width ≠ b.width then (noChg, 2) else if b.num ≤ a.num then (noChg, 17) else (⟨a.num, b.num, b.rows.length, diffGo a.rows 0 b.rows⟩, 0) := by
    rw [betweenF, if_neg (by simp [h1]), if_neg (by simp [h2])]
  by_cases h3 : a.p ≠ b.p ∨ a.width ≠ b.width
  · rw [if_pos h3] at hv0
    rw [hv0]
    repeat' (first | simp (maxSteps := 9999999) only [↓GE, PL, PP, EE, QQ, seval, h1, h2, List.length_map] | (simp (disch := omega) only [IntWalk.i64_in]) | (refine go_brD (fun h => ?_) (fun h => ?_)) | (refine go_gsD (by ((try simp only [EE, QQ, seval]) <;> rfl)) (fun h => ?_) (fun h => ?_)) | (refine go_br (fun h => ?_) (fun h => ?_)) | (refine go_gs (by ((try simp only [EE, QQ, seval]) <;> rfl)) (fun h => ?_) (fun h => ?_)) | (apply go_call 5000 (r14check a ha hsa) rfl rfl; (· ((try simp only [CC, LL, NM, EE, QQ, seval]) <;> (first | rfl | ((repeat constructor); done)))); (· exact CallForm.plain rfl); (· ((try simp only [CC, LL, NM, EE, QQ, seval]) <;> (first | rfl | ((repeat constructor); done)))); (· ((try simp only [CC, LL, NM, EE, QQ, seval]) <;> (first | rfl | ((repeat constructor); done))))) | (apply go_call 5000 (r14check b hb hsb) rfl rfl; (· ((try simp only [CC, LL, NM, EE, QQ, seval]) <;> (first | rfl | ((repeat constructor); done)))); (· exact CallForm.plain rfl); (· ((try simp only [CC, LL, NM, EE, QQ, seval]) <;> (first | rfl | ((repeat constructor); done)))); (· ((try simp only [CC, LL, NM, EE, QQ, seval]) <;> (first | rfl | ((repeat constructor); done))))) | (with_reducible apply And.intro) | (with_reducible exact trivial) | omega | (simp only [List.length_map, List.length_cons, List.length_nil] at *; omega) | (show _ = true; first | rfl | kernel_rfl))
    any_goals ((first | apply ret_mk [none] | apply end_mk [none]); (· ((try simp only [CC, LL, EE, QQ, seval]) <;> rfl)); (· ((try simp only [CC, LL, EE, QQ, seval]) <;> repeat' (first | (with_reducible apply And.intro) | rfl | trivial | (exact ⟨_, rfl⟩) | (exact ⟨_, _, _, rfl⟩) | (simp [*, noChg]; done) | (simp [*, noChg]; omega) | (simp_all [noChg]; done) | (simp_all [noChg]; omega)))); all_goals (first | trivial | decide | ((try simp only [CC, LL, EE, QQ, seval]) <;> repeat' (first | (with_reducible apply And.intro) | (exact ⟨_, rfl, rfl, rfl⟩) | (exact ⟨_, _, _, rfl⟩) | (exact ⟨_, rfl⟩) | trivial | rfl | (simp; done)))))
    all_goals (exfalso; simp at *; omega)
  rw [if_neg h3] at hv0
  by_cases h4 : b.num ≤ a.num
  · rw [if_pos h4] at hv0
    rw [hv0]
    repeat' (first | simp (maxSteps := 9999999) only [↓GE, PL, PP, EE, QQ, seval, h1, h2, List.length_map] | (simp (disch := omega) only [IntWalk.i64_in]) | (refine go_brD (fun h => ?_) (fun h => ?_)) | (refine go_gsD (by ((try simp only [EE, QQ, seval]) <;> rfl)) (fun h => ?_) (fun h => ?_)) | (refine go_br (fun h => ?_) (fun h => ?_)) | (refine go_gs (by ((try simp only [EE, QQ, seval]) <;> rfl)) (fun h => ?_) (fun h => ?_)) | (apply go_call 5000 (r14check a ha hsa) rfl rfl; (· ((try simp only [CC, LL, NM, EE, QQ, seval]) <;> (first | rfl | ((repeat constructor); done)))); (· exact CallForm.plain rfl); (· ((try simp only [CC, LL, NM, EE, QQ, seval]) <;> (first | rfl | ((repeat constructor); done)))); (· ((try simp only [CC, LL, NM, EE, QQ, seval]) <;> (first | rfl | ((repeat constructor); done))))) | (apply go_call 5000 (r14check b hb hsb) rfl rfl; (· ((try simp only [CC, LL, NM, EE, QQ, seval]) <;> (first | rfl | ((repeat constructor); done)))); (· exact CallForm.plain rfl); (· ((try simp only [CC, LL, NM, EE, QQ, seval]) <;> (first | rfl | ((repeat constructor); done)))); (· ((try simp only [CC, LL, NM, EE, QQ, seval]) <;> (first | rfl | ((repeat constructor); done))))) | (with_reducible apply And.intro) | (with_reducible exact trivial) | omega | (simp only [List.length_map, List.length_cons, List.length_nil] at *; omega) | (show _ = true; first | rfl | kernel_rfl))
    any_goals ((first | apply ret_mk [none] | apply end_mk [none]); (· ((try simp only [CC, LL, EE, QQ, seval]) <;> rfl)); (· ((try simp only [CC, LL, EE, QQ, seval]) <;> repeat' (first | (with_reducible apply And.intro) | rfl | trivial | (exact ⟨_, rfl⟩) | (exact ⟨_, _, _, rfl⟩) | (simp [*, noChg]; done) | (simp [*, noChg]; omega) | (simp_all [noChg]; done) | (simp_all [noChg]; omega)))); all_goals (first | trivial | decide | ((try simp only [CC, LL, EE, QQ, seval]) <;> repeat' (first | (with_reducible apply And.intro) | (exact ⟨_, rfl, rfl, rfl⟩) | (exact ⟨_, _, _, rfl⟩) | (exact ⟨_, rfl⟩) | trivial | rfl | (simp; done)))))
    all_goals (exfalso; simp at *; omega)
  rw [if_neg h4] at hv0
  rw [hv0]
  repeat' (first | simp (maxSteps := 9999999) only [↓GE, PL, PP, EE, QQ, seval, h1, h2, List.length_map] | (simp (disch := omega) only [IntWalk.i64_in]) | (refine go_brD (fun h => ?_) (fun h => ?_)) | (refine go_gsD (by ((try simp only [EE, QQ, seval]) <;> rfl)) (fun h => ?_) (fun h => ?_)) | (refine go_br (fun h => ?_) (fun h => ?_)) | (refine go_gs (by ((try simp only [EE, QQ, seval]) <;> rfl)) (fun h => ?_) (fun h => ?_)) | (apply go_call 5000 (r14check a ha hsa) rfl rfl; (· ((try simp only [CC, LL, NM, EE, QQ, seval]) <;> (first | rfl | ((repeat constructor); done)))); (· exact CallForm.plain rfl); (· ((try simp only [CC, LL, NM, EE, QQ, seval]) <;> (first | rfl | ((repeat constructor); done)))); (· ((try simp only [CC, LL, NM, EE, QQ, seval]) <;> (first | rfl | ((repeat constructor); done))))) | (apply go_call 5000 (r14check b hb hsb) rfl rfl; (· ((try simp only [CC, LL, NM, EE, QQ, seval]) <;> (first | rfl | ((repeat constructor); done)))); (· exact CallForm.plain rfl); (· ((try simp only [CC, LL, NM, EE, QQ, seval]) <;> (first | rfl | ((repeat constructor); done)))); (· ((try simp only [CC, LL, NM, EE, QQ, seval]) <;> (first | rfl | ((repeat constructor); done))))) | (with_reducible apply And.intro) | (with_reducible exact trivial) | omega | (simp only [List.length_map, List.length_cons, List.length_nil] at *; omega) | (show _ = true; first | rfl | kernel_rfl))
  any_goals (exfalso; simp at *; omega)
  refine go_loop 5000 hm0 (ι := {p : Nat × Nat × List (List D) // p.1 ≤ b.rows.length ∧ p.2.2.length ≤ p.1 ∧ (diffGo a.rows 0 b.rows).map eSet = p.2.2 ++ (diffGo a.rows p.1 (b.rows.drop p.1)).map eSet}) (fun i => [(2, .bp 2 0 0), (4, .bp 4 0 0), (8, .bp 8 0 0), (51, .d (dRows b.rows)), (52, I b.rows.length), (53, I i.1.1)]) (fun i => [(2, .box 0 [I a.num, I a.p, I a.width, .d (dRows a.rows)]), (4, .box 0 [I 0, I 0, I 0, .nl 2]), (80, .arr i.1.2.1 2 true i.1.2.2), (8, .box 0 [I a.num, I b.num, I b.rows.length, .og 80 i.1.2.1])]) (fun i => b.rows.length - i.1.1) [80] ⟨(0, 0, []), by simp⟩ ?_ ?_
  · (simp only [GeS]; refine ⟨?_, ?_, ?_, ?_⟩; all_goals (repeat' (first | trivial | (with_reducible rfl) | simp only [CC, LL, EE, QQ, seval] | (with_reducible apply And.intro) | rfl | (refine ⟨_, rfl, ?_⟩) | (simp; done) | omega)))
  · rintro ⟨⟨k, v, acc⟩, hk, hl, hv⟩
    by_cases hkl : k < b.rows.length
    · have hs' := getD_map eR [] [] b.rows k hkl
      have hr := hsb _ (mem_getD [] b.rows k hkl)
      rw [drop_get [] _ _ hkl, diffGo] at hv
      generalize b.rows.getD k [] = r at hs' hv hr
      simp only at hk hl hv
      by_cases hka : k < a.rows.length
      · have hs2 := getD_map eR [] [] a.rows k hka
        have hr2 := hsa _ (mem_getD [] a.rows k hka)
        generalize a.rows.getD k [] = q at hs2 hv hr2
        repeat' (first | simp (maxSteps := 9999999) only [↓GE, PL, PP, EE, QQ, seval, hs', hs2, eR, List.length_map] | (simp (disch := omega) only [IntWalk.i64_in]) | (refine go_brD (fun h => ?_) (fun h => ?_)) | (refine go_gsD (by ((try simp only [EE, QQ, seval]) <;> rfl)) (fun h => ?_) (fun h => ?_)) | (refine go_br (fun h => ?_) (fun h => ?_)) | (refine go_gs (by ((try simp only [EE, QQ, seval]) <;> rfl)) (fun h => ?_) (fun h => ?_)) | (apply go_call 5000 (sameI r q hr hr2) rfl rfl; (· ((try simp only [CC, LL, NM, EE, QQ, seval]) <;> (first | rfl | ((repeat constructor); done)))); (· exact CallForm.plain rfl); (· ((try simp only [CC, LL, NM, EE, QQ, seval]) <;> (first | rfl | ((repeat constructor); done)))); (· ((try simp only [CC, LL, NM, EE, QQ, seval]) <;> (first | rfl | ((repeat constructor); done))))) | (with_reducible apply And.intro) | (with_reducible exact trivial) | omega | (simp only [List.length_map, List.length_cons, List.length_nil] at *; omega) | (show _ = true; first | rfl | kernel_rfl))
        · rw [if_pos (.inr (by simpa using h))] at hv
          refine ⟨⟨(k + 1, v + 1, acc ++ [[.at (.int .i64 k), dInts r]]), hkl, by simp; omega, by rw [hv]; simp [eSet]⟩, ?_, by simp only; omega⟩
          (simp only [GeS]; refine ⟨?_, ?_, ?_, ?_⟩; all_goals (repeat' (first | trivial | (with_reducible rfl) | simp only [CC, LL, EE, QQ, seval] | (with_reducible apply And.intro) | rfl | (refine ⟨_, rfl, ?_⟩) | (simp; done) | omega)))
        · rw [if_neg (by simp at h; simp [h]; omega)] at hv
          refine ⟨⟨(k + 1, v, acc), hkl, by simp only; omega, hv⟩, ?_, by simp only; omega⟩
          (simp only [GeS]; refine ⟨?_, ?_, ?_, ?_⟩; all_goals (repeat' (first | trivial | (with_reducible rfl) | simp only [CC, LL, EE, QQ, seval] | (with_reducible apply And.intro) | rfl | (refine ⟨_, rfl, ?_⟩) | (simp; done) | omega)))
      · repeat' (first | simp (maxSteps := 9999999) only [↓GE, PL, PP, EE, QQ, seval, hs', eR, List.length_map] | (simp (disch := omega) only [IntWalk.i64_in]) | (refine go_brD (fun h => ?_) (fun h => ?_)) | (refine go_gsD (by ((try simp only [EE, QQ, seval]) <;> rfl)) (fun h => ?_) (fun h => ?_)) | (refine go_br (fun h => ?_) (fun h => ?_)) | (refine go_gs (by ((try simp only [EE, QQ, seval]) <;> rfl)) (fun h => ?_) (fun h => ?_)) | (with_reducible apply And.intro) | (with_reducible exact trivial) | omega | (simp only [List.length_map, List.length_cons, List.length_nil] at *; omega) | (show _ = true; first | rfl | kernel_rfl))
        rw [if_pos (.inl (by omega))] at hv
        refine ⟨⟨(k + 1, v + 1, acc ++ [[.at (.int .i64 k), dInts r]]), hkl, by simp; omega, by rw [hv]; simp [eSet]⟩, ?_, by simp only; omega⟩
        (simp only [GeS]; refine ⟨?_, ?_, ?_, ?_⟩; all_goals (repeat' (first | trivial | (with_reducible rfl) | simp only [CC, LL, EE, QQ, seval] | (with_reducible apply And.intro) | rfl | (refine ⟨_, rfl, ?_⟩) | (simp; done) | omega)))
    · have : k = b.rows.length := by simp only at hk; omega
      subst this
      simp only [List.drop_length, diffGo, List.map_nil, List.append_nil] at hv
      subst hv
      repeat' (first | simp (maxSteps := 9999999) only [↓GE, PL, PP, EE, QQ, seval] | (simp (disch := omega) only [IntWalk.i64_in]) | (refine go_brD (fun h => ?_) (fun h => ?_)) | (refine go_gsD (by ((try simp only [EE, QQ, seval]) <;> rfl)) (fun h => ?_) (fun h => ?_)) | (refine go_br (fun h => ?_) (fun h => ?_)) | (refine go_gs (by ((try simp only [EE, QQ, seval]) <;> rfl)) (fun h => ?_) (fun h => ?_)) | (with_reducible apply And.intro) | (with_reducible exact trivial) | omega | (simp only [List.length_map, List.length_cons, List.length_nil] at *; omega) | (show _ = true; first | rfl | kernel_rfl))
      clear hv0
      all_goals ((first | apply ret_mk [some 80] | apply end_mk [some 80]); (· ((try simp only [CC, LL, EE, QQ, seval]) <;> rfl)); (· ((try simp only [CC, LL, EE, QQ, seval]) <;> repeat' (first | (with_reducible apply And.intro) | rfl | trivial | (exact ⟨_, rfl⟩) | (exact ⟨_, _, _, rfl⟩) | (simp [*, ]; done) | (simp [*, ]; omega) | (simp_all []; done) | (simp_all []; omega)))); all_goals (first | trivial | decide | ((try simp only [CC, LL, EE, QQ, seval]) <;> repeat' (first | (with_reducible apply And.intro) | (exact ⟨_, rfl, rfl, rfl⟩) | (exact ⟨_, _, _, rfl⟩) | (exact ⟨_, rfl⟩) | trivial | rfl | (simp; done)))))
end Go.Proofs.Ytilkjcobkdjlkaa.Sim
end
section
namespace Go.Proofs.Ytilkjcobkdjlkaa.Sim
open Go
set_option maxRecDepth 100000
set_option maxHeartbeats 4000000
set_option linter.unusedVariables false
set_option linter.unusedSimpArgs false
attribute [local irreducible] Go Mean
def noTab : PTab := ⟨0, 0, 0, []⟩
noncomputable def applyF (t : PTab) (c : PChg) : PTab × Int := if checkC t c ≠ 0 then (noTab, checkC t c) else (⟨c.tt, t.p, t.width, applyRows t.rows c⟩, 0)
/-- A table and an error, the rows in new memory. -/
abbrev vT (x : PTab × Int) : V := .tu [.ag [I x.1.num, I x.1.p, I x.1.width, .og 1000000 0], I x.2]
abbrev oT (x : PTab × Int) : O := .arr 0 1 true (x.1.rows.map eR)
theorem checkC_ok {t : PTab} {c : PChg} (h : checkC t c = 0) : checkT t = 0 ∧ formF c = true ∧ c.fr = t.num ∧ setsErr t.p t.width c.sets = 0 ∧ (behindF t.rows.length c.sets : Int) = max 0 (c.count - t.rows.length) := by
  unfold checkC at h
  split at h
  · rename_i h1; exact absurd h h1
  split at h
  · cases h
  split at h
  · cases h
  split at h
  · rename_i h1; exact absurd h h1
  split at h
  · cases h
  rename_i h1 h2 h3 h4 h5
  exact ⟨by simpa using h1, by simpa using h2, by simpa using h3, by simpa using h4, by simpa using h5⟩
theorem apply (t : PTab) (c : PChg) (hl : t.rows.length ≤ 17592186044416) (hs : Short t.rows) (hc : c.sets.length ≤ 17592186044416) (hd : ShortS c.sets) : Does Try.prog 74 [vTab t, vChg c] [] (vT (applyF t c)) [] [oT (applyF t c)] := by
  refine go_change_Apply rfl BxOK.nil fun cx hm0 => go_in 5000 ?_
  unfold ac_change_Apply rs_change_Apply
  by_cases h1 : checkC t c = 0
  case neg =>
    have hv : applyF t c = (noTab, checkC t c) := by simp [applyF, h1]
    rw [hv]
    have h1' : (checkC t c != 0) = true := by simpa using h1
    repeat' (first | simp (maxSteps := 9999999) only [↓GE, PL, PP, EE, QQ, seval, h1'] | (simp (disch := omega) only [IntWalk.i64_in]) | (refine go_brD (fun h => ?_) (fun h => ?_)) | (refine go_gsD (by ((try simp only [EE, QQ, seval]) <;> rfl)) (fun h => ?_) (fun h => ?_)) | (refine go_br (fun h => ?_) (fun h => ?_)) | (refine go_gs (by ((try simp only [EE, QQ, seval]) <;> rfl)) (fun h => ?_) (fun h => ?_)) | (apply go_call 5000 (ccheck t c hl hs hc hd) rfl rfl; (· ((try simp only [CC, LL, NM, EE, QQ, seval]) <;> (first | rfl | ((repeat constructor); done)))); (· exact CallForm.plain rfl); (· ((try simp only [CC, LL, NM, EE, QQ, seval]) <;> (first | rfl | ((repeat constructor); done)))); (· ((try simp only [CC, LL, NM, EE, QQ, seval]) <;> (first | rfl | ((repeat constructor); done))))) | (with_reducible apply And.intro) | (with_reducible exact trivial) | omega | (simp only [List.length_map, List.length_cons, List.length_nil] at *; omega) | (show _ = true; first | rfl | kernel_rfl))
    all_goals ((first | apply ret_mk [none] | apply end_mk [none]); (· ((try simp only [CC, LL, EE, QQ, seval]) <;> rfl)); (· ((try simp only [CC, LL, EE, QQ, seval]) <;> repeat' (first | (with_reducible apply And.intro) | rfl | trivial | (exact ⟨_, rfl⟩) | (exact ⟨_, _, _, rfl⟩) | (simp [*, noTab]; done) | (simp [*, noTab]; omega) | (simp_all [noTab]; done) | (simp_all [noTab]; omega)))); all_goals (first | trivial | decide | ((try simp only [CC, LL, EE, QQ, seval]) <;> repeat' (first | (with_reducible apply And.intro) | (exact ⟨_, rfl, rfl, rfl⟩) | (exact ⟨_, _, _, rfl⟩) | (exact ⟨_, rfl⟩) | trivial | rfl | (simp; done)))))
  have hv : applyF t c = (⟨c.tt, t.p, t.width, applyRows t.rows c⟩, 0) := by simp [applyF, h1]
  rw [hv]
  obtain ⟨h2, h3, h4, h5, h6⟩ := checkC_ok h1
  obtain ⟨hf1, hf2, hf3, hf4, hf5, hf6⟩ := formF_ok h3
  obtain ⟨_, hr, _⟩ := checkT_ok h2
  obtain ⟨n, hn⟩ : ∃ n : Nat, n = (min c.count t.rows.length).toNat := ⟨_, rfl⟩
  have hlt : (t.rows.take n).length = n := by rw [List.length_take]; omega
  have hmn : min n t.rows.length = n := by omega
  repeat' (first | simp (maxSteps := 9999999) only [↓GE, PL, PP, EE, QQ, seval, h1, hn.symm, hmn, List.length_map, List.length_take] | (simp (disch := omega) only [IntWalk.i64_in]) | (refine go_brD (fun h => ?_) (fun h => ?_)) | (refine go_gsD (by ((try simp only [EE, QQ, seval]) <;> rfl)) (fun h => ?_) (fun h => ?_)) | (refine go_br (fun h => ?_) (fun h => ?_)) | (refine go_gs (by ((try simp only [EE, QQ, seval]) <;> rfl)) (fun h => ?_) (fun h => ?_)) | (apply go_call 5000 (ccheck t c hl hs hc hd) rfl rfl; (· ((try simp only [CC, LL, NM, EE, QQ, seval]) <;> (first | rfl | ((repeat constructor); done)))); (· exact CallForm.plain rfl); (· ((try simp only [CC, LL, NM, EE, QQ, seval]) <;> (first | rfl | ((repeat constructor); done)))); (· ((try simp only [CC, LL, NM, EE, QQ, seval]) <;> (first | rfl | ((repeat constructor); done))))) | (with_reducible apply And.intro) | (with_reducible exact trivial) | omega | (simp only [List.length_map, List.length_cons, List.length_nil] at *; omega) | (show _ = true; first | rfl | kernel_rfl))
  refine go_loop 5000 hm0 (ι := {p : Nat × List (List Int) // p.1 ≤ n ∧ p.2.length = c.count.toNat ∧ ∀ i, i < c.count.toNat → p.2.getD i [] = if i < p.1 then t.rows.getD i [] else []}) (fun i => [(3, .bp 3 0 0), (4, .bp 4 0 0), (7, .bp 7 0 0), (37, .d (dRows (t.rows.take n))), (38, I n), (39, I i.1.1)]) (fun i => [(3, .box 0 [I c.fr, I c.tt, I c.count, .d (dSets c.sets)]), (4, .box 0 [I 0, I 0, I 0, .nl 1]), (27, .arr 0 1 true (i.1.2.map eR)), (7, .box 0 [I c.tt, I t.p, I t.width, .og 27 0])]) (fun i => n - i.1.1) [] ⟨(0, List.replicate c.count.toNat []), by omega, by simp, fun i h => by simp [List.getD_eq_getElem?_getD, h]⟩ ?_ ?_
  · (simp only [GeS]; refine ⟨?_, ?_, ?_, ?_⟩; all_goals (repeat' (first | trivial | (with_reducible rfl) | simp only [CC, LL, EE, QQ, seval] | (with_reducible apply And.intro) | rfl | (refine ⟨_, rfl, ?_⟩) | (simp [List.map_take, eR, hn, hlt]; done) | omega)))
  · rintro ⟨⟨k, cur⟩, hk, hcl, hg⟩
    simp only at hk hcl hg
    by_cases hkn : k < n
    · have hs1 := getD_map eR [] [] (t.rows.take n) k (by omega)
      have hs2 : (t.rows.take n).getD k [] = t.rows.getD k [] := by simp [List.getD_eq_getElem?_getD, hkn]
      have hr1 := hs _ (mem_getD [] t.rows k (by omega))
      rw [hs2] at hs1
      have hs3 := getD_map eR [] [] cur k (by omega)
      have qk : k < cur.length := by omega
      repeat' (first | simp (maxSteps := 9999999) only [↓GE, PL, PP, EE, QQ, seval, hs1, hs3, qk, eR, List.length_map] | (simp (disch := omega) only [IntWalk.i64_in]) | (refine go_brD (fun h => ?_) (fun h => ?_)) | (refine go_gsD (by ((try simp only [EE, QQ, seval]) <;> rfl)) (fun h => ?_) (fun h => ?_)) | (refine go_br (fun h => ?_) (fun h => ?_)) | (refine go_gs (by ((try simp only [EE, QQ, seval]) <;> rfl)) (fun h => ?_) (fun h => ?_)) | (apply go_call 5000 (cloneInts _ hr1) rfl rfl; (· ((try simp only [CC, LL, NM, EE, QQ, seval]) <;> (first | rfl | ((repeat constructor); done)))); (· exact CallForm.news rfl rfl); (· ((try simp only [CC, LL, NM, EE, QQ, seval]) <;> (first | rfl | ((repeat constructor); done)))); (· ((try simp only [CC, LL, NM, EE, QQ, seval]) <;> (first | rfl | ((repeat constructor); done))))) | (with_reducible apply And.intro) | (with_reducible exact trivial) | omega | (simp only [List.length_map, List.length_cons, List.length_nil] at *; omega) | (show _ = true; first | rfl | kernel_rfl))
      refine ⟨⟨(k + 1, cur.set k (t.rows.getD k [])), hkn, by simp [hcl], fun i hi => by
                                                                                                    rw [getD_set]; simp only
                                                                                                    by_cases h : k = i ∧ i < cur.length
                                                                                                    · rw [if_pos h, h.1.symm, if_pos (by omega)]
                                                                                                    · rw [if_neg h, hg i hi]
                                                                                                      by_cases h2 : i < k
                                                                                                      · rw [if_pos h2, if_pos (by omega)]
                                                                                                      · rw [if_neg h2, if_neg (by omega)]⟩, ?_, by simp only; omega⟩
      (simp only [GeS]; refine ⟨?_, ?_, ?_, ?_⟩; all_goals (repeat' (first | trivial | (with_reducible rfl) | simp only [CC, LL, EE, QQ, seval] | (with_reducible apply And.intro) | rfl | (refine ⟨_, rfl, ?_⟩) | (simp [List.map_set, eR]; done) | omega)))
    · have : k = n := by omega
      subst this
      repeat' (first | simp (maxSteps := 9999999) only [↓GE, PL, PP, EE, QQ, seval, List.length_map] | (simp (disch := omega) only [IntWalk.i64_in]) | (refine go_brD (fun h => ?_) (fun h => ?_)) | (refine go_gsD (by ((try simp only [EE, QQ, seval]) <;> rfl)) (fun h => ?_) (fun h => ?_)) | (refine go_br (fun h => ?_) (fun h => ?_)) | (refine go_gs (by ((try simp only [EE, QQ, seval]) <;> rfl)) (fun h => ?_) (fun h => ?_)) | (with_reducible apply And.intro) | (with_reducible exact trivial) | omega | (simp only [List.length_map, List.length_cons, List.length_nil] at *; omega) | (show _ = true; first | rfl | kernel_rfl))
      refine go_loop 5000 hm0 (ι := {p : Nat × List (List Int) // p.1 ≤ c.sets.length ∧ p.2.length = c.count.toNat ∧ setAll p.2 (c.sets.drop p.1) = applyRows t.rows c}) (fun i => [(4, .bp 4 0 0), (7, .bp 7 0 0), (52, .d (dSets c.sets)), (53, I c.sets.length), (54, I i.1.1)]) (fun i => [(4, .box 0 [I 0, I 0, I 0, .nl 1]), (7, .box 0 [I c.tt, I t.p, I t.width, .og 27 0]), (27, .arr 0 1 true (i.1.2.map eR))]) (fun i => c.sets.length - i.1.1) [] ⟨(0, cur), by simp, hcl, setAll_apply hf6 hf4 cur hcl fun i hi => by
        rw [hg i hi]
        split
        · rfl
        · simp [List.getD_eq_getElem?_getD]; rw [List.getElem?_eq_none (by omega)]; rfl⟩ ?_ ?_
      · (simp only [GeS]; refine ⟨?_, ?_, ?_, ?_⟩; all_goals (repeat' (first | trivial | (with_reducible rfl) | simp only [CC, LL, EE, QQ, seval] | (with_reducible apply And.intro) | rfl | (refine ⟨_, rfl, ?_⟩) | (simp; done) | omega)))
      · rintro ⟨⟨k, cur⟩, hk, hcl, hv⟩
        simp only at hk hcl hv
        by_cases hkl : k < c.sets.length
        · have hs1 := getD_map eSet [] noSet c.sets k hkl
          have hm := mem_getD noSet c.sets k hkl
          have hr1 := hd _ hm
          have hin := formGo_in hf6 _ hm
          rw [drop_get noSet _ _ hkl, setAll] at hv
          generalize c.sets.getD k noSet = s at hs1 hv hr1 hin
          have hs3 := getD_map eR [] [] cur s.idx.toNat (by omega)
          have qk : s.idx.toNat < cur.length := by omega
          repeat' (first | simp (maxSteps := 9999999) only [↓GE, PL, PP, EE, QQ, seval, hs1, hs3, qk, eR, eSet, List.length_map] | (simp (disch := omega) only [IntWalk.i64_in]) | (refine go_brD (fun h => ?_) (fun h => ?_)) | (refine go_gsD (by ((try simp only [EE, QQ, seval]) <;> rfl)) (fun h => ?_) (fun h => ?_)) | (refine go_br (fun h => ?_) (fun h => ?_)) | (refine go_gs (by ((try simp only [EE, QQ, seval]) <;> rfl)) (fun h => ?_) (fun h => ?_)) | (apply go_call 5000 (cloneInts _ hr1) rfl rfl; (· ((try simp only [CC, LL, NM, EE, QQ, seval]) <;> (first | rfl | ((repeat constructor); done)))); (· exact CallForm.news rfl rfl); (· ((try simp only [CC, LL, NM, EE, QQ, seval]) <;> (first | rfl | ((repeat constructor); done)))); (· ((try simp only [CC, LL, NM, EE, QQ, seval]) <;> (first | rfl | ((repeat constructor); done))))) | (with_reducible apply And.intro) | (with_reducible exact trivial) | omega | (simp only [List.length_map, List.length_cons, List.length_nil] at *; omega) | (show _ = true; first | rfl | kernel_rfl))
          refine ⟨⟨(k + 1, cur.set s.idx.toNat s.row), hkl, by simp [hcl], hv⟩, ?_, by simp only; omega⟩
          (simp only [GeS]; refine ⟨?_, ?_, ?_, ?_⟩; all_goals (repeat' (first | trivial | (with_reducible rfl) | simp only [CC, LL, EE, QQ, seval] | (with_reducible apply And.intro) | rfl | (refine ⟨_, rfl, ?_⟩) | (simp [List.map_set, eR]; done) | omega)))
        · have : k = c.sets.length := by omega
          subst this
          simp only [List.drop_length, setAll] at hv
          subst hv
          repeat' (first | simp (maxSteps := 9999999) only [↓GE, PL, PP, EE, QQ, seval] | (simp (disch := omega) only [IntWalk.i64_in]) | (refine go_brD (fun h => ?_) (fun h => ?_)) | (refine go_gsD (by ((try simp only [EE, QQ, seval]) <;> rfl)) (fun h => ?_) (fun h => ?_)) | (refine go_br (fun h => ?_) (fun h => ?_)) | (refine go_gs (by ((try simp only [EE, QQ, seval]) <;> rfl)) (fun h => ?_) (fun h => ?_)) | (with_reducible apply And.intro) | (with_reducible exact trivial) | omega | (simp only [List.length_map, List.length_cons, List.length_nil] at *; omega) | (show _ = true; first | rfl | kernel_rfl))
          all_goals ((first | apply ret_mk [some 27] | apply end_mk [some 27]); (· ((try simp only [CC, LL, EE, QQ, seval]) <;> rfl)); (· ((try simp only [CC, LL, EE, QQ, seval]) <;> repeat' (first | (with_reducible apply And.intro) | rfl | trivial | (exact ⟨_, rfl⟩) | (exact ⟨_, _, _, rfl⟩) | (simp [*, ]; done) | (simp [*, ]; omega) | (simp_all []; done) | (simp_all []; omega)))); all_goals (first | trivial | decide | ((try simp only [CC, LL, EE, QQ, seval]) <;> repeat' (first | (with_reducible apply And.intro) | (exact ⟨_, rfl, rfl, rfl⟩) | (exact ⟨_, _, _, rfl⟩) | (exact ⟨_, rfl⟩) | trivial | rfl | (simp; done)))))
theorem r15apply (t : PTab) (c : PChg) (hl : t.rows.length ≤ 17592186044416) (hs : Short t.rows) (hc : c.sets.length ≤ 17592186044416) (hd : ShortS c.sets) : Does Try.prog 28 [vTab t, vChg c] [] (vT (applyF t c)) [] [oT (applyF t c)] := by
  refine go_ref15_Apply rfl BxOK.nil fun cx hm0 => go_in 5000 ?_
  unfold ac_ref15_Apply rs_ref15_Apply
  by_cases h1 : checkC t c = 0
  case neg =>
    have hv : applyF t c = (noTab, checkC t c) := by simp [applyF, h1]
    rw [hv]
    have h1' : (checkC t c != 0) = true := by simpa using h1
    repeat' (first | simp (maxSteps := 9999999) only [↓GE, PL, PP, EE, QQ, seval, h1'] | (simp (disch := omega) only [IntWalk.i64_in]) | (refine go_brD (fun h => ?_) (fun h => ?_)) | (refine go_gsD (by ((try simp only [EE, QQ, seval]) <;> rfl)) (fun h => ?_) (fun h => ?_)) | (refine go_br (fun h => ?_) (fun h => ?_)) | (refine go_gs (by ((try simp only [EE, QQ, seval]) <;> rfl)) (fun h => ?_) (fun h => ?_)) | (apply go_call 5000 (r15check t c hl hs hc hd) rfl rfl; (· ((try simp only [CC, LL, NM, EE, QQ, seval]) <;> (first | rfl | ((repeat constructor); done)))); (· exact CallForm.plain rfl); (· ((try simp only [CC, LL, NM, EE, QQ, seval]) <;> (first | rfl | ((repeat constructor); done)))); (· ((try simp only [CC, LL, NM, EE, QQ, seval]) <;> (first | rfl | ((repeat constructor); done))))) | (with_reducible apply And.intro) | (with_reducible exact trivial) | omega | (simp only [List.length_map, List.length_cons, List.length_nil] at *; omega) | (show _ = true; first | rfl | kernel_rfl))
    all_goals ((first | apply ret_mk [none] | apply end_mk [none]); (· ((try simp only [CC, LL, EE, QQ, seval]) <;> rfl)); (· ((try simp only [CC, LL, EE, QQ, seval]) <;> repeat' (first | (with_reducible apply And.intro) | rfl | trivial | (exact ⟨_, rfl⟩) | (exact ⟨_, _, _, rfl⟩) | (simp [*, noTab]; done) | (simp [*, noTab]; omega) | (simp_all [noTab]; done) | (simp_all [noTab]; omega)))); all_goals (first | trivial | decide | ((try simp only [CC, LL, EE, QQ, seval]) <;> repeat' (first | (with_reducible apply And.intro) | (exact ⟨_, rfl, rfl, rfl⟩) | (exact ⟨_, _, _, rfl⟩) | (exact ⟨_, rfl⟩) | trivial | rfl | (simp; done)))))
  have hv : applyF t c = (⟨c.tt, t.p, t.width, applyRows t.rows c⟩, 0) := by simp [applyF, h1]
  rw [hv]
  obtain ⟨h2, h3, h4, h5, h6⟩ := checkC_ok h1
  obtain ⟨hf1, hf2, hf3, hf4, hf5, hf6⟩ := formF_ok h3
  obtain ⟨_, hr, _⟩ := checkT_ok h2
  have hb := (behind_all (x := (t.rows.length : Int)) hf6).1 h6
  repeat' (first | simp (maxSteps := 9999999) only [↓GE, PL, PP, EE, QQ, seval, h1, List.length_map] | (simp (disch := omega) only [IntWalk.i64_in]) | (refine go_brD (fun h => ?_) (fun h => ?_)) | (refine go_gsD (by ((try simp only [EE, QQ, seval]) <;> rfl)) (fun h => ?_) (fun h => ?_)) | (refine go_br (fun h => ?_) (fun h => ?_)) | (refine go_gs (by ((try simp only [EE, QQ, seval]) <;> rfl)) (fun h => ?_) (fun h => ?_)) | (apply go_call 5000 (r15check t c hl hs hc hd) rfl rfl; (· ((try simp only [CC, LL, NM, EE, QQ, seval]) <;> (first | rfl | ((repeat constructor); done)))); (· exact CallForm.plain rfl); (· ((try simp only [CC, LL, NM, EE, QQ, seval]) <;> (first | rfl | ((repeat constructor); done)))); (· ((try simp only [CC, LL, NM, EE, QQ, seval]) <;> (first | rfl | ((repeat constructor); done))))) | (with_reducible apply And.intro) | (with_reducible exact trivial) | omega | (simp only [List.length_map, List.length_cons, List.length_nil] at *; omega) | (show _ = true; first | rfl | kernel_rfl))
  refine go_loop 5000 hm0 (ι := {p : Nat × Nat // p.1 ≤ c.count.toNat}) (fun i => [(2, .bp 2 0 0), (3, .bp 3 0 0), (4, .bp 4 0 0), (7, .bp 7 0 0), (8, I i.1.1)]) (fun i => [(2, .box 0 [I t.num, I t.p, I t.width, .d (dRows t.rows)]), (3, .box 0 [I c.fr, I c.tt, I c.count, .d (dSets c.sets)]), (4, .box 0 [I 0, I 0, I 0, .nl 1]), (49, .arr i.1.2 1 true (((List.range i.1.1).map fun (i : Nat) => (findF i c.sets).getD (t.rows.getD i [])).map eR)), (7, .box 0 [I c.tt, I t.p, I t.width, .og 49 i.1.2])]) (fun i => c.count.toNat - i.1.1) [49] ⟨(0, 0), by simp⟩ ?_ ?_
  · (simp only [GeS]; refine ⟨?_, ?_, ?_, ?_⟩; all_goals (repeat' (first | trivial | (with_reducible rfl) | simp only [CC, LL, EE, QQ, seval] | (with_reducible apply And.intro) | rfl | (refine ⟨_, rfl, ?_⟩) | (simp; done) | omega)))
  · rintro ⟨⟨k, v⟩, hk⟩
    simp only at hk
    by_cases hkn : k < c.count.toNat
    · have hfs : ∀ r, findF k c.sets = some r → r.length ≤ 17592186044416 := fun r h => by
        obtain ⟨s, hs1, hs2⟩ := findF_mem h
        rw [← hs2]; exact hd s hs1
      cases hfk : findF k c.sets with
      | some r =>
        have hr := hfs r hfk
        repeat' (first | simp (maxSteps := 9999999) only [↓GE, PL, PP, EE, QQ, seval, hfk, Option.getD_some, Option.isSome_some, eR, List.length_map, List.length_range] | (simp (disch := omega) only [IntWalk.i64_in]) | (refine go_brD (fun h => ?_) (fun h => ?_)) | (refine go_gsD (by ((try simp only [EE, QQ, seval]) <;> rfl)) (fun h => ?_) (fun h => ?_)) | (refine go_br (fun h => ?_) (fun h => ?_)) | (refine go_gs (by ((try simp only [EE, QQ, seval]) <;> rfl)) (fun h => ?_) (fun h => ?_)) | (apply go_call 5000 (r15find c k hc) rfl rfl; (· ((try simp only [CC, LL, NM, EE, QQ, seval]) <;> (first | rfl | ((repeat constructor); done)))); (· exact CallForm.plain rfl); (· ((try simp only [CC, LL, NM, EE, QQ, seval]) <;> (first | rfl | ((repeat constructor); done)))); (· ((try simp only [CC, LL, NM, EE, QQ, seval]) <;> (first | rfl | ((repeat constructor); done))))) | (with_reducible apply And.intro) | (with_reducible exact trivial) | omega | (simp only [List.length_map, List.length_cons, List.length_nil] at *; omega) | (show _ = true; first | rfl | kernel_rfl))
        refine ⟨⟨(k + 1, v + 1), hkn⟩, ?_, by simp only; omega⟩
        (simp only [GeS]; refine ⟨?_, ?_, ?_, ?_⟩; all_goals (repeat' (first | trivial | (with_reducible rfl) | simp only [CC, LL, EE, QQ, seval] | (with_reducible apply And.intro) | rfl | (refine ⟨_, rfl, ?_⟩) | (simp [List.range_succ, hfk, eR]; done) | omega)))
      | none =>
        have hkr : k < t.rows.length := by
          by_cases h : k < t.rows.length
          · exact h
          · have := hb k (by omega) (by omega)
            rw [hfk] at this
            cases this
        have hs1 := getD_map eR [] [] t.rows k hkr
        have hr1 := hs _ (mem_getD [] t.rows k hkr)
        repeat' (first | simp (maxSteps := 9999999) only [↓GE, PL, PP, EE, QQ, seval, hfk, hs1, Option.getD_none, Option.isSome_none, eR, List.length_map, List.length_range] | (simp (disch := omega) only [IntWalk.i64_in]) | (refine go_brD (fun h => ?_) (fun h => ?_)) | (refine go_gsD (by ((try simp only [EE, QQ, seval]) <;> rfl)) (fun h => ?_) (fun h => ?_)) | (refine go_br (fun h => ?_) (fun h => ?_)) | (refine go_gs (by ((try simp only [EE, QQ, seval]) <;> rfl)) (fun h => ?_) (fun h => ?_)) | (apply go_call 5000 (r15find c k hc) rfl rfl; (· ((try simp only [CC, LL, NM, EE, QQ, seval]) <;> (first | rfl | ((repeat constructor); done)))); (· exact CallForm.plain rfl); (· ((try simp only [CC, LL, NM, EE, QQ, seval]) <;> (first | rfl | ((repeat constructor); done)))); (· ((try simp only [CC, LL, NM, EE, QQ, seval]) <;> (first | rfl | ((repeat constructor); done))))) | (with_reducible apply And.intro) | (with_reducible exact trivial) | omega | (simp only [List.length_map, List.length_cons, List.length_nil] at *; omega) | (show _ = true; first | rfl | kernel_rfl))
        refine ⟨⟨(k + 1, v + 1), hkn⟩, ?_, by simp only; omega⟩
        (simp only [GeS]; refine ⟨?_, ?_, ?_, ?_⟩; all_goals (repeat' (first | trivial | (with_reducible rfl) | simp only [CC, LL, EE, QQ, seval] | (with_reducible apply And.intro) | rfl | (refine ⟨_, rfl, ?_⟩) | (simp [List.range_succ, hfk, eR]; done) | omega)))
    · have : k = c.count.toNat := by omega
      subst this
      repeat' (first | simp (maxSteps := 9999999) only [↓GE, PL, PP, EE, QQ, seval] | (simp (disch := omega) only [IntWalk.i64_in]) | (refine go_brD (fun h => ?_) (fun h => ?_)) | (refine go_gsD (by ((try simp only [EE, QQ, seval]) <;> rfl)) (fun h => ?_) (fun h => ?_)) | (refine go_br (fun h => ?_) (fun h => ?_)) | (refine go_gs (by ((try simp only [EE, QQ, seval]) <;> rfl)) (fun h => ?_) (fun h => ?_)) | (with_reducible apply And.intro) | (with_reducible exact trivial) | omega | (simp only [List.length_map, List.length_cons, List.length_nil] at *; omega) | (show _ = true; first | rfl | kernel_rfl))
      all_goals ((first | apply ret_mk [some 49] | apply end_mk [some 49]); (· ((try simp only [CC, LL, EE, QQ, seval]) <;> rfl)); (· ((try simp only [CC, LL, EE, QQ, seval]) <;> repeat' (first | (with_reducible apply And.intro) | rfl | trivial | (exact ⟨_, rfl⟩) | (exact ⟨_, _, _, rfl⟩) | (simp [*, applyRows]; done) | (simp [*, applyRows]; omega) | (simp_all [applyRows]; done) | (simp_all [applyRows]; omega)))); all_goals (first | trivial | decide | ((try simp only [CC, LL, EE, QQ, seval]) <;> repeat' (first | (with_reducible apply And.intro) | (exact ⟨_, rfl, rfl, rfl⟩) | (exact ⟨_, _, _, rfl⟩) | (exact ⟨_, rfl⟩) | trivial | rfl | (simp; done)))))
end Go.Proofs.Ytilkjcobkdjlkaa.Sim
end
