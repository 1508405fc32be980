/- Numbers, lists and rows; the first functions of the chapter of changes. -/
import Derived.Test.YtpliidhbfjjofaaAcs
namespace Go.Proofs.Ytpliidhbfjjofaa.Sim
open Go
set_option maxRecDepth 100000
set_option linter.unusedVariables false
set_option linter.unusedSimpArgs false
attribute [local irreducible] Go Mean
def eI (x : Int) : List D := [.at (.int .i64 x)]
abbrev dInts (l : List Int) : D := .sl 1 (l.map eI)
structure PSet where
  idx : Int
  row : List Int
def eSet (s : PSet) : List D := [.at (.int .i64 s.idx), dInts s.row]
abbrev dSets (l : List PSet) : D := .sl 2 (l.map eSet)
structure PChg where
  fr : Int
  tt : Int
  count : Int
  sets : List PSet
abbrev vChg (c : PChg) : V := .ag [I c.fr, I c.tt, I c.count, .d (dSets c.sets)]
theorem getD_map {α β : Type} (f : α → β) (z : β) (w : α) : ∀ (l : List α) (k : Nat), k < l.length → (l.map f).getD k z = f (l.getD k w)
  | [], k, h => by simp at h
  | x :: l, 0, h => rfl
  | x :: l, k + 1, h => by
    simp only [List.map_cons, List.getD_cons_succ]
    exact getD_map f z w l k (by simpa using h)
theorem drop_get {α : Type} (w : α) : ∀ (l : List α) (k : Nat), k < l.length → l.drop k = l.getD k w :: l.drop (k + 1)
  | [], k, h => by simp at h
  | x :: l, 0, h => rfl
  | x :: l, k + 1, h => by
    simp only [List.drop_succ_cons, List.getD_cons_succ]
    exact drop_get w l k (by simpa using h)
def numF (n : Int) : Bool := decide (1 ≤ n) && decide (n < 2147483647)
theorem numbered (n : Int) : Does Try.prog 58 [I n] [] (B (numF n)) [] [] := by
  refine go_change_numbered rfl BxOK.nil fun cx hm0 => go_in 5000 ?_
  unfold ac_change_numbered rs_change_numbered
  repeat' (first | simp only [↓GE, PL, PP, EE, QQ, seval] | (simp (disch := omega) only [IntWalk.i64_in]) | (refine go_brD (fun h => ?_) (fun h => ?_)) | (refine go_gsD (by ((try simp only [EE, QQ, seval]) <;> rfl)) (fun h => ?_) (fun h => ?_)) | (refine go_br (fun h => ?_) (fun h => ?_)) | (refine go_gs (by ((try simp only [EE, QQ, seval]) <;> rfl)) (fun h => ?_) (fun h => ?_)) | (with_reducible apply And.intro) | (with_reducible exact trivial) | omega | (simp only [List.length_map, List.length_cons, List.length_nil] at *; omega) | (show _ = true; first | rfl | kernel_rfl))
  all_goals
    (first | apply ret_mk [] | apply end_mk []); (· ((try simp only [CC, EE, QQ, seval]) <;> rfl))
    · simp only [CC, EE, QQ, seval]
      simp [numF, *] <;> omega
    · trivial
    · decide
    · trivial
theorem cloneInts (l : List Int) (hl : l.length ≤ 17592186044416) : Does Try.prog 43 [.d (dInts l)] [] (.og 1000000 0) [] [.arr 0 1 true (l.map eI)] := by
  refine go_slices_Clone_int_int rfl BxOK.nil fun cx hm0 => go_in 5000 ?_
  unfold ac_slices_Clone_int_int rs_slices_Clone_int_int
  cases l with
  | nil =>
    repeat' (first | simp only [↓GE, PL, PP, EE, QQ, seval] | (simp (disch := omega) only [IntWalk.i64_in]) | (refine go_brD (fun h => ?_) (fun h => ?_)) | (refine go_gsD (by ((try simp only [EE, QQ, seval]) <;> rfl)) (fun h => ?_) (fun h => ?_)) | (refine go_br (fun h => ?_) (fun h => ?_)) | (refine go_gs (by ((try simp only [EE, QQ, seval]) <;> rfl)) (fun h => ?_) (fun h => ?_)) | (with_reducible apply And.intro) | (with_reducible exact trivial) | omega | (simp only [List.length_map, List.length_cons, List.length_nil] at *; omega) | (show _ = true; first | rfl | kernel_rfl))
    · (first | apply ret_mk [none] | apply end_mk [none]); (· ((try simp only [CC, EE, QQ, seval]) <;> rfl))
      all_goals (first | trivial | decide | ((try simp only [CC, EE, QQ, seval]) <;> repeat' (first | (with_reducible apply And.intro) | (exact ⟨_, rfl, rfl, rfl⟩) | (exact ⟨_, _, _, rfl⟩) | (exact ⟨_, rfl⟩) | trivial | rfl | (simp; done))))
    · (first | apply ret_mk [some 5] | apply end_mk [some 5]); (· ((try simp only [CC, EE, QQ, seval]) <;> rfl))
      all_goals (first | trivial | decide | ((try simp only [CC, EE, QQ, seval]) <;> repeat' (first | (with_reducible apply And.intro) | (exact ⟨_, rfl, rfl, rfl⟩) | (exact ⟨_, _, _, rfl⟩) | (exact ⟨_, rfl⟩) | trivial | rfl | (simp; done))))
  | cons x l =>
    repeat' (first | simp only [↓GE, PL, PP, EE, QQ, seval] | (simp (disch := omega) only [IntWalk.i64_in]) | (refine go_brD (fun h => ?_) (fun h => ?_)) | (refine go_gsD (by ((try simp only [EE, QQ, seval]) <;> rfl)) (fun h => ?_) (fun h => ?_)) | (refine go_br (fun h => ?_) (fun h => ?_)) | (refine go_gs (by ((try simp only [EE, QQ, seval]) <;> rfl)) (fun h => ?_) (fun h => ?_)) | (with_reducible apply And.intro) | (with_reducible exact trivial) | omega | (simp only [List.length_map, List.length_cons, List.length_nil] at *; omega) | (show _ = true; first | rfl | kernel_rfl))
    (first | apply ret_mk [some 5] | apply end_mk [some 5]); (· ((try simp only [CC, EE, QQ, seval]) <;> rfl))
    all_goals (first | trivial | decide | ((try simp only [CC, EE, QQ, seval]) <;> repeat' (first | (with_reducible apply And.intro) | (exact ⟨_, rfl, rfl, rfl⟩) | (exact ⟨_, _, _, rfl⟩) | (exact ⟨_, rfl⟩) | trivial | rfl | (simp; done))))
theorem own (s : PSet) (hl : s.row.length ≤ 17592186044416) : Does Try.prog 42 [.ag [I s.idx, .d (dInts s.row)]] [] (.ag [I s.idx, .og 1000000 0]) [] [.arr 0 1 true (s.row.map eI)] := by
  refine go_change_own rfl BxOK.nil fun cx hm0 => go_in 5000 ?_
  unfold ac_change_own rs_change_own
  repeat' (first | simp only [↓GE, PL, PP, EE, QQ, seval] | (simp (disch := omega) only [IntWalk.i64_in]) | (refine go_brD (fun h => ?_) (fun h => ?_)) | (refine go_gsD (by ((try simp only [EE, QQ, seval]) <;> rfl)) (fun h => ?_) (fun h => ?_)) | (refine go_br (fun h => ?_) (fun h => ?_)) | (refine go_gs (by ((try simp only [EE, QQ, seval]) <;> rfl)) (fun h => ?_) (fun h => ?_)) | (apply go_call 5000 (cloneInts _ hl) rfl rfl; (· ((try simp only [CC, EE, QQ, seval]) <;> (first | rfl | ((repeat constructor); done)))); (· exact CallForm.news rfl rfl); (· ((try simp only [CC, EE, QQ, seval]) <;> (first | rfl | ((repeat constructor); done)))); (· ((try simp only [CC, EE, QQ, seval]) <;> (first | rfl | ((repeat constructor); done))))) | (with_reducible apply And.intro) | (with_reducible exact trivial) | omega | (simp only [List.length_map, List.length_cons, List.length_nil] at *; omega) | (show _ = true; first | rfl | kernel_rfl))
  (first | apply ret_mk [some 9000] | apply end_mk [some 9000]); (· ((try simp only [CC, EE, QQ, seval]) <;> rfl))
  all_goals (first | trivial | decide | ((try simp only [CC, EE, QQ, seval]) <;> repeat' (first | (with_reducible apply And.intro) | (exact ⟨_, rfl, rfl, rfl⟩) | (exact ⟨_, _, _, rfl⟩) | (exact ⟨_, rfl⟩) | trivial | rfl | (simp; done))))
def formGo (count : Int) : Int → List PSet → Bool
  | _, [] => true
  | last, s :: r => if s.idx ≤ last ∨ s.idx ≥ count then false else formGo count s.idx r
def formF (c : PChg) : Bool := numF c.fr && numF c.tt && decide (c.fr < c.tt) && decide (0 ≤ c.count) && decide (c.count ≤ 1024) && formGo c.count (-1) c.sets
def noSet : PSet := ⟨0, []⟩
theorem formed (c : PChg) (hl : c.sets.length ≤ 17592186044416) : Does Try.prog 44 [vChg c] [] (B (formF c)) [] [] := by
  refine go_change_formed rfl BxOK.nil fun cx hm0 => go_in 5000 ?_
  unfold ac_change_formed rs_change_formed
  repeat' (first | simp only [↓GE, PL, PP, EE, QQ, seval] | (simp (disch := omega) only [IntWalk.i64_in]) | (refine go_brD (fun h => ?_) (fun h => ?_)) | (refine go_gsD (by ((try simp only [EE, QQ, seval]) <;> rfl)) (fun h => ?_) (fun h => ?_)) | (refine go_br (fun h => ?_) (fun h => ?_)) | (refine go_gs (by ((try simp only [EE, QQ, seval]) <;> rfl)) (fun h => ?_) (fun h => ?_)) | (apply go_call 5000 (numbered _) rfl rfl; (· ((try simp only [CC, EE, QQ, seval]) <;> (first | rfl | ((repeat constructor); done)))); (· exact CallForm.plain rfl); (· ((try simp only [CC, EE, QQ, seval]) <;> (first | rfl | ((repeat constructor); done)))); (· ((try simp only [CC, EE, QQ, seval]) <;> (first | rfl | ((repeat constructor); done))))) | (with_reducible apply And.intro) | (with_reducible exact trivial) | omega | (simp only [List.length_map, List.length_cons, List.length_nil] at *; omega) | (show _ = true; first | rfl | kernel_rfl))
  any_goals ((first | apply ret_mk [] | apply end_mk []); (· ((try simp only [CC, EE, QQ, seval]) <;> rfl)); (· ((try simp only [CC, EE, QQ, seval]) <;> repeat' (first | (with_reducible apply And.intro) | rfl | trivial | (exact ⟨_, rfl⟩) | (exact ⟨_, _, _, rfl⟩) | (simp [*, formF]; done) | (simp [*, formF]; omega) | (simp_all [formF]; done) | (simp_all [formF]; omega)))); all_goals (first | trivial | decide | ((try simp only [CC, EE, QQ, seval]) <;> repeat' (first | (with_reducible apply And.intro) | (exact ⟨_, rfl, rfl, rfl⟩) | (exact ⟨_, _, _, rfl⟩) | (exact ⟨_, rfl⟩) | trivial | rfl | (simp; done)))))
  refine go_loop 5000 hm0 (ι := {p : Nat × Int // p.1 ≤ c.sets.length ∧ formGo c.count (-1) c.sets = formGo c.count p.2 (c.sets.drop p.1)}) (fun i => [(1, .bp 1 0 0), (2, B false), (3, I i.1.2), (34, .d (dSets c.sets)), (35, I c.sets.length), (36, I i.1.1)]) (fun i => [(1, .box 0 [I c.fr, I c.tt, I c.count, .d (dSets c.sets)])]) (fun i => c.sets.length - i.1.1) [] ⟨(0, -1), by simp⟩ ?_ ?_
  · (simp only [GeS]; refine ⟨?_, ?_, ?_, ?_⟩; all_goals (repeat' (first | trivial | (with_reducible rfl) | simp only [CC, EE, QQ, seval] | (with_reducible apply And.intro) | rfl | (refine ⟨_, rfl, ?_⟩) | (simp; done) | omega)))
  · rintro ⟨⟨k, last⟩, hk, hv⟩
    by_cases hkl : k < c.sets.length
    · have hs := getD_map eSet [] noSet c.sets k hkl
      rw [drop_get noSet _ _ hkl] at hv
      generalize c.sets.getD k noSet = s at hs hv
      simp only [formGo] at hv
      repeat' (first | simp only [↓GE, PL, PP, EE, QQ, seval, hs, eSet] | (simp (disch := omega) only [IntWalk.i64_in]) | (refine go_brD (fun h => ?_) (fun h => ?_)) | (refine go_gsD (by ((try simp only [EE, QQ, seval]) <;> rfl)) (fun h => ?_) (fun h => ?_)) | (refine go_br (fun h => ?_) (fun h => ?_)) | (refine go_gs (by ((try simp only [EE, QQ, seval]) <;> rfl)) (fun h => ?_) (fun h => ?_)) | (with_reducible apply And.intro) | (with_reducible exact trivial) | omega | (simp only [List.length_map, List.length_cons, List.length_nil] at *; omega) | (show _ = true; first | rfl | kernel_rfl))
      any_goals ((first | apply ret_mk [] | apply end_mk []); (· ((try simp only [CC, EE, QQ, seval]) <;> rfl)); (· ((try simp only [CC, EE, QQ, seval]) <;> repeat' (first | (with_reducible apply And.intro) | rfl | trivial | (exact ⟨_, rfl⟩) | (exact ⟨_, _, _, rfl⟩) | (simp [*, formF]; done) | (simp [*, formF]; omega) | (simp_all [formF]; done) | (simp_all [formF]; omega)))); all_goals (first | trivial | decide | ((try simp only [CC, EE, QQ, seval]) <;> repeat' (first | (with_reducible apply And.intro) | (exact ⟨_, rfl, rfl, rfl⟩) | (exact ⟨_, _, _, rfl⟩) | (exact ⟨_, rfl⟩) | trivial | rfl | (simp; done)))))
      refine ⟨⟨(k + 1, s.idx), hkl, by rw [hv, if_neg (by omega)]⟩, ?_, by simp only; omega⟩
      (simp only [GeS]; refine ⟨?_, ?_, ?_, ?_⟩; all_goals (repeat' (first | trivial | (with_reducible rfl) | simp only [CC, EE, QQ, seval] | (with_reducible apply And.intro) | rfl | (refine ⟨_, rfl, ?_⟩) | (simp; done) | omega)))
    · have : k = c.sets.length := by simp only at hk; omega
      subst this
      simp only [List.drop_length, formGo] at hv
      repeat' (first | simp only [↓GE, PL, PP, EE, QQ, seval] | (simp (disch := omega) only [IntWalk.i64_in]) | (refine go_brD (fun h => ?_) (fun h => ?_)) | (refine go_gsD (by ((try simp only [EE, QQ, seval]) <;> rfl)) (fun h => ?_) (fun h => ?_)) | (refine go_br (fun h => ?_) (fun h => ?_)) | (refine go_gs (by ((try simp only [EE, QQ, seval]) <;> rfl)) (fun h => ?_) (fun h => ?_)) | (with_reducible apply And.intro) | (with_reducible exact trivial) | omega | (simp only [List.length_map, List.length_cons, List.length_nil] at *; omega) | (show _ = true; first | rfl | kernel_rfl))
      all_goals ((first | apply ret_mk [] | apply end_mk []); (· ((try simp only [CC, EE, QQ, seval]) <;> rfl)); (· ((try simp only [CC, EE, QQ, seval]) <;> repeat' (first | (with_reducible apply And.intro) | rfl | trivial | (exact ⟨_, rfl⟩) | (exact ⟨_, _, _, rfl⟩) | (simp [*, formF]; done) | (simp [*, formF]; omega) | (simp_all [formF]; done) | (simp_all [formF]; omega)))); all_goals (first | trivial | decide | ((try simp only [CC, EE, QQ, seval]) <;> repeat' (first | (with_reducible apply And.intro) | (exact ⟨_, rfl, rfl, rfl⟩) | (exact ⟨_, _, _, rfl⟩) | (exact ⟨_, rfl⟩) | trivial | rfl | (simp; done)))))
def behindF (index : Int) (l : List PSet) : Nat := l.countP fun s => decide (s.idx ≥ index)
theorem behind (c : PChg) (x : Int) (hl : c.sets.length ≤ 17592186044416) : Does Try.prog 46 [vChg c, I x] [] (I (behindF x c.sets)) [] [] := by
  refine go_change_behind rfl BxOK.nil fun cx hm0 => go_in 5000 ?_
  unfold ac_change_behind rs_change_behind
  repeat' (first | simp only [↓GE, PL, PP, EE, QQ, seval] | (simp (disch := omega) only [IntWalk.i64_in]) | (refine go_brD (fun h => ?_) (fun h => ?_)) | (refine go_gsD (by ((try simp only [EE, QQ, seval]) <;> rfl)) (fun h => ?_) (fun h => ?_)) | (refine go_br (fun h => ?_) (fun h => ?_)) | (refine go_gs (by ((try simp only [EE, QQ, seval]) <;> rfl)) (fun h => ?_) (fun h => ?_)) | (with_reducible apply And.intro) | (with_reducible exact trivial) | omega | (simp only [List.length_map, List.length_cons, List.length_nil] at *; omega) | (show _ = true; first | rfl | kernel_rfl))
  refine go_loop 5000 hm0 (ι := {p : Nat × Nat // p.1 ≤ c.sets.length ∧ p.2 ≤ p.1 ∧ behindF x c.sets = p.2 + behindF x (c.sets.drop p.1)}) (fun i => [(1, I x), (2, .bp 2 0 0), (5, I i.1.2), (9, .d (dSets c.sets)), (10, I c.sets.length), (11, I i.1.1)]) (fun i => [(2, .box 0 [I c.fr, I c.tt, I c.count, .d (dSets c.sets)])]) (fun i => c.sets.length - i.1.1) [] ⟨(0, 0), by simp⟩ ?_ ?_
  · (simp only [GeS]; refine ⟨?_, ?_, ?_, ?_⟩; all_goals (repeat' (first | trivial | (with_reducible rfl) | simp only [CC, EE, QQ, seval] | (with_reducible apply And.intro) | rfl | (refine ⟨_, rfl, ?_⟩) | (simp; done) | omega)))
  · rintro ⟨⟨k, n⟩, hk, hn, hv⟩
    by_cases hkl : k < c.sets.length
    · have hs := getD_map eSet [] noSet c.sets k hkl
      rw [drop_get noSet _ _ hkl] at hv
      generalize c.sets.getD k noSet = s at hs hv
      simp only [behindF, List.countP_cons] at hv
      repeat' (first | simp only [↓GE, PL, PP, EE, QQ, seval, hs, eSet] | (simp (disch := omega) only [IntWalk.i64_in]) | (refine go_brD (fun h => ?_) (fun h => ?_)) | (refine go_gsD (by ((try simp only [EE, QQ, seval]) <;> rfl)) (fun h => ?_) (fun h => ?_)) | (refine go_br (fun h => ?_) (fun h => ?_)) | (refine go_gs (by ((try simp only [EE, QQ, seval]) <;> rfl)) (fun h => ?_) (fun h => ?_)) | (with_reducible apply And.intro) | (with_reducible exact trivial) | omega | (simp only [List.length_map, List.length_cons, List.length_nil] at *; omega) | (show _ = true; first | rfl | kernel_rfl))
      · refine ⟨⟨(k + 1, n + 1), hkl, by omega, by simp_all [behindF]; omega⟩, ?_, by simp only; omega⟩
        (simp only [GeS]; refine ⟨?_, ?_, ?_, ?_⟩; all_goals (repeat' (first | trivial | (with_reducible rfl) | simp only [CC, EE, QQ, seval] | (with_reducible apply And.intro) | rfl | (refine ⟨_, rfl, ?_⟩) | (simp; done) | omega)))
      · refine ⟨⟨(k + 1, n), hkl, by omega, by simp_all [behindF]⟩, ?_, by simp only; omega⟩
        (simp only [GeS]; refine ⟨?_, ?_, ?_, ?_⟩; all_goals (repeat' (first | trivial | (with_reducible rfl) | simp only [CC, EE, QQ, seval] | (with_reducible apply And.intro) | rfl | (refine ⟨_, rfl, ?_⟩) | (simp; done) | omega)))
    · have : k = c.sets.length := by simp only at hk; omega
      subst this
      simp only [List.drop_length, behindF, List.countP_nil] at hv
      repeat' (first | simp only [↓GE, PL, PP, EE, QQ, seval] | (simp (disch := omega) only [IntWalk.i64_in]) | (refine go_brD (fun h => ?_) (fun h => ?_)) | (refine go_gsD (by ((try simp only [EE, QQ, seval]) <;> rfl)) (fun h => ?_) (fun h => ?_)) | (refine go_br (fun h => ?_) (fun h => ?_)) | (refine go_gs (by ((try simp only [EE, QQ, seval]) <;> rfl)) (fun h => ?_) (fun h => ?_)) | (with_reducible apply And.intro) | (with_reducible exact trivial) | omega | (simp only [List.length_map, List.length_cons, List.length_nil] at *; omega) | (show _ = true; first | rfl | kernel_rfl))
      all_goals ((first | apply ret_mk [] | apply end_mk []); (· ((try simp only [CC, EE, QQ, seval]) <;> rfl)); (· ((try simp only [CC, EE, QQ, seval]) <;> repeat' (first | (with_reducible apply And.intro) | rfl | trivial | (exact ⟨_, rfl⟩) | (exact ⟨_, _, _, rfl⟩) | (simp [*, behindF]; done) | (simp [*, behindF]; omega) | (simp_all [behindF]; done) | (simp_all [behindF]; omega)))); all_goals (first | trivial | decide | ((try simp only [CC, EE, QQ, seval]) <;> repeat' (first | (with_reducible apply And.intro) | (exact ⟨_, rfl, rfl, rfl⟩) | (exact ⟨_, _, _, rfl⟩) | (exact ⟨_, rfl⟩) | trivial | rfl | (simp; done)))))
end Go.Proofs.Ytpliidhbfjjofaa.Sim
