/- Publishers: versions that are kept. -/
import Derived.Test.YtilkjcobkdjlkaaUpA
namespace Go.Proofs.Ytilkjcobkdjlkaa.Sim
open Go
set_option maxRecDepth 100000
set_option maxHeartbeats 4000000
set_option linter.unusedVariables false
set_option linter.unusedSimpArgs false
attribute [local irreducible] Go Mean
/-- Where a number stands first, or -1. -/
def ixI (x : Int) (l : List Int) : Int := if x ∈ l then ((l.findIdx (fun y => x == y) : Nat) : Int) else -1
theorem sindex (l : List Int) (x : Int) (hl : l.length ≤ 1000000) : Does Try.prog 103 [.d (dInts l), I x] [] (I (ixI x l)) [] [] := by
  refine go_slices_Index_int_int rfl BxOK.nil fun cx hm0 => go_in 5000 ?_
  unfold ac_slices_Index_int_int rs_slices_Index_int_int
  repeat' (first | simp (maxSteps := 9999999) only [↓GE, PL, PP, EE, QQ, seval, List.length_map] | (simp (disch := omega) only [IntWalk.i64_in]) | (refine go_brD (fun h => ?_) (fun h => ?_)) | (refine go_gsD (by ((try simp only [EE, QQ, seval]) <;> rfl)) (fun h => ?_) (fun h => ?_)) | (refine go_br (fun h => ?_) (fun h => ?_)) | (refine go_gs (by ((try simp only [EE, QQ, seval]) <;> rfl)) (fun h => ?_) (fun h => ?_)) | (with_reducible apply And.intro) | (with_reducible exact trivial) | omega | (simp only [List.length_map, List.length_cons, List.length_nil] at *; omega) | (show _ = true; first | rfl | kernel_rfl))
  refine go_loop 5000 hm0 (ι := {k : Nat // k ≤ l.length ∧ ∀ j, j < k → x ≠ l.getD j 0}) (fun i => [(0, .d (dInts l)), (1, I x), (7, I l.length), (8, I i.1)]) (fun i => []) (fun i => l.length - i.1) [] ⟨0, Nat.zero_le _, fun j hj => by omega⟩ ?_ ?_
  · (simp only [GeS]; refine ⟨?_, ?_, ?_, ?_⟩; all_goals (repeat' (first | trivial | (with_reducible rfl) | simp only [CC, LL, EE, QQ, seval] | (with_reducible apply And.intro) | rfl | (refine ⟨_, rfl, ?_⟩) | (simp; done) | omega)))
  · rintro ⟨k, hk, hn⟩
    simp only
    by_cases hkl : k < l.length
    · have hs1 := getD_map eI [] 0 l k hkl
      have hm := mem_getD 0 l k hkl
      have hix : x = l.getD k 0 → ixI x l = k := fun e => by
        rw [ixI, if_pos (by rw [e]; exact hm)]
        congr 1
        rw [List.findIdx_eq hkl]
        refine ⟨by simp [e, List.getD_eq_getElem?_getD, hkl], fun j hj => ?_⟩
        have := hn j hj
        have hjl : j < l.length := by omega
        simpa [List.getD_eq_getElem?_getD, hjl] using this
      have hgo : x ≠ l.getD k 0 → ∀ j, j < k + 1 → x ≠ l.getD j 0 := fun hne j hj => by
        by_cases e : j = k
        · subst e; exact hne
        · exact hn j (by omega)
      generalize l.getD k 0 = y at *
      by_cases g : x = y
      · have q : (x == y) = true := by simp [g]
        rw [hix g]
        repeat' (first | simp (maxSteps := 9999999) only [↓GE, PL, PP, EE, QQ, seval, hs1, hkl, q, eI, List.length_map] | (simp (disch := omega) only [IntWalk.i64_in]) | (refine go_brD (fun h => ?_) (fun h => ?_)) | (refine go_gsD (by ((try simp only [EE, QQ, seval]) <;> rfl)) (fun h => ?_) (fun h => ?_)) | (refine go_br (fun h => ?_) (fun h => ?_)) | (refine go_gs (by ((try simp only [EE, QQ, seval]) <;> rfl)) (fun h => ?_) (fun h => ?_)) | (with_reducible apply And.intro) | (with_reducible exact trivial) | omega | (simp only [List.length_map, List.length_cons, List.length_nil] at *; omega) | (show _ = true; first | rfl | kernel_rfl))
        all_goals ((first | apply ret_mk [] | apply end_mk []); (· ((try simp only [CC, LL, EE, QQ, seval]) <;> rfl)); (· ((try simp only [CC, LL, EE, QQ, seval]) <;> repeat' (first | (with_reducible apply And.intro) | rfl | trivial | (exact ⟨_, rfl⟩) | (exact ⟨_, _, _, rfl⟩) | (simp [*, ]; done) | (simp [*, ]; omega) | (simp_all []; done) | (simp_all []; omega)))); all_goals (first | trivial | decide | ((try simp only [CC, LL, EE, QQ, seval]) <;> repeat' (first | (with_reducible apply And.intro) | (exact ⟨_, rfl, rfl, rfl⟩) | (exact ⟨_, _, _, rfl⟩) | (exact ⟨_, rfl⟩) | trivial | rfl | (simp; done)))))
      · have q : (x == y) = false := by simp [g]
        repeat' (first | simp (maxSteps := 9999999) only [↓GE, PL, PP, EE, QQ, seval, hs1, hkl, q, eI, List.length_map] | (simp (disch := omega) only [IntWalk.i64_in]) | (refine go_brD (fun h => ?_) (fun h => ?_)) | (refine go_gsD (by ((try simp only [EE, QQ, seval]) <;> rfl)) (fun h => ?_) (fun h => ?_)) | (refine go_br (fun h => ?_) (fun h => ?_)) | (refine go_gs (by ((try simp only [EE, QQ, seval]) <;> rfl)) (fun h => ?_) (fun h => ?_)) | (with_reducible apply And.intro) | (with_reducible exact trivial) | omega | (simp only [List.length_map, List.length_cons, List.length_nil] at *; omega) | (show _ = true; first | rfl | kernel_rfl))
        refine ⟨⟨k + 1, hkl, hgo g⟩, ?_, by simp only; omega⟩
        (simp only [GeS]; refine ⟨?_, ?_, ?_, ?_⟩; all_goals (repeat' (first | trivial | (with_reducible rfl) | simp only [CC, LL, EE, QQ, seval] | (with_reducible apply And.intro) | rfl | (refine ⟨_, rfl, ?_⟩) | (simp; done) | omega)))
    · obtain rfl : k = l.length := by omega
      have hno : x ∉ l := fun hx => by
        obtain ⟨j, hj, e⟩ := List.getElem_of_mem hx
        exact hn j hj (by simp [List.getD_eq_getElem?_getD, hj, e])
      rw [ixI, if_neg hno]
      repeat' (first | simp (maxSteps := 9999999) only [↓GE, PL, PP, EE, QQ, seval] | (simp (disch := omega) only [IntWalk.i64_in]) | (refine go_brD (fun h => ?_) (fun h => ?_)) | (refine go_gsD (by ((try simp only [EE, QQ, seval]) <;> rfl)) (fun h => ?_) (fun h => ?_)) | (refine go_br (fun h => ?_) (fun h => ?_)) | (refine go_gs (by ((try simp only [EE, QQ, seval]) <;> rfl)) (fun h => ?_) (fun h => ?_)) | (with_reducible apply And.intro) | (with_reducible exact trivial) | omega | (simp only [List.length_map, List.length_cons, List.length_nil] at *; omega) | (show _ = true; first | rfl | kernel_rfl))
      all_goals ((first | apply ret_mk [] | apply end_mk []); (· ((try simp only [CC, LL, EE, QQ, seval]) <;> rfl)); (· ((try simp only [CC, LL, EE, QQ, seval]) <;> repeat' (first | (with_reducible apply And.intro) | rfl | trivial | (exact ⟨_, rfl⟩) | (exact ⟨_, _, _, rfl⟩) | (simp [*, ]; done) | (simp [*, ]; omega) | (simp_all []; done) | (simp_all []; omega)))); all_goals (first | trivial | decide | ((try simp only [CC, LL, EE, QQ, seval]) <;> repeat' (first | (with_reducible apply And.intro) | (exact ⟨_, rfl, rfl, rfl⟩) | (exact ⟨_, _, _, rfl⟩) | (exact ⟨_, rfl⟩) | trivial | rfl | (simp; done)))))
theorem scontains (l : List Int) (x : Int) (hl : l.length ≤ 1000000) : Does Try.prog 81 [.d (dInts l), I x] [] (B (decide (x ∈ l))) [] [] := by
  refine go_slices_Contains_int_int rfl BxOK.nil fun cx hm0 => go_in 5000 ?_
  unfold ac_slices_Contains_int_int rs_slices_Contains_int_int
  have e1 := sindex l x hl
  by_cases h : x ∈ l
  · have q : decide (ixI x l ≥ 0) = true := decide_eq_true (by rw [ixI, if_pos h]; omega)
    rw [decide_eq_true h]
    generalize ixI x l = r at *
    repeat' (first | simp (maxSteps := 9999999) only [↓GE, PL, PP, EE, QQ, seval, q] | (simp (disch := omega) only [IntWalk.i64_in]) | (refine go_brD (fun h => ?_) (fun h => ?_)) | (refine go_gsD (by ((try simp only [EE, QQ, seval]) <;> rfl)) (fun h => ?_) (fun h => ?_)) | (refine go_br (fun h => ?_) (fun h => ?_)) | (refine go_gs (by ((try simp only [EE, QQ, seval]) <;> rfl)) (fun h => ?_) (fun h => ?_)) | (apply go_call 5000 (e1) rfl rfl; (· ((try simp only [CC, LL, NM, EE, QQ, seval]) <;> (first | rfl | ((repeat constructor); done)))); (· exact CallForm.plain rfl); (· ((try simp only [CC, LL, NM, EE, QQ, seval]) <;> (first | rfl | ((repeat constructor); done)))); (· ((try simp only [CC, LL, NM, EE, QQ, seval]) <;> (first | rfl | ((repeat constructor); done))))) | (with_reducible apply And.intro) | (with_reducible exact trivial) | omega | (simp only [List.length_map, List.length_cons, List.length_nil] at *; omega) | (show _ = true; first | rfl | kernel_rfl))
    all_goals ((first | apply ret_mk [] | apply end_mk []); (· ((try simp only [CC, LL, EE, QQ, seval]) <;> rfl)); (· ((try simp only [CC, LL, EE, QQ, seval]) <;> repeat' (first | (with_reducible apply And.intro) | rfl | trivial | (exact ⟨_, rfl⟩) | (exact ⟨_, _, _, rfl⟩) | (simp [*, ]; done) | (simp [*, ]; omega) | (simp_all []; done) | (simp_all []; omega)))); all_goals (first | trivial | decide | ((try simp only [CC, LL, EE, QQ, seval]) <;> repeat' (first | (with_reducible apply And.intro) | (exact ⟨_, rfl, rfl, rfl⟩) | (exact ⟨_, _, _, rfl⟩) | (exact ⟨_, rfl⟩) | trivial | rfl | (simp; done)))))
  · have q : decide (ixI x l ≥ 0) = false := decide_eq_false (by rw [ixI, if_neg h]; omega)
    rw [decide_eq_false h]
    generalize ixI x l = r at *
    repeat' (first | simp (maxSteps := 9999999) only [↓GE, PL, PP, EE, QQ, seval, q] | (simp (disch := omega) only [IntWalk.i64_in]) | (refine go_brD (fun h => ?_) (fun h => ?_)) | (refine go_gsD (by ((try simp only [EE, QQ, seval]) <;> rfl)) (fun h => ?_) (fun h => ?_)) | (refine go_br (fun h => ?_) (fun h => ?_)) | (refine go_gs (by ((try simp only [EE, QQ, seval]) <;> rfl)) (fun h => ?_) (fun h => ?_)) | (apply go_call 5000 (e1) rfl rfl; (· ((try simp only [CC, LL, NM, EE, QQ, seval]) <;> (first | rfl | ((repeat constructor); done)))); (· exact CallForm.plain rfl); (· ((try simp only [CC, LL, NM, EE, QQ, seval]) <;> (first | rfl | ((repeat constructor); done)))); (· ((try simp only [CC, LL, NM, EE, QQ, seval]) <;> (first | rfl | ((repeat constructor); done))))) | (with_reducible apply And.intro) | (with_reducible exact trivial) | omega | (simp only [List.length_map, List.length_cons, List.length_nil] at *; omega) | (show _ = true; first | rfl | kernel_rfl))
    all_goals ((first | apply ret_mk [] | apply end_mk []); (· ((try simp only [CC, LL, EE, QQ, seval]) <;> rfl)); (· ((try simp only [CC, LL, EE, QQ, seval]) <;> repeat' (first | (with_reducible apply And.intro) | rfl | trivial | (exact ⟨_, rfl⟩) | (exact ⟨_, _, _, rfl⟩) | (simp [*, ]; done) | (simp [*, ]; omega) | (simp_all []; done) | (simp_all []; omega)))); all_goals (first | trivial | decide | ((try simp only [CC, LL, EE, QQ, seval]) <;> repeat' (first | (with_reducible apply And.intro) | (exact ⟨_, rfl, rfl, rfl⟩) | (exact ⟨_, _, _, rfl⟩) | (exact ⟨_, rfl⟩) | trivial | rfl | (simp; done)))))
/-- Is the table behind n others dropped? -/
def delB (L : Nat) (vs : List Int) (n : Nat) (t : PTab) : Bool := decide (n + 1 < L) && !decide (t.num ∈ vs)
abbrev kBox (l : List PTab) (vs : List Int) (n : Nat) (a b c : Nat) : U := [(a, .box 0 [I n]), (b, .box 0 [.d (dTabs l)]), (c, .box 0 [.d (dInts vs)])]
theorem keep1 (l : List PTab) (vs : List Int) (n : Nat) (t : PTab) (hl : l.length ≤ 1000) (hn : n ≤ 1000) (hv : vs.length ≤ 1000000) : Does Try.prog 80 [vTab t, .bp 900000 0 0, .bp 900001 0 0, .bp 900002 0 0] (kBox l vs n 900000 900001 900002) (B (delB l.length vs n t)) (kBox l vs (n + 1) 900000 900001 900002) [] := by
  refine go_update_Keep_1 rfl ⟨rfl, by simp⟩ fun cx hm0 => go_in 5000 ?_
  unfold ac_update_Keep_1 rs_update_Keep_1
  have w : IntKind.i64.wrap ((n : Int) + 1) = ((n + 1 : Nat) : Int) := by rw [show (n : Int) + 1 = ((n + 1 : Nat) : Int) by omega]; exact IntWalk.i64_in _ (by omega)
  have e1 := scontains vs t.num hv
  unfold delB
  by_cases h : n + 1 < l.length
  · have q : decide (((n + 1 : Nat) : Int) < (l.length : Int)) = true := decide_eq_true (by omega)
    rw [decide_eq_true h, Bool.true_and]
    generalize decide (t.num ∈ vs) = b at *
    repeat' (first | simp (maxSteps := 9999999) only [↓GE, PL, PP, EE, QQ, seval, w, q, List.length_map] | (simp (disch := omega) only [IntWalk.i64_in]) | (refine go_brD (fun h => ?_) (fun h => ?_)) | (refine go_gsD (by ((try simp only [EE, QQ, seval]) <;> rfl)) (fun h => ?_) (fun h => ?_)) | (refine go_br (fun h => ?_) (fun h => ?_)) | (refine go_gs (by ((try simp only [EE, QQ, seval]) <;> rfl)) (fun h => ?_) (fun h => ?_)) | (apply go_call 5000 (e1) rfl rfl; (· ((try simp only [CC, LL, NM, EE, QQ, seval]) <;> (first | rfl | ((repeat constructor); done)))); (· exact CallForm.plain rfl); (· ((try simp only [CC, LL, NM, EE, QQ, seval]) <;> (first | rfl | ((repeat constructor); done)))); (· ((try simp only [CC, LL, NM, EE, QQ, seval]) <;> (first | rfl | ((repeat constructor); done))))) | (with_reducible apply And.intro) | (with_reducible exact trivial) | omega | (simp only [List.length_map, List.length_cons, List.length_nil] at *; omega) | (show _ = true; first | rfl | kernel_rfl))
    all_goals ((first | apply ret_mk [] | apply end_mk []); (· ((try simp only [CC, LL, EE, QQ, seval]) <;> rfl)); (· ((try simp only [CC, LL, EE, QQ, seval]) <;> repeat' (first | (with_reducible apply And.intro) | rfl | trivial | (exact ⟨_, rfl⟩) | (exact ⟨_, _, _, rfl⟩) | (simp [*, ]; done) | (simp [*, ]; omega) | (simp_all []; done) | (simp_all []; omega)))); all_goals (first | trivial | decide | ((try simp only [CC, LL, EE, QQ, seval]) <;> repeat' (first | (with_reducible apply And.intro) | (exact ⟨_, rfl, rfl, rfl⟩) | (exact ⟨_, _, _, rfl⟩) | (exact ⟨_, rfl⟩) | trivial | rfl | (simp; done)))))
  · have q : decide (((n + 1 : Nat) : Int) < (l.length : Int)) = false := decide_eq_false (by omega)
    rw [decide_eq_false h, Bool.false_and]
    repeat' (first | simp (maxSteps := 9999999) only [↓GE, PL, PP, EE, QQ, seval, w, q, List.length_map] | (simp (disch := omega) only [IntWalk.i64_in]) | (refine go_brD (fun h => ?_) (fun h => ?_)) | (refine go_gsD (by ((try simp only [EE, QQ, seval]) <;> rfl)) (fun h => ?_) (fun h => ?_)) | (refine go_br (fun h => ?_) (fun h => ?_)) | (refine go_gs (by ((try simp only [EE, QQ, seval]) <;> rfl)) (fun h => ?_) (fun h => ?_)) | (with_reducible apply And.intro) | (with_reducible exact trivial) | omega | (simp only [List.length_map, List.length_cons, List.length_nil] at *; omega) | (show _ = true; first | rfl | kernel_rfl))
    all_goals ((first | apply ret_mk [] | apply end_mk []); (· ((try simp only [CC, LL, EE, QQ, seval]) <;> rfl)); (· ((try simp only [CC, LL, EE, QQ, seval]) <;> repeat' (first | (with_reducible apply And.intro) | rfl | trivial | (exact ⟨_, rfl⟩) | (exact ⟨_, _, _, rfl⟩) | (simp [*, ]; done) | (simp [*, ]; omega) | (simp_all []; done) | (simp_all []; omega)))); all_goals (first | trivial | decide | ((try simp only [CC, LL, EE, QQ, seval]) <;> repeat' (first | (with_reducible apply And.intro) | (exact ⟨_, rfl, rfl, rfl⟩) | (exact ⟨_, _, _, rfl⟩) | (exact ⟨_, rfl⟩) | trivial | rfl | (simp; done)))))
theorem keep1' (l : List PTab) (vs : List Int) (n : Nat) (t : PTab) (hl : l.length ≤ 1000) (hn : n ≤ 1000) (hv : vs.length ≤ 1000000) : Does Try.prog 80 [vTab t, .bp 900001 0 0, .bp 900002 0 0, .bp 900003 0 0] (kBox l vs n 900001 900002 900003) (B (delB l.length vs n t)) (kBox l vs (n + 1) 900001 900002 900003) [] :=
  (keep1 l vs n t hl hn hv).nm [(900000, 900001, 0), (900001, 900002, 0), (900002, 900003, 0)] rfl rfl rfl rfl rfl rfl rfl rfl rfl
/-- Those of the first n that stay. -/
def keepN (l : List PTab) (vs : List Int) : Nat → List PTab
  | 0 => []
  | n + 1 => if delB l.length vs n (l.getD n noTab) = true then keepN l vs n else keepN l vs n ++ [l.getD n noTab]
theorem keepN_len {l : List PTab} {vs : List Int} : ∀ {n : Nat}, (keepN l vs n).length ≤ n
  | 0 => Nat.le_refl _
  | n + 1 => by
    have := keepN_len (l := l) (vs := vs) (n := n)
    rw [keepN]; split <;> simp <;> omega
theorem keepN_all {l : List PTab} {vs : List Int} : ∀ {n : Nat}, n ≤ l.length → (∀ j, j < n → delB l.length vs j (l.getD j noTab) = false) → keepN l vs n = l.take n
  | 0, _, _ => by simp [keepN]
  | n + 1, hn, h => by
    rw [keepN, if_neg (by rw [h n (by omega)]; simp), keepN_all (by omega) fun j hj => h j (by omega), take_succ_getD noTab l n (by omega)]
theorem uindex (l : List PTab) (vs : List Int) (hl : l.length ≤ 1000) (hv : vs.length ≤ 1000000) (r : Int) (n : Nat) (hr : (∃ k : Nat, r = k ∧ k < l.length ∧ n = k + 1 ∧ (∀ j, j < k → delB l.length vs j (l.getD j noTab) = false) ∧ delB l.length vs k (l.getD k noTab) = true) ∨ (r = -1 ∧ n = l.length ∧ ∀ j, j < l.length → delB l.length vs j (l.getD j noTab) = false)) :
    Does Try.prog 102 [.og 900000 0, .cl 80 [.bp 900001 0 0, .bp 900002 0 0, .bp 900003 0 0]] ((900000, .arr 0 4 true (l.map eTab)) :: kBox l vs 0 900001 900002 900003) (I r) ((900000, .arr 0 4 true (l.map eTab)) :: kBox l vs n 900001 900002 900003) [] := by
  refine go_slices_IndexFunc_api_Table_api_Table rfl ⟨rfl, by simp⟩ fun cx hm0 => go_in 5000 ?_
  unfold ac_slices_IndexFunc_api_Table_api_Table rs_slices_IndexFunc_api_Table_api_Table
  repeat' (first | simp (maxSteps := 9999999) only [↓GE, PL, PP, EE, QQ, seval, List.length_map] | (simp (disch := omega) only [IntWalk.i64_in]) | (refine go_brD (fun h => ?_) (fun h => ?_)) | (refine go_gsD (by ((try simp only [EE, QQ, seval]) <;> rfl)) (fun h => ?_) (fun h => ?_)) | (refine go_br (fun h => ?_) (fun h => ?_)) | (refine go_gs (by ((try simp only [EE, QQ, seval]) <;> rfl)) (fun h => ?_) (fun h => ?_)) | (with_reducible apply And.intro) | (with_reducible exact trivial) | omega | (simp only [List.length_map, List.length_cons, List.length_nil] at *; omega) | (show _ = true; first | rfl | kernel_rfl))
  refine go_loop 5000 hm0 (ι := {k : Nat // k ≤ l.length ∧ ∀ j, j < k → delB l.length vs j (l.getD j noTab) = false}) (fun i => [(0, .og 900000 0), (1, .cl 80 [.bp 900001 0 0, .bp 900002 0 0, .bp 900003 0 0]), (7, I l.length), (8, I i.1)]) (fun i => (900000, .arr 0 4 true (l.map eTab)) :: kBox l vs i.1 900001 900002 900003) (fun i => l.length - i.1) [] ⟨0, Nat.zero_le _, fun j hj => by omega⟩ ?_ ?_
  · (simp only [GeS]; refine ⟨?_, ?_, ?_, ?_⟩; all_goals (repeat' (first | trivial | (with_reducible rfl) | simp only [CC, LL, EE, QQ, seval] | (with_reducible apply And.intro) | rfl | (refine ⟨_, rfl, ?_⟩) | (simp; done) | omega)))
  · rintro ⟨k, hk, hn⟩
    simp only
    by_cases hkl : k < l.length
    · have hs1 := getD_map eTab [] noTab l k hkl
      have e1 := keep1' l vs k (l.getD k noTab) hl (by omega) hv
      have hgo : delB l.length vs k (l.getD k noTab) = false → ∀ j, j < k + 1 → delB l.length vs j (l.getD j noTab) = false := fun hne j hj => by
        by_cases e : j = k
        · subst e; exact hne
        · exact hn j (by omega)
      cases hd : delB l.length vs k (l.getD k noTab) with
      | true =>
        rw [hd] at e1
        have hrk : r = k ∧ n = k + 1 := by
          rcases hr with ⟨k', h1, h2, h3, h4, h5⟩ | ⟨h1, h2, h3⟩
          · have : k' = k := by
              rcases Nat.lt_trichotomy k' k with g | g | g
              · have := hn k' g; rw [h5] at this; cases this
              · exact g
              · have := h4 k g; rw [hd] at this; cases this
            subst this; exact ⟨h1, h3⟩
          · have := h3 k hkl; rw [hd] at this; cases this
        obtain ⟨rfl, rfl⟩ := hrk
        clear hgo hr hd
        generalize l.getD k noTab = t at *
        repeat' (first | simp (maxSteps := 9999999) only [↓GE, PL, PP, EE, QQ, seval, hs1, hkl, eTab, List.length_map] | (simp (disch := omega) only [IntWalk.i64_in]) | (refine go_brD (fun h => ?_) (fun h => ?_)) | (refine go_gsD (by ((try simp only [EE, QQ, seval]) <;> rfl)) (fun h => ?_) (fun h => ?_)) | (refine go_br (fun h => ?_) (fun h => ?_)) | (refine go_gs (by ((try simp only [EE, QQ, seval]) <;> rfl)) (fun h => ?_) (fun h => ?_)) | (apply go_callv 5000 (e1) rfl (by kernel_rfl) rfl; (· ((try simp only [CC, LL, NM, EE, QQ, seval]) <;> (first | rfl | ((repeat constructor); done)))); (· exact CallForm.lent (by (try simp only [CC, LL, NM, EE, QQ, seval]); repeat' (first | trivial | (with_reducible rfl) | omega | (with_reducible apply And.intro) | rfl)) rfl rfl); (· ((try simp only [CC, LL, NM, EE, QQ, seval]) <;> (first | rfl | ((repeat constructor); done)))); (· ((try simp only [CC, LL, NM, EE, QQ, seval]) <;> (first | rfl | ((repeat constructor); done))))) | (with_reducible apply And.intro) | (with_reducible exact trivial) | omega | (simp only [List.length_map, List.length_cons, List.length_nil] at *; omega) | (show _ = true; first | rfl | kernel_rfl))
        all_goals ((first | apply ret_mk [] | apply end_mk []); (· ((try simp only [CC, LL, EE, QQ, seval]) <;> rfl)); (· ((try simp only [CC, LL, EE, QQ, seval]) <;> repeat' (first | (with_reducible apply And.intro) | rfl | trivial | (exact ⟨_, rfl⟩) | (exact ⟨_, _, _, rfl⟩) | (simp [*, ]; done) | (simp [*, ]; omega) | (simp_all []; done) | (simp_all []; omega)))); all_goals (first | trivial | decide | ((try simp only [CC, LL, EE, QQ, seval]) <;> repeat' (first | (with_reducible apply And.intro) | (exact ⟨_, rfl, rfl, rfl⟩) | (exact ⟨_, _, _, rfl⟩) | (exact ⟨_, rfl⟩) | trivial | rfl | (simp; done)))))
      | false =>
        rw [hd] at e1
        have hg := hgo hd
        clear hgo hr hd
        generalize hT : l.getD k noTab = t at hs1 e1
        repeat' (first | simp (maxSteps := 9999999) only [↓GE, PL, PP, EE, QQ, seval, hs1, hkl, eTab, List.length_map] | (simp (disch := omega) only [IntWalk.i64_in]) | (refine go_brD (fun h => ?_) (fun h => ?_)) | (refine go_gsD (by ((try simp only [EE, QQ, seval]) <;> rfl)) (fun h => ?_) (fun h => ?_)) | (refine go_br (fun h => ?_) (fun h => ?_)) | (refine go_gs (by ((try simp only [EE, QQ, seval]) <;> rfl)) (fun h => ?_) (fun h => ?_)) | (apply go_callv 5000 (e1) rfl (by kernel_rfl) rfl; (· ((try simp only [CC, LL, NM, EE, QQ, seval]) <;> (first | rfl | ((repeat constructor); done)))); (· exact CallForm.lent (by (try simp only [CC, LL, NM, EE, QQ, seval]); repeat' (first | trivial | (with_reducible rfl) | omega | (with_reducible apply And.intro) | rfl)) rfl rfl); (· ((try simp only [CC, LL, NM, EE, QQ, seval]) <;> (first | rfl | ((repeat constructor); done)))); (· ((try simp only [CC, LL, NM, EE, QQ, seval]) <;> (first | rfl | ((repeat constructor); done))))) | (with_reducible apply And.intro) | (with_reducible exact trivial) | omega | (simp only [List.length_map, List.length_cons, List.length_nil] at *; omega) | (show _ = true; first | rfl | kernel_rfl))
        refine ⟨⟨k + 1, hkl, hg⟩, ?_, by simp only; omega⟩
        (simp only [GeS]; refine ⟨?_, ?_, ?_, ?_⟩; all_goals (repeat' (first | trivial | (with_reducible rfl) | simp only [CC, LL, EE, QQ, seval] | (with_reducible apply And.intro) | rfl | (refine ⟨_, rfl, ?_⟩) | (simp; done) | omega)))
    · obtain rfl : k = l.length := by omega
      have hrk : r = -1 ∧ n = l.length := by
        rcases hr with ⟨k', h1, h2, h3, h4, h5⟩ | ⟨h1, h2, h3⟩
        · have := hn k' h2; rw [h5] at this; cases this
        · exact ⟨h1, h2⟩
      obtain ⟨rfl, rfl⟩ := hrk
      repeat' (first | simp (maxSteps := 9999999) only [↓GE, PL, PP, EE, QQ, seval] | (simp (disch := omega) only [IntWalk.i64_in]) | (refine go_brD (fun h => ?_) (fun h => ?_)) | (refine go_gsD (by ((try simp only [EE, QQ, seval]) <;> rfl)) (fun h => ?_) (fun h => ?_)) | (refine go_br (fun h => ?_) (fun h => ?_)) | (refine go_gs (by ((try simp only [EE, QQ, seval]) <;> rfl)) (fun h => ?_) (fun h => ?_)) | (with_reducible apply And.intro) | (with_reducible exact trivial) | omega | (simp only [List.length_map, List.length_cons, List.length_nil] at *; omega) | (show _ = true; first | rfl | kernel_rfl))
      all_goals ((first | apply ret_mk [] | apply end_mk []); (· ((try simp only [CC, LL, EE, QQ, seval]) <;> rfl)); (· ((try simp only [CC, LL, EE, QQ, seval]) <;> repeat' (first | (with_reducible apply And.intro) | rfl | trivial | (exact ⟨_, rfl⟩) | (exact ⟨_, _, _, rfl⟩) | (simp [*, ]; done) | (simp [*, ]; omega) | (simp_all []; done) | (simp_all []; omega)))); all_goals (first | trivial | decide | ((try simp only [CC, LL, EE, QQ, seval]) <;> repeat' (first | (with_reducible apply And.intro) | (exact ⟨_, rfl, rfl, rfl⟩) | (exact ⟨_, _, _, rfl⟩) | (exact ⟨_, rfl⟩) | trivial | rfl | (simp; done)))))
theorem take_set_succ {α : Type} : ∀ (l : List α) (i : Nat) (x : α), i < l.length → (l.set i x).take (i + 1) = l.take i ++ [x]
  | [], i, x, h => by simp at h
  | y :: l, 0, x, h => by simp
  | y :: l, i + 1, x, h => by
    have := take_set_succ l i x (by simpa using h)
    simp only [List.set_cons_succ, List.take_succ_cons, this, List.cons_append]
def keptV (l : List PTab) (vs : List Int) : Nat := if (keepN l vs l.length).length = l.length then 0 else 1
theorem udelete (l : List PTab) (vs : List Int) (hl : l.length ≤ 1000) (hv : vs.length ≤ 1000000) : Does Try.prog 79 [.og 900000 0, .cl 80 [.bp 900001 0 0, .bp 900002 0 0, .bp 900003 0 0]] ((900000, .arr 0 4 true (l.map eTab)) :: kBox l vs 0 900001 900002 900003)
    (.og 900000 (keptV l vs)) ((900000, .arr (keptV l vs) 4 true ((keepN l vs l.length).map eTab)) :: kBox l vs l.length 900001 900002 900003) [] := by
  refine go_slices_DeleteFunc_api_Table_api_Table rfl ⟨rfl, by simp⟩ fun cx hm0 => go_in 5000 ?_
  unfold ac_slices_DeleteFunc_api_Table_api_Table rs_slices_DeleteFunc_api_Table_api_Table
  by_cases hall : ∀ j, j < l.length → delB l.length vs j (l.getD j noTab) = false
  · have e1 := uindex l vs hl hv (-1) l.length (.inr ⟨rfl, rfl, hall⟩)
    have hK : keepN l vs l.length = l := by rw [keepN_all (Nat.le_refl _) hall, List.take_length]
    have hV : keptV l vs = 0 := by rw [keptV, hK, if_pos rfl]
    rw [hV, hK]
    repeat' (first | simp (maxSteps := 9999999) only [↓GE, PL, PP, EE, QQ, seval] | (simp (disch := omega) only [IntWalk.i64_in]) | (refine go_brD (fun h => ?_) (fun h => ?_)) | (refine go_gsD (by ((try simp only [EE, QQ, seval]) <;> rfl)) (fun h => ?_) (fun h => ?_)) | (refine go_br (fun h => ?_) (fun h => ?_)) | (refine go_gs (by ((try simp only [EE, QQ, seval]) <;> rfl)) (fun h => ?_) (fun h => ?_)) | (apply go_call 5000 (e1) rfl rfl; (· ((try simp only [CC, LL, NM, EE, QQ, seval]) <;> (first | rfl | ((repeat constructor); done)))); (· exact CallForm.lent (by (try simp only [CC, LL, NM, EE, QQ, seval]); repeat' (first | trivial | (with_reducible rfl) | omega | (with_reducible apply And.intro) | rfl)) rfl rfl); (· ((try simp only [CC, LL, NM, EE, QQ, seval]) <;> (first | rfl | ((repeat constructor); done)))); (· ((try simp only [CC, LL, NM, EE, QQ, seval]) <;> (first | rfl | ((repeat constructor); done))))) | (with_reducible apply And.intro) | (with_reducible exact trivial) | omega | (simp only [List.length_map, List.length_cons, List.length_nil] at *; omega) | (show _ = true; first | rfl | kernel_rfl))
    all_goals ((first | apply ret_mk [] | apply end_mk []); (· ((try simp only [CC, LL, EE, QQ, seval]) <;> rfl)); (· ((try simp only [CC, LL, EE, QQ, seval]) <;> repeat' (first | (with_reducible apply And.intro) | rfl | trivial | (exact ⟨_, rfl⟩) | (exact ⟨_, _, _, rfl⟩) | (simp [*, ]; done) | (simp [*, ]; omega) | (simp_all []; done) | (simp_all []; omega)))); all_goals (first | trivial | decide | ((try simp only [CC, LL, EE, QQ, seval]) <;> repeat' (first | (with_reducible apply And.intro) | (exact ⟨_, rfl, rfl, rfl⟩) | (exact ⟨_, _, _, rfl⟩) | (exact ⟨_, rfl⟩) | trivial | rfl | (simp; done)))))
  · obtain ⟨k0, g1, g2, g3⟩ : ∃ k, k < l.length ∧ (∀ j, j < k → delB l.length vs j (l.getD j noTab) = false) ∧ delB l.length vs k (l.getD k noTab) = true := by
      have : ∀ n, n ≤ l.length → (∀ j, j < n → delB l.length vs j (l.getD j noTab) = false) ∨ ∃ k, k < l.length ∧ (∀ j, j < k → delB l.length vs j (l.getD j noTab) = false) ∧ delB l.length vs k (l.getD k noTab) = true := by
        intro n
        induction n with
        | zero => intro _; exact .inl fun j hj => by omega
        | succ n ih =>
          intro hn
          rcases ih (by omega) with h | h
          · cases hd : delB l.length vs n (l.getD n noTab) with
            | true => exact .inr ⟨n, by omega, h, hd⟩
            | false =>
              refine .inl fun j hj => ?_
              by_cases e : j = n
              · subst e; exact hd
              · exact h j (by omega)
          · exact .inr h
      rcases this l.length (Nat.le_refl _) with h | h
      · exact absurd h hall
      · exact h
    have e1 := uindex l vs hl hv k0 (k0 + 1) (.inl ⟨k0, rfl, g1, rfl, g2, g3⟩)
    have hK0 : keepN l vs (k0 + 1) = l.take k0 := by rw [keepN, if_pos g3, keepN_all (by omega) g2]
    have hK0l : (keepN l vs (k0 + 1)).length = k0 := by rw [hK0, List.length_take]; omega
    have q0 : ((k0 : Int) == -1) = false := by rw [beq_eq_false_iff_ne]; omega
    repeat' (first | simp (maxSteps := 9999999) only [↓GE, PL, PP, EE, QQ, seval, q0] | (simp (disch := omega) only [IntWalk.i64_in]) | (refine go_brD (fun h => ?_) (fun h => ?_)) | (refine go_gsD (by ((try simp only [EE, QQ, seval]) <;> rfl)) (fun h => ?_) (fun h => ?_)) | (refine go_br (fun h => ?_) (fun h => ?_)) | (refine go_gs (by ((try simp only [EE, QQ, seval]) <;> rfl)) (fun h => ?_) (fun h => ?_)) | (apply go_call 5000 (e1) rfl rfl; (· ((try simp only [CC, LL, NM, EE, QQ, seval]) <;> (first | rfl | ((repeat constructor); done)))); (· exact CallForm.lent (by (try simp only [CC, LL, NM, EE, QQ, seval]); repeat' (first | trivial | (with_reducible rfl) | omega | (with_reducible apply And.intro) | rfl)) rfl rfl); (· ((try simp only [CC, LL, NM, EE, QQ, seval]) <;> (first | rfl | ((repeat constructor); done)))); (· ((try simp only [CC, LL, NM, EE, QQ, seval]) <;> (first | rfl | ((repeat constructor); done))))) | (with_reducible apply And.intro) | (with_reducible exact trivial) | omega | (simp only [List.length_map, List.length_cons, List.length_nil] at *; omega) | (show _ = true; first | rfl | kernel_rfl))
    refine go_loop 5000 hm0 (ι := {q : Nat × List PTab // q.1 ≤ l.length ∧ k0 + 1 ≤ q.1 ∧ q.2.length = l.length ∧ (keepN l vs q.1).length < q.1 ∧ q.2.take (keepN l vs q.1).length = keepN l vs q.1 ∧ ∀ m, q.1 ≤ m → m < l.length → q.2.getD m noTab = l.getD m noTab}) (fun i => [(0, .og 900000 0), (1, .cl 80 [.bp 900001 0 0, .bp 900002 0 0, .bp 900003 0 0]), (5, I (keepN l vs i.1.1).length), (6, I i.1.1)]) (fun i => (900000, .arr 0 4 true (i.1.2.map eTab)) :: kBox l vs i.1.1 900001 900002 900003) (fun i => l.length - i.1.1) [] ⟨(k0 + 1, l), by omega, Nat.le_refl _, rfl, by rw [hK0l]; omega, by rw [hK0l]; exact hK0.symm, fun m _ _ => rfl⟩ ?_ ?_
    · (simp only [GeS]; refine ⟨?_, ?_, ?_, ?_⟩; all_goals (repeat' (first | trivial | (with_reducible rfl) | simp only [CC, LL, EE, QQ, seval] | (with_reducible apply And.intro) | rfl | (refine ⟨_, rfl, ?_⟩) | (simp [hK0l]; done) | omega)))
    · rintro ⟨⟨j, l'⟩, hj, hj0, hll, hkl, htk, hrest⟩
      simp only at hj hj0 hll hkl htk hrest ⊢
      clear hall g1 g2 g3 e1 hK0 hK0l q0
      by_cases hjl : j < l.length
      · have hs1 := getD_map eTab [] noTab l' j (by omega)
        rw [hrest j (Nat.le_refl _) hjl] at hs1
        have e2 := keep1' l vs j (l.getD j noTab) hl (by omega) hv
        have hN : keepN l vs (j + 1) = if delB l.length vs j (l.getD j noTab) = true then keepN l vs j else keepN l vs j ++ [l.getD j noTab] := rfl
        have hjl' : j < l'.length := by omega
        cases hd : delB l.length vs j (l.getD j noTab) with
        | true =>
          rw [hd] at e2
          rw [hd, if_pos rfl] at hN
          generalize l.getD j noTab = t at hs1 e2
          repeat' (first | simp (maxSteps := 9999999) only [↓GE, PL, PP, EE, QQ, seval, hs1, hjl, hll, eTab, List.length_map] | (simp (disch := omega) only [IntWalk.i64_in]) | (refine go_brD (fun h => ?_) (fun h => ?_)) | (refine go_gsD (by ((try simp only [EE, QQ, seval]) <;> rfl)) (fun h => ?_) (fun h => ?_)) | (refine go_br (fun h => ?_) (fun h => ?_)) | (refine go_gs (by ((try simp only [EE, QQ, seval]) <;> rfl)) (fun h => ?_) (fun h => ?_)) | (apply go_callv 5000 (e2) rfl (by kernel_rfl) rfl; (· ((try simp only [CC, LL, NM, EE, QQ, seval]) <;> (first | rfl | ((repeat constructor); done)))); (· exact CallForm.lent (by (try simp only [CC, LL, NM, EE, QQ, seval]); repeat' (first | trivial | (with_reducible rfl) | omega | (with_reducible apply And.intro) | rfl)) rfl rfl); (· ((try simp only [CC, LL, NM, EE, QQ, seval]) <;> (first | rfl | ((repeat constructor); done)))); (· ((try simp only [CC, LL, NM, EE, QQ, seval]) <;> (first | rfl | ((repeat constructor); done))))) | (with_reducible apply And.intro) | (with_reducible exact trivial) | omega | (simp only [List.length_map, List.length_cons, List.length_nil] at *; omega) | (show _ = true; first | rfl | kernel_rfl))
          refine ⟨⟨(j + 1, l'), hjl, by simp only; omega, hll, by simp only [hN]; omega, by simp only [hN]; exact htk, fun m h1 h2 => hrest m (by simp only at h1; omega) h2⟩, ?_, by simp only; omega⟩
          (simp only [GeS]; refine ⟨?_, ?_, ?_, ?_⟩; all_goals (repeat' (first | trivial | (with_reducible rfl) | simp only [CC, LL, EE, QQ, seval] | (with_reducible apply And.intro) | rfl | (refine ⟨_, rfl, ?_⟩) | (simp [hN]; done) | omega)))
        | false =>
          rw [hd] at e2
          rw [hd, if_neg (by simp)] at hN
          have hil : (keepN l vs j).length < l'.length := by omega
          have hil2 : (keepN l vs j).length < l.length := by omega
          have hset : (l'.map eTab).set (keepN l vs j).length (eTab (l.getD j noTab)) = (l'.set (keepN l vs j).length (l.getD j noTab)).map eTab := by rw [List.map_set]
          have htk' := take_set_succ l' (keepN l vs j).length (l.getD j noTab) hil
          have hs2 := getD_map eTab [] noTab l' (keepN l vs j).length hil
          have hNl : (keepN l vs (j + 1)).length = (keepN l vs j).length + 1 := by rw [hN, List.length_append]; rfl
          have hrest' : ∀ m, j + 1 ≤ m → m < l.length → (l'.set (keepN l vs j).length (l.getD j noTab)).getD m noTab = l.getD m noTab := fun m h1 h2 => by
            rw [getD_set, if_neg (by omega)]; exact hrest m (by omega) h2
          have hfin : (l'.set (keepN l vs j).length (l.getD j noTab)).take (keepN l vs (j + 1)).length = keepN l vs (j + 1) := by rw [hNl, htk', htk, hN]
          clear htk' hN
          have hNl' : ((keepN l vs (j + 1)).length : Int) = (keepN l vs j).length + 1 := by omega
          generalize l.getD j noTab = t at hs1 e2 hset hrest' hfin
          generalize l'.getD (keepN l vs j).length noTab = t2 at hs2
          simp only [eTab] at hset
          have hll' : (l'.set (keepN l vs j).length t).length = l.length := by rw [List.length_set]; exact hll
          repeat' (first | simp (maxSteps := 9999999) only [↓GE, PL, PP, EE, QQ, seval, hs1, hs2, hjl, hil2, hll, eTab, List.length_map] | (simp (disch := omega) only [IntWalk.i64_in]) | (refine go_brD (fun h => ?_) (fun h => ?_)) | (refine go_gsD (by ((try simp only [EE, QQ, seval]) <;> rfl)) (fun h => ?_) (fun h => ?_)) | (refine go_br (fun h => ?_) (fun h => ?_)) | (refine go_gs (by ((try simp only [EE, QQ, seval]) <;> rfl)) (fun h => ?_) (fun h => ?_)) | (apply go_callv 5000 (e2) rfl (by kernel_rfl) rfl; (· ((try simp only [CC, LL, NM, EE, QQ, seval]) <;> (first | rfl | ((repeat constructor); done)))); (· exact CallForm.lent (by (try simp only [CC, LL, NM, EE, QQ, seval]); repeat' (first | trivial | (with_reducible rfl) | omega | (with_reducible apply And.intro) | rfl)) rfl rfl); (· ((try simp only [CC, LL, NM, EE, QQ, seval]) <;> (first | rfl | ((repeat constructor); done)))); (· ((try simp only [CC, LL, NM, EE, QQ, seval]) <;> (first | rfl | ((repeat constructor); done))))) | (with_reducible apply And.intro) | (with_reducible exact trivial) | omega | (simp only [List.length_map, List.length_cons, List.length_nil] at *; omega) | (show _ = true; first | rfl | kernel_rfl))
          refine ⟨⟨(j + 1, l'.set (keepN l vs j).length t), hjl, by simp only; omega, hll', by simp only; omega, hfin, hrest'⟩, ?_, by simp only; omega⟩
          (simp only [GeS]; refine ⟨?_, ?_, ?_, ?_⟩; all_goals (repeat' (first | trivial | (with_reducible rfl) | simp only [CC, LL, EE, QQ, seval] | (with_reducible apply And.intro) | rfl | (refine ⟨_, rfl, ?_⟩) | (simp [hset, hNl']; done) | omega)))
      · obtain rfl : j = l.length := by omega
        have hV : keptV l vs = 1 := by rw [keptV, if_neg (by omega)]
        rw [hV]
        repeat' (first | simp (maxSteps := 9999999) only [↓GE, PL, PP, EE, QQ, seval, hll, List.length_map] | (simp (disch := omega) only [IntWalk.i64_in]) | (refine go_brD (fun h => ?_) (fun h => ?_)) | (refine go_gsD (by ((try simp only [EE, QQ, seval]) <;> rfl)) (fun h => ?_) (fun h => ?_)) | (refine go_br (fun h => ?_) (fun h => ?_)) | (refine go_gs (by ((try simp only [EE, QQ, seval]) <;> rfl)) (fun h => ?_) (fun h => ?_)) | (with_reducible apply And.intro) | (with_reducible exact trivial) | omega | (simp only [List.length_map, List.length_cons, List.length_nil] at *; omega) | (show _ = true; first | rfl | kernel_rfl))
        refine go_clr 5000 (i := 900000) (ver := 0) (n := (keepN l vs l.length).length) (kk := .i64) (ll := l'.map eTab) rfl rfl rfl (by rw [List.length_map]; omega) ?_
        have hcl : ∀ z, (clrL 4 z (l'.map eTab) (keepN l vs l.length).length).take (keepN l vs l.length).length = (keepN l vs l.length).map eTab := fun z => by
          unfold clrL
          rw [List.take_append_of_le_length (by rw [List.length_take, List.length_map]; omega), List.take_take, Nat.min_self, ← List.map_take, htk]
        have hcll : ∀ z, (clrL 4 z (l'.map eTab) (keepN l vs l.length).length).length = l.length := fun z => by
          unfold clrL
          simp; omega
        repeat' (first | simp (maxSteps := 9999999) only [↓GE, PL, PP, EE, QQ, seval, hcl, hcll, List.length_map] | (simp (disch := omega) only [IntWalk.i64_in]) | (refine go_brD (fun h => ?_) (fun h => ?_)) | (refine go_gsD (by ((try simp only [EE, QQ, seval]) <;> rfl)) (fun h => ?_) (fun h => ?_)) | (refine go_br (fun h => ?_) (fun h => ?_)) | (refine go_gs (by ((try simp only [EE, QQ, seval]) <;> rfl)) (fun h => ?_) (fun h => ?_)) | (with_reducible apply And.intro) | (with_reducible exact trivial) | omega | (simp only [List.length_map, List.length_cons, List.length_nil] at *; omega) | (show _ = true; first | rfl | kernel_rfl))
        all_goals ((first | apply ret_mk [] | apply end_mk []); (· ((try simp only [CC, LL, EE, QQ, seval]) <;> rfl)); (· ((try simp only [CC, LL, EE, QQ, seval]) <;> repeat' (first | (with_reducible apply And.intro) | rfl | trivial | (exact ⟨_, rfl⟩) | (exact ⟨_, _, _, rfl⟩) | (simp [*, hcl]; done) | (simp [*, hcl]; omega) | (simp_all [hcl]; done) | (simp_all [hcl]; omega)))); all_goals (first | trivial | decide | ((try simp only [CC, LL, EE, QQ, seval]) <;> repeat' (first | (with_reducible apply And.intro) | (exact ⟨_, rfl, rfl, rfl⟩) | (exact ⟨_, _, _, rfl⟩) | (exact ⟨_, rfl⟩) | trivial | rfl | (simp; done)))))
end Go.Proofs.Ytilkjcobkdjlkaa.Sim
