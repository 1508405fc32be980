/- What makes plain values out of lists of numbers. -/
import Derived.Test.YtpliidhbfjjofaaChgE
import Derived.Test.YtpliidhbfjjofaaChgQ
namespace Go.Proofs.Ytpliidhbfjjofaa.Sim
open Go
set_option maxRecDepth 100000
set_option maxHeartbeats 4000000
set_option linter.unusedVariables false
set_option linter.unusedSimpArgs false
attribute [local irreducible] Go Mean
/-- A deck, behind a pointer. -/
abbrev dk (l : List Int) (k : Nat) : U := [(900000, .box 0 [.d (dInts l), I k])]
abbrev dkp : V := .bp 900000 0 0
def nextV (l : List Int) (k : Nat) (n : Int) : Int := if n < 1 ∨ l.length ≤ k then 0 else l.getD k 0 % n
def nextK (l : List Int) (k : Nat) (n : Int) : Nat := if n < 1 ∨ l.length ≤ k then k else k + 1
theorem nextV_in (l : List Int) (k : Nat) (n : Int) : 0 ≤ nextV l k n ∧ (1 ≤ n → nextV l k n < n) ∧ (n < 1 → nextV l k n = 0) := by
  unfold nextV
  split
  · omega
  · exact ⟨Int.emod_nonneg _ (by omega), fun _ => Int.emod_lt_of_pos _ (by omega), by omega⟩
theorem few (l : List Int) (hl : l.length ≤ 17592186044416) : Does Try.prog 9 [.d (dInts l)] [] (B (decide (l.length ≤ 500))) [] [] := by
  refine go_make_Few rfl BxOK.nil fun cx hm0 => go_in 5000 ?_
  unfold ac_make_Few rs_make_Few
  repeat' (first | simp only [↓GE, PL, PP, EE, QQ, seval, List.length_map] | (simp (disch := omega) only [IntWalk.i64_in]) | (refine go_brD (fun h => ?_) (fun h => ?_)) | (refine go_gsD (by ((try simp only [EE, QQ, seval]) <;> rfl)) (fun h => ?_) (fun h => ?_)) | (refine go_br (fun h => ?_) (fun h => ?_)) | (refine go_gs (by ((try simp only [EE, QQ, seval]) <;> rfl)) (fun h => ?_) (fun h => ?_)) | (with_reducible apply And.intro) | (with_reducible exact trivial) | omega | (simp only [List.length_map, List.length_cons, List.length_nil] at *; omega) | (show _ = true; first | rfl | kernel_rfl))
  all_goals ((first | apply ret_mk [] | apply end_mk []); (· ((try simp only [CC, EE, QQ, seval]) <;> rfl)); (· ((try simp only [CC, EE, QQ, seval]) <;> repeat' (first | (with_reducible apply And.intro) | rfl | trivial | (exact ⟨_, rfl⟩) | (exact ⟨_, _, _, rfl⟩) | (simp [*, ]; done) | (simp [*, ]; omega) | (simp_all []; done) | (simp_all []; omega)))); all_goals (first | trivial | decide | ((try simp only [CC, EE, QQ, seval]) <;> repeat' (first | (with_reducible apply And.intro) | (exact ⟨_, rfl, rfl, rfl⟩) | (exact ⟨_, _, _, rfl⟩) | (exact ⟨_, rfl⟩) | trivial | rfl | (simp; done)))))
theorem next (l : List Int) (hl : l.length ≤ 17592186044416) (k : Nat) (n : Int) (hn : n < 4611686018427387904) : Does Try.prog 18 [dkp, I n] (dk l k) (I (nextV l k n)) (dk l (nextK l k n)) [] := by
  by_cases h1 : n < 1
  · rw [nextV, nextK, if_pos (.inl h1), if_pos (.inl h1)]
    have q1 : decide (n < 1) = true := by simpa using h1
    refine go_make_Deck_Next rfl BxOK.one fun cx hm0 => go_in 5000 ?_
    unfold ac_make_Deck_Next rs_make_Deck_Next
    repeat' (first | simp only [↓GE, PL, PP, EE, QQ, seval, q1] | (simp (disch := omega) only [IntWalk.i64_in]) | (refine go_brD (fun h => ?_) (fun h => ?_)) | (refine go_gsD (by ((try simp only [EE, QQ, seval]) <;> rfl)) (fun h => ?_) (fun h => ?_)) | (refine go_br (fun h => ?_) (fun h => ?_)) | (refine go_gs (by ((try simp only [EE, QQ, seval]) <;> rfl)) (fun h => ?_) (fun h => ?_)) | (with_reducible apply And.intro) | (with_reducible exact trivial) | omega | (simp only [List.length_map, List.length_cons, List.length_nil] at *; omega) | (show _ = true; first | rfl | kernel_rfl))
    all_goals ((first | apply ret_mk [] | apply end_mk []); (· ((try simp only [CC, EE, QQ, seval]) <;> rfl)); (· ((try simp only [CC, EE, QQ, seval]) <;> repeat' (first | (with_reducible apply And.intro) | rfl | trivial | (exact ⟨_, rfl⟩) | (exact ⟨_, _, _, rfl⟩) | (simp [*, ]; done) | (simp [*, ]; omega) | (simp_all []; done) | (simp_all []; omega)))); all_goals (first | trivial | decide | ((try simp only [CC, EE, QQ, seval]) <;> repeat' (first | (with_reducible apply And.intro) | (exact ⟨_, rfl, rfl, rfl⟩) | (exact ⟨_, _, _, rfl⟩) | (exact ⟨_, rfl⟩) | trivial | rfl | (simp; done)))))
  · have q1 : decide (n < 1) = false := by simpa using h1
    by_cases h2 : k < l.length
    · have hs := getD_map eI [] 0 l k h2
      rw [nextV, nextK, if_neg (by omega), if_neg (by omega)]
      generalize l.getD k 0 = x at hs
      have q2 : decide ((k : Int) ≥ (l.length : Int)) = false := by simpa using h2
      refine go_make_Deck_Next rfl BxOK.one fun cx hm0 => go_in 5000 ?_
      unfold ac_make_Deck_Next rs_make_Deck_Next
      repeat' (first | simp only [↓GE, PL, PP, EE, QQ, seval, q1, q2, hs, eI, List.length_map] | (simp (disch := omega) only [IntWalk.i64_in]) | (refine go_brD (fun h => ?_) (fun h => ?_)) | (refine go_gsD (by ((try simp only [EE, QQ, seval]) <;> rfl)) (fun h => ?_) (fun h => ?_)) | (refine go_br (fun h => ?_) (fun h => ?_)) | (refine go_gs (by ((try simp only [EE, QQ, seval]) <;> rfl)) (fun h => ?_) (fun h => ?_)) | (apply go_call 5000 (mmod x n (by omega) (by omega)) rfl rfl; (· ((try simp only [CC, EE, QQ, seval]) <;> (first | rfl | ((repeat constructor); done)))); (· exact CallForm.plain rfl); (· ((try simp only [CC, EE, QQ, seval]) <;> (first | rfl | ((repeat constructor); done)))); (· ((try simp only [CC, EE, QQ, seval]) <;> (first | rfl | ((repeat constructor); done))))) | (with_reducible apply And.intro) | (with_reducible exact trivial) | omega | (simp only [List.length_map, List.length_cons, List.length_nil] at *; omega) | (show _ = true; first | rfl | kernel_rfl))
      all_goals ((first | apply ret_mk [] | apply end_mk []); (· ((try simp only [CC, EE, QQ, seval]) <;> rfl)); (· ((try simp only [CC, EE, QQ, seval]) <;> repeat' (first | (with_reducible apply And.intro) | rfl | trivial | (exact ⟨_, rfl⟩) | (exact ⟨_, _, _, rfl⟩) | (simp [*, ]; done) | (simp [*, ]; omega) | (simp_all []; done) | (simp_all []; omega)))); all_goals (first | trivial | decide | ((try simp only [CC, EE, QQ, seval]) <;> repeat' (first | (with_reducible apply And.intro) | (exact ⟨_, rfl, rfl, rfl⟩) | (exact ⟨_, _, _, rfl⟩) | (exact ⟨_, rfl⟩) | trivial | rfl | (simp; done)))))
    · rw [nextV, nextK, if_pos (by omega), if_pos (by omega)]
      have q2 : decide ((k : Int) ≥ (l.length : Int)) = true := by simpa using h2
      refine go_make_Deck_Next rfl BxOK.one fun cx hm0 => go_in 5000 ?_
      unfold ac_make_Deck_Next rs_make_Deck_Next
      repeat' (first | simp only [↓GE, PL, PP, EE, QQ, seval, q1, q2, List.length_map] | (simp (disch := omega) only [IntWalk.i64_in]) | (refine go_brD (fun h => ?_) (fun h => ?_)) | (refine go_gsD (by ((try simp only [EE, QQ, seval]) <;> rfl)) (fun h => ?_) (fun h => ?_)) | (refine go_br (fun h => ?_) (fun h => ?_)) | (refine go_gs (by ((try simp only [EE, QQ, seval]) <;> rfl)) (fun h => ?_) (fun h => ?_)) | (with_reducible apply And.intro) | (with_reducible exact trivial) | omega | (simp only [List.length_map, List.length_cons, List.length_nil] at *; omega) | (show _ = true; first | rfl | kernel_rfl))
      all_goals ((first | apply ret_mk [] | apply end_mk []); (· ((try simp only [CC, EE, QQ, seval]) <;> rfl)); (· ((try simp only [CC, EE, QQ, seval]) <;> repeat' (first | (with_reducible apply And.intro) | rfl | trivial | (exact ⟨_, rfl⟩) | (exact ⟨_, _, _, rfl⟩) | (simp [*, ]; done) | (simp [*, ]; omega) | (simp_all []; done) | (simp_all []; omega)))); all_goals (first | trivial | decide | ((try simp only [CC, EE, QQ, seval]) <;> repeat' (first | (with_reducible apply And.intro) | (exact ⟨_, rfl, rfl, rfl⟩) | (exact ⟨_, _, _, rfl⟩) | (exact ⟨_, rfl⟩) | trivial | rfl | (simp; done)))))
/-- Elements, and where the deck stands then. -/
def elG (l : List Int) (p : Int) (k : Nat) : Nat → List Int × Nat
  | 0 => ([], k)
  | n + 1 => ((elG l p k n).1 ++ [nextV l (elG l p k n).2 p], nextK l (elG l p k n).2 p)
theorem elG_len {l : List Int} {p : Int} {k : Nat} : ∀ {n : Nat}, (elG l p k n).1.length = n
  | 0 => rfl
  | n + 1 => by rw [elG]; simp [elG_len]
theorem elG_in {l : List Int} {p : Int} {k : Nat} (hp : 1 ≤ p) : ∀ {n : Nat}, (elG l p k n).1.all (inE p) = true
  | 0 => rfl
  | n + 1 => by
    rw [elG, List.all_append, elG_in hp]
    have := nextV_in l (elG l p k n).2 p
    simp [inE]; omega
theorem elements (l : List Int) (hl : l.length ≤ 17592186044416) (k : Nat) (p : Int) (hp2 : p < 4611686018427387904) (n : Int) (hn : n ≤ 10000000) : Does Try.prog 39 [dkp, .ag [I p], I n] (dk l k) (.og 1000000 0) (dk l (elG l p k n.toNat).2) [.arr 0 1 true ((elG l p k n.toNat).1.map eI)] := by
  refine go_make_Elements rfl BxOK.one fun cx hm0 => go_in 5000 ?_
  unfold ac_make_Elements rs_make_Elements
  repeat' (first | simp only [↓GE, PL, PP, EE, QQ, seval] | (simp (disch := omega) only [IntWalk.i64_in]) | (refine go_brD (fun h => ?_) (fun h => ?_)) | (refine go_gsD (by ((try simp only [EE, QQ, seval]) <;> rfl)) (fun h => ?_) (fun h => ?_)) | (refine go_br (fun h => ?_) (fun h => ?_)) | (refine go_gs (by ((try simp only [EE, QQ, seval]) <;> rfl)) (fun h => ?_) (fun h => ?_)) | (with_reducible apply And.intro) | (with_reducible exact trivial) | omega | (simp only [List.length_map, List.length_cons, List.length_nil] at *; omega) | (show _ = true; first | rfl | kernel_rfl))
  refine go_loop 5000 hm0 (ι := {p : Nat × Nat // p.1 ≤ n.toNat}) (fun i => [(0, .bp 900000 0 0), (4, .bp 4 0 0), (7, .og 17 i.1.2), (8, I n), (9, I i.1.1)]) (fun i => [(4, .box 0 [I p]), (17, .arr i.1.2 1 true ((elG l p k i.1.1).1.map eI)), (900000, .box 0 [.d (dInts l), I (elG l p k i.1.1).2])]) (fun i => n.toNat - i.1.1) [17] ⟨(0, 0), by simp⟩ ?_ ?_
  · (simp only [GeS]; refine ⟨?_, ?_, ?_, ?_⟩; all_goals (repeat' (first | trivial | (with_reducible rfl) | simp only [CC, EE, QQ, seval] | (with_reducible apply And.intro) | rfl | (refine ⟨_, rfl, ?_⟩) | (simp [elG]; done) | omega)))
  · rintro ⟨⟨j, v⟩, hj⟩
    simp only at hj
    have hlen := elG_len (l := l) (p := p) (k := k) (n := j)
    by_cases hjn : j < n.toNat
    · repeat' (first | simp only [↓GE, PL, PP, EE, QQ, seval, List.length_map] | (simp (disch := omega) only [IntWalk.i64_in]) | (refine go_brD (fun h => ?_) (fun h => ?_)) | (refine go_gsD (by ((try simp only [EE, QQ, seval]) <;> rfl)) (fun h => ?_) (fun h => ?_)) | (refine go_br (fun h => ?_) (fun h => ?_)) | (refine go_gs (by ((try simp only [EE, QQ, seval]) <;> rfl)) (fun h => ?_) (fun h => ?_)) | (apply go_call 5000 (next l hl (elG l p k j).2 p hp2) rfl rfl; (· ((try simp only [CC, EE, QQ, seval]) <;> (first | rfl | ((repeat constructor); done)))); (· exact CallForm.box1 (by first | decide | (refine ⟨by decide, ?_⟩; first | (right; simp; done) | (left; simp; done))) (by ((try simp only [EE, QQ, seval]) <;> rfl)) rfl rfl rfl rfl); (· ((try simp only [CC, EE, QQ, seval]) <;> (first | rfl | ((repeat constructor); done)))); (· ((try simp only [CC, EE, QQ, seval]) <;> (first | rfl | ((repeat constructor); done))))) | (with_reducible apply And.intro) | (with_reducible exact trivial) | omega | (simp only [List.length_map, List.length_cons, List.length_nil] at *; omega) | (show _ = true; first | rfl | kernel_rfl))
      refine ⟨⟨(j + 1, v + 1), hjn⟩, ?_, by simp only; omega⟩
      (simp only [GeS]; refine ⟨?_, ?_, ?_, ?_⟩; all_goals (repeat' (first | trivial | (with_reducible rfl) | simp only [CC, EE, QQ, seval] | (with_reducible apply And.intro) | rfl | (refine ⟨_, rfl, ?_⟩) | (simp [elG, eI]; done) | omega)))
    · have : j = n.toNat := by omega
      subst this
      repeat' (first | simp only [↓GE, PL, PP, EE, QQ, seval] | (simp (disch := omega) only [IntWalk.i64_in]) | (refine go_brD (fun h => ?_) (fun h => ?_)) | (refine go_gsD (by ((try simp only [EE, QQ, seval]) <;> rfl)) (fun h => ?_) (fun h => ?_)) | (refine go_br (fun h => ?_) (fun h => ?_)) | (refine go_gs (by ((try simp only [EE, QQ, seval]) <;> rfl)) (fun h => ?_) (fun h => ?_)) | (with_reducible apply And.intro) | (with_reducible exact trivial) | omega | (simp only [List.length_map, List.length_cons, List.length_nil] at *; omega) | (show _ = true; first | rfl | kernel_rfl))
      all_goals ((first | apply ret_mk [some 17] | apply end_mk [some 17]); (· ((try simp only [CC, EE, QQ, seval]) <;> rfl)); (· ((try simp only [CC, EE, QQ, seval]) <;> repeat' (first | (with_reducible apply And.intro) | rfl | trivial | (exact ⟨_, rfl⟩) | (exact ⟨_, _, _, rfl⟩) | (simp [*, ]; done) | (simp [*, ]; omega) | (simp_all []; done) | (simp_all []; omega)))); all_goals (first | trivial | decide | ((try simp only [CC, EE, QQ, seval]) <;> repeat' (first | (with_reducible apply And.intro) | (exact ⟨_, rfl, rfl, rfl⟩) | (exact ⟨_, _, _, rfl⟩) | (exact ⟨_, rfl⟩) | trivial | rfl | (simp; done)))))
def rwG (l : List Int) (p w : Int) (k : Nat) : Nat → List (List Int) × Nat
  | 0 => ([], k)
  | n + 1 => ((rwG l p w k n).1 ++ [(elG l p (rwG l p w k n).2 w.toNat).1], (elG l p (rwG l p w k n).2 w.toNat).2)
theorem rwG_len {l : List Int} {p w : Int} {k : Nat} : ∀ {n : Nat}, (rwG l p w k n).1.length = n
  | 0 => rfl
  | n + 1 => by rw [rwG]; simp [rwG_len]
/-- Rows of elements. -/
def RowsOK (p w : Int) (rows : List (List Int)) : Prop := ∀ r ∈ rows, r.length = w.toNat ∧ r.all (inE p) = true
theorem rwG_ok {l : List Int} {p w : Int} {k : Nat} (hp : 1 ≤ p) : ∀ {n : Nat}, RowsOK p w (rwG l p w k n).1
  | 0 => fun r h => by cases h
  | n + 1 => fun r h => by
    rw [rwG] at h
    rcases List.mem_append.1 h with h | h
    · exact rwG_ok hp r h
    · simp only [List.mem_singleton] at h
      subst h
      exact ⟨elG_len, elG_in hp⟩
theorem rowsErr_ok {p w : Int} (hw : 0 ≤ w) : ∀ {rows : List (List Int)}, rowsErr p w rows = 0 ↔ RowsOK p w rows
  | [] => by simp [rowsErr, RowsOK]
  | r :: l => by
    have ih := rowsErr_ok (p := p) hw (rows := l)
    simp only [RowsOK, List.mem_cons, forall_eq_or_imp] at ih ⊢
    rw [rowsErr]
    split
    · rename_i h; simp; omega
    · rename_i h
      split
      · rename_i h2
        rw [ih]
        exact ⟨fun g => ⟨⟨by omega, h2⟩, g⟩, fun g => g.2⟩
      · rename_i h2
        exact ⟨fun g => by simp at g, fun g => absurd g.1.2 h2⟩
theorem makeRows (l : List Int) (hl : l.length ≤ 17592186044416) (k : Nat) (p : Int) (hp2 : p < 4611686018427387904) (n w : Int) (hn : n ≤ 10000000) (hw : w ≤ 10000000) : Does Try.prog 37 [dkp, .ag [I p], I n, I w] (dk l k) (.og 1000000 0) (dk l (rwG l p w k n.toNat).2) [.arr 0 1 true ((rwG l p w k n.toNat).1.map eR)] := by
  refine go_make_Rows rfl BxOK.one fun cx hm0 => go_in 5000 ?_
  unfold ac_make_Rows rs_make_Rows
  repeat' (first | simp only [↓GE, PL, PP, EE, QQ, seval] | (simp (disch := omega) only [IntWalk.i64_in]) | (refine go_brD (fun h => ?_) (fun h => ?_)) | (refine go_gsD (by ((try simp only [EE, QQ, seval]) <;> rfl)) (fun h => ?_) (fun h => ?_)) | (refine go_br (fun h => ?_) (fun h => ?_)) | (refine go_gs (by ((try simp only [EE, QQ, seval]) <;> rfl)) (fun h => ?_) (fun h => ?_)) | (with_reducible apply And.intro) | (with_reducible exact trivial) | omega | (simp only [List.length_map, List.length_cons, List.length_nil] at *; omega) | (show _ = true; first | rfl | kernel_rfl))
  refine go_loop 5000 hm0 (ι := {p : Nat × Nat // p.1 ≤ n.toNat}) (fun i => [(0, .bp 900000 0 0), (3, I w), (5, .bp 5 0 0), (9, .og 19 i.1.2), (10, I n), (11, I i.1.1)]) (fun i => [(5, .box 0 [I p]), (19, .arr i.1.2 1 true ((rwG l p w k i.1.1).1.map eR)), (900000, .box 0 [.d (dInts l), I (rwG l p w k i.1.1).2])]) (fun i => n.toNat - i.1.1) [19] ⟨(0, 0), by simp⟩ ?_ ?_
  · (simp only [GeS]; refine ⟨?_, ?_, ?_, ?_⟩; all_goals (repeat' (first | trivial | (with_reducible rfl) | simp only [CC, EE, QQ, seval] | (with_reducible apply And.intro) | rfl | (refine ⟨_, rfl, ?_⟩) | (simp [rwG]; done) | omega)))
  · rintro ⟨⟨j, v⟩, hj⟩
    simp only at hj
    have hlen := rwG_len (l := l) (p := p) (k := k) (w := w) (n := j)
    by_cases hjn : j < n.toNat
    · repeat' (first | simp only [↓GE, PL, PP, EE, QQ, seval, List.length_map] | (simp (disch := omega) only [IntWalk.i64_in]) | (refine go_brD (fun h => ?_) (fun h => ?_)) | (refine go_gsD (by ((try simp only [EE, QQ, seval]) <;> rfl)) (fun h => ?_) (fun h => ?_)) | (refine go_br (fun h => ?_) (fun h => ?_)) | (refine go_gs (by ((try simp only [EE, QQ, seval]) <;> rfl)) (fun h => ?_) (fun h => ?_)) | (apply go_call 5000 (elements l hl (rwG l p w k j).2 p hp2 w hw) rfl rfl; (· ((try simp only [CC, EE, QQ, seval]) <;> (first | rfl | ((repeat constructor); done)))); (· exact CallForm.box1 (by first | decide | (refine ⟨by decide, ?_⟩; first | (right; simp; done) | (left; simp; done))) (by ((try simp only [EE, QQ, seval]) <;> rfl)) rfl rfl rfl rfl); (· ((try simp only [CC, EE, QQ, seval]) <;> (first | rfl | ((repeat constructor); done)))); (· ((try simp only [CC, EE, QQ, seval]) <;> (first | rfl | ((repeat constructor); done))))) | (with_reducible apply And.intro) | (with_reducible exact trivial) | omega | (simp only [List.length_map, List.length_cons, List.length_nil] at *; omega) | (show _ = true; first | rfl | kernel_rfl))
      refine ⟨⟨(j + 1, v + 1), hjn⟩, ?_, by simp only; omega⟩
      (simp only [GeS]; refine ⟨?_, ?_, ?_, ?_⟩; all_goals (repeat' (first | trivial | (with_reducible rfl) | simp only [CC, EE, QQ, seval] | (with_reducible apply And.intro) | rfl | (refine ⟨_, rfl, ?_⟩) | (simp [rwG, eR]; done) | omega)))
    · have : j = n.toNat := by omega
      subst this
      repeat' (first | simp only [↓GE, PL, PP, EE, QQ, seval] | (simp (disch := omega) only [IntWalk.i64_in]) | (refine go_brD (fun h => ?_) (fun h => ?_)) | (refine go_gsD (by ((try simp only [EE, QQ, seval]) <;> rfl)) (fun h => ?_) (fun h => ?_)) | (refine go_br (fun h => ?_) (fun h => ?_)) | (refine go_gs (by ((try simp only [EE, QQ, seval]) <;> rfl)) (fun h => ?_) (fun h => ?_)) | (with_reducible apply And.intro) | (with_reducible exact trivial) | omega | (simp only [List.length_map, List.length_cons, List.length_nil] at *; omega) | (show _ = true; first | rfl | kernel_rfl))
      all_goals ((first | apply ret_mk [some 19] | apply end_mk [some 19]); (· ((try simp only [CC, EE, QQ, seval]) <;> rfl)); (· ((try simp only [CC, EE, QQ, seval]) <;> repeat' (first | (with_reducible apply And.intro) | rfl | trivial | (exact ⟨_, rfl⟩) | (exact ⟨_, _, _, rfl⟩) | (simp [*, ]; done) | (simp [*, ]; omega) | (simp_all []; done) | (simp_all []; omega)))); all_goals (first | trivial | decide | ((try simp only [CC, EE, QQ, seval]) <;> repeat' (first | (with_reducible apply And.intro) | (exact ⟨_, rfl, rfl, rfl⟩) | (exact ⟨_, _, _, rfl⟩) | (exact ⟨_, rfl⟩) | trivial | rfl | (simp; done)))))
def pList : List Int := [2, 3, 5, 7, 11, 13, 17, 257, 65521]
def fldG (l : List Int) (k : Nat) : Int := pList.getD (nextV l k 9).toNat 0
theorem fieldB_small : ∀ n : Nat, n < 9 → fieldB (pList.getD n 0) = true := by
  intro n hn
  have key : ∀ n : Nat, n < 9 → 2 ≤ pList.getD n 0 ∧ pList.getD n 0 ≤ 65521 ∧ ∀ d : Nat, d < 256 → 2 ≤ d → ((d * d : Nat) : Int) ≤ pList.getD n 0 → (pList.getD n 0).tmod (d : Nat) ≠ 0 := by decide +kernel
  obtain ⟨h1, h2, h3⟩ := key n hn
  rw [fieldB_iff]
  refine ⟨h1, h2, fun d hd hdd => ?_⟩
  obtain ⟨e, rfl⟩ := Int.eq_ofNat_of_zero_le (show 0 ≤ d by omega)
  refine h3 e ?_ (by omega) (by rw [Int.natCast_mul]; exact hdd)
  apply Nat.lt_of_not_le
  intro h
  have h4 : (256 : Int) * 256 ≤ (e : Int) * e := Int.mul_le_mul (by omega) (by omega) (by omega) (by omega)
  omega
theorem fldG_ok (l : List Int) (k : Nat) : fieldB (fldG l k) = true ∧ 2 ≤ fldG l k ∧ fldG l k ≤ 65521 := by
  have := nextV_in l k 9
  have h := fieldB_small (nextV l k 9).toNat (by omega)
  exact ⟨h, (fieldB_iff.1 h).1, (fieldB_iff.1 h).2.1⟩
theorem makeField (l : List Int) (hl : l.length ≤ 17592186044416) (k : Nat) : Does Try.prog 35 [dkp] (dk l k) (.ag [I (fldG l k)]) (dk l (nextK l k 9)) [] := by
  refine go_make_Field rfl BxOK.one fun cx hm0 => go_in 5000 ?_
  unfold ac_make_Field rs_make_Field
  have hn := next l hl k 9 (by omega)
  have hx := nextV_in l k 9
  unfold fldG
  generalize nextV l k 9 = x at hn hx
  have hx : x = 0 ∨ x = 1 ∨ x = 2 ∨ x = 3 ∨ x = 4 ∨ x = 5 ∨ x = 6 ∨ x = 7 ∨ x = 8 := by omega
  rcases hx with rfl | rfl | rfl | rfl | rfl | rfl | rfl | rfl | rfl
  all_goals
    repeat' (first | simp only [↓GE, PL, PP, EE, QQ, seval, pList, List.set_cons_zero, List.set_cons_succ, List.replicate] | (simp (disch := omega) only [IntWalk.i64_in]) | (refine go_brD (fun h => ?_) (fun h => ?_)) | (refine go_gsD (by ((try simp only [EE, QQ, seval]) <;> rfl)) (fun h => ?_) (fun h => ?_)) | (refine go_br (fun h => ?_) (fun h => ?_)) | (refine go_gs (by ((try simp only [EE, QQ, seval]) <;> rfl)) (fun h => ?_) (fun h => ?_)) | (apply go_call 5000 (hn) rfl rfl; (· ((try simp only [CC, EE, QQ, seval]) <;> (first | rfl | ((repeat constructor); done)))); (· exact CallForm.box1 (by first | decide | (refine ⟨by decide, ?_⟩; first | (right; simp; done) | (left; simp; done))) (by ((try simp only [EE, QQ, seval]) <;> rfl)) rfl rfl rfl rfl); (· ((try simp only [CC, EE, QQ, seval]) <;> (first | rfl | ((repeat constructor); done)))); (· ((try simp only [CC, EE, QQ, seval]) <;> (first | rfl | ((repeat constructor); done))))) | (with_reducible apply And.intro) | (with_reducible exact trivial) | omega | (simp only [List.length_map, List.length_cons, List.length_nil] at *; omega) | (show _ = true; first | rfl | kernel_rfl))
    all_goals ((first | apply ret_mk [] | apply end_mk []); (· ((try simp only [CC, EE, QQ, seval]) <;> rfl)); (· ((try simp only [CC, EE, QQ, seval]) <;> repeat' (first | (with_reducible apply And.intro) | rfl | trivial | (exact ⟨_, rfl⟩) | (exact ⟨_, _, _, rfl⟩) | (simp [*, pList]; done) | (simp [*, pList]; omega) | (simp_all [pList]; done) | (simp_all [pList]; omega)))); all_goals (first | trivial | decide | ((try simp only [CC, EE, QQ, seval]) <;> repeat' (first | (with_reducible apply And.intro) | (exact ⟨_, rfl, rfl, rfl⟩) | (exact ⟨_, _, _, rfl⟩) | (exact ⟨_, rfl⟩) | trivial | rfl | (simp; done)))))
end Go.Proofs.Ytpliidhbfjjofaa.Sim
