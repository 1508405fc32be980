/- What one server sees of two reads: the plain law. -/
import Derived.Test.YthbhkkdaaipngaaGreatDoorMTpCq
section
namespace Go.Proofs.YthbhkkdaaipngaaGreatDoor.Sim
open Go Go.RowKit Go.Deep
set_option maxRecDepth 100000
set_option maxHeartbeats 4000000
set_option linter.unusedVariables false
set_option linter.unusedSimpArgs false
attribute [local irreducible] Go Mean
def limOK (l : List Int) : Prop := ∀ x ∈ l, 1 ≤ x ∧ x ≤ 2147483647
theorem bounded1 (n : Int) (h : 1 ≤ n ∧ n ≤ 2147483647) : Does Tryz.prog 34 [I n] [] (B false) [] [] := by
  refine go_tape_bounded_1 rfl BxOK.nil fun cx hm0 => go_in 5000 ?_
  unfold ac_tape_bounded_1 rs_tape_bounded_1
  have e1 := tlimit n h.1 h.2
  repeat' (first | simp (maxSteps := 9999999) only [↓GE, PL, PP, EE, QQ, seval] | (simp (disch := omega) only [IntWalk.i64_in]) | (refine go_brD (fun h => ?_) (fun h => ?_)) | (refine go_gsD aE (fun h => ?_) (fun h => ?_)) | (refine go_br (fun h => ?_) (fun h => ?_)) | (refine go_gs aE (fun h => ?_) (fun h => ?_)) | (apply go_call 5000 (e1) rfl rfl; iterate 4 (first | (exact CallForm.plain rfl) | exact aC)) | (with_reducible apply And.intro) | exact aG | fail)
  all_goals ((first | apply ret_mk [] | apply end_mk []); (· exact aR); (· exact aZ); all_goals exact aF)
theorem indexB (l : List Int) (hl : l.length ≤ 1000000) (h : limOK l) : Does Tryz.prog 48 [.d (dInts l), .cl 34 []] [] (I (-1)) [] [] := by
  refine go_slices_IndexFunc_int_int rfl BxOK.nil fun cx hm0 => go_in 5000 ?_
  unfold ac_slices_IndexFunc_int_int rs_slices_IndexFunc_int_int
  repeat' (first | simp (maxSteps := 9999999) only [↓GE, PL, PP, EE, QQ, seval, List.length_map] | (simp (disch := omega) only [IntWalk.i64_in]) | (refine go_brD (fun h => ?_) (fun h => ?_)) | (refine go_gsD aE (fun h => ?_) (fun h => ?_)) | (refine go_br (fun h => ?_) (fun h => ?_)) | (refine go_gs aE (fun h => ?_) (fun h => ?_)) | (with_reducible apply And.intro) | exact aG | fail)
  refine go_loop 5000 hm0 (ι := {k : Nat // k ≤ l.length}) (fun k => [(0, .d (dInts l)), (1, .cl 34 []), (4, I 0), (7, I l.length), (8, I k.1)]) (fun k => []) (fun k => l.length - k.1) [] ⟨0, Nat.zero_le _⟩ ?_ ?_
  · exact aH
  · rintro ⟨k, hk⟩
    simp only
    by_cases hkl : k < l.length
    · have q1 : decide ((k : Int) < (l.length : Int)) = true := decide_eq_true (by omega)
      have w1 : IntKind.i64.wrap ((k : Int) + 1) = ((k + 1 : Nat) : Int) := by rw [IntWalk.i64_in _ (by omega)]; omega
      have hs := getD_map eI [] 0 l k hkl
      have hx := h _ (mem_getD 0 l k hkl)
      generalize l.getD k 0 = x at *
      have e1 := bounded1 x hx
      repeat' (first | simp (maxSteps := 9999999) only [↓GE, PL, PP, EE, QQ, seval, q1, w1, hs, hkl, eI, List.length_map] | (simp (disch := omega) only [IntWalk.i64_in]) | (refine go_brD (fun h => ?_) (fun h => ?_)) | (refine go_gsD aE (fun h => ?_) (fun h => ?_)) | (refine go_br (fun h => ?_) (fun h => ?_)) | (refine go_gs aE (fun h => ?_) (fun h => ?_)) | (apply go_callv 5000 (e1) rfl (by kernel_rfl) rfl; iterate 4 (first | (exact CallForm.plain rfl) | exact aC)) | (with_reducible apply And.intro) | exact aG | fail)
      refine ⟨⟨k + 1, hkl⟩, ?_, by simp only; omega⟩
      exact aH
    · obtain rfl : k = l.length := by omega
      have q1 : decide ((l.length : Int) < (l.length : Int)) = false := decide_eq_false (by omega)
      repeat' (first | simp (maxSteps := 9999999) only [↓GE, PL, PP, EE, QQ, seval, q1] | (simp (disch := omega) only [IntWalk.i64_in]) | (refine go_brD (fun h => ?_) (fun h => ?_)) | (refine go_gsD aE (fun h => ?_) (fun h => ?_)) | (refine go_br (fun h => ?_) (fun h => ?_)) | (refine go_gs aE (fun h => ?_) (fun h => ?_)) | (with_reducible apply And.intro) | exact aG | fail)
      ((first | apply ret_mk [] | apply end_mk []); (· exact aR); (· exact aZ); all_goals exact aF)
theorem containsB (l : List Int) (hl : l.length ≤ 1000000) (h : limOK l) : Does Tryz.prog 33 [.d (dInts l), .cl 34 []] [] (B false) [] [] := by
  refine go_slices_ContainsFunc_int_int rfl BxOK.nil fun cx hm0 => go_in 5000 ?_
  unfold ac_slices_ContainsFunc_int_int rs_slices_ContainsFunc_int_int
  repeat' (first | simp (maxSteps := 9999999) only [↓GE, PL, PP, EE, QQ, seval] | (simp (disch := omega) only [IntWalk.i64_in]) | (refine go_brD (fun h => ?_) (fun h => ?_)) | (refine go_gsD aE (fun h => ?_) (fun h => ?_)) | (refine go_br (fun h => ?_) (fun h => ?_)) | (refine go_gs aE (fun h => ?_) (fun h => ?_)) | (apply go_call 5000 (indexB l hl h) rfl rfl; iterate 4 (first | (exact CallForm.plain rfl) | exact aC)) | (with_reducible apply And.intro) | exact aG | fail)
  ((first | apply ret_mk [] | apply end_mk []); (· exact aR); (· exact aZ); all_goals exact aF)
theorem boundedT (l : List Int) (hl : l.length ≤ 16384) (h : limOK l) : Does Tryz.prog 21 [.d (dInts l)] [] (B true) [] [] := by
  refine go_tape_bounded rfl BxOK.nil fun cx hm0 => go_in 5000 ?_
  unfold ac_tape_bounded rs_tape_bounded
  have q1 : decide ((l.length : Int) ≤ 16384) = true := decide_eq_true (by omega)
  repeat' (first | simp (maxSteps := 9999999) only [↓GE, PL, PP, EE, QQ, seval, q1, List.length_map] | (simp (disch := omega) only [IntWalk.i64_in]) | (refine go_brD (fun h => ?_) (fun h => ?_)) | (refine go_gsD aE (fun h => ?_) (fun h => ?_)) | (refine go_br (fun h => ?_) (fun h => ?_)) | (refine go_gs aE (fun h => ?_) (fun h => ?_)) | (apply go_call 5000 (containsB l (by omega) h) rfl rfl; iterate 4 (first | (exact CallForm.plain rfl) | exact aC)) | (with_reducible apply And.intro) | exact aG | fail)
  all_goals ((first | apply ret_mk [] | apply end_mk []); (· exact aR); (· exact aZ); all_goals exact aF)
def prodL : List Int → Int
  | [] => 1
  | x :: r => x * prodL r
theorem prodL_snoc : ∀ {l : List Int} {x : Int}, prodL (l ++ [x]) = prodL l * x
  | [], x => by simp [prodL]
  | y :: r, x => by simp only [List.cons_append, prodL]; rw [prodL_snoc, Int.mul_assoc]
theorem prodL_pos : ∀ {l : List Int}, limOK l → 1 ≤ prodL l
  | [], _ => Int.le_refl _
  | x :: r, h => by
    have h1 := prodL_pos (l := r) fun y hy => h y (List.mem_cons_of_mem _ hy)
    have h2 := (h x (by simp)).1
    simp only [prodL]
    exact Int.le_trans (by omega) (Int.mul_le_mul h2 h1 (by omega) (by omega))
theorem prodL_append : ∀ {a b : List Int}, prodL (a ++ b) = prodL a * prodL b
  | [], b => by simp [prodL]
  | x :: a, b => by simp only [List.cons_append, prodL]; rw [prodL_append, Int.mul_assoc]
theorem prodL_take {l : List Int} (h : limOK l) (k : Nat) : prodL (l.take k) ≤ prodL l := by
  have h1 := prodL_pos (l := l.take k) fun y hy => h y (List.mem_of_mem_take hy)
  have h2 := prodL_pos (l := l.drop k) fun y hy => h y (List.mem_of_mem_drop hy)
  have h3 : prodL l = prodL (l.take k) * prodL (l.drop k) := by rw [← prodL_append, List.take_append_drop]
  rw [h3]
  have := Int.mul_le_mul_of_nonneg_left h2 (show 0 ≤ prodL (l.take k) by omega)
  omega
theorem countTape (l : List Int) (hl : l.length ≤ 16384) (h : limOK l) (hp : prodL l ≤ 1099511627776) : Does Tryz.prog 10 [.d (dInts l)] [] (.tu [I (prodL l), I 0]) [] [] := by
  refine go_tape_Count rfl BxOK.nil fun cx hm0 => go_in 5000 ?_
  unfold ac_tape_Count rs_tape_Count
  repeat' (first | simp (maxSteps := 9999999) only [↓GE, PL, PP, EE, QQ, seval, List.length_map] | (simp (disch := omega) only [IntWalk.i64_in]) | (refine go_brD (fun h => ?_) (fun h => ?_)) | (refine go_gsD aE (fun h => ?_) (fun h => ?_)) | (refine go_br (fun h => ?_) (fun h => ?_)) | (refine go_gs aE (fun h => ?_) (fun h => ?_)) | (apply go_call 5000 (boundedT l hl h) rfl rfl; iterate 4 (first | (exact CallForm.plain rfl) | exact aC)) | (with_reducible apply And.intro) | exact aG | fail)
  refine go_loop 5000 hm0 (ι := {k : Nat // k ≤ l.length}) (fun k => [(4, I (prodL (l.take k.1))), (10, .d (dInts l)), (11, I l.length), (12, I k.1)]) (fun k => []) (fun k => l.length - k.1) [] ⟨0, Nat.zero_le _⟩ ?_ ?_
  · (simp only [GeS]; refine ⟨?_, ?_, ?_, ?_⟩; all_goals (repeat' (first | (with_reducible exact True.intro) | (with_reducible rfl) | simp only [XC, ↓reduceIte, seval] | (with_reducible apply And.intro) | (refine ⟨_, rfl, ?_⟩) | (simp [prodL]; done) | exact aS | fail)))
  · rintro ⟨k, hk⟩
    simp only
    by_cases hkl : k < l.length
    · have q1 : decide ((k : Int) < (l.length : Int)) = true := decide_eq_true (by omega)
      have w1 : IntKind.i64.wrap ((k : Int) + 1) = ((k + 1 : Nat) : Int) := by rw [IntWalk.i64_in _ (by omega)]; omega
      have hs := getD_map eI [] 0 l k hkl
      have hx := h _ (mem_getD 0 l k hkl)
      have hnx : prodL (l.take (k + 1)) = prodL (l.take k) * l.getD k 0 := by
        rw [List.take_succ_eq_append_getElem hkl, prodL_snoc, List.getD_eq_getElem?_getD, List.getElem?_eq_getElem hkl]; rfl
      have hle := prodL_take h (k + 1)
      have hp1 := prodL_pos (l := l.take k) fun y hy => h y (List.mem_of_mem_take hy)
      rw [hnx] at hle
      generalize l.getD k 0 = x at *
      generalize prodL (l.take k) = q at *
      have hd0 : (1099511627776 : Int).tdiv x = 1099511627776 / x := Int.tdiv_eq_ediv_of_nonneg (by omega)
      have hd1 := Int.ediv_le_self x (show (0 : Int) ≤ 1099511627776 by omega)
      have hd2 := Int.ediv_nonneg (a := 1099511627776) (b := x) (by omega) (by omega)
      have w2 : IntKind.i64.wrap ((1099511627776 : Int).tdiv x) = 1099511627776 / x := by rw [hd0, IntWalk.i64_in _ (by omega)]
      have hqx : q ≤ 1099511627776 / x := (Int.le_ediv_iff_mul_le (by omega)).2 (by omega)
      have q2 : decide (1099511627776 / x < q) = false := decide_eq_false (by omega)
      have w3 : IntKind.i64.wrap (q * x) = q * x := IntWalk.i64_in _ (by
        have := Int.mul_nonneg (show 0 ≤ q by omega) (show 0 ≤ x by omega)
        omega)
      repeat' (first | simp (maxSteps := 9999999) only [↓GE, PL, PP, EE, QQ, seval, q1, w1, w2, hd0, q2, w3, hs, hkl, eI, List.length_map] | (simp (disch := omega) only [IntWalk.i64_in]) | (refine go_brD (fun h => ?_) (fun h => ?_)) | (refine go_gsD aE (fun h => ?_) (fun h => ?_)) | (refine go_br (fun h => ?_) (fun h => ?_)) | (refine go_gs aE (fun h => ?_) (fun h => ?_)) | (with_reducible apply And.intro) | exact aG | fail)
      refine ⟨⟨k + 1, hkl⟩, ?_, by simp only; omega⟩
      (simp only [GeS]; refine ⟨?_, ?_, ?_, ?_⟩; all_goals (repeat' (first | (with_reducible exact True.intro) | (with_reducible rfl) | simp only [XC, ↓reduceIte, seval] | (with_reducible apply And.intro) | (refine ⟨_, rfl, ?_⟩) | (simp [hnx]; done) | exact aS | fail)))
    · obtain rfl : k = l.length := by omega
      have q1 : decide ((l.length : Int) < (l.length : Int)) = false := decide_eq_false (by omega)
      rw [List.take_length]
      repeat' (first | simp (maxSteps := 9999999) only [↓GE, PL, PP, EE, QQ, seval, q1] | (simp (disch := omega) only [IntWalk.i64_in]) | (refine go_brD (fun h => ?_) (fun h => ?_)) | (refine go_gsD aE (fun h => ?_) (fun h => ?_)) | (refine go_br (fun h => ?_) (fun h => ?_)) | (refine go_gs aE (fun h => ?_) (fun h => ?_)) | (with_reducible apply And.intro) | exact aG | fail)
      ((first | apply ret_mk [] | apply end_mk []); (· exact aR); (· exact aZ); all_goals exact aF)
/-- The tape with a number. -/
def atF : List Int → Int → List Int
  | [], _ => []
  | n :: r, x => x % n :: atF r (x / n)
theorem atF_len : ∀ {l : List Int} {x : Int}, (atF l x).length = l.length
  | [], _ => rfl
  | n :: r, x => by simp [atF, atF_len]
theorem atF_next : ∀ {l : List Int} {x : Int} {k : Nat}, limOK l → 0 ≤ x → k < l.length → atF (l.take (k + 1)) x = atF (l.take k) x ++ [x / prodL (l.take k) % l.getD k 0] := by
  intro l
  induction l with
  | nil => intro x k _ _ hk; simp at hk
  | cons n r ih =>
    intro x k h h0 hk
    have hn := (h n (by simp)).1
    have hr : limOK r := fun y hy => h y (List.mem_cons_of_mem _ hy)
    cases k with
    | zero => simp [atF, prodL]
    | succ k =>
      simp only [List.take_succ_cons, atF, prodL, List.cons_append]
      rw [ih hr (Int.ediv_nonneg h0 (by omega)) (by simpa using hk)]
      rw [Int.ediv_ediv_of_nonneg (by omega)]
      simp
theorem atTape (l : List Int) (x : Int) (hl : l.length ≤ 16384) (h : limOK l) (hp : prodL l ≤ 1099511627776) (h0 : 0 ≤ x) (hx : x < prodL l) : Does Tryz.prog 11 [.d (dInts l), I x] [] (.tu [.ag [.d (dInts (atF l x)), I 0], I 0]) [] [] := by
  refine go_tape_At rfl BxOK.nil fun cx hm0 => go_in 5000 ?_
  unfold ac_tape_At rs_tape_At
  have q1 : decide (x < 0) = false := decide_eq_false (by omega)
  have q2 : decide (prodL l ≤ x) = false := decide_eq_false (by omega)
  repeat' (first | simp (maxSteps := 9999999) only [↓GE, PL, PP, EE, QQ, seval, q1, q2, List.length_map] | (simp (disch := omega) only [IntWalk.i64_in]) | (refine go_brD (fun h => ?_) (fun h => ?_)) | (refine go_gsD aE (fun h => ?_) (fun h => ?_)) | (refine go_br (fun h => ?_) (fun h => ?_)) | (refine go_gs aE (fun h => ?_) (fun h => ?_)) | (apply go_call 5000 (countTape l hl h hp) rfl rfl; iterate 4 (first | (exact CallForm.plain rfl) | exact aC)) | (with_reducible apply And.intro) | exact aG | fail)
  refine go_loopz 5000 hm0 (ι := {q : Nat × Nat // q.1 ≤ l.length}) (fun q => [(1, I (x / prodL (l.take q.1.1))), (4, .bp 4 0 0), (5, I 0), (8, .bp 8 0 0), (28, .d (dInts l)), (29, I l.length), (30, I q.1.1)]) (fun q => [(4, .box 0 [.nl 1, I 0]), (8, .box 0 [.og 40 q.1.2, I 0]), (40, .arr q.1.2 1 true ((atF (l.take q.1.1) x).map eI))]) (fun q => l.length - q.1.1) [] [40] ⟨(0, 0), Nat.zero_le _⟩ ?_ ?_
  · simp only [GeZ]; (simp only [GeS]; refine ⟨?_, ?_, ?_, ?_⟩; all_goals (repeat' (first | (with_reducible exact True.intro) | (with_reducible rfl) | simp only [XC, ↓reduceIte, seval] | (with_reducible apply And.intro) | (refine ⟨_, rfl, ?_⟩) | (simp [prodL, Int.ediv_one, atF]; done) | exact aS | fail)))
  · rintro ⟨⟨k, v⟩, hk⟩
    simp only at hk ⊢
    by_cases hkl : k < l.length
    · have r1 : decide ((k : Int) < (l.length : Int)) = true := decide_eq_true (by omega)
      have w1 : IntKind.i64.wrap ((k : Int) + 1) = ((k + 1 : Nat) : Int) := by rw [IntWalk.i64_in _ (by omega)]; omega
      have hs := getD_map eI [] 0 l k hkl
      have hy := h _ (mem_getD 0 l k hkl)
      have hnx := atF_next h h0 hkl
      have hnp : prodL (l.take (k + 1)) = prodL (l.take k) * l.getD k 0 := by
        rw [List.take_succ_eq_append_getElem hkl, prodL_snoc, List.getD_eq_getElem?_getD, List.getElem?_eq_getElem hkl]; rfl
      have hp1 := prodL_pos (l := l.take k) fun y hy => h y (List.mem_of_mem_take hy)
      have hal : (atF (l.take k) x).length = k := by rw [atF_len, List.length_take]; omega
      have hq0 := Int.ediv_nonneg h0 (show 0 ≤ prodL (l.take k) by omega)
      have hqs := Int.ediv_le_self (prodL (l.take k)) h0
      have hnq : x / prodL (l.take (k + 1)) = x / prodL (l.take k) / l.getD k 0 := by rw [hnp, Int.ediv_ediv_of_nonneg (by omega)]
      generalize l.getD k 0 = y at *
      generalize x / prodL (l.take k) = q at *
      generalize atF (l.take k) x = A at *
      have hm : q.tmod y = q % y := Int.tmod_eq_emod_of_nonneg hq0
      have hd0 : q.tdiv y = q / y := Int.tdiv_eq_ediv_of_nonneg hq0
      have hd1 := Int.ediv_le_self y hq0
      have hd2 := Int.ediv_nonneg hq0 (show 0 ≤ y by omega)
      have w2 : IntKind.i64.wrap (q.tdiv y) = q / y := by rw [hd0, IntWalk.i64_in _ (by omega)]
      have w3 : IntKind.i64.wrap (q / y) = q / y := IntWalk.i64_in _ (by omega)
      repeat' (first | simp (maxSteps := 9999999) only [↓GE, PL, PP, EE, QQ, seval, r1, w1, w2, w3, hm, hd0, hs, hkl, hal, eI, List.length_map] | (simp (disch := omega) only [IntWalk.i64_in]) | (refine go_brD (fun h => ?_) (fun h => ?_)) | (refine go_gsD aE (fun h => ?_) (fun h => ?_)) | (refine go_br (fun h => ?_) (fun h => ?_)) | (refine go_gs aE (fun h => ?_) (fun h => ?_)) | (with_reducible apply And.intro) | exact aG | fail)
      refine ⟨[], [], ⟨(k + 1, v + 1), hkl⟩, ?_, by simp only; omega⟩
      simp only [GeZ]; (simp only [GeS]; refine ⟨?_, ?_, ?_, ?_⟩; all_goals (repeat' (first | (with_reducible exact True.intro) | (with_reducible rfl) | simp only [XC, ↓reduceIte, seval] | (with_reducible apply And.intro) | (refine ⟨_, rfl, ?_⟩) | (simp [hnx, hnq, eI]; done) | exact aS | fail)))
    · obtain rfl : k = l.length := by omega
      have r1 : decide ((l.length : Int) < (l.length : Int)) = false := decide_eq_false (by omega)
      rw [List.take_length]
      repeat' (first | simp (maxSteps := 9999999) only [↓GE, PL, PP, EE, QQ, seval, r1] | (simp (disch := omega) only [IntWalk.i64_in]) | (refine go_brD (fun h => ?_) (fun h => ?_)) | (refine go_gsD aE (fun h => ?_) (fun h => ?_)) | (refine go_br (fun h => ?_) (fun h => ?_)) | (refine go_gs aE (fun h => ?_) (fun h => ?_)) | (with_reducible apply And.intro) | exact aG | fail)
      all_goals ((first | apply ret_mk [] | apply end_mk []); (· exact aR); (· exact aZ); all_goals exact aF)
end Go.Proofs.YthbhkkdaaipngaaGreatDoor.Sim
end
section
namespace Go.Proofs.YthbhkkdaaipngaaGreatDoor.Sim
open Go Go.RowKit Go.Deep
set_option maxRecDepth 100000
set_option maxHeartbeats 4000000
set_option linter.unusedVariables false
/-- A view is a number: its digits to base b. -/
def vwL (b : Int) : Int → List Int → Int
  | v, [] => v
  | v, d :: r => vwL b (v * b + d) r
theorem vwL_append {b : Int} : ∀ {l r : List Int} {v : Int}, vwL b v (l ++ r) = vwL b (vwL b v l) r
  | [], r, v => rfl
  | d :: l, r, v => by simp only [List.cons_append, vwL]; exact vwL_append
theorem vwL_next {b v : Int} {l : List Int} {j : Nat} (h : j < l.length) : vwL b v (l.take (j + 1)) = vwL b v (l.take j) * b + l.getD j 0 := by
  rw [List.take_succ_eq_append_getElem h, vwL_append, List.getD_eq_getElem?_getD, List.getElem?_eq_getElem h]; rfl
theorem vwL_in {b : Int} (hb : 1 ≤ b) : ∀ {l : List Int} {v M : Int}, l.all (inE b) = true → 0 ≤ v → v < M → 0 ≤ vwL b v l ∧ vwL b v l < M * b ^ l.length
  | [], v, M, _, h0, h1 => ⟨h0, by simpa [vwL] using h1⟩
  | d :: l, v, M, hl, h0, h1 => by
    rw [List.all_cons, Bool.and_eq_true] at hl
    have hd : 0 ≤ d ∧ d < b := by simpa [inE] using hl.1
    have hvb := Int.mul_nonneg h0 (show 0 ≤ b by omega)
    have h2 : v * b + d < M * b := by
      have h3 := Int.mul_le_mul_of_nonneg_right (show v + 1 ≤ M by omega) (show 0 ≤ b by omega)
      rw [Int.add_mul] at h3
      omega
    have := vwL_in hb (l := l) (v := v * b + d) (M := M * b) hl.2 (by omega) h2
    simp only [vwL, List.length_cons]
    rw [Int.pow_succ']
    rw [← Int.mul_assoc]
    exact this
theorem colQ_all {p : Int} (hp : 2 ≤ p) {cf : Nat → List Int} {k : Nat} (hk : (k : Int) + 1 < p) (h : ∀ i, (cf i).all (inE p) = true) : ∀ {i : Nat}, (colQ p cf k i).all (inE p) = true
  | 0 => rfl
  | i + 1 => by
    rw [colQ, List.all_append, colQ_all hp hk h]
    have := valF_in (p := p) (x := (k : Int) + 1) (l := cf i) (by omega)
    simp only [List.all_cons, List.all_nil, Bool.and_true, Bool.true_and, inE, Bool.and_eq_true]
    exact ⟨decide_eq_true this.1, decide_eq_true this.2⟩
/-- Each number below N is met once. -/
structure BijOK (N : Nat) (view : Nat → Int) (inv : Nat → Nat) : Prop where
  lo : ∀ k, k < N → 0 ≤ view k ∧ view k < (N : Int)
  li : ∀ k, k < N → inv (view k).toNat = k
  ri : ∀ v, v < N → view (inv v) = (v : Int)
/-- How often each number was met. -/
def cntN (view : Nat → Int) (N : Nat) : Nat → List Int
  | 0 => List.replicate N 0
  | K + 1 => (cntN view N K).set (view K).toNat ((cntN view N K).getD (view K).toNat 0 + 1)
theorem cntN_len {view : Nat → Int} {N : Nat} : ∀ {K : Nat}, (cntN view N K).length = N
  | 0 => by simp [cntN]
  | K + 1 => by rw [cntN, List.length_set, cntN_len]
theorem cntN_get {N : Nat} {view : Nat → Int} {inv : Nat → Nat} (h : BijOK N view inv) : ∀ {K : Nat}, K ≤ N → ∀ v, v < N → (cntN view N K).getD v 0 = if inv v < K then 1 else 0
  | 0, _, v, hv => by simp [cntN, List.getD_eq_getElem?_getD, hv]
  | K + 1, hK, v, hv => by
    have ih := cntN_get h (K := K) (by omega)
    have hb := h.lo K (by omega)
    have hvK : (view K).toNat < N := by omega
    have hik := h.li K (by omega)
    rw [cntN, List.getD_eq_getElem?_getD, List.getElem?_set]
    by_cases e : (view K).toNat = v
    · rw [if_pos e, if_pos (by rw [cntN_len]; omega)]
      simp only [Option.getD_some]
      rw [ih _ hvK, hik, if_neg (by omega)]
      subst e
      rw [hik, if_pos (by omega)]
      rfl
    · rw [if_neg e, ← List.getD_eq_getElem?_getD, ih v hv]
      have hne : inv v ≠ K := fun e2 => by
        have := h.ri v hv
        rw [e2] at this
        omega
      by_cases h1 : inv v < K
      · rw [if_pos h1, if_pos (by omega)]
      · rw [if_neg h1, if_neg (by omega)]
theorem inv_lt {N : Nat} {view : Nat → Int} {inv : Nat → Nat} (h : BijOK N view inv) (hi : ∀ v, v < N → inv v < N) : cntN view N N = List.replicate N 1 := by
  apply List.ext_getElem (by rw [cntN_len, List.length_replicate])
  intro v h1 h2
  rw [List.length_replicate] at h2
  have := cntN_get h (K := N) (Nat.le_refl _) v h2
  rw [if_pos (hi v h2), List.getD_eq_getElem?_getD, List.getElem?_eq_getElem h1] at this
  simpa using this
/-- Two digits to base M. -/
theorem bij_pair {M : Nat} {f g : Nat → Int} {fi gi : Nat → Nat} (hf : BijOK M f fi) (hg : BijOK M g gi) (hfi : ∀ v, v < M → fi v < M) (hgi : ∀ v, v < M → gi v < M) :
    BijOK (M * M) (fun k => f (k % M) * M + g (k / M)) (fun v => fi (v / M) + M * gi (v % M)) ∧ ∀ v, v < M * M → fi (v / M) + M * gi (v % M) < M * M := by
  have hdiv : ∀ v, v < M * M → v / M < M := fun v hv => Nat.div_lt_of_lt_mul hv
  have hpos : ∀ v, v < M * M → 0 < M := fun v hv => by
    rcases Nat.eq_zero_or_pos M with h | h
    · subst h; omega
    · exact h
  have hmod : ∀ v, v < M * M → v % M < M := fun v hv => Nat.mod_lt _ (hpos v hv)
  have hcomb : ∀ x y, x < M → y < M → x + M * y < M * M := fun x y hx hy => by
    have := Nat.mul_le_mul_left M (show y + 1 ≤ M by omega)
    rw [Nat.mul_add, Nat.mul_one] at this
    omega
  have hcm : ∀ x y, x < M → (x + M * y) % M = x := fun x y hx => by rw [Nat.add_mul_mod_self_left, Nat.mod_eq_of_lt hx]
  have hcd : ∀ x y, x < M → (x + M * y) / M = y := fun x y hx => by rw [Nat.add_mul_div_left _ _ (by omega), Nat.div_eq_of_lt hx, Nat.zero_add]
  have hval : ∀ k, k < M * M → ∃ x y : Nat, x < M ∧ y < M ∧ f (k % M) = (x : Int) ∧ g (k / M) = (y : Int) := fun k hk => by
    have h1 := hf.lo _ (hmod k hk)
    have h2 := hg.lo _ (hdiv k hk)
    exact ⟨(f (k % M)).toNat, (g (k / M)).toNat, by omega, by omega, by omega, by omega⟩
  refine ⟨⟨fun k hk => ?_, fun k hk => ?_, fun v hv => ?_⟩, fun v hv => hcomb _ _ (hfi _ (hdiv v hv)) (hgi _ (hmod v hv))⟩
  · obtain ⟨x, y, hx, hy, e1, e2⟩ := hval k hk
    simp only [e1, e2]
    have h3 := hcomb y x hy hx
    have e3 : (x : Int) * (M : Int) + (y : Int) = ((y + M * x : Nat) : Int) := by push_cast; rw [Int.mul_comm, Int.add_comm]
    rw [e3]
    exact ⟨by omega, by exact_mod_cast h3⟩
  · obtain ⟨x, y, hx, hy, e1, e2⟩ := hval k hk
    simp only [e1, e2]
    have e3 : (x : Int) * (M : Int) + (y : Int) = ((y + M * x : Nat) : Int) := by push_cast; rw [Int.mul_comm, Int.add_comm]
    rw [e3, Int.toNat_natCast, hcd y x hy, hcm y x hy]
    have h1 := hf.li _ (hmod k hk)
    have h2 := hg.li _ (hdiv k hk)
    rw [e1, Int.toNat_natCast] at h1
    rw [e2, Int.toNat_natCast] at h2
    rw [h1, h2, Nat.mod_add_div]
  · rw [hcm _ _ (hfi _ (hdiv v hv)), hcd _ _ (hfi _ (hdiv v hv)), hf.ri _ (hdiv v hv), hg.ri _ (hmod v hv)]
    have := Nat.div_add_mod v M
    rw [Nat.mul_comm] at this
    exact_mod_cast this
theorem prod_rep {b : Int} : ∀ n : Nat, prodL (List.replicate n b) = b ^ n
  | 0 => by simp [prodL]
  | n + 1 => by rw [List.replicate_succ, prodL, prod_rep n, Int.pow_succ']
end Go.Proofs.YthbhkkdaaipngaaGreatDoor.Sim
end
