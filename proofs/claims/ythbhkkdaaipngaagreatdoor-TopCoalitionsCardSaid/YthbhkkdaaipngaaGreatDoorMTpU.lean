/- Sorting few elements, and what comes once: contracts. -/
import Derived.Test.YthbhkkdaaipngaaGreatDoorMTpM
import Derived.Test.YthbhkkdaaipngaaGreatDoorMLibI
section
namespace Go.Proofs.YthbhkkdaaipngaaGreatDoor.Sim
open Go Go.RowKit Go.Deep
set_option maxRecDepth 100000
set_option maxHeartbeats 4000000
set_option linter.unusedVariables false
set_option linter.unusedSimpArgs false
attribute [local irreducible] Go Mean
theorem isNaNT (x : Int) : Does Tryz.prog 86 [I x] [] (B false) [] [] := by
  refine go_cmp_isNaN_int rfl BxOK.nil fun cx hm0 => go_in 5000 ?_
  unfold ac_cmp_isNaN_int rs_cmp_isNaN_int
  have q : (x != x) = false := by simp
  repeat' (first | simp (maxSteps := 9999999) only [↓GE, PL, PP, EE, QQ, seval, q] | (simp (disch := omega) only [IntWalk.i64_in]) | (refine go_brD (fun h => ?_) (fun h => ?_)) | (refine go_gsD aE (fun h => ?_) (fun h => ?_)) | (refine go_br (fun h => ?_) (fun h => ?_)) | (refine go_gs aE (fun h => ?_) (fun h => ?_)) | (with_reducible apply And.intro) | exact aG | fail)
  all_goals ((first | apply ret_mk [] | apply end_mk []); (· exact aR); (· exact aZ); all_goals exact aF)
theorem lessT (x y : Int) : Does Tryz.prog 65 [I x, I y] [] (B (decide (x < y))) [] [] := by
  refine go_cmp_Less_int rfl BxOK.nil fun cx hm0 => go_in 5000 ?_
  unfold ac_cmp_Less_int rs_cmp_Less_int
  have e1 := isNaNT x
  repeat' (first | simp (maxSteps := 9999999) only [↓GE, PL, PP, EE, QQ, seval] | (simp (disch := omega) only [IntWalk.i64_in]) | (refine go_brD (fun h => ?_) (fun h => ?_)) | (refine go_gsD aE (fun h => ?_) (fun h => ?_)) | (refine go_br (fun h => ?_) (fun h => ?_)) | (refine go_gs aE (fun h => ?_) (fun h => ?_)) | (apply go_call 5000 (e1) rfl rfl; iterate 4 (first | (exact CallForm.plain rfl) | exact aC)) | (with_reducible apply And.intro) | exact aG | fail)
  all_goals ((first | apply ret_mk [] | apply end_mk []); (· exact aR); (· exact aZ); all_goals exact aF)
/-- Element j sinks. -/
def swpL (l : List Int) (j : Nat) : List Int := (l.set (j + 1) (l.getD j 0)).set j (l.getD (j + 1) 0)
def sink : Nat → List Int → List Int
  | 0, l => l
  | j + 1, l => if l.getD (j + 1) 0 < l.getD j 0 then sink j (swpL l j) else l
theorem swpL_len {l : List Int} {j : Nat} : (swpL l j).length = l.length := by simp [swpL]
theorem sink_len : ∀ {j : Nat} {l : List Int}, (sink j l).length = l.length
  | 0, _ => rfl
  | j + 1, l => by
    rw [sink]
    split
    · rw [sink_len, swpL_len]
    · rfl
/-- The first i + 1 elements are in order. -/
def sorts (l : List Int) : Nat → List Int
  | 0 => l
  | i + 1 => sink (i + 1) (sorts l i)
theorem sorts_len {l : List Int} : ∀ {i : Nat}, (sorts l i).length = l.length
  | 0 => rfl
  | i + 1 => by rw [sorts, sink_len, sorts_len]
theorem insertT (l : List Int) (hl : l.length ≤ 1000) (hl1 : 1 ≤ l.length) : Does Tryz.prog 59 [.og 900000 0, I 0, I l.length] [(900000, .arr 0 1 true (l.map eI))] (.tu []) [(900000, .arr 0 1 true ((sorts l (l.length - 1)).map eI))] [] := by
  refine go_slices_insertionSortOrdered_int rfl ⟨rfl, by simp⟩ fun cx hm0 => go_in 5000 ?_
  unfold ac_slices_insertionSortOrdered_int rs_slices_insertionSortOrdered_int
  repeat' (first | simp (maxSteps := 9999999) only [↓GE, PL, PP, EE, QQ, seval] | (simp (disch := omega) only [IntWalk.i64_in]) | (refine go_brD (fun h => ?_) (fun h => ?_)) | (refine go_gsD aE (fun h => ?_) (fun h => ?_)) | (refine go_br (fun h => ?_) (fun h => ?_)) | (refine go_gs aE (fun h => ?_) (fun h => ?_)) | (with_reducible apply And.intro) | exact aG | fail)
  refine go_loop 5000 hm0 (ι := {i : Nat // i + 1 ≤ l.length}) (fun i => [(0, .og 900000 0), (1, I 0), (2, I l.length), (6, I (i.1 + 1 : Nat))]) (fun i => [(900000, .arr 0 1 true ((sorts l i.1).map eI))]) (fun i => l.length - i.1) [] ⟨0, hl1⟩ ?_ ?_
  · (simp only [GeS]; refine ⟨?_, ?_, ?_, ?_⟩; all_goals (repeat' (first | (with_reducible exact True.intro) | (with_reducible rfl) | simp only [XC, ↓reduceIte, seval] | (with_reducible apply And.intro) | (refine ⟨_, rfl, ?_⟩) | (simp [sorts]; done) | exact aS | fail)))
  · rintro ⟨i, hi⟩
    simp only
    have hsl := sorts_len (l := l) (i := i)
    by_cases hil : i + 1 < l.length
    · have q1 : decide (((i + 1 : Nat) : Int) < (l.length : Int)) = true := decide_eq_true (by omega)
      have w1 : IntKind.i64.wrap (((i + 1 : Nat) : Int) + 1) = ((i + 1 + 1 : Nat) : Int) := by rw [IntWalk.i64_in _ (by omega)]; omega
      repeat' (first | simp (maxSteps := 9999999) only [↓GE, PL, PP, EE, QQ, seval, q1, w1] | (simp (disch := omega) only [IntWalk.i64_in]) | (refine go_brD (fun h => ?_) (fun h => ?_)) | (refine go_gsD aE (fun h => ?_) (fun h => ?_)) | (refine go_br (fun h => ?_) (fun h => ?_)) | (refine go_gs aE (fun h => ?_) (fun h => ?_)) | (with_reducible apply And.intro) | exact aG | fail)
      refine go_loop 5000 hm0 (ι := {q : Nat × List Int // q.1 ≤ i + 1 ∧ q.2.length = l.length ∧ sink q.1 q.2 = sorts l (i + 1)}) (fun q => [(0, .og 900000 0), (1, I 0), (2, I l.length), (6, I (i + 1 : Nat)), (7, I q.1.1)]) (fun q => [(900000, .arr 0 1 true (q.1.2.map eI))]) (fun q => q.1.1) [] ⟨(i + 1, sorts l i), Nat.le_refl _, hsl, rfl⟩ ?_ ?_
      · exact aH
      · rintro ⟨⟨j, L⟩, hj, hL, hv⟩
        simp only at hj hL hv ⊢
        cases j with
        | zero =>
          simp only [sink] at hv
          have q2 : decide ((0 : Int) < ((0 : Nat) : Int)) = false := rfl
          rw [hv]
          repeat' (first | simp (maxSteps := 9999999) only [↓GE, PL, PP, EE, QQ, seval, q2, w1] | (simp (disch := omega) only [IntWalk.i64_in]) | (refine go_brD (fun h => ?_) (fun h => ?_)) | (refine go_gsD aE (fun h => ?_) (fun h => ?_)) | (refine go_br (fun h => ?_) (fun h => ?_)) | (refine go_gs aE (fun h => ?_) (fun h => ?_)) | (with_reducible apply And.intro) | exact aG | fail)
          refine ⟨⟨i + 1, by omega⟩, ?_, by simp only; omega⟩
          exact aH
        | succ j =>
          have q2 : decide ((0 : Int) < ((j + 1 : Nat) : Int)) = true := decide_eq_true (by omega)
          have w2 : IntKind.i64.wrap (((j + 1 : Nat) : Int) - 1) = (j : Int) := by rw [IntWalk.i64_in _ (by omega)]; omega
          have hs1 := getD_map eI [] 0 L (j + 1) (by omega)
          have hs2 := getD_map eI [] 0 L j (by omega)
          have hl1' : j + 1 < L.length := by omega
          have hl2' : j < L.length := by omega
          have e1 := lessT (L.getD (j + 1) 0) (L.getD j 0)
          rw [sink] at hv
          by_cases hlt : L.getD (j + 1) 0 < L.getD j 0
          · rw [if_pos hlt] at hv
            rw [decide_eq_true hlt] at e1
            have hsw : (swpL L j).map eI = ((L.map eI).set (j + 1) (eI (L.getD j 0))).set j (eI (L.getD (j + 1) 0)) := by rw [swpL, List.map_set, List.map_set]
            have hs3 : ((L.map eI).set (j + 1) [D.at (Value.int IntKind.i64 (L.getD j 0))]).getD j [] = [D.at (Value.int IntKind.i64 (L.getD j 0))] := by
              rw [List.getD_eq_getElem?_getD, List.getElem?_set, if_neg (by omega), ← List.getD_eq_getElem?_getD, hs2]; rfl
            repeat' (first | simp (maxSteps := 9999999) only [↓GE, PL, PP, EE, QQ, seval, q2, w1, w2, hs1, hs2, hs3, hl1', hl2', eI, List.length_map, List.length_set] | (simp (disch := omega) only [IntWalk.i64_in]) | (refine go_brD (fun h => ?_) (fun h => ?_)) | (refine go_gsD aE (fun h => ?_) (fun h => ?_)) | (refine go_br (fun h => ?_) (fun h => ?_)) | (refine go_gs aE (fun h => ?_) (fun h => ?_)) | (apply go_call 5000 (e1) rfl rfl; iterate 4 (first | (exact CallForm.plain rfl) | exact aC)) | (with_reducible apply And.intro) | exact aG | fail)
            refine ⟨⟨(j, swpL L j), by omega, by rw [swpL_len]; exact hL, hv⟩, ?_, by simp only; omega⟩
            (simp only [GeS]; refine ⟨?_, ?_, ?_, ?_⟩; all_goals (repeat' (first | (with_reducible exact True.intro) | (with_reducible rfl) | simp only [XC, ↓reduceIte, seval] | (with_reducible apply And.intro) | (refine ⟨_, rfl, ?_⟩) | (simp [hsw, eI]; done) | exact aS | fail)))
          · rw [if_neg hlt] at hv
            rw [decide_eq_false hlt] at e1
            rw [hv] at hs1 hs2 hl1' hl2' e1
            rw [hv]
            repeat' (first | simp (maxSteps := 9999999) only [↓GE, PL, PP, EE, QQ, seval, q2, w1, w2, hs1, hs2, hl1', hl2', eI, List.length_map, List.length_set] | (simp (disch := omega) only [IntWalk.i64_in]) | (refine go_brD (fun h => ?_) (fun h => ?_)) | (refine go_gsD aE (fun h => ?_) (fun h => ?_)) | (refine go_br (fun h => ?_) (fun h => ?_)) | (refine go_gs aE (fun h => ?_) (fun h => ?_)) | (apply go_call 5000 (e1) rfl rfl; iterate 4 (first | (exact CallForm.plain rfl) | exact aC)) | (with_reducible apply And.intro) | exact aG | fail)
            refine ⟨⟨i + 1, by omega⟩, ?_, by simp only; omega⟩
            exact aH
    · obtain rfl : i = l.length - 1 := by omega
      have q1 : decide (((l.length - 1 + 1 : Nat) : Int) < (l.length : Int)) = false := decide_eq_false (by omega)
      repeat' (first | simp (maxSteps := 9999999) only [↓GE, PL, PP, EE, QQ, seval, q1] | (simp (disch := omega) only [IntWalk.i64_in]) | (refine go_brD (fun h => ?_) (fun h => ?_)) | (refine go_gsD aE (fun h => ?_) (fun h => ?_)) | (refine go_br (fun h => ?_) (fun h => ?_)) | (refine go_gs aE (fun h => ?_) (fun h => ?_)) | (with_reducible apply And.intro) | exact aG | fail)
      ((first | apply ret_mk [] | apply end_mk []); (· exact aR); (· exact aZ); all_goals exact aF)
theorem pdqT (l : List Int) (lim : Int) (hl : l.length ≤ 12) (hl1 : 1 ≤ l.length) : Does Tryz.prog 51 [.og 900000 0, I 0, I l.length, I lim] [(900000, .arr 0 1 true (l.map eI))] (.tu []) [(900000, .arr 0 1 true ((sorts l (l.length - 1)).map eI))] [] := by
  refine go_slices_pdqsortOrdered_int rfl ⟨rfl, by simp⟩ fun cx hm0 => go_in 5000 ?_
  unfold ac_slices_pdqsortOrdered_int rs_slices_pdqsortOrdered_int
  repeat' (first | simp (maxSteps := 9999999) only [↓GE, PL, PP, EE, QQ, seval] | (simp (disch := omega) only [IntWalk.i64_in]) | (refine go_brD (fun h => ?_) (fun h => ?_)) | (refine go_gsD aE (fun h => ?_) (fun h => ?_)) | (refine go_br (fun h => ?_) (fun h => ?_)) | (refine go_gs aE (fun h => ?_) (fun h => ?_)) | (with_reducible apply And.intro) | exact aG | fail)
  refine go_loop 5000 hm0 (ι := Unit) (fun _ => [(0, .og 900000 0), (1, I 0), (2, I l.length), (3, I lim)]) (fun _ => [(900000, .arr 0 1 true (l.map eI))]) (fun _ => 0) [] () ?_ ?_
  · exact aH
  · rintro ⟨⟩
    have w1 : IntKind.i64.wrap ((l.length : Int) - 0) = (l.length : Int) := by rw [IntWalk.i64_in _ (by omega)]; omega
    have w2 : IntKind.i64.wrap (l.length : Int) = (l.length : Int) := IntWalk.i64_in _ (by omega)
    have q1 : decide ((l.length : Int) ≤ 12) = true := decide_eq_true (by omega)
    have e1 := insertT l (by omega) hl1
    repeat' (first | simp (maxSteps := 9999999) only [↓GE, PL, PP, EE, QQ, seval, w1, w2, q1, Int.sub_zero] | (simp (disch := omega) only [IntWalk.i64_in]) | (refine go_brD (fun h => ?_) (fun h => ?_)) | (refine go_gsD aE (fun h => ?_) (fun h => ?_)) | (refine go_br (fun h => ?_) (fun h => ?_)) | (refine go_gs aE (fun h => ?_) (fun h => ?_)) | (apply go_call 5000 (e1) rfl rfl; iterate 4 (first | (exact CallForm.lent aL rfl rfl) | exact aC)) | (with_reducible apply And.intro) | exact aG | fail)
    all_goals ((first | apply ret_mk [] | apply end_mk []); (· exact aR); (· exact aZ); all_goals exact aF)
end Go.Proofs.YthbhkkdaaipngaaGreatDoor.Sim
end
section
namespace Go.Proofs.YthbhkkdaaipngaaGreatDoor.Sim
open Go Go.RowKit Go.Deep
set_option maxRecDepth 100000
set_option maxHeartbeats 4000000
set_option linter.unusedVariables false
set_option linter.unusedSimpArgs false
attribute [local irreducible] Go Mean
def len64F (n : Nat) : Int := ([0, 1, 2, 2, 3, 3, 3, 3, 4, 4, 4, 4, 4] : List Int).getD n 0
theorem u8w : IntKind.u8.wrap 0 = 0 ∧ IntKind.u8.wrap 1 = 1 ∧ IntKind.u8.wrap 2 = 2 ∧ IntKind.u8.wrap 3 = 3 ∧ IntKind.u8.wrap 4 = 4 ∧ IntKind.u8.wrap 5 = 5 ∧ IntKind.u8.wrap 6 = 6 ∧ IntKind.u8.wrap 7 = 7 ∧ IntKind.u8.wrap 8 = 8 ∧ IntKind.u8.wrap 9 = 9 ∧ IntKind.u8.wrap 10 = 10 ∧ IntKind.u8.wrap 11 = 11 ∧ IntKind.u8.wrap 12 = 12 := by decide
theorem len64 (n : Nat) (hn : n ≤ 12) : Does Tryz.prog 69 [.d (.at (.int .u64 n))] [] (I (len64F n)) [] [] := by
  refine go_math_bits_Len64 rfl BxOK.nil fun cx hm0 => go_in 5000 ?_
  unfold ac_math_bits_Len64 rs_math_bits_Len64
  have h : n = 0 ∨ n = 1 ∨ n = 2 ∨ n = 3 ∨ n = 4 ∨ n = 5 ∨ n = 6 ∨ n = 7 ∨ n = 8 ∨ n = 9 ∨ n = 10 ∨ n = 11 ∨ n = 12 := by omega
  rcases h with rfl | rfl | rfl | rfl | rfl | rfl | rfl | rfl | rfl | rfl | rfl | rfl | rfl
  all_goals
    repeat' (first | simp (maxSteps := 9999999) only [↓GE, PL, PP, EE, QQ, seval, u8w] | (simp (disch := omega) only [IntWalk.i64_in]) | (refine go_brD (fun h => ?_) (fun h => ?_)) | (refine go_gsD aE (fun h => ?_) (fun h => ?_)) | (refine go_br (fun h => ?_) (fun h => ?_)) | (refine go_gs aE (fun h => ?_) (fun h => ?_)) | (with_reducible apply And.intro) | exact aG | fail)
    ((first | apply ret_mk [] | apply end_mk []); (· exact aR); (· ((try simp only [CC, LL, EE, QQ, seval]) <;> repeat' (first | exact aD | (with_reducible apply And.intro) | (simp [*, len64F]; done) | (simp [*, len64F]; omega) | (simp_all [len64F]; done) | (simp_all [len64F]; omega)))); all_goals (first | ((try simp only [CC, LL, EE, QQ, seval]) <;> (repeat' (first | (with_reducible apply And.intro) | trivial | rfl | (simp [len64F]; done))); done) | exact aF))
theorem lenT (n : Nat) (hn : n ≤ 12) : Does Tryz.prog 52 [.d (.at (.int .u64 n))] [] (I (len64F n)) [] [] := by
  refine go_math_bits_Len rfl BxOK.nil fun cx hm0 => go_in 5000 ?_
  unfold ac_math_bits_Len rs_math_bits_Len
  have e1 := len64 n hn
  repeat' (first | simp (maxSteps := 9999999) only [↓GE, PL, PP, EE, QQ, seval] | (simp (disch := omega) only [IntWalk.i64_in]) | (refine go_brD (fun h => ?_) (fun h => ?_)) | (refine go_gsD aE (fun h => ?_) (fun h => ?_)) | (refine go_br (fun h => ?_) (fun h => ?_)) | (refine go_gs aE (fun h => ?_) (fun h => ?_)) | (apply go_call 5000 (e1) rfl rfl; iterate 4 (first | (exact CallForm.plain rfl) | exact aC)) | (with_reducible apply And.intro) | exact aG | fail)
  all_goals ((first | apply ret_mk [] | apply end_mk []); (· exact aR); (· exact aZ); all_goals exact aF)
theorem sortT (l : List Int) (hl : l.length ≤ 12) (hl1 : 1 ≤ l.length) : Does Tryz.prog 44 [.og 900000 0] [(900000, .arr 0 1 true (l.map eI))] (.tu []) [(900000, .arr 0 1 true ((sorts l (l.length - 1)).map eI))] [] := by
  refine go_slices_Sort_int_int rfl ⟨rfl, by simp⟩ fun cx hm0 => go_in 5000 ?_
  unfold ac_slices_Sort_int_int rs_slices_Sort_int_int
  have w1 : IntKind.u64.wrap (l.length : Int) = (l.length : Int) := IntWalk.u64_in _ (by omega)
  have e1 := lenT l.length hl
  have e2 := pdqT l (len64F l.length) hl hl1
  repeat' (first | simp (maxSteps := 9999999) only [↓GE, PL, PP, EE, QQ, seval, w1, List.length_map] | (simp (disch := omega) only [IntWalk.i64_in]) | (refine go_brD (fun h => ?_) (fun h => ?_)) | (refine go_gsD aE (fun h => ?_) (fun h => ?_)) | (refine go_br (fun h => ?_) (fun h => ?_)) | (refine go_gs aE (fun h => ?_) (fun h => ?_)) | (apply go_call 5000 (e1) rfl rfl; iterate 4 (first | (exact CallForm.plain rfl) | exact aC)) | (apply go_call 5000 (e2) rfl rfl; iterate 4 (first | (exact CallForm.lent aL rfl rfl) | exact aC)) | (with_reducible apply And.intro) | exact aG | fail)
  all_goals ((first | apply ret_mk [] | apply end_mk []); (· exact aR); (· exact aZ); all_goals exact aF)
theorem insert0 : Does Tryz.prog 59 [.og 900000 0, I 0, I 0] [(900000, .arr 0 1 true [])] (.tu []) [(900000, .arr 0 1 true [])] [] := by
  refine go_slices_insertionSortOrdered_int rfl ⟨rfl, by simp⟩ fun cx hm0 => go_in 5000 ?_
  unfold ac_slices_insertionSortOrdered_int rs_slices_insertionSortOrdered_int
  repeat' (first | simp (maxSteps := 9999999) only [↓GE, PL, PP, EE, QQ, seval] | (simp (disch := omega) only [IntWalk.i64_in]) | (refine go_brD (fun h => ?_) (fun h => ?_)) | (refine go_gsD aE (fun h => ?_) (fun h => ?_)) | (refine go_br (fun h => ?_) (fun h => ?_)) | (refine go_gs aE (fun h => ?_) (fun h => ?_)) | (with_reducible apply And.intro) | exact aG | fail)
  refine go_loop 5000 hm0 (ι := Unit) (fun _ => [(0, .og 900000 0), (1, I 0), (2, I 0), (6, I 1)]) (fun _ => [(900000, .arr 0 1 true [])]) (fun _ => 0) [] () ?_ ?_
  · exact aH
  · rintro ⟨⟩
    have q : decide ((1 : Int) < 0) = false := rfl
    repeat' (first | simp (maxSteps := 9999999) only [↓GE, PL, PP, EE, QQ, seval, q] | (simp (disch := omega) only [IntWalk.i64_in]) | (refine go_brD (fun h => ?_) (fun h => ?_)) | (refine go_gsD aE (fun h => ?_) (fun h => ?_)) | (refine go_br (fun h => ?_) (fun h => ?_)) | (refine go_gs aE (fun h => ?_) (fun h => ?_)) | (with_reducible apply And.intro) | exact aG | fail)
    ((first | apply ret_mk [] | apply end_mk []); (· exact aR); (· exact aZ); all_goals exact aF)
theorem pdq0 (lim : Int) : Does Tryz.prog 51 [.og 900000 0, I 0, I 0, I lim] [(900000, .arr 0 1 true [])] (.tu []) [(900000, .arr 0 1 true [])] [] := by
  refine go_slices_pdqsortOrdered_int rfl ⟨rfl, by simp⟩ fun cx hm0 => go_in 5000 ?_
  unfold ac_slices_pdqsortOrdered_int rs_slices_pdqsortOrdered_int
  repeat' (first | simp (maxSteps := 9999999) only [↓GE, PL, PP, EE, QQ, seval] | (simp (disch := omega) only [IntWalk.i64_in]) | (refine go_brD (fun h => ?_) (fun h => ?_)) | (refine go_gsD aE (fun h => ?_) (fun h => ?_)) | (refine go_br (fun h => ?_) (fun h => ?_)) | (refine go_gs aE (fun h => ?_) (fun h => ?_)) | (with_reducible apply And.intro) | exact aG | fail)
  refine go_loop 5000 hm0 (ι := Unit) (fun _ => [(0, .og 900000 0), (1, I 0), (2, I 0), (3, I lim)]) (fun _ => [(900000, .arr 0 1 true [])]) (fun _ => 0) [] () ?_ ?_
  · exact aH
  · rintro ⟨⟩
    have w1 : IntKind.i64.wrap ((0 : Int) - 0) = 0 := by decide
    have q1 : decide ((0 : Int) ≤ 12) = true := rfl
    repeat' (first | simp (maxSteps := 9999999) only [↓GE, PL, PP, EE, QQ, seval, w1, q1, Int.sub_zero] | (simp (disch := omega) only [IntWalk.i64_in]) | (refine go_brD (fun h => ?_) (fun h => ?_)) | (refine go_gsD aE (fun h => ?_) (fun h => ?_)) | (refine go_br (fun h => ?_) (fun h => ?_)) | (refine go_gs aE (fun h => ?_) (fun h => ?_)) | (apply go_call 5000 (insert0) rfl rfl; iterate 4 (first | (exact CallForm.lent aL rfl rfl) | exact aC)) | (with_reducible apply And.intro) | exact aG | fail)
    all_goals ((first | apply ret_mk [] | apply end_mk []); (· exact aR); (· exact aZ); all_goals exact aF)
theorem sort0 : Does Tryz.prog 44 [.og 900000 0] [(900000, .arr 0 1 true [])] (.tu []) [(900000, .arr 0 1 true [])] [] := by
  refine go_slices_Sort_int_int rfl ⟨rfl, by simp⟩ fun cx hm0 => go_in 5000 ?_
  unfold ac_slices_Sort_int_int rs_slices_Sort_int_int
  have w1 : IntKind.u64.wrap 0 = 0 := IntWalk.u64_in _ (by omega)
  have e1 := lenT 0 (by omega)
  have e2 := pdq0 (len64F 0)
  repeat' (first | simp (maxSteps := 9999999) only [↓GE, PL, PP, EE, QQ, seval, w1, List.length_map] | (simp (disch := omega) only [IntWalk.i64_in]) | (refine go_brD (fun h => ?_) (fun h => ?_)) | (refine go_gsD aE (fun h => ?_) (fun h => ?_)) | (refine go_br (fun h => ?_) (fun h => ?_)) | (refine go_gs aE (fun h => ?_) (fun h => ?_)) | (apply go_call 5000 (e1) rfl rfl; iterate 4 (first | (exact CallForm.plain rfl) | exact aC)) | (apply go_call 5000 (e2) rfl rfl; iterate 4 (first | (exact CallForm.lent aL rfl rfl) | exact aC)) | (with_reducible apply And.intro) | exact aG | fail)
  all_goals ((first | apply ret_mk [] | apply end_mk []); (· exact aR); (· exact aZ); all_goals exact aF)
/-- A few elements in order. -/
def sortF (l : List Int) : List Int := sorts l (l.length - 1)
theorem sortA (l : List Int) (hl : l.length ≤ 12) : Does Tryz.prog 44 [.og 900000 0] [(900000, .arr 0 1 true (l.map eI))] (.tu []) [(900000, .arr 0 1 true ((sortF l).map eI))] [] := by
  cases l with
  | nil => exact sort0
  | cons x r => exact sortT _ hl (by simp)
theorem compactT (l : List Int) (hl : l.length ≤ 1000000) (ho : ∀ i, i + 1 < l.length → l.getD (i + 1) 0 ≠ l.getD i 0) : Does Tryz.prog 45 [.d (dInts l)] [] (.d (dInts l)) [] [] := by
  refine go_slices_Compact_int_int rfl BxOK.nil fun cx hm0 => go_in 5000 ?_
  unfold ac_slices_Compact_int_int rs_slices_Compact_int_int
  by_cases h2 : l.length < 2
  · have q1 : decide ((l.length : Int) < 2) = true := decide_eq_true (by omega)
    repeat' (first | simp (maxSteps := 9999999) only [↓GE, PL, PP, EE, QQ, seval, q1, List.length_map] | (simp (disch := omega) only [IntWalk.i64_in]) | (refine go_brD (fun h => ?_) (fun h => ?_)) | (refine go_gsD aE (fun h => ?_) (fun h => ?_)) | (refine go_br (fun h => ?_) (fun h => ?_)) | (refine go_gs aE (fun h => ?_) (fun h => ?_)) | (with_reducible apply And.intro) | exact aG | fail)
    all_goals ((first | apply ret_mk [] | apply end_mk []); (· exact aR); (· exact aZ); all_goals exact aF)
  · have q1 : decide ((l.length : Int) < 2) = false := decide_eq_false (by omega)
    repeat' (first | simp (maxSteps := 9999999) only [↓GE, PL, PP, EE, QQ, seval, q1, List.length_map] | (simp (disch := omega) only [IntWalk.i64_in]) | (refine go_brD (fun h => ?_) (fun h => ?_)) | (refine go_gsD aE (fun h => ?_) (fun h => ?_)) | (refine go_br (fun h => ?_) (fun h => ?_)) | (refine go_gs aE (fun h => ?_) (fun h => ?_)) | (with_reducible apply And.intro) | exact aG | fail)
    refine go_loop 5000 hm0 (ι := {k : Nat // 1 ≤ k ∧ k ≤ l.length}) (fun k => [(0, .d (dInts l)), (3, I k.1)]) (fun k => []) (fun k => l.length - k.1) [] ⟨1, by omega⟩ ?_ ?_
    · exact aH
    · rintro ⟨k, hk1, hk⟩
      simp only
      by_cases hkl : k < l.length
      · have q2 : decide ((k : Int) < (l.length : Int)) = true := decide_eq_true (by omega)
        have w1 : IntKind.i64.wrap ((k : Int) + 1) = ((k + 1 : Nat) : Int) := by rw [IntWalk.i64_in _ (by omega)]; omega
        have w2 : IntKind.i64.wrap ((k : Int) - 1) = ((k - 1 : Nat) : Int) := by rw [IntWalk.i64_in _ (by omega)]; omega
        have hs := getD_map eI [] 0 l k hkl
        have hs2 := getD_map eI [] 0 l (k - 1) (by omega)
        have hlt : k - 1 < l.length := by omega
        have hne := ho (k - 1) (by omega)
        rw [show k - 1 + 1 = k by omega] at hne
        have q3 : (l.getD k 0 == l.getD (k - 1) 0) = false := by simpa using hne
        repeat' (first | simp (maxSteps := 9999999) only [↓GE, PL, PP, EE, QQ, seval, q2, q3, w1, w2, hs, hs2, hkl, hlt, eI, List.length_map, Int.toNat_natCast] | (simp (disch := omega) only [IntWalk.i64_in]) | (refine go_brD (fun h => ?_) (fun h => ?_)) | (refine go_gsD aE (fun h => ?_) (fun h => ?_)) | (refine go_br (fun h => ?_) (fun h => ?_)) | (refine go_gs aE (fun h => ?_) (fun h => ?_)) | (with_reducible apply And.intro) | exact aG | fail)
        refine ⟨⟨k + 1, by omega, hkl⟩, ?_, by simp only; omega⟩
        exact aH
      · obtain rfl : k = l.length := by omega
        have q2 : decide ((l.length : Int) < (l.length : Int)) = false := decide_eq_false (by omega)
        repeat' (first | simp (maxSteps := 9999999) only [↓GE, PL, PP, EE, QQ, seval, q2] | (simp (disch := omega) only [IntWalk.i64_in]) | (refine go_brD (fun h => ?_) (fun h => ?_)) | (refine go_gsD aE (fun h => ?_) (fun h => ?_)) | (refine go_br (fun h => ?_) (fun h => ?_)) | (refine go_gs aE (fun h => ?_) (fun h => ?_)) | (with_reducible apply And.intro) | exact aG | fail)
        ((first | apply ret_mk [] | apply end_mk []); (· exact aR); (· exact aZ); all_goals exact aF)
end Go.Proofs.YthbhkkdaaipngaaGreatDoor.Sim
end
