/- Views in the document: parts, bytes. -/
import Derived.Test.YtihjmnhjjpdenaaMVwX
namespace Go.Proofs.Ytihjmnhjjpdenaa.Sim
open Go Go.RowKit
set_option maxRecDepth 100000
set_option maxHeartbeats 8000000
set_option linter.unusedVariables false
set_option linter.unusedSimpArgs false
attribute [local irreducible] Go Mean
open Go.Proofs.Ytihjmnhjjpdenaa.Vw (flatQ)
open Go.Proofs.Ytihjmnhjjpdenaa.Wire (putB putL putB_len)
theorem pk1_idx_len {sv l : List Int} {pr : List (List Int)} (h : allIn sv l = true) (hp : pr.length = sv.length) : ∀ i ∈ idxs sv l, 0 ≤ i ∧ i < pr.length := by
  intro i hi
  obtain ⟨x, hx, rfl⟩ := List.mem_map.1 hi
  have := List.all_eq_true.1 h x hx
  simp only [decide_eq_true_eq] at this
  omega
def pksF (pr : List (List Int)) (ix : List Int) (j : Nat) : List (List D) := ((ix.take j).map (pk1 pr)).map eR
theorem pksF_zero (pr : List (List Int)) (ix : List Int) : pksF pr ix 0 = [] := rfl
theorem pksF_len {pr : List (List Int)} {ix : List Int} {j : Nat} (h : j ≤ ix.length) : (pksF pr ix j).length = j := by rw [pksF, List.length_map, List.length_map, List.length_take]; omega
theorem part25 (sv : List Int) (qs : List (List (List Int))) (l : List Int) (hs : sv.length ≤ 1000) (hq : smQ qs) (hl : l.length ≤ 1000) :
    Does Try.prog 20 [vView sv qs, .d (dInts l)] [] (.tu [vView (if okPart sv qs l = true then l else []) (if okPart sv qs l = true then partQ sv qs l else []), B (okPart sv qs l)]) [] [] := by
  refine go_ref25_Part rfl BxOK.nil fun cx hm0 => go_in 5000 ?_
  unfold ac_ref25_Part rs_ref25_Part
  have e1 := rising25 l hl
  have hq1 := hq.1
  cases ha : asc l with
  | false =>
    rw [ha] at e1
    have h1 : okPart sv qs l = false := by rw [okPart, ha, Bool.false_and]
    repeat' (first | simp (maxSteps := 9999999) only [↓GE, PL, PP, EE, QQ, seval] | (simp (disch := omega) only [IntWalk.i64_in]) | (refine go_brD (fun h => ?_) (fun h => ?_)) | (refine go_gsD (by ((try simp only [EE, QQ, seval]) <;> rfl)) (fun h => ?_) (fun h => ?_)) | (refine go_br (fun h => ?_) (fun h => ?_)) | (refine go_gs (by ((try simp only [EE, QQ, seval]) <;> rfl)) (fun h => ?_) (fun h => ?_)) | (apply go_call 5000 (e1) rfl rfl; iterate 4 (first | (exact CallForm.plain rfl) | ((try simp only [CC, LL, NM, EE, QQ, seval]) <;> (first | rfl | ((repeat constructor); done))))) | (with_reducible apply And.intro) | (with_reducible exact trivial) | omega | (simp only [List.length_map, List.length_cons, List.length_nil] at *; omega) | (show _ = true; first | rfl | kernel_rfl))
    all_goals ((first | apply ret_mk [] | apply end_mk []); (· ((try simp only [CC, LL, EE, QQ, seval]) <;> rfl)); (· ((try simp only [CC, LL, EE, QQ, seval]) <;> repeat' (first | (with_reducible apply And.intro) | rfl | trivial | (exact ⟨_, rfl⟩) | (exact ⟨_, _, _, rfl⟩) | (simp [*, h1]; done) | (simp [*, h1]; omega) | (simp_all [h1]; done) | (simp_all [h1]; omega)))); all_goals (first | trivial | decide | ((try simp only [CC, LL, EE, QQ, seval]) <;> repeat' (first | (with_reducible apply And.intro) | (exact ⟨_, rfl, rfl, rfl⟩) | (exact ⟨_, _, _, rfl⟩) | (exact ⟨_, rfl⟩) | trivial | rfl | (simp; done)))))
  | true =>
    rw [ha] at e1
    have h1 : okPart sv qs l = (allIn sv l && qs.all fun pr => decide (pr.length = sv.length)) := by rw [okPart, ha, Bool.true_and]
    repeat' (first | simp (maxSteps := 9999999) only [↓GE, PL, PP, EE, QQ, seval] | (simp (disch := omega) only [IntWalk.i64_in]) | (refine go_brD (fun h => ?_) (fun h => ?_)) | (refine go_gsD (by ((try simp only [EE, QQ, seval]) <;> rfl)) (fun h => ?_) (fun h => ?_)) | (refine go_br (fun h => ?_) (fun h => ?_)) | (refine go_gs (by ((try simp only [EE, QQ, seval]) <;> rfl)) (fun h => ?_) (fun h => ?_)) | (apply go_call 5000 (e1) rfl rfl; iterate 4 (first | (exact CallForm.plain rfl) | ((try simp only [CC, LL, NM, EE, QQ, seval]) <;> (first | rfl | ((repeat constructor); done))))) | (with_reducible apply And.intro) | (with_reducible exact trivial) | omega | (simp only [List.length_map, List.length_cons, List.length_nil] at *; omega) | (show _ = true; first | rfl | kernel_rfl))
    refine go_loop 5000 hm0 (ι := {q : Nat × Nat // q.1 ≤ l.length ∧ allIn sv l = allIn sv (l.drop q.1)}) (fun i => [(1, .d (dInts l)), (2, .bp 2 0 0), (4, .bp 4 0 0), (6, .og 51 i.1.2), (7, I i.1.1)]) (fun i => [(2, .box 0 [.d (dInts sv), .d (dQs qs)]), (4, .box 0 [.nl 1, .nl 1]), (51, .arr i.1.2 1 true ((idxs sv (l.take i.1.1)).map eI))]) (fun i => l.length - i.1.1) [51] ⟨(0, 0), Nat.zero_le _, rfl⟩ ?_ ?_
    · (simp only [GeS]; refine ⟨?_, ?_, ?_, ?_⟩; all_goals (repeat' (first | (with_reducible exact True.intro) | (with_reducible rfl) | simp only [CC, LL, EE, QQ, seval, List.contains_nil, Bool.false_eq_true, ↓reduceIte, Option.some.injEq, O.arr.injEq, true_and, and_true] | (with_reducible apply And.intro) | (refine ⟨_, rfl, ?_⟩) | (simp [idxs]; done) | rfl | omega | trivial)))
    rintro ⟨⟨k, v⟩, hk, hv⟩
    simp only at hk hv
    by_cases hkl : k < l.length
    · have hs2 := getD_map eI [] 0 l k hkl
      have htk := take_succ_getD 0 l k hkl
      have hlk : (idxs sv (l.take k)).length = k := by rw [idxs, List.length_map, List.length_take]; omega
      have hN : (idxs sv (l.take (k + 1))).map eI = (idxs sv (l.take k)).map eI ++ [eI (idxN sv (l.getD k 0))] := by rw [htk, idxs, List.map_append, List.map_append]; rfl
      rw [drop_get 0 _ _ hkl] at hv
      generalize l.getD k 0 = x at *
      simp only [allIn, List.all_cons] at hv
      have hxl := idxN_le sv x
      repeat' (first | simp (maxSteps := 9999999) only [↓GE, PL, PP, EE, QQ, seval, List.length_map] | (simp (disch := omega) only [IntWalk.i64_in]) | (refine go_brD (fun h => ?_) (fun h => ?_)) | (refine go_gsD (by ((try simp only [EE, QQ, seval]) <;> rfl)) (fun h => ?_) (fun h => ?_)) | (refine go_br (fun h => ?_) (fun h => ?_)) | (refine go_gs (by ((try simp only [EE, QQ, seval]) <;> rfl)) (fun h => ?_) (fun h => ?_)) | (with_reducible apply And.intro) | (with_reducible exact trivial) | omega | (simp only [List.length_map, List.length_cons, List.length_nil] at *; omega) | (show _ = true; first | rfl | kernel_rfl))
      refine go_loop 5000 hm0 (ι := {j : Nat // j ≤ sv.length ∧ idxN sv x = j + idxN (sv.drop j) x}) (fun j => [(1, .d (dInts l)), (2, .bp 2 0 0), (4, .bp 4 0 0), (6, .og 51 v), (7, I k), (8, I j.1)]) (fun j => [(2, .box 0 [.d (dInts sv), .d (dQs qs)]), (4, .box 0 [.nl 1, .nl 1]), (51, .arr v 1 true ((idxs sv (l.take k)).map eI))]) (fun j => sv.length - j.1) [] ⟨0, Nat.zero_le _, by rw [List.drop_zero, Nat.zero_add]⟩ ?_ ?_
      · (simp only [GeS]; refine ⟨?_, ?_, ?_, ?_⟩; all_goals (repeat' (first | (with_reducible exact True.intro) | (with_reducible rfl) | simp only [CC, LL, EE, QQ, seval, List.contains_nil, Bool.false_eq_true, ↓reduceIte, Option.some.injEq, O.arr.injEq, true_and, and_true] | (with_reducible apply And.intro) | (refine ⟨_, rfl, ?_⟩) | (simp; done) | rfl | omega | trivial)))
      rintro ⟨j, hj, hw⟩
      by_cases hjl : j < sv.length
      · have hs3 := getD_map eI [] 0 sv j hjl
        rw [drop_get 0 _ _ hjl] at hw
        generalize sv.getD j 0 = y at *
        simp only [idxN] at hw
        have q0 : decide ((j : Int) < (sv.length : Int)) = true := decide_eq_true (by omega)
        by_cases hyx : y = x
        · rw [if_pos hyx, Nat.add_zero] at hw
          have q : (y != x) = false := by rw [hyx]; simp
          have q2 : ((j : Int) == (sv.length : Int)) = false := by rw [beq_eq_false_iff_ne]; omega
          have hlt : idxN sv x < sv.length := by omega
          rw [decide_eq_true hlt, Bool.true_and] at hv
          rw [hw] at hN
          repeat' (first | simp (maxSteps := 9999999) only [↓GE, PL, PP, EE, QQ, seval, hs2, hs3, q0, q, q2, hkl, hjl, hlk, eI, List.length_map] | (simp (disch := omega) only [IntWalk.i64_in]) | (refine go_brD (fun h => ?_) (fun h => ?_)) | (refine go_gsD (by ((try simp only [EE, QQ, seval]) <;> rfl)) (fun h => ?_) (fun h => ?_)) | (refine go_br (fun h => ?_) (fun h => ?_)) | (refine go_gs (by ((try simp only [EE, QQ, seval]) <;> rfl)) (fun h => ?_) (fun h => ?_)) | (with_reducible apply And.intro) | (with_reducible exact trivial) | omega | (simp only [List.length_map, List.length_cons, List.length_nil] at *; omega) | (show _ = true; first | rfl | kernel_rfl))
          refine ⟨⟨(k + 1, v + 1), hkl, hv⟩, ?_, by simp only; omega⟩
          (simp only [GeS]; refine ⟨?_, ?_, ?_, ?_⟩; all_goals (repeat' (first | (with_reducible exact True.intro) | (with_reducible rfl) | simp only [CC, LL, EE, QQ, seval, List.contains_nil, Bool.false_eq_true, ↓reduceIte, Option.some.injEq, O.arr.injEq, true_and, and_true] | (with_reducible apply And.intro) | (refine ⟨_, rfl, ?_⟩) | (simp [hN, eI]; done) | rfl | omega | trivial)))
        · rw [if_neg hyx] at hw
          have q : (y != x) = true := by rw [bne_iff_ne]; exact hyx
          repeat' (first | simp (maxSteps := 9999999) only [↓GE, PL, PP, EE, QQ, seval, hs2, hs3, q0, q, hkl, hjl, eI, List.length_map] | (simp (disch := omega) only [IntWalk.i64_in]) | (refine go_brD (fun h => ?_) (fun h => ?_)) | (refine go_gsD (by ((try simp only [EE, QQ, seval]) <;> rfl)) (fun h => ?_) (fun h => ?_)) | (refine go_br (fun h => ?_) (fun h => ?_)) | (refine go_gs (by ((try simp only [EE, QQ, seval]) <;> rfl)) (fun h => ?_) (fun h => ?_)) | (with_reducible apply And.intro) | (with_reducible exact trivial) | omega | (simp only [List.length_map, List.length_cons, List.length_nil] at *; omega) | (show _ = true; first | rfl | kernel_rfl))
          refine ⟨⟨j + 1, hjl, by omega⟩, ?_, by simp only; omega⟩
          (simp only [GeS]; refine ⟨?_, ?_, ?_, ?_⟩; all_goals (repeat' (first | (with_reducible exact True.intro) | (with_reducible rfl) | simp only [CC, LL, EE, QQ, seval, List.contains_nil, Bool.false_eq_true, ↓reduceIte, Option.some.injEq, O.arr.injEq, true_and, and_true] | (with_reducible apply And.intro) | (refine ⟨_, rfl, ?_⟩) | (simp; done) | rfl | omega | trivial)))
      · obtain rfl : j = sv.length := by omega
        rw [List.drop_length] at hw
        simp only [idxN, Nat.add_zero] at hw
        rw [decide_eq_false (by omega), Bool.false_and] at hv
        have h2 : okPart sv qs l = false := by rw [h1, allIn, hv, Bool.false_and]
        have q0 : decide ((sv.length : Int) < (sv.length : Int)) = false := decide_eq_false (by omega)
        repeat' (first | simp (maxSteps := 9999999) only [↓GE, PL, PP, EE, QQ, seval, q0, List.length_map] | (simp (disch := omega) only [IntWalk.i64_in]) | (refine go_brD (fun h => ?_) (fun h => ?_)) | (refine go_gsD (by ((try simp only [EE, QQ, seval]) <;> rfl)) (fun h => ?_) (fun h => ?_)) | (refine go_br (fun h => ?_) (fun h => ?_)) | (refine go_gs (by ((try simp only [EE, QQ, seval]) <;> rfl)) (fun h => ?_) (fun h => ?_)) | (with_reducible apply And.intro) | (with_reducible exact trivial) | omega | (simp only [List.length_map, List.length_cons, List.length_nil] at *; omega) | (show _ = true; first | rfl | kernel_rfl))
        all_goals ((first | apply ret_mk [] | apply end_mk []); (· ((try simp only [CC, LL, EE, QQ, seval]) <;> rfl)); (· ((try simp only [CC, LL, EE, QQ, seval]) <;> repeat' (first | (with_reducible apply And.intro) | rfl | trivial | (exact ⟨_, rfl⟩) | (exact ⟨_, _, _, rfl⟩) | (simp [*, h2]; done) | (simp [*, h2]; omega) | (simp_all [h2]; done) | (simp_all [h2]; omega)))); all_goals (first | trivial | decide | ((try simp only [CC, LL, EE, QQ, seval]) <;> repeat' (first | (with_reducible apply And.intro) | (exact ⟨_, rfl, rfl, rfl⟩) | (exact ⟨_, _, _, rfl⟩) | (exact ⟨_, rfl⟩) | trivial | rfl | (simp; done)))))
    · obtain rfl : k = l.length := by omega
      rw [List.drop_length] at hv
      simp only [allIn, List.all_nil] at hv
      have hv' : allIn sv l = true := hv
      rw [hv', Bool.true_and] at h1
      have hil : (idxs sv l).length = l.length := by rw [idxs, List.length_map]
      have htl : idxs sv (l.take l.length) = idxs sv l := by rw [List.take_length]
      repeat' (first | simp (maxSteps := 9999999) only [↓GE, PL, PP, EE, QQ, seval, htl, List.length_map, List.nil_append] | (simp (disch := omega) only [IntWalk.i64_in]) | (refine go_brD (fun h => ?_) (fun h => ?_)) | (refine go_gsD (by ((try simp only [EE, QQ, seval]) <;> rfl)) (fun h => ?_) (fun h => ?_)) | (refine go_br (fun h => ?_) (fun h => ?_)) | (refine go_gs (by ((try simp only [EE, QQ, seval]) <;> rfl)) (fun h => ?_) (fun h => ?_)) | (with_reducible apply And.intro) | (with_reducible exact trivial) | omega | (simp only [List.length_map, List.length_cons, List.length_nil] at *; omega) | (show _ = true; first | rfl | kernel_rfl))
      refine go_loop 5000 hm0 (ι := {q : Nat × Nat // q.1 ≤ qs.length ∧ (qs.all fun pr => decide (pr.length = sv.length)) = ((qs.drop q.1).all fun pr => decide (pr.length = sv.length))}) (fun i => [(2, .bp 2 0 0), (4, .bp 4 0 0), (6, .og 51 v), (9, .bp 9 0 0), (10, I i.1.1)]) (fun i => [(2, .box 0 [.d (dInts sv), .d (dQs qs)]), (4, .box 0 [.nl 1, .nl 1]), (9, .box 0 [.og 52 1, .og 100 i.1.2]), (51, .arr v 1 true ((idxs sv l).map eI)), (52, .arr 1 1 true (l.map eI)), (100, .arr i.1.2 1 true (((qs.take i.1.1).map (pk (idxs sv l))).map eQ))]) (fun i => qs.length - i.1.1) [100] ⟨(0, 0), Nat.zero_le _, rfl⟩ ?_ ?_
      · (simp only [GeS]; refine ⟨?_, ?_, ?_, ?_⟩; all_goals (repeat' (first | (with_reducible exact True.intro) | (with_reducible rfl) | simp only [CC, LL, EE, QQ, seval, List.contains_nil, Bool.false_eq_true, ↓reduceIte, Option.some.injEq, O.arr.injEq, true_and, and_true] | (with_reducible apply And.intro) | (refine ⟨_, rfl, ?_⟩) | (simp; done) | rfl | omega | trivial)))
      rintro ⟨⟨m, v3⟩, hm, hw⟩
      simp only at hm hw
      have hlm : (qs.take m).length = m := by rw [List.length_take]; omega
      by_cases hml : m < qs.length
      · have hs3 := getD_map eQ [] [] qs m hml
        have hpr := hq.2 _ (mem_getD [] qs m hml)
        have htm := take_succ_getD [] qs m hml
        rw [drop_get [] _ _ hml] at hw
        generalize qs.getD m [] = pr at *
        have hp1 := hpr.1
        simp only [List.all_cons] at hw
        by_cases hx : pr.length = sv.length
        · rw [decide_eq_true hx, Bool.true_and] at hw
          have q : ((pr.length : Int) != (sv.length : Int)) = false := by simp; omega
          have hii := pk1_idx_len hv' hx
          repeat' (first | simp (maxSteps := 9999999) only [↓GE, PL, PP, EE, QQ, seval, hs3, q, hml, eQ, List.length_map] | (simp (disch := omega) only [IntWalk.i64_in]) | (refine go_brD (fun h => ?_) (fun h => ?_)) | (refine go_gsD (by ((try simp only [EE, QQ, seval]) <;> rfl)) (fun h => ?_) (fun h => ?_)) | (refine go_br (fun h => ?_) (fun h => ?_)) | (refine go_gs (by ((try simp only [EE, QQ, seval]) <;> rfl)) (fun h => ?_) (fun h => ?_)) | (with_reducible apply And.intro) | (with_reducible exact trivial) | omega | (simp only [List.length_map, List.length_cons, List.length_nil] at *; omega) | (show _ = true; first | rfl | kernel_rfl))
          refine go_loop 5000 hm0 (ι := {q : Nat × Nat // q.1 ≤ l.length}) (fun i => [(2, .bp 2 0 0), (4, .bp 4 0 0), (6, .og 51 v), (9, .bp 9 0 0), (10, I m), (11, .og 95 i.1.2), (12, I i.1.1)]) (fun i => [(2, .box 0 [.d (dInts sv), .d (dQs qs)]), (4, .box 0 [.nl 1, .nl 1]), (9, .box 0 [.og 52 1, .og 100 v3]), (51, .arr v 1 true ((idxs sv l).map eI)), (52, .arr 1 1 true (l.map eI)), (95, .arr i.1.2 1 true (pksF pr (idxs sv l) i.1.1)), (100, .arr v3 1 true (((qs.take m).map (pk (idxs sv l))).map eQ))]) (fun i => l.length - i.1.1) [95] ⟨(0, 0), Nat.zero_le _⟩ ?_ ?_
          · (simp only [GeS]; refine ⟨?_, ?_, ?_, ?_⟩; all_goals (repeat' (first | (with_reducible exact True.intro) | (with_reducible rfl) | simp only [CC, LL, EE, QQ, seval, List.contains_nil, Bool.false_eq_true, ↓reduceIte, Option.some.injEq, O.arr.injEq, true_and, and_true] | (with_reducible apply And.intro) | (refine ⟨_, rfl, ?_⟩) | (simp [pksF_zero]; done) | rfl | omega | trivial)))
          rintro ⟨⟨j, v4⟩, hj⟩
          simp only at hj
          by_cases hjl : j < l.length
          · have hji : j < (idxs sv l).length := by omega
            have hs4 := getD_map eI [] 0 (idxs sv l) j hji
            have hi4 := hii _ (mem_getD 0 (idxs sv l) j hji)
            have hlj := pksF_len (pr := pr) (ix := idxs sv l) (j := j) (by omega)
            have hNx : pksF pr (idxs sv l) (j + 1) = pksF pr (idxs sv l) j ++ [eR (pk1 pr ((idxs sv l).getD j 0))] := by rw [pksF, take_succ_getD 0 _ j hji, List.map_append, List.map_append]; rfl
            generalize (idxs sv l).getD j 0 = y at *
            have hyn : y.toNat < pr.length := by omega
            have hs5 := getD_map eR [] [] pr y.toNat hyn
            have hr1 := hpr.2 _ (mem_getD [] pr y.toNat hyn)
            have hNy : pk1 pr y = pr.getD y.toNat [] := rfl
            generalize pr.getD y.toNat [] = r at *
            have hy0 := hi4.1
            repeat' (first | simp (maxSteps := 9999999) only [↓GE, PL, PP, EE, QQ, seval, hs3, hs4, hs5, hil, hml, hjl, hyn, hlj, eI, eR, eQ, List.length_map, List.nil_append] | (simp (disch := omega) only [IntWalk.i64_in]) | (refine go_brD (fun h => ?_) (fun h => ?_)) | (refine go_gsD (by ((try simp only [EE, QQ, seval]) <;> rfl)) (fun h => ?_) (fun h => ?_)) | (refine go_br (fun h => ?_) (fun h => ?_)) | (refine go_gs (by ((try simp only [EE, QQ, seval]) <;> rfl)) (fun h => ?_) (fun h => ?_)) | (with_reducible apply And.intro) | (with_reducible exact trivial) | omega | (simp only [List.length_map, List.length_cons, List.length_nil] at *; omega) | (show _ = true; first | rfl | kernel_rfl))
            refine ⟨⟨(j + 1, v4 + 1), hjl⟩, ?_, by simp only; omega⟩
            (simp only [GeS]; refine ⟨?_, ?_, ?_, ?_⟩; all_goals (repeat' (first | (with_reducible exact True.intro) | (with_reducible rfl) | simp only [CC, LL, EE, QQ, seval, List.contains_nil, Bool.false_eq_true, ↓reduceIte, Option.some.injEq, O.arr.injEq, true_and, and_true] | (with_reducible apply And.intro) | (refine ⟨_, rfl, ?_⟩) | (simp [hNx, hNy, eR]; done) | rfl | omega | trivial)))
          · obtain rfl : j = l.length := by omega
            have hN : pksF pr (idxs sv l) l.length = (pk (idxs sv l) pr).map eR := by rw [pksF, ← hil, List.take_length]; rfl
            repeat' (first | simp (maxSteps := 9999999) only [↓GE, PL, PP, EE, QQ, seval, hil, hlm, hN, List.length_map] | (simp (disch := omega) only [IntWalk.i64_in]) | (refine go_brD (fun h => ?_) (fun h => ?_)) | (refine go_gsD (by ((try simp only [EE, QQ, seval]) <;> rfl)) (fun h => ?_) (fun h => ?_)) | (refine go_br (fun h => ?_) (fun h => ?_)) | (refine go_gs (by ((try simp only [EE, QQ, seval]) <;> rfl)) (fun h => ?_) (fun h => ?_)) | (with_reducible apply And.intro) | (with_reducible exact trivial) | omega | (simp only [List.length_map, List.length_cons, List.length_nil] at *; omega) | (show _ = true; first | rfl | kernel_rfl))
            refine ⟨⟨(m + 1, v3 + 1), hml, hw⟩, ?_, by simp only; omega⟩
            (simp only [GeS]; refine ⟨?_, ?_, ?_, ?_⟩; all_goals (repeat' (first | (with_reducible exact True.intro) | (with_reducible rfl) | simp only [CC, LL, EE, QQ, seval, List.contains_nil, Bool.false_eq_true, ↓reduceIte, Option.some.injEq, O.arr.injEq, true_and, and_true] | (with_reducible apply And.intro) | (refine ⟨_, rfl, ?_⟩) | (simp [htm, hN, eQ]; done) | rfl | omega | trivial)))
        · rw [decide_eq_false hx, Bool.false_and] at hw
          have q : ((pr.length : Int) != (sv.length : Int)) = true := by simp; omega
          have h2 : okPart sv qs l = false := by rw [h1, hw]
          repeat' (first | simp (maxSteps := 9999999) only [↓GE, PL, PP, EE, QQ, seval, hs3, q, hml, eQ, List.length_map] | (simp (disch := omega) only [IntWalk.i64_in]) | (refine go_brD (fun h => ?_) (fun h => ?_)) | (refine go_gsD (by ((try simp only [EE, QQ, seval]) <;> rfl)) (fun h => ?_) (fun h => ?_)) | (refine go_br (fun h => ?_) (fun h => ?_)) | (refine go_gs (by ((try simp only [EE, QQ, seval]) <;> rfl)) (fun h => ?_) (fun h => ?_)) | (with_reducible apply And.intro) | (with_reducible exact trivial) | omega | (simp only [List.length_map, List.length_cons, List.length_nil] at *; omega) | (show _ = true; first | rfl | kernel_rfl))
          all_goals ((first | apply ret_mk [] | apply end_mk []); (· ((try simp only [CC, LL, EE, QQ, seval]) <;> rfl)); (· ((try simp only [CC, LL, EE, QQ, seval]) <;> repeat' (first | (with_reducible apply And.intro) | rfl | trivial | (exact ⟨_, rfl⟩) | (exact ⟨_, _, _, rfl⟩) | (simp [*, h2]; done) | (simp [*, h2]; omega) | (simp_all [h2]; done) | (simp_all [h2]; omega)))); all_goals (first | trivial | decide | ((try simp only [CC, LL, EE, QQ, seval]) <;> repeat' (first | (with_reducible apply And.intro) | (exact ⟨_, rfl, rfl, rfl⟩) | (exact ⟨_, _, _, rfl⟩) | (exact ⟨_, rfl⟩) | trivial | rfl | (simp; done)))))
      · obtain rfl : m = qs.length := by omega
        rw [List.drop_length] at hw
        simp only [List.all_nil] at hw
        have h2 : okPart sv qs l = true := by rw [h1, hw]
        repeat' (first | simp (maxSteps := 9999999) only [↓GE, PL, PP, EE, QQ, seval, List.take_length, List.length_map] | (simp (disch := omega) only [IntWalk.i64_in]) | (refine go_brD (fun h => ?_) (fun h => ?_)) | (refine go_gsD (by ((try simp only [EE, QQ, seval]) <;> rfl)) (fun h => ?_) (fun h => ?_)) | (refine go_br (fun h => ?_) (fun h => ?_)) | (refine go_gs (by ((try simp only [EE, QQ, seval]) <;> rfl)) (fun h => ?_) (fun h => ?_)) | (with_reducible apply And.intro) | (with_reducible exact trivial) | omega | (simp only [List.length_map, List.length_cons, List.length_nil] at *; omega) | (show _ = true; first | rfl | kernel_rfl))
        all_goals ((first | apply ret_mk [] | apply end_mk []); (· ((try simp only [CC, LL, EE, QQ, seval]) <;> rfl)); (· ((try simp only [CC, LL, EE, QQ, seval]) <;> repeat' (first | (with_reducible apply And.intro) | rfl | trivial | (exact ⟨_, rfl⟩) | (exact ⟨_, _, _, rfl⟩) | (simp [*, h2, partQ]; done) | (simp [*, h2, partQ]; omega) | (simp_all [h2, partQ]; done) | (simp_all [h2, partQ]; omega)))); all_goals (first | trivial | decide | ((try simp only [CC, LL, EE, QQ, seval]) <;> repeat' (first | (with_reducible apply And.intro) | (exact ⟨_, rfl, rfl, rfl⟩) | (exact ⟨_, _, _, rfl⟩) | (exact ⟨_, rfl⟩) | trivial | rfl | (simp; done)))))
theorem text25 (sv : List Int) (qs : List (List (List Int))) (h1 : sv.length ≤ 1000) (hs : ∀ x ∈ sv, I64 x) (hq : smQ qs) (hi : inQ qs) : Does Try.prog 17 [vView sv qs] [] (vS (txt sv qs)) [] [] := by
  refine go_ref25_Text rfl BxOK.nil fun cx hm0 => go_in 5000 ?_
  unfold ac_ref25_Text rs_ref25_Text
  have hq1 := hq.1
  have e1 : Does Try.prog 42 [.d (.at (.string ⟨⟨[]⟩⟩)), .d (dInts sv)] [] (vS (putL sv)) [] [] := rPutListD [] sv hs (by simp only [List.length_nil]; omega)
  have l1 := putL_len hs h1
  have e2 := rPutIntD (putL sv) (qs.length : Int) ⟨by omega, by omega⟩ (by omega)
  have l2 := (putB_len (n := (qs.length : Int)) (by omega) (by omega)).1
  repeat' (first | simp (maxSteps := 9999999) only [↓GE, PL, PP, EE, QQ, seval, List.length_map] | (simp (disch := omega) only [IntWalk.i64_in]) | (refine go_brD (fun h => ?_) (fun h => ?_)) | (refine go_gsD (by ((try simp only [EE, QQ, seval]) <;> rfl)) (fun h => ?_) (fun h => ?_)) | (refine go_br (fun h => ?_) (fun h => ?_)) | (refine go_gs (by ((try simp only [EE, QQ, seval]) <;> rfl)) (fun h => ?_) (fun h => ?_)) | (apply go_call 5000 (e1) rfl rfl; iterate 4 (first | (exact CallForm.plain rfl) | ((try simp only [CC, LL, NM, EE, QQ, seval]) <;> (first | rfl | ((repeat constructor); done))))) | (apply go_call 5000 (e2) rfl rfl; iterate 4 (first | (exact CallForm.plain rfl) | ((try simp only [CC, LL, NM, EE, QQ, seval]) <;> (first | rfl | ((repeat constructor); done))))) | (with_reducible apply And.intro) | (with_reducible exact trivial) | omega | (simp only [List.length_map, List.length_cons, List.length_nil] at *; omega) | (show _ = true; first | rfl | kernel_rfl))
  refine go_loop 5000 hm0 (ι := {k : Nat // k ≤ qs.length}) (fun i => [(1, .bp 1 0 0), (3, vS (putL sv ++ (putB qs.length ++ (qs.take i.1).flatMap txt1))), (4, I i.1)]) (fun i => [(1, .box 0 [.d (dInts sv), .d (dQs qs)])]) (fun i => qs.length - i.1) [] ⟨0, Nat.zero_le _⟩ ?_ ?_
  · (simp only [GeS]; refine ⟨?_, ?_, ?_, ?_⟩; all_goals (repeat' (first | (with_reducible exact True.intro) | (with_reducible rfl) | simp only [CC, LL, EE, QQ, seval, List.contains_nil, Bool.false_eq_true, ↓reduceIte, Option.some.injEq, O.arr.injEq, true_and, and_true] | (with_reducible apply And.intro) | (refine ⟨_, rfl, ?_⟩) | (simp; done) | rfl | omega | trivial)))
  rintro ⟨k, hk⟩
  by_cases hkl : k < qs.length
  · have hs1 := getD_map eQ [] [] qs k hkl
    have hm := mem_getD [] qs k hkl
    have hpr := hq.2 _ hm
    have hpi := hi _ hm
    have htk := take_flatMap txt1 [] hkl
    have lk := flatMap_le (f := txt1) (l := qs.take k) (m := 12000000) fun q h => txt1_len (hq.2 q (List.mem_of_mem_take h)).1 (hq.2 q (List.mem_of_mem_take h)).2 (hi q (List.mem_of_mem_take h))
    have lk2 : (qs.take k).length * 12000000 ≤ 1000 * 12000000 := Nat.mul_le_mul_right _ (by rw [List.length_take]; omega)
    generalize qs.getD k [] = pr at *
    have hp1 := hpr.1
    have hT : (qs.take (k + 1)).flatMap txt1 = (qs.take k).flatMap txt1 ++ (putB pr.length ++ pr.flatMap putL) := htk
    generalize (qs.take k).flatMap txt1 = tk at *
    have ls : (putL sv ++ (putB qs.length ++ tk)).length ≤ 13000000000 := by simp only [List.length_append]; omega
    generalize hss : putL sv ++ (putB qs.length ++ tk) = ss at *
    have e3 := rPutIntD ss (pr.length : Int) ⟨by omega, by omega⟩ (by omega)
    have l3 := (putB_len (n := (pr.length : Int)) (by omega) (by omega)).1
    repeat' (first | simp (maxSteps := 9999999) only [↓GE, PL, PP, EE, QQ, seval, hs1, hkl, eQ, List.length_map] | (simp (disch := omega) only [IntWalk.i64_in]) | (refine go_brD (fun h => ?_) (fun h => ?_)) | (refine go_gsD (by ((try simp only [EE, QQ, seval]) <;> rfl)) (fun h => ?_) (fun h => ?_)) | (refine go_br (fun h => ?_) (fun h => ?_)) | (refine go_gs (by ((try simp only [EE, QQ, seval]) <;> rfl)) (fun h => ?_) (fun h => ?_)) | (apply go_call 5000 (e3) rfl rfl; iterate 4 (first | (exact CallForm.plain rfl) | ((try simp only [CC, LL, NM, EE, QQ, seval]) <;> (first | rfl | ((repeat constructor); done))))) | (with_reducible apply And.intro) | (with_reducible exact trivial) | omega | (simp only [List.length_map, List.length_cons, List.length_nil] at *; omega) | (show _ = true; first | rfl | kernel_rfl))
    refine go_loop 5000 hm0 (ι := {j : Nat // j ≤ pr.length}) (fun i => [(1, .bp 1 0 0), (3, vS (ss ++ (putB pr.length ++ (pr.take i.1).flatMap putL))), (4, I k), (5, I i.1)]) (fun i => [(1, .box 0 [.d (dInts sv), .d (dQs qs)])]) (fun i => pr.length - i.1) [] ⟨0, Nat.zero_le _⟩ ?_ ?_
    · (simp only [GeS]; refine ⟨?_, ?_, ?_, ?_⟩; all_goals (repeat' (first | (with_reducible exact True.intro) | (with_reducible rfl) | simp only [CC, LL, EE, QQ, seval, List.contains_nil, Bool.false_eq_true, ↓reduceIte, Option.some.injEq, O.arr.injEq, true_and, and_true] | (with_reducible apply And.intro) | (refine ⟨_, rfl, ?_⟩) | (simp; done) | rfl | omega | trivial)))
    rintro ⟨j, hj⟩
    by_cases hjl : j < pr.length
    · have hs2 := getD_map eR [] [] pr j hjl
      have hm2 := mem_getD [] pr j hjl
      have hr1 := hpr.2 _ hm2
      have hri := hpi _ hm2
      have htj := take_flatMap putL [] hjl
      have lj := flatMap_le (f := putL) (l := pr.take j) (m := 11000) fun x h => putL_len (hpi x (List.mem_of_mem_take h)) (hpr.2 x (List.mem_of_mem_take h))
      have lj2 : (pr.take j).length * 11000 ≤ 1000 * 11000 := Nat.mul_le_mul_right _ (by rw [List.length_take]; omega)
      generalize pr.getD j [] = r at *
      generalize (pr.take j).flatMap putL = tj at *
      have e4 := rPutListD (ss ++ (putB pr.length ++ tj)) r hri (by simp only [List.length_append]; omega)
      have hN : ss ++ (putB pr.length ++ (pr.take (j + 1)).flatMap putL) = ss ++ (putB pr.length ++ tj) ++ putL r := by rw [htj]; simp only [List.append_assoc]
      repeat' (first | simp (maxSteps := 9999999) only [↓GE, PL, PP, EE, QQ, seval, hs1, hs2, hkl, hjl, eR, eQ, List.length_map] | (simp (disch := omega) only [IntWalk.i64_in]) | (refine go_brD (fun h => ?_) (fun h => ?_)) | (refine go_gsD (by ((try simp only [EE, QQ, seval]) <;> rfl)) (fun h => ?_) (fun h => ?_)) | (refine go_br (fun h => ?_) (fun h => ?_)) | (refine go_gs (by ((try simp only [EE, QQ, seval]) <;> rfl)) (fun h => ?_) (fun h => ?_)) | (apply go_call 5000 (e4) rfl rfl; iterate 4 (first | (exact CallForm.plain rfl) | ((try simp only [CC, LL, NM, EE, QQ, seval]) <;> (first | rfl | ((repeat constructor); done))))) | (with_reducible apply And.intro) | (with_reducible exact trivial) | omega | (simp only [List.length_map, List.length_cons, List.length_nil] at *; omega) | (show _ = true; first | rfl | kernel_rfl))
      refine ⟨⟨j + 1, hjl⟩, ?_, by simp only; omega⟩
      (simp only [GeS]; refine ⟨?_, ?_, ?_, ?_⟩; all_goals (repeat' (first | (with_reducible exact True.intro) | (with_reducible rfl) | simp only [CC, LL, EE, QQ, seval, List.contains_nil, Bool.false_eq_true, ↓reduceIte, Option.some.injEq, O.arr.injEq, true_and, and_true] | (with_reducible apply And.intro) | (refine ⟨_, rfl, ?_⟩) | (simp [hN]; done) | rfl | omega | trivial)))
    · obtain rfl : j = pr.length := by omega
      have hN : putL sv ++ (putB qs.length ++ (qs.take (k + 1)).flatMap txt1) = ss ++ (putB pr.length ++ pr.flatMap putL) := by rw [hT, ← hss]; simp only [List.append_assoc]
      repeat' (first | simp (maxSteps := 9999999) only [↓GE, PL, PP, EE, QQ, seval, hs1, hkl, eQ, List.take_length, List.length_map] | (simp (disch := omega) only [IntWalk.i64_in]) | (refine go_brD (fun h => ?_) (fun h => ?_)) | (refine go_gsD (by ((try simp only [EE, QQ, seval]) <;> rfl)) (fun h => ?_) (fun h => ?_)) | (refine go_br (fun h => ?_) (fun h => ?_)) | (refine go_gs (by ((try simp only [EE, QQ, seval]) <;> rfl)) (fun h => ?_) (fun h => ?_)) | (with_reducible apply And.intro) | (with_reducible exact trivial) | omega | (simp only [List.length_map, List.length_cons, List.length_nil] at *; omega) | (show _ = true; first | rfl | kernel_rfl))
      refine ⟨⟨k + 1, hkl⟩, ?_, by simp only; omega⟩
      (simp only [GeS]; refine ⟨?_, ?_, ?_, ?_⟩; all_goals (repeat' (first | (with_reducible exact True.intro) | (with_reducible rfl) | simp only [CC, LL, EE, QQ, seval, List.contains_nil, Bool.false_eq_true, ↓reduceIte, Option.some.injEq, O.arr.injEq, true_and, and_true] | (with_reducible apply And.intro) | (refine ⟨_, rfl, ?_⟩) | (simp [hN]; done) | rfl | omega | trivial)))
  · obtain rfl : k = qs.length := by omega
    have hN : txt sv qs = putL sv ++ (putB qs.length ++ (qs.take qs.length).flatMap txt1) := by rw [List.take_length]; rfl
    repeat' (first | simp (maxSteps := 9999999) only [↓GE, PL, PP, EE, QQ, seval, List.length_map] | (simp (disch := omega) only [IntWalk.i64_in]) | (refine go_brD (fun h => ?_) (fun h => ?_)) | (refine go_gsD (by ((try simp only [EE, QQ, seval]) <;> rfl)) (fun h => ?_) (fun h => ?_)) | (refine go_br (fun h => ?_) (fun h => ?_)) | (refine go_gs (by ((try simp only [EE, QQ, seval]) <;> rfl)) (fun h => ?_) (fun h => ?_)) | (with_reducible apply And.intro) | (with_reducible exact trivial) | omega | (simp only [List.length_map, List.length_cons, List.length_nil] at *; omega) | (show _ = true; first | rfl | kernel_rfl))
    all_goals ((first | apply ret_mk [] | apply end_mk []); (· ((try simp only [CC, LL, EE, QQ, seval]) <;> rfl)); (· ((try simp only [CC, LL, EE, QQ, seval]) <;> repeat' (first | (with_reducible apply And.intro) | rfl | trivial | (exact ⟨_, rfl⟩) | (exact ⟨_, _, _, rfl⟩) | (simp [*, hN]; done) | (simp [*, hN]; omega) | (simp_all [hN]; done) | (simp_all [hN]; omega)))); all_goals (first | trivial | decide | ((try simp only [CC, LL, EE, QQ, seval]) <;> repeat' (first | (with_reducible apply And.intro) | (exact ⟨_, rfl, rfl, rfl⟩) | (exact ⟨_, _, _, rfl⟩) | (exact ⟨_, rfl⟩) | trivial | rfl | (simp; done)))))
end Go.Proofs.Ytihjmnhjjpdenaa.Sim
