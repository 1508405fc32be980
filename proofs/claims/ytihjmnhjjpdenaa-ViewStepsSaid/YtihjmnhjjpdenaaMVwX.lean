/- Views in the document: of, part, flat, text. -/
import Derived.Test.YtihjmnhjjpdenaaMVwM
import Derived.Test.YtihjmnhjjpdenaaMVwR
namespace Go.Proofs.Ytihjmnhjjpdenaa.Sim
open Go Go.RowKit
set_option maxRecDepth 100000
set_option maxHeartbeats 8000000
set_option linter.unusedVariables false
set_option linter.unusedSimpArgs false
attribute [local irreducible] Go Mean
open Go.Proofs.Ytihjmnhjjpdenaa.Vw (flatQ)
open Go.Proofs.Ytihjmnhjjpdenaa.Wire (putB putL putB_len)
theorem less1_take (l : List Int) (k : Nat) : less1 (l.take k) = (less1 l).take k := by rw [less1, less1, List.map_take]
theorem of25 (qs : List (List (List Int))) (l : List Int) (hq : smQ qs) (hl : l.length ≤ 1000) (hr : ∀ x ∈ l, x ≤ 9223372036854775807) :
    Does Try.prog 15 [.d (dQs qs), .d (dInts l)] [] (.tu [vView (if okOf qs l = true then l else []) (if okOf qs l = true then ofQ qs l else []), I (ofE qs l)]) [] [] := by
  refine go_ref25_Of rfl BxOK.nil fun cx hm0 => go_in 5000 ?_
  unfold ac_ref25_Of rs_ref25_Of
  have e1 := rising25 l hl
  have hq1 := hq.1
  cases ha : asc l with
  | false =>
    rw [ha] at e1
    have h1 : okOf qs l = false := by rw [okOf, ha, Bool.false_and]
    have h2 : ofE qs l = 5 := by rw [ofE, ha]; rfl
    repeat' (first | simp (maxSteps := 9999999) only [↓GE, PL, PP, EE, QQ, seval] | (simp (disch := omega) only [IntWalk.i64_in]) | (refine go_brD (fun h => ?_) (fun h => ?_)) | (refine go_gsD (by ((try simp only [EE, QQ, seval]) <;> rfl)) (fun h => ?_) (fun h => ?_)) | (refine go_br (fun h => ?_) (fun h => ?_)) | (refine go_gs (by ((try simp only [EE, QQ, seval]) <;> rfl)) (fun h => ?_) (fun h => ?_)) | (apply go_call 5000 (e1) rfl rfl; iterate 4 (first | (exact CallForm.plain rfl) | ((try simp only [CC, LL, NM, EE, QQ, seval]) <;> (first | rfl | ((repeat constructor); done))))) | (with_reducible apply And.intro) | (with_reducible exact trivial) | omega | (simp only [List.length_map, List.length_cons, List.length_nil] at *; omega) | (show _ = true; first | rfl | kernel_rfl))
    all_goals ((first | apply ret_mk [] | apply end_mk []); (· ((try simp only [CC, LL, EE, QQ, seval]) <;> rfl)); (· ((try simp only [CC, LL, EE, QQ, seval]) <;> repeat' (first | (with_reducible apply And.intro) | rfl | trivial | (exact ⟨_, rfl⟩) | (exact ⟨_, _, _, rfl⟩) | (simp [*, h1, h2]; done) | (simp [*, h1, h2]; omega) | (simp_all [h1, h2]; done) | (simp_all [h1, h2]; omega)))); all_goals (first | trivial | decide | ((try simp only [CC, LL, EE, QQ, seval]) <;> repeat' (first | (with_reducible apply And.intro) | (exact ⟨_, rfl, rfl, rfl⟩) | (exact ⟨_, _, _, rfl⟩) | (exact ⟨_, rfl⟩) | trivial | rfl | (simp; done)))))
  | true =>
    rw [ha] at e1
    have h1 : okOf qs l = okPick qs (less1 l) := by rw [okOf, ha, Bool.true_and]
    have h2 : ofE qs l = if okPick qs (less1 l) = true then 0 else 1 := by rw [ofE, ha, if_pos rfl]
    have hpos := asc_pos ha
    repeat' (first | simp (maxSteps := 9999999) only [↓GE, PL, PP, EE, QQ, seval, List.length_map, List.nil_append] | (simp (disch := omega) only [IntWalk.i64_in]) | (refine go_brD (fun h => ?_) (fun h => ?_)) | (refine go_gsD (by ((try simp only [EE, QQ, seval]) <;> rfl)) (fun h => ?_) (fun h => ?_)) | (refine go_br (fun h => ?_) (fun h => ?_)) | (refine go_gs (by ((try simp only [EE, QQ, seval]) <;> rfl)) (fun h => ?_) (fun h => ?_)) | (apply go_call 5000 (e1) rfl rfl; iterate 4 (first | (exact CallForm.plain rfl) | ((try simp only [CC, LL, NM, EE, QQ, seval]) <;> (first | rfl | ((repeat constructor); done))))) | (with_reducible apply And.intro) | (with_reducible exact trivial) | omega | (simp only [List.length_map, List.length_cons, List.length_nil] at *; omega) | (show _ = true; first | rfl | kernel_rfl))
    refine go_loop 5000 hm0 (ι := {q : Nat × Nat // q.1 ≤ qs.length ∧ okPick qs (less1 l) = okPick (qs.drop q.1) (less1 l)}) (fun i => [(0, .d (dQs qs)), (1, .d (dInts l)), (4, .bp 4 0 0), (6, .bp 6 0 0), (7, I i.1.1)]) (fun i => [(4, .box 0 [.nl 1, .nl 1]), (6, .box 0 [.og 14 1, .og 61 i.1.2]), (14, .arr 1 1 true (l.map eI)), (61, .arr i.1.2 1 true (((qs.take i.1.1).map (pk (less1 l))).map eQ))]) (fun i => qs.length - i.1.1) [61] ⟨(0, 0), Nat.zero_le _, rfl⟩ ?_ ?_
    · (simp only [GeS]; refine ⟨?_, ?_, ?_, ?_⟩; all_goals (repeat' (first | (with_reducible exact True.intro) | (with_reducible rfl) | simp only [CC, LL, EE, QQ, seval, List.contains_nil, Bool.false_eq_true, ↓reduceIte, Option.some.injEq, O.arr.injEq, true_and, and_true] | (with_reducible apply And.intro) | (refine ⟨_, rfl, ?_⟩) | (simp; done) | rfl | omega | trivial)))
    rintro ⟨⟨k, v⟩, hk, hv⟩
    simp only at hk hv
    by_cases hkl : k < qs.length
    · have hs := getD_map eQ [] [] qs k hkl
      have hpr := hq.2 _ (mem_getD [] qs k hkl)
      have htk := take_succ_getD [] qs k hkl
      have hlk : (qs.take k).length = k := by rw [List.length_take]; omega
      rw [drop_get [] _ _ hkl] at hv
      generalize qs.getD k [] = pr at *
      have hp1 := hpr.1
      simp only [okPick, List.all_cons] at hv
      repeat' (first | simp (maxSteps := 9999999) only [↓GE, PL, PP, EE, QQ, seval, List.length_map] | (simp (disch := omega) only [IntWalk.i64_in]) | (refine go_brD (fun h => ?_) (fun h => ?_)) | (refine go_gsD (by ((try simp only [EE, QQ, seval]) <;> rfl)) (fun h => ?_) (fun h => ?_)) | (refine go_br (fun h => ?_) (fun h => ?_)) | (refine go_gs (by ((try simp only [EE, QQ, seval]) <;> rfl)) (fun h => ?_) (fun h => ?_)) | (with_reducible apply And.intro) | (with_reducible exact trivial) | omega | (simp only [List.length_map, List.length_cons, List.length_nil] at *; omega) | (show _ = true; first | rfl | kernel_rfl))
      refine go_loop 5000 hm0 (ι := {q : Nat × Nat // q.1 ≤ l.length ∧ okPr pr (less1 l) = okPr pr (less1 (l.drop q.1))}) (fun i => [(0, .d (dQs qs)), (1, .d (dInts l)), (4, .bp 4 0 0), (6, .bp 6 0 0), (7, I k), (8, .og 56 i.1.2), (9, I i.1.1)]) (fun i => [(4, .box 0 [.nl 1, .nl 1]), (6, .box 0 [.og 14 1, .og 61 v]), (14, .arr 1 1 true (l.map eI)), (56, .arr i.1.2 1 true (((less1 (l.take i.1.1)).map (pk1 pr)).map eR)), (61, .arr v 1 true (((qs.take k).map (pk (less1 l))).map eQ))]) (fun i => l.length - i.1.1) [56] ⟨(0, 0), Nat.zero_le _, rfl⟩ ?_ ?_
      · (simp only [GeS]; refine ⟨?_, ?_, ?_, ?_⟩; all_goals (repeat' (first | (with_reducible exact True.intro) | (with_reducible rfl) | simp only [CC, LL, EE, QQ, seval, List.contains_nil, Bool.false_eq_true, ↓reduceIte, Option.some.injEq, O.arr.injEq, true_and, and_true] | (with_reducible apply And.intro) | (refine ⟨_, rfl, ?_⟩) | (simp [less1]; done) | rfl | omega | trivial)))
      rintro ⟨⟨j, v2⟩, hj, hv2⟩
      simp only at hj hv2
      by_cases hjl : j < l.length
      · have hs2 := getD_map eI [] 0 l j hjl
        have hx1 := hpos _ (mem_getD 0 l j hjl)
        have hx3 := hr _ (mem_getD 0 l j hjl)
        have htj := take_succ_getD 0 l j hjl
        have hlj : (less1 (l.take j)).length = j := by rw [less1, List.length_map, List.length_take]; omega
        rw [drop_get 0 _ _ hjl] at hv2
        have hNx : ((less1 (l.take (j + 1))).map (pk1 pr)).map eR = ((less1 (l.take j)).map (pk1 pr)).map eR ++ [eR (pk1 pr (l.getD j 0 - 1))] := by rw [htj, less1, List.map_append, List.map_append, List.map_append]; rfl
        generalize l.getD j 0 = x at *
        simp only [okPr, less1, List.map_cons, List.all_cons] at hv2
        have w0 : IntKind.i64.wrap (x - 1) = x - 1 := IntWalk.i64_in _ (by omega)
        by_cases hxp : x - 1 < (pr.length : Int)
        · have q : decide (x > (pr.length : Int)) = false := decide_eq_false (by omega)
          have hxn : (x - 1).toNat < pr.length := by omega
          have hs3 := getD_map eR [] [] pr (x - 1).toNat hxn
          have hr1 := hpr.2 _ (mem_getD [] pr (x - 1).toNat hxn)
          have hN : pk1 pr (x - 1) = pr.getD (x - 1).toNat [] := rfl
          rw [decide_eq_true hxp, Bool.true_and] at hv2
          have hxz : 0 ≤ x - 1 := by omega
          generalize pr.getD (x - 1).toNat [] = r at *
          repeat' (first | simp (maxSteps := 9999999) only [↓GE, PL, PP, EE, QQ, seval, hs, hs2, hs3, q, w0, hkl, hjl, hxn, hlj, eI, eR, eQ, List.length_map, List.nil_append] | (simp (disch := omega) only [IntWalk.i64_in]) | (refine go_brD (fun h => ?_) (fun h => ?_)) | (refine go_gsD (by ((try simp only [EE, QQ, seval]) <;> rfl)) (fun h => ?_) (fun h => ?_)) | (refine go_br (fun h => ?_) (fun h => ?_)) | (refine go_gs (by ((try simp only [EE, QQ, seval]) <;> rfl)) (fun h => ?_) (fun h => ?_)) | (with_reducible apply And.intro) | (with_reducible exact trivial) | omega | (simp only [List.length_map, List.length_cons, List.length_nil] at *; omega) | (show _ = true; first | rfl | kernel_rfl))
          refine ⟨⟨(j + 1, v2 + 1), hjl, hv2⟩, ?_, by simp only; omega⟩
          (simp only [GeS]; refine ⟨?_, ?_, ?_, ?_⟩; all_goals (repeat' (first | (with_reducible exact True.intro) | (with_reducible rfl) | simp only [CC, LL, EE, QQ, seval, List.contains_nil, Bool.false_eq_true, ↓reduceIte, Option.some.injEq, O.arr.injEq, true_and, and_true] | (with_reducible apply And.intro) | (refine ⟨_, rfl, ?_⟩) | (simp [hNx, hN, eR]; done) | rfl | omega | trivial)))
        · have q : decide (x > (pr.length : Int)) = true := decide_eq_true (by omega)
          have hf : okPick qs (less1 l) = false := by
            rw [decide_eq_false hxp, Bool.false_and] at hv2
            rw [okPick, hv, show okPr pr (less1 l) = false from hv2, Bool.false_and]
          have h1' : okOf qs l = false := by rw [h1, hf]
          have h2' : ofE qs l = 1 := by rw [h2, hf]; rfl
          repeat' (first | simp (maxSteps := 9999999) only [↓GE, PL, PP, EE, QQ, seval, hs, hs2, q, hkl, hjl, eI, eQ, List.length_map] | (simp (disch := omega) only [IntWalk.i64_in]) | (refine go_brD (fun h => ?_) (fun h => ?_)) | (refine go_gsD (by ((try simp only [EE, QQ, seval]) <;> rfl)) (fun h => ?_) (fun h => ?_)) | (refine go_br (fun h => ?_) (fun h => ?_)) | (refine go_gs (by ((try simp only [EE, QQ, seval]) <;> rfl)) (fun h => ?_) (fun h => ?_)) | (with_reducible apply And.intro) | (with_reducible exact trivial) | omega | (simp only [List.length_map, List.length_cons, List.length_nil] at *; omega) | (show _ = true; first | rfl | kernel_rfl))
          all_goals ((first | apply ret_mk [] | apply end_mk []); (· ((try simp only [CC, LL, EE, QQ, seval]) <;> rfl)); (· ((try simp only [CC, LL, EE, QQ, seval]) <;> repeat' (first | (with_reducible apply And.intro) | rfl | trivial | (exact ⟨_, rfl⟩) | (exact ⟨_, _, _, rfl⟩) | (simp [*, h1', h2']; done) | (simp [*, h1', h2']; omega) | (simp_all [h1', h2']; done) | (simp_all [h1', h2']; omega)))); all_goals (first | trivial | decide | ((try simp only [CC, LL, EE, QQ, seval]) <;> repeat' (first | (with_reducible apply And.intro) | (exact ⟨_, rfl, rfl, rfl⟩) | (exact ⟨_, _, _, rfl⟩) | (exact ⟨_, rfl⟩) | trivial | rfl | (simp; done)))))
      · obtain rfl : j = l.length := by omega
        have hN : pk (less1 l) pr = (less1 l).map (pk1 pr) := rfl
        rw [List.drop_length] at hv2
        simp only [okPr, less1, List.map_nil, List.all_nil] at hv2
        have hv3 : okPick qs (less1 l) = okPick (qs.drop (k + 1)) (less1 l) := by rw [okPick, hv, show okPr pr (less1 l) = true from hv2, Bool.true_and]; rfl
        repeat' (first | simp (maxSteps := 9999999) only [↓GE, PL, PP, EE, QQ, seval, hlk, List.take_length, List.length_map] | (simp (disch := omega) only [IntWalk.i64_in]) | (refine go_brD (fun h => ?_) (fun h => ?_)) | (refine go_gsD (by ((try simp only [EE, QQ, seval]) <;> rfl)) (fun h => ?_) (fun h => ?_)) | (refine go_br (fun h => ?_) (fun h => ?_)) | (refine go_gs (by ((try simp only [EE, QQ, seval]) <;> rfl)) (fun h => ?_) (fun h => ?_)) | (with_reducible apply And.intro) | (with_reducible exact trivial) | omega | (simp only [List.length_map, List.length_cons, List.length_nil] at *; omega) | (show _ = true; first | rfl | kernel_rfl))
        refine ⟨⟨(k + 1, v + 1), hkl, hv3⟩, ?_, by simp only; omega⟩
        (simp only [GeS]; refine ⟨?_, ?_, ?_, ?_⟩; all_goals (repeat' (first | (with_reducible exact True.intro) | (with_reducible rfl) | simp only [CC, LL, EE, QQ, seval, List.contains_nil, Bool.false_eq_true, ↓reduceIte, Option.some.injEq, O.arr.injEq, true_and, and_true] | (with_reducible apply And.intro) | (refine ⟨_, rfl, ?_⟩) | (simp [htk, hN, eQ]; done) | rfl | omega | trivial)))
    · obtain rfl : k = qs.length := by omega
      rw [List.drop_length] at hv
      simp only [okPick, List.all_nil] at hv
      have hv' : okPick qs (less1 l) = true := hv
      have h1' : okOf qs l = true := by rw [h1, hv']
      have h2' : ofE qs l = 0 := by rw [h2, hv']; rfl
      repeat' (first | simp (maxSteps := 9999999) only [↓GE, PL, PP, EE, QQ, seval, List.length_map, List.take_length] | (simp (disch := omega) only [IntWalk.i64_in]) | (refine go_brD (fun h => ?_) (fun h => ?_)) | (refine go_gsD (by ((try simp only [EE, QQ, seval]) <;> rfl)) (fun h => ?_) (fun h => ?_)) | (refine go_br (fun h => ?_) (fun h => ?_)) | (refine go_gs (by ((try simp only [EE, QQ, seval]) <;> rfl)) (fun h => ?_) (fun h => ?_)) | (with_reducible apply And.intro) | (with_reducible exact trivial) | omega | (simp only [List.length_map, List.length_cons, List.length_nil] at *; omega) | (show _ = true; first | rfl | kernel_rfl))
      all_goals ((first | apply ret_mk [] | apply end_mk []); (· ((try simp only [CC, LL, EE, QQ, seval]) <;> rfl)); (· ((try simp only [CC, LL, EE, QQ, seval]) <;> repeat' (first | (with_reducible apply And.intro) | rfl | trivial | (exact ⟨_, rfl⟩) | (exact ⟨_, _, _, rfl⟩) | (simp [*, h1', h2', ofQ]; done) | (simp [*, h1', h2', ofQ]; omega) | (simp_all [h1', h2', ofQ]; done) | (simp_all [h1', h2', ofQ]; omega)))); all_goals (first | trivial | decide | ((try simp only [CC, LL, EE, QQ, seval]) <;> repeat' (first | (with_reducible apply And.intro) | (exact ⟨_, rfl, rfl, rfl⟩) | (exact ⟨_, _, _, rfl⟩) | (exact ⟨_, rfl⟩) | trivial | rfl | (simp; done)))))
theorem flat25 (sv : List Int) (qs : List (List (List Int))) (hq : smQ qs) : Does Try.prog 19 [vView sv qs] [] (.d (dInts (flatQ qs))) [] [] := by
  refine go_ref25_Flat rfl BxOK.nil fun cx hm0 => go_in 5000 ?_
  unfold ac_ref25_Flat rs_ref25_Flat
  have hq1 := hq.1
  repeat' (first | simp (maxSteps := 9999999) only [↓GE, PL, PP, EE, QQ, seval, List.length_map] | (simp (disch := omega) only [IntWalk.i64_in]) | (refine go_brD (fun h => ?_) (fun h => ?_)) | (refine go_gsD (by ((try simp only [EE, QQ, seval]) <;> rfl)) (fun h => ?_) (fun h => ?_)) | (refine go_br (fun h => ?_) (fun h => ?_)) | (refine go_gs (by ((try simp only [EE, QQ, seval]) <;> rfl)) (fun h => ?_) (fun h => ?_)) | (with_reducible apply And.intro) | (with_reducible exact trivial) | omega | (simp only [List.length_map, List.length_cons, List.length_nil] at *; omega) | (show _ = true; first | rfl | kernel_rfl))
  refine go_loop 5000 hm0 (ι := {q : Nat × Nat // q.1 ≤ qs.length}) (fun i => [(1, .bp 1 0 0), (3, .og 32 i.1.2), (4, I i.1.1)]) (fun i => [(1, .box 0 [.d (dInts sv), .d (dQs qs)]), (32, .arr i.1.2 1 true ((flatQ (qs.take i.1.1)).map eI))]) (fun i => qs.length - i.1.1) [32] ⟨(0, 0), Nat.zero_le _⟩ ?_ ?_
  · (simp only [GeS]; refine ⟨?_, ?_, ?_, ?_⟩; all_goals (repeat' (first | (with_reducible exact True.intro) | (with_reducible rfl) | simp only [CC, LL, EE, QQ, seval, List.contains_nil, Bool.false_eq_true, ↓reduceIte, Option.some.injEq, O.arr.injEq, true_and, and_true] | (with_reducible apply And.intro) | (refine ⟨_, rfl, ?_⟩) | (simp [flatQ]; done) | rfl | omega | trivial)))
  rintro ⟨⟨k, v⟩, hk⟩
  simp only at hk
  have hfk : (flatQ (qs.take k)).length ≤ 1000000000 := smQ.flat ⟨by rw [List.length_take]; omega, fun q h => hq.2 q (List.mem_of_mem_take h)⟩
  by_cases hkl : k < qs.length
  · have hs := getD_map eQ [] [] qs k hkl
    have hpr := hq.2 _ (mem_getD [] qs k hkl)
    have hN : flatQ (qs.take (k + 1)) = flatQ (qs.take k) ++ (qs.getD k []).flatten := by
      rw [take_succ_getD [] qs k hkl, flatQ, List.flatMap_append, List.flatMap_cons, List.flatMap_nil, List.append_nil]; rfl
    generalize qs.getD k [] = pr at *
    generalize flatQ (qs.take k) = fk at *
    have hp1 := hpr.1
    repeat' (first | simp (maxSteps := 9999999) only [↓GE, PL, PP, EE, QQ, seval, List.length_map] | (simp (disch := omega) only [IntWalk.i64_in]) | (refine go_brD (fun h => ?_) (fun h => ?_)) | (refine go_gsD (by ((try simp only [EE, QQ, seval]) <;> rfl)) (fun h => ?_) (fun h => ?_)) | (refine go_br (fun h => ?_) (fun h => ?_)) | (refine go_gs (by ((try simp only [EE, QQ, seval]) <;> rfl)) (fun h => ?_) (fun h => ?_)) | (with_reducible apply And.intro) | (with_reducible exact trivial) | omega | (simp only [List.length_map, List.length_cons, List.length_nil] at *; omega) | (show _ = true; first | rfl | kernel_rfl))
    refine go_loop 5000 hm0 (ι := {q : Nat × Nat // q.1 ≤ pr.length}) (fun i => [(1, .bp 1 0 0), (3, .og 32 i.1.2), (4, I k), (5, I i.1.1)]) (fun i => [(1, .box 0 [.d (dInts sv), .d (dQs qs)]), (32, .arr i.1.2 1 true ((fk ++ (pr.take i.1.1).flatten).map eI))]) (fun i => pr.length - i.1.1) [] ⟨(0, v), Nat.zero_le _⟩ ?_ ?_
    · (simp only [GeS]; refine ⟨?_, ?_, ?_, ?_⟩; all_goals (repeat' (first | (with_reducible exact True.intro) | (with_reducible rfl) | simp only [CC, LL, EE, QQ, seval, List.contains_nil, Bool.false_eq_true, ↓reduceIte, Option.some.injEq, O.arr.injEq, true_and, and_true] | (with_reducible apply And.intro) | (refine ⟨_, rfl, ?_⟩) | (simp; done) | rfl | omega | trivial)))
    rintro ⟨⟨j, v2⟩, hj⟩
    simp only at hj
    by_cases hjl : j < pr.length
    · have hs2 := getD_map eR [] [] pr j hjl
      have hr1 := hpr.2 _ (mem_getD [] pr j hjl)
      have hfl : (pr.take j).flatten.length ≤ 1000 * 1000 := Nat.le_trans (flatten_le fun x h => hpr.2 x (List.mem_of_mem_take h)) (Nat.mul_le_mul_right _ (by rw [List.length_take]; omega))
      have hN2 : (pr.take (j + 1)).flatten = (pr.take j).flatten ++ pr.getD j [] := by rw [take_succ_getD [] pr j hjl, List.flatten_append, List.flatten_cons, List.flatten_nil, List.append_nil]
      generalize pr.getD j [] = r at *
      have hN3 : (fk ++ (pr.take (j + 1)).flatten).map eI = (fk ++ (pr.take j).flatten).map eI ++ r.map eI := by rw [hN2, ← List.append_assoc, List.map_append]
      have hln : (fk ++ (pr.take j).flatten).length ≤ 1001000000 := by rw [List.length_append]; omega
      generalize (pr.take j).flatten = fj at *
      repeat' (first | simp (maxSteps := 9999999) only [↓GE, PL, PP, EE, QQ, seval, hs, hs2, hkl, hjl, eQ, eR, List.length_map] | (simp (disch := omega) only [IntWalk.i64_in]) | (refine go_brD (fun h => ?_) (fun h => ?_)) | (refine go_gsD (by ((try simp only [EE, QQ, seval]) <;> rfl)) (fun h => ?_) (fun h => ?_)) | (refine go_br (fun h => ?_) (fun h => ?_)) | (refine go_gs (by ((try simp only [EE, QQ, seval]) <;> rfl)) (fun h => ?_) (fun h => ?_)) | (with_reducible apply And.intro) | (with_reducible exact trivial) | omega | (simp only [List.length_map, List.length_cons, List.length_nil] at *; omega) | (show _ = true; first | rfl | kernel_rfl))
      refine ⟨⟨(j + 1, v2 + 1), hjl⟩, ?_, by simp only; omega⟩
      (simp only [GeS]; refine ⟨?_, ?_, ?_, ?_⟩; all_goals (repeat' (first | (with_reducible exact True.intro) | (with_reducible rfl) | simp only [CC, LL, EE, QQ, seval, List.contains_nil, Bool.false_eq_true, ↓reduceIte, Option.some.injEq, O.arr.injEq, true_and, and_true] | (with_reducible apply And.intro) | (refine ⟨_, rfl, ?_⟩) | (simp [hN3]; done) | rfl | omega | trivial)))
    · obtain rfl : j = pr.length := by omega
      repeat' (first | simp (maxSteps := 9999999) only [↓GE, PL, PP, EE, QQ, seval, hs, hkl, eQ, List.take_length, List.length_map] | (simp (disch := omega) only [IntWalk.i64_in]) | (refine go_brD (fun h => ?_) (fun h => ?_)) | (refine go_gsD (by ((try simp only [EE, QQ, seval]) <;> rfl)) (fun h => ?_) (fun h => ?_)) | (refine go_br (fun h => ?_) (fun h => ?_)) | (refine go_gs (by ((try simp only [EE, QQ, seval]) <;> rfl)) (fun h => ?_) (fun h => ?_)) | (with_reducible apply And.intro) | (with_reducible exact trivial) | omega | (simp only [List.length_map, List.length_cons, List.length_nil] at *; omega) | (show _ = true; first | rfl | kernel_rfl))
      refine ⟨⟨(k + 1, v2), hkl⟩, ?_, by simp only; omega⟩
      (simp only [GeS]; refine ⟨?_, ?_, ?_, ?_⟩; all_goals (repeat' (first | (with_reducible exact True.intro) | (with_reducible rfl) | simp only [CC, LL, EE, QQ, seval, List.contains_nil, Bool.false_eq_true, ↓reduceIte, Option.some.injEq, O.arr.injEq, true_and, and_true] | (with_reducible apply And.intro) | (refine ⟨_, rfl, ?_⟩) | (simp [hN]; done) | rfl | omega | trivial)))
  · obtain rfl : k = qs.length := by omega
    repeat' (first | simp (maxSteps := 9999999) only [↓GE, PL, PP, EE, QQ, seval, List.take_length, List.length_map] | (simp (disch := omega) only [IntWalk.i64_in]) | (refine go_brD (fun h => ?_) (fun h => ?_)) | (refine go_gsD (by ((try simp only [EE, QQ, seval]) <;> rfl)) (fun h => ?_) (fun h => ?_)) | (refine go_br (fun h => ?_) (fun h => ?_)) | (refine go_gs (by ((try simp only [EE, QQ, seval]) <;> rfl)) (fun h => ?_) (fun h => ?_)) | (with_reducible apply And.intro) | (with_reducible exact trivial) | omega | (simp only [List.length_map, List.length_cons, List.length_nil] at *; omega) | (show _ = true; first | rfl | kernel_rfl))
    all_goals ((first | apply ret_mk [] | apply end_mk []); (· ((try simp only [CC, LL, EE, QQ, seval]) <;> rfl)); (· ((try simp only [CC, LL, EE, QQ, seval]) <;> repeat' (first | (with_reducible apply And.intro) | rfl | trivial | (exact ⟨_, rfl⟩) | (exact ⟨_, _, _, rfl⟩) | (simp [*, ]; done) | (simp [*, ]; omega) | (simp_all []; done) | (simp_all []; omega)))); all_goals (first | trivial | decide | ((try simp only [CC, LL, EE, QQ, seval]) <;> repeat' (first | (with_reducible apply And.intro) | (exact ⟨_, rfl, rfl, rfl⟩) | (exact ⟨_, _, _, rfl⟩) | (exact ⟨_, rfl⟩) | trivial | rfl | (simp; done)))))
end Go.Proofs.Ytihjmnhjjpdenaa.Sim
