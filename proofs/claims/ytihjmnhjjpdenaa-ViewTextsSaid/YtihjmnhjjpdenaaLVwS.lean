/- ViewParts. -/
import Derived.Test.YtihjmnhjjpdenaaLVwR
namespace Go.Proofs.Ytihjmnhjjpdenaa.Sim
open Go
set_option maxRecDepth 100000
set_option maxHeartbeats 4000000
set_option linter.unusedVariables false
set_option linter.unusedSimpArgs false
attribute [local irreducible] Go Mean
open Go.Proofs.Ytihjmnhjjpdenaa.Vw (flatQ)
theorem sane25 : Does Try.prog 6 [] [] (B true) [] [] := by
  refine go_law25_sane rfl BxOK.nil fun cx hm0 => go_in 5000 ?_
  unfold ac_law25_sane rs_law25_sane
  have e1 : Does Try.prog 10 [.d (dQs [[[1], [2], [3]], [[4], [5], [6]]]), .d (dInts [1, 3])] [] (.tu [vView [1, 3] [[[1], [3]], [[4], [6]]], I 0]) [] [] := vOf [[[1], [2], [3]], [[4], [5], [6]]] [1, 3] (by unfold smQ; decide) (by decide) (by decide)
  have e2 : Does Try.prog 13 [vView [1, 3] [[[1], [3]], [[4], [6]]]] [] (.d (dInts [1, 3, 4, 6])) [] [] := vFlat [1, 3] [[[1], [3]], [[4], [6]]] (by intro q hq x hx n hn; simp at hq; rcases hq with rfl | rfl <;> (simp at hx; rcases hx with rfl | rfl <;> (simp at hn; subst hn; exact ⟨by omega, by omega⟩))) (by decide)
  simp only [dQs, dRows, dInts, List.map_cons, List.map_nil, eQ, eR, eI] at e1 e2
  repeat' (first | simp (maxSteps := 9999999) only [↓GE, PL, PP, EE, QQ, seval, eQ, eR, eI, List.map_cons, List.map_nil, List.length_cons, List.length_nil] | (simp (disch := omega) only [IntWalk.i64_in]) | (refine go_brD (fun h => ?_) (fun h => ?_)) | (refine go_gsD (by ((try simp only [EE, QQ, seval]) <;> rfl)) (fun h => ?_) (fun h => ?_)) | (refine go_br (fun h => ?_) (fun h => ?_)) | (refine go_gs (by ((try simp only [EE, QQ, seval]) <;> rfl)) (fun h => ?_) (fun h => ?_)) | (apply go_call 5000 (e1) rfl rfl; (· ((try simp only [CC, LL, NM, EE, QQ, seval]) <;> (first | rfl | ((repeat constructor); done)))); (· exact CallForm.plain rfl); (· ((try simp only [CC, LL, NM, EE, QQ, seval]) <;> (first | rfl | ((repeat constructor); done)))); (· ((try simp only [CC, LL, NM, EE, QQ, seval]) <;> (first | rfl | ((repeat constructor); done))))) | (apply go_call 5000 (e2) rfl rfl; (· ((try simp only [CC, LL, NM, EE, QQ, seval]) <;> (first | rfl | ((repeat constructor); done)))); (· exact CallForm.plain rfl); (· ((try simp only [CC, LL, NM, EE, QQ, seval]) <;> (first | rfl | ((repeat constructor); done)))); (· ((try simp only [CC, LL, NM, EE, QQ, seval]) <;> (first | rfl | ((repeat constructor); done))))) | (with_reducible apply And.intro) | (with_reducible exact trivial) | omega | (simp only [List.length_map, List.length_cons, List.length_nil] at *; omega) | (show _ = true; first | rfl | kernel_rfl))
  all_goals ((first | apply ret_mk [] | apply end_mk []); (· ((try simp only [CC, LL, EE, QQ, seval]) <;> rfl)); (· ((try simp only [CC, LL, EE, QQ, seval]) <;> repeat' (first | (with_reducible apply And.intro) | rfl | trivial | (exact ⟨_, rfl⟩) | (exact ⟨_, _, _, rfl⟩) | (simp [*, ]; done) | (simp [*, ]; omega) | (simp_all []; done) | (simp_all []; omega)))); all_goals (first | trivial | decide | ((try simp only [CC, LL, EE, QQ, seval]) <;> repeat' (first | (with_reducible apply And.intro) | (exact ⟨_, rfl, rfl, rfl⟩) | (exact ⟨_, _, _, rfl⟩) | (exact ⟨_, rfl⟩) | trivial | rfl | (simp; done)))))
theorem okOf_in {qs : List (List (List Int))} {l : List Int} {n : Nat} (hq : ∀ q ∈ qs, q.length = n) (ha : asc l = true) (hl : ∀ x ∈ l, x ≤ n) : okOf qs l = true ∧ ofE qs l = 0 := by
  have := okPick_in hq hl
  exact ⟨by rw [okOf, ha, this]; rfl, by rw [ofE, if_pos ha, if_pos this]⟩
theorem vOf_in {qs : List (List (List Int))} {l : List Int} {n : Nat} (hq : ∀ q ∈ qs, q.length = n) (hn : n ≤ 6) (hsm : smQ qs) (hll : l.length ≤ 1000) (ha : asc l = true) (hl : ∀ x ∈ l, x ≤ n) :
    Does Try.prog 10 [.d (dQs qs), .d (dInts l)] [] (.tu [vView l (ofQ qs l), I 0]) [] [] := by
  obtain ⟨h1, h2⟩ := okOf_in hq ha hl
  have := vOf qs l hsm hll (fun x hx => by have := hl x hx; omega)
  rw [h1, h2, if_pos rfl, if_pos rfl] at this
  exact this
theorem sumG_zero : ∀ {qs : List (List (List Int))}, sumG qs 0 = 0
  | [] => rfl
  | q :: qs => by
    have ih := sumG_zero (qs := qs)
    simp only [sumG, flatQ, List.map_cons, List.flatMap_cons, List.take_zero, List.flatten_nil, List.nil_append] at ih ⊢
    exact ih
theorem lawParts (s : List UInt8) (hs : s.length ≤ 140737488355328) : Does Try.prog 3 [.d (dBytes s)] [] (B true) [] [] := by
  have hl : (s.take 300).length ≤ 140737488355328 := by rw [List.length_take]; omega
  have e0 := dice s hs
  generalize s.take 300 = l at *
  obtain ⟨qs, k, n, p, h1, h2, h3, h4, hp, hq, e1'⟩ := queries25 l hl 0
  have e1 := e1'.nm1 26000 0 (by omega) rfl rfl rfl rfl rfl
  have hql : ∀ q ∈ qs, q.length = n := fun q h => (hq q h).1
  have hsm := okQ.sm hq h2 h4
  have hin := okQ.inQ hp hq
  have hs0 := getD_map eQ [] [] qs 0 (by omega)
  have hq0 := hql _ (mem_getD [] qs 0 (by omega))
  have hfl := hsm.flat
  refine go_law25_ViewParts rfl BxOK.nil fun cx hm0 => go_in 5000 ?_
  unfold ac_law25_ViewParts rs_law25_ViewParts
  have hz : 0 < qs.length := by omega
  generalize hqq : qs.getD 0 [] = q0 at *
  repeat' (first | simp (maxSteps := 9999999) only [↓GE, PL, PP, EE, QQ, seval, hs0, hz, hq0, eQ, List.length_map] | (simp (disch := omega) only [IntWalk.i64_in]) | (refine go_brD (fun h => ?_) (fun h => ?_)) | (refine go_gsD (by ((try simp only [EE, QQ, seval]) <;> rfl)) (fun h => ?_) (fun h => ?_)) | (refine go_br (fun h => ?_) (fun h => ?_)) | (refine go_gs (by ((try simp only [EE, QQ, seval]) <;> rfl)) (fun h => ?_) (fun h => ?_)) | (apply go_call 5000 (sane25) rfl rfl; (· ((try simp only [CC, LL, NM, EE, QQ, seval]) <;> (first | rfl | ((repeat constructor); done)))); (· exact CallForm.plain rfl); (· ((try simp only [CC, LL, NM, EE, QQ, seval]) <;> (first | rfl | ((repeat constructor); done)))); (· ((try simp only [CC, LL, NM, EE, QQ, seval]) <;> (first | rfl | ((repeat constructor); done))))) | (apply go_call 5000 (e0) rfl rfl; (· ((try simp only [CC, LL, NM, EE, QQ, seval]) <;> (first | rfl | ((repeat constructor); done)))); (· exact CallForm.news rfl rfl); (· ((try simp only [CC, LL, NM, EE, QQ, seval]) <;> (first | rfl | ((repeat constructor); done)))); (· ((try simp only [CC, LL, NM, EE, QQ, seval]) <;> (first | rfl | ((repeat constructor); done))))) | (apply go_call 5000 (e1) rfl rfl; (· ((try simp only [CC, LL, NM, EE, QQ, seval]) <;> (first | rfl | ((repeat constructor); done)))); (· exact CallForm.lent (by (try simp only [CC, LL, NM, EE, QQ, seval]); repeat' (first | trivial | (with_reducible rfl) | omega | (with_reducible apply And.intro) | rfl)) rfl rfl); (· ((try simp only [CC, LL, NM, EE, QQ, seval]) <;> (first | rfl | ((repeat constructor); done)))); (· ((try simp only [CC, LL, NM, EE, QQ, seval]) <;> (first | rfl | ((repeat constructor); done))))) | (with_reducible apply And.intro) | (with_reducible exact trivial) | omega | (simp only [List.length_map, List.length_cons, List.length_nil] at *; omega) | (show _ = true; first | rfl | kernel_rfl))
  refine go_loop 5000 hm0 (ι := {q : Nat × Nat × Nat // q.1 ≤ n}) (fun i => [(3, .bp 26000 0 0), (4, .d (dQs qs)), (5, I n), (6, .og 39 i.1.2.1), (7, .og 46 i.1.2.2), (8, I (i.1.1 + 1 : Nat))]) (fun i => [(39, .arr i.1.2.1 1 true ((allG i.1.1).map eI)), (46, .arr i.1.2.2 1 true ((someG l k i.1.1).1.map eI)), (26000, .box 0 [.d (dBytes l), I (someG l k i.1.1).2])]) (fun i => n - i.1.1) [39, 46] ⟨(0, 0, 0), Nat.zero_le _⟩ ?_ ?_
  · (simp only [GeS]; refine ⟨?_, ?_, ?_, ?_⟩; all_goals (repeat' (first | (with_reducible exact True.intro) | (with_reducible rfl) | simp only [CC, LL, EE, QQ, seval, List.contains_nil, Bool.false_eq_true, ↓reduceIte, Option.some.injEq, O.arr.injEq, true_and, and_true] | (with_reducible apply And.intro) | (refine ⟨_, rfl, ?_⟩) | (simp [allG, someG]; done) | rfl | omega | trivial)))
  rintro ⟨⟨j, v1, v2⟩, hj⟩
  simp only at hj
  have hal := allG_len (n := j)
  have hsl := someG_len (l := l) (k := k) (n := j)
  by_cases hjn : j < n
  · have q1 : decide (((j + 1 : Nat) : Int) ≤ (n : Int)) = true := decide_eq_true (by omega)
    have e2 := (pick l hl (someG l k j).2 2 (by omega)).nm1 26000 0 (by omega) rfl rfl rfl rfl rfl
    have hA : (allG (j + 1)).map eI = (allG j).map eI ++ [eI ((j + 1 : Nat) : Int)] := by rw [allG, List.map_append]; rfl
    have hS2 : (someG l k (j + 1)).2 = pickK l (someG l k j).2 := rfl
    have hS1 : (someG l k (j + 1)).1 = if pickV l (someG l k j).2 2 = 0 then (someG l k j).1 ++ [((j + 1 : Nat) : Int)] else (someG l k j).1 := rfl
    have w1 : IntKind.i64.wrap (((j + 1 : Nat) : Int) + 1) = ((j + 1 + 1 : Nat) : Int) := by rw [show ((j + 1 : Nat) : Int) + 1 = ((j + 1 + 1 : Nat) : Int) by omega]; exact IntWalk.i64_in _ (by omega)
    by_cases hv : pickV l (someG l k j).2 2 = 0
    · rw [if_pos hv] at hS1
      have hS : (someG l k (j + 1)).1.map eI = (someG l k j).1.map eI ++ [eI ((j + 1 : Nat) : Int)] := by rw [hS1, List.map_append]; rfl
      have q2 : (pickV l (someG l k j).2 2 == 0) = true := by rw [beq_iff_eq]; exact hv
      repeat' (first | simp (maxSteps := 9999999) only [↓GE, PL, PP, EE, QQ, seval, q1, q2, hal, w1, List.length_map] | (simp (disch := omega) only [IntWalk.i64_in]) | (refine go_brD (fun h => ?_) (fun h => ?_)) | (refine go_gsD (by ((try simp only [EE, QQ, seval]) <;> rfl)) (fun h => ?_) (fun h => ?_)) | (refine go_br (fun h => ?_) (fun h => ?_)) | (refine go_gs (by ((try simp only [EE, QQ, seval]) <;> rfl)) (fun h => ?_) (fun h => ?_)) | (apply go_call 5000 (e2) rfl rfl; (· ((try simp only [CC, LL, NM, EE, QQ, seval]) <;> (first | rfl | ((repeat constructor); done)))); (· exact CallForm.lent (by (try simp only [CC, LL, NM, EE, QQ, seval]); repeat' (first | trivial | (with_reducible rfl) | omega | (with_reducible apply And.intro) | rfl)) rfl rfl); (· ((try simp only [CC, LL, NM, EE, QQ, seval]) <;> (first | rfl | ((repeat constructor); done)))); (· ((try simp only [CC, LL, NM, EE, QQ, seval]) <;> (first | rfl | ((repeat constructor); done))))) | (with_reducible apply And.intro) | (with_reducible exact trivial) | omega | (simp only [List.length_map, List.length_cons, List.length_nil] at *; omega) | (show _ = true; first | rfl | kernel_rfl))
      refine ⟨⟨(j + 1, v1 + 1, v2 + 1), hjn⟩, ?_, by simp only; omega⟩
      (simp only [GeS]; refine ⟨?_, ?_, ?_, ?_⟩; all_goals (repeat' (first | (with_reducible exact True.intro) | (with_reducible rfl) | simp only [CC, LL, EE, QQ, seval, List.contains_nil, Bool.false_eq_true, ↓reduceIte, Option.some.injEq, O.arr.injEq, true_and, and_true] | (with_reducible apply And.intro) | (refine ⟨_, rfl, ?_⟩) | (simp [hA, hS, hS2, eI]; done) | rfl | omega | trivial)))
    · rw [if_neg hv] at hS1
      have q2 : (pickV l (someG l k j).2 2 == 0) = false := by rw [beq_eq_false_iff_ne]; exact hv
      repeat' (first | simp (maxSteps := 9999999) only [↓GE, PL, PP, EE, QQ, seval, q1, q2, hal, w1, List.length_map] | (simp (disch := omega) only [IntWalk.i64_in]) | (refine go_brD (fun h => ?_) (fun h => ?_)) | (refine go_gsD (by ((try simp only [EE, QQ, seval]) <;> rfl)) (fun h => ?_) (fun h => ?_)) | (refine go_br (fun h => ?_) (fun h => ?_)) | (refine go_gs (by ((try simp only [EE, QQ, seval]) <;> rfl)) (fun h => ?_) (fun h => ?_)) | (apply go_call 5000 (e2) rfl rfl; (· ((try simp only [CC, LL, NM, EE, QQ, seval]) <;> (first | rfl | ((repeat constructor); done)))); (· exact CallForm.lent (by (try simp only [CC, LL, NM, EE, QQ, seval]); repeat' (first | trivial | (with_reducible rfl) | omega | (with_reducible apply And.intro) | rfl)) rfl rfl); (· ((try simp only [CC, LL, NM, EE, QQ, seval]) <;> (first | rfl | ((repeat constructor); done)))); (· ((try simp only [CC, LL, NM, EE, QQ, seval]) <;> (first | rfl | ((repeat constructor); done))))) | (with_reducible apply And.intro) | (with_reducible exact trivial) | omega | (simp only [List.length_map, List.length_cons, List.length_nil] at *; omega) | (show _ = true; first | rfl | kernel_rfl))
      refine ⟨⟨(j + 1, v1 + 1, v2), hjn⟩, ?_, by simp only; omega⟩
      (simp only [GeS]; refine ⟨?_, ?_, ?_, ?_⟩; all_goals (repeat' (first | (with_reducible exact True.intro) | (with_reducible rfl) | simp only [CC, LL, EE, QQ, seval, List.contains_nil, Bool.false_eq_true, ↓reduceIte, Option.some.injEq, O.arr.injEq, true_and, and_true] | (with_reducible apply And.intro) | (refine ⟨_, rfl, ?_⟩) | (simp [hA, hS1, hS2, eI]; done) | rfl | omega | trivial)))
  · obtain rfl : j = n := by omega
    have q1 : decide (((j + 1 : Nat) : Int) ≤ (j : Int)) = false := decide_eq_false (by omega)
    have hsmem := fun x => someG_mem (l := l) (k := k) (n := j) (x := x)
    have hsasc := someG_asc (l := l) (k := k) (n := j)
    have hsall := some_all (l := l) (k := k) (n := j)
    generalize (someG l k j).1 = some at *
    generalize (someG l k j).2 = k2 at *
    have hamem : ∀ x ∈ allG j, 1 ≤ x ∧ x ≤ j := fun x hx => allG_mem.1 hx
    have f1 := vOf_in hql h4 hsm (by omega) allG_asc fun x hx => (hamem x hx).2
    rw [ofQ_all hql] at f1
    have f2 := vOf_in hql h4 hsm (l := some) (by omega) hsasc fun x hx => (hsmem x hx).2
    have g1 : okPart (allG j) qs some = true := by
      rw [okPart, hsasc, allIn_iff.2 fun x hx => allG_mem.2 (hsmem x hx), Bool.true_and, Bool.true_and, List.all_eq_true]
      exact fun q h => decide_eq_true (by rw [hql q h, allG_len])
    have f3 := vPart (allG j) qs some (by omega) hsm (by omega)
    rw [g1, if_pos rfl, if_pos rfl, part_all hsmem] at f3
    have hsm2 := hsm.of (l := some) (by omega)
    have f4 := vSame some some (ofQ qs some) (ofQ qs some) (by omega) (by omega) hsm2 hsm2
    rw [decide_eq_true ⟨rfl, rfl⟩] at f4
    have f5 := vFlat (allG j) qs hin hfl
    have g2 : okPart some (ofQ qs some) (allG j) = decide (some.length = j) := by
      have hsh : ((ofQ qs some).all fun pr => decide (pr.length = some.length)) = true := by
        rw [List.all_eq_true]
        intro q h
        obtain ⟨r, _, rfl⟩ := List.mem_map.1 h
        exact decide_eq_true (by rw [pk, List.length_map, less1, List.length_map])
      rw [okPart, allG_asc, hsh, Bool.true_and, Bool.and_true, Bool.eq_iff_iff, allIn_iff, decide_eq_true_eq]
      exact hsall
    have f6 := vPart some (ofQ qs some) (allG j) (by omega) hsm2 (by omega)
    rw [g2] at f6
    repeat' (first | simp (maxSteps := 9999999) only [↓GE, PL, PP, EE, QQ, seval, q1, List.length_map] | (simp (disch := omega) only [IntWalk.i64_in]) | (refine go_brD (fun h => ?_) (fun h => ?_)) | (refine go_gsD (by ((try simp only [EE, QQ, seval]) <;> rfl)) (fun h => ?_) (fun h => ?_)) | (refine go_br (fun h => ?_) (fun h => ?_)) | (refine go_gs (by ((try simp only [EE, QQ, seval]) <;> rfl)) (fun h => ?_) (fun h => ?_)) | (apply go_call 5000 (f1) rfl rfl; (· ((try simp only [CC, LL, NM, EE, QQ, seval]) <;> (first | rfl | ((repeat constructor); done)))); (· exact CallForm.plain rfl); (· ((try simp only [CC, LL, NM, EE, QQ, seval]) <;> (first | rfl | ((repeat constructor); done)))); (· ((try simp only [CC, LL, NM, EE, QQ, seval]) <;> (first | rfl | ((repeat constructor); done))))) | (apply go_call 5000 (f2) rfl rfl; (· ((try simp only [CC, LL, NM, EE, QQ, seval]) <;> (first | rfl | ((repeat constructor); done)))); (· exact CallForm.plain rfl); (· ((try simp only [CC, LL, NM, EE, QQ, seval]) <;> (first | rfl | ((repeat constructor); done)))); (· ((try simp only [CC, LL, NM, EE, QQ, seval]) <;> (first | rfl | ((repeat constructor); done))))) | (apply go_call 5000 (f3) rfl rfl; (· ((try simp only [CC, LL, NM, EE, QQ, seval]) <;> (first | rfl | ((repeat constructor); done)))); (· exact CallForm.plain rfl); (· ((try simp only [CC, LL, NM, EE, QQ, seval]) <;> (first | rfl | ((repeat constructor); done)))); (· ((try simp only [CC, LL, NM, EE, QQ, seval]) <;> (first | rfl | ((repeat constructor); done))))) | (apply go_call 5000 (f4) rfl rfl; (· ((try simp only [CC, LL, NM, EE, QQ, seval]) <;> (first | rfl | ((repeat constructor); done)))); (· exact CallForm.plain rfl); (· ((try simp only [CC, LL, NM, EE, QQ, seval]) <;> (first | rfl | ((repeat constructor); done)))); (· ((try simp only [CC, LL, NM, EE, QQ, seval]) <;> (first | rfl | ((repeat constructor); done))))) | (with_reducible apply And.intro) | (with_reducible exact trivial) | omega | (simp only [List.length_map, List.length_cons, List.length_nil] at *; omega) | (show _ = true; first | rfl | kernel_rfl))
    refine go_loopz 5000 hm0 (ι := {i : Nat // i ≤ j}) (fun i => [(4, .d (dQs qs)), (5, I j), (6, .d (dInts (allG j))), (7, .d (dInts some)), (9, .bp 9 0 0), (11, .bp 11 0 0), (15, I (sumG qs i.1)), (16, I (i.1 + 1 : Nat))]) (fun i => [(9, .box 0 [.d (dInts (allG j)), .d (dQs qs)]), (11, .box 0 [.d (dInts some), .d (dQs (ofQ qs some))])]) (fun i => j - i.1) [.og 39 v1, .og 46 v2] [] ⟨0, Nat.zero_le _⟩ ?_ ?_
    · simp only [GeZ]; (simp only [GeS]; refine ⟨?_, ?_, ?_, ?_⟩; all_goals (repeat' (first | (with_reducible exact True.intro) | (with_reducible rfl) | simp only [CC, LL, EE, QQ, seval, List.contains_nil, Bool.false_eq_true, ↓reduceIte, Option.some.injEq, O.arr.injEq, true_and, and_true] | (with_reducible apply And.intro) | (refine ⟨_, rfl, ?_⟩) | (simp [sumG_zero]; done) | rfl | omega | trivial)))
    rintro ⟨i, hi⟩
    have hsj := sumG_all hql
    have hsle : ∀ d, i + d ≤ j → sumG qs i ≤ sumG qs (i + d) := fun d => by
      induction d with
      | zero => intro _; exact Nat.le_refl _
      | succ d ih =>
        intro h
        have h1 := sumG_step (j := i + d) (qs := qs) fun q hq => by have := hql q hq; omega
        have h2 := ih (by omega)
        rw [← Nat.add_assoc, h1]; omega
    have hsi := hsle (j - i) (by omega)
    rw [show i + (j - i) = j by omega, hsj] at hsi
    by_cases hij : i < j
    · have q2 : decide (((i + 1 : Nat) : Int) ≤ (j : Int)) = true := decide_eq_true (by omega)
      have hst := sumG_step (j := i) (qs := qs) fun q hq => by have := hql q hq; omega
      have hs1 := hsle 1 (by omega)
      have hs2 := fun h => hsle (j - i) h
      have f7 := vOf_in hql h4 hsm (l := [((i + 1 : Nat) : Int)]) (by simp) (by simp only [asc, ascF, Bool.and_true, decide_eq_true_eq]; omega) (fun x hx => by obtain rfl := List.mem_singleton.1 hx; omega)
      have hsm3 := hsm.of (l := [((i + 1 : Nat) : Int)]) (by simp)
      have hfl3 := hsm3.flat
      have f8 := vFlat [((i + 1 : Nat) : Int)] (ofQ qs [((i + 1 : Nat) : Int)]) hin.of hfl3
      generalize ofQ qs [((i + 1 : Nat) : Int)] = oq at *
      have w1 : IntKind.i64.wrap ((sumG qs i : Int) + ((flatQ oq).length : Int)) = ((sumG qs (i + 1) : Nat) : Int) := by rw [hst, ← Int.natCast_add]; exact IntWalk.i64_in _ (by omega)
      have w2 : IntKind.i64.wrap (((i + 1 : Nat) : Int) + 1) = ((i + 1 + 1 : Nat) : Int) := by rw [show ((i + 1 : Nat) : Int) + 1 = ((i + 1 + 1 : Nat) : Int) by omega]; exact IntWalk.i64_in _ (by omega)
      repeat' (first | simp (maxSteps := 9999999) only [↓GE, PL, PP, EE, QQ, seval, q2, w1, w2, eI, List.length_map, List.map_cons, List.map_nil] | (simp (disch := omega) only [IntWalk.i64_in]) | (refine go_brD (fun h => ?_) (fun h => ?_)) | (refine go_gsD (by ((try simp only [EE, QQ, seval]) <;> rfl)) (fun h => ?_) (fun h => ?_)) | (refine go_br (fun h => ?_) (fun h => ?_)) | (refine go_gs (by ((try simp only [EE, QQ, seval]) <;> rfl)) (fun h => ?_) (fun h => ?_)) | (apply go_call 5000 (f7) rfl rfl; (· ((try simp only [CC, LL, NM, EE, QQ, seval]) <;> (first | rfl | ((repeat constructor); done)))); (· exact CallForm.plain rfl); (· ((try simp only [CC, LL, NM, EE, QQ, seval]) <;> (first | rfl | ((repeat constructor); done)))); (· ((try simp only [CC, LL, NM, EE, QQ, seval]) <;> (first | rfl | ((repeat constructor); done))))) | (apply go_call 5000 (f8) rfl rfl; (· ((try simp only [CC, LL, NM, EE, QQ, seval]) <;> (first | rfl | ((repeat constructor); done)))); (· exact CallForm.plain rfl); (· ((try simp only [CC, LL, NM, EE, QQ, seval]) <;> (first | rfl | ((repeat constructor); done)))); (· ((try simp only [CC, LL, NM, EE, QQ, seval]) <;> (first | rfl | ((repeat constructor); done))))) | (with_reducible apply And.intro) | (with_reducible exact trivial) | omega | (simp only [List.length_map, List.length_cons, List.length_nil] at *; omega) | (show _ = true; first | rfl | kernel_rfl))
      refine ⟨[], [], ⟨i + 1, hij⟩, ?_, by simp only; omega⟩
      simp only [GeZ]; (simp only [GeS]; refine ⟨?_, ?_, ?_, ?_⟩; all_goals (repeat' (first | (with_reducible exact True.intro) | (with_reducible rfl) | simp only [CC, LL, EE, QQ, seval, List.contains_nil, Bool.false_eq_true, ↓reduceIte, Option.some.injEq, O.arr.injEq, true_and, and_true] | (with_reducible apply And.intro) | (refine ⟨_, rfl, ?_⟩) | (simp; done) | rfl | omega | trivial)))
    · obtain rfl : i = j := by omega
      have q2 : decide (((i + 1 : Nat) : Int) ≤ (i : Int)) = false := decide_eq_false (by omega)
      have hdd : (decide (some.length = i) == ((some.length : Int) == (i : Int))) = true := by
        by_cases h : some.length = i
        · rw [decide_eq_true h, h]; simp
        · rw [decide_eq_false h, show ((some.length : Int) == (i : Int)) = false by rw [beq_eq_false_iff_ne]; omega]; rfl
      repeat' (first | simp (maxSteps := 9999999) only [↓GE, PL, PP, EE, QQ, seval, q2, hsj, List.length_map] | (simp (disch := omega) only [IntWalk.i64_in]) | (refine go_brD (fun h => ?_) (fun h => ?_)) | (refine go_gsD (by ((try simp only [EE, QQ, seval]) <;> rfl)) (fun h => ?_) (fun h => ?_)) | (refine go_br (fun h => ?_) (fun h => ?_)) | (refine go_gs (by ((try simp only [EE, QQ, seval]) <;> rfl)) (fun h => ?_) (fun h => ?_)) | (apply go_call 5000 (f5) rfl rfl; (· ((try simp only [CC, LL, NM, EE, QQ, seval]) <;> (first | rfl | ((repeat constructor); done)))); (· exact CallForm.plain rfl); (· ((try simp only [CC, LL, NM, EE, QQ, seval]) <;> (first | rfl | ((repeat constructor); done)))); (· ((try simp only [CC, LL, NM, EE, QQ, seval]) <;> (first | rfl | ((repeat constructor); done))))) | (apply go_call 5000 (f6) rfl rfl; (· ((try simp only [CC, LL, NM, EE, QQ, seval]) <;> (first | rfl | ((repeat constructor); done)))); (· exact CallForm.plain rfl); (· ((try simp only [CC, LL, NM, EE, QQ, seval]) <;> (first | rfl | ((repeat constructor); done)))); (· ((try simp only [CC, LL, NM, EE, QQ, seval]) <;> (first | rfl | ((repeat constructor); done))))) | (with_reducible apply And.intro) | (with_reducible exact trivial) | omega | (simp only [List.length_map, List.length_cons, List.length_nil] at *; omega) | (show _ = true; first | rfl | kernel_rfl))
      all_goals ((first | apply ret_mk [] | apply end_mk []); (· ((try simp only [CC, LL, EE, QQ, seval]) <;> rfl)); (· ((try simp only [CC, LL, EE, QQ, seval]) <;> repeat' (first | (with_reducible apply And.intro) | rfl | trivial | (exact ⟨_, rfl⟩) | (exact ⟨_, _, _, rfl⟩) | (simp [*, hdd]; done) | (simp [*, hdd]; omega) | (simp_all [hdd]; done) | (simp_all [hdd]; omega)))); all_goals (first | trivial | decide | ((try simp only [CC, LL, EE, QQ, seval]) <;> repeat' (first | (with_reducible apply And.intro) | (exact ⟨_, rfl, rfl, rfl⟩) | (exact ⟨_, _, _, rfl⟩) | (exact ⟨_, rfl⟩) | trivial | rfl | (simp; done)))))
end Go.Proofs.Ytihjmnhjjpdenaa.Sim
