/- ViewTexts. -/
import Derived.Test.YtihjmnhjjpdenaaLVwU
import Derived.Test.YtihjmnhjjpdenaaLVwS
namespace Go.Proofs.Ytihjmnhjjpdenaa.Sim
open Go Go.RowKit
set_option maxRecDepth 100000
set_option maxHeartbeats 8000000
set_option linter.unusedVariables false
set_option linter.unusedSimpArgs false
attribute [local irreducible] Go Mean
theorem loop_eq (bs : ByteArray) : ∀ (n i : Nat) (r : List UInt8), bs.size - i = n → ByteArray.toList.loop bs i r = r.reverse ++ bs.data.toList.drop i := by
  intro n
  induction n with
  | zero =>
    intro i r h
    rw [ByteArray.toList.loop, if_neg (by omega), List.drop_of_length_le (by show bs.data.toList.length ≤ i; have : bs.size = bs.data.toList.length := rfl; omega), List.append_nil]
  | succ n ih =>
    intro i r h
    have hi : i < bs.data.toList.length := by have : bs.size = bs.data.toList.length := rfl; omega
    rw [ByteArray.toList.loop, if_pos (by omega), ih (i + 1) _ (by omega), List.drop_eq_getElem_cons hi]
    have : bs.get! i = bs.data.toList[i] := by
      show bs.data[i]! = _
      rw [getElem!_pos bs.data i (by simpa using hi)]; simp
    rw [this]; simp
theorem toList_mk (l : List UInt8) : (ByteArray.mk l.toArray).toList = l := by
  rw [ByteArray.toList, loop_eq _ _ 0 [] rfl]; simp
def eV (x : List Int × List (List (List Int))) : List D := [dInts x.1, dQs x.2]
def okVw (x : List Int × List (List (List Int))) : Prop := x.1.length ≤ 1000 ∧ (∀ n ∈ x.1, I64 n) ∧ smQ x.2 ∧ inQ x.2
def okC (C : List (List (List Int))) : Prop := ∀ c ∈ C, c.length ≤ 1000 ∧ ∀ x ∈ c, x.length ≤ 1000 ∧ ∀ n ∈ x, I64 n
def okR (L : List (List Int)) : Prop := ∀ x ∈ L, x.length ≤ 1000 ∧ ∀ n ∈ x, I64 n
theorem okC_snoc {C : List (List (List Int))} {c : List (List Int)} (h : okC C) (h1 : c.length ≤ 1000) (h2 : okR c) : okC (C ++ [c]) := fun x hx => by
  rcases List.mem_append.1 hx with hx | hx
  · exact h x hx
  · obtain rfl := List.mem_singleton.1 hx; exact ⟨h1, h2⟩
theorem okR_snoc {L : List (List Int)} {x : List Int} (h : okR L) (h1 : x.length ≤ 1000) (h2 : ∀ n ∈ x, I64 n) : okR (L ++ [x]) := fun y hy => by
  rcases List.mem_append.1 hy with hy | hy
  · exact h y hy
  · obtain rfl := List.mem_singleton.1 hy; exact ⟨h1, h2⟩
theorem lawTexts (s : List UInt8) (hs : s.length ≤ 140737488355328) : Does Try.prog 4 [.d (dBytes s)] [] (B true) [] [] := by
  have hl : (s.take 300).length ≤ 140737488355328 := by rw [List.length_take]; omega
  have e0 := dice s hs
  generalize s.take 300 = l at *
  obtain ⟨qs, k0, n, p, h1, h2, h3, h4, hp, hq, e1'⟩ := queries25 l hl 0
  have e1 := e1'.nm1 26000 0 (by omega) rfl rfl rfl rfl rfl
  have hql : ∀ q ∈ qs, q.length = n := fun q h => (hq q h).1
  have hsm := okQ.sm hq h2 h4
  have hin := okQ.inQ hp hq
  have hpl := hp.le
  have e2 := (pick l hl k0 2 (by omega)).nm1 26000 0 (by omega) rfl rfl rfl rfl rfl
  have a2 := pickV_in l k0 2 (by omega)
  generalize pickV l k0 2 = v at *
  generalize pickK l k0 = k1 at *
  have f1 := vOf_in hql h4 hsm (l := [1, 2]) (by decide) (by decide) (fun x hx => by simp at hx; omega)
  have f2 := vOf_in hql h4 hsm (l := [1, 2 + v]) (by simp) (by simp only [asc, ascF, Bool.and_true, Bool.and_eq_true, decide_eq_true_eq]; omega) (fun x hx => by simp at hx; omega)
  have hsA := hsm.of (l := [1, 2]) (by decide)
  have hsB := hsm.of (l := [1, 2 + v]) (by simp)
  have hiA := hin.of (l := [1, 2])
  have hiB := hin.of (l := [1, 2 + v])
  have hbA : ∀ q ∈ ofQ qs [1, 2], ∀ x ∈ q, ∀ n ∈ x, 0 ≤ n ∧ n ≤ 257 := by
    intro q hq1 x hx n hn
    obtain ⟨r, hr, rfl⟩ := List.mem_map.1 hq1
    obtain ⟨i, _, rfl⟩ := List.mem_map.1 hx
    rw [pk1] at hn
    by_cases h1 : i.toNat < r.length
    · have := ((hq r hr).2 _ (mem_getD [] r _ h1)).2 n hn; omega
    · rw [List.getD_eq_getElem?_getD, List.getElem?_eq_none (by omega)] at hn; simp at hn
  generalize ofQ qs [1, 2] = A at *
  generalize ofQ qs [1, 2 + v] = Bq at *
  have hA1 := hsA.1
  refine go_law25_ViewTexts rfl BxOK.nil fun cx hm0 => go_in 5000 ?_
  unfold ac_law25_ViewTexts rs_law25_ViewTexts
  have w1 : IntKind.i64.wrap (2 + v) = 2 + v := IntWalk.i64_in _ (by omega)
  repeat' (first | simp (maxSteps := 9999999) only [↓GE, PL, PP, EE, QQ, seval, w1, eI, List.length_map, List.map_cons, List.map_nil] | (simp (disch := omega) only [IntWalk.i64_in]) | (refine go_brD (fun h => ?_) (fun h => ?_)) | (refine go_gsD (by ((try simp only [EE, QQ, seval]) <;> rfl)) (fun h => ?_) (fun h => ?_)) | (refine go_br (fun h => ?_) (fun h => ?_)) | (refine go_gs (by ((try simp only [EE, QQ, seval]) <;> rfl)) (fun h => ?_) (fun h => ?_)) | (apply go_call 5000 (sane25) rfl rfl; (· ((try simp only [CC, LL, NM, EE, QQ, seval]) <;> (first | rfl | ((repeat constructor); done)))); (· exact CallForm.plain rfl); (· ((try simp only [CC, LL, NM, EE, QQ, seval]) <;> (first | rfl | ((repeat constructor); done)))); (· ((try simp only [CC, LL, NM, EE, QQ, seval]) <;> (first | rfl | ((repeat constructor); done))))) | (apply go_call 5000 (e0) rfl rfl; (· ((try simp only [CC, LL, NM, EE, QQ, seval]) <;> (first | rfl | ((repeat constructor); done)))); (· exact CallForm.news rfl rfl); (· ((try simp only [CC, LL, NM, EE, QQ, seval]) <;> (first | rfl | ((repeat constructor); done)))); (· ((try simp only [CC, LL, NM, EE, QQ, seval]) <;> (first | rfl | ((repeat constructor); done))))) | (apply go_call 5000 (e1) rfl rfl; (· ((try simp only [CC, LL, NM, EE, QQ, seval]) <;> (first | rfl | ((repeat constructor); done)))); (· exact CallForm.lent (by (try simp only [CC, LL, NM, EE, QQ, seval]); repeat' (first | trivial | (with_reducible rfl) | omega | (with_reducible apply And.intro) | rfl)) rfl rfl); (· ((try simp only [CC, LL, NM, EE, QQ, seval]) <;> (first | rfl | ((repeat constructor); done)))); (· ((try simp only [CC, LL, NM, EE, QQ, seval]) <;> (first | rfl | ((repeat constructor); done))))) | (apply go_call 5000 (f1) rfl rfl; (· ((try simp only [CC, LL, NM, EE, QQ, seval]) <;> (first | rfl | ((repeat constructor); done)))); (· exact CallForm.plain rfl); (· ((try simp only [CC, LL, NM, EE, QQ, seval]) <;> (first | rfl | ((repeat constructor); done)))); (· ((try simp only [CC, LL, NM, EE, QQ, seval]) <;> (first | rfl | ((repeat constructor); done))))) | (apply go_call 5000 (e2) rfl rfl; (· ((try simp only [CC, LL, NM, EE, QQ, seval]) <;> (first | rfl | ((repeat constructor); done)))); (· exact CallForm.lent (by (try simp only [CC, LL, NM, EE, QQ, seval]); repeat' (first | trivial | (with_reducible rfl) | omega | (with_reducible apply And.intro) | rfl)) rfl rfl); (· ((try simp only [CC, LL, NM, EE, QQ, seval]) <;> (first | rfl | ((repeat constructor); done)))); (· ((try simp only [CC, LL, NM, EE, QQ, seval]) <;> (first | rfl | ((repeat constructor); done))))) | (apply go_call 5000 (f2) rfl rfl; (· ((try simp only [CC, LL, NM, EE, QQ, seval]) <;> (first | rfl | ((repeat constructor); done)))); (· exact CallForm.plain rfl); (· ((try simp only [CC, LL, NM, EE, QQ, seval]) <;> (first | rfl | ((repeat constructor); done)))); (· ((try simp only [CC, LL, NM, EE, QQ, seval]) <;> (first | rfl | ((repeat constructor); done))))) | (with_reducible apply And.intro) | (with_reducible exact trivial) | omega | (simp only [List.length_map, List.length_cons, List.length_nil] at *; omega) | (show _ = true; first | rfl | kernel_rfl))
  refine go_loop 5000 hm0 (ι := {q : Nat × Nat × List (List (List Int)) × Nat // q.1 ≤ A.length ∧ q.2.2.1.length = q.1 ∧ okC q.2.2.1}) (fun i => [(3, .bp 26000 0 0), (5, .bp 5 0 0), (6, I 0), (7, .bp 7 0 0), (8, I 0), (9, .bp 9 0 0), (48, .d (dQs A)), (49, I A.length), (50, I i.1.1)]) (fun i => [(5, .box 0 [.d (dInts [1, 2]), .d (dQs A)]), (7, .box 0 [.d (dInts [1, 2 + v]), .d (dQs Bq)]), (9, .box 0 [.og 42 1, .og 96 i.1.2.1]), (42, .arr 1 1 true ([1, 2].map eI)), (96, .arr i.1.2.1 1 true (i.1.2.2.1.map eQ)), (26000, .box 0 [.d (dBytes l), I i.1.2.2.2])]) (fun i => A.length - i.1.1) [96] ⟨(0, 0, [], k1), Nat.zero_le _, rfl, fun c hc => by cases hc⟩ ?_ ?_
  · (simp only [GeS]; refine ⟨?_, ?_, ?_, ?_⟩; all_goals (repeat' (first | (with_reducible exact True.intro) | (with_reducible rfl) | simp only [CC, LL, EE, QQ, seval, List.contains_nil, Bool.false_eq_true, ↓reduceIte, Option.some.injEq, O.arr.injEq, true_and, and_true] | (with_reducible apply And.intro) | (refine ⟨_, rfl, ?_⟩) | (simp [eI]; done) | rfl | omega | trivial)))
  rintro ⟨⟨k, v96, C, kk⟩, hk, hCl, hC⟩
  simp only at hk hCl hC
  by_cases hkl : k < A.length
  · have hs1 := getD_map eQ [] [] A k hkl
    have hmA := mem_getD [] A k hkl
    have hpr := hsA.2 _ hmA
    have hpb := hbA _ hmA
    generalize A.getD k [] = pr at *
    have hp1 := hpr.1
    repeat' (first | simp (maxSteps := 9999999) only [↓GE, PL, PP, EE, QQ, seval, hs1, hkl, eQ, List.length_map] | (simp (disch := omega) only [IntWalk.i64_in]) | (refine go_brD (fun h => ?_) (fun h => ?_)) | (refine go_gsD (by ((try simp only [EE, QQ, seval]) <;> rfl)) (fun h => ?_) (fun h => ?_)) | (refine go_br (fun h => ?_) (fun h => ?_)) | (refine go_gs (by ((try simp only [EE, QQ, seval]) <;> rfl)) (fun h => ?_) (fun h => ?_)) | (with_reducible apply And.intro) | (with_reducible exact trivial) | omega | (simp only [List.length_map, List.length_cons, List.length_nil] at *; omega) | (show _ = true; first | rfl | kernel_rfl))
    refine go_loop 5000 hm0 (ι := {q : Nat × Nat × List (List Int) × Nat // q.1 ≤ pr.length ∧ q.2.2.1.length = q.1 ∧ okR q.2.2.1}) (fun i => [(3, .bp 26000 0 0), (5, .bp 5 0 0), (6, I 0), (7, .bp 7 0 0), (8, I 0), (9, .bp 9 0 0), (10, I k), (12, .og 90 i.1.2.1), (48, .d (dQs A)), (49, I A.length), (50, I k), (55, .d (dRows pr)), (56, I pr.length), (57, I i.1.1)]) (fun i => [(5, .box 0 [.d (dInts [1, 2]), .d (dQs A)]), (7, .box 0 [.d (dInts [1, 2 + v]), .d (dQs Bq)]), (9, .box 0 [.og 42 1, .og 96 v96]), (42, .arr 1 1 true ([1, 2].map eI)), (90, .arr i.1.2.1 1 true (i.1.2.2.1.map eR)), (96, .arr v96 1 true (C.map eQ)), (26000, .box 0 [.d (dBytes l), I i.1.2.2.2])]) (fun i => pr.length - i.1.1) [90] ⟨(0, 0, [], kk), Nat.zero_le _, rfl, fun c hc => by cases hc⟩ ?_ ?_
    · (simp only [GeS]; refine ⟨?_, ?_, ?_, ?_⟩; all_goals (repeat' (first | (with_reducible exact True.intro) | (with_reducible rfl) | simp only [CC, LL, EE, QQ, seval, List.contains_nil, Bool.false_eq_true, ↓reduceIte, Option.some.injEq, O.arr.injEq, true_and, and_true] | (with_reducible apply And.intro) | (refine ⟨_, rfl, ?_⟩) | (simp [eI]; done) | rfl | omega | trivial)))
    rintro ⟨⟨j, v90, L, kj⟩, hj, hLl, hL⟩
    simp only at hj hLl hL
    by_cases hjl : j < pr.length
    · have hs2 := getD_map eR [] [] pr j hjl
      have hmp := mem_getD [] pr j hjl
      have hr1 := hpr.2 _ hmp
      have hrb := hpb _ hmp
      generalize pr.getD j [] = y at *
      have hyi : ∀ n ∈ y, I64 n := fun n hn => by have := hrb n hn; exact ⟨by omega, by omega⟩
      by_cases hc : 0 < y.length ∧ k = 0 ∧ j = 0
      · obtain ⟨c1, rfl, rfl⟩ := hc
        have q1 : decide ((y.length : Int) > 0) = true := decide_eq_true (by omega)
        have e3 := (pick l hl kj y.length (by omega)).nm1 26000 0 (by omega) rfl rfl rfl rfl rfl
        have a3 := pickV_in l kj y.length (by omega)
        generalize pickV l kj y.length = b at *
        generalize pickK l kj = kj1 at *
        have e4 := (pick l hl kj1 2 (by omega)).nm1 26000 0 (by omega) rfl rfl rfl rfl rfl
        have a4 := pickV_in l kj1 2 (by omega)
        generalize pickV l kj1 2 = dd at *
        generalize pickK l kj1 = kj2 at *
        obtain ⟨bn, rfl⟩ : ∃ bn : Nat, b = bn := ⟨b.toNat, by omega⟩
        have hbn : bn < y.length := by omega
        have hs3 := getD_map eI [] 0 y bn hbn
        have hyb := hrb _ (mem_getD 0 y bn hbn)
        have hset : (y.map eI).set bn [D.at (.int .i64 (y.getD bn 0 + dd))] = (y.set bn (y.getD bn 0 + dd)).map eI := by rw [List.map_set]; rfl
        have hz1 : (y.set bn (y.getD bn 0 + dd)).length ≤ 1000 := by rw [List.length_set]; exact hr1
        have hz2 : ∀ n ∈ y.set bn (y.getD bn 0 + dd), I64 n := fun n hn => by
          rcases List.mem_or_eq_of_mem_set hn with h | rfl
          · exact hyi n h
          · exact ⟨by omega, by omega⟩
        generalize y.set bn (y.getD bn 0 + dd) = zz at *
        generalize y.getD bn 0 = yb at *
        have w2 : IntKind.i64.wrap (yb + dd) = yb + dd := IntWalk.i64_in _ (by omega)
        repeat' (first | simp (maxSteps := 9999999) only [↓GE, PL, PP, EE, QQ, seval, hs2, hjl, q1, hs3, hbn, w2, hset, hLl, eI, eR, List.length_map, List.nil_append, List.drop_succ_cons, List.drop_zero] | (simp (disch := omega) only [IntWalk.i64_in]) | (refine go_brD (fun h => ?_) (fun h => ?_)) | (refine go_gsD (by ((try simp only [EE, QQ, seval]) <;> rfl)) (fun h => ?_) (fun h => ?_)) | (refine go_br (fun h => ?_) (fun h => ?_)) | (refine go_gs (by ((try simp only [EE, QQ, seval]) <;> rfl)) (fun h => ?_) (fun h => ?_)) | (apply go_call 5000 (e3) rfl rfl; (· ((try simp only [CC, LL, NM, EE, QQ, seval]) <;> (first | rfl | ((repeat constructor); done)))); (· exact CallForm.lent (by (try simp only [CC, LL, NM, EE, QQ, seval]); repeat' (first | trivial | (with_reducible rfl) | omega | (with_reducible apply And.intro) | rfl)) rfl rfl); (· ((try simp only [CC, LL, NM, EE, QQ, seval]) <;> (first | rfl | ((repeat constructor); done)))); (· ((try simp only [CC, LL, NM, EE, QQ, seval]) <;> (first | rfl | ((repeat constructor); done))))) | (apply go_call 5000 (e4) rfl rfl; (· ((try simp only [CC, LL, NM, EE, QQ, seval]) <;> (first | rfl | ((repeat constructor); done)))); (· exact CallForm.lent (by (try simp only [CC, LL, NM, EE, QQ, seval]); repeat' (first | trivial | (with_reducible rfl) | omega | (with_reducible apply And.intro) | rfl)) rfl rfl); (· ((try simp only [CC, LL, NM, EE, QQ, seval]) <;> (first | rfl | ((repeat constructor); done)))); (· ((try simp only [CC, LL, NM, EE, QQ, seval]) <;> (first | rfl | ((repeat constructor); done))))) | (with_reducible apply And.intro) | (with_reducible exact trivial) | omega | (simp only [List.length_map, List.length_cons, List.length_nil] at *; omega) | (show _ = true; first | rfl | kernel_rfl))
        refine ⟨⟨(1, v90 + 1, L ++ [zz], kj2), hjl, by simp [hLl], okR_snoc hL hz1 hz2⟩, ?_, by simp only; omega⟩
        (simp only [GeS]; refine ⟨?_, ?_, ?_, ?_⟩; all_goals (repeat' (first | (with_reducible exact True.intro) | (with_reducible rfl) | simp only [CC, LL, EE, QQ, seval, List.contains_nil, Bool.false_eq_true, ↓reduceIte, Option.some.injEq, O.arr.injEq, true_and, and_true] | (with_reducible apply And.intro) | (refine ⟨_, rfl, ?_⟩) | (simp [eR, eI]; done) | rfl | omega | trivial)))
      · have hN := okR_snoc hL hr1 hyi
        have q1 : (decide ((y.length : Int) > 0) && (((k : Int) == 0) && ((j : Int) == 0))) = false := by
          rw [Bool.eq_false_iff]
          intro h
          simp only [Bool.and_eq_true, decide_eq_true_eq, beq_iff_eq] at h
          exact hc ⟨by omega, by omega, by omega⟩
        repeat' (first | simp (maxSteps := 9999999) only [↓GE, PL, PP, EE, QQ, seval, hs2, hjl, hLl, eI, eR, List.length_map, List.nil_append] | (simp (disch := omega) only [IntWalk.i64_in]) | (refine go_brD (fun h => ?_) (fun h => ?_)) | (refine go_gsD (by ((try simp only [EE, QQ, seval]) <;> rfl)) (fun h => ?_) (fun h => ?_)) | (refine go_br (fun h => ?_) (fun h => ?_)) | (refine go_gs (by ((try simp only [EE, QQ, seval]) <;> rfl)) (fun h => ?_) (fun h => ?_)) | (with_reducible apply And.intro) | (with_reducible exact trivial) | omega | (simp only [List.length_map, List.length_cons, List.length_nil] at *; omega) | (show _ = true; first | rfl | kernel_rfl))
        all_goals
          refine ⟨⟨(j + 1, v90 + 1, L ++ [y], kj), hjl, by simp [hLl], hN⟩, ?_, by simp only; omega⟩
          (simp only [GeS]; refine ⟨?_, ?_, ?_, ?_⟩; all_goals (repeat' (first | (with_reducible exact True.intro) | (with_reducible rfl) | simp only [CC, LL, EE, QQ, seval, List.contains_nil, Bool.false_eq_true, ↓reduceIte, Option.some.injEq, O.arr.injEq, true_and, and_true] | (with_reducible apply And.intro) | (refine ⟨_, rfl, ?_⟩) | (simp [eR, eI]; done) | rfl | omega | trivial)))
    · obtain rfl : j = pr.length := by omega
      have hN := okC_snoc hC (c := L) (by omega) hL
      repeat' (first | simp (maxSteps := 9999999) only [↓GE, PL, PP, EE, QQ, seval, hCl, List.length_map] | (simp (disch := omega) only [IntWalk.i64_in]) | (refine go_brD (fun h => ?_) (fun h => ?_)) | (refine go_gsD (by ((try simp only [EE, QQ, seval]) <;> rfl)) (fun h => ?_) (fun h => ?_)) | (refine go_br (fun h => ?_) (fun h => ?_)) | (refine go_gs (by ((try simp only [EE, QQ, seval]) <;> rfl)) (fun h => ?_) (fun h => ?_)) | (with_reducible apply And.intro) | (with_reducible exact trivial) | omega | (simp only [List.length_map, List.length_cons, List.length_nil] at *; omega) | (show _ = true; first | rfl | kernel_rfl))
      refine ⟨⟨(k + 1, v96 + 1, C ++ [L], kj), hkl, by simp [hCl], hN⟩, ?_, by simp only; omega⟩
      (simp only [GeS]; refine ⟨?_, ?_, ?_, ?_⟩; all_goals (repeat' (first | (with_reducible exact True.intro) | (with_reducible rfl) | simp only [CC, LL, EE, QQ, seval, List.contains_nil, Bool.false_eq_true, ↓reduceIte, Option.some.injEq, O.arr.injEq, true_and, and_true] | (with_reducible apply And.intro) | (refine ⟨_, rfl, ?_⟩) | (simp [eQ, eI]; done) | rfl | omega | trivial)))
  · obtain rfl : k = A.length := by omega
    have hB1 := hsB.1
    have hCs : smQ C := ⟨by omega, fun q hq => ⟨(hC q hq).1, fun x hx => ((hC q hq).2 x hx).1⟩⟩
    have hCi : inQ C := fun q hq x hx n hn => ((hC q hq).2 x hx).2 n hn
    have hok : ∀ x ∈ [([1, 2], A), ([1, 2 + v], Bq), ([1, 2], C)], okVw x := by
      intro x hx
      simp only [List.mem_cons, List.not_mem_nil, or_false] at hx
      rcases hx with rfl | rfl | rfl
      · exact ⟨by simp, by intro n hn; simp at hn; exact ⟨by omega, by omega⟩, hsA, hiA⟩
      · exact ⟨by simp, by intro n hn; simp at hn; exact ⟨by omega, by omega⟩, hsB, hiB⟩
      · exact ⟨by simp, by intro n hn; simp at hn; exact ⟨by omega, by omega⟩, hCs, hCi⟩
    have hvs : [[dInts [1, 2], dQs A], [dInts [1, 2 + v], dQs Bq], [dInts [1, 2], dQs C]] = [([1, 2], A), ([1, 2 + v], Bq), ([1, 2], C)].map eV := rfl
    have hvl : [([1, 2], A), ([1, 2 + v], Bq), ([1, 2], C)].length = 3 := rfl
    repeat' (first | simp (maxSteps := 9999999) only [↓GE, PL, PP, EE, QQ, seval, List.length_map] | (simp (disch := omega) only [IntWalk.i64_in]) | (refine go_brD (fun h => ?_) (fun h => ?_)) | (refine go_gsD (by ((try simp only [EE, QQ, seval]) <;> rfl)) (fun h => ?_) (fun h => ?_)) | (refine go_br (fun h => ?_) (fun h => ?_)) | (refine go_gs (by ((try simp only [EE, QQ, seval]) <;> rfl)) (fun h => ?_) (fun h => ?_)) | (with_reducible apply And.intro) | (with_reducible exact trivial) | omega | (simp only [List.length_map, List.length_cons, List.length_nil] at *; omega) | (show _ = true; first | rfl | kernel_rfl))
    generalize hvv : [([1, 2], A), ([1, 2 + v], Bq), ([1, 2], C)] = vs at *
    refine go_loopz 5000 hm0 (ι := {i : Nat // i ≤ 3}) (fun i => [(16, .d (.sl 2 (vs.map eV))), (109, .d (.sl 2 (vs.map eV))), (110, I 3), (111, I i.1)]) (fun i => []) (fun i => 3 - i.1) [.og 108 0] [] ⟨0, Nat.zero_le _⟩ ?_ ?_
    · simp only [GeZ]; (simp only [GeS]; refine ⟨?_, ?_, ?_, ?_⟩; all_goals (repeat' (first | (with_reducible exact True.intro) | (with_reducible rfl) | simp only [CC, LL, EE, QQ, seval, List.contains_nil, Bool.false_eq_true, ↓reduceIte, Option.some.injEq, O.arr.injEq, true_and, and_true] | (with_reducible apply And.intro) | (refine ⟨_, rfl, ?_⟩) | (simp [← hvs, eI]; done) | rfl | omega | trivial)))
    rintro ⟨i, hi⟩
    by_cases hi3 : i < 3
    · have hs4 := getD_map eV [] ([], []) vs i (by omega)
      have ox := hok _ (mem_getD ([], []) vs i (by omega))
      generalize vs.getD i ([], []) = x at *
      have q1 : decide ((i : Int) < 3) = true := decide_eq_true (by omega)
      have hiv : i < vs.length := by omega
      repeat' (first | simp (maxSteps := 9999999) only [↓GE, PL, PP, EE, QQ, seval, hs4, q1, hiv, hvl, eV, List.length_map] | (simp (disch := omega) only [IntWalk.i64_in]) | (refine go_brD (fun h => ?_) (fun h => ?_)) | (refine go_gsD (by ((try simp only [EE, QQ, seval]) <;> rfl)) (fun h => ?_) (fun h => ?_)) | (refine go_br (fun h => ?_) (fun h => ?_)) | (refine go_gs (by ((try simp only [EE, QQ, seval]) <;> rfl)) (fun h => ?_) (fun h => ?_)) | (with_reducible apply And.intro) | (with_reducible exact trivial) | omega | (simp only [List.length_map, List.length_cons, List.length_nil] at *; omega) | (show _ = true; first | rfl | kernel_rfl))
      refine go_loop 5000 hm0 (ι := {j : Nat // j ≤ 3}) (fun j => [(16, .d (.sl 2 (vs.map eV))), (18, .bp 18 0 0), (109, .d (.sl 2 (vs.map eV))), (110, I 3), (111, I i), (115, .d (.sl 2 (vs.map eV))), (116, I 3), (117, I j.1)]) (fun j => [(18, .box 0 [.d (dInts x.1), .d (dQs x.2)])]) (fun j => 3 - j.1) [] ⟨0, Nat.zero_le _⟩ ?_ ?_
      · (simp only [GeS]; refine ⟨?_, ?_, ?_, ?_⟩; all_goals (repeat' (first | (with_reducible exact True.intro) | (with_reducible rfl) | simp only [CC, LL, EE, QQ, seval, List.contains_nil, Bool.false_eq_true, ↓reduceIte, Option.some.injEq, O.arr.injEq, true_and, and_true] | (with_reducible apply And.intro) | (refine ⟨_, rfl, ?_⟩) | (simp [hvl]; done) | rfl | omega | trivial)))
      rintro ⟨j, hj⟩
      by_cases hj3 : j < 3
      · have hs5 := getD_map eV [] ([], []) vs j (by omega)
        have oy := hok _ (mem_getD ([], []) vs j (by omega))
        generalize vs.getD j ([], []) = y at *
        have q2 : decide ((j : Int) < 3) = true := decide_eq_true (by omega)
        have hjv : j < vs.length := by omega
        have e5 := vText x.1 x.2 ox.1 ox.2.1 ox.2.2.1 ox.2.2.2
        have e6 := vText y.1 y.2 oy.1 oy.2.1 oy.2.2.1 oy.2.2.2
        have e7 := vSame x.1 y.1 x.2 y.2 ox.1 oy.1 ox.2.2.1 oy.2.2.1
        have hteq := txt_eq (sv := x.1) (sw := y.1) (qs := x.2) (rs := y.2) ⟨ox.1, ox.2.1⟩ ⟨oy.1, oy.2.1⟩ (okL3_of ox.2.2.1 ox.2.2.2) (okL3_of oy.2.2.1 oy.2.2.2)
        have q3 : ((({ data := (txt x.1 x.2).toArray } : ByteArray).toList == ({ data := (txt y.1 y.2).toArray } : ByteArray).toList) != decide (x.1 = y.1 ∧ x.2 = y.2)) = false := by
          rw [toList_mk, toList_mk]
          by_cases h : x.1 = y.1 ∧ x.2 = y.2
          · rw [decide_eq_true h, hteq.2 h]; simp
          · rw [decide_eq_false h, show (txt x.1 x.2 == txt y.1 y.2) = false by rw [beq_eq_false_iff_ne]; exact fun hh => h (hteq.1 hh)]; rfl
        repeat' (first | simp (maxSteps := 9999999) only [↓GE, PL, PP, EE, QQ, seval, hs5, q2, q3, hjv, hvl, eV, List.length_map] | (simp (disch := omega) only [IntWalk.i64_in]) | (refine go_brD (fun h => ?_) (fun h => ?_)) | (refine go_gsD (by ((try simp only [EE, QQ, seval]) <;> rfl)) (fun h => ?_) (fun h => ?_)) | (refine go_br (fun h => ?_) (fun h => ?_)) | (refine go_gs (by ((try simp only [EE, QQ, seval]) <;> rfl)) (fun h => ?_) (fun h => ?_)) | (apply go_call 5000 (e5) rfl rfl; (· ((try simp only [CC, LL, NM, EE, QQ, seval]) <;> (first | rfl | ((repeat constructor); done)))); (· exact CallForm.plain rfl); (· ((try simp only [CC, LL, NM, EE, QQ, seval]) <;> (first | rfl | ((repeat constructor); done)))); (· ((try simp only [CC, LL, NM, EE, QQ, seval]) <;> (first | rfl | ((repeat constructor); done))))) | (apply go_call 5000 (e6) rfl rfl; (· ((try simp only [CC, LL, NM, EE, QQ, seval]) <;> (first | rfl | ((repeat constructor); done)))); (· exact CallForm.plain rfl); (· ((try simp only [CC, LL, NM, EE, QQ, seval]) <;> (first | rfl | ((repeat constructor); done)))); (· ((try simp only [CC, LL, NM, EE, QQ, seval]) <;> (first | rfl | ((repeat constructor); done))))) | (apply go_call 5000 (e7) rfl rfl; (· ((try simp only [CC, LL, NM, EE, QQ, seval]) <;> (first | rfl | ((repeat constructor); done)))); (· exact CallForm.plain rfl); (· ((try simp only [CC, LL, NM, EE, QQ, seval]) <;> (first | rfl | ((repeat constructor); done)))); (· ((try simp only [CC, LL, NM, EE, QQ, seval]) <;> (first | rfl | ((repeat constructor); done))))) | (with_reducible apply And.intro) | (with_reducible exact trivial) | omega | (simp only [List.length_map, List.length_cons, List.length_nil] at *; omega) | (show _ = true; first | rfl | kernel_rfl))
        refine ⟨⟨j + 1, hj3⟩, ?_, by simp only; omega⟩
        (simp only [GeS]; refine ⟨?_, ?_, ?_, ?_⟩; all_goals (repeat' (first | (with_reducible exact True.intro) | (with_reducible rfl) | simp only [CC, LL, EE, QQ, seval, List.contains_nil, Bool.false_eq_true, ↓reduceIte, Option.some.injEq, O.arr.injEq, true_and, and_true] | (with_reducible apply And.intro) | (refine ⟨_, rfl, ?_⟩) | (simp; done) | rfl | omega | trivial)))
      · obtain rfl : j = 3 := by omega
        repeat' (first | simp (maxSteps := 9999999) only [↓GE, PL, PP, EE, QQ, seval] | (simp (disch := omega) only [IntWalk.i64_in]) | (refine go_brD (fun h => ?_) (fun h => ?_)) | (refine go_gsD (by ((try simp only [EE, QQ, seval]) <;> rfl)) (fun h => ?_) (fun h => ?_)) | (refine go_br (fun h => ?_) (fun h => ?_)) | (refine go_gs (by ((try simp only [EE, QQ, seval]) <;> rfl)) (fun h => ?_) (fun h => ?_)) | (with_reducible apply And.intro) | (with_reducible exact trivial) | omega | (simp only [List.length_map, List.length_cons, List.length_nil] at *; omega) | (show _ = true; first | rfl | kernel_rfl))
        refine ⟨[], [], ⟨i + 1, hi3⟩, ?_, by simp only; omega⟩
        simp only [GeZ]; (simp only [GeS]; refine ⟨?_, ?_, ?_, ?_⟩; all_goals (repeat' (first | (with_reducible exact True.intro) | (with_reducible rfl) | simp only [CC, LL, EE, QQ, seval, List.contains_nil, Bool.false_eq_true, ↓reduceIte, Option.some.injEq, O.arr.injEq, true_and, and_true] | (with_reducible apply And.intro) | (refine ⟨_, rfl, ?_⟩) | (simp; done) | rfl | omega | trivial)))
    · obtain rfl : i = 3 := by omega
      repeat' (first | simp (maxSteps := 9999999) only [↓GE, PL, PP, EE, QQ, seval] | (simp (disch := omega) only [IntWalk.i64_in]) | (refine go_brD (fun h => ?_) (fun h => ?_)) | (refine go_gsD (by ((try simp only [EE, QQ, seval]) <;> rfl)) (fun h => ?_) (fun h => ?_)) | (refine go_br (fun h => ?_) (fun h => ?_)) | (refine go_gs (by ((try simp only [EE, QQ, seval]) <;> rfl)) (fun h => ?_) (fun h => ?_)) | (with_reducible apply And.intro) | (with_reducible exact trivial) | omega | (simp only [List.length_map, List.length_cons, List.length_nil] at *; omega) | (show _ = true; first | rfl | kernel_rfl))
      all_goals ((first | apply ret_mk [] | apply end_mk []); (· ((try simp only [CC, LL, EE, QQ, seval]) <;> rfl)); (· ((try simp only [CC, LL, EE, QQ, seval]) <;> repeat' (first | (with_reducible apply And.intro) | rfl | trivial | (exact ⟨_, rfl⟩) | (exact ⟨_, _, _, rfl⟩) | (simp [*, ]; done) | (simp [*, ]; omega) | (simp_all []; done) | (simp_all []; omega)))); all_goals (first | trivial | decide | ((try simp only [CC, LL, EE, QQ, seval]) <;> repeat' (first | (with_reducible apply And.intro) | (exact ⟨_, rfl, rfl, rfl⟩) | (exact ⟨_, _, _, rfl⟩) | (exact ⟨_, rfl⟩) | trivial | rfl | (simp; done)))))
end Go.Proofs.Ytihjmnhjjpdenaa.Sim
