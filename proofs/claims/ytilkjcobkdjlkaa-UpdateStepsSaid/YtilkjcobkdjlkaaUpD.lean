/- Publishers: Keep, both forms; equal publishers. -/
import Derived.Test.YtilkjcobkdjlkaaUpC
namespace Go.Proofs.Ytilkjcobkdjlkaa.Sim
open Go
set_option maxRecDepth 100000
set_option maxHeartbeats 4000000
set_option linter.unusedVariables false
set_option linter.unusedSimpArgs false
attribute [local irreducible] Go Mean
def keepF (l : List PTab) (vs : List Int) : List PTab := keepN l vs l.length
theorem udelete' (l : List PTab) (vs : List Int) (hl : l.length ≤ 1000) (hv : vs.length ≤ 1000000) : Does Try.prog 79 [.og 10000 0, .cl 80 [.bp 6 0 0, .bp 2 0 0, .bp 3 0 0]] ((10000, .arr 0 4 true (l.map eTab)) :: kBox l vs 0 6 2 3)
    (.og 10000 (keptV l vs)) ((10000, .arr (keptV l vs) 4 true ((keepN l vs l.length).map eTab)) :: kBox l vs l.length 6 2 3) [] :=
  (udelete l vs hl hv).nm [(900000, 10000, 0), (900001, 6, 0), (900002, 2, 0), (900003, 3, 0)] rfl rfl rfl rfl rfl rfl rfl rfl rfl
theorem ukeep (l : List PTab) (vs : List Int) (h : OkTs l) (hv : vs.length ≤ 1000000) : Does Try.prog 29 [vPub l, .d (dInts vs)] [] (vPub (keepF l vs)) [] [] := by
  refine go_update_Keep rfl BxOK.nil fun cx hm0 => go_in 5000 ?_
  unfold ac_update_Keep rs_update_Keep
  have e1 := uown l h
  have e2 := udelete' l vs h.1 hv
  unfold keepF
  generalize keepN l vs l.length = K at *
  generalize keptV l vs = v at *
  repeat' (first | simp (maxSteps := 9999999) only [↓GE, PL, PP, EE, QQ, seval] | (simp (disch := omega) only [IntWalk.i64_in]) | (refine go_brD (fun h => ?_) (fun h => ?_)) | (refine go_gsD (by ((try simp only [EE, QQ, seval]) <;> rfl)) (fun h => ?_) (fun h => ?_)) | (refine go_br (fun h => ?_) (fun h => ?_)) | (refine go_gs (by ((try simp only [EE, QQ, seval]) <;> rfl)) (fun h => ?_) (fun h => ?_)) | (apply go_call 5000 (e1) rfl rfl; (· ((try simp only [CC, LL, NM, EE, QQ, seval]) <;> (first | rfl | ((repeat constructor); done)))); (· exact CallForm.news rfl rfl); (· ((try simp only [CC, LL, NM, EE, QQ, seval]) <;> (first | rfl | ((repeat constructor); done)))); (· ((try simp only [CC, LL, NM, EE, QQ, seval]) <;> (first | rfl | ((repeat constructor); done))))) | (apply go_call 5000 (e2) rfl rfl; (· ((try simp only [CC, LL, NM, EE, QQ, seval]) <;> (first | rfl | ((repeat constructor); done)))); (· exact CallForm.lent (by (try simp only [CC, LL, NM, EE, QQ, seval]); repeat' (first | trivial | (with_reducible rfl) | omega | (with_reducible apply And.intro) | rfl)) rfl rfl); (· ((try simp only [CC, LL, NM, EE, QQ, seval]) <;> (first | rfl | ((repeat constructor); done)))); (· ((try simp only [CC, LL, NM, EE, QQ, seval]) <;> (first | rfl | ((repeat constructor); done))))) | (with_reducible apply And.intro) | (with_reducible exact trivial) | omega | (simp only [List.length_map, List.length_cons, List.length_nil] at *; omega) | (show _ = true; first | rfl | kernel_rfl))
  all_goals ((first | apply ret_mk [] | apply end_mk []); (· ((try simp only [CC, LL, EE, QQ, seval]) <;> rfl)); (· ((try simp only [CC, LL, EE, QQ, seval]) <;> repeat' (first | (with_reducible apply And.intro) | rfl | trivial | (exact ⟨_, rfl⟩) | (exact ⟨_, _, _, rfl⟩) | (simp [*, ]; done) | (simp [*, ]; omega) | (simp_all []; done) | (simp_all []; omega)))); all_goals (first | trivial | decide | ((try simp only [CC, LL, EE, QQ, seval]) <;> repeat' (first | (with_reducible apply And.intro) | (exact ⟨_, rfl, rfl, rfl⟩) | (exact ⟨_, _, _, rfl⟩) | (exact ⟨_, rfl⟩) | trivial | rfl | (simp; done)))))
theorem r37keep (l : List PTab) (vs : List Int) (h : OkTs l) (hv : vs.length ≤ 1000000) : Does Try.prog 49 [vPub l, .d (dInts vs)] [] (vPub (keepF l vs)) [] [] := by
  refine go_ref37_Keep rfl BxOK.nil fun cx hm0 => go_in 5000 ?_
  unfold ac_ref37_Keep rs_ref37_Keep
  have hl := h.1
  repeat' (first | simp (maxSteps := 9999999) only [↓GE, PL, PP, EE, QQ, seval, List.length_map] | (simp (disch := omega) only [IntWalk.i64_in]) | (refine go_brD (fun h => ?_) (fun h => ?_)) | (refine go_gsD (by ((try simp only [EE, QQ, seval]) <;> rfl)) (fun h => ?_) (fun h => ?_)) | (refine go_br (fun h => ?_) (fun h => ?_)) | (refine go_gs (by ((try simp only [EE, QQ, seval]) <;> rfl)) (fun h => ?_) (fun h => ?_)) | (with_reducible apply And.intro) | (with_reducible exact trivial) | omega | (simp only [List.length_map, List.length_cons, List.length_nil] at *; omega) | (show _ = true; first | rfl | kernel_rfl))
  refine go_loop 5000 hm0 (ι := {q : Nat × Nat // q.1 ≤ l.length}) (fun i => [(1, .d (dInts vs)), (2, .bp 2 0 0), (4, .bp 4 0 0), (5, .og 50 i.1.2), (6, I i.1.1)]) (fun i => [(2, .box 0 [.d (dTabs l)]), (4, .box 0 [.nl 4]), (50, .arr i.1.2 4 true ((keepN l vs i.1.1).map eTab))]) (fun i => l.length - i.1.1) [50] ⟨(0, 0), Nat.zero_le _⟩ ?_ ?_
  · (simp only [GeS]; refine ⟨?_, ?_, ?_, ?_⟩; all_goals (repeat' (first | trivial | (with_reducible rfl) | simp only [CC, LL, EE, QQ, seval] | (with_reducible apply And.intro) | rfl | (refine ⟨_, rfl, ?_⟩) | (simp [keepN]; done) | omega)))
  · rintro ⟨⟨k, v⟩, hk⟩
    simp only at hk
    by_cases hkl : k < l.length
    · have hs1 := getD_map eTab [] noTab l k hkl
      have hN : keepN l vs (k + 1) = if delB l.length vs k (l.getD k noTab) = true then keepN l vs k else keepN l vs k ++ [l.getD k noTab] := rfl
      have hKl := keepN_len (l := l) (vs := vs) (n := k)
      unfold delB at hN
      generalize l.getD k noTab = t at hs1 hN
      have w : IntKind.i64.wrap ((k : Int) + 1) = (k : Int) + 1 := IntWalk.i64_in _ (by omega)
      have hb : ((k : Int) + 1 == (l.length : Int)) = !decide (k + 1 < l.length) := by
        by_cases g : k + 1 < l.length
        · rw [decide_eq_true g]; simp; omega
        · rw [decide_eq_false g]; simp; omega
      repeat' (first | simp (maxSteps := 9999999) only [↓GE, PL, PP, EE, QQ, seval, w, List.length_map] | (simp (disch := omega) only [IntWalk.i64_in]) | (refine go_brD (fun h => ?_) (fun h => ?_)) | (refine go_gsD (by ((try simp only [EE, QQ, seval]) <;> rfl)) (fun h => ?_) (fun h => ?_)) | (refine go_br (fun h => ?_) (fun h => ?_)) | (refine go_gs (by ((try simp only [EE, QQ, seval]) <;> rfl)) (fun h => ?_) (fun h => ?_)) | (with_reducible apply And.intro) | (with_reducible exact trivial) | omega | (simp only [List.length_map, List.length_cons, List.length_nil] at *; omega) | (show _ = true; first | rfl | kernel_rfl))
      refine go_loop 5000 hm0 (ι := {j : Nat // j ≤ vs.length}) (fun i => [(1, .d (dInts vs)), (2, .bp 2 0 0), (4, .bp 4 0 0), (5, .og 50 v), (6, I k), (7, B (!decide (k + 1 < l.length) || decide (t.num ∈ vs.take i.1))), (8, I i.1)]) (fun i => [(2, .box 0 [.d (dTabs l)]), (4, .box 0 [.nl 4]), (50, .arr v 4 true ((keepN l vs k).map eTab))]) (fun i => vs.length - i.1) [] ⟨0, Nat.zero_le _⟩ ?_ ?_
      · (simp only [GeS]; refine ⟨?_, ?_, ?_, ?_⟩; all_goals (repeat' (first | trivial | (with_reducible rfl) | simp only [CC, LL, EE, QQ, seval] | (with_reducible apply And.intro) | rfl | (refine ⟨_, rfl, ?_⟩) | (simp [hb]; done) | omega)))
      · rintro ⟨j, hj⟩
        simp only
        by_cases hjv : j < vs.length
        · have hs2 := getD_map eI [] 0 vs j hjv
          have ht := take_succ_getD 0 vs j hjv
          have hB : (!decide (k + 1 < l.length) || decide (t.num ∈ vs.take (j + 1))) = ((!decide (k + 1 < l.length) || decide (t.num ∈ vs.take j)) || (vs.getD j 0 == t.num)) := by
            rw [ht]
            generalize vs.getD j 0 = y
            have hm : decide (t.num ∈ vs.take j ++ [y]) = (decide (t.num ∈ vs.take j) || (y == t.num)) := by
              by_cases g : y = t.num
              · rw [g]; simp
              · have g' : ¬t.num = y := fun e => g e.symm
                rw [beq_eq_false_iff_ne.2 g]
                simp [g']
            rw [hm, Bool.or_assoc]
          generalize vs.getD j 0 = y at *
          generalize hc : (!decide (k + 1 < l.length) || decide (t.num ∈ vs.take j)) = c at *
          cases c with
          | true =>
            rw [Bool.true_or] at hB
            repeat' (first | simp (maxSteps := 9999999) only [↓GE, PL, PP, EE, QQ, seval, hs2, hjv, eI, List.length_map] | (simp (disch := omega) only [IntWalk.i64_in]) | (refine go_brD (fun h => ?_) (fun h => ?_)) | (refine go_gsD (by ((try simp only [EE, QQ, seval]) <;> rfl)) (fun h => ?_) (fun h => ?_)) | (refine go_br (fun h => ?_) (fun h => ?_)) | (refine go_gs (by ((try simp only [EE, QQ, seval]) <;> rfl)) (fun h => ?_) (fun h => ?_)) | (with_reducible apply And.intro) | (with_reducible exact trivial) | omega | (simp only [List.length_map, List.length_cons, List.length_nil] at *; omega) | (show _ = true; first | rfl | kernel_rfl))
            refine ⟨⟨j + 1, hjv⟩, ?_, by simp only; omega⟩
            (simp only [GeS]; refine ⟨?_, ?_, ?_, ?_⟩; all_goals (repeat' (first | trivial | (with_reducible rfl) | simp only [CC, LL, EE, QQ, seval] | (with_reducible apply And.intro) | rfl | (refine ⟨_, rfl, ?_⟩) | (simp [hB]; done) | omega)))
          | false =>
            rw [Bool.false_or] at hB
            repeat' (first | simp (maxSteps := 9999999) only [↓GE, PL, PP, EE, QQ, seval, hs1, hs2, hjv, hkl, eI, eTab, List.length_map] | (simp (disch := omega) only [IntWalk.i64_in]) | (refine go_brD (fun h => ?_) (fun h => ?_)) | (refine go_gsD (by ((try simp only [EE, QQ, seval]) <;> rfl)) (fun h => ?_) (fun h => ?_)) | (refine go_br (fun h => ?_) (fun h => ?_)) | (refine go_gs (by ((try simp only [EE, QQ, seval]) <;> rfl)) (fun h => ?_) (fun h => ?_)) | (with_reducible apply And.intro) | (with_reducible exact trivial) | omega | (simp only [List.length_map, List.length_cons, List.length_nil] at *; omega) | (show _ = true; first | rfl | kernel_rfl))
            refine ⟨⟨j + 1, hjv⟩, ?_, by simp only; omega⟩
            (simp only [GeS]; refine ⟨?_, ?_, ?_, ?_⟩; all_goals (repeat' (first | trivial | (with_reducible rfl) | simp only [CC, LL, EE, QQ, seval] | (with_reducible apply And.intro) | rfl | (refine ⟨_, rfl, ?_⟩) | (simp [hB]; done) | omega)))
        · obtain rfl : j = vs.length := by omega
          rw [List.take_length]
          cases hc : (!decide (k + 1 < l.length) || decide (t.num ∈ vs)) with
          | true =>
            rw [if_neg (by cases g1 : decide (k + 1 < l.length) <;> cases g2 : decide (t.num ∈ vs) <;> simp_all)] at hN
            repeat' (first | simp (maxSteps := 9999999) only [↓GE, PL, PP, EE, QQ, seval, hs1, hkl, eTab, List.length_map] | (simp (disch := omega) only [IntWalk.i64_in]) | (refine go_brD (fun h => ?_) (fun h => ?_)) | (refine go_gsD (by ((try simp only [EE, QQ, seval]) <;> rfl)) (fun h => ?_) (fun h => ?_)) | (refine go_br (fun h => ?_) (fun h => ?_)) | (refine go_gs (by ((try simp only [EE, QQ, seval]) <;> rfl)) (fun h => ?_) (fun h => ?_)) | (with_reducible apply And.intro) | (with_reducible exact trivial) | omega | (simp only [List.length_map, List.length_cons, List.length_nil] at *; omega) | (show _ = true; first | rfl | kernel_rfl))
            refine ⟨⟨(k + 1, v + 1), hkl⟩, ?_, by simp only; omega⟩
            (simp only [GeS]; refine ⟨?_, ?_, ?_, ?_⟩; all_goals (repeat' (first | trivial | (with_reducible rfl) | simp only [CC, LL, EE, QQ, seval] | (with_reducible apply And.intro) | rfl | (refine ⟨_, rfl, ?_⟩) | (simp [hN, eTab]; done) | omega)))
          | false =>
            rw [if_pos (by cases g1 : decide (k + 1 < l.length) <;> cases g2 : decide (t.num ∈ vs) <;> simp_all)] at hN
            repeat' (first | simp (maxSteps := 9999999) only [↓GE, PL, PP, EE, QQ, seval, List.length_map] | (simp (disch := omega) only [IntWalk.i64_in]) | (refine go_brD (fun h => ?_) (fun h => ?_)) | (refine go_gsD (by ((try simp only [EE, QQ, seval]) <;> rfl)) (fun h => ?_) (fun h => ?_)) | (refine go_br (fun h => ?_) (fun h => ?_)) | (refine go_gs (by ((try simp only [EE, QQ, seval]) <;> rfl)) (fun h => ?_) (fun h => ?_)) | (with_reducible apply And.intro) | (with_reducible exact trivial) | omega | (simp only [List.length_map, List.length_cons, List.length_nil] at *; omega) | (show _ = true; first | rfl | kernel_rfl))
            refine ⟨⟨(k + 1, v), hkl⟩, ?_, by simp only; omega⟩
            (simp only [GeS]; refine ⟨?_, ?_, ?_, ?_⟩; all_goals (repeat' (first | trivial | (with_reducible rfl) | simp only [CC, LL, EE, QQ, seval] | (with_reducible apply And.intro) | rfl | (refine ⟨_, rfl, ?_⟩) | (simp [hN]; done) | omega)))
    · obtain rfl : k = l.length := by omega
      repeat' (first | simp (maxSteps := 9999999) only [↓GE, PL, PP, EE, QQ, seval, List.length_map] | (simp (disch := omega) only [IntWalk.i64_in]) | (refine go_brD (fun h => ?_) (fun h => ?_)) | (refine go_gsD (by ((try simp only [EE, QQ, seval]) <;> rfl)) (fun h => ?_) (fun h => ?_)) | (refine go_br (fun h => ?_) (fun h => ?_)) | (refine go_gs (by ((try simp only [EE, QQ, seval]) <;> rfl)) (fun h => ?_) (fun h => ?_)) | (with_reducible apply And.intro) | (with_reducible exact trivial) | omega | (simp only [List.length_map, List.length_cons, List.length_nil] at *; omega) | (show _ = true; first | rfl | kernel_rfl))
      all_goals ((first | apply ret_mk [] | apply end_mk []); (· ((try simp only [CC, LL, EE, QQ, seval]) <;> rfl)); (· ((try simp only [CC, LL, EE, QQ, seval]) <;> repeat' (first | (with_reducible apply And.intro) | rfl | trivial | (exact ⟨_, rfl⟩) | (exact ⟨_, _, _, rfl⟩) | (simp [*, keepF]; done) | (simp [*, keepF]; omega) | (simp_all [keepF]; done) | (simp_all [keepF]; omega)))); all_goals (first | trivial | decide | ((try simp only [CC, LL, EE, QQ, seval]) <;> repeat' (first | (with_reducible apply And.intro) | (exact ⟨_, rfl, rfl, rfl⟩) | (exact ⟨_, _, _, rfl⟩) | (exact ⟨_, rfl⟩) | trivial | rfl | (simp; done)))))
end Go.Proofs.Ytilkjcobkdjlkaa.Sim
