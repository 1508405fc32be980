/- ChangeLeads, walked. -/
import Derived.Test.YtpliidhbfjjofaaChgT
namespace Go.Proofs.Ytpliidhbfjjofaa.Sim
open Go
set_option maxRecDepth 100000
set_option maxHeartbeats 4000000
set_option linter.unusedVariables false
set_option linter.unusedSimpArgs false
attribute [local irreducible] Go Mean
theorem lawLeads (l : List Int) (hl : l.length ≤ 17592186044416) : Does Try.prog 3 [.d (dInts l)] [] (B true) [] [] := by
  refine go_law15_ChangeLeads rfl BxOK.nil fun cx hm0 => go_in 5000 ?_
  unfold ac_law15_ChangeLeads rs_law15_ChangeLeads
  by_cases h0 : l.length ≤ 500
  case neg =>
    have q : decide (l.length ≤ 500) = false := decide_eq_false h0
    repeat' (first | simp only [↓GE, PL, PP, EE, QQ, seval, q] | (simp (disch := omega) only [IntWalk.i64_in]) | (refine go_brD (fun h => ?_) (fun h => ?_)) | (refine go_gsD (by ((try simp only [EE, QQ, seval]) <;> rfl)) (fun h => ?_) (fun h => ?_)) | (refine go_br (fun h => ?_) (fun h => ?_)) | (refine go_gs (by ((try simp only [EE, QQ, seval]) <;> rfl)) (fun h => ?_) (fun h => ?_)) | (apply go_call 5000 (sane15) rfl rfl; (· ((try simp only [CC, EE, QQ, seval]) <;> (first | rfl | ((repeat constructor); done)))); (· exact CallForm.plain rfl); (· ((try simp only [CC, EE, QQ, seval]) <;> (first | rfl | ((repeat constructor); done)))); (· ((try simp only [CC, EE, QQ, seval]) <;> (first | rfl | ((repeat constructor); done))))) | (apply go_call 5000 (few l hl) rfl rfl; (· ((try simp only [CC, EE, QQ, seval]) <;> (first | rfl | ((repeat constructor); done)))); (· exact CallForm.plain rfl); (· ((try simp only [CC, EE, QQ, seval]) <;> (first | rfl | ((repeat constructor); done)))); (· ((try simp only [CC, EE, QQ, seval]) <;> (first | rfl | ((repeat constructor); done))))) | (with_reducible apply And.intro) | (with_reducible exact trivial) | omega | (simp only [List.length_map, List.length_cons, List.length_nil] at *; omega) | (show _ = true; first | rfl | kernel_rfl))
    all_goals ((first | apply ret_mk [] | apply end_mk []); (· ((try simp only [CC, EE, QQ, seval]) <;> rfl)); (· ((try simp only [CC, EE, QQ, seval]) <;> repeat' (first | (with_reducible apply And.intro) | rfl | trivial | (exact ⟨_, rfl⟩) | (exact ⟨_, _, _, rfl⟩) | (simp [*, ]; done) | (simp [*, ]; omega) | (simp_all []; done) | (simp_all []; omega)))); all_goals (first | trivial | decide | ((try simp only [CC, EE, QQ, seval]) <;> repeat' (first | (with_reducible apply And.intro) | (exact ⟨_, rfl, rfl, rfl⟩) | (exact ⟨_, _, _, rfl⟩) | (exact ⟨_, rfl⟩) | trivial | rfl | (simp; done)))))
  have q : decide (l.length ≤ 500) = true := decide_eq_true h0
  have hX := tabG_ok l 0
  have d1 := (makeTable l hl 0).nm 21000 0 (by omega) rfl rfl rfl rfl rfl
  have hY := latG_ok l (tabG l 0).2 hX
  have hL := latG_later l (tabG l 0).2 (tabG l 0).1
  have d2 := (makeLater l hl (tabG l 0).2 (tabG l 0).1 hX (by omega)).nm 21000 0 (by omega) rfl rfl rfl rfl rfl
  generalize (latG l (tabG l 0).2 (tabG l 0).1).2 = k2 at d2
  generalize (latG l (tabG l 0).2 (tabG l 0).1).1 = Y at *
  generalize (tabG l 0).2 = k1 at *
  generalize (tabG l 0).1 = X at *
  obtain ⟨l1, l2, l3⟩ := hL
  obtain ⟨e1, e2⟩ := between_leads (hX.check (by omega)) (hY.check (by omega)) l2.symm l3.symm l1
  obtain ⟨e3, e4⟩ := e2.apply (hX.check (by omega)) l2 l3
  have hXl := hX.len; have hYl := hY.len
  have d3 := between X Y (by omega) hX.short (by omega) hY.short
  rw [e1] at d3
  have hfl := formF_len e2.form
  have hsh : ShortS (diffGo X.rows 0 Y.rows) := fun s hs => hY.short _ (diffGo_mem _ _ _ s hs)
  have d4 := apply X ⟨X.num, Y.num, Y.rows.length, diffGo X.rows 0 Y.rows⟩ (by omega) hX.short (by omega) hsh
  rw [e4] at d4
  have d5 := ccheck X ⟨X.num, Y.num, Y.rows.length, diffGo X.rows 0 Y.rows⟩ (by omega) hX.short (by omega) hsh
  rw [e3] at d5
  have d6 := r14same Y Y (by omega) (by omega) hY.short hY.short
  have hs : sameT Y Y = true := by simp [sameT]
  rw [hs] at d6
  simp only at hfl
  generalize hC : diffGo X.rows 0 Y.rows = C at *
  repeat' (first | simp only [↓GE, PL, PP, EE, QQ, seval, q, List.length_map] | (simp (disch := omega) only [IntWalk.i64_in]) | (refine go_brD (fun h => ?_) (fun h => ?_)) | (refine go_gsD (by ((try simp only [EE, QQ, seval]) <;> rfl)) (fun h => ?_) (fun h => ?_)) | (refine go_br (fun h => ?_) (fun h => ?_)) | (refine go_gs (by ((try simp only [EE, QQ, seval]) <;> rfl)) (fun h => ?_) (fun h => ?_)) | (apply go_call 5000 (sane15) rfl rfl; (· ((try simp only [CC, EE, QQ, seval]) <;> (first | rfl | ((repeat constructor); done)))); (· exact CallForm.plain rfl); (· ((try simp only [CC, EE, QQ, seval]) <;> (first | rfl | ((repeat constructor); done)))); (· ((try simp only [CC, EE, QQ, seval]) <;> (first | rfl | ((repeat constructor); done))))) | (apply go_call 5000 (few l hl) rfl rfl; (· ((try simp only [CC, EE, QQ, seval]) <;> (first | rfl | ((repeat constructor); done)))); (· exact CallForm.plain rfl); (· ((try simp only [CC, EE, QQ, seval]) <;> (first | rfl | ((repeat constructor); done)))); (· ((try simp only [CC, EE, QQ, seval]) <;> (first | rfl | ((repeat constructor); done))))) | (apply go_call 5000 (makeNew l) rfl rfl; (· ((try simp only [CC, EE, QQ, seval]) <;> (first | rfl | ((repeat constructor); done)))); (· exact CallForm.news rfl rfl); (· ((try simp only [CC, EE, QQ, seval]) <;> (first | rfl | ((repeat constructor); done)))); (· ((try simp only [CC, EE, QQ, seval]) <;> (first | rfl | ((repeat constructor); done))))) | (apply go_call 5000 (d1) rfl rfl; (· ((try simp only [CC, EE, QQ, seval]) <;> (first | rfl | ((repeat constructor); done)))); (· exact CallForm.box1 (by first | decide | (refine ⟨by decide, ?_⟩; first | (right; simp; done) | (left; simp; done))) (by ((try simp only [EE, QQ, seval]) <;> rfl)) rfl rfl rfl rfl); (· ((try simp only [CC, EE, QQ, seval]) <;> (first | rfl | ((repeat constructor); done)))); (· ((try simp only [CC, EE, QQ, seval]) <;> (first | rfl | ((repeat constructor); done))))) | (apply go_call 5000 (d2) rfl rfl; (· ((try simp only [CC, EE, QQ, seval]) <;> (first | rfl | ((repeat constructor); done)))); (· exact CallForm.box1 (by first | decide | (refine ⟨by decide, ?_⟩; first | (right; simp; done) | (left; simp; done))) (by ((try simp only [EE, QQ, seval]) <;> rfl)) rfl rfl rfl rfl); (· ((try simp only [CC, EE, QQ, seval]) <;> (first | rfl | ((repeat constructor); done)))); (· ((try simp only [CC, EE, QQ, seval]) <;> (first | rfl | ((repeat constructor); done))))) | (apply go_call 5000 (d3) rfl rfl; (· ((try simp only [CC, EE, QQ, seval]) <;> (first | rfl | ((repeat constructor); done)))); (· exact CallForm.news rfl rfl); (· ((try simp only [CC, EE, QQ, seval]) <;> (first | rfl | ((repeat constructor); done)))); (· ((try simp only [CC, EE, QQ, seval]) <;> (first | rfl | ((repeat constructor); done))))) | (apply go_call 5000 (d4) rfl rfl; (· ((try simp only [CC, EE, QQ, seval]) <;> (first | rfl | ((repeat constructor); done)))); (· exact CallForm.news rfl rfl); (· ((try simp only [CC, EE, QQ, seval]) <;> (first | rfl | ((repeat constructor); done)))); (· ((try simp only [CC, EE, QQ, seval]) <;> (first | rfl | ((repeat constructor); done))))) | (apply go_call 5000 (d5) rfl rfl; (· ((try simp only [CC, EE, QQ, seval]) <;> (first | rfl | ((repeat constructor); done)))); (· exact CallForm.plain rfl); (· ((try simp only [CC, EE, QQ, seval]) <;> (first | rfl | ((repeat constructor); done)))); (· ((try simp only [CC, EE, QQ, seval]) <;> (first | rfl | ((repeat constructor); done))))) | (apply go_call 5000 (d6) rfl rfl; (· ((try simp only [CC, EE, QQ, seval]) <;> (first | rfl | ((repeat constructor); done)))); (· exact CallForm.plain rfl); (· ((try simp only [CC, EE, QQ, seval]) <;> (first | rfl | ((repeat constructor); done)))); (· ((try simp only [CC, EE, QQ, seval]) <;> (first | rfl | ((repeat constructor); done))))) | (with_reducible apply And.intro) | (with_reducible exact trivial) | omega | (simp only [List.length_map, List.length_cons, List.length_nil] at *; omega) | (show _ = true; first | rfl | kernel_rfl))
  refine go_loop 5000 hm0 (ι := {p : Nat × Nat // p.1 ≤ Y.rows.length ∧ p.2 ≤ C.length ∧ p.2 ≤ p.1 ∧ diffGo X.rows p.1 (Y.rows.drop p.1) = C.drop p.2}) (fun i => [(4, .bp 4 0 0), (6, .bp 6 0 0), (10, I i.1.2), (56, .d (dRows Y.rows)), (57, I Y.rows.length), (58, I i.1.1)]) (fun i => [(4, .box 0 [I X.num, I X.p, I X.width, .d (dRows X.rows)]), (6, .box 0 [I X.num, I Y.num, I Y.rows.length, .d (dSets C)])]) (fun i => Y.rows.length - i.1.1) [] ⟨(0, 0), Nat.zero_le _, Nat.zero_le _, Nat.le_refl _, hC⟩ ?_ ?_
  · (simp only [GeS]; refine ⟨?_, ?_, ?_, ?_⟩; all_goals (repeat' (first | trivial | (with_reducible rfl) | simp only [CC, EE, QQ, seval] | (with_reducible apply And.intro) | rfl | (refine ⟨_, rfl, ?_⟩) | (simp; done) | omega)))
  · rintro ⟨⟨k, n⟩, hk, hn, hnk, hv⟩
    simp only at hk hn hnk hv
    by_cases hkl : k < Y.rows.length
    · have hs1 := getD_map eR [] [] Y.rows k hkl
      have hr1 := hY.short _ (mem_getD [] Y.rows k hkl)
      rw [drop_get [] _ _ hkl, diffGo] at hv
      generalize Y.rows.getD k [] = r at hs1 hr1 hv
      by_cases hd : k ≥ X.rows.length ∨ r ≠ X.rows.getD k []
      · rw [if_pos hd] at hv
        have hnl : n < C.length := by
          apply Nat.lt_of_not_le
          intro h
          rw [List.drop_of_length_le h] at hv
          cases hv
        have hs2 := getD_map eSet [] noSet C n hnl
        rw [drop_get noSet _ _ hnl] at hv
        simp only [List.cons.injEq] at hv
        obtain ⟨hv1, hv2⟩ := hv
        rw [← hv1] at hs2
        have q2 : decide ((n : Int) ≥ (C.length : Int)) = false := decide_eq_false (by omega)
        have q3 : ((k : Int) != (k : Int)) = false := by simp
        by_cases hx : k ≥ X.rows.length
        · have q4 : decide ((k : Int) ≥ (X.rows.length : Int)) = true := decide_eq_true (by omega)
          repeat' (first | simp only [↓GE, PL, PP, EE, QQ, seval, hs1, hs2, q2, q3, q4, eR, eSet, List.length_map] | (simp (disch := omega) only [IntWalk.i64_in]) | (refine go_brD (fun h => ?_) (fun h => ?_)) | (refine go_gsD (by ((try simp only [EE, QQ, seval]) <;> rfl)) (fun h => ?_) (fun h => ?_)) | (refine go_br (fun h => ?_) (fun h => ?_)) | (refine go_gs (by ((try simp only [EE, QQ, seval]) <;> rfl)) (fun h => ?_) (fun h => ?_)) | (with_reducible apply And.intro) | (with_reducible exact trivial) | omega | (simp only [List.length_map, List.length_cons, List.length_nil] at *; omega) | (show _ = true; first | rfl | kernel_rfl))
          refine ⟨⟨(k + 1, n + 1), hkl, hnl, by simp only; omega, hv2⟩, ?_, by simp only; omega⟩
          (simp only [GeS]; refine ⟨?_, ?_, ?_, ?_⟩; all_goals (repeat' (first | trivial | (with_reducible rfl) | simp only [CC, EE, QQ, seval] | (with_reducible apply And.intro) | rfl | (refine ⟨_, rfl, ?_⟩) | (simp; done) | omega)))
        · have q4 : decide ((k : Int) ≥ (X.rows.length : Int)) = false := decide_eq_false (by omega)
          have hs3 := getD_map eR [] [] X.rows k (by omega)
          have hr3 := hX.short _ (mem_getD [] X.rows k (by omega))
          have d7 := sameI r (X.rows.getD k []) hr1 hr3
          rw [decide_eq_false (hd.resolve_left hx)] at d7
          repeat' (first | simp only [↓GE, PL, PP, EE, QQ, seval, hs1, hs2, hs3, q2, q3, q4, eR, eSet, List.length_map] | (simp (disch := omega) only [IntWalk.i64_in]) | (refine go_brD (fun h => ?_) (fun h => ?_)) | (refine go_gsD (by ((try simp only [EE, QQ, seval]) <;> rfl)) (fun h => ?_) (fun h => ?_)) | (refine go_br (fun h => ?_) (fun h => ?_)) | (refine go_gs (by ((try simp only [EE, QQ, seval]) <;> rfl)) (fun h => ?_) (fun h => ?_)) | (apply go_call 5000 (d7) rfl rfl; (· ((try simp only [CC, EE, QQ, seval]) <;> (first | rfl | ((repeat constructor); done)))); (· exact CallForm.plain rfl); (· ((try simp only [CC, EE, QQ, seval]) <;> (first | rfl | ((repeat constructor); done)))); (· ((try simp only [CC, EE, QQ, seval]) <;> (first | rfl | ((repeat constructor); done))))) | (with_reducible apply And.intro) | (with_reducible exact trivial) | omega | (simp only [List.length_map, List.length_cons, List.length_nil] at *; omega) | (show _ = true; first | rfl | kernel_rfl))
          refine ⟨⟨(k + 1, n + 1), hkl, hnl, by simp only; omega, hv2⟩, ?_, by simp only; omega⟩
          (simp only [GeS]; refine ⟨?_, ?_, ?_, ?_⟩; all_goals (repeat' (first | trivial | (with_reducible rfl) | simp only [CC, EE, QQ, seval] | (with_reducible apply And.intro) | rfl | (refine ⟨_, rfl, ?_⟩) | (simp; done) | omega)))
      · rw [if_neg hd] at hv
        have q4 : decide ((k : Int) ≥ (X.rows.length : Int)) = false := decide_eq_false (by omega)
        have hs3 := getD_map eR [] [] X.rows k (by omega)
        have hr3 := hX.short _ (mem_getD [] X.rows k (by omega))
        have d7 := sameI r (X.rows.getD k []) hr1 hr3
        rw [decide_eq_true (Classical.byContradiction fun h => hd (.inr h))] at d7
        repeat' (first | simp only [↓GE, PL, PP, EE, QQ, seval, hs1, hs3, q4, eR, List.length_map] | (simp (disch := omega) only [IntWalk.i64_in]) | (refine go_brD (fun h => ?_) (fun h => ?_)) | (refine go_gsD (by ((try simp only [EE, QQ, seval]) <;> rfl)) (fun h => ?_) (fun h => ?_)) | (refine go_br (fun h => ?_) (fun h => ?_)) | (refine go_gs (by ((try simp only [EE, QQ, seval]) <;> rfl)) (fun h => ?_) (fun h => ?_)) | (apply go_call 5000 (d7) rfl rfl; (· ((try simp only [CC, EE, QQ, seval]) <;> (first | rfl | ((repeat constructor); done)))); (· exact CallForm.plain rfl); (· ((try simp only [CC, EE, QQ, seval]) <;> (first | rfl | ((repeat constructor); done)))); (· ((try simp only [CC, EE, QQ, seval]) <;> (first | rfl | ((repeat constructor); done))))) | (with_reducible apply And.intro) | (with_reducible exact trivial) | omega | (simp only [List.length_map, List.length_cons, List.length_nil] at *; omega) | (show _ = true; first | rfl | kernel_rfl))
        refine ⟨⟨(k + 1, n), hkl, hn, by simp only; omega, hv⟩, ?_, by simp only; omega⟩
        (simp only [GeS]; refine ⟨?_, ?_, ?_, ?_⟩; all_goals (repeat' (first | trivial | (with_reducible rfl) | simp only [CC, EE, QQ, seval] | (with_reducible apply And.intro) | rfl | (refine ⟨_, rfl, ?_⟩) | (simp; done) | omega)))
    · have : k = Y.rows.length := by omega
      subst this
      simp only [List.drop_length, diffGo] at hv
      have hnl : n = C.length := by
        have := congrArg List.length hv
        simp at this
        omega
      subst hnl
      repeat' (first | simp only [↓GE, PL, PP, EE, QQ, seval, List.length_map] | (simp (disch := omega) only [IntWalk.i64_in]) | (refine go_brD (fun h => ?_) (fun h => ?_)) | (refine go_gsD (by ((try simp only [EE, QQ, seval]) <;> rfl)) (fun h => ?_) (fun h => ?_)) | (refine go_br (fun h => ?_) (fun h => ?_)) | (refine go_gs (by ((try simp only [EE, QQ, seval]) <;> rfl)) (fun h => ?_) (fun h => ?_)) | (with_reducible apply And.intro) | (with_reducible exact trivial) | omega | (simp only [List.length_map, List.length_cons, List.length_nil] at *; omega) | (show _ = true; first | rfl | kernel_rfl))
      all_goals ((first | apply ret_mk [] | apply end_mk []); (· ((try simp only [CC, EE, QQ, seval]) <;> rfl)); (· ((try simp only [CC, EE, QQ, seval]) <;> repeat' (first | (with_reducible apply And.intro) | rfl | trivial | (exact ⟨_, rfl⟩) | (exact ⟨_, _, _, rfl⟩) | (simp [*, ]; done) | (simp [*, ]; omega) | (simp_all []; done) | (simp_all []; omega)))); all_goals (first | trivial | decide | ((try simp only [CC, EE, QQ, seval]) <;> repeat' (first | (with_reducible apply And.intro) | (exact ⟨_, rfl, rfl, rfl⟩) | (exact ⟨_, _, _, rfl⟩) | (exact ⟨_, rfl⟩) | trivial | rfl | (simp; done)))))
end Go.Proofs.Ytpliidhbfjjofaa.Sim
