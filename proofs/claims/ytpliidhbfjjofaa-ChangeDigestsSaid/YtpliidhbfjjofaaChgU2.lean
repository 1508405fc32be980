/- ChangeSame and ChangeDigests, walked. -/
import Derived.Test.YtpliidhbfjjofaaChgT
namespace Go.Proofs.Ytpliidhbfjjofaa.Sim
open Go
set_option maxRecDepth 100000
set_option maxHeartbeats 4000000
set_option linter.unusedVariables false
set_option linter.unusedSimpArgs false
attribute [local irreducible] Go Mean
theorem diffGo_self (ra : List (List Int)) : ∀ (l : List (List Int)) (k : Nat), (∀ i, i < l.length → k + i < ra.length ∧ l.getD i [] = ra.getD (k + i) []) → diffGo ra k l = []
  | [], k, _ => rfl
  | r :: l, k, h => by
    have h0 := h 0 (by simp)
    rw [Nat.add_zero, List.getD_cons_zero] at h0
    rw [diffGo, if_neg (by rw [← h0.2]; simp; omega)]
    exact diffGo_self ra l (k + 1) fun i hi => by
      have := h (i + 1) (by simpa using hi)
      rw [List.getD_cons_succ] at this
      rw [show k + 1 + i = k + (i + 1) by omega]
      exact this
theorem Leads.again {x y : PTab} {c : PChg} (h : Leads x c y) (n : Int) (hn : 1 ≤ y.num) (hn2 : y.num < n) (hn3 : n < 2147483647) (hp : y.p = x.p) (hw : y.width = x.width) : Leads y ⟨y.num, n, c.count, c.sets⟩ ⟨n, y.p, y.width, y.rows⟩ := by
  obtain ⟨f1, f2, f3, f4, f5, f6⟩ := formF_ok h.form
  refine ⟨?_, rfl, rfl, h.count, fun s hs => by rw [hp, hw]; exact h.rows s hs, fun i hi => ?_⟩
  · simp only [formF, numF, f6, Bool.and_true, Bool.and_eq_true, decide_eq_true_eq]
    omega
  · rcases h.find i hi with h1 | ⟨h1, _, _⟩
    · exact .inl h1
    · exact .inr ⟨h1, hi, rfl⟩
theorem lawSame (l : List Int) (hl : l.length ≤ 17592186044416) : Does Try.prog 4 [.d (dInts l)] [] (B true) [] [] := by
  refine go_law15_ChangeSame rfl BxOK.nil fun cx hm0 => go_in 5000 ?_
  unfold ac_law15_ChangeSame rs_law15_ChangeSame
  by_cases h0 : l.length ≤ 500
  case neg =>
    have q : decide (l.length ≤ 500) = false := decide_eq_false h0
    repeat' (first | simp only [↓GE, PL, PP, EE, QQ, seval, q] | (simp (disch := omega) only [IntWalk.i64_in]) | (refine go_brD (fun h => ?_) (fun h => ?_)) | (refine go_gsD (by ((try simp only [EE, QQ, seval]) <;> rfl)) (fun h => ?_) (fun h => ?_)) | (refine go_br (fun h => ?_) (fun h => ?_)) | (refine go_gs (by ((try simp only [EE, QQ, seval]) <;> rfl)) (fun h => ?_) (fun h => ?_)) | (apply go_call 5000 (sane15) rfl rfl; (· ((try simp only [CC, EE, QQ, seval]) <;> (first | rfl | ((repeat constructor); done)))); (· exact CallForm.plain rfl); (· ((try simp only [CC, EE, QQ, seval]) <;> (first | rfl | ((repeat constructor); done)))); (· ((try simp only [CC, EE, QQ, seval]) <;> (first | rfl | ((repeat constructor); done))))) | (apply go_call 5000 (few l hl) rfl rfl; (· ((try simp only [CC, EE, QQ, seval]) <;> (first | rfl | ((repeat constructor); done)))); (· exact CallForm.plain rfl); (· ((try simp only [CC, EE, QQ, seval]) <;> (first | rfl | ((repeat constructor); done)))); (· ((try simp only [CC, EE, QQ, seval]) <;> (first | rfl | ((repeat constructor); done))))) | (with_reducible apply And.intro) | (with_reducible exact trivial) | omega | (simp only [List.length_map, List.length_cons, List.length_nil] at *; omega) | (show _ = true; first | rfl | kernel_rfl))
    all_goals ((first | apply ret_mk [] | apply end_mk []); (· ((try simp only [CC, EE, QQ, seval]) <;> rfl)); (· ((try simp only [CC, EE, QQ, seval]) <;> repeat' (first | (with_reducible apply And.intro) | rfl | trivial | (exact ⟨_, rfl⟩) | (exact ⟨_, _, _, rfl⟩) | (simp [*, ]; done) | (simp [*, ]; omega) | (simp_all []; done) | (simp_all []; omega)))); all_goals (first | trivial | decide | ((try simp only [CC, EE, QQ, seval]) <;> repeat' (first | (with_reducible apply And.intro) | (exact ⟨_, rfl, rfl, rfl⟩) | (exact ⟨_, _, _, rfl⟩) | (exact ⟨_, rfl⟩) | trivial | rfl | (simp; done)))))
  have q : decide (l.length ≤ 500) = true := decide_eq_true h0
  have hX := tabG_ok l 0
  have d1 := (makeTable l hl 0).nm 24000 0 (by omega) rfl rfl rfl rfl rfl
  generalize (tabG l 0).2 = k1 at *
  generalize (tabG l 0).1 = X at *
  have d2 := (next l hl k1 5 (by omega)).nm 24000 0 (by omega) rfl rfl rfl rfl rfl
  have a1 := nextV_in l k1 5
  generalize nextV l k1 5 = v at *
  generalize nextK l k1 5 = k2 at *
  have hL := latG_later l k2 X
  have hZ := latG_ok l k2 hX
  have d3 := (makeLater l hl k2 X hX (by omega)).nm 24000 0 (by omega) rfl rfl rfl rfl rfl
  generalize (latG l k2 X).2 = k3 at d3
  generalize (latG l k2 X).1 = Z at *
  obtain ⟨l1, l2, l3⟩ := hL
  have hXl := hX.len; have hZl := hZ.len; have hXn := hX.num; have hXn2 := hX.num2; have hZn := hZ.num; have hZn2 := hZ.num2
  have hcX := hX.check (by omega)
  have hcZ := hZ.check (by omega)
  -- the same rows
  have hcY : checkT ⟨X.num + (1 + v), X.p, X.width, X.rows⟩ = 0 := (TabOK.mk hX.fld hX.p2 hX.p3 (by simp only; omega) (by simp only; omega) hX.w1 hX.w2 hX.rows (by simp only; omega) : TabOK ⟨X.num + (1 + v), X.p, X.width, X.rows⟩ 1).check (by omega)
  have e1 := (between_leads hcX hcY rfl rfl (by simp only; omega)).1
  rw [diffGo_self X.rows X.rows 0 (fun i hi => by rw [Nat.zero_add]; exact ⟨hi, rfl⟩)] at e1
  have d4 := between X ⟨X.num + (1 + v), X.p, X.width, X.rows⟩ (by omega) hX.short (by simp only; omega) hX.short
  rw [e1] at d4
  -- the later version
  obtain ⟨e2, e3⟩ := between_leads hcX hcZ l2.symm l3.symm l1
  obtain ⟨e4, e5⟩ := e3.apply hcX l2 l3
  have hsh : ShortS (diffGo X.rows 0 Z.rows) := fun s hs => hZ.short _ (diffGo_mem _ _ _ s hs)
  have hfl := formF_len e3.form
  have d5 := between X Z (by omega) hX.short (by omega) hZ.short
  rw [e2] at d5
  have d6 := apply X ⟨X.num, Z.num, Z.rows.length, diffGo X.rows 0 Z.rows⟩ (by omega) hX.short (by simp only at hfl ⊢; omega) hsh
  rw [e5] at d6
  have e6 := ((e3.again (Z.num + 1) hZn (by omega) (by omega) l2 l3).apply hcZ rfl rfl).2
  simp only at hfl
  have d7 := apply Z ⟨Z.num, Z.num + 1, Z.rows.length, diffGo X.rows 0 Z.rows⟩ (by omega) hZ.short (by simp only; omega) hsh
  simp only at e6
  rw [e6] at d7
  have d8 := sameRows Z.rows Z.rows (by omega) (by omega) hZ.short hZ.short
  rw [decide_eq_true rfl] at d8
  have w1 : IntKind.i64.wrap (X.num + (1 + v)) = X.num + (1 + v) := IntWalk.i64_in _ (by omega)
  have w2 : IntKind.i64.wrap (1 + v) = 1 + v := IntWalk.i64_in _ (by omega)
  have w3 : IntKind.i64.wrap (Z.num + 1) = Z.num + 1 := IntWalk.i64_in _ (by omega)
  generalize diffGo X.rows 0 Z.rows = C at *
  repeat' (first | simp only [↓GE, PL, PP, EE, QQ, seval, q, w1, w2, w3, List.length_map] | (simp (disch := omega) only [IntWalk.i64_in]) | (refine go_brD (fun h => ?_) (fun h => ?_)) | (refine go_gsD (by ((try simp only [EE, QQ, seval]) <;> rfl)) (fun h => ?_) (fun h => ?_)) | (refine go_br (fun h => ?_) (fun h => ?_)) | (refine go_gs (by ((try simp only [EE, QQ, seval]) <;> rfl)) (fun h => ?_) (fun h => ?_)) | (apply go_call 5000 (sane15) rfl rfl; (· ((try simp only [CC, EE, QQ, seval]) <;> (first | rfl | ((repeat constructor); done)))); (· exact CallForm.plain rfl); (· ((try simp only [CC, EE, QQ, seval]) <;> (first | rfl | ((repeat constructor); done)))); (· ((try simp only [CC, EE, QQ, seval]) <;> (first | rfl | ((repeat constructor); done))))) | (apply go_call 5000 (few l hl) rfl rfl; (· ((try simp only [CC, EE, QQ, seval]) <;> (first | rfl | ((repeat constructor); done)))); (· exact CallForm.plain rfl); (· ((try simp only [CC, EE, QQ, seval]) <;> (first | rfl | ((repeat constructor); done)))); (· ((try simp only [CC, EE, QQ, seval]) <;> (first | rfl | ((repeat constructor); done))))) | (apply go_call 5000 (makeNew l) rfl rfl; (· ((try simp only [CC, EE, QQ, seval]) <;> (first | rfl | ((repeat constructor); done)))); (· exact CallForm.news rfl rfl); (· ((try simp only [CC, EE, QQ, seval]) <;> (first | rfl | ((repeat constructor); done)))); (· ((try simp only [CC, EE, QQ, seval]) <;> (first | rfl | ((repeat constructor); done))))) | (apply go_call 5000 (d1) rfl rfl; (· ((try simp only [CC, EE, QQ, seval]) <;> (first | rfl | ((repeat constructor); done)))); (· exact CallForm.box1 (by first | decide | (refine ⟨by decide, ?_⟩; first | (right; simp; done) | (left; simp; done))) (by ((try simp only [EE, QQ, seval]) <;> rfl)) rfl rfl rfl rfl); (· ((try simp only [CC, EE, QQ, seval]) <;> (first | rfl | ((repeat constructor); done)))); (· ((try simp only [CC, EE, QQ, seval]) <;> (first | rfl | ((repeat constructor); done))))) | (apply go_call 5000 (d2) rfl rfl; (· ((try simp only [CC, EE, QQ, seval]) <;> (first | rfl | ((repeat constructor); done)))); (· exact CallForm.box1 (by first | decide | (refine ⟨by decide, ?_⟩; first | (right; simp; done) | (left; simp; done))) (by ((try simp only [EE, QQ, seval]) <;> rfl)) rfl rfl rfl rfl); (· ((try simp only [CC, EE, QQ, seval]) <;> (first | rfl | ((repeat constructor); done)))); (· ((try simp only [CC, EE, QQ, seval]) <;> (first | rfl | ((repeat constructor); done))))) | (apply go_call 5000 (d3) rfl rfl; (· ((try simp only [CC, EE, QQ, seval]) <;> (first | rfl | ((repeat constructor); done)))); (· exact CallForm.box1 (by first | decide | (refine ⟨by decide, ?_⟩; first | (right; simp; done) | (left; simp; done))) (by ((try simp only [EE, QQ, seval]) <;> rfl)) rfl rfl rfl rfl); (· ((try simp only [CC, EE, QQ, seval]) <;> (first | rfl | ((repeat constructor); done)))); (· ((try simp only [CC, EE, QQ, seval]) <;> (first | rfl | ((repeat constructor); done))))) | (apply go_call 5000 (d4) rfl rfl; (· ((try simp only [CC, EE, QQ, seval]) <;> (first | rfl | ((repeat constructor); done)))); (· exact CallForm.news rfl rfl); (· ((try simp only [CC, EE, QQ, seval]) <;> (first | rfl | ((repeat constructor); done)))); (· ((try simp only [CC, EE, QQ, seval]) <;> (first | rfl | ((repeat constructor); done))))) | (apply go_call 5000 (d5) rfl rfl; (· ((try simp only [CC, EE, QQ, seval]) <;> (first | rfl | ((repeat constructor); done)))); (· exact CallForm.news rfl rfl); (· ((try simp only [CC, EE, QQ, seval]) <;> (first | rfl | ((repeat constructor); done)))); (· ((try simp only [CC, EE, QQ, seval]) <;> (first | rfl | ((repeat constructor); done))))) | (apply go_call 5000 (d6) rfl rfl; (· ((try simp only [CC, EE, QQ, seval]) <;> (first | rfl | ((repeat constructor); done)))); (· exact CallForm.news rfl rfl); (· ((try simp only [CC, EE, QQ, seval]) <;> (first | rfl | ((repeat constructor); done)))); (· ((try simp only [CC, EE, QQ, seval]) <;> (first | rfl | ((repeat constructor); done))))) | (apply go_call 5000 (d7) rfl rfl; (· ((try simp only [CC, EE, QQ, seval]) <;> (first | rfl | ((repeat constructor); done)))); (· exact CallForm.news rfl rfl); (· ((try simp only [CC, EE, QQ, seval]) <;> (first | rfl | ((repeat constructor); done)))); (· ((try simp only [CC, EE, QQ, seval]) <;> (first | rfl | ((repeat constructor); done))))) | (apply go_call 5000 (d8) rfl rfl; (· ((try simp only [CC, EE, QQ, seval]) <;> (first | rfl | ((repeat constructor); done)))); (· exact CallForm.plain rfl); (· ((try simp only [CC, EE, QQ, seval]) <;> (first | rfl | ((repeat constructor); done)))); (· ((try simp only [CC, EE, QQ, seval]) <;> (first | rfl | ((repeat constructor); done))))) | (with_reducible apply And.intro) | (with_reducible exact trivial) | omega | (simp only [List.length_map, List.length_cons, List.length_nil] at *; omega) | (show _ = true; first | rfl | kernel_rfl))
  all_goals ((first | apply ret_mk [] | apply end_mk []); (· ((try simp only [CC, EE, QQ, seval]) <;> rfl)); (· ((try simp only [CC, EE, QQ, seval]) <;> repeat' (first | (with_reducible apply And.intro) | rfl | trivial | (exact ⟨_, rfl⟩) | (exact ⟨_, _, _, rfl⟩) | (simp [*, ]; done) | (simp [*, ]; omega) | (simp_all []; done) | (simp_all []; omega)))); all_goals (first | trivial | decide | ((try simp only [CC, EE, QQ, seval]) <;> repeat' (first | (with_reducible apply And.intro) | (exact ⟨_, rfl, rfl, rfl⟩) | (exact ⟨_, _, _, rfl⟩) | (exact ⟨_, rfl⟩) | trivial | rfl | (simp; done)))))
theorem lawDigests (l : List Int) (hl : l.length ≤ 17592186044416) : Does Try.prog 5 [.d (dInts l)] [] (B true) [] [] := by
  refine go_law15_ChangeDigests rfl BxOK.nil fun cx hm0 => go_in 5000 ?_
  unfold ac_law15_ChangeDigests rs_law15_ChangeDigests
  by_cases h0 : l.length ≤ 500
  case neg =>
    have q : decide (l.length ≤ 500) = false := decide_eq_false h0
    repeat' (first | simp only [↓GE, PL, PP, EE, QQ, seval, q] | (simp (disch := omega) only [IntWalk.i64_in]) | (refine go_brD (fun h => ?_) (fun h => ?_)) | (refine go_gsD (by ((try simp only [EE, QQ, seval]) <;> rfl)) (fun h => ?_) (fun h => ?_)) | (refine go_br (fun h => ?_) (fun h => ?_)) | (refine go_gs (by ((try simp only [EE, QQ, seval]) <;> rfl)) (fun h => ?_) (fun h => ?_)) | (apply go_call 5000 (sane15) rfl rfl; (· ((try simp only [CC, EE, QQ, seval]) <;> (first | rfl | ((repeat constructor); done)))); (· exact CallForm.plain rfl); (· ((try simp only [CC, EE, QQ, seval]) <;> (first | rfl | ((repeat constructor); done)))); (· ((try simp only [CC, EE, QQ, seval]) <;> (first | rfl | ((repeat constructor); done))))) | (apply go_call 5000 (few l hl) rfl rfl; (· ((try simp only [CC, EE, QQ, seval]) <;> (first | rfl | ((repeat constructor); done)))); (· exact CallForm.plain rfl); (· ((try simp only [CC, EE, QQ, seval]) <;> (first | rfl | ((repeat constructor); done)))); (· ((try simp only [CC, EE, QQ, seval]) <;> (first | rfl | ((repeat constructor); done))))) | (with_reducible apply And.intro) | (with_reducible exact trivial) | omega | (simp only [List.length_map, List.length_cons, List.length_nil] at *; omega) | (show _ = true; first | rfl | kernel_rfl))
    all_goals ((first | apply ret_mk [] | apply end_mk []); (· ((try simp only [CC, EE, QQ, seval]) <;> rfl)); (· ((try simp only [CC, EE, QQ, seval]) <;> repeat' (first | (with_reducible apply And.intro) | rfl | trivial | (exact ⟨_, rfl⟩) | (exact ⟨_, _, _, rfl⟩) | (simp [*, ]; done) | (simp [*, ]; omega) | (simp_all []; done) | (simp_all []; omega)))); all_goals (first | trivial | decide | ((try simp only [CC, EE, QQ, seval]) <;> repeat' (first | (with_reducible apply And.intro) | (exact ⟨_, rfl, rfl, rfl⟩) | (exact ⟨_, _, _, rfl⟩) | (exact ⟨_, rfl⟩) | trivial | rfl | (simp; done)))))
  have q : decide (l.length ≤ 500) = true := decide_eq_true h0
  have hX := tabG_ok l 0
  have d1 := (makeTable l hl 0).nm 24000 0 (by omega) rfl rfl rfl rfl rfl
  generalize (tabG l 0).2 = k1 at *
  generalize (tabG l 0).1 = X at *
  have hL := latG_later l k1 X
  have hY := latG_ok l k1 hX
  have d2 := (makeChange l hl k1 X hX (by omega)).nm 24000 0 (by omega) rfl rfl rfl rfl rfl
  generalize (latG l k1 X).2 = k3 at d2
  generalize (latG l k1 X).1 = Y at *
  obtain ⟨l1, l2, l3⟩ := hL
  have hXl := hX.len; have hYl := hY.len
  have hcX := hX.check (by omega)
  have hcY := hY.check (by omega)
  obtain ⟨e2, e3⟩ := between_leads hcX hcY l2.symm l3.symm l1
  obtain ⟨e4, e5⟩ := e3.apply hcX l2 l3
  have hsh : ShortS (diffGo X.rows 0 Y.rows) := fun s hs => hY.short _ (diffGo_mem _ _ _ s hs)
  have hfl := formF_len e3.form
  have d3 := apply X ⟨X.num, Y.num, Y.rows.length, diffGo X.rows 0 Y.rows⟩ (by omega) hX.short (by omega) hsh
  rw [e5] at d3
  have r1 : r14digF X = (X.rows.map rowF, 0) := by rw [r14digF, if_neg (by simp [hcX])]
  have r2 : r14digF Y = (Y.rows.map rowF, 0) := by rw [r14digF, if_neg (by simp [hcY])]
  have d4 := r14digests X (by omega) hX.short
  rw [r1] at d4
  have d5 := digests (X.rows.map rowF) ⟨X.num, Y.num, Y.rows.length, diffGo X.rows 0 Y.rows⟩ (by rw [List.length_map]; omega) (by omega) hsh
  rw [e3.digests hcX] at d5
  have d6 := r14digests Y (by omega) hY.short
  rw [r2] at d6
  obtain ⟨g1, g2⟩ := holds_rows hcY
  have d7 := r14head Y (by omega) hY.short
  have d8 := r14holds (headF Y).1 (Y.rows.map rowF) (by rw [List.length_map]; omega)
  rw [g2] at d8
  rw [g1] at d7 d8
  have d9 := sameI (Y.rows.map rowF) (Y.rows.map rowF) (by rw [List.length_map]; omega) (by rw [List.length_map]; omega)
  rw [decide_eq_true rfl] at d9
  generalize diffGo X.rows 0 Y.rows = C at *
  generalize X.rows.map rowF = DX at *
  generalize Y.rows.map rowF = DY at *
  repeat' (first | simp only [↓GE, PL, PP, EE, QQ, seval, q, List.length_map] | (simp (disch := omega) only [IntWalk.i64_in]) | (refine go_brD (fun h => ?_) (fun h => ?_)) | (refine go_gsD (by ((try simp only [EE, QQ, seval]) <;> rfl)) (fun h => ?_) (fun h => ?_)) | (refine go_br (fun h => ?_) (fun h => ?_)) | (refine go_gs (by ((try simp only [EE, QQ, seval]) <;> rfl)) (fun h => ?_) (fun h => ?_)) | (apply go_call 5000 (sane15) rfl rfl; (· ((try simp only [CC, EE, QQ, seval]) <;> (first | rfl | ((repeat constructor); done)))); (· exact CallForm.plain rfl); (· ((try simp only [CC, EE, QQ, seval]) <;> (first | rfl | ((repeat constructor); done)))); (· ((try simp only [CC, EE, QQ, seval]) <;> (first | rfl | ((repeat constructor); done))))) | (apply go_call 5000 (few l hl) rfl rfl; (· ((try simp only [CC, EE, QQ, seval]) <;> (first | rfl | ((repeat constructor); done)))); (· exact CallForm.plain rfl); (· ((try simp only [CC, EE, QQ, seval]) <;> (first | rfl | ((repeat constructor); done)))); (· ((try simp only [CC, EE, QQ, seval]) <;> (first | rfl | ((repeat constructor); done))))) | (apply go_call 5000 (makeNew l) rfl rfl; (· ((try simp only [CC, EE, QQ, seval]) <;> (first | rfl | ((repeat constructor); done)))); (· exact CallForm.news rfl rfl); (· ((try simp only [CC, EE, QQ, seval]) <;> (first | rfl | ((repeat constructor); done)))); (· ((try simp only [CC, EE, QQ, seval]) <;> (first | rfl | ((repeat constructor); done))))) | (apply go_call 5000 (d1) rfl rfl; (· ((try simp only [CC, EE, QQ, seval]) <;> (first | rfl | ((repeat constructor); done)))); (· exact CallForm.box1 (by first | decide | (refine ⟨by decide, ?_⟩; first | (right; simp; done) | (left; simp; done))) (by ((try simp only [EE, QQ, seval]) <;> rfl)) rfl rfl rfl rfl); (· ((try simp only [CC, EE, QQ, seval]) <;> (first | rfl | ((repeat constructor); done)))); (· ((try simp only [CC, EE, QQ, seval]) <;> (first | rfl | ((repeat constructor); done))))) | (apply go_call 5000 (d2) rfl rfl; (· ((try simp only [CC, EE, QQ, seval]) <;> (first | rfl | ((repeat constructor); done)))); (· exact CallForm.box1 (by first | decide | (refine ⟨by decide, ?_⟩; first | (right; simp; done) | (left; simp; done))) (by ((try simp only [EE, QQ, seval]) <;> rfl)) rfl rfl rfl rfl); (· ((try simp only [CC, EE, QQ, seval]) <;> (first | rfl | ((repeat constructor); done)))); (· ((try simp only [CC, EE, QQ, seval]) <;> (first | rfl | ((repeat constructor); done))))) | (apply go_call 5000 (d3) rfl rfl; (· ((try simp only [CC, EE, QQ, seval]) <;> (first | rfl | ((repeat constructor); done)))); (· exact CallForm.news rfl rfl); (· ((try simp only [CC, EE, QQ, seval]) <;> (first | rfl | ((repeat constructor); done)))); (· ((try simp only [CC, EE, QQ, seval]) <;> (first | rfl | ((repeat constructor); done))))) | (apply go_call 5000 (d4) rfl rfl; (· ((try simp only [CC, EE, QQ, seval]) <;> (first | rfl | ((repeat constructor); done)))); (· exact CallForm.news rfl rfl); (· ((try simp only [CC, EE, QQ, seval]) <;> (first | rfl | ((repeat constructor); done)))); (· ((try simp only [CC, EE, QQ, seval]) <;> (first | rfl | ((repeat constructor); done))))) | (apply go_call 5000 (d5) rfl rfl; (· ((try simp only [CC, EE, QQ, seval]) <;> (first | rfl | ((repeat constructor); done)))); (· exact CallForm.news rfl rfl); (· ((try simp only [CC, EE, QQ, seval]) <;> (first | rfl | ((repeat constructor); done)))); (· ((try simp only [CC, EE, QQ, seval]) <;> (first | rfl | ((repeat constructor); done))))) | (apply go_call 5000 (d6) rfl rfl; (· ((try simp only [CC, EE, QQ, seval]) <;> (first | rfl | ((repeat constructor); done)))); (· exact CallForm.news rfl rfl); (· ((try simp only [CC, EE, QQ, seval]) <;> (first | rfl | ((repeat constructor); done)))); (· ((try simp only [CC, EE, QQ, seval]) <;> (first | rfl | ((repeat constructor); done))))) | (apply go_call 5000 (d7) rfl rfl; (· ((try simp only [CC, EE, QQ, seval]) <;> (first | rfl | ((repeat constructor); done)))); (· exact CallForm.plain rfl); (· ((try simp only [CC, EE, QQ, seval]) <;> (first | rfl | ((repeat constructor); done)))); (· ((try simp only [CC, EE, QQ, seval]) <;> (first | rfl | ((repeat constructor); done))))) | (apply go_call 5000 (d8) rfl rfl; (· ((try simp only [CC, EE, QQ, seval]) <;> (first | rfl | ((repeat constructor); done)))); (· exact CallForm.plain rfl); (· ((try simp only [CC, EE, QQ, seval]) <;> (first | rfl | ((repeat constructor); done)))); (· ((try simp only [CC, EE, QQ, seval]) <;> (first | rfl | ((repeat constructor); done))))) | (apply go_call 5000 (d9) rfl rfl; (· ((try simp only [CC, EE, QQ, seval]) <;> (first | rfl | ((repeat constructor); done)))); (· exact CallForm.plain rfl); (· ((try simp only [CC, EE, QQ, seval]) <;> (first | rfl | ((repeat constructor); done)))); (· ((try simp only [CC, EE, QQ, seval]) <;> (first | rfl | ((repeat constructor); done))))) | (with_reducible apply And.intro) | (with_reducible exact trivial) | omega | (simp only [List.length_map, List.length_cons, List.length_nil] at *; omega) | (show _ = true; first | rfl | kernel_rfl))
  all_goals ((first | apply ret_mk [] | apply end_mk []); (· ((try simp only [CC, EE, QQ, seval]) <;> rfl)); (· ((try simp only [CC, EE, QQ, seval]) <;> repeat' (first | (with_reducible apply And.intro) | rfl | trivial | (exact ⟨_, rfl⟩) | (exact ⟨_, _, _, rfl⟩) | (simp [*, ]; done) | (simp [*, ]; omega) | (simp_all []; done) | (simp_all []; omega)))); all_goals (first | trivial | decide | ((try simp only [CC, EE, QQ, seval]) <;> repeat' (first | (with_reducible apply And.intro) | (exact ⟨_, rfl, rfl, rfl⟩) | (exact ⟨_, _, _, rfl⟩) | (exact ⟨_, rfl⟩) | trivial | rfl | (simp; done)))))
end Go.Proofs.Ytpliidhbfjjofaa.Sim
