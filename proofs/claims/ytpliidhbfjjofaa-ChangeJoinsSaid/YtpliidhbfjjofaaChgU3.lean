/- ChangeJoins, walked. -/
import Derived.Test.YtpliidhbfjjofaaChgT
namespace Go.Proofs.Ytpliidhbfjjofaa.Sim
open Go
set_option maxRecDepth 100000
set_option maxHeartbeats 4000000
set_option linter.unusedVariables false
set_option linter.unusedSimpArgs false
attribute [local irreducible] Go Mean
theorem Leads.short {x y : PTab} {c : PChg} (h : Leads x c y) (hw : x.width ≤ 64) : ShortS c.sets := fun s hs => by
  have := (h.rows s hs).1; omega
theorem lawJoins (l : List Int) (hl : l.length ≤ 17592186044416) : Does Try.prog 6 [.d (dInts l)] [] (B true) [] [] := by
  refine go_law15_ChangeJoins rfl BxOK.nil fun cx hm0 => go_in 5000 ?_
  unfold ac_law15_ChangeJoins rs_law15_ChangeJoins
  by_cases h0 : l.length ≤ 500
  case neg =>
    have q : decide (l.length ≤ 500) = false := decide_eq_false h0
    repeat' (first | simp only [↓GE, PL, PP, EE, QQ, seval, q] | (simp (disch := omega) only [IntWalk.i64_in]) | (refine go_brD (fun h => ?_) (fun h => ?_)) | (refine go_gsD (by ((try simp only [EE, QQ, seval]) <;> rfl)) (fun h => ?_) (fun h => ?_)) | (refine go_br (fun h => ?_) (fun h => ?_)) | (refine go_gs (by ((try simp only [EE, QQ, seval]) <;> rfl)) (fun h => ?_) (fun h => ?_)) | (apply go_call 5000 (sane15) rfl rfl; (· ((try simp only [CC, EE, QQ, seval]) <;> (first | rfl | ((repeat constructor); done)))); (· exact CallForm.plain rfl); (· ((try simp only [CC, EE, QQ, seval]) <;> (first | rfl | ((repeat constructor); done)))); (· ((try simp only [CC, EE, QQ, seval]) <;> (first | rfl | ((repeat constructor); done))))) | (apply go_call 5000 (few l hl) rfl rfl; (· ((try simp only [CC, EE, QQ, seval]) <;> (first | rfl | ((repeat constructor); done)))); (· exact CallForm.plain rfl); (· ((try simp only [CC, EE, QQ, seval]) <;> (first | rfl | ((repeat constructor); done)))); (· ((try simp only [CC, EE, QQ, seval]) <;> (first | rfl | ((repeat constructor); done))))) | (with_reducible apply And.intro) | (with_reducible exact trivial) | omega | (simp only [List.length_map, List.length_cons, List.length_nil] at *; omega) | (show _ = true; first | rfl | kernel_rfl))
    all_goals ((first | apply ret_mk [] | apply end_mk []); (· ((try simp only [CC, EE, QQ, seval]) <;> rfl)); (· ((try simp only [CC, EE, QQ, seval]) <;> repeat' (first | (with_reducible apply And.intro) | rfl | trivial | (exact ⟨_, rfl⟩) | (exact ⟨_, _, _, rfl⟩) | (simp [*, ]; done) | (simp [*, ]; omega) | (simp_all []; done) | (simp_all []; omega)))); all_goals (first | trivial | decide | ((try simp only [CC, EE, QQ, seval]) <;> repeat' (first | (with_reducible apply And.intro) | (exact ⟨_, rfl, rfl, rfl⟩) | (exact ⟨_, _, _, rfl⟩) | (exact ⟨_, rfl⟩) | trivial | rfl | (simp; done)))))
  have q : decide (l.length ≤ 500) = true := decide_eq_true h0
  have hX := tabG_ok l 0
  have d1 := (makeTable l hl 0).nm 34000 0 (by omega) rfl rfl rfl rfl rfl
  generalize (tabG l 0).2 = k1 at *
  generalize (tabG l 0).1 = X at *
  have hL := latG_later l k1 X
  have hY := latG_ok l k1 hX
  have d2 := (makeLater l hl k1 X hX (by omega)).nm 34000 0 (by omega) rfl rfl rfl rfl rfl
  generalize (latG l k1 X).2 = k2 at d2
  generalize (latG l k1 X).1 = Y at *
  obtain ⟨l1, l2, l3⟩ := hL
  have hL := latG_later l k2 Y
  have hZ := latG_ok l k2 hY
  have d3 := (makeLater l hl k2 Y hY (by omega)).nm 34000 0 (by omega) rfl rfl rfl rfl rfl
  generalize (latG l k2 Y).2 = k3 at d3
  generalize (latG l k2 Y).1 = Z at *
  obtain ⟨l4, l5, l6⟩ := hL
  have hL := latG_later l k3 Z
  have hW := latG_ok l k3 hZ
  have d4 := (makeLater l hl k3 Z hZ (by omega)).nm 34000 0 (by omega) rfl rfl rfl rfl rfl
  generalize (latG l k3 Z).2 = k4 at d4
  generalize (latG l k3 Z).1 = W at *
  obtain ⟨l7, l8, l9⟩ := hL
  have hXl := hX.len; have hYl := hY.len; have hZl := hZ.len; have hWl := hW.len
  have hXw := hX.w2; have hYw := hY.w2; have hZw := hZ.w2
  have hcX := hX.check (by omega)
  have hcY := hY.check (by omega)
  have hcZ := hZ.check (by omega)
  have hcW := hW.check (by omega)
  obtain ⟨e1, f1⟩ := between_leads hcX hcY l2.symm l3.symm l1
  obtain ⟨e2, f2⟩ := between_leads hcY hcZ l5.symm l6.symm l4
  obtain ⟨e3, f3⟩ := between_leads hcZ hcW l8.symm l9.symm l7
  have d5 := between X Y (by omega) hX.short (by omega) hY.short
  have d6 := between Y Z (by omega) hY.short (by omega) hZ.short
  have d7 := between Z W (by omega) hZ.short (by omega) hW.short
  rw [e1] at d5; rw [e2] at d6; rw [e3] at d7
  have pYX : Y.p = X.p := l2
  have pZX : Z.p = X.p := l5.trans l2
  have pWX : W.p = X.p := l8.trans pZX
  have wYX : Y.width = X.width := l3
  have wZX : Z.width = X.width := l6.trans l3
  have wWX : W.width = X.width := l9.trans wZX
  clear e1 e2 e3
  obtain ⟨e1, g1⟩ := f1.join f2 l2 l3
  obtain ⟨e2, g2⟩ := f2.join f3 l5 l6
  obtain ⟨e3, g3⟩ := g1.join f3 pZX wZX
  obtain ⟨e4, g4⟩ := f1.join g2 l2 l3
  have hassoc := join_assoc f1 f2 f3
  obtain ⟨_, e5⟩ := g1.apply hcX pZX wZX
  obtain ⟨_, e6⟩ := g3.apply hcX pWX wWX
  have s1 := f1.short (by omega); have s2 := f2.short (by omega); have s3 := f3.short (by omega)
  have s4 := g1.short (by omega); have s5 := g2.short (by omega); have s6 := g3.short (by omega); have s7 := g4.short (by omega)
  have n1 := formF_len f1.form; have n2 := formF_len f2.form; have n3 := formF_len f3.form
  have n4 := formF_len g1.form; have n5 := formF_len g2.form; have n6 := formF_len g3.form; have n7 := formF_len g4.form
  have d8 := join _ _ (Nat.le_trans n1 (by omega)) s1 (Nat.le_trans n2 (by omega)) s2
  have d9 := join _ _ (Nat.le_trans n2 (by omega)) s2 (Nat.le_trans n3 (by omega)) s3
  have d10 := join _ _ (Nat.le_trans n4 (by omega)) s4 (Nat.le_trans n3 (by omega)) s3
  have d11 := join _ _ (Nat.le_trans n1 (by omega)) s1 (Nat.le_trans n5 (by omega)) s5
  rw [e1] at d8; rw [e2] at d9; rw [e3] at d10; rw [e4] at d11
  have d12 := apply X _ (by omega) hX.short (Nat.le_trans n4 (by omega)) s4
  have d13 := apply X _ (by omega) hX.short (Nat.le_trans n6 (by omega)) s6
  rw [e5] at d12; rw [e6] at d13
  have d14 := sameChg _ _ (Nat.le_trans n6 (by omega)) (Nat.le_trans n7 (by omega)) s6 s7
  have hsc : ∀ (a b c d : Int) (m m' : List PSet), m = m' → sameC ⟨a, b, c, m⟩ ⟨a, b, c, m'⟩ = true := fun a b c d m m' e => by simp [sameC, e]
  rw [hsc _ _ _ 0 _ _ hassoc] at d14
  have d15 := r14same Z Z (by omega) (by omega) hZ.short hZ.short
  have d16 := r14same W W (by omega) (by omega) hW.short hW.short
  have t1 : sameT Z Z = true := by simp [sameT]
  have t2 : sameT W W = true := by simp [sameT]
  rw [t1] at d15; rw [t2] at d16
  simp only at *
  clear s1 s2 s3 s4 s5 s6 s7 n1 n2 n3 n4 n5 n6 n7 f1 f2 f3 g1 g2 g3 g4 e1 e2 e3 e4 e5 e6 hassoc hsc
  generalize mergeF (W.rows.length : Int) (mergeF (Z.rows.length : Int) (diffGo X.rows 0 Y.rows) (diffGo Y.rows 0 Z.rows)) (diffGo Z.rows 0 W.rows) = P at *
  generalize mergeF (W.rows.length : Int) (diffGo X.rows 0 Y.rows) (mergeF (W.rows.length : Int) (diffGo Y.rows 0 Z.rows) (diffGo Z.rows 0 W.rows)) = Q at *
  generalize mergeF (Z.rows.length : Int) (diffGo X.rows 0 Y.rows) (diffGo Y.rows 0 Z.rows) = AB at *
  generalize mergeF (W.rows.length : Int) (diffGo Y.rows 0 Z.rows) (diffGo Z.rows 0 W.rows) = BC at *
  generalize diffGo X.rows 0 Y.rows = CA at *
  generalize diffGo Y.rows 0 Z.rows = CB at *
  generalize diffGo Z.rows 0 W.rows = CC' at *
  repeat' (first | simp only [↓GE, PL, PP, EE, QQ, seval, q, List.length_map] | (simp (disch := omega) only [IntWalk.i64_in]) | (refine go_brD (fun h => ?_) (fun h => ?_)) | (refine go_gsD (by ((try simp only [EE, QQ, seval]) <;> rfl)) (fun h => ?_) (fun h => ?_)) | (refine go_br (fun h => ?_) (fun h => ?_)) | (refine go_gs (by ((try simp only [EE, QQ, seval]) <;> rfl)) (fun h => ?_) (fun h => ?_)) | (apply go_call 5000 (sane15) rfl rfl; (· ((try simp only [CC, EE, QQ, seval]) <;> (first | rfl | ((repeat constructor); done)))); (· exact CallForm.plain rfl); (· ((try simp only [CC, EE, QQ, seval]) <;> (first | rfl | ((repeat constructor); done)))); (· ((try simp only [CC, EE, QQ, seval]) <;> (first | rfl | ((repeat constructor); done))))) | (apply go_call 5000 (few l hl) rfl rfl; (· ((try simp only [CC, EE, QQ, seval]) <;> (first | rfl | ((repeat constructor); done)))); (· exact CallForm.plain rfl); (· ((try simp only [CC, EE, QQ, seval]) <;> (first | rfl | ((repeat constructor); done)))); (· ((try simp only [CC, EE, QQ, seval]) <;> (first | rfl | ((repeat constructor); done))))) | (apply go_call 5000 (makeNew l) rfl rfl; (· ((try simp only [CC, EE, QQ, seval]) <;> (first | rfl | ((repeat constructor); done)))); (· exact CallForm.news rfl rfl); (· ((try simp only [CC, EE, QQ, seval]) <;> (first | rfl | ((repeat constructor); done)))); (· ((try simp only [CC, EE, QQ, seval]) <;> (first | rfl | ((repeat constructor); done))))) | (apply go_call 5000 (d1) rfl rfl; (· ((try simp only [CC, EE, QQ, seval]) <;> (first | rfl | ((repeat constructor); done)))); (· exact CallForm.box1 (by first | decide | (refine ⟨by decide, ?_⟩; first | (right; simp; done) | (left; simp; done))) (by ((try simp only [EE, QQ, seval]) <;> rfl)) rfl rfl rfl rfl); (· ((try simp only [CC, EE, QQ, seval]) <;> (first | rfl | ((repeat constructor); done)))); (· ((try simp only [CC, EE, QQ, seval]) <;> (first | rfl | ((repeat constructor); done))))) | (apply go_call 5000 (d2) rfl rfl; (· ((try simp only [CC, EE, QQ, seval]) <;> (first | rfl | ((repeat constructor); done)))); (· exact CallForm.box1 (by first | decide | (refine ⟨by decide, ?_⟩; first | (right; simp; done) | (left; simp; done))) (by ((try simp only [EE, QQ, seval]) <;> rfl)) rfl rfl rfl rfl); (· ((try simp only [CC, EE, QQ, seval]) <;> (first | rfl | ((repeat constructor); done)))); (· ((try simp only [CC, EE, QQ, seval]) <;> (first | rfl | ((repeat constructor); done))))) | (apply go_call 5000 (d3) rfl rfl; (· ((try simp only [CC, EE, QQ, seval]) <;> (first | rfl | ((repeat constructor); done)))); (· exact CallForm.box1 (by first | decide | (refine ⟨by decide, ?_⟩; first | (right; simp; done) | (left; simp; done))) (by ((try simp only [EE, QQ, seval]) <;> rfl)) rfl rfl rfl rfl); (· ((try simp only [CC, EE, QQ, seval]) <;> (first | rfl | ((repeat constructor); done)))); (· ((try simp only [CC, EE, QQ, seval]) <;> (first | rfl | ((repeat constructor); done))))) | (apply go_call 5000 (d4) rfl rfl; (· ((try simp only [CC, EE, QQ, seval]) <;> (first | rfl | ((repeat constructor); done)))); (· exact CallForm.box1 (by first | decide | (refine ⟨by decide, ?_⟩; first | (right; simp; done) | (left; simp; done))) (by ((try simp only [EE, QQ, seval]) <;> rfl)) rfl rfl rfl rfl); (· ((try simp only [CC, EE, QQ, seval]) <;> (first | rfl | ((repeat constructor); done)))); (· ((try simp only [CC, EE, QQ, seval]) <;> (first | rfl | ((repeat constructor); done))))) | (apply go_call 5000 (d5) rfl rfl; (· ((try simp only [CC, EE, QQ, seval]) <;> (first | rfl | ((repeat constructor); done)))); (· exact CallForm.news rfl rfl); (· ((try simp only [CC, EE, QQ, seval]) <;> (first | rfl | ((repeat constructor); done)))); (· ((try simp only [CC, EE, QQ, seval]) <;> (first | rfl | ((repeat constructor); done))))) | (apply go_call 5000 (d6) rfl rfl; (· ((try simp only [CC, EE, QQ, seval]) <;> (first | rfl | ((repeat constructor); done)))); (· exact CallForm.news rfl rfl); (· ((try simp only [CC, EE, QQ, seval]) <;> (first | rfl | ((repeat constructor); done)))); (· ((try simp only [CC, EE, QQ, seval]) <;> (first | rfl | ((repeat constructor); done))))) | (apply go_call 5000 (d7) rfl rfl; (· ((try simp only [CC, EE, QQ, seval]) <;> (first | rfl | ((repeat constructor); done)))); (· exact CallForm.news rfl rfl); (· ((try simp only [CC, EE, QQ, seval]) <;> (first | rfl | ((repeat constructor); done)))); (· ((try simp only [CC, EE, QQ, seval]) <;> (first | rfl | ((repeat constructor); done))))) | (apply go_call 5000 (d8) rfl rfl; (· ((try simp only [CC, EE, QQ, seval]) <;> (first | rfl | ((repeat constructor); done)))); (· exact CallForm.news rfl rfl); (· ((try simp only [CC, EE, QQ, seval]) <;> (first | rfl | ((repeat constructor); done)))); (· ((try simp only [CC, EE, QQ, seval]) <;> (first | rfl | ((repeat constructor); done))))) | (apply go_call 5000 (d9) rfl rfl; (· ((try simp only [CC, EE, QQ, seval]) <;> (first | rfl | ((repeat constructor); done)))); (· exact CallForm.news rfl rfl); (· ((try simp only [CC, EE, QQ, seval]) <;> (first | rfl | ((repeat constructor); done)))); (· ((try simp only [CC, EE, QQ, seval]) <;> (first | rfl | ((repeat constructor); done))))) | (apply go_call 5000 (d10) rfl rfl; (· ((try simp only [CC, EE, QQ, seval]) <;> (first | rfl | ((repeat constructor); done)))); (· exact CallForm.news rfl rfl); (· ((try simp only [CC, EE, QQ, seval]) <;> (first | rfl | ((repeat constructor); done)))); (· ((try simp only [CC, EE, QQ, seval]) <;> (first | rfl | ((repeat constructor); done))))) | (apply go_call 5000 (d11) rfl rfl; (· ((try simp only [CC, EE, QQ, seval]) <;> (first | rfl | ((repeat constructor); done)))); (· exact CallForm.news rfl rfl); (· ((try simp only [CC, EE, QQ, seval]) <;> (first | rfl | ((repeat constructor); done)))); (· ((try simp only [CC, EE, QQ, seval]) <;> (first | rfl | ((repeat constructor); done))))) | (apply go_call 5000 (d12) rfl rfl; (· ((try simp only [CC, EE, QQ, seval]) <;> (first | rfl | ((repeat constructor); done)))); (· exact CallForm.news rfl rfl); (· ((try simp only [CC, EE, QQ, seval]) <;> (first | rfl | ((repeat constructor); done)))); (· ((try simp only [CC, EE, QQ, seval]) <;> (first | rfl | ((repeat constructor); done))))) | (apply go_call 5000 (d13) rfl rfl; (· ((try simp only [CC, EE, QQ, seval]) <;> (first | rfl | ((repeat constructor); done)))); (· exact CallForm.news rfl rfl); (· ((try simp only [CC, EE, QQ, seval]) <;> (first | rfl | ((repeat constructor); done)))); (· ((try simp only [CC, EE, QQ, seval]) <;> (first | rfl | ((repeat constructor); done))))) | (apply go_call 5000 (d14) rfl rfl; (· ((try simp only [CC, EE, QQ, seval]) <;> (first | rfl | ((repeat constructor); done)))); (· exact CallForm.plain rfl); (· ((try simp only [CC, EE, QQ, seval]) <;> (first | rfl | ((repeat constructor); done)))); (· ((try simp only [CC, EE, QQ, seval]) <;> (first | rfl | ((repeat constructor); done))))) | (apply go_call 5000 (d15) rfl rfl; (· ((try simp only [CC, EE, QQ, seval]) <;> (first | rfl | ((repeat constructor); done)))); (· exact CallForm.plain rfl); (· ((try simp only [CC, EE, QQ, seval]) <;> (first | rfl | ((repeat constructor); done)))); (· ((try simp only [CC, EE, QQ, seval]) <;> (first | rfl | ((repeat constructor); done))))) | (apply go_call 5000 (d16) rfl rfl; (· ((try simp only [CC, EE, QQ, seval]) <;> (first | rfl | ((repeat constructor); done)))); (· exact CallForm.plain rfl); (· ((try simp only [CC, EE, QQ, seval]) <;> (first | rfl | ((repeat constructor); done)))); (· ((try simp only [CC, EE, QQ, seval]) <;> (first | rfl | ((repeat constructor); done))))) | (with_reducible apply And.intro) | (with_reducible exact trivial) | omega | (simp only [List.length_map, List.length_cons, List.length_nil] at *; omega) | (show _ = true; first | rfl | kernel_rfl))
  all_goals ((first | apply ret_mk [] | apply end_mk []); (· ((try simp only [CC, EE, QQ, seval]) <;> rfl)); (· ((try simp only [CC, EE, QQ, seval]) <;> repeat' (first | (with_reducible apply And.intro) | rfl | trivial | (exact ⟨_, rfl⟩) | (exact ⟨_, _, _, rfl⟩) | (simp [*, ]; done) | (simp [*, ]; omega) | (simp_all []; done) | (simp_all []; omega)))); all_goals (first | trivial | decide | ((try simp only [CC, EE, QQ, seval]) <;> repeat' (first | (with_reducible apply And.intro) | (exact ⟨_, rfl, rfl, rfl⟩) | (exact ⟨_, _, _, rfl⟩) | (exact ⟨_, rfl⟩) | trivial | rfl | (simp; done)))))
end Go.Proofs.Ytpliidhbfjjofaa.Sim
