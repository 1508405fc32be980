/- Schemes, fields, wishes and tapes that dice give. -/
import Derived.Test.YtihjmnhjjpdenaaMPlayA
namespace Go.Proofs.Ytihjmnhjjpdenaa.Sim
open Go
set_option maxRecDepth 100000
set_option maxHeartbeats 4000000
set_option linter.unusedVariables false
set_option linter.unusedSimpArgs false
attribute [local irreducible] Go Mean
structure PSch where
  kind : Int
  sv : Int
  deg : Int
  grp : Int
abbrev vSch (s : PSch) : V := .ag [I s.kind, I s.sv, I s.deg, I s.grp]
def okS (s : PSch) : Prop := 3 ≤ s.sv ∧ s.sv ≤ 6 ∧ ((s.kind = 1 ∧ s.deg = 0 ∧ s.grp = 0) ∨ (s.kind = 2 ∧ 1 ≤ s.deg ∧ s.deg ≤ 2 ∧ s.grp = 0) ∨ (s.kind = 3 ∧ 1 ≤ s.deg ∧ s.deg ≤ 2 ∧ s.grp = 1) ∨ (s.kind = 3 ∧ s.deg = 1 ∧ s.grp = 2 ∧ 4 ≤ s.sv))
theorem dscheme (l : List UInt8) (hl : l.length ≤ 140737488355328) (k : Nat) : ∃ s k', okS s ∧ Does Try.prog 21 [dcp] (dc l k) (vSch s) (dc l k') [] := by
  have e0 := pick l hl k 4 (by omega)
  have a0 := pickV_in l k 4 (by omega)
  generalize pickV l k 4 = v0 at *
  generalize pickK l k = k1 at *
  have e1 := pick l hl k1 3 (by omega)
  have a1 := pickV_in l k1 3 (by omega)
  generalize pickV l k1 3 = v1 at *
  generalize pickK l k1 = k2 at *
  have e2 := pick l hl k2 2 (by omega)
  have a2 := pickV_in l k2 2 (by omega)
  generalize pickV l k2 2 = v2 at *
  generalize pickK l k2 = k3 at *
  have e3 := pick l hl k3 2 (by omega)
  have a3 := pickV_in l k3 2 (by omega)
  generalize pickV l k3 2 = v3 at *
  generalize pickK l k3 = k4 at *
  have w0 : IntKind.i64.wrap (3 + v0) = 3 + v0 := IntWalk.i64_in _ (by omega)
  have w2 : IntKind.i64.wrap (1 + v2) = 1 + v2 := IntWalk.i64_in _ (by omega)
  have w3 : IntKind.i64.wrap (1 + v3) = 1 + v3 := IntWalk.i64_in _ (by omega)
  have h1 : v1 = 0 ∨ v1 = 1 ∨ v1 = 2 := by omega
  rcases h1 with rfl | rfl | rfl
  · refine ⟨⟨1, 3 + v0, 0, 0⟩, k2, ⟨by simp only; omega, by simp only; omega, .inl ⟨rfl, rfl, rfl⟩⟩, ?_⟩
    refine go_play_Dice_Scheme rfl BxOK.one fun cx hm0 => go_in 5000 ?_
    unfold ac_play_Dice_Scheme rs_play_Dice_Scheme
    repeat' (first | simp (maxSteps := 9999999) only [↓GE, PL, PP, EE, QQ, seval, w0] | (simp (disch := omega) only [IntWalk.i64_in]) | (refine go_brD (fun h => ?_) (fun h => ?_)) | (refine go_gsD (by ((try simp only [EE, QQ, seval]) <;> rfl)) (fun h => ?_) (fun h => ?_)) | (refine go_br (fun h => ?_) (fun h => ?_)) | (refine go_gs (by ((try simp only [EE, QQ, seval]) <;> rfl)) (fun h => ?_) (fun h => ?_)) | (apply go_call 5000 (e0) rfl rfl; iterate 4 (first | (exact CallForm.lent (by (try simp only [CC, LL, NM, EE, QQ, seval]); repeat' (first | trivial | (with_reducible rfl) | omega | (with_reducible apply And.intro) | rfl)) rfl rfl) | ((try simp only [CC, LL, NM, EE, QQ, seval]) <;> (first | rfl | ((repeat constructor); done))))) | (apply go_call 5000 (e1) rfl rfl; iterate 4 (first | (exact CallForm.lent (by (try simp only [CC, LL, NM, EE, QQ, seval]); repeat' (first | trivial | (with_reducible rfl) | omega | (with_reducible apply And.intro) | rfl)) rfl rfl) | ((try simp only [CC, LL, NM, EE, QQ, seval]) <;> (first | rfl | ((repeat constructor); done))))) | (with_reducible apply And.intro) | (with_reducible exact trivial) | omega | (simp only [List.length_map, List.length_cons, List.length_nil] at *; omega) | (show _ = true; first | rfl | kernel_rfl))
    all_goals ((first | apply ret_mk [] | apply end_mk []); (· ((try simp only [CC, LL, EE, QQ, seval]) <;> rfl)); (· ((try simp only [CC, LL, EE, QQ, seval]) <;> repeat' (first | (with_reducible apply And.intro) | rfl | trivial | (exact ⟨_, rfl⟩) | (exact ⟨_, _, _, rfl⟩) | (simp [*, ]; done) | (simp [*, ]; omega) | (simp_all []; done) | (simp_all []; omega)))); all_goals (first | trivial | decide | ((try simp only [CC, LL, EE, QQ, seval]) <;> repeat' (first | (with_reducible apply And.intro) | (exact ⟨_, rfl, rfl, rfl⟩) | (exact ⟨_, _, _, rfl⟩) | (exact ⟨_, rfl⟩) | trivial | rfl | (simp; done)))))
  · refine ⟨⟨2, 3 + v0, 1 + v2, 0⟩, k3, ⟨by simp only; omega, by simp only; omega, .inr (.inl ⟨rfl, by simp only; omega, by simp only; omega, rfl⟩)⟩, ?_⟩
    refine go_play_Dice_Scheme rfl BxOK.one fun cx hm0 => go_in 5000 ?_
    unfold ac_play_Dice_Scheme rs_play_Dice_Scheme
    repeat' (first | simp (maxSteps := 9999999) only [↓GE, PL, PP, EE, QQ, seval, w0, w2] | (simp (disch := omega) only [IntWalk.i64_in]) | (refine go_brD (fun h => ?_) (fun h => ?_)) | (refine go_gsD (by ((try simp only [EE, QQ, seval]) <;> rfl)) (fun h => ?_) (fun h => ?_)) | (refine go_br (fun h => ?_) (fun h => ?_)) | (refine go_gs (by ((try simp only [EE, QQ, seval]) <;> rfl)) (fun h => ?_) (fun h => ?_)) | (apply go_call 5000 (e0) rfl rfl; iterate 4 (first | (exact CallForm.lent (by (try simp only [CC, LL, NM, EE, QQ, seval]); repeat' (first | trivial | (with_reducible rfl) | omega | (with_reducible apply And.intro) | rfl)) rfl rfl) | ((try simp only [CC, LL, NM, EE, QQ, seval]) <;> (first | rfl | ((repeat constructor); done))))) | (apply go_call 5000 (e1) rfl rfl; iterate 4 (first | (exact CallForm.lent (by (try simp only [CC, LL, NM, EE, QQ, seval]); repeat' (first | trivial | (with_reducible rfl) | omega | (with_reducible apply And.intro) | rfl)) rfl rfl) | ((try simp only [CC, LL, NM, EE, QQ, seval]) <;> (first | rfl | ((repeat constructor); done))))) | (apply go_call 5000 (e2) rfl rfl; iterate 4 (first | (exact CallForm.lent (by (try simp only [CC, LL, NM, EE, QQ, seval]); repeat' (first | trivial | (with_reducible rfl) | omega | (with_reducible apply And.intro) | rfl)) rfl rfl) | ((try simp only [CC, LL, NM, EE, QQ, seval]) <;> (first | rfl | ((repeat constructor); done))))) | (with_reducible apply And.intro) | (with_reducible exact trivial) | omega | (simp only [List.length_map, List.length_cons, List.length_nil] at *; omega) | (show _ = true; first | rfl | kernel_rfl))
    all_goals ((first | apply ret_mk [] | apply end_mk []); (· ((try simp only [CC, LL, EE, QQ, seval]) <;> rfl)); (· ((try simp only [CC, LL, EE, QQ, seval]) <;> repeat' (first | (with_reducible apply And.intro) | rfl | trivial | (exact ⟨_, rfl⟩) | (exact ⟨_, _, _, rfl⟩) | (simp [*, ]; done) | (simp [*, ]; omega) | (simp_all []; done) | (simp_all []; omega)))); all_goals (first | trivial | decide | ((try simp only [CC, LL, EE, QQ, seval]) <;> repeat' (first | (with_reducible apply And.intro) | (exact ⟨_, rfl, rfl, rfl⟩) | (exact ⟨_, _, _, rfl⟩) | (exact ⟨_, rfl⟩) | trivial | rfl | (simp; done)))))
  · by_cases h2 : v0 = 0
    · refine ⟨⟨3, 3 + v0, 1 + v2, 1⟩, k3, ⟨by simp only; omega, by simp only; omega, .inr (.inr (.inl ⟨rfl, by simp only; omega, by simp only; omega, rfl⟩))⟩, ?_⟩
      refine go_play_Dice_Scheme rfl BxOK.one fun cx hm0 => go_in 5000 ?_
      unfold ac_play_Dice_Scheme rs_play_Dice_Scheme
      have q : decide (3 + v0 < 4) = true := decide_eq_true (by omega)
      repeat' (first | simp (maxSteps := 9999999) only [↓GE, PL, PP, EE, QQ, seval, w0, w2, q] | (simp (disch := omega) only [IntWalk.i64_in]) | (refine go_brD (fun h => ?_) (fun h => ?_)) | (refine go_gsD (by ((try simp only [EE, QQ, seval]) <;> rfl)) (fun h => ?_) (fun h => ?_)) | (refine go_br (fun h => ?_) (fun h => ?_)) | (refine go_gs (by ((try simp only [EE, QQ, seval]) <;> rfl)) (fun h => ?_) (fun h => ?_)) | (apply go_call 5000 (e0) rfl rfl; iterate 4 (first | (exact CallForm.lent (by (try simp only [CC, LL, NM, EE, QQ, seval]); repeat' (first | trivial | (with_reducible rfl) | omega | (with_reducible apply And.intro) | rfl)) rfl rfl) | ((try simp only [CC, LL, NM, EE, QQ, seval]) <;> (first | rfl | ((repeat constructor); done))))) | (apply go_call 5000 (e1) rfl rfl; iterate 4 (first | (exact CallForm.lent (by (try simp only [CC, LL, NM, EE, QQ, seval]); repeat' (first | trivial | (with_reducible rfl) | omega | (with_reducible apply And.intro) | rfl)) rfl rfl) | ((try simp only [CC, LL, NM, EE, QQ, seval]) <;> (first | rfl | ((repeat constructor); done))))) | (apply go_call 5000 (e2) rfl rfl; iterate 4 (first | (exact CallForm.lent (by (try simp only [CC, LL, NM, EE, QQ, seval]); repeat' (first | trivial | (with_reducible rfl) | omega | (with_reducible apply And.intro) | rfl)) rfl rfl) | ((try simp only [CC, LL, NM, EE, QQ, seval]) <;> (first | rfl | ((repeat constructor); done))))) | (with_reducible apply And.intro) | (with_reducible exact trivial) | omega | (simp only [List.length_map, List.length_cons, List.length_nil] at *; omega) | (show _ = true; first | rfl | kernel_rfl))
      all_goals ((first | apply ret_mk [] | apply end_mk []); (· ((try simp only [CC, LL, EE, QQ, seval]) <;> rfl)); (· ((try simp only [CC, LL, EE, QQ, seval]) <;> repeat' (first | (with_reducible apply And.intro) | rfl | trivial | (exact ⟨_, rfl⟩) | (exact ⟨_, _, _, rfl⟩) | (simp [*, ]; done) | (simp [*, ]; omega) | (simp_all []; done) | (simp_all []; omega)))); all_goals (first | trivial | decide | ((try simp only [CC, LL, EE, QQ, seval]) <;> repeat' (first | (with_reducible apply And.intro) | (exact ⟨_, rfl, rfl, rfl⟩) | (exact ⟨_, _, _, rfl⟩) | (exact ⟨_, rfl⟩) | trivial | rfl | (simp; done)))))
    have q : decide (3 + v0 < 4) = false := decide_eq_false (by omega)
    by_cases h3 : v2 = 0
    · refine ⟨⟨3, 3 + v0, 1 + v3, 1⟩, k4, ⟨by simp only; omega, by simp only; omega, .inr (.inr (.inl ⟨rfl, by simp only; omega, by simp only; omega, rfl⟩))⟩, ?_⟩
      refine go_play_Dice_Scheme rfl BxOK.one fun cx hm0 => go_in 5000 ?_
      unfold ac_play_Dice_Scheme rs_play_Dice_Scheme
      have q2 : (v2 == 0) = true := by rw [beq_iff_eq]; omega
      repeat' (first | simp (maxSteps := 9999999) only [↓GE, PL, PP, EE, QQ, seval, w0, w3, q, q2] | (simp (disch := omega) only [IntWalk.i64_in]) | (refine go_brD (fun h => ?_) (fun h => ?_)) | (refine go_gsD (by ((try simp only [EE, QQ, seval]) <;> rfl)) (fun h => ?_) (fun h => ?_)) | (refine go_br (fun h => ?_) (fun h => ?_)) | (refine go_gs (by ((try simp only [EE, QQ, seval]) <;> rfl)) (fun h => ?_) (fun h => ?_)) | (apply go_call 5000 (e0) rfl rfl; iterate 4 (first | (exact CallForm.lent (by (try simp only [CC, LL, NM, EE, QQ, seval]); repeat' (first | trivial | (with_reducible rfl) | omega | (with_reducible apply And.intro) | rfl)) rfl rfl) | ((try simp only [CC, LL, NM, EE, QQ, seval]) <;> (first | rfl | ((repeat constructor); done))))) | (apply go_call 5000 (e1) rfl rfl; iterate 4 (first | (exact CallForm.lent (by (try simp only [CC, LL, NM, EE, QQ, seval]); repeat' (first | trivial | (with_reducible rfl) | omega | (with_reducible apply And.intro) | rfl)) rfl rfl) | ((try simp only [CC, LL, NM, EE, QQ, seval]) <;> (first | rfl | ((repeat constructor); done))))) | (apply go_call 5000 (e2) rfl rfl; iterate 4 (first | (exact CallForm.lent (by (try simp only [CC, LL, NM, EE, QQ, seval]); repeat' (first | trivial | (with_reducible rfl) | omega | (with_reducible apply And.intro) | rfl)) rfl rfl) | ((try simp only [CC, LL, NM, EE, QQ, seval]) <;> (first | rfl | ((repeat constructor); done))))) | (apply go_call 5000 (e3) rfl rfl; iterate 4 (first | (exact CallForm.lent (by (try simp only [CC, LL, NM, EE, QQ, seval]); repeat' (first | trivial | (with_reducible rfl) | omega | (with_reducible apply And.intro) | rfl)) rfl rfl) | ((try simp only [CC, LL, NM, EE, QQ, seval]) <;> (first | rfl | ((repeat constructor); done))))) | (with_reducible apply And.intro) | (with_reducible exact trivial) | omega | (simp only [List.length_map, List.length_cons, List.length_nil] at *; omega) | (show _ = true; first | rfl | kernel_rfl))
      all_goals ((first | apply ret_mk [] | apply end_mk []); (· ((try simp only [CC, LL, EE, QQ, seval]) <;> rfl)); (· ((try simp only [CC, LL, EE, QQ, seval]) <;> repeat' (first | (with_reducible apply And.intro) | rfl | trivial | (exact ⟨_, rfl⟩) | (exact ⟨_, _, _, rfl⟩) | (simp [*, ]; done) | (simp [*, ]; omega) | (simp_all []; done) | (simp_all []; omega)))); all_goals (first | trivial | decide | ((try simp only [CC, LL, EE, QQ, seval]) <;> repeat' (first | (with_reducible apply And.intro) | (exact ⟨_, rfl, rfl, rfl⟩) | (exact ⟨_, _, _, rfl⟩) | (exact ⟨_, rfl⟩) | trivial | rfl | (simp; done)))))
    · refine ⟨⟨3, 3 + v0, 1, 2⟩, k3, ⟨by simp only; omega, by simp only; omega, .inr (.inr (.inr ⟨rfl, rfl, rfl, by simp only; omega⟩))⟩, ?_⟩
      refine go_play_Dice_Scheme rfl BxOK.one fun cx hm0 => go_in 5000 ?_
      unfold ac_play_Dice_Scheme rs_play_Dice_Scheme
      have q2 : (v2 == 0) = false := by rw [beq_eq_false_iff_ne]; omega
      repeat' (first | simp (maxSteps := 9999999) only [↓GE, PL, PP, EE, QQ, seval, w0, q, q2] | (simp (disch := omega) only [IntWalk.i64_in]) | (refine go_brD (fun h => ?_) (fun h => ?_)) | (refine go_gsD (by ((try simp only [EE, QQ, seval]) <;> rfl)) (fun h => ?_) (fun h => ?_)) | (refine go_br (fun h => ?_) (fun h => ?_)) | (refine go_gs (by ((try simp only [EE, QQ, seval]) <;> rfl)) (fun h => ?_) (fun h => ?_)) | (apply go_call 5000 (e0) rfl rfl; iterate 4 (first | (exact CallForm.lent (by (try simp only [CC, LL, NM, EE, QQ, seval]); repeat' (first | trivial | (with_reducible rfl) | omega | (with_reducible apply And.intro) | rfl)) rfl rfl) | ((try simp only [CC, LL, NM, EE, QQ, seval]) <;> (first | rfl | ((repeat constructor); done))))) | (apply go_call 5000 (e1) rfl rfl; iterate 4 (first | (exact CallForm.lent (by (try simp only [CC, LL, NM, EE, QQ, seval]); repeat' (first | trivial | (with_reducible rfl) | omega | (with_reducible apply And.intro) | rfl)) rfl rfl) | ((try simp only [CC, LL, NM, EE, QQ, seval]) <;> (first | rfl | ((repeat constructor); done))))) | (apply go_call 5000 (e2) rfl rfl; iterate 4 (first | (exact CallForm.lent (by (try simp only [CC, LL, NM, EE, QQ, seval]); repeat' (first | trivial | (with_reducible rfl) | omega | (with_reducible apply And.intro) | rfl)) rfl rfl) | ((try simp only [CC, LL, NM, EE, QQ, seval]) <;> (first | rfl | ((repeat constructor); done))))) | (with_reducible apply And.intro) | (with_reducible exact trivial) | omega | (simp only [List.length_map, List.length_cons, List.length_nil] at *; omega) | (show _ = true; first | rfl | kernel_rfl))
      all_goals ((first | apply ret_mk [] | apply end_mk []); (· ((try simp only [CC, LL, EE, QQ, seval]) <;> rfl)); (· ((try simp only [CC, LL, EE, QQ, seval]) <;> repeat' (first | (with_reducible apply And.intro) | rfl | trivial | (exact ⟨_, rfl⟩) | (exact ⟨_, _, _, rfl⟩) | (simp [*, ]; done) | (simp [*, ]; omega) | (simp_all []; done) | (simp_all []; omega)))); all_goals (first | trivial | decide | ((try simp only [CC, LL, EE, QQ, seval]) <;> repeat' (first | (with_reducible apply And.intro) | (exact ⟨_, rfl, rfl, rfl⟩) | (exact ⟨_, _, _, rfl⟩) | (exact ⟨_, rfl⟩) | trivial | rfl | (simp; done)))))
def okP (p : Int) : Prop := p = 7 ∨ p = 11 ∨ p = 13 ∨ p = 257
theorem dfield (l : List UInt8) (hl : l.length ≤ 140737488355328) (k : Nat) : ∃ p k', okP p ∧ Does Try.prog 22 [dcp] (dc l k) (.ag [I p]) (dc l k') [] := by
  have e0 := pick l hl k 4 (by omega)
  have a0 := pickV_in l k 4 (by omega)
  generalize pickV l k 4 = v0 at *
  generalize pickK l k = k1 at *
  have h1 : v0 = 0 ∨ v0 = 1 ∨ v0 = 2 ∨ v0 = 3 := by omega
  rcases h1 with rfl | rfl | rfl | rfl
  · refine ⟨7, k1, .inl rfl, ?_⟩
    refine go_play_Dice_Field rfl BxOK.one fun cx hm0 => go_in 5000 ?_
    unfold ac_play_Dice_Field rs_play_Dice_Field
    repeat' (first | simp (maxSteps := 9999999) only [↓GE, PL, PP, EE, QQ, seval] | (simp (disch := omega) only [IntWalk.i64_in]) | (refine go_brD (fun h => ?_) (fun h => ?_)) | (refine go_gsD (by ((try simp only [EE, QQ, seval]) <;> rfl)) (fun h => ?_) (fun h => ?_)) | (refine go_br (fun h => ?_) (fun h => ?_)) | (refine go_gs (by ((try simp only [EE, QQ, seval]) <;> rfl)) (fun h => ?_) (fun h => ?_)) | (apply go_call 5000 (e0) rfl rfl; iterate 4 (first | (exact CallForm.lent (by (try simp only [CC, LL, NM, EE, QQ, seval]); repeat' (first | trivial | (with_reducible rfl) | omega | (with_reducible apply And.intro) | rfl)) rfl rfl) | ((try simp only [CC, LL, NM, EE, QQ, seval]) <;> (first | rfl | ((repeat constructor); done))))) | (with_reducible apply And.intro) | (with_reducible exact trivial) | omega | (simp only [List.length_map, List.length_cons, List.length_nil] at *; omega) | (show _ = true; first | rfl | kernel_rfl))
    all_goals ((first | apply ret_mk [] | apply end_mk []); (· ((try simp only [CC, LL, EE, QQ, seval]) <;> rfl)); (· ((try simp only [CC, LL, EE, QQ, seval]) <;> repeat' (first | (with_reducible apply And.intro) | rfl | trivial | (exact ⟨_, rfl⟩) | (exact ⟨_, _, _, rfl⟩) | (simp [*, ]; done) | (simp [*, ]; omega) | (simp_all []; done) | (simp_all []; omega)))); all_goals (first | trivial | decide | ((try simp only [CC, LL, EE, QQ, seval]) <;> repeat' (first | (with_reducible apply And.intro) | (exact ⟨_, rfl, rfl, rfl⟩) | (exact ⟨_, _, _, rfl⟩) | (exact ⟨_, rfl⟩) | trivial | rfl | (simp; done)))))
  · refine ⟨11, k1, .inr (.inl rfl), ?_⟩
    refine go_play_Dice_Field rfl BxOK.one fun cx hm0 => go_in 5000 ?_
    unfold ac_play_Dice_Field rs_play_Dice_Field
    repeat' (first | simp (maxSteps := 9999999) only [↓GE, PL, PP, EE, QQ, seval] | (simp (disch := omega) only [IntWalk.i64_in]) | (refine go_brD (fun h => ?_) (fun h => ?_)) | (refine go_gsD (by ((try simp only [EE, QQ, seval]) <;> rfl)) (fun h => ?_) (fun h => ?_)) | (refine go_br (fun h => ?_) (fun h => ?_)) | (refine go_gs (by ((try simp only [EE, QQ, seval]) <;> rfl)) (fun h => ?_) (fun h => ?_)) | (apply go_call 5000 (e0) rfl rfl; iterate 4 (first | (exact CallForm.lent (by (try simp only [CC, LL, NM, EE, QQ, seval]); repeat' (first | trivial | (with_reducible rfl) | omega | (with_reducible apply And.intro) | rfl)) rfl rfl) | ((try simp only [CC, LL, NM, EE, QQ, seval]) <;> (first | rfl | ((repeat constructor); done))))) | (with_reducible apply And.intro) | (with_reducible exact trivial) | omega | (simp only [List.length_map, List.length_cons, List.length_nil] at *; omega) | (show _ = true; first | rfl | kernel_rfl))
    all_goals ((first | apply ret_mk [] | apply end_mk []); (· ((try simp only [CC, LL, EE, QQ, seval]) <;> rfl)); (· ((try simp only [CC, LL, EE, QQ, seval]) <;> repeat' (first | (with_reducible apply And.intro) | rfl | trivial | (exact ⟨_, rfl⟩) | (exact ⟨_, _, _, rfl⟩) | (simp [*, ]; done) | (simp [*, ]; omega) | (simp_all []; done) | (simp_all []; omega)))); all_goals (first | trivial | decide | ((try simp only [CC, LL, EE, QQ, seval]) <;> repeat' (first | (with_reducible apply And.intro) | (exact ⟨_, rfl, rfl, rfl⟩) | (exact ⟨_, _, _, rfl⟩) | (exact ⟨_, rfl⟩) | trivial | rfl | (simp; done)))))
  · refine ⟨13, k1, .inr (.inr (.inl rfl)), ?_⟩
    refine go_play_Dice_Field rfl BxOK.one fun cx hm0 => go_in 5000 ?_
    unfold ac_play_Dice_Field rs_play_Dice_Field
    repeat' (first | simp (maxSteps := 9999999) only [↓GE, PL, PP, EE, QQ, seval] | (simp (disch := omega) only [IntWalk.i64_in]) | (refine go_brD (fun h => ?_) (fun h => ?_)) | (refine go_gsD (by ((try simp only [EE, QQ, seval]) <;> rfl)) (fun h => ?_) (fun h => ?_)) | (refine go_br (fun h => ?_) (fun h => ?_)) | (refine go_gs (by ((try simp only [EE, QQ, seval]) <;> rfl)) (fun h => ?_) (fun h => ?_)) | (apply go_call 5000 (e0) rfl rfl; iterate 4 (first | (exact CallForm.lent (by (try simp only [CC, LL, NM, EE, QQ, seval]); repeat' (first | trivial | (with_reducible rfl) | omega | (with_reducible apply And.intro) | rfl)) rfl rfl) | ((try simp only [CC, LL, NM, EE, QQ, seval]) <;> (first | rfl | ((repeat constructor); done))))) | (with_reducible apply And.intro) | (with_reducible exact trivial) | omega | (simp only [List.length_map, List.length_cons, List.length_nil] at *; omega) | (show _ = true; first | rfl | kernel_rfl))
    all_goals ((first | apply ret_mk [] | apply end_mk []); (· ((try simp only [CC, LL, EE, QQ, seval]) <;> rfl)); (· ((try simp only [CC, LL, EE, QQ, seval]) <;> repeat' (first | (with_reducible apply And.intro) | rfl | trivial | (exact ⟨_, rfl⟩) | (exact ⟨_, _, _, rfl⟩) | (simp [*, ]; done) | (simp [*, ]; omega) | (simp_all []; done) | (simp_all []; omega)))); all_goals (first | trivial | decide | ((try simp only [CC, LL, EE, QQ, seval]) <;> repeat' (first | (with_reducible apply And.intro) | (exact ⟨_, rfl, rfl, rfl⟩) | (exact ⟨_, _, _, rfl⟩) | (exact ⟨_, rfl⟩) | trivial | rfl | (simp; done)))))
  · refine ⟨257, k1, .inr (.inr (.inr rfl)), ?_⟩
    refine go_play_Dice_Field rfl BxOK.one fun cx hm0 => go_in 5000 ?_
    unfold ac_play_Dice_Field rs_play_Dice_Field
    repeat' (first | simp (maxSteps := 9999999) only [↓GE, PL, PP, EE, QQ, seval] | (simp (disch := omega) only [IntWalk.i64_in]) | (refine go_brD (fun h => ?_) (fun h => ?_)) | (refine go_gsD (by ((try simp only [EE, QQ, seval]) <;> rfl)) (fun h => ?_) (fun h => ?_)) | (refine go_br (fun h => ?_) (fun h => ?_)) | (refine go_gs (by ((try simp only [EE, QQ, seval]) <;> rfl)) (fun h => ?_) (fun h => ?_)) | (apply go_call 5000 (e0) rfl rfl; iterate 4 (first | (exact CallForm.lent (by (try simp only [CC, LL, NM, EE, QQ, seval]); repeat' (first | trivial | (with_reducible rfl) | omega | (with_reducible apply And.intro) | rfl)) rfl rfl) | ((try simp only [CC, LL, NM, EE, QQ, seval]) <;> (first | rfl | ((repeat constructor); done))))) | (with_reducible apply And.intro) | (with_reducible exact trivial) | omega | (simp only [List.length_map, List.length_cons, List.length_nil] at *; omega) | (show _ = true; first | rfl | kernel_rfl))
    all_goals ((first | apply ret_mk [] | apply end_mk []); (· ((try simp only [CC, LL, EE, QQ, seval]) <;> rfl)); (· ((try simp only [CC, LL, EE, QQ, seval]) <;> repeat' (first | (with_reducible apply And.intro) | rfl | trivial | (exact ⟨_, rfl⟩) | (exact ⟨_, _, _, rfl⟩) | (simp [*, ]; done) | (simp [*, ]; omega) | (simp_all []; done) | (simp_all []; omega)))); all_goals (first | trivial | decide | ((try simp only [CC, LL, EE, QQ, seval]) <;> repeat' (first | (with_reducible apply And.intro) | (exact ⟨_, rfl, rfl, rfl⟩) | (exact ⟨_, _, _, rfl⟩) | (exact ⟨_, rfl⟩) | trivial | rfl | (simp; done)))))
def wishG (l : List UInt8) (n : Int) (k : Nat) : Nat → List Int × Nat
  | 0 => ([], k)
  | j + 1 => ((wishG l n k j).1 ++ [pickV l (wishG l n k j).2 (n + 1) - 1], pickK l (wishG l n k j).2)
theorem wishG_len {l : List UInt8} {n : Int} {k : Nat} : ∀ {j : Nat}, (wishG l n k j).1.length = j
  | 0 => rfl
  | j + 1 => by rw [wishG]; simp [wishG_len]
theorem wishG_in {l : List UInt8} {n : Int} {k : Nat} (hn : 0 ≤ n) : ∀ {j : Nat}, ∀ x ∈ (wishG l n k j).1, -1 ≤ x ∧ x < n
  | 0, x, h => by simp [wishG] at h
  | j + 1, x, h => by
    rw [wishG] at h
    rcases List.mem_append.1 h with h | h
    · exact wishG_in hn x h
    · simp only [List.mem_singleton] at h
      have := pickV_in l (wishG l n k j).2 (n + 1) (by omega)
      omega
theorem dwish (l : List UInt8) (hl : l.length ≤ 140737488355328) (k : Nat) (n : Int) (h1 : 0 ≤ n) (h2 : n ≤ 1000000) : ∃ r k', 1 ≤ r.length ∧ r.length ≤ 3 ∧ (∀ x ∈ r, -1 ≤ x ∧ x < n) ∧ Does Try.prog 23 [dcp, I n] (dc l k) (.d (dInts r)) (dc l k') [] := by
  have e0 := pick l hl k 3 (by omega)
  have a0 := pickV_in l k 3 (by omega)
  generalize pickK l k = k1 at *
  obtain ⟨m, hm⟩ : ∃ m : Nat, pickV l k 3 = (m : Int) := ⟨(pickV l k 3).toNat, by omega⟩
  rw [hm] at e0 a0
  refine ⟨(wishG l n k1 (m + 1)).1, (wishG l n k1 (m + 1)).2, by rw [wishG_len]; omega, by rw [wishG_len]; omega, wishG_in h1, ?_⟩
  refine go_play_Dice_Wish rfl BxOK.one fun cx hm0 => go_in 5000 ?_
  unfold ac_play_Dice_Wish rs_play_Dice_Wish
  have w0 : IntKind.i64.wrap (1 + (m : Int)) = ((m + 1 - 0 : Nat) : Int) := by rw [show 1 + (m : Int) = ((m + 1 - 0 : Nat) : Int) by omega]; exact IntWalk.i64_in _ (by omega)
  repeat' (first | simp (maxSteps := 9999999) only [↓GE, PL, PP, EE, QQ, seval, w0] | (simp (disch := omega) only [IntWalk.i64_in]) | (refine go_brD (fun h => ?_) (fun h => ?_)) | (refine go_gsD (by ((try simp only [EE, QQ, seval]) <;> rfl)) (fun h => ?_) (fun h => ?_)) | (refine go_br (fun h => ?_) (fun h => ?_)) | (refine go_gs (by ((try simp only [EE, QQ, seval]) <;> rfl)) (fun h => ?_) (fun h => ?_)) | (apply go_call 5000 (e0) rfl rfl; iterate 4 (first | (exact CallForm.lent (by (try simp only [CC, LL, NM, EE, QQ, seval]); repeat' (first | trivial | (with_reducible rfl) | omega | (with_reducible apply And.intro) | rfl)) rfl rfl) | ((try simp only [CC, LL, NM, EE, QQ, seval]) <;> (first | rfl | ((repeat constructor); done))))) | (with_reducible apply And.intro) | (with_reducible exact trivial) | omega | (simp only [List.length_map, List.length_cons, List.length_nil] at *; omega) | (show _ = true; first | rfl | kernel_rfl))
  refine go_loop 5000 hm0 (ι := {q : Nat × Nat // q.1 ≤ m + 1}) (fun i => [(0, .bp 900000 0 0), (1, I n), (5, .og 23 i.1.2), (6, I ((m + 1 - i.1.1 : Nat) : Int))]) (fun i => [(23, .arr i.1.2 1 true ((wishG l n k1 i.1.1).1.map eI)), (900000, .box 0 [.d (dBytes l), I (wishG l n k1 i.1.1).2])]) (fun i => m + 1 - i.1.1) [23] ⟨(0, 0), Nat.zero_le _⟩ ?_ ?_
  · (simp only [GeS]; refine ⟨?_, ?_, ?_, ?_⟩; all_goals (repeat' (first | (with_reducible exact True.intro) | (with_reducible rfl) | simp only [CC, LL, EE, QQ, seval, List.contains_nil, Bool.false_eq_true, ↓reduceIte, Option.some.injEq, O.arr.injEq, true_and, and_true] | (with_reducible apply And.intro) | (refine ⟨_, rfl, ?_⟩) | (simp [wishG]; done) | rfl | omega | trivial)))
  · rintro ⟨⟨j, v⟩, hj⟩
    simp only at hj
    have hlen := wishG_len (l := l) (n := n) (k := k1) (j := j)
    by_cases hjn : j < m + 1
    · have e1 := pick l hl (wishG l n k1 j).2 (n + 1) (by omega)
      have a1 := pickV_in l (wishG l n k1 j).2 (n + 1) (by omega)
      have w1 : IntKind.i64.wrap (n + 1) = n + 1 := IntWalk.i64_in _ (by omega)
      have w2 : IntKind.i64.wrap (pickV l (wishG l n k1 j).2 (n + 1) - 1) = pickV l (wishG l n k1 j).2 (n + 1) - 1 := IntWalk.i64_in _ (by omega)
      have w3 : IntKind.i64.wrap (((m + 1 - j : Nat) : Int) - 1) = ((m + 1 - (j + 1) : Nat) : Int) := by rw [show ((m + 1 - j : Nat) : Int) - 1 = ((m + 1 - (j + 1) : Nat) : Int) by omega]; exact IntWalk.i64_in _ (by omega)
      have q : decide (((m + 1 - j : Nat) : Int) > 0) = true := decide_eq_true (by omega)
      repeat' (first | simp (maxSteps := 9999999) only [↓GE, PL, PP, EE, QQ, seval, w1, w2, w3, q, hlen, List.length_map] | (simp (disch := omega) only [IntWalk.i64_in]) | (refine go_brD (fun h => ?_) (fun h => ?_)) | (refine go_gsD (by ((try simp only [EE, QQ, seval]) <;> rfl)) (fun h => ?_) (fun h => ?_)) | (refine go_br (fun h => ?_) (fun h => ?_)) | (refine go_gs (by ((try simp only [EE, QQ, seval]) <;> rfl)) (fun h => ?_) (fun h => ?_)) | (apply go_call 5000 (e1) rfl rfl; iterate 4 (first | (exact CallForm.lent (by (try simp only [CC, LL, NM, EE, QQ, seval]); repeat' (first | trivial | (with_reducible rfl) | omega | (with_reducible apply And.intro) | rfl)) rfl rfl) | ((try simp only [CC, LL, NM, EE, QQ, seval]) <;> (first | rfl | ((repeat constructor); done))))) | (with_reducible apply And.intro) | (with_reducible exact trivial) | omega | (simp only [List.length_map, List.length_cons, List.length_nil] at *; omega) | (show _ = true; first | rfl | kernel_rfl))
      refine ⟨⟨(j + 1, v + 1), hjn⟩, ?_, by simp only; omega⟩
      (simp only [GeS]; refine ⟨?_, ?_, ?_, ?_⟩; all_goals (repeat' (first | (with_reducible exact True.intro) | (with_reducible rfl) | simp only [CC, LL, EE, QQ, seval, List.contains_nil, Bool.false_eq_true, ↓reduceIte, Option.some.injEq, O.arr.injEq, true_and, and_true] | (with_reducible apply And.intro) | (refine ⟨_, rfl, ?_⟩) | (simp [wishG, eI]; done) | rfl | omega | trivial)))
    · obtain rfl : j = m + 1 := by omega
      have q : decide (((m + 1 - (m + 1) : Nat) : Int) > 0) = false := decide_eq_false (by omega)
      repeat' (first | simp (maxSteps := 9999999) only [↓GE, PL, PP, EE, QQ, seval, q] | (simp (disch := omega) only [IntWalk.i64_in]) | (refine go_brD (fun h => ?_) (fun h => ?_)) | (refine go_gsD (by ((try simp only [EE, QQ, seval]) <;> rfl)) (fun h => ?_) (fun h => ?_)) | (refine go_br (fun h => ?_) (fun h => ?_)) | (refine go_gs (by ((try simp only [EE, QQ, seval]) <;> rfl)) (fun h => ?_) (fun h => ?_)) | (with_reducible apply And.intro) | (with_reducible exact trivial) | omega | (simp only [List.length_map, List.length_cons, List.length_nil] at *; omega) | (show _ = true; first | rfl | kernel_rfl))
      all_goals ((first | apply ret_mk [] | apply end_mk []); (· ((try simp only [CC, LL, EE, QQ, seval]) <;> rfl)); (· ((try simp only [CC, LL, EE, QQ, seval]) <;> repeat' (first | (with_reducible apply And.intro) | rfl | trivial | (exact ⟨_, rfl⟩) | (exact ⟨_, _, _, rfl⟩) | (simp [*, ]; done) | (simp [*, ]; omega) | (simp_all []; done) | (simp_all []; omega)))); all_goals (first | trivial | decide | ((try simp only [CC, LL, EE, QQ, seval]) <;> repeat' (first | (with_reducible apply And.intro) | (exact ⟨_, rfl, rfl, rfl⟩) | (exact ⟨_, _, _, rfl⟩) | (exact ⟨_, rfl⟩) | trivial | rfl | (simp; done)))))
def tapeG (l : List UInt8) (lim : List Int) (k : Nat) : Nat → List Int × Nat
  | 0 => ([], k)
  | j + 1 => ((tapeG l lim k j).1 ++ [(pickV l (tapeG l lim k j).2 256 + 7 * (j : Int) * pickV l (pickK l (tapeG l lim k j).2) 5).tmod (lim.getD j 0)], pickK l (pickK l (tapeG l lim k j).2))
theorem tapeG_len {l : List UInt8} {lim : List Int} {k : Nat} : ∀ {j : Nat}, (tapeG l lim k j).1.length = j
  | 0 => rfl
  | j + 1 => by rw [tapeG]; simp [tapeG_len]
theorem tapeG_in {l : List UInt8} {lim : List Int} {k : Nat} {p : Int} (hp : 1 ≤ p) (hlim : ∀ x ∈ lim, x = p) : ∀ {j : Nat}, j ≤ lim.length → ∀ x ∈ (tapeG l lim k j).1, 0 ≤ x ∧ x < p
  | 0, _, x, h => by simp [tapeG] at h
  | j + 1, hj, x, h => by
    rw [tapeG] at h
    rcases List.mem_append.1 h with h | h
    · exact tapeG_in hp hlim (by omega) x h
    · simp only [List.mem_singleton] at h
      have h1 := pickV_in l (tapeG l lim k j).2 256 (by omega)
      have h2 := pickV_in l (pickK l (tapeG l lim k j).2) 5 (by omega)
      rw [hlim _ (mem_getD 0 lim j (by omega))] at h
      generalize pickV l (tapeG l lim k j).2 256 = a at *
      generalize pickV l (pickK l (tapeG l lim k j).2) 5 = b at *
      have hab : 0 ≤ 7 * (j : Int) * b := Int.mul_nonneg (by omega) h2.1
      rw [Int.tmod_eq_emod_of_nonneg (by omega)] at h
      rw [h]
      exact ⟨Int.emod_nonneg _ (by omega), Int.emod_lt_of_pos _ (by omega)⟩
abbrev vTape (t : List Int) (a : Int) : V := .ag [.d (dInts t), I a]
theorem dtape (l : List UInt8) (hl : l.length ≤ 140737488355328) (k : Nat) (lim : List Int) (p : Int) (hp : 1 ≤ p) (hp2 : p ≤ 65521) (hlim : ∀ x ∈ lim, x = p) (hln : lim.length ≤ 1000000) : ∃ t k', t.length = lim.length ∧ (∀ x ∈ t, 0 ≤ x ∧ x < p) ∧ Does Try.prog 26 [dcp, .d (dInts lim)] (dc l k) (vTape t 0) (dc l k') [] := by
  refine ⟨(tapeG l lim k lim.length).1, (tapeG l lim k lim.length).2, tapeG_len, tapeG_in hp hlim (Nat.le_refl _), ?_⟩
  refine go_play_Dice_Tape rfl BxOK.one fun cx hm0 => go_in 5000 ?_
  unfold ac_play_Dice_Tape rs_play_Dice_Tape
  repeat' (first | simp (maxSteps := 9999999) only [↓GE, PL, PP, EE, QQ, seval] | (simp (disch := omega) only [IntWalk.i64_in]) | (refine go_brD (fun h => ?_) (fun h => ?_)) | (refine go_gsD (by ((try simp only [EE, QQ, seval]) <;> rfl)) (fun h => ?_) (fun h => ?_)) | (refine go_br (fun h => ?_) (fun h => ?_)) | (refine go_gs (by ((try simp only [EE, QQ, seval]) <;> rfl)) (fun h => ?_) (fun h => ?_)) | (with_reducible apply And.intro) | (with_reducible exact trivial) | omega | (simp only [List.length_map, List.length_cons, List.length_nil] at *; omega) | (show _ = true; first | rfl | kernel_rfl))
  refine go_loop 5000 hm0 (ι := {q : Nat × Nat // q.1 ≤ lim.length}) (fun i => [(0, .bp 900000 0 0), (1, .d (dInts lim)), (4, .bp 4 0 0), (5, .bp 5 0 0), (6, I i.1.1)]) (fun i => [(4, .box 0 [.nl 1, I 0]), (5, .box 0 [.og 31 i.1.2, I 0]), (31, .arr i.1.2 1 true ((tapeG l lim k i.1.1).1.map eI)), (900000, .box 0 [.d (dBytes l), I (tapeG l lim k i.1.1).2])]) (fun i => lim.length - i.1.1) [31] ⟨(0, 0), Nat.zero_le _⟩ ?_ ?_
  · (simp only [GeS]; refine ⟨?_, ?_, ?_, ?_⟩; all_goals (repeat' (first | (with_reducible exact True.intro) | (with_reducible rfl) | simp only [CC, LL, EE, QQ, seval, List.contains_nil, Bool.false_eq_true, ↓reduceIte, Option.some.injEq, O.arr.injEq, true_and, and_true] | (with_reducible apply And.intro) | (refine ⟨_, rfl, ?_⟩) | (simp [tapeG]; done) | rfl | omega | trivial)))
  · rintro ⟨⟨j, v⟩, hj⟩
    simp only at hj
    have hlen := tapeG_len (l := l) (lim := lim) (k := k) (j := j)
    by_cases hjn : j < lim.length
    · have e1 := pick l hl (tapeG l lim k j).2 256 (by omega)
      have a1 := pickV_in l (tapeG l lim k j).2 256 (by omega)
      have e2 := pick l hl (pickK l (tapeG l lim k j).2) 5 (by omega)
      have a2 := pickV_in l (pickK l (tapeG l lim k j).2) 5 (by omega)
      have hs1 := getD_map eI [] 0 lim j hjn
      have hN : tapeG l lim k (j + 1) = ((tapeG l lim k j).1 ++ [(pickV l (tapeG l lim k j).2 256 + 7 * (j : Int) * pickV l (pickK l (tapeG l lim k j).2) 5).tmod (lim.getD j 0)], pickK l (pickK l (tapeG l lim k j).2)) := rfl
      rw [hlim _ (mem_getD 0 lim j hjn)] at hs1 hN
      generalize pickV l (tapeG l lim k j).2 256 = a at *
      generalize pickV l (pickK l (tapeG l lim k j).2) 5 = b at *
      generalize pickK l (pickK l (tapeG l lim k j).2) = k2 at *
      generalize pickK l (tapeG l lim k j).2 = k1 at *
      have hb0 : 0 ≤ 7 * (j : Int) * b := Int.mul_nonneg (by omega) a2.1
      have hb1 : 7 * (j : Int) * b ≤ 7 * (j : Int) * 4 := Int.mul_le_mul_of_nonneg_left (by omega) (by omega)
      have w1 : IntKind.i64.wrap (7 * (j : Int)) = 7 * (j : Int) := IntWalk.i64_in _ (by omega)
      have w2 : IntKind.i64.wrap (7 * (j : Int) * b) = 7 * (j : Int) * b := IntWalk.i64_in _ (by omega)
      have w3 : IntKind.i64.wrap (a + 7 * (j : Int) * b) = a + 7 * (j : Int) * b := IntWalk.i64_in _ (by omega)
      have hm1 : 0 ≤ (a + 7 * (j : Int) * b).tmod p ∧ (a + 7 * (j : Int) * b).tmod p < p := by
        rw [Int.tmod_eq_emod_of_nonneg (by omega)]
        exact ⟨Int.emod_nonneg _ (by omega), Int.emod_lt_of_pos _ (by omega)⟩
      have w4 : IntKind.i64.wrap ((a + 7 * (j : Int) * b).tmod p) = (a + 7 * (j : Int) * b).tmod p := IntWalk.i64_in _ (by omega)
      have hp0 : p ≠ 0 := by omega
      repeat' (first | simp (maxSteps := 9999999) only [↓GE, PL, PP, EE, QQ, seval, w1, w2, w3, w4, hs1, hjn, hp0, hlen, eI, List.length_map] | (simp (disch := omega) only [IntWalk.i64_in]) | (refine go_brD (fun h => ?_) (fun h => ?_)) | (refine go_gsD (by ((try simp only [EE, QQ, seval]) <;> rfl)) (fun h => ?_) (fun h => ?_)) | (refine go_br (fun h => ?_) (fun h => ?_)) | (refine go_gs (by ((try simp only [EE, QQ, seval]) <;> rfl)) (fun h => ?_) (fun h => ?_)) | (apply go_call 5000 (e1) rfl rfl; iterate 4 (first | (exact CallForm.lent (by (try simp only [CC, LL, NM, EE, QQ, seval]); repeat' (first | trivial | (with_reducible rfl) | omega | (with_reducible apply And.intro) | rfl)) rfl rfl) | ((try simp only [CC, LL, NM, EE, QQ, seval]) <;> (first | rfl | ((repeat constructor); done))))) | (apply go_call 5000 (e2) rfl rfl; iterate 4 (first | (exact CallForm.lent (by (try simp only [CC, LL, NM, EE, QQ, seval]); repeat' (first | trivial | (with_reducible rfl) | omega | (with_reducible apply And.intro) | rfl)) rfl rfl) | ((try simp only [CC, LL, NM, EE, QQ, seval]) <;> (first | rfl | ((repeat constructor); done))))) | (with_reducible apply And.intro) | (with_reducible exact trivial) | omega | (simp only [List.length_map, List.length_cons, List.length_nil] at *; omega) | (show _ = true; first | rfl | kernel_rfl))
      refine ⟨⟨(j + 1, v + 1), hjn⟩, ?_, by simp only; omega⟩
      (simp only [GeS]; refine ⟨?_, ?_, ?_, ?_⟩; all_goals (repeat' (first | (with_reducible exact True.intro) | (with_reducible rfl) | simp only [CC, LL, EE, QQ, seval, List.contains_nil, Bool.false_eq_true, ↓reduceIte, Option.some.injEq, O.arr.injEq, true_and, and_true] | (with_reducible apply And.intro) | (refine ⟨_, rfl, ?_⟩) | (simp [hN, eI]; done) | rfl | omega | trivial)))
    · obtain rfl : j = lim.length := by omega
      repeat' (first | simp (maxSteps := 9999999) only [↓GE, PL, PP, EE, QQ, seval, List.length_map] | (simp (disch := omega) only [IntWalk.i64_in]) | (refine go_brD (fun h => ?_) (fun h => ?_)) | (refine go_gsD (by ((try simp only [EE, QQ, seval]) <;> rfl)) (fun h => ?_) (fun h => ?_)) | (refine go_br (fun h => ?_) (fun h => ?_)) | (refine go_gs (by ((try simp only [EE, QQ, seval]) <;> rfl)) (fun h => ?_) (fun h => ?_)) | (with_reducible apply And.intro) | (with_reducible exact trivial) | omega | (simp only [List.length_map, List.length_cons, List.length_nil] at *; omega) | (show _ = true; first | rfl | kernel_rfl))
      all_goals ((first | apply ret_mk [] | apply end_mk []); (· ((try simp only [CC, LL, EE, QQ, seval]) <;> rfl)); (· ((try simp only [CC, LL, EE, QQ, seval]) <;> repeat' (first | (with_reducible apply And.intro) | rfl | trivial | (exact ⟨_, rfl⟩) | (exact ⟨_, _, _, rfl⟩) | (simp [*, ]; done) | (simp [*, ]; omega) | (simp_all []; done) | (simp_all []; omega)))); all_goals (first | trivial | decide | ((try simp only [CC, LL, EE, QQ, seval]) <;> repeat' (first | (with_reducible apply And.intro) | (exact ⟨_, rfl, rfl, rfl⟩) | (exact ⟨_, _, _, rfl⟩) | (exact ⟨_, rfl⟩) | trivial | rfl | (simp; done)))))
end Go.Proofs.Ytihjmnhjjpdenaa.Sim
