/- Queries of a scheme, and of a wish. -/
import Derived.Test.YtihjmnhjjpdenaaMVwF
import Derived.Test.YtihjmnhjjpdenaaMVwE3
import Derived.Test.YtihjmnhjjpdenaaMVwE4
import Derived.Test.YtihjmnhjjpdenaaMVwE5
import Derived.Test.YtihjmnhjjpdenaaMVwE6
import Derived.Test.YtihjmnhjjpdenaaMVwF3
import Derived.Test.YtihjmnhjjpdenaaMVwF4
import Derived.Test.YtihjmnhjjpdenaaMVwF5
import Derived.Test.YtihjmnhjjpdenaaMVwF6
section
namespace Go.Proofs.Ytihjmnhjjpdenaa.Sim
open Go
set_option maxRecDepth 100000
set_option maxHeartbeats 4000000
set_option linter.unusedVariables false
set_option linter.unusedSimpArgs false
attribute [local irreducible] Go Mean
theorem okS.cases {s : PSch} (h : okS s) : ∃ sv : Nat, 3 ≤ sv ∧ sv ≤ 6 ∧ (s = ⟨1, sv, 0, 0⟩ ∨ (∃ deg : Nat, 1 ≤ deg ∧ deg ≤ 2 ∧ s = ⟨2, sv, deg, 0⟩) ∨ ∃ deg grp : Nat, 1 ≤ deg ∧ deg ≤ 2 ∧ 1 ≤ grp ∧ grp ≤ 2 ∧ 2 * grp + deg - 1 ≤ sv ∧ s = ⟨3, sv, deg, grp⟩) := by
  obtain ⟨kd, sv, deg, grp⟩ := s
  obtain ⟨h1, h2, h3⟩ := h
  simp only at h1 h2 h3
  refine ⟨sv.toNat, by omega, by omega, ?_⟩
  have e : ((sv.toNat : Nat) : Int) = sv := by omega
  rcases h3 with ⟨rfl, rfl, rfl⟩ | ⟨rfl, h3, h4, rfl⟩ | ⟨rfl, h3, h4, rfl⟩ | ⟨rfl, rfl, rfl, h3⟩
  · exact .inl (by rw [e])
  · exact .inr (.inl ⟨deg.toNat, by omega, by omega, by rw [e, show ((deg.toNat : Nat) : Int) = deg by omega]⟩)
  · exact .inr (.inr ⟨deg.toNat, 1, by omega, by omega, by omega, by omega, by omega, by rw [e, show ((deg.toNat : Nat) : Int) = deg by omega]; rfl⟩)
  · exact .inr (.inr ⟨1, 2, by omega, by omega, by omega, by omega, by omega, by rw [e]; rfl⟩)
theorem shape23 {s : PSch} (hs : okS s) : Does Try.prog 51 [vSch s] [] (B true) [] [] := by
  obtain ⟨sv, h3, h4, rfl | ⟨deg, h5, h6, rfl⟩ | ⟨deg, grp, h5, h6, h7, h8, h9, rfl⟩⟩ := hs.cases
  all_goals
    refine go_ref23_Shape rfl BxOK.nil fun cx hm0 => go_in 5000 ?_
    unfold ac_ref23_Shape rs_ref23_Shape
    have q1 : decide ((sv : Int) < 2) = false := decide_eq_false (by omega)
    have q2 : decide ((sv : Int) > 10) = false := decide_eq_false (by omega)
  · repeat' (first | simp (maxSteps := 9999999) only [↓GE, PL, PP, EE, QQ, seval, q1, q2] | (simp (disch := omega) only [IntWalk.i64_in]) | (refine go_brD (fun h => ?_) (fun h => ?_)) | (refine go_gsD (by ((try simp only [EE, QQ, seval]) <;> rfl)) (fun h => ?_) (fun h => ?_)) | (refine go_br (fun h => ?_) (fun h => ?_)) | (refine go_gs (by ((try simp only [EE, QQ, seval]) <;> rfl)) (fun h => ?_) (fun h => ?_)) | (with_reducible apply And.intro) | (with_reducible exact trivial) | omega | (simp only [List.length_map, List.length_cons, List.length_nil] at *; omega) | (show _ = true; first | rfl | kernel_rfl))
    all_goals ((first | apply ret_mk [] | apply end_mk []); (· ((try simp only [CC, LL, EE, QQ, seval]) <;> rfl)); (· ((try simp only [CC, LL, EE, QQ, seval]) <;> repeat' (first | (with_reducible apply And.intro) | rfl | trivial | (exact ⟨_, rfl⟩) | (exact ⟨_, _, _, rfl⟩) | (simp [*, ]; done) | (simp [*, ]; omega) | (simp_all []; done) | (simp_all []; omega)))); all_goals (first | trivial | decide | ((try simp only [CC, LL, EE, QQ, seval]) <;> repeat' (first | (with_reducible apply And.intro) | (exact ⟨_, rfl, rfl, rfl⟩) | (exact ⟨_, _, _, rfl⟩) | (exact ⟨_, rfl⟩) | trivial | rfl | (simp; done)))))
  · have w0 : IntKind.i64.wrap ((sv : Int) - 1) = (sv : Int) - 1 := IntWalk.i64_in _ (by omega)
    have q3 : decide ((deg : Int) ≥ 1) = true := decide_eq_true (by omega)
    have q4 : decide ((deg : Int) ≤ (sv : Int) - 1) = true := decide_eq_true (by omega)
    repeat' (first | simp (maxSteps := 9999999) only [↓GE, PL, PP, EE, QQ, seval, q1, q2, q3, q4, w0] | (simp (disch := omega) only [IntWalk.i64_in]) | (refine go_brD (fun h => ?_) (fun h => ?_)) | (refine go_gsD (by ((try simp only [EE, QQ, seval]) <;> rfl)) (fun h => ?_) (fun h => ?_)) | (refine go_br (fun h => ?_) (fun h => ?_)) | (refine go_gs (by ((try simp only [EE, QQ, seval]) <;> rfl)) (fun h => ?_) (fun h => ?_)) | (with_reducible apply And.intro) | (with_reducible exact trivial) | omega | (simp only [List.length_map, List.length_cons, List.length_nil] at *; omega) | (show _ = true; first | rfl | kernel_rfl))
    all_goals ((first | apply ret_mk [] | apply end_mk []); (· ((try simp only [CC, LL, EE, QQ, seval]) <;> rfl)); (· ((try simp only [CC, LL, EE, QQ, seval]) <;> repeat' (first | (with_reducible apply And.intro) | rfl | trivial | (exact ⟨_, rfl⟩) | (exact ⟨_, _, _, rfl⟩) | (simp [*, ]; done) | (simp [*, ]; omega) | (simp_all []; done) | (simp_all []; omega)))); all_goals (first | trivial | decide | ((try simp only [CC, LL, EE, QQ, seval]) <;> repeat' (first | (with_reducible apply And.intro) | (exact ⟨_, rfl, rfl, rfl⟩) | (exact ⟨_, _, _, rfl⟩) | (exact ⟨_, rfl⟩) | trivial | rfl | (simp; done)))))
  · have w0 : IntKind.i64.wrap (2 * (grp : Int)) = 2 * (grp : Int) := IntWalk.i64_in _ (by omega)
    have w1 : IntKind.i64.wrap (2 * (grp : Int) + (deg : Int)) = 2 * (grp : Int) + (deg : Int) := IntWalk.i64_in _ (by omega)
    have w2 : IntKind.i64.wrap (2 * (grp : Int) + (deg : Int) - 1) = 2 * (grp : Int) + (deg : Int) - 1 := IntWalk.i64_in _ (by omega)
    have q3 : decide ((deg : Int) ≥ 1) = true := decide_eq_true (by omega)
    have q4 : decide ((grp : Int) ≥ 1) = true := decide_eq_true (by omega)
    have q5 : decide ((deg : Int) ≤ 10) = true := decide_eq_true (by omega)
    have q6 : decide ((grp : Int) ≤ 10) = true := decide_eq_true (by omega)
    have q7 : decide (2 * (grp : Int) + (deg : Int) - 1 ≤ (sv : Int)) = true := decide_eq_true (by omega)
    repeat' (first | simp (maxSteps := 9999999) only [↓GE, PL, PP, EE, QQ, seval, q1, q2, q3, q4, q5, q6, q7, w0, w1, w2] | (simp (disch := omega) only [IntWalk.i64_in]) | (refine go_brD (fun h => ?_) (fun h => ?_)) | (refine go_gsD (by ((try simp only [EE, QQ, seval]) <;> rfl)) (fun h => ?_) (fun h => ?_)) | (refine go_br (fun h => ?_) (fun h => ?_)) | (refine go_gs (by ((try simp only [EE, QQ, seval]) <;> rfl)) (fun h => ?_) (fun h => ?_)) | (with_reducible apply And.intro) | (with_reducible exact trivial) | omega | (simp only [List.length_map, List.length_cons, List.length_nil] at *; omega) | (show _ = true; first | rfl | kernel_rfl))
    all_goals ((first | apply ret_mk [] | apply end_mk []); (· ((try simp only [CC, LL, EE, QQ, seval]) <;> rfl)); (· ((try simp only [CC, LL, EE, QQ, seval]) <;> repeat' (first | (with_reducible apply And.intro) | rfl | trivial | (exact ⟨_, rfl⟩) | (exact ⟨_, _, _, rfl⟩) | (simp [*, ]; done) | (simp [*, ]; omega) | (simp_all []; done) | (simp_all []; omega)))); all_goals (first | trivial | decide | ((try simp only [CC, LL, EE, QQ, seval]) <;> repeat' (first | (with_reducible apply And.intro) | (exact ⟨_, rfl, rfl, rfl⟩) | (exact ⟨_, _, _, rfl⟩) | (exact ⟨_, rfl⟩) | trivial | rfl | (simp; done)))))
theorem valid23 {s : PSch} (hs : okS s) {p : Int} (hp : okP p) : Does Try.prog 43 [vSch s, .ag [I p]] [] (B true) [] [] := by
  refine go_ref23_Valid rfl BxOK.nil fun cx hm0 => go_in 5000 ?_
  unfold ac_ref23_Valid rs_ref23_Valid
  have e1 := shape23 hs
  have e2 := check3 hp
  have hpl := hp.le
  have h1 := hs.1
  have h2 := hs.2.1
  have q1 : decide (s.sv < p) = true := decide_eq_true (by omega)
  cases hk : s.kind == 1 with
  | true =>
    repeat' (first | simp (maxSteps := 9999999) only [↓GE, PL, PP, EE, QQ, seval, hk, q1] | (simp (disch := omega) only [IntWalk.i64_in]) | (refine go_brD (fun h => ?_) (fun h => ?_)) | (refine go_gsD (by ((try simp only [EE, QQ, seval]) <;> rfl)) (fun h => ?_) (fun h => ?_)) | (refine go_br (fun h => ?_) (fun h => ?_)) | (refine go_gs (by ((try simp only [EE, QQ, seval]) <;> rfl)) (fun h => ?_) (fun h => ?_)) | (apply go_call 5000 (e1) rfl rfl; iterate 4 (first | (exact CallForm.plain rfl) | ((try simp only [CC, LL, NM, EE, QQ, seval]) <;> (first | rfl | ((repeat constructor); done))))) | (apply go_call 5000 (e2) rfl rfl; iterate 4 (first | (exact CallForm.plain rfl) | ((try simp only [CC, LL, NM, EE, QQ, seval]) <;> (first | rfl | ((repeat constructor); done))))) | (with_reducible apply And.intro) | (with_reducible exact trivial) | omega | (simp only [List.length_map, List.length_cons, List.length_nil] at *; omega) | (show _ = true; first | rfl | kernel_rfl))
    all_goals ((first | apply ret_mk [] | apply end_mk []); (· ((try simp only [CC, LL, EE, QQ, seval]) <;> rfl)); (· ((try simp only [CC, LL, EE, QQ, seval]) <;> repeat' (first | (with_reducible apply And.intro) | rfl | trivial | (exact ⟨_, rfl⟩) | (exact ⟨_, _, _, rfl⟩) | (simp [*, ]; done) | (simp [*, ]; omega) | (simp_all []; done) | (simp_all []; omega)))); all_goals (first | trivial | decide | ((try simp only [CC, LL, EE, QQ, seval]) <;> repeat' (first | (with_reducible apply And.intro) | (exact ⟨_, rfl, rfl, rfl⟩) | (exact ⟨_, _, _, rfl⟩) | (exact ⟨_, rfl⟩) | trivial | rfl | (simp; done)))))
  | false =>
    repeat' (first | simp (maxSteps := 9999999) only [↓GE, PL, PP, EE, QQ, seval, hk, q1] | (simp (disch := omega) only [IntWalk.i64_in]) | (refine go_brD (fun h => ?_) (fun h => ?_)) | (refine go_gsD (by ((try simp only [EE, QQ, seval]) <;> rfl)) (fun h => ?_) (fun h => ?_)) | (refine go_br (fun h => ?_) (fun h => ?_)) | (refine go_gs (by ((try simp only [EE, QQ, seval]) <;> rfl)) (fun h => ?_) (fun h => ?_)) | (apply go_call 5000 (e1) rfl rfl; iterate 4 (first | (exact CallForm.plain rfl) | ((try simp only [CC, LL, NM, EE, QQ, seval]) <;> (first | rfl | ((repeat constructor); done))))) | (apply go_call 5000 (e2) rfl rfl; iterate 4 (first | (exact CallForm.plain rfl) | ((try simp only [CC, LL, NM, EE, QQ, seval]) <;> (first | rfl | ((repeat constructor); done))))) | (with_reducible apply And.intro) | (with_reducible exact trivial) | omega | (simp only [List.length_map, List.length_cons, List.length_nil] at *; omega) | (show _ = true; first | rfl | kernel_rfl))
    all_goals ((first | apply ret_mk [] | apply end_mk []); (· ((try simp only [CC, LL, EE, QQ, seval]) <;> rfl)); (· ((try simp only [CC, LL, EE, QQ, seval]) <;> repeat' (first | (with_reducible apply And.intro) | rfl | trivial | (exact ⟨_, rfl⟩) | (exact ⟨_, _, _, rfl⟩) | (simp [*, ]; done) | (simp [*, ]; omega) | (simp_all []; done) | (simp_all []; omega)))); all_goals (first | trivial | decide | ((try simp only [CC, LL, EE, QQ, seval]) <;> repeat' (first | (with_reducible apply And.intro) | (exact ⟨_, rfl, rfl, rfl⟩) | (exact ⟨_, _, _, rfl⟩) | (exact ⟨_, rfl⟩) | trivial | rfl | (simp; done)))))
theorem plan23 (s : PSch) : Does Try.prog 55 [vSch s] [] (.ag [I s.sv, I s.deg]) [] [] := by
  refine go_ref23_plan rfl BxOK.nil fun cx hm0 => go_in 5000 ?_
  unfold ac_ref23_plan rs_ref23_plan
  repeat' (first | simp (maxSteps := 9999999) only [↓GE, PL, PP, EE, QQ, seval] | (simp (disch := omega) only [IntWalk.i64_in]) | (refine go_brD (fun h => ?_) (fun h => ?_)) | (refine go_gsD (by ((try simp only [EE, QQ, seval]) <;> rfl)) (fun h => ?_) (fun h => ?_)) | (refine go_br (fun h => ?_) (fun h => ?_)) | (refine go_gs (by ((try simp only [EE, QQ, seval]) <;> rfl)) (fun h => ?_) (fun h => ?_)) | (with_reducible apply And.intro) | (with_reducible exact trivial) | omega | (simp only [List.length_map, List.length_cons, List.length_nil] at *; omega) | (show _ = true; first | rfl | kernel_rfl))
  all_goals ((first | apply ret_mk [] | apply end_mk []); (· ((try simp only [CC, LL, EE, QQ, seval]) <;> rfl)); (· ((try simp only [CC, LL, EE, QQ, seval]) <;> repeat' (first | (with_reducible apply And.intro) | rfl | trivial | (exact ⟨_, rfl⟩) | (exact ⟨_, _, _, rfl⟩) | (simp [*, ]; done) | (simp [*, ]; omega) | (simp_all []; done) | (simp_all []; omega)))); all_goals (first | trivial | decide | ((try simp only [CC, LL, EE, QQ, seval]) <;> repeat' (first | (with_reducible apply And.intro) | (exact ⟨_, rfl, rfl, rfl⟩) | (exact ⟨_, _, _, rfl⟩) | (exact ⟨_, rfl⟩) | trivial | rfl | (simp; done)))))
theorem storage23 (s : PSch) : Does Try.prog 57 [vSch s] [] (.ag [I s.sv, I s.deg, I s.grp]) [] [] := by
  refine go_ref23_storage rfl BxOK.nil fun cx hm0 => go_in 5000 ?_
  unfold ac_ref23_storage rs_ref23_storage
  repeat' (first | simp (maxSteps := 9999999) only [↓GE, PL, PP, EE, QQ, seval] | (simp (disch := omega) only [IntWalk.i64_in]) | (refine go_brD (fun h => ?_) (fun h => ?_)) | (refine go_gsD (by ((try simp only [EE, QQ, seval]) <;> rfl)) (fun h => ?_) (fun h => ?_)) | (refine go_br (fun h => ?_) (fun h => ?_)) | (refine go_gs (by ((try simp only [EE, QQ, seval]) <;> rfl)) (fun h => ?_) (fun h => ?_)) | (with_reducible apply And.intro) | (with_reducible exact trivial) | omega | (simp only [List.length_map, List.length_cons, List.length_nil] at *; omega) | (show _ = true; first | rfl | kernel_rfl))
  all_goals ((first | apply ret_mk [] | apply end_mk []); (· ((try simp only [CC, LL, EE, QQ, seval]) <;> rfl)); (· ((try simp only [CC, LL, EE, QQ, seval]) <;> repeat' (first | (with_reducible apply And.intro) | rfl | trivial | (exact ⟨_, rfl⟩) | (exact ⟨_, _, _, rfl⟩) | (simp [*, ]; done) | (simp [*, ]; omega) | (simp_all []; done) | (simp_all []; omega)))); all_goals (first | trivial | decide | ((try simp only [CC, LL, EE, QQ, seval]) <;> repeat' (first | (with_reducible apply And.intro) | (exact ⟨_, rfl, rfl, rfl⟩) | (exact ⟨_, _, _, rfl⟩) | (exact ⟨_, rfl⟩) | trivial | rfl | (simp; done)))))
theorem units23 (sv deg grp rows : Nat) (hs : okS ⟨3, sv, deg, grp⟩) (h7 : 1 ≤ grp) (h8 : grp ≤ 2) (h1 : 1 ≤ rows) (h2 : rows ≤ 4) : Does Try.prog 58 [vSch ⟨3, sv, deg, grp⟩, I rows] [] (I ((rows + grp - 1) / grp : Nat)) [] [] := by
  refine go_ref23_Units rfl BxOK.nil fun cx hm0 => go_in 5000 ?_
  unfold ac_ref23_Units rs_ref23_Units
  have e1 := shape23 hs
  have q1 : decide ((rows : Int) < 1) = false := decide_eq_false (by omega)
  have q2 : decide ((rows : Int) > 1024) = false := decide_eq_false (by omega)
  have w0 : IntKind.i64.wrap ((rows : Int) + (grp : Int)) = (rows : Int) + (grp : Int) := IntWalk.i64_in _ (by omega)
  have w1 : IntKind.i64.wrap ((rows : Int) + (grp : Int) - 1) = ((rows + grp - 1 : Nat) : Int) := by rw [show (rows : Int) + (grp : Int) - 1 = ((rows + grp - 1 : Nat) : Int) by omega]; exact IntWalk.i64_in _ (by omega)
  have hd : (rows + grp - 1) / grp ≤ rows + grp - 1 := Nat.div_le_self _ _
  have w2 : ((rows + grp - 1 : Nat) : Int).tdiv (grp : Int) = ((((rows + grp - 1) / grp : Nat)) : Int) := rfl
  generalize (rows + grp - 1) / grp = u at *
  have w3 : IntKind.i64.wrap (u : Int) = u := IntWalk.i64_in _ (by omega)
  have hz : (grp : Int) ≠ 0 := by omega
  repeat' (first | simp (maxSteps := 9999999) only [↓GE, PL, PP, EE, QQ, seval, q1, q2, w0, w1, w2, w3, hz] | (simp (disch := omega) only [IntWalk.i64_in]) | (refine go_brD (fun h => ?_) (fun h => ?_)) | (refine go_gsD (by ((try simp only [EE, QQ, seval]) <;> rfl)) (fun h => ?_) (fun h => ?_)) | (refine go_br (fun h => ?_) (fun h => ?_)) | (refine go_gs (by ((try simp only [EE, QQ, seval]) <;> rfl)) (fun h => ?_) (fun h => ?_)) | (apply go_call 5000 (e1) rfl rfl; iterate 4 (first | (exact CallForm.plain rfl) | ((try simp only [CC, LL, NM, EE, QQ, seval]) <;> (first | rfl | ((repeat constructor); done))))) | (with_reducible apply And.intro) | (with_reducible exact trivial) | omega | (simp only [List.length_map, List.length_cons, List.length_nil] at *; omega) | (show _ = true; first | rfl | kernel_rfl))
  all_goals ((first | apply ret_mk [] | apply end_mk []); (· ((try simp only [CC, LL, EE, QQ, seval]) <;> rfl)); (· ((try simp only [CC, LL, EE, QQ, seval]) <;> repeat' (first | (with_reducible apply And.intro) | rfl | trivial | (exact ⟨_, rfl⟩) | (exact ⟨_, _, _, rfl⟩) | (simp [*, ]; done) | (simp [*, ]; omega) | (simp_all []; done) | (simp_all []; omega)))); all_goals (first | trivial | decide | ((try simp only [CC, LL, EE, QQ, seval]) <;> repeat' (first | (with_reducible apply And.intro) | (exact ⟨_, rfl, rfl, rfl⟩) | (exact ⟨_, _, _, rfl⟩) | (exact ⟨_, rfl⟩) | trivial | rfl | (simp; done)))))
theorem units_in {grp rows : Nat} (h7 : 1 ≤ grp) (h8 : grp ≤ 2) (h1 : 1 ≤ rows) (h2 : rows ≤ 4) : 1 ≤ (rows + grp - 1) / grp ∧ (rows + grp - 1) / grp ≤ 4 ∧ ∀ ix, ix < rows → ix / grp < (rows + grp - 1) / grp := by
  obtain rfl | rfl : grp = 1 ∨ grp = 2 := by omega
  · simp only [Nat.div_one]; exact ⟨by omega, by omega, fun ix h => by omega⟩
  · exact ⟨by omega, by omega, fun ix h => by omega⟩
theorem limits23 {s : PSch} (hs : okS s) {p : Int} (hp : okP p) (rows : Nat) (h1 : 1 ≤ rows) (h2 : rows ≤ 4) : ∃ n : Nat, n ≤ 20 ∧ Does Try.prog 44 [vSch s, .ag [I p], I rows] [] (.tu [.d (dInts (repG p n)), I 0]) [] [] ∧ n = match s with | ⟨1, sv, _, _⟩ => rows * (sv.toNat - 1) | ⟨2, _, deg, _⟩ => rows * deg.toNat | ⟨_, _, deg, grp⟩ => (rows + grp.toNat - 1) / grp.toNat * deg.toNat := by
  have e0 := valid23 hs hp
  have e5 := plan23 s
  have e6 := storage23 s
  obtain ⟨sv, h3, h4, rfl | ⟨deg, h5, h6, rfl⟩ | ⟨deg, grp, h5, h6, h7, h8, h9, rfl⟩⟩ := hs.cases
  · refine ⟨rows * (sv - 1), Nat.mul_le_mul h2 (show sv - 1 ≤ 5 by omega), ?_, rfl⟩
    refine go_ref23_Limits rfl BxOK.nil fun cx hm0 => go_in 5000 ?_
    unfold ac_ref23_Limits rs_ref23_Limits
    have q1 : decide ((rows : Int) < 1) = false := decide_eq_false (by omega)
    have q2 : decide ((rows : Int) > 1024) = false := decide_eq_false (by omega)
    have e1 := limits16 hp rows sv h1 h2 h3 h4
    repeat' (first | simp (maxSteps := 9999999) only [↓GE, PL, PP, EE, QQ, seval, q1, q2] | (simp (disch := omega) only [IntWalk.i64_in]) | (refine go_brD (fun h => ?_) (fun h => ?_)) | (refine go_gsD (by ((try simp only [EE, QQ, seval]) <;> rfl)) (fun h => ?_) (fun h => ?_)) | (refine go_br (fun h => ?_) (fun h => ?_)) | (refine go_gs (by ((try simp only [EE, QQ, seval]) <;> rfl)) (fun h => ?_) (fun h => ?_)) | (apply go_call 5000 (e0) rfl rfl; iterate 4 (first | (exact CallForm.plain rfl) | ((try simp only [CC, LL, NM, EE, QQ, seval]) <;> (first | rfl | ((repeat constructor); done))))) | (apply go_call 5000 (e1) rfl rfl; iterate 4 (first | (exact CallForm.plain rfl) | ((try simp only [CC, LL, NM, EE, QQ, seval]) <;> (first | rfl | ((repeat constructor); done))))) | (with_reducible apply And.intro) | (with_reducible exact trivial) | omega | (simp only [List.length_map, List.length_cons, List.length_nil] at *; omega) | (show _ = true; first | rfl | kernel_rfl))
    all_goals ((first | apply ret_mk [] | apply end_mk []); (· ((try simp only [CC, LL, EE, QQ, seval]) <;> rfl)); (· ((try simp only [CC, LL, EE, QQ, seval]) <;> repeat' (first | (with_reducible apply And.intro) | rfl | trivial | (exact ⟨_, rfl⟩) | (exact ⟨_, _, _, rfl⟩) | (simp [*, ]; done) | (simp [*, ]; omega) | (simp_all []; done) | (simp_all []; omega)))); all_goals (first | trivial | decide | ((try simp only [CC, LL, EE, QQ, seval]) <;> repeat' (first | (with_reducible apply And.intro) | (exact ⟨_, rfl, rfl, rfl⟩) | (exact ⟨_, _, _, rfl⟩) | (exact ⟨_, rfl⟩) | trivial | rfl | (simp; done)))))
  · refine ⟨rows * deg, Nat.le_trans (Nat.mul_le_mul h2 h6) (by omega), ?_, rfl⟩
    refine go_ref23_Limits rfl BxOK.nil fun cx hm0 => go_in 5000 ?_
    unfold ac_ref23_Limits rs_ref23_Limits
    have q1 : decide ((rows : Int) < 1) = false := decide_eq_false (by omega)
    have q2 : decide ((rows : Int) > 1024) = false := decide_eq_false (by omega)
    have e1 := limits17 hp sv deg rows h3 h4 h5 h6 h1 h2
    repeat' (first | simp (maxSteps := 9999999) only [↓GE, PL, PP, EE, QQ, seval, q1, q2] | (simp (disch := omega) only [IntWalk.i64_in]) | (refine go_brD (fun h => ?_) (fun h => ?_)) | (refine go_gsD (by ((try simp only [EE, QQ, seval]) <;> rfl)) (fun h => ?_) (fun h => ?_)) | (refine go_br (fun h => ?_) (fun h => ?_)) | (refine go_gs (by ((try simp only [EE, QQ, seval]) <;> rfl)) (fun h => ?_) (fun h => ?_)) | (apply go_call 5000 (e0) rfl rfl; iterate 4 (first | (exact CallForm.plain rfl) | ((try simp only [CC, LL, NM, EE, QQ, seval]) <;> (first | rfl | ((repeat constructor); done))))) | (apply go_call 5000 (e1) rfl rfl; iterate 4 (first | (exact CallForm.plain rfl) | ((try simp only [CC, LL, NM, EE, QQ, seval]) <;> (first | rfl | ((repeat constructor); done))))) | (apply go_call 5000 (e5) rfl rfl; iterate 4 (first | (exact CallForm.plain rfl) | ((try simp only [CC, LL, NM, EE, QQ, seval]) <;> (first | rfl | ((repeat constructor); done))))) | (with_reducible apply And.intro) | (with_reducible exact trivial) | omega | (simp only [List.length_map, List.length_cons, List.length_nil] at *; omega) | (show _ = true; first | rfl | kernel_rfl))
    all_goals ((first | apply ret_mk [] | apply end_mk []); (· ((try simp only [CC, LL, EE, QQ, seval]) <;> rfl)); (· ((try simp only [CC, LL, EE, QQ, seval]) <;> repeat' (first | (with_reducible apply And.intro) | rfl | trivial | (exact ⟨_, rfl⟩) | (exact ⟨_, _, _, rfl⟩) | (simp [*, ]; done) | (simp [*, ]; omega) | (simp_all []; done) | (simp_all []; omega)))); all_goals (first | trivial | decide | ((try simp only [CC, LL, EE, QQ, seval]) <;> repeat' (first | (with_reducible apply And.intro) | (exact ⟨_, rfl, rfl, rfl⟩) | (exact ⟨_, _, _, rfl⟩) | (exact ⟨_, rfl⟩) | trivial | rfl | (simp; done)))))
  · obtain ⟨hu1, hu2, _⟩ := units_in h7 h8 h1 h2
    refine ⟨(rows + grp - 1) / grp * deg, Nat.le_trans (Nat.mul_le_mul hu2 h6) (by omega), ?_, rfl⟩
    refine go_ref23_Limits rfl BxOK.nil fun cx hm0 => go_in 5000 ?_
    unfold ac_ref23_Limits rs_ref23_Limits
    have q1 : decide ((rows : Int) < 1) = false := decide_eq_false (by omega)
    have q2 : decide ((rows : Int) > 1024) = false := decide_eq_false (by omega)
    have e7 := units23 sv deg grp rows hs h7 h8 h1 h2
    have e1 := limits18 hp sv deg grp ((rows + grp - 1) / grp) h3 h4 h5 h6 h7 h8 h9 hu1 hu2
    repeat' (first | simp (maxSteps := 9999999) only [↓GE, PL, PP, EE, QQ, seval, q1, q2] | (simp (disch := omega) only [IntWalk.i64_in]) | (refine go_brD (fun h => ?_) (fun h => ?_)) | (refine go_gsD (by ((try simp only [EE, QQ, seval]) <;> rfl)) (fun h => ?_) (fun h => ?_)) | (refine go_br (fun h => ?_) (fun h => ?_)) | (refine go_gs (by ((try simp only [EE, QQ, seval]) <;> rfl)) (fun h => ?_) (fun h => ?_)) | (apply go_call 5000 (e0) rfl rfl; iterate 4 (first | (exact CallForm.plain rfl) | ((try simp only [CC, LL, NM, EE, QQ, seval]) <;> (first | rfl | ((repeat constructor); done))))) | (apply go_call 5000 (e1) rfl rfl; iterate 4 (first | (exact CallForm.plain rfl) | ((try simp only [CC, LL, NM, EE, QQ, seval]) <;> (first | rfl | ((repeat constructor); done))))) | (apply go_call 5000 (e6) rfl rfl; iterate 4 (first | (exact CallForm.plain rfl) | ((try simp only [CC, LL, NM, EE, QQ, seval]) <;> (first | rfl | ((repeat constructor); done))))) | (apply go_call 5000 (e7) rfl rfl; iterate 4 (first | (exact CallForm.plain rfl) | ((try simp only [CC, LL, NM, EE, QQ, seval]) <;> (first | rfl | ((repeat constructor); done))))) | (with_reducible apply And.intro) | (with_reducible exact trivial) | omega | (simp only [List.length_map, List.length_cons, List.length_nil] at *; omega) | (show _ = true; first | rfl | kernel_rfl))
    all_goals ((first | apply ret_mk [] | apply end_mk []); (· ((try simp only [CC, LL, EE, QQ, seval]) <;> rfl)); (· ((try simp only [CC, LL, EE, QQ, seval]) <;> repeat' (first | (with_reducible apply And.intro) | rfl | trivial | (exact ⟨_, rfl⟩) | (exact ⟨_, _, _, rfl⟩) | (simp [*, ]; done) | (simp [*, ]; omega) | (simp_all []; done) | (simp_all []; omega)))); all_goals (first | trivial | decide | ((try simp only [CC, LL, EE, QQ, seval]) <;> repeat' (first | (with_reducible apply And.intro) | (exact ⟨_, rfl, rfl, rfl⟩) | (exact ⟨_, _, _, rfl⟩) | (exact ⟨_, rfl⟩) | trivial | rfl | (simp; done)))))
end Go.Proofs.Ytihjmnhjjpdenaa.Sim
end
section
namespace Go.Proofs.Ytihjmnhjjpdenaa.Sim
open Go
set_option maxRecDepth 100000
set_option maxHeartbeats 4000000
set_option linter.unusedVariables false
set_option linter.unusedSimpArgs false
attribute [local irreducible] Go Mean
/-- The queries to the servers: each of at most four elements. -/
def okQ (p : Int) (sv : Nat) (q : List (List Int)) : Prop := q.length = sv ∧ ∀ x ∈ q, x.length ≤ 4 ∧ inF p x
theorem q16_ok {p : Int} (hp : okP p) {rows sv ix : Nat} {l : List Int} (h1 : 1 ≤ rows) (h2 : rows ≤ 4) (h3 : 3 ≤ sv) (hl : inF p l) (h : l.length = rows * (sv - 1)) : okQ p sv (q16 p rows sv ix l) := by
  refine ⟨by rw [q16, List.length_append, outG_len]; simp only [List.length_singleton]; omega, fun x hx => ?_⟩
  rw [q16] at hx
  rcases List.mem_append.1 hx with hx | hx
  · have := outG_ok hl h (Nat.le_refl _) x hx
    exact ⟨by omega, this.2⟩
  · obtain rfl := List.mem_singleton.1 hx
    exact ⟨by rw [lastG_len]; exact h2, lastG_in hp hl h (Nat.le_refl _)⟩
theorem q17_ok {p : Int} (hp : okP p) {sv deg rows ix : Nat} (h3 : 3 ≤ sv) (h4 : sv ≤ 6) (h5 : 1 ≤ deg) (h6 : deg ≤ 2) (h1 : 1 ≤ rows) (h2 : rows ≤ 4) (hix : ix < rows) (t : List Int) (a : Nat) (ht : t.length ≤ 16384) (ha : a + rows * deg ≤ t.length) (hin : inF p t) :
    ∃ q, okQ p sv q ∧ Does Try.prog 60 [.ag [I p], .ag [I sv, I deg], I rows, I ix, vTape t a] [] (.tu [.d (dRows q), vTape t ((a + rows * deg : Nat) : Int), I 0]) [] [] := by
  have hd : inF p (t.drop a) := fun y hy => hin y (List.mem_of_mem_drop hy)
  have key : ∀ k, k < 6 → (colG p (coef17 ix deg (t.drop a)) k rows).length ≤ 4 ∧ inF p (colG p (coef17 ix deg (t.drop a)) k rows) := fun k hk => ⟨by rw [colG_len]; exact h2, colG_in hp hk (n := rows) (fun i hi => coef17_in hp hd i) (Nat.le_refl _)⟩
  obtain rfl | rfl | rfl | rfl : sv = 3 ∨ sv = 4 ∨ sv = 5 ∨ sv = 6 := by omega
  · exact ⟨_, ⟨rfl, by simp only [List.mem_cons, List.not_mem_nil, or_false]; rintro x (rfl | rfl | rfl) <;> exact key _ (by omega)⟩, queries17_3 hp deg rows ix h5 h6 h1 h2 hix t a ht ha hin⟩
  · exact ⟨_, ⟨rfl, by simp only [List.mem_cons, List.not_mem_nil, or_false]; rintro x (rfl | rfl | rfl | rfl) <;> exact key _ (by omega)⟩, queries17_4 hp deg rows ix h5 h6 h1 h2 hix t a ht ha hin⟩
  · exact ⟨_, ⟨rfl, by simp only [List.mem_cons, List.not_mem_nil, or_false]; rintro x (rfl | rfl | rfl | rfl | rfl) <;> exact key _ (by omega)⟩, queries17_5 hp deg rows ix h5 h6 h1 h2 hix t a ht ha hin⟩
  · exact ⟨_, ⟨rfl, by simp only [List.mem_cons, List.not_mem_nil, or_false]; rintro x (rfl | rfl | rfl | rfl | rfl | rfl) <;> exact key _ (by omega)⟩, queries17_6 hp deg rows ix h5 h6 h1 h2 hix t a ht ha hin⟩
theorem q18_ok {p : Int} (hp : okP p) {sv deg grp rows ix : Nat} (h3 : 3 ≤ sv) (h4 : sv ≤ 6) (h5 : 1 ≤ deg) (h6 : deg ≤ 2) (h7 : 1 ≤ grp) (h8 : grp ≤ 2) (h9 : 2 * grp + deg - 1 ≤ sv) (h1 : 1 ≤ rows) (h2 : rows ≤ 4) (hix : ix < rows) (t : List Int) (a : Nat) (ht : t.length ≤ 16384) (ha : a + rows * deg ≤ t.length) (hin : inF p t) :
    ∃ q, okQ p sv q ∧ Does Try.prog 61 [.ag [I p], .ag [I sv, I deg, I grp], I rows, I ix, vTape t a] [] (.tu [.d (dRows q), vTape t ((a + rows * deg : Nat) : Int), I 0]) [] [] := by
  have hd : inF p (t.drop a) := fun y hy => hin y (List.mem_of_mem_drop hy)
  have key : ∀ k, k < 6 → (colG p (coef18 ix grp deg (t.drop a)) k rows).length ≤ 4 ∧ inF p (colG p (coef18 ix grp deg (t.drop a)) k rows) := fun k hk => ⟨by rw [colG_len]; exact h2, colG_in hp hk (n := rows) (fun i hi => coef18_in hp hd i) (Nat.le_refl _)⟩
  obtain rfl | rfl | rfl | rfl : sv = 3 ∨ sv = 4 ∨ sv = 5 ∨ sv = 6 := by omega
  · exact ⟨_, ⟨rfl, by simp only [List.mem_cons, List.not_mem_nil, or_false]; rintro x (rfl | rfl | rfl) <;> exact key _ (by omega)⟩, queries18_3 hp deg grp rows ix h5 h6 h7 h8 h9 h1 h2 hix t a ht ha hin⟩
  · exact ⟨_, ⟨rfl, by simp only [List.mem_cons, List.not_mem_nil, or_false]; rintro x (rfl | rfl | rfl | rfl) <;> exact key _ (by omega)⟩, queries18_4 hp deg grp rows ix h5 h6 h7 h8 h9 h1 h2 hix t a ht ha hin⟩
  · exact ⟨_, ⟨rfl, by simp only [List.mem_cons, List.not_mem_nil, or_false]; rintro x (rfl | rfl | rfl | rfl | rfl) <;> exact key _ (by omega)⟩, queries18_5 hp deg grp rows ix h5 h6 h7 h8 h9 h1 h2 hix t a ht ha hin⟩
  · exact ⟨_, ⟨rfl, by simp only [List.mem_cons, List.not_mem_nil, or_false]; rintro x (rfl | rfl | rfl | rfl | rfl | rfl) <;> exact key _ (by omega)⟩, queries18_6 hp deg grp rows ix h5 h6 h7 h8 h9 h1 h2 hix t a ht ha hin⟩
theorem queries23 {s : PSch} (hs : okS s) {p : Int} (hp : okP p) (rows : Nat) (h1 : 1 ≤ rows) (h2 : rows ≤ 4) : ∃ n : Nat, n ≤ 20 ∧ Does Try.prog 44 [vSch s, .ag [I p], I rows] [] (.tu [.d (dInts (repG p n)), I 0]) [] [] ∧ ∀ (ix : Nat) (t : List Int) (a : Nat), ix < rows → t.length ≤ 16384 → a + n ≤ t.length → inF p t →
    ∃ q, okQ p s.sv.toNat q ∧ Does Try.prog 46 [vSch s, .ag [I p], I rows, I ix, vTape t a] [] (.tu [.d (dRows q), vTape t ((a + n : Nat) : Int), I 0]) [] [] := by
  obtain ⟨n, hn, hL, hne⟩ := limits23 hs hp rows h1 h2
  refine ⟨n, hn, hL, fun ix t a hix ht ha hin => ?_⟩
  have e0 := valid23 hs hp
  have e5 := plan23 s
  have e6 := storage23 s
  have q1 : decide ((rows : Int) < 1) = false := decide_eq_false (by omega)
  have q2 : decide ((rows : Int) > 1024) = false := decide_eq_false (by omega)
  have q3 : decide ((ix : Int) < 0) = false := decide_eq_false (by omega)
  have q4 : decide ((ix : Int) ≥ (rows : Int)) = false := decide_eq_false (by omega)
  obtain ⟨sv, h3, h4, rfl | ⟨deg, h5, h6, rfl⟩ | ⟨deg, grp, h5, h6, h7, h8, h9, rfl⟩⟩ := hs.cases
  · have hne' : n = rows * (sv - 1) := hne
    subst hne'
    have hlen : ((t.drop a).take (rows * (sv - 1))).length = rows * (sv - 1) := by rw [List.length_take, List.length_drop]; exact Nat.min_eq_left (Nat.le_sub_of_add_le (by rw [Nat.add_comm]; exact ha))
    refine ⟨q16 p rows sv ix ((t.drop a).take (rows * (sv - 1))), q16_ok hp h1 h2 h3 (fun y hy => hin y (List.mem_of_mem_drop (List.mem_of_mem_take hy))) hlen, ?_⟩
    refine go_ref23_Queries rfl BxOK.nil fun cx hm0 => go_in 5000 ?_
    unfold ac_ref23_Queries rs_ref23_Queries
    have e1 := queries16 hp rows sv ix h1 h2 h3 h4 hix t a ht ha hin
    repeat' (first | simp (maxSteps := 9999999) only [↓GE, PL, PP, EE, QQ, seval, q1, q2, q3, q4] | (simp (disch := omega) only [IntWalk.i64_in]) | (refine go_brD (fun h => ?_) (fun h => ?_)) | (refine go_gsD (by ((try simp only [EE, QQ, seval]) <;> rfl)) (fun h => ?_) (fun h => ?_)) | (refine go_br (fun h => ?_) (fun h => ?_)) | (refine go_gs (by ((try simp only [EE, QQ, seval]) <;> rfl)) (fun h => ?_) (fun h => ?_)) | (apply go_call 5000 (e0) rfl rfl; iterate 4 (first | (exact CallForm.plain rfl) | ((try simp only [CC, LL, NM, EE, QQ, seval]) <;> (first | rfl | ((repeat constructor); done))))) | (apply go_call 5000 (e1) rfl rfl; iterate 4 (first | (exact CallForm.plain rfl) | ((try simp only [CC, LL, NM, EE, QQ, seval]) <;> (first | rfl | ((repeat constructor); done))))) | (with_reducible apply And.intro) | (with_reducible exact trivial) | omega | (simp only [List.length_map, List.length_cons, List.length_nil] at *; omega) | (show _ = true; first | rfl | kernel_rfl))
    all_goals ((first | apply ret_mk [] | apply end_mk []); (· ((try simp only [CC, LL, EE, QQ, seval]) <;> rfl)); (· ((try simp only [CC, LL, EE, QQ, seval]) <;> repeat' (first | (with_reducible apply And.intro) | rfl | trivial | (exact ⟨_, rfl⟩) | (exact ⟨_, _, _, rfl⟩) | (simp [*, ]; done) | (simp [*, ]; omega) | (simp_all []; done) | (simp_all []; omega)))); all_goals (first | trivial | decide | ((try simp only [CC, LL, EE, QQ, seval]) <;> repeat' (first | (with_reducible apply And.intro) | (exact ⟨_, rfl, rfl, rfl⟩) | (exact ⟨_, _, _, rfl⟩) | (exact ⟨_, rfl⟩) | trivial | rfl | (simp; done)))))
  · have hne' : n = rows * deg := hne
    subst hne'
    obtain ⟨q, hq, e1⟩ := q17_ok hp h3 h4 h5 h6 h1 h2 hix t a ht ha hin
    refine ⟨q, hq, ?_⟩
    refine go_ref23_Queries rfl BxOK.nil fun cx hm0 => go_in 5000 ?_
    unfold ac_ref23_Queries rs_ref23_Queries
    repeat' (first | simp (maxSteps := 9999999) only [↓GE, PL, PP, EE, QQ, seval, q1, q2, q3, q4] | (simp (disch := omega) only [IntWalk.i64_in]) | (refine go_brD (fun h => ?_) (fun h => ?_)) | (refine go_gsD (by ((try simp only [EE, QQ, seval]) <;> rfl)) (fun h => ?_) (fun h => ?_)) | (refine go_br (fun h => ?_) (fun h => ?_)) | (refine go_gs (by ((try simp only [EE, QQ, seval]) <;> rfl)) (fun h => ?_) (fun h => ?_)) | (apply go_call 5000 (e0) rfl rfl; iterate 4 (first | (exact CallForm.plain rfl) | ((try simp only [CC, LL, NM, EE, QQ, seval]) <;> (first | rfl | ((repeat constructor); done))))) | (apply go_call 5000 (e1) rfl rfl; iterate 4 (first | (exact CallForm.plain rfl) | ((try simp only [CC, LL, NM, EE, QQ, seval]) <;> (first | rfl | ((repeat constructor); done))))) | (apply go_call 5000 (e5) rfl rfl; iterate 4 (first | (exact CallForm.plain rfl) | ((try simp only [CC, LL, NM, EE, QQ, seval]) <;> (first | rfl | ((repeat constructor); done))))) | (with_reducible apply And.intro) | (with_reducible exact trivial) | omega | (simp only [List.length_map, List.length_cons, List.length_nil] at *; omega) | (show _ = true; first | rfl | kernel_rfl))
    all_goals ((first | apply ret_mk [] | apply end_mk []); (· ((try simp only [CC, LL, EE, QQ, seval]) <;> rfl)); (· ((try simp only [CC, LL, EE, QQ, seval]) <;> repeat' (first | (with_reducible apply And.intro) | rfl | trivial | (exact ⟨_, rfl⟩) | (exact ⟨_, _, _, rfl⟩) | (simp [*, ]; done) | (simp [*, ]; omega) | (simp_all []; done) | (simp_all []; omega)))); all_goals (first | trivial | decide | ((try simp only [CC, LL, EE, QQ, seval]) <;> repeat' (first | (with_reducible apply And.intro) | (exact ⟨_, rfl, rfl, rfl⟩) | (exact ⟨_, _, _, rfl⟩) | (exact ⟨_, rfl⟩) | trivial | rfl | (simp; done)))))
  · have hne' : n = (rows + grp - 1) / grp * deg := hne
    subst hne'
    obtain ⟨hu1, hu2, hu3⟩ := units_in h7 h8 h1 h2
    have e7 := units23 sv deg grp rows hs h7 h8 h1 h2
    obtain ⟨q, hq, e1⟩ := q18_ok hp h3 h4 h5 h6 h7 h8 h9 hu1 hu2 (hu3 ix hix) t a ht ha hin
    refine ⟨q, hq, ?_⟩
    refine go_ref23_Queries rfl BxOK.nil fun cx hm0 => go_in 5000 ?_
    unfold ac_ref23_Queries rs_ref23_Queries
    have w2 : (ix : Int).tdiv (grp : Int) = ((ix / grp : Nat) : Int) := rfl
    have hd := Nat.div_le_self ix grp
    generalize (rows + grp - 1) / grp = u at *
    generalize ix / grp = ig at *
    have w3 : IntKind.i64.wrap (ig : Int) = ig := IntWalk.i64_in _ (by omega)
    have hz : (grp : Int) ≠ 0 := by omega
    repeat' (first | simp (maxSteps := 9999999) only [↓GE, PL, PP, EE, QQ, seval, q1, q2, q3, q4, w2, w3, hz] | (simp (disch := omega) only [IntWalk.i64_in]) | (refine go_brD (fun h => ?_) (fun h => ?_)) | (refine go_gsD (by ((try simp only [EE, QQ, seval]) <;> rfl)) (fun h => ?_) (fun h => ?_)) | (refine go_br (fun h => ?_) (fun h => ?_)) | (refine go_gs (by ((try simp only [EE, QQ, seval]) <;> rfl)) (fun h => ?_) (fun h => ?_)) | (apply go_call 5000 (e0) rfl rfl; iterate 4 (first | (exact CallForm.plain rfl) | ((try simp only [CC, LL, NM, EE, QQ, seval]) <;> (first | rfl | ((repeat constructor); done))))) | (apply go_call 5000 (e1) rfl rfl; iterate 4 (first | (exact CallForm.plain rfl) | ((try simp only [CC, LL, NM, EE, QQ, seval]) <;> (first | rfl | ((repeat constructor); done))))) | (apply go_call 5000 (e6) rfl rfl; iterate 4 (first | (exact CallForm.plain rfl) | ((try simp only [CC, LL, NM, EE, QQ, seval]) <;> (first | rfl | ((repeat constructor); done))))) | (apply go_call 5000 (e7) rfl rfl; iterate 4 (first | (exact CallForm.plain rfl) | ((try simp only [CC, LL, NM, EE, QQ, seval]) <;> (first | rfl | ((repeat constructor); done))))) | (with_reducible apply And.intro) | (with_reducible exact trivial) | omega | (simp only [List.length_map, List.length_cons, List.length_nil] at *; omega) | (show _ = true; first | rfl | kernel_rfl))
    all_goals ((first | apply ret_mk [] | apply end_mk []); (· ((try simp only [CC, LL, EE, QQ, seval]) <;> rfl)); (· ((try simp only [CC, LL, EE, QQ, seval]) <;> repeat' (first | (with_reducible apply And.intro) | rfl | trivial | (exact ⟨_, rfl⟩) | (exact ⟨_, _, _, rfl⟩) | (simp [*, ]; done) | (simp [*, ]; omega) | (simp_all []; done) | (simp_all []; omega)))); all_goals (first | trivial | decide | ((try simp only [CC, LL, EE, QQ, seval]) <;> repeat' (first | (with_reducible apply And.intro) | (exact ⟨_, rfl, rfl, rfl⟩) | (exact ⟨_, _, _, rfl⟩) | (exact ⟨_, rfl⟩) | trivial | rfl | (simp; done)))))
end Go.Proofs.Ytihjmnhjjpdenaa.Sim
end
