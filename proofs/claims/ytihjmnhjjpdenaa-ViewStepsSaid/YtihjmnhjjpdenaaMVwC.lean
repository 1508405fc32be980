/- Limits and queries of the three kinds of the document. -/
import Derived.Test.YtihjmnhjjpdenaaMVwB
namespace Go.Proofs.Ytihjmnhjjpdenaa.Sim
open Go
set_option maxRecDepth 100000
set_option maxHeartbeats 4000000
set_option linter.unusedVariables false
set_option linter.unusedSimpArgs false
attribute [local irreducible] Go Mean
/-- The same number, often. -/
def repG (p : Int) : Nat → List Int
  | 0 => []
  | n + 1 => repG p n ++ [p]
theorem repG_len {p : Int} : ∀ {n : Nat}, (repG p n).length = n
  | 0 => rfl
  | n + 1 => by rw [repG]; simp [repG_len]
theorem repG_mem {p : Int} : ∀ {n : Nat}, ∀ x ∈ repG p n, x = p
  | 0, x, h => by simp [repG] at h
  | n + 1, x, h => by
    rw [repG] at h
    rcases List.mem_append.1 h with h | h
    · exact repG_mem x h
    · simpa using h
theorem limits16 {p : Int} (hp : okP p) (rows sv : Nat) (h1 : 1 ≤ rows) (h2 : rows ≤ 4) (h3 : 3 ≤ sv) (h4 : sv ≤ 6) : Does Try.prog 53 [.ag [I p], I rows, I sv] [] (.tu [.d (dInts (repG p (rows * (sv - 1)))), I 0]) [] [] := by
  refine go_ref16_Limits rfl BxOK.nil fun cx hm0 => go_in 5000 ?_
  unfold ac_ref16_Limits rs_ref16_Limits
  have q1 : decide ((sv : Int) < 2) = false := decide_eq_false (by omega)
  have q3 : decide ((rows : Int) < 1) = false := decide_eq_false (by omega)
  have w0 : IntKind.i64.wrap ((sv : Int) - 1) = ((sv - 1 : Nat) : Int) := by rw [show (sv : Int) - 1 = ((sv - 1 : Nat) : Int) by omega]; exact IntWalk.i64_in _ (by omega)
  have hm : rows * (sv - 1) ≤ 20 := Nat.mul_le_mul h2 (show sv - 1 ≤ 5 by omega)
  have w1 : IntKind.i64.wrap ((rows : Int) * ((sv - 1 : Nat) : Int)) = ((rows * (sv - 1) : Nat) : Int) := by rw [← Int.natCast_mul]; exact IntWalk.i64_in _ (by omega)
  have e1 := check3 hp
  generalize rows * (sv - 1) = n at *
  repeat' (first | simp (maxSteps := 9999999) only [↓GE, PL, PP, EE, QQ, seval, q1, q3, w0, w1] | (simp (disch := omega) only [IntWalk.i64_in]) | (refine go_brD (fun h => ?_) (fun h => ?_)) | (refine go_gsD (by ((try simp only [EE, QQ, seval]) <;> rfl)) (fun h => ?_) (fun h => ?_)) | (refine go_br (fun h => ?_) (fun h => ?_)) | (refine go_gs (by ((try simp only [EE, QQ, seval]) <;> rfl)) (fun h => ?_) (fun h => ?_)) | (apply go_call 5000 (e1) rfl rfl; iterate 4 (first | (exact CallForm.plain rfl) | ((try simp only [CC, LL, NM, EE, QQ, seval]) <;> (first | rfl | ((repeat constructor); done))))) | (with_reducible apply And.intro) | (with_reducible exact trivial) | omega | (simp only [List.length_map, List.length_cons, List.length_nil] at *; omega) | (show _ = true; first | rfl | kernel_rfl))
  refine go_loop 5000 hm0 (ι := {q : Nat × Nat // q.1 ≤ n}) (fun i => [(3, .bp 3 0 0), (9, .og 39 i.1.2), (32, I n), (33, I i.1.1)]) (fun i => [(3, .box 0 [I p]), (39, .arr i.1.2 1 true ((repG p i.1.1).map eI))]) (fun i => n - i.1.1) [39] ⟨(0, 0), Nat.zero_le _⟩ ?_ ?_
  · (simp only [GeS]; refine ⟨?_, ?_, ?_, ?_⟩; all_goals (repeat' (first | (with_reducible exact True.intro) | (with_reducible rfl) | simp only [CC, LL, EE, QQ, seval, List.contains_nil, Bool.false_eq_true, ↓reduceIte, Option.some.injEq, O.arr.injEq, true_and, and_true] | (with_reducible apply And.intro) | (refine ⟨_, rfl, ?_⟩) | (simp [repG]; done) | rfl | omega | trivial)))
  · rintro ⟨⟨k, v⟩, hk⟩
    simp only at hk
    by_cases hkn : k < n
    · have q5 : decide ((k : Int) < (n : Int)) = true := decide_eq_true (by omega)
      repeat' (first | simp (maxSteps := 9999999) only [↓GE, PL, PP, EE, QQ, seval, q5, List.length_map, repG_len] | (simp (disch := omega) only [IntWalk.i64_in]) | (refine go_brD (fun h => ?_) (fun h => ?_)) | (refine go_gsD (by ((try simp only [EE, QQ, seval]) <;> rfl)) (fun h => ?_) (fun h => ?_)) | (refine go_br (fun h => ?_) (fun h => ?_)) | (refine go_gs (by ((try simp only [EE, QQ, seval]) <;> rfl)) (fun h => ?_) (fun h => ?_)) | (with_reducible apply And.intro) | (with_reducible exact trivial) | omega | (simp only [List.length_map, List.length_cons, List.length_nil] at *; omega) | (show _ = true; first | rfl | kernel_rfl))
      refine ⟨⟨(k + 1, v + 1), hkn⟩, ?_, by simp only; omega⟩
      (simp only [GeS]; refine ⟨?_, ?_, ?_, ?_⟩; all_goals (repeat' (first | (with_reducible exact True.intro) | (with_reducible rfl) | simp only [CC, LL, EE, QQ, seval, List.contains_nil, Bool.false_eq_true, ↓reduceIte, Option.some.injEq, O.arr.injEq, true_and, and_true] | (with_reducible apply And.intro) | (refine ⟨_, rfl, ?_⟩) | (simp [repG, eI]; done) | rfl | omega | trivial)))
    · obtain rfl : k = n := by omega
      have q5 : decide ((k : Int) < (k : Int)) = false := decide_eq_false (by omega)
      repeat' (first | simp (maxSteps := 9999999) only [↓GE, PL, PP, EE, QQ, seval, q5] | (simp (disch := omega) only [IntWalk.i64_in]) | (refine go_brD (fun h => ?_) (fun h => ?_)) | (refine go_gsD (by ((try simp only [EE, QQ, seval]) <;> rfl)) (fun h => ?_) (fun h => ?_)) | (refine go_br (fun h => ?_) (fun h => ?_)) | (refine go_gs (by ((try simp only [EE, QQ, seval]) <;> rfl)) (fun h => ?_) (fun h => ?_)) | (with_reducible apply And.intro) | (with_reducible exact trivial) | omega | (simp only [List.length_map, List.length_cons, List.length_nil] at *; omega) | (show _ = true; first | rfl | kernel_rfl))
      all_goals ((first | apply ret_mk [] | apply end_mk []); (· ((try simp only [CC, LL, EE, QQ, seval]) <;> rfl)); (· ((try simp only [CC, LL, EE, QQ, seval]) <;> repeat' (first | (with_reducible apply And.intro) | rfl | trivial | (exact ⟨_, rfl⟩) | (exact ⟨_, _, _, rfl⟩) | (simp [*, ]; done) | (simp [*, ]; omega) | (simp_all []; done) | (simp_all []; omega)))); all_goals (first | trivial | decide | ((try simp only [CC, LL, EE, QQ, seval]) <;> repeat' (first | (with_reducible apply And.intro) | (exact ⟨_, rfl, rfl, rfl⟩) | (exact ⟨_, _, _, rfl⟩) | (exact ⟨_, rfl⟩) | trivial | rfl | (simp; done)))))
theorem check17 {p : Int} (hp : okP p) (sv deg : Nat) (h3 : 3 ≤ sv) (h4 : sv ≤ 6) (h5 : 1 ≤ deg) (h6 : deg ≤ 2) : Does Try.prog 64 [.ag [I p], .ag [I sv, I deg]] [] (I 0) [] [] := by
  refine go_ref17_Check rfl BxOK.nil fun cx hm0 => go_in 5000 ?_
  unfold ac_ref17_Check rs_ref17_Check
  have hpl := hp.le
  have w0 : IntKind.i64.wrap ((sv : Int) - 1) = (sv : Int) - 1 := IntWalk.i64_in _ (by omega)
  have q1 : decide ((sv : Int) < 2) = false := decide_eq_false (by omega)
  have q2 : decide ((sv : Int) > 10) = false := decide_eq_false (by omega)
  have q3 : decide ((sv : Int) ≥ p) = false := decide_eq_false (by omega)
  have q4 : decide ((deg : Int) < 1) = false := decide_eq_false (by omega)
  have q5 : decide ((deg : Int) > (sv : Int) - 1) = false := decide_eq_false (by omega)
  repeat' (first | simp (maxSteps := 9999999) only [↓GE, PL, PP, EE, QQ, seval, w0, q1, q2, q3, q4, q5] | (simp (disch := omega) only [IntWalk.i64_in]) | (refine go_brD (fun h => ?_) (fun h => ?_)) | (refine go_gsD (by ((try simp only [EE, QQ, seval]) <;> rfl)) (fun h => ?_) (fun h => ?_)) | (refine go_br (fun h => ?_) (fun h => ?_)) | (refine go_gs (by ((try simp only [EE, QQ, seval]) <;> rfl)) (fun h => ?_) (fun h => ?_)) | (apply go_call 5000 (check3 hp) rfl rfl; iterate 4 (first | (exact CallForm.plain rfl) | ((try simp only [CC, LL, NM, EE, QQ, seval]) <;> (first | rfl | ((repeat constructor); done))))) | (with_reducible apply And.intro) | (with_reducible exact trivial) | omega | (simp only [List.length_map, List.length_cons, List.length_nil] at *; omega) | (show _ = true; first | rfl | kernel_rfl))
  all_goals ((first | apply ret_mk [] | apply end_mk []); (· ((try simp only [CC, LL, EE, QQ, seval]) <;> rfl)); (· ((try simp only [CC, LL, EE, QQ, seval]) <;> repeat' (first | (with_reducible apply And.intro) | rfl | trivial | (exact ⟨_, rfl⟩) | (exact ⟨_, _, _, rfl⟩) | (simp [*, ]; done) | (simp [*, ]; omega) | (simp_all []; done) | (simp_all []; omega)))); all_goals (first | trivial | decide | ((try simp only [CC, LL, EE, QQ, seval]) <;> repeat' (first | (with_reducible apply And.intro) | (exact ⟨_, rfl, rfl, rfl⟩) | (exact ⟨_, _, _, rfl⟩) | (exact ⟨_, rfl⟩) | trivial | rfl | (simp; done)))))
theorem check18 {p : Int} (hp : okP p) (sv deg grp : Nat) (h3 : 3 ≤ sv) (h4 : sv ≤ 6) (h5 : 1 ≤ deg) (h6 : deg ≤ 2) (h7 : 1 ≤ grp) (h8 : grp ≤ 2) (h9 : 2 * grp + deg - 1 ≤ sv) : Does Try.prog 65 [.ag [I p], .ag [I sv, I deg, I grp]] [] (I 0) [] [] := by
  refine go_ref18_Check rfl BxOK.nil fun cx hm0 => go_in 5000 ?_
  unfold ac_ref18_Check rs_ref18_Check
  have hpl := hp.le
  have w0 : IntKind.i64.wrap (2 * (grp : Int)) = 2 * (grp : Int) := IntWalk.i64_in _ (by omega)
  have w1 : IntKind.i64.wrap (2 * (grp : Int) + (deg : Int)) = 2 * (grp : Int) + (deg : Int) := IntWalk.i64_in _ (by omega)
  have w2 : IntKind.i64.wrap (2 * (grp : Int) + (deg : Int) - 1) = 2 * (grp : Int) + (deg : Int) - 1 := IntWalk.i64_in _ (by omega)
  have q1 : decide ((sv : Int) < 2) = false := decide_eq_false (by omega)
  have q2 : decide ((sv : Int) > 10) = false := decide_eq_false (by omega)
  have q3 : decide ((sv : Int) ≥ p) = false := decide_eq_false (by omega)
  have q4 : decide ((deg : Int) < 1) = false := decide_eq_false (by omega)
  have q5 : decide ((deg : Int) > (sv : Int)) = false := decide_eq_false (by omega)
  have q6 : decide ((grp : Int) < 1) = false := decide_eq_false (by omega)
  have q7 : decide ((grp : Int) > (sv : Int)) = false := decide_eq_false (by omega)
  have q8 : decide (2 * (grp : Int) + (deg : Int) - 1 > (sv : Int)) = false := decide_eq_false (by omega)
  repeat' (first | simp (maxSteps := 9999999) only [↓GE, PL, PP, EE, QQ, seval, w0, w1, w2, q1, q2, q3, q4, q5, q6, q7, q8] | (simp (disch := omega) only [IntWalk.i64_in]) | (refine go_brD (fun h => ?_) (fun h => ?_)) | (refine go_gsD (by ((try simp only [EE, QQ, seval]) <;> rfl)) (fun h => ?_) (fun h => ?_)) | (refine go_br (fun h => ?_) (fun h => ?_)) | (refine go_gs (by ((try simp only [EE, QQ, seval]) <;> rfl)) (fun h => ?_) (fun h => ?_)) | (apply go_call 5000 (check3 hp) rfl rfl; iterate 4 (first | (exact CallForm.plain rfl) | ((try simp only [CC, LL, NM, EE, QQ, seval]) <;> (first | rfl | ((repeat constructor); done))))) | (with_reducible apply And.intro) | (with_reducible exact trivial) | omega | (simp only [List.length_map, List.length_cons, List.length_nil] at *; omega) | (show _ = true; first | rfl | kernel_rfl))
  all_goals ((first | apply ret_mk [] | apply end_mk []); (· ((try simp only [CC, LL, EE, QQ, seval]) <;> rfl)); (· ((try simp only [CC, LL, EE, QQ, seval]) <;> repeat' (first | (with_reducible apply And.intro) | rfl | trivial | (exact ⟨_, rfl⟩) | (exact ⟨_, _, _, rfl⟩) | (simp [*, ]; done) | (simp [*, ]; omega) | (simp_all []; done) | (simp_all []; omega)))); all_goals (first | trivial | decide | ((try simp only [CC, LL, EE, QQ, seval]) <;> repeat' (first | (with_reducible apply And.intro) | (exact ⟨_, rfl, rfl, rfl⟩) | (exact ⟨_, _, _, rfl⟩) | (exact ⟨_, rfl⟩) | trivial | rfl | (simp; done)))))
theorem limits17 {p : Int} (hp : okP p) (sv deg rows : Nat) (h3 : 3 ≤ sv) (h4 : sv ≤ 6) (h5 : 1 ≤ deg) (h6 : deg ≤ 2) (h1 : 1 ≤ rows) (h2 : rows ≤ 4) : Does Try.prog 54 [.ag [I p], .ag [I sv, I deg], I rows] [] (.tu [.d (dInts (repG p (rows * deg))), I 0]) [] [] := by
  refine go_ref17_Limits rfl BxOK.nil fun cx hm0 => go_in 5000 ?_
  unfold ac_ref17_Limits rs_ref17_Limits
  have q1 : decide ((rows : Int) < 1) = false := decide_eq_false (by omega)
  have q2 : decide ((rows : Int) > 1024) = false := decide_eq_false (by omega)
  have hm : rows * deg ≤ 8 := Nat.mul_le_mul h2 h6
  have w1 : IntKind.i64.wrap ((rows : Int) * (deg : Int)) = ((rows * deg : Nat) : Int) := by rw [← Int.natCast_mul]; exact IntWalk.i64_in _ (by omega)
  have e1 := check17 hp sv deg h3 h4 h5 h6
  generalize rows * deg = n at *
  repeat' (first | simp (maxSteps := 9999999) only [↓GE, PL, PP, EE, QQ, seval, q1, q2, w1] | (simp (disch := omega) only [IntWalk.i64_in]) | (refine go_brD (fun h => ?_) (fun h => ?_)) | (refine go_gsD (by ((try simp only [EE, QQ, seval]) <;> rfl)) (fun h => ?_) (fun h => ?_)) | (refine go_br (fun h => ?_) (fun h => ?_)) | (refine go_gs (by ((try simp only [EE, QQ, seval]) <;> rfl)) (fun h => ?_) (fun h => ?_)) | (apply go_call 5000 (e1) rfl rfl; iterate 4 (first | (exact CallForm.plain rfl) | ((try simp only [CC, LL, NM, EE, QQ, seval]) <;> (first | rfl | ((repeat constructor); done))))) | (with_reducible apply And.intro) | (with_reducible exact trivial) | omega | (simp only [List.length_map, List.length_cons, List.length_nil] at *; omega) | (show _ = true; first | rfl | kernel_rfl))
  refine go_loop 5000 hm0 (ι := {q : Nat × Nat // q.1 ≤ n}) (fun i => [(3, .bp 3 0 0), (9, .og 32 i.1.2), (25, I n), (26, I i.1.1)]) (fun i => [(3, .box 0 [I p]), (32, .arr i.1.2 1 true ((repG p i.1.1).map eI))]) (fun i => n - i.1.1) [32] ⟨(0, 0), Nat.zero_le _⟩ ?_ ?_
  · (simp only [GeS]; refine ⟨?_, ?_, ?_, ?_⟩; all_goals (repeat' (first | (with_reducible exact True.intro) | (with_reducible rfl) | simp only [CC, LL, EE, QQ, seval, List.contains_nil, Bool.false_eq_true, ↓reduceIte, Option.some.injEq, O.arr.injEq, true_and, and_true] | (with_reducible apply And.intro) | (refine ⟨_, rfl, ?_⟩) | (simp [repG]; done) | rfl | omega | trivial)))
  · rintro ⟨⟨k, v⟩, hk⟩
    simp only at hk
    by_cases hkn : k < n
    · have q5 : decide ((k : Int) < (n : Int)) = true := decide_eq_true (by omega)
      repeat' (first | simp (maxSteps := 9999999) only [↓GE, PL, PP, EE, QQ, seval, q5, List.length_map, repG_len] | (simp (disch := omega) only [IntWalk.i64_in]) | (refine go_brD (fun h => ?_) (fun h => ?_)) | (refine go_gsD (by ((try simp only [EE, QQ, seval]) <;> rfl)) (fun h => ?_) (fun h => ?_)) | (refine go_br (fun h => ?_) (fun h => ?_)) | (refine go_gs (by ((try simp only [EE, QQ, seval]) <;> rfl)) (fun h => ?_) (fun h => ?_)) | (with_reducible apply And.intro) | (with_reducible exact trivial) | omega | (simp only [List.length_map, List.length_cons, List.length_nil] at *; omega) | (show _ = true; first | rfl | kernel_rfl))
      refine ⟨⟨(k + 1, v + 1), hkn⟩, ?_, by simp only; omega⟩
      (simp only [GeS]; refine ⟨?_, ?_, ?_, ?_⟩; all_goals (repeat' (first | (with_reducible exact True.intro) | (with_reducible rfl) | simp only [CC, LL, EE, QQ, seval, List.contains_nil, Bool.false_eq_true, ↓reduceIte, Option.some.injEq, O.arr.injEq, true_and, and_true] | (with_reducible apply And.intro) | (refine ⟨_, rfl, ?_⟩) | (simp [repG, eI]; done) | rfl | omega | trivial)))
    · obtain rfl : k = n := by omega
      have q5 : decide ((k : Int) < (k : Int)) = false := decide_eq_false (by omega)
      repeat' (first | simp (maxSteps := 9999999) only [↓GE, PL, PP, EE, QQ, seval, q5] | (simp (disch := omega) only [IntWalk.i64_in]) | (refine go_brD (fun h => ?_) (fun h => ?_)) | (refine go_gsD (by ((try simp only [EE, QQ, seval]) <;> rfl)) (fun h => ?_) (fun h => ?_)) | (refine go_br (fun h => ?_) (fun h => ?_)) | (refine go_gs (by ((try simp only [EE, QQ, seval]) <;> rfl)) (fun h => ?_) (fun h => ?_)) | (with_reducible apply And.intro) | (with_reducible exact trivial) | omega | (simp only [List.length_map, List.length_cons, List.length_nil] at *; omega) | (show _ = true; first | rfl | kernel_rfl))
      all_goals ((first | apply ret_mk [] | apply end_mk []); (· ((try simp only [CC, LL, EE, QQ, seval]) <;> rfl)); (· ((try simp only [CC, LL, EE, QQ, seval]) <;> repeat' (first | (with_reducible apply And.intro) | rfl | trivial | (exact ⟨_, rfl⟩) | (exact ⟨_, _, _, rfl⟩) | (simp [*, ]; done) | (simp [*, ]; omega) | (simp_all []; done) | (simp_all []; omega)))); all_goals (first | trivial | decide | ((try simp only [CC, LL, EE, QQ, seval]) <;> repeat' (first | (with_reducible apply And.intro) | (exact ⟨_, rfl, rfl, rfl⟩) | (exact ⟨_, _, _, rfl⟩) | (exact ⟨_, rfl⟩) | trivial | rfl | (simp; done)))))
theorem limits18 {p : Int} (hp : okP p) (sv deg grp rows : Nat) (h3 : 3 ≤ sv) (h4 : sv ≤ 6) (h5 : 1 ≤ deg) (h6 : deg ≤ 2) (h7 : 1 ≤ grp) (h8 : grp ≤ 2) (h9 : 2 * grp + deg - 1 ≤ sv) (h1 : 1 ≤ rows) (h2 : rows ≤ 4) : Does Try.prog 56 [.ag [I p], .ag [I sv, I deg, I grp], I rows] [] (.tu [.d (dInts (repG p (rows * deg))), I 0]) [] [] := by
  refine go_ref18_Limits rfl BxOK.nil fun cx hm0 => go_in 5000 ?_
  unfold ac_ref18_Limits rs_ref18_Limits
  have q1 : decide ((rows : Int) < 1) = false := decide_eq_false (by omega)
  have q2 : decide ((rows : Int) > 1024) = false := decide_eq_false (by omega)
  have hm : rows * deg ≤ 8 := Nat.mul_le_mul h2 h6
  have w1 : IntKind.i64.wrap ((rows : Int) * (deg : Int)) = ((rows * deg : Nat) : Int) := by rw [← Int.natCast_mul]; exact IntWalk.i64_in _ (by omega)
  have e1 := check18 hp sv deg grp h3 h4 h5 h6 h7 h8 h9
  generalize rows * deg = n at *
  repeat' (first | simp (maxSteps := 9999999) only [↓GE, PL, PP, EE, QQ, seval, q1, q2, w1] | (simp (disch := omega) only [IntWalk.i64_in]) | (refine go_brD (fun h => ?_) (fun h => ?_)) | (refine go_gsD (by ((try simp only [EE, QQ, seval]) <;> rfl)) (fun h => ?_) (fun h => ?_)) | (refine go_br (fun h => ?_) (fun h => ?_)) | (refine go_gs (by ((try simp only [EE, QQ, seval]) <;> rfl)) (fun h => ?_) (fun h => ?_)) | (apply go_call 5000 (e1) rfl rfl; iterate 4 (first | (exact CallForm.plain rfl) | ((try simp only [CC, LL, NM, EE, QQ, seval]) <;> (first | rfl | ((repeat constructor); done))))) | (with_reducible apply And.intro) | (with_reducible exact trivial) | omega | (simp only [List.length_map, List.length_cons, List.length_nil] at *; omega) | (show _ = true; first | rfl | kernel_rfl))
  refine go_loop 5000 hm0 (ι := {q : Nat × Nat // q.1 ≤ n}) (fun i => [(3, .bp 3 0 0), (9, .og 32 i.1.2), (25, I n), (26, I i.1.1)]) (fun i => [(3, .box 0 [I p]), (32, .arr i.1.2 1 true ((repG p i.1.1).map eI))]) (fun i => n - i.1.1) [32] ⟨(0, 0), Nat.zero_le _⟩ ?_ ?_
  · (simp only [GeS]; refine ⟨?_, ?_, ?_, ?_⟩; all_goals (repeat' (first | (with_reducible exact True.intro) | (with_reducible rfl) | simp only [CC, LL, EE, QQ, seval, List.contains_nil, Bool.false_eq_true, ↓reduceIte, Option.some.injEq, O.arr.injEq, true_and, and_true] | (with_reducible apply And.intro) | (refine ⟨_, rfl, ?_⟩) | (simp [repG]; done) | rfl | omega | trivial)))
  · rintro ⟨⟨k, v⟩, hk⟩
    simp only at hk
    by_cases hkn : k < n
    · have q5 : decide ((k : Int) < (n : Int)) = true := decide_eq_true (by omega)
      repeat' (first | simp (maxSteps := 9999999) only [↓GE, PL, PP, EE, QQ, seval, q5, List.length_map, repG_len] | (simp (disch := omega) only [IntWalk.i64_in]) | (refine go_brD (fun h => ?_) (fun h => ?_)) | (refine go_gsD (by ((try simp only [EE, QQ, seval]) <;> rfl)) (fun h => ?_) (fun h => ?_)) | (refine go_br (fun h => ?_) (fun h => ?_)) | (refine go_gs (by ((try simp only [EE, QQ, seval]) <;> rfl)) (fun h => ?_) (fun h => ?_)) | (with_reducible apply And.intro) | (with_reducible exact trivial) | omega | (simp only [List.length_map, List.length_cons, List.length_nil] at *; omega) | (show _ = true; first | rfl | kernel_rfl))
      refine ⟨⟨(k + 1, v + 1), hkn⟩, ?_, by simp only; omega⟩
      (simp only [GeS]; refine ⟨?_, ?_, ?_, ?_⟩; all_goals (repeat' (first | (with_reducible exact True.intro) | (with_reducible rfl) | simp only [CC, LL, EE, QQ, seval, List.contains_nil, Bool.false_eq_true, ↓reduceIte, Option.some.injEq, O.arr.injEq, true_and, and_true] | (with_reducible apply And.intro) | (refine ⟨_, rfl, ?_⟩) | (simp [repG, eI]; done) | rfl | omega | trivial)))
    · obtain rfl : k = n := by omega
      have q5 : decide ((k : Int) < (k : Int)) = false := decide_eq_false (by omega)
      repeat' (first | simp (maxSteps := 9999999) only [↓GE, PL, PP, EE, QQ, seval, q5] | (simp (disch := omega) only [IntWalk.i64_in]) | (refine go_brD (fun h => ?_) (fun h => ?_)) | (refine go_gsD (by ((try simp only [EE, QQ, seval]) <;> rfl)) (fun h => ?_) (fun h => ?_)) | (refine go_br (fun h => ?_) (fun h => ?_)) | (refine go_gs (by ((try simp only [EE, QQ, seval]) <;> rfl)) (fun h => ?_) (fun h => ?_)) | (with_reducible apply And.intro) | (with_reducible exact trivial) | omega | (simp only [List.length_map, List.length_cons, List.length_nil] at *; omega) | (show _ = true; first | rfl | kernel_rfl))
      all_goals ((first | apply ret_mk [] | apply end_mk []); (· ((try simp only [CC, LL, EE, QQ, seval]) <;> rfl)); (· ((try simp only [CC, LL, EE, QQ, seval]) <;> repeat' (first | (with_reducible apply And.intro) | rfl | trivial | (exact ⟨_, rfl⟩) | (exact ⟨_, _, _, rfl⟩) | (simp [*, ]; done) | (simp [*, ]; omega) | (simp_all []; done) | (simp_all []; omega)))); all_goals (first | trivial | decide | ((try simp only [CC, LL, EE, QQ, seval]) <;> repeat' (first | (with_reducible apply And.intro) | (exact ⟨_, rfl, rfl, rfl⟩) | (exact ⟨_, _, _, rfl⟩) | (exact ⟨_, rfl⟩) | trivial | rfl | (simp; done)))))
end Go.Proofs.Ytihjmnhjjpdenaa.Sim
