/- Parts of views: plain. -/
import Derived.Test.YtihjmnhjjpdenaaMVwH
import Derived.Test.YtihjmnhjjpdenaaMVwJ
import Derived.Test.YtihjmnhjjpdenaaMVwP
section
namespace Go.Proofs.Ytihjmnhjjpdenaa.Sim
open Go
set_option maxRecDepth 100000
set_option maxHeartbeats 4000000
set_option linter.unusedVariables false
set_option linter.unusedSimpArgs false
attribute [local irreducible] Go Mean


theorem valid24 (rows : List Int) (n : Nat) (hr1 : 1 ≤ rows.length) (hr2 : rows.length ≤ 3) (hr : ∀ x ∈ rows, -1 ≤ x ∧ x < n) (h1 : 1 ≤ n) (h2 : n ≤ 4) : Does Try.prog 45 [.d (dInts rows), I n] [] (B true) [] [] := by
  refine go_ref24_Valid rfl BxOK.nil fun cx hm0 => go_in 5000 ?_
  unfold ac_ref24_Valid rs_ref24_Valid
  have q1 : decide ((rows.length : Int) < 1) = false := decide_eq_false (by omega)
  have q2 : decide ((rows.length : Int) > 16) = false := decide_eq_false (by omega)
  have q3 : decide ((n : Int) < 1) = false := decide_eq_false (by omega)
  have q4 : decide ((n : Int) > 1024) = false := decide_eq_false (by omega)
  repeat' (first | simp (maxSteps := 9999999) only [↓GE, PL, PP, EE, QQ, seval, q1, q2, q3, q4, List.length_map] | (simp (disch := omega) only [IntWalk.i64_in]) | (refine go_brD (fun h => ?_) (fun h => ?_)) | (refine go_gsD (by ((try simp only [EE, QQ, seval]) <;> rfl)) (fun h => ?_) (fun h => ?_)) | (refine go_br (fun h => ?_) (fun h => ?_)) | (refine go_gs (by ((try simp only [EE, QQ, seval]) <;> rfl)) (fun h => ?_) (fun h => ?_)) | (with_reducible apply And.intro) | (with_reducible exact trivial) | omega | (simp only [List.length_map, List.length_cons, List.length_nil] at *; omega) | (show _ = true; first | rfl | kernel_rfl))
  refine go_loop 5000 hm0 (ι := {k : Nat // k ≤ rows.length}) (fun i => [(0, .d (dInts rows)), (1, I n), (5, I i.1)]) (fun i => []) (fun i => rows.length - i.1) [] ⟨0, Nat.zero_le _⟩ ?_ ?_
  · (simp only [GeS]; refine ⟨?_, ?_, ?_, ?_⟩; all_goals (repeat' (first | (with_reducible exact True.intro) | (with_reducible rfl) | simp only [CC, LL, EE, QQ, seval, List.contains_nil, Bool.false_eq_true, ↓reduceIte, Option.some.injEq, O.arr.injEq, true_and, and_true] | (with_reducible apply And.intro) | (refine ⟨_, rfl, ?_⟩) | (simp; done) | rfl | omega | trivial)))
  rintro ⟨k, hk⟩
  by_cases hkl : k < rows.length
  · have hs := getD_map eI [] 0 rows k hkl
    have hx := hr _ (mem_getD 0 rows k hkl)
    generalize rows.getD k 0 = x at *
    have q5 : decide (x < -1) = false := decide_eq_false (by omega)
    have q6 : decide (x ≥ (n : Int)) = false := decide_eq_false (by omega)
    repeat' (first | simp (maxSteps := 9999999) only [↓GE, PL, PP, EE, QQ, seval, hs, q5, q6, eI, List.length_map] | (simp (disch := omega) only [IntWalk.i64_in]) | (refine go_brD (fun h => ?_) (fun h => ?_)) | (refine go_gsD (by ((try simp only [EE, QQ, seval]) <;> rfl)) (fun h => ?_) (fun h => ?_)) | (refine go_br (fun h => ?_) (fun h => ?_)) | (refine go_gs (by ((try simp only [EE, QQ, seval]) <;> rfl)) (fun h => ?_) (fun h => ?_)) | (with_reducible apply And.intro) | (with_reducible exact trivial) | omega | (simp only [List.length_map, List.length_cons, List.length_nil] at *; omega) | (show _ = true; first | rfl | kernel_rfl))
    refine ⟨⟨k + 1, hkl⟩, ?_, by simp only; omega⟩
    (simp only [GeS]; refine ⟨?_, ?_, ?_, ?_⟩; all_goals (repeat' (first | (with_reducible exact True.intro) | (with_reducible rfl) | simp only [CC, LL, EE, QQ, seval, List.contains_nil, Bool.false_eq_true, ↓reduceIte, Option.some.injEq, O.arr.injEq, true_and, and_true] | (with_reducible apply And.intro) | (refine ⟨_, rfl, ?_⟩) | (simp; done) | rfl | omega | trivial)))
  · obtain rfl : k = rows.length := by omega
    repeat' (first | simp (maxSteps := 9999999) only [↓GE, PL, PP, EE, QQ, seval, List.length_map] | (simp (disch := omega) only [IntWalk.i64_in]) | (refine go_brD (fun h => ?_) (fun h => ?_)) | (refine go_gsD (by ((try simp only [EE, QQ, seval]) <;> rfl)) (fun h => ?_) (fun h => ?_)) | (refine go_br (fun h => ?_) (fun h => ?_)) | (refine go_gs (by ((try simp only [EE, QQ, seval]) <;> rfl)) (fun h => ?_) (fun h => ?_)) | (with_reducible apply And.intro) | (with_reducible exact trivial) | omega | (simp only [List.length_map, List.length_cons, List.length_nil] at *; omega) | (show _ = true; first | rfl | kernel_rfl))
    all_goals ((first | apply ret_mk [] | apply end_mk []); (· ((try simp only [CC, LL, EE, QQ, seval]) <;> rfl)); (· ((try simp only [CC, LL, EE, QQ, seval]) <;> repeat' (first | (with_reducible apply And.intro) | rfl | trivial | (exact ⟨_, rfl⟩) | (exact ⟨_, _, _, rfl⟩) | (simp [*, ]; done) | (simp [*, ]; omega) | (simp_all []; done) | (simp_all []; omega)))); all_goals (first | trivial | decide | ((try simp only [CC, LL, EE, QQ, seval]) <;> repeat' (first | (with_reducible apply And.intro) | (exact ⟨_, rfl, rfl, rfl⟩) | (exact ⟨_, _, _, rfl⟩) | (exact ⟨_, rfl⟩) | trivial | rfl | (simp; done)))))
theorem repG_add {p : Int} (m : Nat) : ∀ {n : Nat}, repG p m ++ repG p n = repG p (m + n)
  | 0 => by simp [repG]
  | n + 1 => by rw [repG, ← List.append_assoc, repG_add]; rfl
theorem limits24 {s : PSch} (hs : okS s) {p : Int} (hp : okP p) (rows pr n : Nat) (h1 : 1 ≤ rows) (h2 : rows ≤ 4) (hp1 : 1 ≤ pr) (hp2 : pr ≤ 3) (hn : n ≤ 20)
    (e1 : Does Try.prog 44 [vSch s, .ag [I p], I rows] [] (.tu [.d (dInts (repG p n)), I 0]) [] []) :
    Does Try.prog 24 [vSch s, .ag [I p], I rows, I pr] [] (.tu [.d (dInts (repG p (pr * n))), I 0]) [] [] := by
  refine go_ref24_Limits rfl BxOK.nil fun cx hm0 => go_in 5000 ?_
  unfold ac_ref24_Limits rs_ref24_Limits
  have e0 := valid23 hs hp
  have q1 : decide ((pr : Int) < 1) = false := decide_eq_false (by omega)
  have q2 : decide ((pr : Int) > 16) = false := decide_eq_false (by omega)
  have q3 : decide ((rows : Int) < 1) = false := decide_eq_false (by omega)
  have q4 : decide ((rows : Int) > 1024) = false := decide_eq_false (by omega)
  repeat' (first | simp (maxSteps := 9999999) only [↓GE, PL, PP, EE, QQ, seval, q1, q2, q3, q4] | (simp (disch := omega) only [IntWalk.i64_in]) | (refine go_brD (fun h => ?_) (fun h => ?_)) | (refine go_gsD (by ((try simp only [EE, QQ, seval]) <;> rfl)) (fun h => ?_) (fun h => ?_)) | (refine go_br (fun h => ?_) (fun h => ?_)) | (refine go_gs (by ((try simp only [EE, QQ, seval]) <;> rfl)) (fun h => ?_) (fun h => ?_)) | (apply go_call 5000 (e0) rfl rfl; iterate 4 (first | (exact CallForm.plain rfl) | ((try simp only [CC, LL, NM, EE, QQ, seval]) <;> (first | rfl | ((repeat constructor); done))))) | (with_reducible apply And.intro) | (with_reducible exact trivial) | omega | (simp only [List.length_map, List.length_cons, List.length_nil] at *; omega) | (show _ = true; first | rfl | kernel_rfl))
  refine go_loop 5000 hm0 (ι := {q : Nat × Nat // q.1 ≤ pr}) (fun i => [(2, I rows), (3, I pr), (4, .bp 4 0 0), (5, .bp 5 0 0), (10, .og 49 i.1.2), (11, I i.1.1)]) (fun i => [(4, .box 0 [I s.kind, I s.sv, I s.deg, I s.grp]), (5, .box 0 [I p]), (49, .arr i.1.2 1 true ((repG p (i.1.1 * n)).map eI))]) (fun i => pr - i.1.1) [49] ⟨(0, 0), Nat.zero_le _⟩ ?_ ?_
  · (simp only [GeS]; refine ⟨?_, ?_, ?_, ?_⟩; all_goals (repeat' (first | (with_reducible exact True.intro) | (with_reducible rfl) | simp only [CC, LL, EE, QQ, seval, List.contains_nil, Bool.false_eq_true, ↓reduceIte, Option.some.injEq, O.arr.injEq, true_and, and_true] | (with_reducible apply And.intro) | (refine ⟨_, rfl, ?_⟩) | (simp [repG, Nat.zero_mul]; done) | rfl | omega | trivial)))
  rintro ⟨⟨k, v⟩, hk⟩
  simp only at hk
  by_cases hkl : k < pr
  · have q5 : decide ((k : Int) < (pr : Int)) = true := decide_eq_true (by omega)
    have hkn : (k + 1) * n = k * n + n := by rw [Nat.add_mul, Nat.one_mul]
    have hkm : k * n ≤ 2 * 20 := Nat.mul_le_mul (by omega) hn
    have hN : (repG p ((k + 1) * n)).map eI = (repG p (k * n)).map eI ++ (repG p n).map eI := by rw [hkn, ← repG_add, List.map_append]
    repeat' (first | simp (maxSteps := 9999999) only [↓GE, PL, PP, EE, QQ, seval, q5, repG_len, List.length_map] | (simp (disch := omega) only [IntWalk.i64_in]) | (refine go_brD (fun h => ?_) (fun h => ?_)) | (refine go_gsD (by ((try simp only [EE, QQ, seval]) <;> rfl)) (fun h => ?_) (fun h => ?_)) | (refine go_br (fun h => ?_) (fun h => ?_)) | (refine go_gs (by ((try simp only [EE, QQ, seval]) <;> rfl)) (fun h => ?_) (fun h => ?_)) | (apply go_call 5000 (e1) rfl rfl; iterate 4 (first | (exact CallForm.plain rfl) | ((try simp only [CC, LL, NM, EE, QQ, seval]) <;> (first | rfl | ((repeat constructor); done))))) | (with_reducible apply And.intro) | (with_reducible exact trivial) | omega | (simp only [List.length_map, List.length_cons, List.length_nil] at *; omega) | (show _ = true; first | rfl | kernel_rfl))
    refine ⟨⟨(k + 1, v + 1), hkl⟩, ?_, by simp only; omega⟩
    (simp only [GeS]; refine ⟨?_, ?_, ?_, ?_⟩; all_goals (repeat' (first | (with_reducible exact True.intro) | (with_reducible rfl) | simp only [CC, LL, EE, QQ, seval, List.contains_nil, Bool.false_eq_true, ↓reduceIte, Option.some.injEq, O.arr.injEq, true_and, and_true] | (with_reducible apply And.intro) | (refine ⟨_, rfl, ?_⟩) | (simp [hN]; done) | rfl | omega | trivial)))
  · obtain rfl : k = pr := by omega
    have q5 : decide ((k : Int) < (k : Int)) = false := decide_eq_false (by omega)
    repeat' (first | simp (maxSteps := 9999999) only [↓GE, PL, PP, EE, QQ, seval, q5] | (simp (disch := omega) only [IntWalk.i64_in]) | (refine go_brD (fun h => ?_) (fun h => ?_)) | (refine go_gsD (by ((try simp only [EE, QQ, seval]) <;> rfl)) (fun h => ?_) (fun h => ?_)) | (refine go_br (fun h => ?_) (fun h => ?_)) | (refine go_gs (by ((try simp only [EE, QQ, seval]) <;> rfl)) (fun h => ?_) (fun h => ?_)) | (with_reducible apply And.intro) | (with_reducible exact trivial) | omega | (simp only [List.length_map, List.length_cons, List.length_nil] at *; omega) | (show _ = true; first | rfl | kernel_rfl))
    all_goals ((first | apply ret_mk [] | apply end_mk []); (· ((try simp only [CC, LL, EE, QQ, seval]) <;> rfl)); (· ((try simp only [CC, LL, EE, QQ, seval]) <;> repeat' (first | (with_reducible apply And.intro) | rfl | trivial | (exact ⟨_, rfl⟩) | (exact ⟨_, _, _, rfl⟩) | (simp [*, ]; done) | (simp [*, ]; omega) | (simp_all []; done) | (simp_all []; omega)))); all_goals (first | trivial | decide | ((try simp only [CC, LL, EE, QQ, seval]) <;> repeat' (first | (with_reducible apply And.intro) | (exact ⟨_, rfl, rfl, rfl⟩) | (exact ⟨_, _, _, rfl⟩) | (exact ⟨_, rfl⟩) | trivial | rfl | (simp; done)))))
/-- The first numbers' values. -/
def listQ {α : Type} (Q : Nat → α) : Nat → List α
  | 0 => []
  | n + 1 => listQ Q n ++ [Q n]
theorem listQ_len {α : Type} {Q : Nat → α} : ∀ {n : Nat}, (listQ Q n).length = n
  | 0 => rfl
  | n + 1 => by rw [listQ]; simp [listQ_len]
theorem listQ_mem {α : Type} {Q : Nat → α} : ∀ {n : Nat} {x : α}, x ∈ listQ Q n → ∃ i, i < n ∧ x = Q i
  | 0, x, h => by simp [listQ] at h
  | n + 1, x, h => by
    rw [listQ] at h
    rcases List.mem_append.1 h with h | h
    · obtain ⟨i, h1, h2⟩ := listQ_mem h
      exact ⟨i, by omega, h2⟩
    · exact ⟨n, by omega, List.mem_singleton.1 h⟩
theorem queries24 {s : PSch} (hs : okS s) {p : Int} (hp : okP p) (n m : Nat) (rows : List Int) (h1 : 1 ≤ n) (h2 : n ≤ 4) (hr1 : 1 ≤ rows.length) (hr2 : rows.length ≤ 3) (hr : ∀ x ∈ rows, -1 ≤ x ∧ x < n) (hm : m ≤ 20)
    (h : ∀ (ix : Nat) (t : List Int) (a : Nat), ix < n → t.length ≤ 16384 → a + m ≤ t.length → inF p t →
    ∃ q, okQ p s.sv.toNat q ∧ Does Try.prog 46 [vSch s, .ag [I p], I n, I ix, vTape t a] [] (.tu [.d (dRows q), vTape t ((a + m : Nat) : Int), I 0]) [] [])
    (t : List Int) (ht : t.length = rows.length * m) (hin : inF p t) :
    ∃ qs : List (List (List Int)), qs.length = rows.length ∧ (∀ q ∈ qs, okQ p s.sv.toNat q) ∧ Does Try.prog 25 [vSch s, .ag [I p], I n, .d (dInts rows), vTape t 0] [] (.tu [.d (dQs qs), vTape t ((rows.length * m : Nat) : Int), I 0]) [] [] := by
  have hml : rows.length * m ≤ 3 * 20 := Nat.mul_le_mul hr2 hm
  have hx : ∀ i, ∃ q, i < rows.length → okQ p s.sv.toNat q ∧ Does Try.prog 46 [vSch s, .ag [I p], I n, I (rows.getD i 0).toNat, vTape t ((i * m : Nat) : Int)] [] (.tu [.d (dRows q), vTape t (((i + 1) * m : Nat) : Int), I 0]) [] [] := fun i => by
    by_cases hi : i < rows.length
    · have hx := hr _ (mem_getD 0 rows i hi)
      have hle : (i + 1) * m ≤ rows.length * m := Nat.mul_le_mul_right _ hi
      have hid : (i + 1) * m = i * m + m := by rw [Nat.add_mul, Nat.one_mul]
      obtain ⟨q, hq, hD⟩ := h (rows.getD i 0).toNat t (i * m) (by omega) (by omega) (by omega) hin
      rw [← hid] at hD
      exact ⟨q, fun _ => ⟨hq, hD⟩⟩
    · exact ⟨[], fun h => absurd h hi⟩
  obtain ⟨Q, hQ⟩ := Classical.axiomOfChoice hx
  refine ⟨listQ Q rows.length, listQ_len, fun q hq => ?_, ?_⟩
  · obtain ⟨i, hi, rfl⟩ := listQ_mem hq
    exact (hQ i hi).1
  refine go_ref24_Queries rfl BxOK.nil fun cx hm0 => go_in 5000 ?_
  unfold ac_ref24_Queries rs_ref24_Queries
  have e0 := valid23 hs hp
  have e1 := valid24 rows n hr1 hr2 hr h1 h2
  repeat' (first | simp (maxSteps := 9999999) only [↓GE, PL, PP, EE, QQ, seval] | (simp (disch := omega) only [IntWalk.i64_in]) | (refine go_brD (fun h => ?_) (fun h => ?_)) | (refine go_gsD (by ((try simp only [EE, QQ, seval]) <;> rfl)) (fun h => ?_) (fun h => ?_)) | (refine go_br (fun h => ?_) (fun h => ?_)) | (refine go_gs (by ((try simp only [EE, QQ, seval]) <;> rfl)) (fun h => ?_) (fun h => ?_)) | (apply go_call 5000 (e0) rfl rfl; iterate 4 (first | (exact CallForm.plain rfl) | ((try simp only [CC, LL, NM, EE, QQ, seval]) <;> (first | rfl | ((repeat constructor); done))))) | (apply go_call 5000 (e1) rfl rfl; iterate 4 (first | (exact CallForm.plain rfl) | ((try simp only [CC, LL, NM, EE, QQ, seval]) <;> (first | rfl | ((repeat constructor); done))))) | (with_reducible apply And.intro) | (with_reducible exact trivial) | omega | (simp only [List.length_map, List.length_cons, List.length_nil] at *; omega) | (show _ = true; first | rfl | kernel_rfl))
  refine go_loop 5000 hm0 (ι := {q : Nat × Nat // q.1 ≤ rows.length}) (fun i => [(2, I n), (3, .d (dInts rows)), (5, .bp 5 0 0), (6, .bp 6 0 0), (9, .bp 9 0 0), (11, .bp 11 0 0), (13, .og 55 i.1.2), (14, I i.1.1)]) (fun i => [(5, .box 0 [I s.kind, I s.sv, I s.deg, I s.grp]), (6, .box 0 [I p]), (9, .box 0 [.d (dInts t), I ((i.1.1 * m : Nat) : Int)]), (11, .box 0 [.nl 1, I 0]), (55, .arr i.1.2 1 true ((listQ Q i.1.1).map eQ))]) (fun i => rows.length - i.1.1) [55] ⟨(0, 0), Nat.zero_le _⟩ ?_ ?_
  · (simp only [GeS]; refine ⟨?_, ?_, ?_, ?_⟩; all_goals (repeat' (first | (with_reducible exact True.intro) | (with_reducible rfl) | simp only [CC, LL, EE, QQ, seval, List.contains_nil, Bool.false_eq_true, ↓reduceIte, Option.some.injEq, O.arr.injEq, true_and, and_true] | (with_reducible apply And.intro) | (refine ⟨_, rfl, ?_⟩) | (simp [listQ, Nat.zero_mul]; done) | rfl | omega | trivial)))
  rintro ⟨⟨k, v⟩, hk⟩
  simp only at hk
  have hll := listQ_len (Q := Q) (n := k)
  by_cases hkl : k < rows.length
  · have hs1 := getD_map eI [] 0 rows k hkl
    have hx := hr _ (mem_getD 0 rows k hkl)
    obtain ⟨hq, e2⟩ := hQ k hkl
    generalize rows.getD k 0 = x at *
    have hmx : max x 0 = ((x.toNat : Nat) : Int) := by omega
    have hN : (listQ Q (k + 1)).map eQ = (listQ Q k).map eQ ++ [eQ (Q k)] := by rw [listQ, List.map_append]; rfl
    repeat' (first | simp (maxSteps := 9999999) only [↓GE, PL, PP, EE, QQ, seval, hs1, hmx, hll, eI, List.length_map] | (simp (disch := omega) only [IntWalk.i64_in]) | (refine go_brD (fun h => ?_) (fun h => ?_)) | (refine go_gsD (by ((try simp only [EE, QQ, seval]) <;> rfl)) (fun h => ?_) (fun h => ?_)) | (refine go_br (fun h => ?_) (fun h => ?_)) | (refine go_gs (by ((try simp only [EE, QQ, seval]) <;> rfl)) (fun h => ?_) (fun h => ?_)) | (apply go_call 5000 (e2) rfl rfl; iterate 4 (first | (exact CallForm.plain rfl) | ((try simp only [CC, LL, NM, EE, QQ, seval]) <;> (first | rfl | ((repeat constructor); done))))) | (with_reducible apply And.intro) | (with_reducible exact trivial) | omega | (simp only [List.length_map, List.length_cons, List.length_nil] at *; omega) | (show _ = true; first | rfl | kernel_rfl))
    refine ⟨⟨(k + 1, v + 1), hkl⟩, ?_, by simp only; omega⟩
    (simp only [GeS]; refine ⟨?_, ?_, ?_, ?_⟩; all_goals (repeat' (first | (with_reducible exact True.intro) | (with_reducible rfl) | simp only [CC, LL, EE, QQ, seval, List.contains_nil, Bool.false_eq_true, ↓reduceIte, Option.some.injEq, O.arr.injEq, true_and, and_true] | (with_reducible apply And.intro) | (refine ⟨_, rfl, ?_⟩) | (simp [hN, eQ]; done) | rfl | omega | trivial)))
  · obtain rfl : k = rows.length := by omega
    repeat' (first | simp (maxSteps := 9999999) only [↓GE, PL, PP, EE, QQ, seval, List.length_map] | (simp (disch := omega) only [IntWalk.i64_in]) | (refine go_brD (fun h => ?_) (fun h => ?_)) | (refine go_gsD (by ((try simp only [EE, QQ, seval]) <;> rfl)) (fun h => ?_) (fun h => ?_)) | (refine go_br (fun h => ?_) (fun h => ?_)) | (refine go_gs (by ((try simp only [EE, QQ, seval]) <;> rfl)) (fun h => ?_) (fun h => ?_)) | (with_reducible apply And.intro) | (with_reducible exact trivial) | omega | (simp only [List.length_map, List.length_cons, List.length_nil] at *; omega) | (show _ = true; first | rfl | kernel_rfl))
    all_goals ((first | apply ret_mk [] | apply end_mk []); (· ((try simp only [CC, LL, EE, QQ, seval]) <;> rfl)); (· ((try simp only [CC, LL, EE, QQ, seval]) <;> repeat' (first | (with_reducible apply And.intro) | rfl | trivial | (exact ⟨_, rfl⟩) | (exact ⟨_, _, _, rfl⟩) | (simp [*, ]; done) | (simp [*, ]; omega) | (simp_all []; done) | (simp_all []; omega)))); all_goals (first | trivial | decide | ((try simp only [CC, LL, EE, QQ, seval]) <;> repeat' (first | (with_reducible apply And.intro) | (exact ⟨_, rfl, rfl, rfl⟩) | (exact ⟨_, _, _, rfl⟩) | (exact ⟨_, rfl⟩) | trivial | rfl | (simp; done)))))
theorem queries25 (l : List UInt8) (hl : l.length ≤ 140737488355328) (k : Nat) : ∃ qs k' sv p, 1 ≤ qs.length ∧ qs.length ≤ 3 ∧ 3 ≤ sv ∧ sv ≤ 6 ∧ okP p ∧ (∀ q ∈ qs, okQ p sv q) ∧ Does Try.prog 8 [dcp] (dc l k) (.d (dQs qs)) (dc l k') [] := by
  obtain ⟨s, k1, hs, e1⟩ := dscheme l hl k
  obtain ⟨p, k2, hp, e2⟩ := dfield l hl k1
  have e3 := pick l hl k2 4 (by omega)
  have a3 := pickV_in l k2 4 (by omega)
  generalize pickK l k2 = k3 at *
  obtain ⟨n, hn⟩ : ∃ n : Nat, 1 + pickV l k2 4 = (n : Int) := ⟨(1 + pickV l k2 4).toNat, by omega⟩
  generalize pickV l k2 4 = v at *
  obtain ⟨rows, k4, hr1, hr2, hr, e4⟩ := dwish l hl k3 n (by omega) (by omega)
  obtain ⟨m, hm, eL, hQ⟩ := queries23 hs hp n (by omega) (by omega)
  have e5 := limits24 hs hp n rows.length m (by omega) (by omega) hr1 hr2 hm eL
  have hml : rows.length * m ≤ 3 * 20 := Nat.mul_le_mul hr2 hm
  have hpl := hp.le
  obtain ⟨t, k5, ht, hin, e6⟩ := dtape l hl k4 (repG p (rows.length * m)) p (by omega) (by omega) repG_mem (by rw [repG_len]; omega)
  rw [repG_len] at ht
  obtain ⟨qs, h1, h2, e7⟩ := queries24 hs hp n m rows (by omega) (by omega) hr1 hr2 hr hm hQ t ht hin
  refine ⟨qs, k5, s.sv.toNat, p, by omega, by omega, by have := hs.1; omega, by have := hs.2.1; omega, hp, h2, ?_⟩
  refine go_law25_queries rfl BxOK.one fun cx hm0 => go_in 5000 ?_
  unfold ac_law25_queries rs_law25_queries
  have w0 : IntKind.i64.wrap (1 + v) = n := by rw [hn]; exact IntWalk.i64_in _ (by omega)
  repeat' (first | simp (maxSteps := 9999999) only [↓GE, PL, PP, EE, QQ, seval, w0, List.length_map] | (simp (disch := omega) only [IntWalk.i64_in]) | (refine go_brD (fun h => ?_) (fun h => ?_)) | (refine go_gsD (by ((try simp only [EE, QQ, seval]) <;> rfl)) (fun h => ?_) (fun h => ?_)) | (refine go_br (fun h => ?_) (fun h => ?_)) | (refine go_gs (by ((try simp only [EE, QQ, seval]) <;> rfl)) (fun h => ?_) (fun h => ?_)) | (apply go_call 5000 (e1) rfl rfl; iterate 4 (first | (exact CallForm.lent (by (try simp only [CC, LL, NM, EE, QQ, seval]); repeat' (first | trivial | (with_reducible rfl) | omega | (with_reducible apply And.intro) | rfl)) rfl rfl) | ((try simp only [CC, LL, NM, EE, QQ, seval]) <;> (first | rfl | ((repeat constructor); done))))) | (apply go_call 5000 (e2) rfl rfl; iterate 4 (first | (exact CallForm.lent (by (try simp only [CC, LL, NM, EE, QQ, seval]); repeat' (first | trivial | (with_reducible rfl) | omega | (with_reducible apply And.intro) | rfl)) rfl rfl) | ((try simp only [CC, LL, NM, EE, QQ, seval]) <;> (first | rfl | ((repeat constructor); done))))) | (apply go_call 5000 (e3) rfl rfl; iterate 4 (first | (exact CallForm.lent (by (try simp only [CC, LL, NM, EE, QQ, seval]); repeat' (first | trivial | (with_reducible rfl) | omega | (with_reducible apply And.intro) | rfl)) rfl rfl) | ((try simp only [CC, LL, NM, EE, QQ, seval]) <;> (first | rfl | ((repeat constructor); done))))) | (apply go_call 5000 (e4) rfl rfl; iterate 4 (first | (exact CallForm.lent (by (try simp only [CC, LL, NM, EE, QQ, seval]); repeat' (first | trivial | (with_reducible rfl) | omega | (with_reducible apply And.intro) | rfl)) rfl rfl) | ((try simp only [CC, LL, NM, EE, QQ, seval]) <;> (first | rfl | ((repeat constructor); done))))) | (apply go_call 5000 (e5) rfl rfl; iterate 4 (first | (exact CallForm.plain rfl) | ((try simp only [CC, LL, NM, EE, QQ, seval]) <;> (first | rfl | ((repeat constructor); done))))) | (apply go_call 5000 (e6) rfl rfl; iterate 4 (first | (exact CallForm.lent (by (try simp only [CC, LL, NM, EE, QQ, seval]); repeat' (first | trivial | (with_reducible rfl) | omega | (with_reducible apply And.intro) | rfl)) rfl rfl) | ((try simp only [CC, LL, NM, EE, QQ, seval]) <;> (first | rfl | ((repeat constructor); done))))) | (apply go_call 5000 (e7) rfl rfl; iterate 4 (first | (exact CallForm.plain rfl) | ((try simp only [CC, LL, NM, EE, QQ, seval]) <;> (first | rfl | ((repeat constructor); done))))) | (with_reducible apply And.intro) | (with_reducible exact trivial) | omega | (simp only [List.length_map, List.length_cons, List.length_nil] at *; omega) | (show _ = true; first | rfl | kernel_rfl))
  all_goals ((first | apply ret_mk [] | apply end_mk []); (· ((try simp only [CC, LL, EE, QQ, seval]) <;> rfl)); (· ((try simp only [CC, LL, EE, QQ, seval]) <;> repeat' (first | (with_reducible apply And.intro) | rfl | trivial | (exact ⟨_, rfl⟩) | (exact ⟨_, _, _, rfl⟩) | (simp [*, ]; done) | (simp [*, ]; omega) | (simp_all []; done) | (simp_all []; omega)))); all_goals (first | trivial | decide | ((try simp only [CC, LL, EE, QQ, seval]) <;> repeat' (first | (with_reducible apply And.intro) | (exact ⟨_, rfl, rfl, rfl⟩) | (exact ⟨_, _, _, rfl⟩) | (exact ⟨_, rfl⟩) | trivial | rfl | (simp; done)))))
end Go.Proofs.Ytihjmnhjjpdenaa.Sim
end
section
namespace Go.Proofs.Ytihjmnhjjpdenaa.Sim
open Go
set_option linter.unusedVariables false
set_option linter.unusedSimpArgs false
open Go.Proofs.Ytihjmnhjjpdenaa.Vw (flatQ)
theorem okQ.sm {p : Int} {sv : Nat} {qs : List (List (List Int))} (h : ∀ q ∈ qs, okQ p sv q) (h1 : qs.length ≤ 3) (h2 : sv ≤ 6) : smQ qs :=
  ⟨by omega, fun q hq => ⟨by have := (h q hq).1; omega, fun x hx => by have := ((h q hq).2 x hx).1; omega⟩⟩
theorem okQ.inQ {p : Int} (hp : okP p) {sv : Nat} {qs : List (List (List Int))} (h : ∀ q ∈ qs, okQ p sv q) : inQ qs := fun q hq x hx n hn => by
  have h1 := ((h q hq).2 x hx).2 n hn
  have := hp.le
  exact ⟨by omega, by omega⟩
theorem flatten_le {m : Nat} : ∀ {q : List (List Int)}, (∀ x ∈ q, x.length ≤ m) → q.flatten.length ≤ q.length * m
  | [], _ => by simp
  | x :: q, h => by
    have h1 := h x (by simp)
    have h2 := flatten_le (q := q) fun y hy => h y (by simp [hy])
    rw [List.flatten_cons, List.length_append, List.length_cons, Nat.add_mul, Nat.one_mul]
    omega
theorem flatQ_le {m : Nat} : ∀ {qs : List (List (List Int))}, (∀ q ∈ qs, q.flatten.length ≤ m) → (flatQ qs).length ≤ qs.length * m
  | [], _ => by simp [flatQ]
  | x :: q, h => by
    have h1 := h x (by simp)
    have h2 := flatQ_le (qs := q) fun y hy => h y (by simp [hy])
    rw [flatQ, List.flatMap_cons, List.length_append, List.length_cons, Nat.add_mul, Nat.one_mul]
    simp only [flatQ] at h2
    omega
theorem smQ.flat {qs : List (List (List Int))} (h : smQ qs) : (flatQ qs).length ≤ 1000000000 := by
  have h1 : ∀ q ∈ qs, q.flatten.length ≤ 1000 * 1000 := fun q hq => Nat.le_trans (flatten_le (h.2 q hq).2) (Nat.mul_le_mul_right _ (h.2 q hq).1)
  exact Nat.le_trans (flatQ_le h1) (Nat.mul_le_mul_right _ h.1)
/-- The numbers from 1 on. -/
def allG : Nat → List Int
  | 0 => []
  | n + 1 => allG n ++ [((n + 1 : Nat) : Int)]
theorem allG_len : ∀ {n : Nat}, (allG n).length = n
  | 0 => rfl
  | n + 1 => by rw [allG, List.length_append, allG_len]; rfl
theorem allG_mem : ∀ {n : Nat} {x : Int}, x ∈ allG n ↔ 1 ≤ x ∧ x ≤ n
  | 0, x => by simp only [allG, List.not_mem_nil, false_iff]; omega
  | n + 1, x => by
    rw [allG, List.mem_append, allG_mem, List.mem_singleton]
    omega
theorem ascF_snoc : ∀ {l : List Int} {a x : Int}, ascF a l = true → a < x → (∀ y ∈ l, y < x) → ascF a (l ++ [x]) = true
  | [], a, x, _, h, _ => by simp [ascF, h]
  | y :: r, a, x, h, h1, h2 => by
    simp only [ascF, Bool.and_eq_true, decide_eq_true_eq, List.cons_append] at h ⊢
    exact ⟨h.1, ascF_snoc h.2 (h2 y (by simp)) fun z hz => h2 z (by simp [hz])⟩
theorem allG_asc : ∀ {n : Nat}, asc (allG n) = true
  | 0 => rfl
  | n + 1 => ascF_snoc allG_asc (by omega) fun y hy => by have := allG_mem.1 hy; omega
/-- Some of them, as the dice say. -/
def someG (l : List UInt8) (k : Nat) : Nat → List Int × Nat
  | 0 => ([], k)
  | n + 1 => (if pickV l (someG l k n).2 2 = 0 then (someG l k n).1 ++ [((n + 1 : Nat) : Int)] else (someG l k n).1, pickK l (someG l k n).2)
theorem someG_mem {l : List UInt8} {k : Nat} : ∀ {n : Nat} {x : Int}, x ∈ (someG l k n).1 → 1 ≤ x ∧ x ≤ n
  | 0, x, h => by simp [someG] at h
  | n + 1, x, h => by
    simp only [someG] at h
    split at h
    · rcases List.mem_append.1 h with h | h
      · have := someG_mem h; omega
      · have := List.mem_singleton.1 h; omega
    · have := someG_mem h; omega
theorem someG_asc {l : List UInt8} {k : Nat} : ∀ {n : Nat}, asc (someG l k n).1 = true
  | 0 => rfl
  | n + 1 => by
    simp only [someG]
    split
    · exact ascF_snoc someG_asc (by omega) fun y hy => by have := someG_mem hy; omega
    · exact someG_asc
theorem someG_len {l : List UInt8} {k : Nat} : ∀ {n : Nat}, (someG l k n).1.length ≤ n
  | 0 => Nat.le_refl _
  | n + 1 => by
    have := someG_len (l := l) (k := k) (n := n)
    simp only [someG]
    split
    · rw [List.length_append, List.length_singleton]; omega
    · omega
theorem idxN_lt : ∀ {l : List Int} {x : Int}, idxN l x < l.length ↔ x ∈ l
  | [], x => by simp [idxN]
  | y :: r, x => by
    simp only [idxN, List.length_cons, List.mem_cons]
    by_cases h : y = x
    · rw [if_pos h]; simp [h]
    · have := idxN_lt (l := r) (x := x)
      rw [if_neg h]
      constructor
      · intro h1; exact .inr (this.1 (by omega))
      · rintro (h1 | h1)
        · exact absurd h1.symm h
        · have := this.2 h1; omega
theorem allIn_iff {sv l : List Int} : allIn sv l = true ↔ ∀ x ∈ l, x ∈ sv := by
  simp only [allIn, List.all_eq_true, decide_eq_true_eq, idxN_lt]
theorem some_all {l : List UInt8} {k : Nat} : ∀ {n : Nat}, (∀ x ∈ allG n, x ∈ (someG l k n).1) ↔ (someG l k n).1.length = n
  | 0 => by simp [allG, someG]
  | n + 1 => by
    have ih := some_all (l := l) (k := k) (n := n)
    have hl := someG_len (l := l) (k := k) (n := n)
    simp only [someG, allG, List.mem_append, List.mem_singleton]
    split
    · simp only [List.mem_append, List.mem_singleton, List.length_append, List.length_singleton]
      constructor
      · intro h
        have : (someG l k n).1.length = n := ih.1 fun x hx => by
          rcases h x (.inl hx) with h1 | h1
          · exact h1
          · have := allG_mem.1 hx; omega
        omega
      · rintro h x (hx | hx)
        · exact .inl (ih.2 (by omega) x hx)
        · exact .inr hx
    · constructor
      · intro h
        have := someG_mem (h _ (.inr rfl))
        omega
      · intro h; omega
theorem okPick_in {qs : List (List (List Int))} {l : List Int} {n : Nat} (hq : ∀ q ∈ qs, q.length = n) (hl : ∀ x ∈ l, x ≤ n) : okPick qs (less1 l) = true := by
  simp only [okPick, okPr, less1, List.all_eq_true, List.all_map, decide_eq_true_eq, Function.comp]
  intro q h x hx
  have := hq q h
  have := hl x hx
  omega
theorem pk_all {q : List (List Int)} : pk (less1 (allG q.length)) q = q := by
  have key : ∀ n, n ≤ q.length → pk (less1 (allG n)) q = q.take n := by
    intro n
    induction n with
    | zero => intro _; simp [allG, less1, pk]
    | succ n ih =>
      intro hn
      rw [take_succ_getD [] q n hn, ← ih (by omega)]
      simp only [allG, less1, pk, List.map_append, List.map_cons, List.map_nil, pk1]
      rw [show ((((n + 1 : Nat) : Int)) - 1).toNat = n by omega]
  rw [key _ (Nat.le_refl _), List.take_length]
theorem ofQ_all {qs : List (List (List Int))} {n : Nat} (hq : ∀ q ∈ qs, q.length = n) : ofQ qs (allG n) = qs := by
  rw [ofQ]
  conv => rhs; rw [← List.map_id qs]
  refine List.map_congr_left fun q h => ?_
  rw [← hq q h]
  exact pk_all
theorem idx_all : ∀ {n : Nat} {x : Int}, 1 ≤ x → x ≤ n → (idxN (allG n) x : Int) = x - 1 := by
  have app : ∀ (l : List Int) (y x : Int), idxN (l ++ [y]) x = if x ∈ l then idxN l x else l.length + if y = x then 0 else 1 := by
    intro l y x
    induction l with
    | nil => simp [idxN]
    | cons z r ih =>
      simp only [List.cons_append, idxN, ih, List.mem_cons, List.length_cons]
      by_cases h : z = x
      · simp [h]
      · by_cases h2 : x ∈ r
        · simp [h, h2, Ne.symm h]
        · have : ¬ (x = z ∨ x ∈ r) := by rintro (h3 | h3); exact h h3.symm; exact h2 h3
          rw [if_neg h, if_neg h2, if_neg this]; omega
  intro n
  induction n with
  | zero => intro x h1 h2; omega
  | succ n ih =>
    intro x h1 h2
    rw [allG, app]
    by_cases h : x ≤ n
    · rw [if_pos (allG_mem.2 ⟨h1, h⟩)]; exact ih h1 h
    · rw [if_neg (fun hh => h (allG_mem.1 hh).2), allG_len, if_pos (by omega)]; omega
theorem part_all {qs : List (List (List Int))} {l : List Int} {n : Nat} (hl : ∀ x ∈ l, 1 ≤ x ∧ x ≤ n) : partQ (allG n) qs l = ofQ qs l := by
  rw [partQ, ofQ]
  refine List.map_congr_left fun q h => ?_
  have : idxs (allG n) l = less1 l := List.map_congr_left fun x hx => idx_all (hl x hx).1 (hl x hx).2
  rw [this]
/-- How many numbers the first servers see. -/
def sumG (qs : List (List (List Int))) (j : Nat) : Nat := (flatQ (qs.map fun q => q.take j)).length
theorem sumG_step {j : Nat} : ∀ {qs : List (List (List Int))}, (∀ q ∈ qs, j < q.length) → sumG qs (j + 1) = sumG qs j + (flatQ (ofQ qs [((j + 1 : Nat) : Int)])).length
  | [], _ => rfl
  | q :: qs, h => by
    have ih := sumG_step (j := j) (qs := qs) fun y hy => h y (by simp [hy])
    have e1 := take_succ_getD [] q j (h q (by simp))
    simp only [sumG, flatQ, ofQ, less1, pk, pk1, List.map_cons, List.map_nil, List.flatMap_cons, List.length_append, List.flatten_cons, List.flatten_nil, List.append_nil] at ih ⊢
    rw [ih, e1, List.flatten_append, List.flatten_cons, List.flatten_nil, List.append_nil, List.length_append, show ((((j + 1 : Nat) : Int)) - 1).toNat = j by omega]
    omega
theorem sumG_all {qs : List (List (List Int))} {n : Nat} (hq : ∀ q ∈ qs, q.length = n) : sumG qs n = (flatQ qs).length := by
  rw [sumG]
  have : (qs.map fun q => q.take n) = qs := by
    conv => rhs; rw [← List.map_id qs]
    exact List.map_congr_left fun q h => by rw [← hq q h, List.take_length]; rfl
  rw [this]
theorem smQ.of {qs : List (List (List Int))} (h : smQ qs) {l : List Int} (hl : l.length ≤ 1000) : smQ (ofQ qs l) := by
  refine ⟨by rw [ofQ, List.length_map]; exact h.1, fun q hq => ?_⟩
  obtain ⟨r, hr, rfl⟩ := List.mem_map.1 hq
  refine ⟨by rw [pk, List.length_map, less1, List.length_map]; exact hl, fun x hx => ?_⟩
  obtain ⟨i, _, rfl⟩ := List.mem_map.1 hx
  rw [pk1]
  by_cases h1 : i.toNat < r.length
  · exact (h.2 r hr).2 _ (mem_getD [] r _ h1)
  · rw [List.getD_eq_getElem?_getD, List.getElem?_eq_none (by omega)]; simp
theorem inQ.of {qs : List (List (List Int))} (h : inQ qs) {l : List Int} : inQ (ofQ qs l) := by
  intro q hq x hx n hn
  obtain ⟨r, hr, rfl⟩ := List.mem_map.1 hq
  obtain ⟨i, _, rfl⟩ := List.mem_map.1 hx
  rw [pk1] at hn
  by_cases h1 : i.toNat < r.length
  · exact h r hr _ (mem_getD [] r _ h1) n hn
  · rw [List.getD_eq_getElem?_getD, List.getElem?_eq_none (by omega)] at hn; simp at hn
end Go.Proofs.Ytihjmnhjjpdenaa.Sim
end
