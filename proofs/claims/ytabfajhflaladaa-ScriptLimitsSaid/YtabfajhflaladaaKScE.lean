/- Steps and scripts are read back. -/
import Derived.Test.YtabfajhflaladaaKScD
import Derived.Test.YtabfajhflaladaaKScB
namespace Go.Proofs.Ytabfajhflaladaa.Sim
open Go Go.RowKit
set_option maxRecDepth 100000
set_option maxHeartbeats 8000000
set_option linter.unusedVariables false
set_option linter.unusedSimpArgs false
attribute [local irreducible] Go Mean
open Go.Proofs.Ytabfajhflaladaa.Wire (putB putL putB_len getI getL getI_put getL_put)
theorem intAt {s P R Q : List UInt8} {n : Int} (h : s = P ++ (putB n ++ R)) (hQ : Q = P ++ putB n) (hn : I64 n) (hs : s.length ≤ 1000000000000) : Does Try.prog 29 [vS s, I (P.length : Int)] [] (.tu [I n, I (Q.length : Int), I 0]) [] [] := by
  have e := wIntD s (P.length : Int) hs
  have g := getI_put hn.1 hn.2 P R
  rw [← h] at g
  rw [g] at e
  rw [hQ, List.length_append]
  exact e
theorem listAt {s P R Q : List UInt8} {l : List Int} {most : Int} (h : s = P ++ (putL l ++ R)) (hQ : Q = P ++ putL l) (hn : ∀ n ∈ l, I64 n) (hl : l.length ≤ 2000) (hm : (l.length : Int) ≤ most) (hs : s.length ≤ 1000000000000) : Does Try.prog 32 [vS s, I (P.length : Int), I most] [] (.tu [.d (dInts l), I (Q.length : Int), I 0]) [] [] := by
  have g := getL_put (l := l) (most := most) hn (by omega) hm P R
  rw [← h] at g
  have e := wListD s (P.length : Int) most hs (by rw [g]; exact hn)
  rw [g] at e
  rw [hQ, List.length_append]
  exact e
theorem wideN_no : ∀ {l : List PSe}, ¬wideN l < l.length → ∀ s ∈ l, s.row.length ≤ 64
  | [], _, s, hs => by cases hs
  | y :: r, h, s, hs => by
    simp only [wideN, List.length_cons] at h
    by_cases hy : 64 < y.row.length
    · rw [if_pos hy] at h; omega
    · rw [if_neg hy] at h
      rcases List.mem_cons.1 hs with rfl | hs
      · omega
      · exact wideN_no (by omega) s hs
theorem chk_iff {x : PSt} (h : chk x = true) : x.rows.length ≤ 16 ∧ x.sets.length ≤ 1024 ∧ ∀ s ∈ x.sets, s.row.length ≤ 64 := by
  simp only [chk, Bool.and_eq_true, decide_eq_true_eq, Bool.not_eq_true', decide_eq_false_iff_not] at h
  exact ⟨h.1, h.2.1, wideN_no h.2.2⟩
theorem stepD (s pre r : List UInt8) (x : PSt) (h : okSt x) (hc : chk x = true) (hs : s = pre ++ (encSt x ++ r)) (hl : s.length ≤ 1000000000000) :
    Does Try.prog 14 [rdp] (rd s (pre.length : Int)) (vSt x) (rd s ((pre ++ encSt x).length : Int)) [] := by
  obtain ⟨c1, c2, c3⟩ := chk_iff hc
  obtain ⟨P1, hP1⟩ : ∃ P1, P1 = pre ++ putB x.kind := ⟨_, rfl⟩
  obtain ⟨P2, hP2⟩ : ∃ P2, P2 = P1 ++ putB x.num := ⟨_, rfl⟩
  obtain ⟨P3, hP3⟩ : ∃ P3, P3 = P2 ++ putL x.rows := ⟨_, rfl⟩
  obtain ⟨P4, hP4⟩ : ∃ P4, P4 = P3 ++ putB x.fr := ⟨_, rfl⟩
  obtain ⟨P5, hP5⟩ : ∃ P5, P5 = P4 ++ putB x.tt := ⟨_, rfl⟩
  obtain ⟨P6, hP6⟩ : ∃ P6, P6 = P5 ++ putB x.cnt := ⟨_, rfl⟩
  obtain ⟨P7, hP7⟩ : ∃ P7, P7 = P6 ++ putB (x.sets.length : Int) := ⟨_, rfl⟩
  have hfin : pre ++ encSt x = P7 ++ x.sets.flatMap encSe := by
    rw [hP7, hP6, hP5, hP4, hP3, hP2, hP1, encSt]; simp only [List.append_assoc]
  have s7 : s = P7 ++ (x.sets.flatMap encSe ++ r) := by rw [hs, ← List.append_assoc, hfin, List.append_assoc]
  have s6 : s = P6 ++ (putB (x.sets.length : Int) ++ (x.sets.flatMap encSe ++ r)) := by rw [s7, hP7, List.append_assoc]
  have s5 : s = P5 ++ (putB x.cnt ++ (putB (x.sets.length : Int) ++ (x.sets.flatMap encSe ++ r))) := by rw [s6, hP6, List.append_assoc]
  have s4 : s = P4 ++ (putB x.tt ++ (putB x.cnt ++ (putB (x.sets.length : Int) ++ (x.sets.flatMap encSe ++ r)))) := by rw [s5, hP5, List.append_assoc]
  have s3 : s = P3 ++ (putB x.fr ++ (putB x.tt ++ (putB x.cnt ++ (putB (x.sets.length : Int) ++ (x.sets.flatMap encSe ++ r))))) := by rw [s4, hP4, List.append_assoc]
  have s2 : s = P2 ++ (putL x.rows ++ (putB x.fr ++ (putB x.tt ++ (putB x.cnt ++ (putB (x.sets.length : Int) ++ (x.sets.flatMap encSe ++ r)))))) := by rw [s3, hP3, List.append_assoc]
  have s1 : s = P1 ++ (putB x.num ++ (putL x.rows ++ (putB x.fr ++ (putB x.tt ++ (putB x.cnt ++ (putB (x.sets.length : Int) ++ (x.sets.flatMap encSe ++ r))))))) := by rw [s2, hP2, List.append_assoc]
  have s0 : s = pre ++ (putB x.kind ++ (putB x.num ++ (putL x.rows ++ (putB x.fr ++ (putB x.tt ++ (putB x.cnt ++ (putB (x.sets.length : Int) ++ (x.sets.flatMap encSe ++ r)))))))) := by rw [s1, hP1, List.append_assoc]
  have e0 := readI _ _ _ _ (intAt s0 hP1 h.kind hl)
  have e1 := readI _ _ _ _ (intAt s1 hP2 h.num hl)
  have e2 := readL _ _ 16 _ _ (listAt s2 hP3 h.row h.len (by omega) hl)
  have e3 := readI _ _ _ _ (intAt s3 hP4 h.fr hl)
  have e4 := readI _ _ _ _ (intAt s4 hP5 h.tt hl)
  have e5 := readI _ _ _ _ (intAt s5 hP6 h.cnt hl)
  have e6 := readC _ _ _ _ 1024 (by omega) (by omega) (intAt s6 hP7 ⟨by omega, by omega⟩ hl)
  refine go_script_reader_step rfl BxOK.one fun cx hm0 => go_in 5000 ?_
  unfold ac_script_reader_step rs_script_reader_step
  repeat' (first | simp (maxSteps := 9999999) only [↓GE, PL, PP, EE, QQ, seval] | (simp (disch := omega) only [IntWalk.i64_in]) | (refine go_brD (fun h => ?_) (fun h => ?_)) | (refine go_gsD (by ((try simp only [EE, QQ, seval]) <;> rfl)) (fun h => ?_) (fun h => ?_)) | (refine go_br (fun h => ?_) (fun h => ?_)) | (refine go_gs (by ((try simp only [EE, QQ, seval]) <;> rfl)) (fun h => ?_) (fun h => ?_)) | (apply go_call 5000 (e0) rfl rfl; iterate 4 (first | (exact CallForm.lent (by (try simp only [CC, LL, NM, EE, QQ, seval]); repeat' (first | trivial | (with_reducible rfl) | omega | (with_reducible apply And.intro) | rfl)) rfl rfl) | ((try simp only [CC, LL, NM, EE, QQ, seval]) <;> (first | rfl | ((repeat constructor); done))))) | (apply go_call 5000 (e1) rfl rfl; iterate 4 (first | (exact CallForm.lent (by (try simp only [CC, LL, NM, EE, QQ, seval]); repeat' (first | trivial | (with_reducible rfl) | omega | (with_reducible apply And.intro) | rfl)) rfl rfl) | ((try simp only [CC, LL, NM, EE, QQ, seval]) <;> (first | rfl | ((repeat constructor); done))))) | (apply go_call 5000 (e2) rfl rfl; iterate 4 (first | (exact CallForm.lent (by (try simp only [CC, LL, NM, EE, QQ, seval]); repeat' (first | trivial | (with_reducible rfl) | omega | (with_reducible apply And.intro) | rfl)) rfl rfl) | ((try simp only [CC, LL, NM, EE, QQ, seval]) <;> (first | rfl | ((repeat constructor); done))))) | (with_reducible apply And.intro) | (with_reducible exact trivial) | omega | (simp only [List.length_map, List.length_cons, List.length_nil] at *; omega) | (show _ = true; first | rfl | kernel_rfl))
  refine go_loop 5000 hm0 (ι := {i : Nat // i ≤ 3}) (fun i => [(0, rdp), (2, .bp 2 0 0), (3, .bp 3 0 0), (4, .bp 3 0 3), (27, .ag [.bp 3 0 3, .bp 3 0 4, .bp 3 0 5]), (28, I i.1)]) (fun i => [(2, .box 0 [I 0, I 0, .nl 1, I 0, I 0, I 0, .nl 2]), (3, .box 0 [I x.kind, I x.num, .d (dInts x.rows), I (if 0 < i.1 then x.fr else 0), I (if 1 < i.1 then x.tt else 0), I (if 2 < i.1 then x.cnt else 0), .nl 2]), (900000, .box 0 [vS s, I ((sel5 P3 P4 P5 P6 P6 i.1).length : Int), I 0])]) (fun i => 3 - i.1) [] ⟨0, Nat.zero_le _⟩ ?_ ?_
  · (simp only [GeS]; refine ⟨?_, ?_, ?_, ?_⟩; all_goals (repeat' (first | (with_reducible exact True.intro) | (with_reducible rfl) | simp only [CC, LL, EE, QQ, seval, List.contains_nil, Bool.false_eq_true, ↓reduceIte, Option.some.injEq, O.arr.injEq, true_and, and_true] | (with_reducible apply And.intro) | (refine ⟨_, rfl, ?_⟩) | (simp [sel5]; done) | rfl | omega | trivial)))
  rintro ⟨i, hi⟩
  have hcs : i = 0 ∨ i = 1 ∨ i = 2 ∨ i = 3 := by omega
  rcases hcs with rfl | rfl | rfl | rfl
  · repeat' (first | simp (maxSteps := 9999999) only [↓GE, PL, PP, EE, QQ, seval, sel5] | (simp (disch := omega) only [IntWalk.i64_in]) | (refine go_brD (fun h => ?_) (fun h => ?_)) | (refine go_gsD (by ((try simp only [EE, QQ, seval]) <;> rfl)) (fun h => ?_) (fun h => ?_)) | (refine go_br (fun h => ?_) (fun h => ?_)) | (refine go_gs (by ((try simp only [EE, QQ, seval]) <;> rfl)) (fun h => ?_) (fun h => ?_)) | (apply go_call 5000 (e3) rfl rfl; iterate 4 (first | (exact CallForm.lent (by (try simp only [CC, LL, NM, EE, QQ, seval]); repeat' (first | trivial | (with_reducible rfl) | omega | (with_reducible apply And.intro) | rfl)) rfl rfl) | ((try simp only [CC, LL, NM, EE, QQ, seval]) <;> (first | rfl | ((repeat constructor); done))))) | (with_reducible apply And.intro) | (with_reducible exact trivial) | omega | (simp only [List.length_map, List.length_cons, List.length_nil] at *; omega) | (show _ = true; first | rfl | kernel_rfl))
    refine ⟨⟨1, by omega⟩, ?_, by simp only; omega⟩
    (simp only [GeS]; refine ⟨?_, ?_, ?_, ?_⟩; all_goals (repeat' (first | (with_reducible exact True.intro) | (with_reducible rfl) | simp only [CC, LL, EE, QQ, seval, List.contains_nil, Bool.false_eq_true, ↓reduceIte, Option.some.injEq, O.arr.injEq, true_and, and_true] | (with_reducible apply And.intro) | (refine ⟨_, rfl, ?_⟩) | (simp [sel5]; done) | rfl | omega | trivial)))
  · repeat' (first | simp (maxSteps := 9999999) only [↓GE, PL, PP, EE, QQ, seval, sel5] | (simp (disch := omega) only [IntWalk.i64_in]) | (refine go_brD (fun h => ?_) (fun h => ?_)) | (refine go_gsD (by ((try simp only [EE, QQ, seval]) <;> rfl)) (fun h => ?_) (fun h => ?_)) | (refine go_br (fun h => ?_) (fun h => ?_)) | (refine go_gs (by ((try simp only [EE, QQ, seval]) <;> rfl)) (fun h => ?_) (fun h => ?_)) | (apply go_call 5000 (e4) rfl rfl; iterate 4 (first | (exact CallForm.lent (by (try simp only [CC, LL, NM, EE, QQ, seval]); repeat' (first | trivial | (with_reducible rfl) | omega | (with_reducible apply And.intro) | rfl)) rfl rfl) | ((try simp only [CC, LL, NM, EE, QQ, seval]) <;> (first | rfl | ((repeat constructor); done))))) | (with_reducible apply And.intro) | (with_reducible exact trivial) | omega | (simp only [List.length_map, List.length_cons, List.length_nil] at *; omega) | (show _ = true; first | rfl | kernel_rfl))
    refine ⟨⟨2, by omega⟩, ?_, by simp only; omega⟩
    (simp only [GeS]; refine ⟨?_, ?_, ?_, ?_⟩; all_goals (repeat' (first | (with_reducible exact True.intro) | (with_reducible rfl) | simp only [CC, LL, EE, QQ, seval, List.contains_nil, Bool.false_eq_true, ↓reduceIte, Option.some.injEq, O.arr.injEq, true_and, and_true] | (with_reducible apply And.intro) | (refine ⟨_, rfl, ?_⟩) | (simp [sel5]; done) | rfl | omega | trivial)))
  · repeat' (first | simp (maxSteps := 9999999) only [↓GE, PL, PP, EE, QQ, seval, sel5] | (simp (disch := omega) only [IntWalk.i64_in]) | (refine go_brD (fun h => ?_) (fun h => ?_)) | (refine go_gsD (by ((try simp only [EE, QQ, seval]) <;> rfl)) (fun h => ?_) (fun h => ?_)) | (refine go_br (fun h => ?_) (fun h => ?_)) | (refine go_gs (by ((try simp only [EE, QQ, seval]) <;> rfl)) (fun h => ?_) (fun h => ?_)) | (apply go_call 5000 (e5) rfl rfl; iterate 4 (first | (exact CallForm.lent (by (try simp only [CC, LL, NM, EE, QQ, seval]); repeat' (first | trivial | (with_reducible rfl) | omega | (with_reducible apply And.intro) | rfl)) rfl rfl) | ((try simp only [CC, LL, NM, EE, QQ, seval]) <;> (first | rfl | ((repeat constructor); done))))) | (with_reducible apply And.intro) | (with_reducible exact trivial) | omega | (simp only [List.length_map, List.length_cons, List.length_nil] at *; omega) | (show _ = true; first | rfl | kernel_rfl))
    refine ⟨⟨3, by omega⟩, ?_, by simp only; omega⟩
    (simp only [GeS]; refine ⟨?_, ?_, ?_, ?_⟩; all_goals (repeat' (first | (with_reducible exact True.intro) | (with_reducible rfl) | simp only [CC, LL, EE, QQ, seval, List.contains_nil, Bool.false_eq_true, ↓reduceIte, Option.some.injEq, O.arr.injEq, true_and, and_true] | (with_reducible apply And.intro) | (refine ⟨_, rfl, ?_⟩) | (simp [sel5]; done) | rfl | omega | trivial)))
  repeat' (first | simp (maxSteps := 9999999) only [↓GE, PL, PP, EE, QQ, seval, sel5] | (simp (disch := omega) only [IntWalk.i64_in]) | (refine go_brD (fun h => ?_) (fun h => ?_)) | (refine go_gsD (by ((try simp only [EE, QQ, seval]) <;> rfl)) (fun h => ?_) (fun h => ?_)) | (refine go_br (fun h => ?_) (fun h => ?_)) | (refine go_gs (by ((try simp only [EE, QQ, seval]) <;> rfl)) (fun h => ?_) (fun h => ?_)) | (apply go_call 5000 (e6) rfl rfl; iterate 4 (first | (exact CallForm.lent (by (try simp only [CC, LL, NM, EE, QQ, seval]); repeat' (first | trivial | (with_reducible rfl) | omega | (with_reducible apply And.intro) | rfl)) rfl rfl) | ((try simp only [CC, LL, NM, EE, QQ, seval]) <;> (first | rfl | ((repeat constructor); done))))) | (with_reducible apply And.intro) | (with_reducible exact trivial) | omega | (simp only [List.length_map, List.length_cons, List.length_nil] at *; omega) | (show _ = true; first | rfl | kernel_rfl))
  refine go_loop 5000 hm0 (ι := {q : Nat × Nat // q.1 ≤ x.sets.length}) (fun i => [(0, rdp), (2, .bp 2 0 0), (3, .bp 3 0 0), (4, .bp 3 0 3), (7, I ((x.sets.length - i.1.1 : Nat) : Int))]) (fun i => [(2, .box 0 [I 0, I 0, .nl 1, I 0, I 0, I 0, .nl 2]), (3, .box 0 [I x.kind, I x.num, .d (dInts x.rows), I x.fr, I x.tt, I x.cnt, .og 61 i.1.2]), (61, .arr i.1.2 2 true ((x.sets.take i.1.1).map eSe)), (900000, .box 0 [vS s, I ((P7 ++ (x.sets.take i.1.1).flatMap encSe).length : Int), I 0])]) (fun i => x.sets.length - i.1.1) [61] ⟨(0, 0), Nat.zero_le _⟩ ?_ ?_
  · (simp only [GeS]; refine ⟨?_, ?_, ?_, ?_⟩; all_goals (repeat' (first | (with_reducible exact True.intro) | (with_reducible rfl) | simp only [CC, LL, EE, QQ, seval, List.contains_nil, Bool.false_eq_true, ↓reduceIte, Option.some.injEq, O.arr.injEq, true_and, and_true] | (with_reducible apply And.intro) | (refine ⟨_, rfl, ?_⟩) | (simp [sel5]; done) | rfl | omega | trivial)))
  rintro ⟨⟨k, v⟩, hk⟩
  simp only at hk
  by_cases hkl : k < x.sets.length
  · have hse := h.set _ (mem_getD noSe x.sets k hkl)
    have hsw := c3 _ (mem_getD noSe x.sets k hkl)
    have htk := take_succ_getD noSe x.sets k hkl
    have hlk : (x.sets.take k).length = k := by rw [List.length_take]; omega
    have hdr := drop_get noSe x.sets k hkl
    have hN1 : (x.sets.take (k + 1)).map eSe = (x.sets.take k).map eSe ++ [eSe (x.sets.getD k noSe)] := by rw [htk, List.map_append]; rfl
    obtain ⟨Q1, hQ1⟩ : ∃ Q1, Q1 = P7 ++ (x.sets.take k).flatMap encSe := ⟨_, rfl⟩
    obtain ⟨Q2, hQ2⟩ : ∃ Q2, Q2 = Q1 ++ putB (x.sets.getD k noSe).idx := ⟨_, rfl⟩
    obtain ⟨Q3, hQ3⟩ : ∃ Q3, Q3 = Q2 ++ putL (x.sets.getD k noSe).row := ⟨_, rfl⟩
    have hQ4 : P7 ++ (x.sets.take (k + 1)).flatMap encSe = Q3 := by
      rw [hQ3, hQ2, hQ1, htk, List.flatMap_append, List.flatMap_cons, List.flatMap_nil, List.append_nil, encSe]; simp only [List.append_assoc]
    have t0 : s = Q1 ++ (putB (x.sets.getD k noSe).idx ++ (putL (x.sets.getD k noSe).row ++ ((x.sets.drop (k + 1)).flatMap encSe ++ r))) := by
      rw [s7, hQ1]
      conv => lhs; rw [show x.sets = x.sets.take k ++ x.sets.drop k from (List.take_append_drop k x.sets).symm]
      rw [hdr, List.flatMap_append, List.flatMap_cons, encSe]; simp only [List.append_assoc, List.take_append_drop]
    have t1 : s = Q2 ++ (putL (x.sets.getD k noSe).row ++ ((x.sets.drop (k + 1)).flatMap encSe ++ r)) := by rw [t0, hQ2, List.append_assoc]
    rw [← hQ1]
    generalize x.sets.getD k noSe = y at *
    have g0 := readI _ _ _ _ (intAt t0 hQ2 hse.1 hl)
    have g1 := readL _ _ 64 _ _ (listAt t1 hQ3 hse.2.2 hse.2.1 (by omega) hl)
    have q1 : decide (((x.sets.length - k : Nat) : Int) > 0) = true := decide_eq_true (by omega)
    have w1 : IntKind.i64.wrap (((x.sets.length - k : Nat) : Int) - 1) = ((x.sets.length - (k + 1) : Nat) : Int) := by rw [show ((x.sets.length - k : Nat) : Int) - 1 = ((x.sets.length - (k + 1) : Nat) : Int) by omega]; exact IntWalk.i64_in _ (by omega)
    repeat' (first | simp (maxSteps := 9999999) only [↓GE, PL, PP, EE, QQ, seval, q1, w1, hlk, List.length_map] | (simp (disch := omega) only [IntWalk.i64_in]) | (refine go_brD (fun h => ?_) (fun h => ?_)) | (refine go_gsD (by ((try simp only [EE, QQ, seval]) <;> rfl)) (fun h => ?_) (fun h => ?_)) | (refine go_br (fun h => ?_) (fun h => ?_)) | (refine go_gs (by ((try simp only [EE, QQ, seval]) <;> rfl)) (fun h => ?_) (fun h => ?_)) | (apply go_call 5000 (g0) rfl rfl; iterate 4 (first | (exact CallForm.lent (by (try simp only [CC, LL, NM, EE, QQ, seval]); repeat' (first | trivial | (with_reducible rfl) | omega | (with_reducible apply And.intro) | rfl)) rfl rfl) | ((try simp only [CC, LL, NM, EE, QQ, seval]) <;> (first | rfl | ((repeat constructor); done))))) | (apply go_call 5000 (g1) rfl rfl; iterate 4 (first | (exact CallForm.lent (by (try simp only [CC, LL, NM, EE, QQ, seval]); repeat' (first | trivial | (with_reducible rfl) | omega | (with_reducible apply And.intro) | rfl)) rfl rfl) | ((try simp only [CC, LL, NM, EE, QQ, seval]) <;> (first | rfl | ((repeat constructor); done))))) | (with_reducible apply And.intro) | (with_reducible exact trivial) | omega | (simp only [List.length_map, List.length_cons, List.length_nil] at *; omega) | (show _ = true; first | rfl | kernel_rfl))
    refine ⟨⟨(k + 1, v + 1), hkl⟩, ?_, by simp only; omega⟩
    (simp only [GeS]; refine ⟨?_, ?_, ?_, ?_⟩; all_goals (repeat' (first | (with_reducible exact True.intro) | (with_reducible rfl) | simp only [CC, LL, EE, QQ, seval, List.contains_nil, Bool.false_eq_true, ↓reduceIte, Option.some.injEq, O.arr.injEq, true_and, and_true] | (with_reducible apply And.intro) | (refine ⟨_, rfl, ?_⟩) | (simp [hN1, hQ4, eSe]; done) | rfl | omega | trivial)))
  · obtain rfl : k = x.sets.length := by omega
    have hN : P7 ++ x.sets.flatMap encSe = pre ++ encSt x := hfin.symm
    have q1 : decide (((x.sets.length - x.sets.length : Nat) : Int) > 0) = false := decide_eq_false (by omega)
    repeat' (first | simp (maxSteps := 9999999) only [↓GE, PL, PP, EE, QQ, seval, q1, List.take_length, hN] | (simp (disch := omega) only [IntWalk.i64_in]) | (refine go_brD (fun h => ?_) (fun h => ?_)) | (refine go_gsD (by ((try simp only [EE, QQ, seval]) <;> rfl)) (fun h => ?_) (fun h => ?_)) | (refine go_br (fun h => ?_) (fun h => ?_)) | (refine go_gs (by ((try simp only [EE, QQ, seval]) <;> rfl)) (fun h => ?_) (fun h => ?_)) | (with_reducible apply And.intro) | (with_reducible exact trivial) | omega | (simp only [List.length_map, List.length_cons, List.length_nil] at *; omega) | (show _ = true; first | rfl | kernel_rfl))
    all_goals ((first | apply ret_mk [] | apply end_mk []); (· ((try simp only [CC, LL, EE, QQ, seval]) <;> rfl)); (· ((try simp only [CC, LL, EE, QQ, seval]) <;> repeat' (first | (with_reducible apply And.intro) | rfl | trivial | (exact ⟨_, rfl⟩) | (exact ⟨_, _, _, rfl⟩) | (simp [*, ]; done) | (simp [*, ]; omega) | (simp_all []; done) | (simp_all []; omega)))); all_goals (first | trivial | decide | ((try simp only [CC, LL, EE, QQ, seval]) <;> repeat' (first | (with_reducible apply And.intro) | (exact ⟨_, rfl, rfl, rfl⟩) | (exact ⟨_, _, _, rfl⟩) | (exact ⟨_, rfl⟩) | trivial | rfl | (simp; done)))))
theorem decodeD (l : List PSt) (h : ∀ x ∈ l, okSt x) (hn : l.length ≤ 512) (hc : l.all chk = true) : Does Try.prog 7 [vS (encL l)] [] (.tu [.d (dSts l), I 0]) [] [] := by
  have hel : (encL l).length ≤ 1000000000000 := by
    have g1 := flatMap_le (f := encSt) (l := l) (m := 41000000) fun s hs => encSt_len (h s hs)
    have g2 : l.length * 41000000 ≤ 600 * 41000000 := Nat.mul_le_mul_right _ (by omega)
    have a1 := (putB_len (n := (l.length : Int)) (by omega) (by omega)).1
    rw [encL, List.length_append]; omega
  obtain ⟨P0, hP0⟩ : ∃ P0, P0 = putB (l.length : Int) := ⟨_, rfl⟩
  obtain ⟨s, hs⟩ : ∃ s, s = encL l := ⟨_, rfl⟩
  have t0 : s = [] ++ (putB (l.length : Int) ++ l.flatMap encSt) := hs
  rw [← hs] at hel ⊢
  have e0 : Does Try.prog 13 [rdp, I 512] (rd s 0) (I (l.length : Int)) (rd s (P0.length : Int)) [] := readC _ _ _ _ 512 (by omega) (by omega) (intAt (Q := P0) t0 hP0 ⟨by omega, by omega⟩ hel)
  have e0' := e0.nm1 9 0 (by omega) rfl rfl rfl rfl rfl
  refine go_script_Decode rfl BxOK.nil fun cx hm0 => go_in 5000 ?_
  unfold ac_script_Decode rs_script_Decode
  repeat' (first | simp (maxSteps := 9999999) only [↓GE, PL, PP, EE, QQ, seval] | (simp (disch := omega) only [IntWalk.i64_in]) | (refine go_brD (fun h => ?_) (fun h => ?_)) | (refine go_gsD (by ((try simp only [EE, QQ, seval]) <;> rfl)) (fun h => ?_) (fun h => ?_)) | (refine go_br (fun h => ?_) (fun h => ?_)) | (refine go_gs (by ((try simp only [EE, QQ, seval]) <;> rfl)) (fun h => ?_) (fun h => ?_)) | (apply go_call 5000 (e0') rfl rfl; iterate 4 (first | (exact CallForm.lent (by (try simp only [CC, LL, NM, EE, QQ, seval]); repeat' (first | trivial | (with_reducible rfl) | omega | (with_reducible apply And.intro) | rfl)) rfl rfl) | ((try simp only [CC, LL, NM, EE, QQ, seval]) <;> (first | rfl | ((repeat constructor); done))))) | (with_reducible apply And.intro) | (with_reducible exact trivial) | omega | (simp only [List.length_map, List.length_cons, List.length_nil] at *; omega) | (show _ = true; first | rfl | kernel_rfl))
  refine go_loop 5000 hm0 (ι := {q : Nat × Nat // q.1 ≤ l.length}) (fun i => [(0, vS s), (4, .bp 9 0 0), (5, .og 27 i.1.2), (6, I ((l.length - i.1.1 : Nat) : Int))]) (fun i => [(9, .box 0 [vS s, I ((P0 ++ (l.take i.1.1).flatMap encSt).length : Int), I 0]), (27, .arr i.1.2 7 true ((l.take i.1.1).map eSt))]) (fun i => l.length - i.1.1) [27] ⟨(0, 0), Nat.zero_le _⟩ ?_ ?_
  · (simp only [GeS]; refine ⟨?_, ?_, ?_, ?_⟩; all_goals (repeat' (first | (with_reducible exact True.intro) | (with_reducible rfl) | simp only [CC, LL, EE, QQ, seval, List.contains_nil, Bool.false_eq_true, ↓reduceIte, Option.some.injEq, O.arr.injEq, true_and, and_true] | (with_reducible apply And.intro) | (refine ⟨_, rfl, ?_⟩) | (simp; done) | rfl | omega | trivial)))
  rintro ⟨⟨k, v⟩, hk⟩
  simp only at hk
  by_cases hkl : k < l.length
  · have hst := h _ (mem_getD noSt l k hkl)
    have hck := List.all_eq_true.1 hc _ (mem_getD noSt l k hkl)
    have htk := take_succ_getD noSt l k hkl
    have hlk : (l.take k).length = k := by rw [List.length_take]; omega
    have hdr := drop_get noSt l k hkl
    have hN1 : (l.take (k + 1)).map eSt = (l.take k).map eSt ++ [eSt (l.getD k noSt)] := by rw [htk, List.map_append]; rfl
    obtain ⟨Q1, hQ1⟩ : ∃ Q1, Q1 = P0 ++ (l.take k).flatMap encSt := ⟨_, rfl⟩
    have hQ4 : P0 ++ (l.take (k + 1)).flatMap encSt = Q1 ++ encSt (l.getD k noSt) := by
      rw [hQ1, htk, List.flatMap_append, List.flatMap_cons, List.flatMap_nil, List.append_nil, List.append_assoc]
    have t1 : s = Q1 ++ (encSt (l.getD k noSt) ++ (l.drop (k + 1)).flatMap encSt) := by
      rw [t0, hQ1, hP0, List.nil_append]
      conv => lhs; rw [show l.flatMap encSt = (l.take k ++ l.drop k).flatMap encSt by rw [List.take_append_drop]]
      rw [hdr, List.flatMap_append, List.flatMap_cons]; simp only [List.append_assoc]
    rw [← hQ1]
    generalize l.getD k noSt = y at *
    have g0 := (stepD s Q1 _ y hst hck t1 hel).nm1 9 0 (by omega) rfl rfl rfl rfl rfl
    have q1 : decide (((l.length - k : Nat) : Int) > 0) = true := decide_eq_true (by omega)
    have w1 : IntKind.i64.wrap (((l.length - k : Nat) : Int) - 1) = ((l.length - (k + 1) : Nat) : Int) := by rw [show ((l.length - k : Nat) : Int) - 1 = ((l.length - (k + 1) : Nat) : Int) by omega]; exact IntWalk.i64_in _ (by omega)
    repeat' (first | simp (maxSteps := 9999999) only [↓GE, PL, PP, EE, QQ, seval, q1, w1, hlk, List.length_map] | (simp (disch := omega) only [IntWalk.i64_in]) | (refine go_brD (fun h => ?_) (fun h => ?_)) | (refine go_gsD (by ((try simp only [EE, QQ, seval]) <;> rfl)) (fun h => ?_) (fun h => ?_)) | (refine go_br (fun h => ?_) (fun h => ?_)) | (refine go_gs (by ((try simp only [EE, QQ, seval]) <;> rfl)) (fun h => ?_) (fun h => ?_)) | (apply go_call 5000 (g0) rfl rfl; iterate 4 (first | (exact CallForm.lent (by (try simp only [CC, LL, NM, EE, QQ, seval]); repeat' (first | trivial | (with_reducible rfl) | omega | (with_reducible apply And.intro) | rfl)) rfl rfl) | ((try simp only [CC, LL, NM, EE, QQ, seval]) <;> (first | rfl | ((repeat constructor); done))))) | (with_reducible apply And.intro) | (with_reducible exact trivial) | omega | (simp only [List.length_map, List.length_cons, List.length_nil] at *; omega) | (show _ = true; first | rfl | kernel_rfl))
    refine ⟨⟨(k + 1, v + 1), hkl⟩, ?_, by simp only; omega⟩
    (simp only [GeS]; refine ⟨?_, ?_, ?_, ?_⟩; all_goals (repeat' (first | (with_reducible exact True.intro) | (with_reducible rfl) | simp only [CC, LL, EE, QQ, seval, List.contains_nil, Bool.false_eq_true, ↓reduceIte, Option.some.injEq, O.arr.injEq, true_and, and_true] | (with_reducible apply And.intro) | (refine ⟨_, rfl, ?_⟩) | (simp [hN1, hQ4, eSt]; done) | rfl | omega | trivial)))
  · obtain rfl : k = l.length := by omega
    have hN : P0 ++ l.flatMap encSt = s := by rw [t0, hP0]; rfl
    have q1 : decide (((l.length - l.length : Nat) : Int) > 0) = false := decide_eq_false (by omega)
    have q2 : ((s.length : Int) != ((({ data := s.toArray } : ByteArray).size : Nat) : Int)) = false := by simp [ByteArray.size]
    repeat' (first | simp (maxSteps := 9999999) only [↓GE, PL, PP, EE, QQ, seval, q1, List.take_length, hN, q2] | (simp (disch := omega) only [IntWalk.i64_in]) | (refine go_brD (fun h => ?_) (fun h => ?_)) | (refine go_gsD (by ((try simp only [EE, QQ, seval]) <;> rfl)) (fun h => ?_) (fun h => ?_)) | (refine go_br (fun h => ?_) (fun h => ?_)) | (refine go_gs (by ((try simp only [EE, QQ, seval]) <;> rfl)) (fun h => ?_) (fun h => ?_)) | (with_reducible apply And.intro) | (with_reducible exact trivial) | omega | (simp only [List.length_map, List.length_cons, List.length_nil] at *; omega) | (show _ = true; first | rfl | kernel_rfl))
    all_goals ((first | apply ret_mk [] | apply end_mk []); (· ((try simp only [CC, LL, EE, QQ, seval]) <;> rfl)); (· ((try simp only [CC, LL, EE, QQ, seval]) <;> repeat' (first | (with_reducible apply And.intro) | rfl | trivial | (exact ⟨_, rfl⟩) | (exact ⟨_, _, _, rfl⟩) | (simp [*, ]; done) | (simp [*, ]; omega) | (simp_all []; done) | (simp_all []; omega)))); all_goals (first | trivial | decide | ((try simp only [CC, LL, EE, QQ, seval]) <;> repeat' (first | (with_reducible apply And.intro) | (exact ⟨_, rfl, rfl, rfl⟩) | (exact ⟨_, _, _, rfl⟩) | (exact ⟨_, rfl⟩) | trivial | rfl | (simp; done)))))
end Go.Proofs.Ytabfajhflaladaa.Sim
