/- Queries of the third kind of the document. -/
import Derived.Test.YtihjmnhjjpdenaaMVwF
namespace Go.Proofs.Ytihjmnhjjpdenaa.Sim
open Go
set_option maxRecDepth 100000
set_option maxHeartbeats 4000000
set_option linter.unusedVariables false
set_option linter.unusedSimpArgs false
attribute [local irreducible] Go Mean
theorem queries18_3 {p : Int} (hp : okP p) (deg grp rows gr : Nat) (h5 : 1 ≤ deg) (h6 : deg ≤ 2) (h7 : 1 ≤ grp) (h8 : grp ≤ 2) (h9 : 2 * grp + deg - 1 ≤ 3) (h1 : 1 ≤ rows) (h2 : rows ≤ 4) (hix : gr < rows) (t : List Int) (a : Nat) (ht : t.length ≤ 16384) (ha : a + rows * deg ≤ t.length) (hin : inF p t) :
    Does Try.prog 61 [.ag [I p], .ag [I 3, I deg, I grp], I rows, I gr, vTape t a] [] (.tu [.d (dRows [colG p (coef18 gr grp deg (t.drop a)) 0 rows, colG p (coef18 gr grp deg (t.drop a)) 1 rows, colG p (coef18 gr grp deg (t.drop a)) 2 rows]), vTape t ((a + rows * deg : Nat) : Int), I 0]) [] [] := by
  refine go_ref18_Queries rfl BxOK.nil fun cx hm0 => Awp.seal (go_in 5000 ?_)
  unfold ac_ref18_Queries rs_ref18_Queries
  have hpl := hp.le
  have e1 : Does Try.prog 56 [.ag [I p], .ag [I 3, I deg, I grp], I rows] [] (.tu [.d (dInts (repG p (rows * deg))), I 0]) [] [] := limits18 hp 3 deg grp rows (by omega) (by omega) h5 h6 h7 h8 h9 h1 h2
  have q1 : decide ((gr : Int) < 0) = false := decide_eq_false (by omega)
  have q2 : decide ((gr : Int) ≥ (rows : Int)) = false := decide_eq_false (by omega)
  repeat' (first | simp (maxSteps := 9999999) only [↓GE, PL, PP, EE, QQ, seval, q1, q2] | (simp (disch := omega) only [IntWalk.i64_in]) | (refine go_brD (fun h => ?_) (fun h => ?_)) | (refine go_gsD (by ((try simp only [EE, QQ, seval]) <;> rfl)) (fun h => ?_) (fun h => ?_)) | (refine go_br (fun h => ?_) (fun h => ?_)) | (refine go_gs (by ((try simp only [EE, QQ, seval]) <;> rfl)) (fun h => ?_) (fun h => ?_)) | (apply go_call 5000 (e1) rfl rfl; iterate 4 (first | (exact CallForm.plain rfl) | ((try simp only [CC, LL, NM, EE, QQ, seval]) <;> (first | rfl | ((repeat constructor); done))))) | (with_reducible apply And.intro) | (with_reducible exact trivial) | omega | (simp only [List.length_map, List.length_cons, List.length_nil] at *; omega) | (show _ = true; first | rfl | kernel_rfl))
  refine go_loopz 5000 hm0 (ι := {q : Nat × Nat // q.1 ≤ rows}) (fun i => [(2, I rows), (3, I gr), (5, .bp 5 0 0), (6, .bp 6 0 0), (9, .bp 9 0 0), (11, .bp 11 0 0), (15, .ep 45 0 3 1), (16, I i.1.1)]) (fun i => [(5, .box 0 [I p]), (6, .box 0 [I 3, I deg, I grp]), (9, .box 0 [.d (dInts t), I ((a + i.1.1 * deg : Nat) : Int)]), (11, .box 0 [.nl 1, I 0]), (45, .box 0 [.og 5000 i.1.2, .og 5001 i.1.2, .og 5002 i.1.2]), (5000, .arr i.1.2 1 true ((colG p (coef18 gr grp deg (t.drop a)) 0 i.1.1).map eI)), (5001, .arr i.1.2 1 true ((colG p (coef18 gr grp deg (t.drop a)) 1 i.1.1).map eI)), (5002, .arr i.1.2 1 true ((colG p (coef18 gr grp deg (t.drop a)) 2 i.1.1).map eI))]) (fun i => rows - i.1.1) [] [5000, 5001, 5002] ⟨(0, 0), Nat.zero_le _⟩ ?_ ?_
  · simp only [GeZ]; (simp only [GeS]; refine ⟨?_, ?_, ?_, ?_⟩; all_goals (repeat' (first | (with_reducible exact True.intro) | (with_reducible rfl) | simp only [CC, LL, EE, QQ, seval, List.contains_nil, Bool.false_eq_true, ↓reduceIte, Option.some.injEq, O.arr.injEq, true_and, and_true] | (with_reducible apply And.intro) | (refine ⟨_, rfl, ?_⟩) | (simp [colG, Nat.zero_mul]; done) | rfl | omega | trivial)))
  rintro ⟨⟨i, v⟩, hi⟩
  simp only at hi
  by_cases hir : i < rows
  · have q3 : decide ((i : Int) < (rows : Int)) = true := decide_eq_true (by omega)
    have hid : (i + 1) * deg = i * deg + deg := by rw [Nat.add_mul, Nat.one_mul]
    have hle : (i + 1) * deg ≤ rows * deg := Nat.mul_le_mul_right _ hir
    have e2 := draws2 (p := p) (by omega) (by omega) t (a + i * deg) deg ht (by omega) hin
    rw [show a + i * deg + deg = a + (i + 1) * deg by omega] at e2
    have hci := coef18_in (gr := gr) (grp := grp) (deg := deg) hp (t := t.drop a) (fun y hy => hin y (List.mem_of_mem_drop hy)) i
    have hcl := coef18_len (gr := gr) (grp := grp) (deg := deg) (t := t.drop a) i
    have hdl : ((t.drop (a + i * deg)).take deg).length = deg := by rw [List.length_take, List.length_drop]; omega
    have hcf : (coef18 gr grp deg (t.drop a)) i = if i = gr then (List.replicate grp 0 ++ (t.drop (a + i * deg)).take deg).set 0 1 else List.replicate grp 0 ++ (t.drop (a + i * deg)).take deg := by rw [coef18, List.drop_drop]
    have hN0 : (colG p (coef18 gr grp deg (t.drop a)) 0 (i + 1)).map eI = (colG p (coef18 gr grp deg (t.drop a)) 0 i).map eI ++ [eI (polyV p 1 ((coef18 gr grp deg (t.drop a)) i))] := by rw [colG, List.map_append]; rfl
    have hl0 := colG_len (p := p) (cf := (coef18 gr grp deg (t.drop a))) (k := 0) (i := i)
    have f0 : Does Try.prog 68 [.ag [I p], .d (dInts ((coef18 gr grp deg (t.drop a)) i)), I 1] [] (.tu [I (polyV p 1 ((coef18 gr grp deg (t.drop a)) i)), I 0]) [] [] := Value5 hp _ 1 hci (by omega) (by omega)
    have hN1 : (colG p (coef18 gr grp deg (t.drop a)) 1 (i + 1)).map eI = (colG p (coef18 gr grp deg (t.drop a)) 1 i).map eI ++ [eI (polyV p 2 ((coef18 gr grp deg (t.drop a)) i))] := by rw [colG, List.map_append]; rfl
    have hl1 := colG_len (p := p) (cf := (coef18 gr grp deg (t.drop a))) (k := 1) (i := i)
    have f1 : Does Try.prog 68 [.ag [I p], .d (dInts ((coef18 gr grp deg (t.drop a)) i)), I 2] [] (.tu [I (polyV p 2 ((coef18 gr grp deg (t.drop a)) i)), I 0]) [] [] := Value5 hp _ 2 hci (by omega) (by omega)
    have hN2 : (colG p (coef18 gr grp deg (t.drop a)) 2 (i + 1)).map eI = (colG p (coef18 gr grp deg (t.drop a)) 2 i).map eI ++ [eI (polyV p 3 ((coef18 gr grp deg (t.drop a)) i))] := by rw [colG, List.map_append]; rfl
    have hl2 := colG_len (p := p) (cf := (coef18 gr grp deg (t.drop a))) (k := 2) (i := i)
    have f2 : Does Try.prog 68 [.ag [I p], .d (dInts ((coef18 gr grp deg (t.drop a)) i)), I 3] [] (.tu [I (polyV p 3 ((coef18 gr grp deg (t.drop a)) i)), I 0]) [] [] := Value5 hp _ 3 hci (by omega) (by omega)
    generalize (t.drop (a + i * deg)).take deg = dr at *
    have hr : List.replicate grp [D.at (.int .i64 0)] ++ dr.map eI = (List.replicate grp 0 ++ dr).map eI := by rw [List.map_append, List.map_replicate]; rfl
    have hs : ((List.replicate grp 0 ++ dr).map eI).set 0 [.at (.int .i64 1)] = ((List.replicate grp 0 ++ dr).set 0 1).map eI := by rw [List.map_set]; rfl
    have hgd : ((List.replicate grp 0 ++ dr).map eI).getD 0 [] = [.at (.int .i64 0)] := by
      obtain ⟨g, rfl⟩ : ∃ g, grp = g + 1 := ⟨grp - 1, by omega⟩
      rw [List.replicate_succ]; rfl
    have hln : (List.replicate grp (0 : Int) ++ dr).length = grp + deg := by rw [List.length_append, List.length_replicate, hdl]
    generalize List.replicate grp 0 ++ dr = L at *
    apply join_on (α := Unit) (C := fun _ => True)
    · intro hkey
      obtain ⟨un, -⟩ : ∃ un : Unit, True := ⟨(), trivial⟩
      by_cases hii : i = gr
      all_goals
        first
        | have hq : ((i : Int) == (gr : Int)) = true := by rw [beq_iff_eq]; omega
          have hcf' := hcf
          rw [if_pos hii] at hcf'
        | have hq : ((i : Int) == (gr : Int)) = false := by rw [beq_eq_false_iff_ne]; omega
          have hcf' := hcf
          rw [if_neg hii] at hcf'
      all_goals
        have hz : 0 < grp + deg := by omega
        repeat' (first | simp (maxSteps := 9999999) only [↓GE, PL, PP, EE, QQ, seval, q3, hq, hr, hs, hgd, hln, hdl, hz, List.length_map, List.length_replicate, List.drop_succ_cons, List.drop_zero] | (simp (disch := omega) only [IntWalk.i64_in]) | (refine go_brD (fun h => ?_) (fun h => ?_)) | (refine go_gsD (by ((try simp only [EE, QQ, seval]) <;> rfl)) (fun h => ?_) (fun h => ?_)) | (refine go_br (fun h => ?_) (fun h => ?_)) | (refine go_gs (by ((try simp only [EE, QQ, seval]) <;> rfl)) (fun h => ?_) (fun h => ?_)) | (apply go_call 5000 (e2) rfl rfl; iterate 4 (first | (exact CallForm.plain rfl) | ((try simp only [CC, LL, NM, EE, QQ, seval]) <;> (first | rfl | ((repeat constructor); done))))) | (with_reducible apply And.intro) | (with_reducible exact trivial) | omega | (simp only [List.length_map, List.length_cons, List.length_nil] at *; omega) | (show _ = true; first | rfl | kernel_rfl))
      all_goals
        refine awp_meet hm0 [.og 68 1] [] [(2, I rows), (3, I gr), (5, .bp 5 0 0), (6, .bp 6 0 0), (9, .bp 9 0 0), (11, .bp 11 0 0), (15, .ep 45 0 3 1), (16, I i), (20, .d (dInts ((coef18 gr grp deg (t.drop a)) i))), (21, I (0 + 1 : Nat))] [(5, .box 0 [I p]), (6, .box 0 [I 3, I deg, I grp]), (9, .box 0 [.d (dInts t), I ((a + (i + 1) * deg : Nat) : Int)]), (11, .box 0 [.nl 1, I 0]), (45, .box 0 [.og 5000 v, .og 5001 v, .og 5002 v]), (5000, .arr v 1 true ((colG p (coef18 gr grp deg (t.drop a)) 0 i).map eI)), (5001, .arr v 1 true ((colG p (coef18 gr grp deg (t.drop a)) 1 i).map eI)), (5002, .arr v 1 true ((colG p (coef18 gr grp deg (t.drop a)) 2 i).map eI))] ?_ (hkey un trivial)
        simp only [GeZ]; (simp only [GeS]; refine ⟨?_, ?_, ?_, ?_⟩; all_goals (repeat' (first | (with_reducible exact True.intro) | (with_reducible rfl) | simp only [CC, LL, EE, QQ, seval, List.contains_nil, Bool.false_eq_true, ↓reduceIte, Option.some.injEq, O.arr.injEq, true_and, and_true] | (with_reducible apply And.intro) | (refine ⟨_, rfl, ?_⟩) | (simp [hcf']; done) | rfl | omega | trivial)))
    intro _ _
    refine go_loopz 5000 hm0 (ι := {c : Nat // c ≤ 3}) (fun c => [(2, I rows), (3, I gr), (5, .bp 5 0 0), (6, .bp 6 0 0), (9, .bp 9 0 0), (11, .bp 11 0 0), (15, .ep 45 0 3 1), (16, I i), (20, .d (dInts ((coef18 gr grp deg (t.drop a)) i))), (21, I (c.1 + 1 : Nat))]) (fun c => [(5, .box 0 [I p]), (6, .box 0 [I 3, I deg, I grp]), (9, .box 0 [.d (dInts t), I ((a + (i + 1) * deg : Nat) : Int)]), (11, .box 0 [.nl 1, I 0]), (45, .box 0 [.og 5000 (v + if 0 < c.1 then 1 else 0), .og 5001 (v + if 1 < c.1 then 1 else 0), .og 5002 (v + if 2 < c.1 then 1 else 0)]), (5000, .arr (v + if 0 < c.1 then 1 else 0) 1 true (if 0 < c.1 then (colG p (coef18 gr grp deg (t.drop a)) 0 (i + 1)).map eI else (colG p (coef18 gr grp deg (t.drop a)) 0 i).map eI)), (5001, .arr (v + if 1 < c.1 then 1 else 0) 1 true (if 1 < c.1 then (colG p (coef18 gr grp deg (t.drop a)) 1 (i + 1)).map eI else (colG p (coef18 gr grp deg (t.drop a)) 1 i).map eI)), (5002, .arr (v + if 2 < c.1 then 1 else 0) 1 true (if 2 < c.1 then (colG p (coef18 gr grp deg (t.drop a)) 2 (i + 1)).map eI else (colG p (coef18 gr grp deg (t.drop a)) 2 i).map eI))]) (fun c => 3 - c.1) [] [] ⟨0, Nat.zero_le _⟩ ?_ ?_
    · simp only [GeZ]; (simp only [GeS]; refine ⟨?_, ?_, ?_, ?_⟩; all_goals (repeat' (first | (with_reducible exact True.intro) | (with_reducible rfl) | simp only [CC, LL, EE, QQ, seval, List.contains_nil, Bool.false_eq_true, ↓reduceIte, Option.some.injEq, O.arr.injEq, true_and, and_true] | (with_reducible apply And.intro) | (refine ⟨_, rfl, ?_⟩) | (simp; done) | rfl | omega | trivial)))
    rintro ⟨c, hc⟩
    have hcs : c = 0 ∨ c = 1 ∨ c = 2 ∨ c = 3 := by omega
    rcases hcs with rfl | rfl | rfl | rfl
    · repeat' (first | simp (maxSteps := 9999999) only [↓GE, PL, PP, EE, QQ, seval, hl0, List.length_map] | (simp (disch := omega) only [IntWalk.i64_in]) | (refine go_brD (fun h => ?_) (fun h => ?_)) | (refine go_gsD (by ((try simp only [EE, QQ, seval]) <;> rfl)) (fun h => ?_) (fun h => ?_)) | (refine go_br (fun h => ?_) (fun h => ?_)) | (refine go_gs (by ((try simp only [EE, QQ, seval]) <;> rfl)) (fun h => ?_) (fun h => ?_)) | (apply go_call 5000 (f0) rfl rfl; iterate 4 (first | (exact CallForm.plain rfl) | ((try simp only [CC, LL, NM, EE, QQ, seval]) <;> (first | rfl | ((repeat constructor); done))))) | (with_reducible apply And.intro) | (with_reducible exact trivial) | omega | (simp only [List.length_map, List.length_cons, List.length_nil] at *; omega) | (show _ = true; first | rfl | kernel_rfl))
      refine ⟨[], [], ⟨1, by omega⟩, ?_, by simp only; omega⟩
      simp only [GeZ]; (simp only [GeS]; refine ⟨?_, ?_, ?_, ?_⟩; all_goals (repeat' (first | (with_reducible exact True.intro) | (with_reducible rfl) | simp only [CC, LL, EE, QQ, seval, List.contains_nil, Bool.false_eq_true, ↓reduceIte, Option.some.injEq, O.arr.injEq, true_and, and_true] | (with_reducible apply And.intro) | (refine ⟨_, rfl, ?_⟩) | (simp [hN0, eI]; done) | rfl | omega | trivial)))
    · repeat' (first | simp (maxSteps := 9999999) only [↓GE, PL, PP, EE, QQ, seval, hl1, List.length_map] | (simp (disch := omega) only [IntWalk.i64_in]) | (refine go_brD (fun h => ?_) (fun h => ?_)) | (refine go_gsD (by ((try simp only [EE, QQ, seval]) <;> rfl)) (fun h => ?_) (fun h => ?_)) | (refine go_br (fun h => ?_) (fun h => ?_)) | (refine go_gs (by ((try simp only [EE, QQ, seval]) <;> rfl)) (fun h => ?_) (fun h => ?_)) | (apply go_call 5000 (f1) rfl rfl; iterate 4 (first | (exact CallForm.plain rfl) | ((try simp only [CC, LL, NM, EE, QQ, seval]) <;> (first | rfl | ((repeat constructor); done))))) | (with_reducible apply And.intro) | (with_reducible exact trivial) | omega | (simp only [List.length_map, List.length_cons, List.length_nil] at *; omega) | (show _ = true; first | rfl | kernel_rfl))
      refine ⟨[], [], ⟨2, by omega⟩, ?_, by simp only; omega⟩
      simp only [GeZ]; (simp only [GeS]; refine ⟨?_, ?_, ?_, ?_⟩; all_goals (repeat' (first | (with_reducible exact True.intro) | (with_reducible rfl) | simp only [CC, LL, EE, QQ, seval, List.contains_nil, Bool.false_eq_true, ↓reduceIte, Option.some.injEq, O.arr.injEq, true_and, and_true] | (with_reducible apply And.intro) | (refine ⟨_, rfl, ?_⟩) | (simp [hN1, eI]; done) | rfl | omega | trivial)))
    · repeat' (first | simp (maxSteps := 9999999) only [↓GE, PL, PP, EE, QQ, seval, hl2, List.length_map] | (simp (disch := omega) only [IntWalk.i64_in]) | (refine go_brD (fun h => ?_) (fun h => ?_)) | (refine go_gsD (by ((try simp only [EE, QQ, seval]) <;> rfl)) (fun h => ?_) (fun h => ?_)) | (refine go_br (fun h => ?_) (fun h => ?_)) | (refine go_gs (by ((try simp only [EE, QQ, seval]) <;> rfl)) (fun h => ?_) (fun h => ?_)) | (apply go_call 5000 (f2) rfl rfl; iterate 4 (first | (exact CallForm.plain rfl) | ((try simp only [CC, LL, NM, EE, QQ, seval]) <;> (first | rfl | ((repeat constructor); done))))) | (with_reducible apply And.intro) | (with_reducible exact trivial) | omega | (simp only [List.length_map, List.length_cons, List.length_nil] at *; omega) | (show _ = true; first | rfl | kernel_rfl))
      refine ⟨[], [], ⟨3, by omega⟩, ?_, by simp only; omega⟩
      simp only [GeZ]; (simp only [GeS]; refine ⟨?_, ?_, ?_, ?_⟩; all_goals (repeat' (first | (with_reducible exact True.intro) | (with_reducible rfl) | simp only [CC, LL, EE, QQ, seval, List.contains_nil, Bool.false_eq_true, ↓reduceIte, Option.some.injEq, O.arr.injEq, true_and, and_true] | (with_reducible apply And.intro) | (refine ⟨_, rfl, ?_⟩) | (simp [hN2, eI]; done) | rfl | omega | trivial)))
    · repeat' (first | simp (maxSteps := 9999999) only [↓GE, PL, PP, EE, QQ, seval] | (simp (disch := omega) only [IntWalk.i64_in]) | (refine go_brD (fun h => ?_) (fun h => ?_)) | (refine go_gsD (by ((try simp only [EE, QQ, seval]) <;> rfl)) (fun h => ?_) (fun h => ?_)) | (refine go_br (fun h => ?_) (fun h => ?_)) | (refine go_gs (by ((try simp only [EE, QQ, seval]) <;> rfl)) (fun h => ?_) (fun h => ?_)) | (with_reducible apply And.intro) | (with_reducible exact trivial) | omega | (simp only [List.length_map, List.length_cons, List.length_nil] at *; omega) | (show _ = true; first | rfl | kernel_rfl))
      refine ⟨[], [], ⟨(i + 1, v + 1), hir⟩, ?_, by simp only; omega⟩
      simp only [GeZ]; (simp only [GeS]; refine ⟨?_, ?_, ?_, ?_⟩; all_goals (repeat' (first | (with_reducible exact True.intro) | (with_reducible rfl) | simp only [CC, LL, EE, QQ, seval, List.contains_nil, Bool.false_eq_true, ↓reduceIte, Option.some.injEq, O.arr.injEq, true_and, and_true] | (with_reducible apply And.intro) | (refine ⟨_, rfl, ?_⟩) | (simp; done) | rfl | omega | trivial)))
  · obtain rfl : i = rows := by omega
    have q3 : decide ((i : Int) < (i : Int)) = false := decide_eq_false (by omega)
    repeat' (first | simp (maxSteps := 9999999) only [↓GE, PL, PP, EE, QQ, seval, q3] | (simp (disch := omega) only [IntWalk.i64_in]) | (refine go_brD (fun h => ?_) (fun h => ?_)) | (refine go_gsD (by ((try simp only [EE, QQ, seval]) <;> rfl)) (fun h => ?_) (fun h => ?_)) | (refine go_br (fun h => ?_) (fun h => ?_)) | (refine go_gs (by ((try simp only [EE, QQ, seval]) <;> rfl)) (fun h => ?_) (fun h => ?_)) | (with_reducible apply And.intro) | (with_reducible exact trivial) | omega | (simp only [List.length_map, List.length_cons, List.length_nil] at *; omega) | (show _ = true; first | rfl | kernel_rfl))
    refine seal_mk 10 45 (v := 0) (n := 3) (q := 1) (cs := [.og 5000 v, .og 5001 v, .og 5002 v]) (ds := [dInts (colG p (coef18 gr grp deg (t.drop a)) 0 i), dInts (colG p (coef18 gr grp deg (t.drop a)) 1 i), dInts (colG p (coef18 gr grp deg (t.drop a)) 2 i)]) ?_ ?_ rfl (by simp [maxLen]) ?_ ?_ ?_
    · ((try simp only [CC, LL, EE, QQ, seval]) <;> rfl)
    · ((try simp only [CC, LL, EE, QQ, seval]) <;> rfl)
    · ((try simp only [CC, LL, EE, QQ, seval]) <;> rfl)
    · ((try simp only [CC, LL, EE, QQ, seval]) <;> rfl)
    · ((first | apply ret_mk [] | apply end_mk []); (· ((try simp only [CC, LL, EE, QQ, seval]) <;> rfl)); (· ((try simp only [CC, LL, EE, QQ, seval]) <;> repeat' (first | (with_reducible apply And.intro) | rfl | trivial | (exact ⟨_, rfl⟩) | (exact ⟨_, _, _, rfl⟩) | (simp [*, ]; done) | (simp [*, ]; omega) | (simp_all []; done) | (simp_all []; omega)))); all_goals (first | trivial | decide | ((try simp only [CC, LL, EE, QQ, seval]) <;> repeat' (first | (with_reducible apply And.intro) | (exact ⟨_, rfl, rfl, rfl⟩) | (exact ⟨_, _, _, rfl⟩) | (exact ⟨_, rfl⟩) | trivial | rfl | (simp; done)))))
end Go.Proofs.Ytihjmnhjjpdenaa.Sim
