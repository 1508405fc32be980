/- Queries of the second kind, 4 servers. -/
import Derived.Test.YtihjmnhjjpdenaaMVwE
namespace Go.Proofs.Ytihjmnhjjpdenaa.Sim
open Go
set_option maxRecDepth 100000
set_option maxHeartbeats 4000000
set_option linter.unusedVariables false
set_option linter.unusedSimpArgs false
attribute [local irreducible] Go Mean
theorem queries17_4 {p : Int} (hp : okP p) (deg rows ix : Nat) (h5 : 1 ≤ deg) (h6 : deg ≤ 2) (h1 : 1 ≤ rows) (h2 : rows ≤ 4) (hix : ix < rows) (t : List Int) (a : Nat) (ht : t.length ≤ 16384) (ha : a + rows * deg ≤ t.length) (hin : inF p t) :
    Does Try.prog 60 [.ag [I p], .ag [I 4, I deg], I rows, I ix, vTape t a] [] (.tu [.d (dRows [colG p (coef17 ix deg (t.drop a)) 0 rows, colG p (coef17 ix deg (t.drop a)) 1 rows, colG p (coef17 ix deg (t.drop a)) 2 rows, colG p (coef17 ix deg (t.drop a)) 3 rows]), vTape t ((a + rows * deg : Nat) : Int), I 0]) [] [] := by
  refine go_ref17_Queries rfl BxOK.nil fun cx hm0 => Awp.seal (go_in 5000 ?_)
  unfold ac_ref17_Queries rs_ref17_Queries
  have hpl := hp.le
  have e1 : Does Try.prog 54 [.ag [I p], .ag [I 4, I deg], I rows] [] (.tu [.d (dInts (repG p (rows * deg))), I 0]) [] [] := limits17 hp 4 deg rows (by omega) (by omega) h5 h6 h1 h2
  have q1 : decide ((ix : Int) < 0) = false := decide_eq_false (by omega)
  have q2 : decide ((ix : Int) ≥ (rows : Int)) = false := decide_eq_false (by omega)
  repeat' (first | simp (maxSteps := 9999999) only [↓GE, PL, PP, EE, QQ, seval, q1, q2] | (simp (disch := omega) only [IntWalk.i64_in]) | (refine go_brD (fun h => ?_) (fun h => ?_)) | (refine go_gsD (by ((try simp only [EE, QQ, seval]) <;> rfl)) (fun h => ?_) (fun h => ?_)) | (refine go_br (fun h => ?_) (fun h => ?_)) | (refine go_gs (by ((try simp only [EE, QQ, seval]) <;> rfl)) (fun h => ?_) (fun h => ?_)) | (apply go_call 5000 (e1) rfl rfl; iterate 4 (first | (exact CallForm.plain rfl) | ((try simp only [CC, LL, NM, EE, QQ, seval]) <;> (first | rfl | ((repeat constructor); done))))) | (with_reducible apply And.intro) | (with_reducible exact trivial) | omega | (simp only [List.length_map, List.length_cons, List.length_nil] at *; omega) | (show _ = true; first | rfl | kernel_rfl))
  refine go_loopz 5000 hm0 (ι := {q : Nat × Nat // q.1 ≤ rows}) (fun i => [(2, I rows), (3, I ix), (5, .bp 5 0 0), (6, .bp 6 0 0), (9, .bp 9 0 0), (11, .bp 11 0 0), (15, .ep 44 0 4 1), (16, I i.1.1)]) (fun i => [(5, .box 0 [I p]), (6, .box 0 [I 4, I deg]), (9, .box 0 [.d (dInts t), I ((a + i.1.1 * deg : Nat) : Int)]), (11, .box 0 [.nl 1, I 0]), (44, .box 0 [.og 5000 i.1.2, .og 5001 i.1.2, .og 5002 i.1.2, .og 5003 i.1.2]), (5000, .arr i.1.2 1 true ((colG p (coef17 ix deg (t.drop a)) 0 i.1.1).map eI)), (5001, .arr i.1.2 1 true ((colG p (coef17 ix deg (t.drop a)) 1 i.1.1).map eI)), (5002, .arr i.1.2 1 true ((colG p (coef17 ix deg (t.drop a)) 2 i.1.1).map eI)), (5003, .arr i.1.2 1 true ((colG p (coef17 ix deg (t.drop a)) 3 i.1.1).map eI))]) (fun i => rows - i.1.1) [] [5000, 5001, 5002, 5003] ⟨(0, 0), Nat.zero_le _⟩ ?_ ?_
  · simp only [GeZ]; (simp only [GeS]; refine ⟨?_, ?_, ?_, ?_⟩; all_goals (repeat' (first | (with_reducible exact True.intro) | (with_reducible rfl) | simp only [CC, LL, EE, QQ, seval, List.contains_nil, Bool.false_eq_true, ↓reduceIte, Option.some.injEq, O.arr.injEq, true_and, and_true] | (with_reducible apply And.intro) | (refine ⟨_, rfl, ?_⟩) | (simp [colG, Nat.zero_mul]; done) | rfl | omega | trivial)))
  rintro ⟨⟨i, v⟩, hi⟩
  simp only at hi
  by_cases hir : i < rows
  · have q3 : decide ((i : Int) < (rows : Int)) = true := decide_eq_true (by omega)
    have hid : (i + 1) * deg = i * deg + deg := by rw [Nat.add_mul, Nat.one_mul]
    have hle : (i + 1) * deg ≤ rows * deg := Nat.mul_le_mul_right _ hir
    have e2 := split7 hp (if i = ix then 1 else 0) (by split <;> omega) deg 4 (by omega) (by omega) (by omega) t (a + i * deg) ht (by omega) hin
    rw [show (if i = ix then 1 else 0) :: (t.drop (a + i * deg)).take deg = coef17 ix deg (t.drop a) i by rw [coef17, List.drop_drop], show a + i * deg + deg = a + (i + 1) * deg by omega] at e2
    have hsl : (sharesG p (coef17 ix deg (t.drop a) i) 4).length = 4 := sharesG_len
    have hN0 : (colG p (coef17 ix deg (t.drop a)) 0 (i + 1)).map eI = (colG p (coef17 ix deg (t.drop a)) 0 i).map eI ++ [eI (polyV p 1 (coef17 ix deg (t.drop a) i))] := by rw [colG, List.map_append]; rfl
    have hl0 := colG_len (p := p) (cf := coef17 ix deg (t.drop a)) (k := 0) (i := i)
    have hs0 : ((sharesG p (coef17 ix deg (t.drop a) i) 4).map eSh).getD 0 [] = [.at (.int .i64 1), .at (.int .i64 (polyV p 1 (coef17 ix deg (t.drop a) i)))] := by rw [getD_map eSh [] (0, 0) _ _ (by rw [sharesG_len]; omega), share_at (by omega)]; rfl
    have hN1 : (colG p (coef17 ix deg (t.drop a)) 1 (i + 1)).map eI = (colG p (coef17 ix deg (t.drop a)) 1 i).map eI ++ [eI (polyV p 2 (coef17 ix deg (t.drop a) i))] := by rw [colG, List.map_append]; rfl
    have hl1 := colG_len (p := p) (cf := coef17 ix deg (t.drop a)) (k := 1) (i := i)
    have hs1 : ((sharesG p (coef17 ix deg (t.drop a) i) 4).map eSh).getD 1 [] = [.at (.int .i64 2), .at (.int .i64 (polyV p 2 (coef17 ix deg (t.drop a) i)))] := by rw [getD_map eSh [] (0, 0) _ _ (by rw [sharesG_len]; omega), share_at (by omega)]; rfl
    have hN2 : (colG p (coef17 ix deg (t.drop a)) 2 (i + 1)).map eI = (colG p (coef17 ix deg (t.drop a)) 2 i).map eI ++ [eI (polyV p 3 (coef17 ix deg (t.drop a) i))] := by rw [colG, List.map_append]; rfl
    have hl2 := colG_len (p := p) (cf := coef17 ix deg (t.drop a)) (k := 2) (i := i)
    have hs2 : ((sharesG p (coef17 ix deg (t.drop a) i) 4).map eSh).getD 2 [] = [.at (.int .i64 3), .at (.int .i64 (polyV p 3 (coef17 ix deg (t.drop a) i)))] := by rw [getD_map eSh [] (0, 0) _ _ (by rw [sharesG_len]; omega), share_at (by omega)]; rfl
    have hN3 : (colG p (coef17 ix deg (t.drop a)) 3 (i + 1)).map eI = (colG p (coef17 ix deg (t.drop a)) 3 i).map eI ++ [eI (polyV p 4 (coef17 ix deg (t.drop a) i))] := by rw [colG, List.map_append]; rfl
    have hl3 := colG_len (p := p) (cf := coef17 ix deg (t.drop a)) (k := 3) (i := i)
    have hs3 : ((sharesG p (coef17 ix deg (t.drop a) i) 4).map eSh).getD 3 [] = [.at (.int .i64 4), .at (.int .i64 (polyV p 4 (coef17 ix deg (t.drop a) i)))] := by rw [getD_map eSh [] (0, 0) _ _ (by rw [sharesG_len]; omega), share_at (by omega)]; rfl
    have fin : ∀ (T : Nat → V) (m : M), True := fun _ _ => trivial
    generalize coef17 ix deg (t.drop a) i = cf at *
    apply join_on (α := Unit) (C := fun _ => True)
    · intro hkey
      obtain ⟨un, -⟩ : ∃ un : Unit, True := ⟨(), trivial⟩
      by_cases hii : i = ix
      all_goals
        first
        | have hq : ((i : Int) == (ix : Int)) = true := by rw [beq_iff_eq]; omega
          have e2' := e2
          rw [if_pos hii] at e2'
        | have hq : ((i : Int) == (ix : Int)) = false := by rw [beq_eq_false_iff_ne]; omega
          have e2' := e2
          rw [if_neg hii] at e2'
      all_goals
        repeat' (first | simp (maxSteps := 9999999) only [↓GE, PL, PP, EE, QQ, seval, q3, hq, hsl, List.length_map] | (simp (disch := omega) only [IntWalk.i64_in]) | (refine go_brD (fun h => ?_) (fun h => ?_)) | (refine go_gsD (by ((try simp only [EE, QQ, seval]) <;> rfl)) (fun h => ?_) (fun h => ?_)) | (refine go_br (fun h => ?_) (fun h => ?_)) | (refine go_gs (by ((try simp only [EE, QQ, seval]) <;> rfl)) (fun h => ?_) (fun h => ?_)) | (apply go_call 5000 (e2') rfl rfl; iterate 4 (first | (exact CallForm.plain rfl) | ((try simp only [CC, LL, NM, EE, QQ, seval]) <;> (first | rfl | ((repeat constructor); done))))) | (with_reducible apply And.intro) | (with_reducible exact trivial) | omega | (simp only [List.length_map, List.length_cons, List.length_nil] at *; omega) | (show _ = true; first | rfl | kernel_rfl))
      all_goals
        refine awp_meet hm0 [] [] [(2, I rows), (3, I ix), (5, .bp 5 0 0), (6, .bp 6 0 0), (9, .bp 9 0 0), (11, .bp 11 0 0), (15, .ep 44 0 4 1), (16, I i), (70, .d (dShares (sharesG p cf 4))), (71, I 4), (72, I 0)] [(5, .box 0 [I p]), (6, .box 0 [I 4, I deg]), (9, .box 0 [.d (dInts t), I ((a + (i + 1) * deg : Nat) : Int)]), (11, .box 0 [.nl 1, I 0]), (44, .box 0 [.og 5000 v, .og 5001 v, .og 5002 v, .og 5003 v]), (5000, .arr v 1 true ((colG p (coef17 ix deg (t.drop a)) 0 i).map eI)), (5001, .arr v 1 true ((colG p (coef17 ix deg (t.drop a)) 1 i).map eI)), (5002, .arr v 1 true ((colG p (coef17 ix deg (t.drop a)) 2 i).map eI)), (5003, .arr v 1 true ((colG p (coef17 ix deg (t.drop a)) 3 i).map eI))] ?_ (hkey un trivial)
        simp only [GeZ]; (simp only [GeS]; refine ⟨?_, ?_, ?_, ?_⟩; all_goals (repeat' (first | (with_reducible exact True.intro) | (with_reducible rfl) | simp only [CC, LL, EE, QQ, seval, List.contains_nil, Bool.false_eq_true, ↓reduceIte, Option.some.injEq, O.arr.injEq, true_and, and_true] | (with_reducible apply And.intro) | (refine ⟨_, rfl, ?_⟩) | (simp; done) | rfl | omega | trivial)))
    intro _ _
    refine go_loop 5000 hm0 (ι := {c : Nat // c ≤ 4}) (fun c => [(2, I rows), (3, I ix), (5, .bp 5 0 0), (6, .bp 6 0 0), (9, .bp 9 0 0), (11, .bp 11 0 0), (15, .ep 44 0 4 1), (16, I i), (70, .d (dShares (sharesG p cf 4))), (71, I 4), (72, I c.1)]) (fun c => [(5, .box 0 [I p]), (6, .box 0 [I 4, I deg]), (9, .box 0 [.d (dInts t), I ((a + (i + 1) * deg : Nat) : Int)]), (11, .box 0 [.nl 1, I 0]), (44, .box 0 [.og 5000 (v + if 0 < c.1 then 1 else 0), .og 5001 (v + if 1 < c.1 then 1 else 0), .og 5002 (v + if 2 < c.1 then 1 else 0), .og 5003 (v + if 3 < c.1 then 1 else 0)]), (5000, .arr (v + if 0 < c.1 then 1 else 0) 1 true (if 0 < c.1 then (colG p (coef17 ix deg (t.drop a)) 0 (i + 1)).map eI else (colG p (coef17 ix deg (t.drop a)) 0 i).map eI)), (5001, .arr (v + if 1 < c.1 then 1 else 0) 1 true (if 1 < c.1 then (colG p (coef17 ix deg (t.drop a)) 1 (i + 1)).map eI else (colG p (coef17 ix deg (t.drop a)) 1 i).map eI)), (5002, .arr (v + if 2 < c.1 then 1 else 0) 1 true (if 2 < c.1 then (colG p (coef17 ix deg (t.drop a)) 2 (i + 1)).map eI else (colG p (coef17 ix deg (t.drop a)) 2 i).map eI)), (5003, .arr (v + if 3 < c.1 then 1 else 0) 1 true (if 3 < c.1 then (colG p (coef17 ix deg (t.drop a)) 3 (i + 1)).map eI else (colG p (coef17 ix deg (t.drop a)) 3 i).map eI))]) (fun c => 4 - c.1) [] ⟨0, Nat.zero_le _⟩ ?_ ?_
    · (simp only [GeS]; refine ⟨?_, ?_, ?_, ?_⟩; all_goals (repeat' (first | (with_reducible exact True.intro) | (with_reducible rfl) | simp only [CC, LL, EE, QQ, seval, List.contains_nil, Bool.false_eq_true, ↓reduceIte, Option.some.injEq, O.arr.injEq, true_and, and_true] | (with_reducible apply And.intro) | (refine ⟨_, rfl, ?_⟩) | (simp; done) | rfl | omega | trivial)))
    rintro ⟨c, hc⟩
    have hcs : c = 0 ∨ c = 1 ∨ c = 2 ∨ c = 3 ∨ c = 4 := by omega
    rcases hcs with rfl | rfl | rfl | rfl | rfl
    · repeat' (first | simp (maxSteps := 9999999) only [↓GE, PL, PP, EE, QQ, seval, hs0, hl0, hsl, List.length_map] | (simp (disch := omega) only [IntWalk.i64_in]) | (refine go_brD (fun h => ?_) (fun h => ?_)) | (refine go_gsD (by ((try simp only [EE, QQ, seval]) <;> rfl)) (fun h => ?_) (fun h => ?_)) | (refine go_br (fun h => ?_) (fun h => ?_)) | (refine go_gs (by ((try simp only [EE, QQ, seval]) <;> rfl)) (fun h => ?_) (fun h => ?_)) | (with_reducible apply And.intro) | (with_reducible exact trivial) | omega | (simp only [List.length_map, List.length_cons, List.length_nil] at *; omega) | (show _ = true; first | rfl | kernel_rfl))
      refine ⟨⟨1, by omega⟩, ?_, by simp only; omega⟩
      (simp only [GeS]; refine ⟨?_, ?_, ?_, ?_⟩; all_goals (repeat' (first | (with_reducible exact True.intro) | (with_reducible rfl) | simp only [CC, LL, EE, QQ, seval, List.contains_nil, Bool.false_eq_true, ↓reduceIte, Option.some.injEq, O.arr.injEq, true_and, and_true] | (with_reducible apply And.intro) | (refine ⟨_, rfl, ?_⟩) | (simp [hN0, eI]; done) | rfl | omega | trivial)))
    · repeat' (first | simp (maxSteps := 9999999) only [↓GE, PL, PP, EE, QQ, seval, hs1, hl1, hsl, List.length_map] | (simp (disch := omega) only [IntWalk.i64_in]) | (refine go_brD (fun h => ?_) (fun h => ?_)) | (refine go_gsD (by ((try simp only [EE, QQ, seval]) <;> rfl)) (fun h => ?_) (fun h => ?_)) | (refine go_br (fun h => ?_) (fun h => ?_)) | (refine go_gs (by ((try simp only [EE, QQ, seval]) <;> rfl)) (fun h => ?_) (fun h => ?_)) | (with_reducible apply And.intro) | (with_reducible exact trivial) | omega | (simp only [List.length_map, List.length_cons, List.length_nil] at *; omega) | (show _ = true; first | rfl | kernel_rfl))
      refine ⟨⟨2, by omega⟩, ?_, by simp only; omega⟩
      (simp only [GeS]; refine ⟨?_, ?_, ?_, ?_⟩; all_goals (repeat' (first | (with_reducible exact True.intro) | (with_reducible rfl) | simp only [CC, LL, EE, QQ, seval, List.contains_nil, Bool.false_eq_true, ↓reduceIte, Option.some.injEq, O.arr.injEq, true_and, and_true] | (with_reducible apply And.intro) | (refine ⟨_, rfl, ?_⟩) | (simp [hN1, eI]; done) | rfl | omega | trivial)))
    · repeat' (first | simp (maxSteps := 9999999) only [↓GE, PL, PP, EE, QQ, seval, hs2, hl2, hsl, List.length_map] | (simp (disch := omega) only [IntWalk.i64_in]) | (refine go_brD (fun h => ?_) (fun h => ?_)) | (refine go_gsD (by ((try simp only [EE, QQ, seval]) <;> rfl)) (fun h => ?_) (fun h => ?_)) | (refine go_br (fun h => ?_) (fun h => ?_)) | (refine go_gs (by ((try simp only [EE, QQ, seval]) <;> rfl)) (fun h => ?_) (fun h => ?_)) | (with_reducible apply And.intro) | (with_reducible exact trivial) | omega | (simp only [List.length_map, List.length_cons, List.length_nil] at *; omega) | (show _ = true; first | rfl | kernel_rfl))
      refine ⟨⟨3, by omega⟩, ?_, by simp only; omega⟩
      (simp only [GeS]; refine ⟨?_, ?_, ?_, ?_⟩; all_goals (repeat' (first | (with_reducible exact True.intro) | (with_reducible rfl) | simp only [CC, LL, EE, QQ, seval, List.contains_nil, Bool.false_eq_true, ↓reduceIte, Option.some.injEq, O.arr.injEq, true_and, and_true] | (with_reducible apply And.intro) | (refine ⟨_, rfl, ?_⟩) | (simp [hN2, eI]; done) | rfl | omega | trivial)))
    · repeat' (first | simp (maxSteps := 9999999) only [↓GE, PL, PP, EE, QQ, seval, hs3, hl3, hsl, List.length_map] | (simp (disch := omega) only [IntWalk.i64_in]) | (refine go_brD (fun h => ?_) (fun h => ?_)) | (refine go_gsD (by ((try simp only [EE, QQ, seval]) <;> rfl)) (fun h => ?_) (fun h => ?_)) | (refine go_br (fun h => ?_) (fun h => ?_)) | (refine go_gs (by ((try simp only [EE, QQ, seval]) <;> rfl)) (fun h => ?_) (fun h => ?_)) | (with_reducible apply And.intro) | (with_reducible exact trivial) | omega | (simp only [List.length_map, List.length_cons, List.length_nil] at *; omega) | (show _ = true; first | rfl | kernel_rfl))
      refine ⟨⟨4, by omega⟩, ?_, by simp only; omega⟩
      (simp only [GeS]; refine ⟨?_, ?_, ?_, ?_⟩; all_goals (repeat' (first | (with_reducible exact True.intro) | (with_reducible rfl) | simp only [CC, LL, EE, QQ, seval, List.contains_nil, Bool.false_eq_true, ↓reduceIte, Option.some.injEq, O.arr.injEq, true_and, and_true] | (with_reducible apply And.intro) | (refine ⟨_, rfl, ?_⟩) | (simp [hN3, eI]; done) | rfl | omega | trivial)))
    · repeat' (first | simp (maxSteps := 9999999) only [↓GE, PL, PP, EE, QQ, seval] | (simp (disch := omega) only [IntWalk.i64_in]) | (refine go_brD (fun h => ?_) (fun h => ?_)) | (refine go_gsD (by ((try simp only [EE, QQ, seval]) <;> rfl)) (fun h => ?_) (fun h => ?_)) | (refine go_br (fun h => ?_) (fun h => ?_)) | (refine go_gs (by ((try simp only [EE, QQ, seval]) <;> rfl)) (fun h => ?_) (fun h => ?_)) | (with_reducible apply And.intro) | (with_reducible exact trivial) | omega | (simp only [List.length_map, List.length_cons, List.length_nil] at *; omega) | (show _ = true; first | rfl | kernel_rfl))
      refine ⟨[], [], ⟨(i + 1, v + 1), hir⟩, ?_, by simp only; omega⟩
      simp only [GeZ]; (simp only [GeS]; refine ⟨?_, ?_, ?_, ?_⟩; all_goals (repeat' (first | (with_reducible exact True.intro) | (with_reducible rfl) | simp only [CC, LL, EE, QQ, seval, List.contains_nil, Bool.false_eq_true, ↓reduceIte, Option.some.injEq, O.arr.injEq, true_and, and_true] | (with_reducible apply And.intro) | (refine ⟨_, rfl, ?_⟩) | (simp; done) | rfl | omega | trivial)))
  · obtain rfl : i = rows := by omega
    have q3 : decide ((i : Int) < (i : Int)) = false := decide_eq_false (by omega)
    repeat' (first | simp (maxSteps := 9999999) only [↓GE, PL, PP, EE, QQ, seval, q3] | (simp (disch := omega) only [IntWalk.i64_in]) | (refine go_brD (fun h => ?_) (fun h => ?_)) | (refine go_gsD (by ((try simp only [EE, QQ, seval]) <;> rfl)) (fun h => ?_) (fun h => ?_)) | (refine go_br (fun h => ?_) (fun h => ?_)) | (refine go_gs (by ((try simp only [EE, QQ, seval]) <;> rfl)) (fun h => ?_) (fun h => ?_)) | (with_reducible apply And.intro) | (with_reducible exact trivial) | omega | (simp only [List.length_map, List.length_cons, List.length_nil] at *; omega) | (show _ = true; first | rfl | kernel_rfl))
    refine seal_mk 10 44 (v := 0) (n := 4) (q := 1) (cs := [.og 5000 v, .og 5001 v, .og 5002 v, .og 5003 v]) (ds := [dInts (colG p (coef17 ix deg (t.drop a)) 0 i), dInts (colG p (coef17 ix deg (t.drop a)) 1 i), dInts (colG p (coef17 ix deg (t.drop a)) 2 i), dInts (colG p (coef17 ix deg (t.drop a)) 3 i)]) ?_ ?_ rfl (by simp [maxLen]) ?_ ?_ ?_
    · ((try simp only [CC, LL, EE, QQ, seval]) <;> rfl)
    · ((try simp only [CC, LL, EE, QQ, seval]) <;> rfl)
    · ((try simp only [CC, LL, EE, QQ, seval]) <;> rfl)
    · ((try simp only [CC, LL, EE, QQ, seval]) <;> rfl)
    · ((first | apply ret_mk [] | apply end_mk []); (· ((try simp only [CC, LL, EE, QQ, seval]) <;> rfl)); (· ((try simp only [CC, LL, EE, QQ, seval]) <;> repeat' (first | (with_reducible apply And.intro) | rfl | trivial | (exact ⟨_, rfl⟩) | (exact ⟨_, _, _, rfl⟩) | (simp [*, ]; done) | (simp [*, ]; omega) | (simp_all []; done) | (simp_all []; omega)))); all_goals (first | trivial | decide | ((try simp only [CC, LL, EE, QQ, seval]) <;> repeat' (first | (with_reducible apply And.intro) | (exact ⟨_, rfl, rfl, rfl⟩) | (exact ⟨_, _, _, rfl⟩) | (exact ⟨_, rfl⟩) | trivial | rfl | (simp; done)))))
end Go.Proofs.Ytihjmnhjjpdenaa.Sim
