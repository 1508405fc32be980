/- What two servers see of a read of degree 2, counted: the walk. -/
import Derived.Test.YthbhkkdaaipngaaGreatDoorMTpCq
import Derived.Test.YthbhkkdaaipngaaGreatDoorMTpFb
import Derived.Test.YthbhkkdaaipngaaGreatDoorMTpDb
import Derived.Test.YthbhkkdaaipngaaGreatDoorMTpEb
section
namespace Go.Proofs.YthbhkkdaaipngaaGreatDoor.Sim
open Go Go.RowKit Go.Deep
set_option maxRecDepth 100000
set_option maxHeartbeats 4000000
set_option linter.unusedVariables false
set_option linter.unusedSimpArgs false
attribute [local irreducible] Go Mean
theorem queriesC_4 (p : Int) (deg rows ix : Nat) (hf : fieldB p = true) (hsp : 4 < p) (h5 : 1 ≤ deg) (h6 : deg < 4) (h1 : 1 ≤ rows) (h2 : rows ≤ 1024) (hix : ix < rows) (nums : List Int) (at_ : Nat) (ht : TapeOK nums at_ p (rows * deg)) :
    Does Tryz.prog 12 [.ag [I p], .ag [I 4, I deg], I rows, I ix, .ag [.d (dInts nums), I at_]] [] (.tu [.d (dRows [colQ p (cfQ ix deg (drwF nums at_ (rows * deg))) 0 rows, colQ p (cfQ ix deg (drwF nums at_ (rows * deg))) 1 rows, colQ p (cfQ ix deg (drwF nums at_ (rows * deg))) 2 rows, colQ p (cfQ ix deg (drwF nums at_ (rows * deg))) 3 rows]), .ag [.d (dInts nums), I (at_ + rows * deg : Nat)], I 0]) [] [] := by
  refine go_curve_Queries rfl BxOK.nil fun cx hm0 => Awp.seal (go_in 5000 ?_)
  unfold ac_curve_Queries rs_curve_Queries
  have hp := (fieldB_iff.1 hf).1
  have hp2 := (fieldB_iff.1 hf).2.1
  have e1 := checkRows p 4 deg rows hf ⟨by omega, by omega, by omega, by omega⟩ hsp (by omega) (by omega)
  have hrd : rows * deg ≤ 1024 * 10 := Nat.mul_le_mul h2 (by omega)
  have w0 : IntKind.i64.wrap ((rows : Int) * (deg : Int)) = ((rows * deg : Nat) : Int) := by rw [← Int.natCast_mul]; exact IntWalk.i64_in _ (by omega)
  have e0 := drawsT nums at_ p (rows * deg) ht.len (by omega) (by omega) ht.dr
  have hdi := drw_in ht.dr
  have hdl := drw_len ht.dr
  have hdd : (nums.drop at_).take (rows * deg) = drwF nums at_ (rows * deg) := rfl
  rw [hdd] at e0
  have htl := ht.len
  have hdo := ht.dr.1
  generalize drwF nums at_ (rows * deg) = dr at *
  have q1 : decide ((ix : Int) < 0) = false := decide_eq_false (by omega)
  have q2 : decide ((rows : Int) ≤ (ix : Int)) = false := decide_eq_false (by omega)
  repeat' (first | simp (maxSteps := 9999999) only [↓GE, PL, PP, EE, QQ, seval, q1, q2, w0] | (simp (disch := omega) only [IntWalk.i64_in]) | (refine go_brD (fun h => ?_) (fun h => ?_)) | (refine go_gsD aE (fun h => ?_) (fun h => ?_)) | (refine go_br (fun h => ?_) (fun h => ?_)) | (refine go_gs aE (fun h => ?_) (fun h => ?_)) | (apply go_call 5000 (e1) rfl rfl; iterate 4 (first | (exact CallForm.plain rfl) | exact aC)) | (apply go_call 5000 (e0) rfl rfl; iterate 4 (first | (exact CallForm.plain rfl) | exact aC)) | (with_reducible apply And.intro) | exact aG | fail)
  refine go_loopz 5000 hm0 (ι := {q : Nat × Nat // q.1 ≤ rows}) (fun i => [(2, I rows), (3, I ix), (5, .bp 5 0 0), (6, .bp 6 0 0), (9, .bp 9 0 0), (11, .bp 11 0 0), (15, .d (dInts dr)), (17, .ep 59 0 4 1), (60, I rows), (61, I i.1.1)]) (fun i => [(5, .box 0 [I p]), (6, .box 0 [I 4, I deg]), (9, .box 0 [.d (dInts nums), I at_]), (11, .box 0 [.nl 1, I 0]), (59, .box 0 [.og 5000 i.1.2, .og 5001 i.1.2, .og 5002 i.1.2, .og 5003 i.1.2]), (5000, .arr i.1.2 1 true ((colQ p (cfQ ix deg dr) 0 i.1.1).map eI)), (5001, .arr i.1.2 1 true ((colQ p (cfQ ix deg dr) 1 i.1.1).map eI)), (5002, .arr i.1.2 1 true ((colQ p (cfQ ix deg dr) 2 i.1.1).map eI)), (5003, .arr i.1.2 1 true ((colQ p (cfQ ix deg dr) 3 i.1.1).map eI))]) (fun i => rows - i.1.1) [] [5000, 5001, 5002, 5003] ⟨(0, 0), Nat.zero_le _⟩ ?_ ?_
  · simp only [GeZ]; (simp only [GeS]; refine ⟨?_, ?_, ?_, ?_⟩; all_goals (repeat' (first | (with_reducible exact True.intro) | (with_reducible rfl) | simp only [XC, ↓reduceIte, seval] | (with_reducible apply And.intro) | (refine ⟨_, rfl, ?_⟩) | (simp [colQ]; done) | exact aS | fail)))
  rintro ⟨⟨i, v⟩, hi⟩
  simp only at hi
  by_cases hir : i < rows
  · have q3 : decide ((i : Int) < (rows : Int)) = true := decide_eq_true (by omega)
    have hid : (i + 1) * deg = i * deg + deg := by rw [Nat.add_mul, Nat.one_mul]
    have hle : (i + 1) * deg ≤ rows * deg := Nat.mul_le_mul_right _ hir
    have w1 : IntKind.i64.wrap ((i : Int) + 1) = ((i + 1 : Nat) : Int) := by rw [IntWalk.i64_in _ (by omega)]; omega
    have w2 : IntKind.i64.wrap ((i : Int) * (deg : Int)) = ((i * deg : Nat) : Int) := by rw [← Int.natCast_mul]; exact IntWalk.i64_in _ (by omega)
    have w3 : IntKind.i64.wrap (((i + 1 : Nat) : Int) * (deg : Int)) = (((i + 1) * deg : Nat) : Int) := by rw [← Int.natCast_mul]; exact IntWalk.i64_in _ (by omega)
    have e2 := splitT p (if i = ix then 1 else 0) deg 4 ((dr.take ((i + 1) * deg)).drop (i * deg)) 0 hf (by split <;> omega) (by omega) (by omega) (by omega) (by omega) (by rw [List.length_drop, List.length_take]; omega) (part_ok hdi (by omega))
    have hnl : ((dr.take ((i + 1) * deg)).drop (i * deg)).length = deg := by rw [List.length_drop, List.length_take]; omega
    rw [show (if i = ix then 1 else 0) :: (((dr.take ((i + 1) * deg)).drop (i * deg)).drop 0).take deg = cfQ ix deg dr i by rw [cfQ, List.drop_zero, List.take_of_length_le (by omega)]] at e2
    have hmt : (dr.map eI).take ((i + 1) * deg) = (dr.take ((i + 1) * deg)).map eI := List.map_take.symm
    have hmd : ((dr.take ((i + 1) * deg)).map eI).drop (i * deg) = ((dr.take ((i + 1) * deg)).drop (i * deg)).map eI := List.map_drop.symm
    have hlo : i * deg ≤ (i + 1) * deg := by omega
    have hhi : (i + 1) * deg ≤ dr.length := by omega
    have hsl : (shareF p (cfQ ix deg dr i) (ptsF 4)).length = 4 := by rw [shareF_len, ptsF_len]
    have hN0 : (colQ p (cfQ ix deg dr) 0 (i + 1)).map eI = (colQ p (cfQ ix deg dr) 0 i).map eI ++ [eI (valF p (cfQ ix deg dr i) 1)] := by rw [colQ, List.map_append]; rfl
    have hl0 := colQ_len (p := p) (cf := (cfQ ix deg dr)) (k := 0) (i := i)
    have hs0 : ((shareF p (cfQ ix deg dr i) (ptsF 4)).map eS).getD 0 [] = [.at (.int .i64 1), .at (.int .i64 (valF p (cfQ ix deg dr i) 1))] := by rw [getD_map eS [] (0, 0) _ _ (by rw [shareF_len, ptsF_len]; omega), shareF_get (by omega)]; rfl
    have hN1 : (colQ p (cfQ ix deg dr) 1 (i + 1)).map eI = (colQ p (cfQ ix deg dr) 1 i).map eI ++ [eI (valF p (cfQ ix deg dr i) 2)] := by rw [colQ, List.map_append]; rfl
    have hl1 := colQ_len (p := p) (cf := (cfQ ix deg dr)) (k := 1) (i := i)
    have hs1 : ((shareF p (cfQ ix deg dr i) (ptsF 4)).map eS).getD 1 [] = [.at (.int .i64 2), .at (.int .i64 (valF p (cfQ ix deg dr i) 2))] := by rw [getD_map eS [] (0, 0) _ _ (by rw [shareF_len, ptsF_len]; omega), shareF_get (by omega)]; rfl
    have hN2 : (colQ p (cfQ ix deg dr) 2 (i + 1)).map eI = (colQ p (cfQ ix deg dr) 2 i).map eI ++ [eI (valF p (cfQ ix deg dr i) 3)] := by rw [colQ, List.map_append]; rfl
    have hl2 := colQ_len (p := p) (cf := (cfQ ix deg dr)) (k := 2) (i := i)
    have hs2 : ((shareF p (cfQ ix deg dr i) (ptsF 4)).map eS).getD 2 [] = [.at (.int .i64 3), .at (.int .i64 (valF p (cfQ ix deg dr i) 3))] := by rw [getD_map eS [] (0, 0) _ _ (by rw [shareF_len, ptsF_len]; omega), shareF_get (by omega)]; rfl
    have hN3 : (colQ p (cfQ ix deg dr) 3 (i + 1)).map eI = (colQ p (cfQ ix deg dr) 3 i).map eI ++ [eI (valF p (cfQ ix deg dr i) 4)] := by rw [colQ, List.map_append]; rfl
    have hl3 := colQ_len (p := p) (cf := (cfQ ix deg dr)) (k := 3) (i := i)
    have hs3 : ((shareF p (cfQ ix deg dr i) (ptsF 4)).map eS).getD 3 [] = [.at (.int .i64 4), .at (.int .i64 (valF p (cfQ ix deg dr i) 4))] := by rw [getD_map eS [] (0, 0) _ _ (by rw [shareF_len, ptsF_len]; omega), shareF_get (by omega)]; rfl
    generalize cfQ ix deg dr i = cf at *
    apply join_on (α := Unit) (C := fun _ => True)
    · intro hkey
      obtain ⟨un, -⟩ : ∃ un : Unit, True := ⟨(), trivial⟩
      by_cases hii : i = ix
      all_goals
        first
        | have hq : ((i : Int) == (ix : Int)) = true := by rw [beq_iff_eq]; omega
          have e2' := e2
          rw [if_pos hii] at e2'
        | have hq : ((i : Int) == (ix : Int)) = false := by rw [beq_eq_false_iff_ne]; omega
          have e2' := e2
          rw [if_neg hii] at e2'
      all_goals
        repeat' (first | simp (maxSteps := 9999999) only [↓GE, PL, PP, EE, QQ, seval, q3, hq, w1, w2, w3, hmt, hmd, hlo, hhi, hsl, List.length_map] | (simp (disch := omega) only [IntWalk.i64_in]) | (refine go_brD (fun h => ?_) (fun h => ?_)) | (refine go_gsD aE (fun h => ?_) (fun h => ?_)) | (refine go_br (fun h => ?_) (fun h => ?_)) | (refine go_gs aE (fun h => ?_) (fun h => ?_)) | (apply go_call 5000 (e2') rfl rfl; iterate 4 (first | (exact CallForm.plain rfl) | exact aC)) | (with_reducible apply And.intro) | exact aG | fail)
      all_goals
        refine awp_meet hm0 [] [] [(2, I rows), (3, I ix), (5, .bp 5 0 0), (6, .bp 6 0 0), (9, .bp 9 0 0), (11, .bp 11 0 0), (15, .d (dInts dr)), (17, .ep 59 0 4 1), (60, I rows), (61, I i), (94, .d (dShares (shareF p cf (ptsF 4)))), (95, I 4), (96, I 0)] [(5, .box 0 [I p]), (6, .box 0 [I 4, I deg]), (9, .box 0 [.d (dInts nums), I at_]), (11, .box 0 [.nl 1, I 0]), (59, .box 0 [.og 5000 v, .og 5001 v, .og 5002 v, .og 5003 v]), (5000, .arr v 1 true ((colQ p (cfQ ix deg dr) 0 i).map eI)), (5001, .arr v 1 true ((colQ p (cfQ ix deg dr) 1 i).map eI)), (5002, .arr v 1 true ((colQ p (cfQ ix deg dr) 2 i).map eI)), (5003, .arr v 1 true ((colQ p (cfQ ix deg dr) 3 i).map eI))] ?_ (hkey un trivial)
        simp only [GeZ]; exact aH
    intro _ _
    refine go_loop 5000 hm0 (ι := {c : Nat // c ≤ 4}) (fun c => [(2, I rows), (3, I ix), (5, .bp 5 0 0), (6, .bp 6 0 0), (9, .bp 9 0 0), (11, .bp 11 0 0), (15, .d (dInts dr)), (17, .ep 59 0 4 1), (60, I rows), (61, I i), (94, .d (dShares (shareF p cf (ptsF 4)))), (95, I 4), (96, I c.1)]) (fun c => [(5, .box 0 [I p]), (6, .box 0 [I 4, I deg]), (9, .box 0 [.d (dInts nums), I at_]), (11, .box 0 [.nl 1, I 0]), (59, .box 0 [.og 5000 (v + if 0 < c.1 then 1 else 0), .og 5001 (v + if 1 < c.1 then 1 else 0), .og 5002 (v + if 2 < c.1 then 1 else 0), .og 5003 (v + if 3 < c.1 then 1 else 0)]), (5000, .arr (v + if 0 < c.1 then 1 else 0) 1 true (if 0 < c.1 then (colQ p (cfQ ix deg dr) 0 (i + 1)).map eI else (colQ p (cfQ ix deg dr) 0 i).map eI)), (5001, .arr (v + if 1 < c.1 then 1 else 0) 1 true (if 1 < c.1 then (colQ p (cfQ ix deg dr) 1 (i + 1)).map eI else (colQ p (cfQ ix deg dr) 1 i).map eI)), (5002, .arr (v + if 2 < c.1 then 1 else 0) 1 true (if 2 < c.1 then (colQ p (cfQ ix deg dr) 2 (i + 1)).map eI else (colQ p (cfQ ix deg dr) 2 i).map eI)), (5003, .arr (v + if 3 < c.1 then 1 else 0) 1 true (if 3 < c.1 then (colQ p (cfQ ix deg dr) 3 (i + 1)).map eI else (colQ p (cfQ ix deg dr) 3 i).map eI))]) (fun c => 4 - c.1) [] ⟨0, Nat.zero_le _⟩ ?_ ?_
    · exact aH
    rintro ⟨c, hc⟩
    have hcs : c = 0 ∨ c = 1 ∨ c = 2 ∨ c = 3 ∨ c = 4 := by omega
    rcases hcs with rfl | rfl | rfl | rfl | rfl
    · repeat' (first | simp (maxSteps := 9999999) only [↓GE, PL, PP, EE, QQ, seval, hs0, hl0, hsl, List.length_map] | (simp (disch := omega) only [IntWalk.i64_in]) | (refine go_brD (fun h => ?_) (fun h => ?_)) | (refine go_gsD aE (fun h => ?_) (fun h => ?_)) | (refine go_br (fun h => ?_) (fun h => ?_)) | (refine go_gs aE (fun h => ?_) (fun h => ?_)) | (with_reducible apply And.intro) | exact aG | fail)
      refine ⟨⟨1, by omega⟩, ?_, by simp only; omega⟩
      (simp only [GeS]; refine ⟨?_, ?_, ?_, ?_⟩; all_goals (repeat' (first | (with_reducible exact True.intro) | (with_reducible rfl) | simp only [XC, ↓reduceIte, seval] | (with_reducible apply And.intro) | (refine ⟨_, rfl, ?_⟩) | (simp [hN0, eI]; done) | exact aS | fail)))
    · repeat' (first | simp (maxSteps := 9999999) only [↓GE, PL, PP, EE, QQ, seval, hs1, hl1, hsl, List.length_map] | (simp (disch := omega) only [IntWalk.i64_in]) | (refine go_brD (fun h => ?_) (fun h => ?_)) | (refine go_gsD aE (fun h => ?_) (fun h => ?_)) | (refine go_br (fun h => ?_) (fun h => ?_)) | (refine go_gs aE (fun h => ?_) (fun h => ?_)) | (with_reducible apply And.intro) | exact aG | fail)
      refine ⟨⟨2, by omega⟩, ?_, by simp only; omega⟩
      (simp only [GeS]; refine ⟨?_, ?_, ?_, ?_⟩; all_goals (repeat' (first | (with_reducible exact True.intro) | (with_reducible rfl) | simp only [XC, ↓reduceIte, seval] | (with_reducible apply And.intro) | (refine ⟨_, rfl, ?_⟩) | (simp [hN1, eI]; done) | exact aS | fail)))
    · repeat' (first | simp (maxSteps := 9999999) only [↓GE, PL, PP, EE, QQ, seval, hs2, hl2, hsl, List.length_map] | (simp (disch := omega) only [IntWalk.i64_in]) | (refine go_brD (fun h => ?_) (fun h => ?_)) | (refine go_gsD aE (fun h => ?_) (fun h => ?_)) | (refine go_br (fun h => ?_) (fun h => ?_)) | (refine go_gs aE (fun h => ?_) (fun h => ?_)) | (with_reducible apply And.intro) | exact aG | fail)
      refine ⟨⟨3, by omega⟩, ?_, by simp only; omega⟩
      (simp only [GeS]; refine ⟨?_, ?_, ?_, ?_⟩; all_goals (repeat' (first | (with_reducible exact True.intro) | (with_reducible rfl) | simp only [XC, ↓reduceIte, seval] | (with_reducible apply And.intro) | (refine ⟨_, rfl, ?_⟩) | (simp [hN2, eI]; done) | exact aS | fail)))
    · repeat' (first | simp (maxSteps := 9999999) only [↓GE, PL, PP, EE, QQ, seval, hs3, hl3, hsl, List.length_map] | (simp (disch := omega) only [IntWalk.i64_in]) | (refine go_brD (fun h => ?_) (fun h => ?_)) | (refine go_gsD aE (fun h => ?_) (fun h => ?_)) | (refine go_br (fun h => ?_) (fun h => ?_)) | (refine go_gs aE (fun h => ?_) (fun h => ?_)) | (with_reducible apply And.intro) | exact aG | fail)
      refine ⟨⟨4, by omega⟩, ?_, by simp only; omega⟩
      (simp only [GeS]; refine ⟨?_, ?_, ?_, ?_⟩; all_goals (repeat' (first | (with_reducible exact True.intro) | (with_reducible rfl) | simp only [XC, ↓reduceIte, seval] | (with_reducible apply And.intro) | (refine ⟨_, rfl, ?_⟩) | (simp [hN3, eI]; done) | exact aS | fail)))
    · repeat' (first | simp (maxSteps := 9999999) only [↓GE, PL, PP, EE, QQ, seval] | (simp (disch := omega) only [IntWalk.i64_in]) | (refine go_brD (fun h => ?_) (fun h => ?_)) | (refine go_gsD aE (fun h => ?_) (fun h => ?_)) | (refine go_br (fun h => ?_) (fun h => ?_)) | (refine go_gs aE (fun h => ?_) (fun h => ?_)) | (with_reducible apply And.intro) | exact aG | fail)
      refine ⟨[], [], ⟨(i + 1, v + 1), hir⟩, ?_, by simp only; omega⟩
      simp only [GeZ]; exact aH
  · obtain rfl : i = rows := by omega
    have q3 : decide ((i : Int) < (i : Int)) = false := decide_eq_false (by omega)
    have w4 : IntKind.i64.wrap ((at_ : Int) + ((i * deg : Nat) : Int)) = ((at_ + i * deg : Nat) : Int) := by rw [IntWalk.i64_in _ (by omega)]; omega
    repeat' (first | simp (maxSteps := 9999999) only [↓GE, PL, PP, EE, QQ, seval, q3, hdl, w4, List.length_map] | (simp (disch := omega) only [IntWalk.i64_in]) | (refine go_brD (fun h => ?_) (fun h => ?_)) | (refine go_gsD aE (fun h => ?_) (fun h => ?_)) | (refine go_br (fun h => ?_) (fun h => ?_)) | (refine go_gs aE (fun h => ?_) (fun h => ?_)) | (with_reducible apply And.intro) | exact aG | fail)
    refine seal_mk 10 59 (v := 0) (n := 4) (q := 1) (cs := [.og 5000 v, .og 5001 v, .og 5002 v, .og 5003 v]) (ds := [dInts (colQ p (cfQ ix deg dr) 0 i), dInts (colQ p (cfQ ix deg dr) 1 i), dInts (colQ p (cfQ ix deg dr) 2 i), dInts (colQ p (cfQ ix deg dr) 3 i)]) ?_ ?_ rfl (by simp [maxLen]) ?_ ?_ ?_
    · exact aR
    · exact aR
    · exact aR
    · exact aR
    · ((first | apply ret_mk [] | apply end_mk []); (· exact aR); (· exact aZ); all_goals exact aF)
end Go.Proofs.YthbhkkdaaipngaaGreatDoor.Sim
end
section
namespace Go.Proofs.YthbhkkdaaipngaaGreatDoor.Sim
open Go Go.RowKit Go.Deep
set_option maxRecDepth 100000
set_option maxHeartbeats 8000000
set_option linter.unusedVariables false
set_option linter.unusedSimpArgs false
attribute [local irreducible] Go Mean
theorem ordF_len {l : List Int} : ∀ {f : Nat} {rest : List Int} {k : Nat}, rest.length = f → (ordF l f rest k).1.length = f
  | 0, rest, k, h => rfl
  | f + 1, rest, k, h => by
    rw [ordF_step (by omega)]
    have := ordR_len (l := l) (rest := rest) (k := k) (by omega)
    simp only [List.length_cons]
    rw [ordF_len (by omega)]
theorem ord4 (l : List Int) (k : Nat) : ∃ (s1 s2 : Nat) (x y : Int), (ordF l 4 (upTo 4) k).1 = [(s1 : Int), (s2 : Int), x, y] ∧ s1 < 4 ∧ s2 < 4 ∧ s1 ≠ s2 := by
  obtain ⟨s1, s2, t, h, h1, h2, h3⟩ := ord2 l k
  have hl := ordF_len (l := l) (f := 4) (rest := upTo 4) (k := k) rfl
  rw [h] at hl
  match t, hl with
  | [x, y], _ => exact ⟨s1, s2, x, y, h, h1, h2, h3⟩
theorem limC (n : Nat) : limOK (List.replicate n 5) := fun x hx => by rw [List.eq_of_mem_replicate hx]; omega
/-- A read of degree 2 of four servers. -/
theorem query4 (n ix K : Nat) (hn : n = 1 ∨ n = 2) (hix : ix < n) :
    Does Tryz.prog 12 [.ag [I 5], .ag [I 4, I 2], I n, I ix, .ag [.d (dInts (drC n K)), I 0]] [] (.tu [.d (dRows (qsC n ix K)), .ag [.d (dInts (drC n K)), I (n * 2 : Nat)], I 0]) [] [] := by
  have hl : (drC n K).length = n * 2 := by rw [drC, atF_len, List.length_replicate]
  have hin : (drC n K).all (inE 5) = true := atF_in (by decide) _ _
  have h := queriesC_4 5 2 n ix field5 (by decide) (by decide) (by decide) (by omega) (by omega) hix (drC n K) 0 (tapeOK_of hin (by omega) (by omega))
  have hd : drwF (drC n K) 0 (n * 2) = drC n K := by rw [drwF, List.drop_zero, List.take_of_length_le (by omega)]
  rw [hd, Nat.zero_add] at h
  exact h
theorem qsC_get (n ix K s : Nat) (hs : s < 4) : (qsC n ix K).getD s [] = colQ 5 (cfQ ix 2 (drC n K)) s n := by
  have hc : s = 0 ∨ s = 1 ∨ s = 2 ∨ s = 3 := by omega
  rcases hc with rfl | rfl | rfl | rfl <;> rfl
theorem colQ5 {n ix K s : Nat} (hs : s < 4) : (colQ 5 (cfQ ix 2 (drC n K)) s n).all (inE 5) = true :=
  colQ_all (by decide) (by omega) (cfQ_in (by decide) (atF_in (by decide) _ _))
theorem pow5_le {a : Nat} (h : a ≤ 2) : (5 : Int) ^ a ≤ 25 := by
  have hc : a = 0 ∨ a = 1 ∨ a = 2 := by omega
  rcases hc with rfl | rfl | rfl <;> decide
theorem vw5_small {v : Int} {l : List Int} {j : Nat} (h : l.all (inE 5) = true) (hj : j ≤ 2) (h0 : 0 ≤ v) (h1 : v < 25) : 0 ≤ vwL 5 v (l.take j) ∧ vwL 5 v (l.take j) < 625 := by
  have := vwL_in (b := 5) (by decide) (l := l.take j) (v := v) (M := 25) (take_in h) h0 h1
  refine ⟨this.1, Int.lt_of_lt_of_le this.2 ?_⟩
  have hl : (l.take j).length ≤ 2 := by rw [List.length_take]; omega
  have h3 := pow5_le hl
  omega
theorem vw5_25 {l : List Int} (h : l.all (inE 5) = true) (hl : l.length ≤ 2) : 0 ≤ vwL 5 0 l ∧ vwL 5 0 l < 25 := by
  have h1 := vwL_in (b := 5) (by decide) (l := l) (v := 0) (M := 1) h (by decide) (by decide)
  have h2 := pow5_le hl
  omega
theorem topCoal (l : List Int) (a b : Int) (hl : l.length ≤ 17592186044416) (ha : 0 ≤ a ∧ a ≤ 255) (hb : 0 ≤ b ∧ b ≤ 255) :
    Does Tryz.prog 4 [.d (dInts l), .d (.at (.int .u8 a)), .d (.at (.int .u8 b))] [] (B true) [] [] := by
  refine go_top_TopCoalitions rfl BxOK.nil fun cx hm0 => go_in 5000 ?_
  unfold ac_top_TopCoalitions rs_top_TopCoalitions
  have e1 := few l hl
  rcases Nat.lt_or_ge 500 l.length with hf | hf
  · rw [decide_eq_false (by omega)] at e1
    repeat' (first | simp (maxSteps := 9999999) only [↓GE, PL, PP, EE, QQ, seval] | (simp (disch := omega) only [IntWalk.i64_in]) | (refine go_brD (fun h => ?_) (fun h => ?_)) | (refine go_gsD aE (fun h => ?_) (fun h => ?_)) | (refine go_br (fun h => ?_) (fun h => ?_)) | (refine go_gs aE (fun h => ?_) (fun h => ?_)) | (apply go_call 5000 (awakeT) rfl rfl; iterate 4 (first | (exact CallForm.plain rfl) | exact aC)) | (apply go_call 5000 (e1) rfl rfl; iterate 4 (first | (exact CallForm.plain rfl) | exact aC)) | (with_reducible apply And.intro) | exact aG | fail)
    all_goals ((first | apply ret_mk [] | apply end_mk []); (· exact aR); (· exact aZ); all_goals exact aF)
  rw [decide_eq_true hf] at e1
  have e2 := makeNew l
  obtain ⟨x0, hx0, hx0b⟩ : ∃ x, x = nextV l 0 2 ∧ 0 ≤ x ∧ x < 2 := ⟨_, rfl, by
    unfold nextV
    split
    · omega
    · exact ⟨Int.emod_nonneg _ (by omega), Int.emod_lt_of_pos _ (by omega)⟩⟩
  have e3 := (next l hl 0 2 (by omega)).nm1 43000 0 (by omega) rfl rfl rfl rfl rfl
  rw [← hx0] at e3
  obtain ⟨n, hnx⟩ : ∃ n : Nat, (n : Int) = 1 + x0 := ⟨(1 + x0).toNat, by omega⟩
  have hn : n = 1 ∨ n = 2 := by omega
  have w1 : IntKind.i64.wrap (1 + x0) = (n : Int) := by rw [IntWalk.i64_in _ (by omega)]; omega
  have e4 := limitsT 5 4 2 n 2 rfl field5 ⟨by decide, by decide, by decide, by decide⟩ (by decide) (by omega) (by omega)
  have hlo := limC (n * 2)
  have hll : (List.replicate (n * 2) (5 : Int)).length = n * 2 := List.length_replicate
  obtain ⟨NT, hNT⟩ : ∃ NT : Nat, NT = 25 ^ n := ⟨_, rfl⟩
  have hNb : 1 ≤ NT ∧ NT ≤ 625 := by rcases hn with rfl | rfl <;> omega
  have hpr : prodL (List.replicate (n * 2) 5) = (NT : Int) := by rw [prod_rep, hNT]; rcases hn with rfl | rfl <;> rfl
  have e5 := countTape (List.replicate (n * 2) 5) (by omega) hlo (by omega)
  rw [hpr] at e5
  have q1 : decide ((700 : Int) < (NT : Int)) = false := decide_eq_false (by omega)
  repeat' (first | simp (maxSteps := 9999999) only [↓GE, PL, PP, EE, QQ, seval, w1] | (simp (disch := omega) only [IntWalk.i64_in]) | (refine go_brD (fun h => ?_) (fun h => ?_)) | (refine go_gsD aE (fun h => ?_) (fun h => ?_)) | (refine go_br (fun h => ?_) (fun h => ?_)) | (refine go_gs aE (fun h => ?_) (fun h => ?_)) | (apply go_call 5000 (awakeT) rfl rfl; iterate 4 (first | (exact CallForm.plain rfl) | exact aC)) | (apply go_call 5000 (e1) rfl rfl; iterate 4 (first | (exact CallForm.plain rfl) | exact aC)) | (apply go_call 5000 (e2) rfl rfl; iterate 4 (first | (exact CallForm.news rfl rfl) | exact aC)) | (apply go_call 5000 (e3) rfl rfl; iterate 4 (first | (exact CallForm.lent aL rfl rfl) | exact aC)) | (apply go_call 5000 (e4) rfl rfl; iterate 4 (first | (exact CallForm.plain rfl) | exact aC)) | (apply go_call 5000 (e5) rfl rfl; iterate 4 (first | (exact CallForm.plain rfl) | exact aC)) | (with_reducible apply And.intro) | exact aG | fail)
  have e6 := orderT l hl (nextK l 0 2) 4 (by omega)
  obtain ⟨s1, s2, x, y, hs, hs1, hs2, hne⟩ := ord4 l (nextK l 0 2)
  rw [hs] at e6
  generalize (ordF l 4 (upTo 4) (nextK l 0 2)).2 = kq at *
  have e6' := e6.nm1 43000 0 (by omega) rfl rfl rfl rfl rfl
  have hz : (0 : Int) ≤ (NT : Int) := by omega
  repeat' (first | simp (maxSteps := 9999999) only [↓GE, PL, PP, EE, QQ, seval, q1, Int.toNat_natCast, eI] | (simp (disch := omega) only [IntWalk.i64_in]) | (refine go_brD (fun h => ?_) (fun h => ?_)) | (refine go_gsD aE (fun h => ?_) (fun h => ?_)) | (refine go_br (fun h => ?_) (fun h => ?_)) | (refine go_gs aE (fun h => ?_) (fun h => ?_)) | (apply go_call 5000 (e6') rfl rfl; iterate 4 (first | (exact CallForm.lent aL rfl rfl) | exact aC)) | (with_reducible apply And.intro) | exact aG | fail)
  clear e1 e2 e3 e4 e6 e6'
  obtain ⟨ia, hia, ra⟩ := rem_ok ha (n := n) (by omega)
  obtain ⟨ib, hib, rb⟩ := rem_ok hb (n := n) (by omega)
  have wa : IntKind.i64.wrap a = a := IntWalk.i64_in _ (by omega)
  have wb : IntKind.i64.wrap b = b := IntWalk.i64_in _ (by omega)
  obtain ⟨bA1, bA2⟩ := viewC_bij hn hia hs1 hs2 hne
  obtain ⟨bB1, bB2⟩ := viewC_bij hn hib hs1 hs2 hne
  rw [← hNT] at bA1 bA2 bB1 bB2
  refine go_loopz 5000 hm0 (ι := {K : Nat // K ≤ NT}) (fun K => [(1, .d (.at (.int .u8 a))), (2, .d (.at (.int .u8 b))), (8, .bp 8 0 0), (9, .bp 9 0 0), (10, I n), (11, .d (dInts (List.replicate (n * 2) 5))), (13, I NT), (15, .d (dInts [(s1 : Int), (s2 : Int)])), (16, .og 73 0), (17, .og 75 0), (18, I K.1)]) (fun K => [(8, .box 0 [I 5]), (9, .box 0 [I 4, I 2]), (73, .arr 0 1 true ((cntN (viewC n ia s1 s2) NT K.1).map eI)), (75, .arr 0 1 true ((cntN (viewC n ib s1 s2) NT K.1).map eI))]) (fun K => NT - K.1) [] [] ⟨0, Nat.zero_le _⟩ ?_ ?_
  · simp only [GeZ]; (simp only [GeS]; refine ⟨?_, ?_, ?_, ?_⟩; all_goals (repeat' (first | (with_reducible exact True.intro) | (with_reducible rfl) | simp only [XC, ↓reduceIte, seval] | (with_reducible apply And.intro) | (refine ⟨_, rfl, ?_⟩) | (simp [cntN, List.map_replicate, eI]; done) | exact aS | fail)))
  rintro ⟨K, hK⟩
  simp only
  by_cases hKN : K < NT
  · have r1 : decide ((K : Int) < (NT : Int)) = true := decide_eq_true (by omega)
    have u1 : IntKind.i64.wrap ((K : Int) + 1) = ((K + 1 : Nat) : Int) := by rw [IntWalk.i64_in _ (by omega)]; omega
    have e7 := atTape (List.replicate (n * 2) 5) K (by omega) hlo (by omega) (by omega) (by omega)
    have hdC : atF (List.replicate (n * 2) 5) (K : Int) = drC n K := rfl
    rw [hdC] at e7
    have eA := query4 n ia K hn hia
    have eB := query4 n ib K hn hib
    obtain ⟨vA, hvAd⟩ : ∃ x, x = viewC n ia s1 s2 K := ⟨_, rfl⟩
    obtain ⟨vB, hvBd⟩ : ∃ x, x = viewC n ib s1 s2 K := ⟨_, rfl⟩
    have bA := bA2 K hKN
    have bB := bB2 K hKN
    rw [← hvAd] at bA
    rw [← hvBd] at bB
    have hvA : vA = vwL 5 (vwL 5 0 (colQ 5 (cfQ ia 2 (drC n K)) s1 n)) (colQ 5 (cfQ ia 2 (drC n K)) s2 n) := hvAd
    have hvB : vB = vwL 5 (vwL 5 0 (colQ 5 (cfQ ib 2 (drC n K)) s1 n)) (colQ 5 (cfQ ib 2 (drC n K)) s2 n) := hvBd
    have hqa1 := qsC_get n ia K s1 hs1
    have hqa2 := qsC_get n ia K s2 hs2
    have hqb1 := qsC_get n ib K s1 hs1
    have hqb2 := qsC_get n ib K s2 hs2
    have iqa1 := colQ5 (n := n) (ix := ia) (K := K) hs1
    have iqa2 := colQ5 (n := n) (ix := ia) (K := K) hs2
    have iqb1 := colQ5 (n := n) (ix := ib) (K := K) hs1
    have iqb2 := colQ5 (n := n) (ix := ib) (K := K) hs2
    have lqa1 : (colQ 5 (cfQ ia 2 (drC n K)) s1 n).length = n := colQ_len
    have lqa2 : (colQ 5 (cfQ ia 2 (drC n K)) s2 n).length = n := colQ_len
    have lqb1 : (colQ 5 (cfQ ib 2 (drC n K)) s1 n).length = n := colQ_len
    have lqb2 : (colQ 5 (cfQ ib 2 (drC n K)) s2 n).length = n := colQ_len
    have hK25 : K < 25 ^ n := by omega
    obtain ⟨cw1, cw2⟩ := want_cols hn hK25 hia
    have eW := wantedT 5 4 2 n (qsC n ia K) field5 ⟨by decide, by decide, by decide, by decide⟩ (by decide) rfl (by omega) (by
      intro q hq
      obtain ⟨s, hs, rfl⟩ := List.getElem_of_mem hq
      have hs4 : s < 4 := hs
      have h1 := qsC_get n ia K s hs4
      rw [List.getD_eq_getElem?_getD, List.getElem?_eq_getElem hs] at h1
      simp only [Option.getD_some] at h1
      rw [h1]
      exact ⟨colQ_len, colQ5 hs4⟩) cw1
    rw [cw2] at eW
    have hQA4 : (qsC n ia K).length = 4 := rfl
    have hQB4 : (qsC n ib K).length = 4 := rfl
    generalize qsC n ia K = QA at *
    generalize qsC n ib K = QB at *
    generalize colQ 5 (cfQ ia 2 (drC n K)) s1 n = qa1 at *
    generalize colQ 5 (cfQ ia 2 (drC n K)) s2 n = qa2 at *
    generalize colQ 5 (cfQ ib 2 (drC n K)) s1 n = qb1 at *
    generalize colQ 5 (cfQ ib 2 (drC n K)) s2 n = qb2 at *
    have ha25 := vw5_25 iqa1 (by omega)
    have hb25 := vw5_25 iqb1 (by omega)
    obtain ⟨CA0, hCA⟩ : ∃ x, x = cntN (viewC n ia s1 s2) NT K := ⟨_, rfl⟩
    obtain ⟨CB0, hCB⟩ : ∃ x, x = cntN (viewC n ib s1 s2) NT K := ⟨_, rfl⟩
    have hlA : CA0.length = NT := by rw [hCA]; exact cntN_len
    have hlB : CB0.length = NT := by rw [hCB]; exact cntN_len
    have hleA := fun v => (show 0 ≤ CA0.getD v 0 ∧ CA0.getD v 0 ≤ (K : Int) by rw [hCA]; exact cntN_le)
    have hleB := fun v => (show 0 ≤ CB0.getD v 0 ∧ CB0.getD v 0 ≤ (K : Int) by rw [hCB]; exact cntN_le)
    have hCAn : cntN (viewC n ia s1 s2) NT (K + 1) = CA0.set vA.toNat (CA0.getD vA.toNat 0 + 1) := by rw [cntN, ← hCA, ← hvAd]
    have hCBn : cntN (viewC n ib s1 s2) NT (K + 1) = CB0.set vB.toNat (CB0.getD vB.toNat 0 + 1) := by rw [cntN, ← hCB, ← hvBd]
    rw [← hCA, ← hCB]
    have q2 : ((QA.length : Int) != 4) = false := by rw [hQA4]; rfl
    have q3 : ((QB.length : Int) != 4) = false := by rw [hQB4]; rfl
    repeat' (first | simp (maxSteps := 9999999) only [↓GE, PL, PP, EE, QQ, seval, r1, wa, ra] | (simp (disch := omega) only [IntWalk.i64_in]) | (refine go_brD (fun h => ?_) (fun h => ?_)) | (refine go_gsD aE (fun h => ?_) (fun h => ?_)) | (refine go_br (fun h => ?_) (fun h => ?_)) | (refine go_gs aE (fun h => ?_) (fun h => ?_)) | (apply go_call 5000 (e7) rfl rfl; iterate 4 (first | (exact CallForm.plain rfl) | exact aC)) | (with_reducible apply And.intro) | exact aG | fail)
    (apply go_call 5000 eA rfl rfl; iterate 4 (first | (exact CallForm.plain rfl) | exact aC))
    repeat' (first | simp (maxSteps := 9999999) only [↓GE, PL, PP, EE, QQ, seval, wb, rb] | (simp (disch := omega) only [IntWalk.i64_in]) | (refine go_brD (fun h => ?_) (fun h => ?_)) | (refine go_gsD aE (fun h => ?_) (fun h => ?_)) | (refine go_br (fun h => ?_) (fun h => ?_)) | (refine go_gs aE (fun h => ?_) (fun h => ?_)) | (with_reducible apply And.intro) | exact aG | fail)
    (apply go_call 5000 eB rfl rfl; iterate 4 (first | (exact CallForm.plain rfl) | exact aC))
    repeat' (first | simp (maxSteps := 9999999) only [↓GE, PL, PP, EE, QQ, seval, q2, q3, eI, List.length_map] | (simp (disch := omega) only [IntWalk.i64_in]) | (refine go_brD (fun h => ?_) (fun h => ?_)) | (refine go_gsD aE (fun h => ?_) (fun h => ?_)) | (refine go_br (fun h => ?_) (fun h => ?_)) | (refine go_gs aE (fun h => ?_) (fun h => ?_)) | (with_reducible apply And.intro) | exact aG | fail)
    refine go_loopz 5000 hm0 (ι := {j : Nat // j ≤ 2}) (fun j => [(1, .d (.at (.int .u8 a))), (2, .d (.at (.int .u8 b))), (8, .bp 8 0 0), (9, .bp 9 0 0), (10, I n), (11, .d (dInts (List.replicate (n * 2) 5))), (13, I NT), (15, .d (dInts [(s1 : Int), (s2 : Int)])), (16, .og 73 0), (17, .og 75 0), (18, I K), (21, .d (dRows QA)), (24, .d (dRows QB)), (133, .d (dInts [(s1 : Int), (s2 : Int)])), (134, I 2), (27, I (if j.1 = 0 then 0 else if j.1 = 1 then vwL 5 0 qa1 else vwL 5 (vwL 5 0 qa1) qa2)), (28, I (if j.1 = 0 then 0 else if j.1 = 1 then vwL 5 0 qb1 else vwL 5 (vwL 5 0 qb1) qb2)), (135, I j.1)]) (fun j => [(8, .box 0 [I 5]), (9, .box 0 [I 4, I 2]), (73, .arr 0 1 true (CA0.map eI)), (75, .arr 0 1 true (CB0.map eI))]) (fun j => 2 - j.1) [] [] ⟨0, by omega⟩ ?_ ?_
    · simp only [GeZ]; (simp only [GeS]; refine ⟨?_, ?_, ?_, ?_⟩; all_goals (repeat' (first | (with_reducible exact True.intro) | (with_reducible rfl) | simp only [XC, ↓reduceIte, seval] | (with_reducible apply And.intro) | (refine ⟨_, rfl, ?_⟩) | (simp [eI]; done) | exact aS | fail)))
    · rintro ⟨j, hj⟩
      have hjc : j = 0 ∨ j = 1 ∨ j = 2 := by omega
      simp only
      rcases hjc with rfl | rfl | rfl
      · simp only [show ¬ ((1 : Nat) = 0) by decide, ↓reduceIte]
        have hA1 := getD_map eR [] [] QA s1 (by omega)
        have hB1 := getD_map eR [] [] QB s1 (by omega)
        rw [hqa1] at hA1
        rw [hqb1] at hB1
        have hwA : s1 < QA.length := by omega
        have hwB : s1 < QB.length := by omega
        have q4 : ((n : Int) != (n : Int)) = false := by simp
        repeat' (first | simp (maxSteps := 9999999) only [↓GE, PL, PP, EE, QQ, seval, hA1, hB1, hwA, hwB, q4, lqa1, lqb1, eR, eI, List.length_map] | (simp (disch := omega) only [IntWalk.i64_in]) | (refine go_brD (fun h => ?_) (fun h => ?_)) | (refine go_gsD aE (fun h => ?_) (fun h => ?_)) | (refine go_br (fun h => ?_) (fun h => ?_)) | (refine go_gs aE (fun h => ?_) (fun h => ?_)) | (with_reducible apply And.intro) | exact aG | fail)
        refine go_loopz 5000 hm0 (ι := {m : Nat // m ≤ n}) (fun m => [(1, .d (.at (.int .u8 a))), (2, .d (.at (.int .u8 b))), (8, .bp 8 0 0), (9, .bp 9 0 0), (10, I n), (11, .d (dInts (List.replicate (n * 2) 5))), (13, I NT), (15, .d (dInts [(s1 : Int), (s2 : Int)])), (16, .og 73 0), (17, .og 75 0), (18, I K), (21, .d (dRows QA)), (24, .d (dRows QB)), (133, .d (dInts [(s1 : Int), (s2 : Int)])), (134, I 2), (30, I s1), (135, I 0), (159, I n), (27, I (vwL 5 0 (qa1.take m.1))), (28, I (vwL 5 0 (qb1.take m.1))), (160, I m.1)]) (fun m => [(8, .box 0 [I 5]), (9, .box 0 [I 4, I 2]), (73, .arr 0 1 true (CA0.map eI)), (75, .arr 0 1 true (CB0.map eI))]) (fun m => n - m.1) [] [] ⟨0, by omega⟩ ?_ ?_
        · simp only [GeZ]; (simp only [GeS]; refine ⟨?_, ?_, ?_, ?_⟩; all_goals (repeat' (first | (with_reducible exact True.intro) | (with_reducible rfl) | simp only [XC, ↓reduceIte, seval] | (with_reducible apply And.intro) | (refine ⟨_, rfl, ?_⟩) | (simp [vwL, eI]; done) | exact aS | fail)))
        · rintro ⟨m, hm⟩
          simp only
          by_cases hmn : m < n
          · have t1 : decide ((m : Int) < (n : Int)) = true := decide_eq_true (by omega)
            have u1' : IntKind.i64.wrap ((m : Int) + 1) = ((m + 1 : Nat) : Int) := by rw [IntWalk.i64_in _ (by omega)]; omega
            have hnA := vwL_next (b := 5) (v := 0) (l := qa1) (j := m) (by omega)
            have hnB := vwL_next (b := 5) (v := 0) (l := qb1) (j := m) (by omega)
            have bdA := vw5_small (v := 0) (l := qa1) (j := m) iqa1 (by omega) (by decide) (by decide)
            have bdB := vw5_small (v := 0) (l := qb1) (j := m) iqb1 (by omega) (by decide) (by decide)
            have dA := all_getD iqa1 (i := m) (by omega)
            have dB := all_getD iqb1 (i := m) (by omega)
            have hsA := getD_map eI [] 0 qa1 m (by omega)
            have hsB := getD_map eI [] 0 qb1 m (by omega)
            have hlA : m < qa1.length := by omega
            have hlB : m < qb1.length := by omega
            generalize qa1.getD m 0 = xa at *
            generalize qb1.getD m 0 = xb at *
            generalize vwL 5 0 (qa1.take m) = va at *
            generalize vwL 5 0 (qb1.take m) = vb at *
            have u2 : IntKind.i64.wrap (va * 5) = va * 5 := IntWalk.i64_in _ (by omega)
            have u3 : IntKind.i64.wrap (va * 5 + xa) = va * 5 + xa := IntWalk.i64_in _ (by omega)
            have u4 : IntKind.i64.wrap (vb * 5) = vb * 5 := IntWalk.i64_in _ (by omega)
            have u5 : IntKind.i64.wrap (vb * 5 + xb) = vb * 5 + xb := IntWalk.i64_in _ (by omega)
            repeat' (first | simp (maxSteps := 9999999) only [↓GE, PL, PP, EE, QQ, seval, t1, u1', u2, u3, u4, u5, hA1, hB1, hwA, hwB, hsA, hsB, hlA, hlB, eR, eI, List.length_map] | (simp (disch := omega) only [IntWalk.i64_in]) | (refine go_brD (fun h => ?_) (fun h => ?_)) | (refine go_gsD aE (fun h => ?_) (fun h => ?_)) | (refine go_br (fun h => ?_) (fun h => ?_)) | (refine go_gs aE (fun h => ?_) (fun h => ?_)) | (with_reducible apply And.intro) | exact aG | fail)
            refine ⟨[], [], ⟨m + 1, hmn⟩, ?_, by simp only; omega⟩
            simp only [GeZ]; (simp only [GeS]; refine ⟨?_, ?_, ?_, ?_⟩; all_goals (repeat' (first | (with_reducible exact True.intro) | (with_reducible rfl) | simp only [XC, ↓reduceIte, seval] | (with_reducible apply And.intro) | (refine ⟨_, rfl, ?_⟩) | (simp [hnA, hnB, eI]; done) | exact aS | fail)))
          · obtain rfl : m = n := by omega
            have t1 : decide ((m : Int) < (m : Int)) = false := decide_eq_false (by omega)
            have tA : qa1.take m = qa1 := List.take_of_length_le (by omega)
            have tB : qb1.take m = qb1 := List.take_of_length_le (by omega)
            rw [tA, tB]
            repeat' (first | simp (maxSteps := 9999999) only [↓GE, PL, PP, EE, QQ, seval, t1] | (simp (disch := omega) only [IntWalk.i64_in]) | (refine go_brD (fun h => ?_) (fun h => ?_)) | (refine go_gsD aE (fun h => ?_) (fun h => ?_)) | (refine go_br (fun h => ?_) (fun h => ?_)) | (refine go_gs aE (fun h => ?_) (fun h => ?_)) | (with_reducible apply And.intro) | exact aG | fail)
            refine ⟨[], [], ⟨1, by omega⟩, ?_, by simp only; omega⟩
            simp only [GeZ]; (simp only [GeS]; refine ⟨?_, ?_, ?_, ?_⟩; all_goals (repeat' (first | (with_reducible exact True.intro) | (with_reducible rfl) | simp only [XC, ↓reduceIte, seval] | (with_reducible apply And.intro) | (refine ⟨_, rfl, ?_⟩) | (simp [eI]; done) | exact aS | fail)))
      · simp only [show ¬ ((1 : Nat) = 0) by decide, ↓reduceIte]
        have hA1 := getD_map eR [] [] QA s2 (by omega)
        have hB1 := getD_map eR [] [] QB s2 (by omega)
        rw [hqa2] at hA1
        rw [hqb2] at hB1
        have hwA : s2 < QA.length := by omega
        have hwB : s2 < QB.length := by omega
        have q4 : ((n : Int) != (n : Int)) = false := by simp
        repeat' (first | simp (maxSteps := 9999999) only [↓GE, PL, PP, EE, QQ, seval, hA1, hB1, hwA, hwB, q4, lqa2, lqb2, eR, eI, List.length_map] | (simp (disch := omega) only [IntWalk.i64_in]) | (refine go_brD (fun h => ?_) (fun h => ?_)) | (refine go_gsD aE (fun h => ?_) (fun h => ?_)) | (refine go_br (fun h => ?_) (fun h => ?_)) | (refine go_gs aE (fun h => ?_) (fun h => ?_)) | (with_reducible apply And.intro) | exact aG | fail)
        refine go_loopz 5000 hm0 (ι := {m : Nat // m ≤ n}) (fun m => [(1, .d (.at (.int .u8 a))), (2, .d (.at (.int .u8 b))), (8, .bp 8 0 0), (9, .bp 9 0 0), (10, I n), (11, .d (dInts (List.replicate (n * 2) 5))), (13, I NT), (15, .d (dInts [(s1 : Int), (s2 : Int)])), (16, .og 73 0), (17, .og 75 0), (18, I K), (21, .d (dRows QA)), (24, .d (dRows QB)), (133, .d (dInts [(s1 : Int), (s2 : Int)])), (134, I 2), (30, I s2), (135, I 1), (159, I n), (27, I (vwL 5 (vwL 5 0 qa1) (qa2.take m.1))), (28, I (vwL 5 (vwL 5 0 qb1) (qb2.take m.1))), (160, I m.1)]) (fun m => [(8, .box 0 [I 5]), (9, .box 0 [I 4, I 2]), (73, .arr 0 1 true (CA0.map eI)), (75, .arr 0 1 true (CB0.map eI))]) (fun m => n - m.1) [] [] ⟨0, by omega⟩ ?_ ?_
        · simp only [GeZ]; (simp only [GeS]; refine ⟨?_, ?_, ?_, ?_⟩; all_goals (repeat' (first | (with_reducible exact True.intro) | (with_reducible rfl) | simp only [XC, ↓reduceIte, seval] | (with_reducible apply And.intro) | (refine ⟨_, rfl, ?_⟩) | (simp [vwL, eI]; done) | exact aS | fail)))
        · rintro ⟨m, hm⟩
          simp only
          by_cases hmn : m < n
          · have t1 : decide ((m : Int) < (n : Int)) = true := decide_eq_true (by omega)
            have u1' : IntKind.i64.wrap ((m : Int) + 1) = ((m + 1 : Nat) : Int) := by rw [IntWalk.i64_in _ (by omega)]; omega
            have hnA := vwL_next (b := 5) (v := (vwL 5 0 qa1)) (l := qa2) (j := m) (by omega)
            have hnB := vwL_next (b := 5) (v := (vwL 5 0 qb1)) (l := qb2) (j := m) (by omega)
            have bdA := vw5_small (v := (vwL 5 0 qa1)) (l := qa2) (j := m) iqa2 (by omega) ha25.1 ha25.2
            have bdB := vw5_small (v := (vwL 5 0 qb1)) (l := qb2) (j := m) iqb2 (by omega) hb25.1 hb25.2
            have dA := all_getD iqa2 (i := m) (by omega)
            have dB := all_getD iqb2 (i := m) (by omega)
            have hsA := getD_map eI [] 0 qa2 m (by omega)
            have hsB := getD_map eI [] 0 qb2 m (by omega)
            have hlA : m < qa2.length := by omega
            have hlB : m < qb2.length := by omega
            generalize qa2.getD m 0 = xa at *
            generalize qb2.getD m 0 = xb at *
            generalize vwL 5 (vwL 5 0 qa1) (qa2.take m) = va at *
            generalize vwL 5 (vwL 5 0 qb1) (qb2.take m) = vb at *
            have u2 : IntKind.i64.wrap (va * 5) = va * 5 := IntWalk.i64_in _ (by omega)
            have u3 : IntKind.i64.wrap (va * 5 + xa) = va * 5 + xa := IntWalk.i64_in _ (by omega)
            have u4 : IntKind.i64.wrap (vb * 5) = vb * 5 := IntWalk.i64_in _ (by omega)
            have u5 : IntKind.i64.wrap (vb * 5 + xb) = vb * 5 + xb := IntWalk.i64_in _ (by omega)
            repeat' (first | simp (maxSteps := 9999999) only [↓GE, PL, PP, EE, QQ, seval, t1, u1', u2, u3, u4, u5, hA1, hB1, hwA, hwB, hsA, hsB, hlA, hlB, eR, eI, List.length_map] | (simp (disch := omega) only [IntWalk.i64_in]) | (refine go_brD (fun h => ?_) (fun h => ?_)) | (refine go_gsD aE (fun h => ?_) (fun h => ?_)) | (refine go_br (fun h => ?_) (fun h => ?_)) | (refine go_gs aE (fun h => ?_) (fun h => ?_)) | (with_reducible apply And.intro) | exact aG | fail)
            refine ⟨[], [], ⟨m + 1, hmn⟩, ?_, by simp only; omega⟩
            simp only [GeZ]; (simp only [GeS]; refine ⟨?_, ?_, ?_, ?_⟩; all_goals (repeat' (first | (with_reducible exact True.intro) | (with_reducible rfl) | simp only [XC, ↓reduceIte, seval] | (with_reducible apply And.intro) | (refine ⟨_, rfl, ?_⟩) | (simp [hnA, hnB, eI]; done) | exact aS | fail)))
          · obtain rfl : m = n := by omega
            have t1 : decide ((m : Int) < (m : Int)) = false := decide_eq_false (by omega)
            have tA : qa2.take m = qa2 := List.take_of_length_le (by omega)
            have tB : qb2.take m = qb2 := List.take_of_length_le (by omega)
            rw [tA, tB]
            repeat' (first | simp (maxSteps := 9999999) only [↓GE, PL, PP, EE, QQ, seval, t1] | (simp (disch := omega) only [IntWalk.i64_in]) | (refine go_brD (fun h => ?_) (fun h => ?_)) | (refine go_gsD aE (fun h => ?_) (fun h => ?_)) | (refine go_br (fun h => ?_) (fun h => ?_)) | (refine go_gs aE (fun h => ?_) (fun h => ?_)) | (with_reducible apply And.intro) | exact aG | fail)
            refine ⟨[], [], ⟨2, by omega⟩, ?_, by simp only; omega⟩
            simp only [GeZ]; (simp only [GeS]; refine ⟨?_, ?_, ?_, ?_⟩; all_goals (repeat' (first | (with_reducible exact True.intro) | (with_reducible rfl) | simp only [XC, ↓reduceIte, seval] | (with_reducible apply And.intro) | (refine ⟨_, rfl, ?_⟩) | (simp [eI]; done) | exact aS | fail)))
      · simp only [show ¬ ((2 : Nat) = 0) by decide, show ¬ ((2 : Nat) = 1) by decide, ↓reduceIte]
        rw [← hvA, ← hvB]
        have q6 : decide (vA < 0) = false := decide_eq_false (by omega)
        have q7 : decide ((NT : Int) ≤ vA) = false := decide_eq_false (by omega)
        have q8 : decide (vB < 0) = false := decide_eq_false (by omega)
        have q9 : decide ((NT : Int) ≤ vB) = false := decide_eq_false (by omega)
        have hvtA : vA.toNat < CA0.length := by omega
        have hvtB : vB.toNat < CB0.length := by omega
        have hsA := getD_map eI [] 0 CA0 vA.toNat hvtA
        have hsB := getD_map eI [] 0 CB0 vB.toNat hvtB
        have hcA := hleA vA.toNat
        have hcB := hleB vB.toNat
        have u4 : IntKind.i64.wrap (CA0.getD vA.toNat 0 + 1) = CA0.getD vA.toNat 0 + 1 := IntWalk.i64_in _ (by omega)
        have u5 : IntKind.i64.wrap (CB0.getD vB.toNat 0 + 1) = CB0.getD vB.toNat 0 + 1 := IntWalk.i64_in _ (by omega)
        by_cases h50 : K % 50 = 0
        · have q10 : ((K : Int).tmod 50 == 0) = true := by rw [beq_iff_eq, Int.tmod_eq_emod_of_nonneg (by omega)]; omega
          have q11 : ((ia : Int) != (ia : Int)) = false := by simp
          repeat' (first | simp (maxSteps := 9999999) only [↓GE, PL, PP, EE, QQ, seval, q6, q7, q8, q9, q10, q11, hsA, hsB, hvtA, hvtB, u1, u4, u5, wa, ra, eI, List.length_map] | (simp (disch := omega) only [IntWalk.i64_in]) | (refine go_brD (fun h => ?_) (fun h => ?_)) | (refine go_gsD aE (fun h => ?_) (fun h => ?_)) | (refine go_br (fun h => ?_) (fun h => ?_)) | (refine go_gs aE (fun h => ?_) (fun h => ?_)) | (apply go_call 5000 (eW) rfl rfl; iterate 4 (first | (exact CallForm.plain rfl) | exact aC)) | (with_reducible apply And.intro) | exact aG | fail)
          refine ⟨[], [], ⟨K + 1, hKN⟩, ?_, by simp only; omega⟩
          simp only [GeZ]; (simp only [GeS]; refine ⟨?_, ?_, ?_, ?_⟩; all_goals (repeat' (first | (with_reducible exact True.intro) | (with_reducible rfl) | simp only [XC, ↓reduceIte, seval] | (with_reducible apply And.intro) | (refine ⟨_, rfl, ?_⟩) | (simp [hCAn, hCBn, List.map_set, eI]; done) | exact aS | fail)))
        · have q10 : ((K : Int).tmod 50 == 0) = false := by rw [beq_eq_false_iff_ne, Int.tmod_eq_emod_of_nonneg (by omega)]; omega
          repeat' (first | simp (maxSteps := 9999999) only [↓GE, PL, PP, EE, QQ, seval, q6, q7, q8, q9, q10, hsA, hsB, hvtA, hvtB, u1, u4, u5, eI, List.length_map] | (simp (disch := omega) only [IntWalk.i64_in]) | (refine go_brD (fun h => ?_) (fun h => ?_)) | (refine go_gsD aE (fun h => ?_) (fun h => ?_)) | (refine go_br (fun h => ?_) (fun h => ?_)) | (refine go_gs aE (fun h => ?_) (fun h => ?_)) | (with_reducible apply And.intro) | exact aG | fail)
          refine ⟨[], [], ⟨K + 1, hKN⟩, ?_, by simp only; omega⟩
          simp only [GeZ]; (simp only [GeS]; refine ⟨?_, ?_, ?_, ?_⟩; all_goals (repeat' (first | (with_reducible exact True.intro) | (with_reducible rfl) | simp only [XC, ↓reduceIte, seval] | (with_reducible apply And.intro) | (refine ⟨_, rfl, ?_⟩) | (simp [hCAn, hCBn, List.map_set, eI]; done) | exact aS | fail)))
  · obtain rfl : K = NT := by omega
    have r1 : decide ((K : Int) < (K : Int)) = false := decide_eq_false (by omega)
    rw [bA1, bB1]
    have e8 := sameI (List.replicate K 1) (List.replicate K 1) (by rw [List.length_replicate]; omega) (by rw [List.length_replicate]; omega)
    simp only [decide_true] at e8
    have hs0 := getD_map eI [] 0 (List.replicate K 1) 0 (by rw [List.length_replicate]; omega)
    have h1 : (List.replicate K (1 : Int)).getD 0 0 = 1 := by simp [List.getD_eq_getElem?_getD, List.getElem?_replicate, show 0 < K by omega]
    rw [h1] at hs0
    have hl0 : 0 < (List.replicate K (1 : Int)).length := by rw [List.length_replicate]; omega
    repeat' (first | simp (maxSteps := 9999999) only [↓GE, PL, PP, EE, QQ, seval, r1, hs0, hl0, eI, List.length_map] | (simp (disch := omega) only [IntWalk.i64_in]) | (refine go_brD (fun h => ?_) (fun h => ?_)) | (refine go_gsD aE (fun h => ?_) (fun h => ?_)) | (refine go_br (fun h => ?_) (fun h => ?_)) | (refine go_gs aE (fun h => ?_) (fun h => ?_)) | (apply go_call 5000 (e8) rfl rfl; iterate 4 (first | (exact CallForm.plain rfl) | exact aC)) | (with_reducible apply And.intro) | exact aG | fail)
    all_goals ((first | apply ret_mk [] | apply end_mk []); (· exact aR); (· exact aZ); all_goals exact aF)
end Go.Proofs.YthbhkkdaaipngaaGreatDoor.Sim
end
