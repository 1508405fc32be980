/- Steps: their bytes are put. -/
import Derived.Test.YtabfajhflaladaaKScA
namespace Go.Proofs.Ytabfajhflaladaa.Sim
open Go Go.RowKit
set_option maxRecDepth 100000
set_option maxHeartbeats 8000000
set_option linter.unusedVariables false
set_option linter.unusedSimpArgs false
attribute [local irreducible] Go Mean
open Go.Proofs.Ytabfajhflaladaa.Wire (putB putL putB_len)
def sel5 (a b c d e : List UInt8) : Nat → List UInt8
  | 0 => a
  | 1 => b
  | 2 => c
  | 3 => d
  | _ => e
def outS (b : List UInt8) (x : PSt) : List UInt8 := if chk x = true then b ++ encSt x else []
def outE (x : PSt) : Int := if chk x = true then 0 else 4
theorem putD (b : List UInt8) (x : PSt) (h : okSt x) (hb : b.length ≤ 100000000000) : Does Try.prog 10 [vS b, vSt x] [] (.tu [vS (outS b x), I (outE x)]) [] [] := by
  refine go_script_Put rfl BxOK.nil fun cx hm0 => go_in 5000 ?_
  unfold ac_script_Put rs_script_Put
  have e0 := checkD x h
  by_cases hc : chk x = true
  case neg =>
    have hp : outS b x = [] := by rw [outS, if_neg hc]
    have hq : outE x = 4 := by rw [outE, if_neg hc]
    rw [if_neg hc] at e0
    repeat' (first | simp (maxSteps := 9999999) only [↓GE, PL, PP, EE, QQ, seval] | (simp (disch := omega) only [IntWalk.i64_in]) | (refine go_brD (fun h => ?_) (fun h => ?_)) | (refine go_gsD (by ((try simp only [EE, QQ, seval]) <;> rfl)) (fun h => ?_) (fun h => ?_)) | (refine go_br (fun h => ?_) (fun h => ?_)) | (refine go_gs (by ((try simp only [EE, QQ, seval]) <;> rfl)) (fun h => ?_) (fun h => ?_)) | (apply go_call 5000 (e0) rfl rfl; iterate 4 (first | (exact CallForm.plain rfl) | ((try simp only [CC, LL, NM, EE, QQ, seval]) <;> (first | rfl | ((repeat constructor); done))))) | (with_reducible apply And.intro) | (with_reducible exact trivial) | omega | (simp only [List.length_map, List.length_cons, List.length_nil] at *; omega) | (show _ = true; first | rfl | kernel_rfl))
    all_goals ((first | apply ret_mk [] | apply end_mk []); (· ((try simp only [CC, LL, EE, QQ, seval]) <;> rfl)); (· ((try simp only [CC, LL, EE, QQ, seval]) <;> repeat' (first | (with_reducible apply And.intro) | rfl | trivial | (exact ⟨_, rfl⟩) | (exact ⟨_, _, _, rfl⟩) | (simp [*, hp, hq]; done) | (simp [*, hp, hq]; omega) | (simp_all [hp, hq]; done) | (simp_all [hp, hq]; omega)))); all_goals (first | trivial | decide | ((try simp only [CC, LL, EE, QQ, seval]) <;> repeat' (first | (with_reducible apply And.intro) | (exact ⟨_, rfl, rfl, rfl⟩) | (exact ⟨_, _, _, rfl⟩) | (exact ⟨_, rfl⟩) | trivial | rfl | (simp; done)))))
  rw [if_pos hc] at e0
  have hp : outS b x = b ++ encSt x := by rw [outS, if_pos hc]
  have hq : outE x = 0 := by rw [outE, if_pos hc]
  have hsl := h.slen
  have a1 := (putB_len h.kind.1 h.kind.2).1
  have a2 := (putB_len h.num.1 h.num.2).1
  have a3 := putL_len2 h.row h.len
  have a4 := (putB_len h.fr.1 h.fr.2).1
  have a5 := (putB_len h.tt.1 h.tt.2).1
  have a6 := (putB_len h.cnt.1 h.cnt.2).1
  have a7 := (putB_len (n := (x.sets.length : Int)) (by omega) (by omega)).1
  have hrl := h.len
  obtain ⟨P1, hP1⟩ : ∃ P1, P1 = b ++ putB x.kind := ⟨_, rfl⟩
  have l1 : P1.length ≤ b.length + 10 := by rw [hP1, List.length_append]; omega
  obtain ⟨P2, hP2⟩ : ∃ P2, P2 = P1 ++ putB x.num := ⟨_, rfl⟩
  have l2 : P2.length ≤ b.length + 20 := by rw [hP2, List.length_append]; omega
  obtain ⟨P3, hP3⟩ : ∃ P3, P3 = P2 ++ putL x.rows := ⟨_, rfl⟩
  have l3 : P3.length ≤ b.length + 20030 := by rw [hP3, List.length_append]; omega
  obtain ⟨P4, hP4⟩ : ∃ P4, P4 = P3 ++ putB x.fr := ⟨_, rfl⟩
  have l4 : P4.length ≤ b.length + 20040 := by rw [hP4, List.length_append]; omega
  obtain ⟨P5, hP5⟩ : ∃ P5, P5 = P4 ++ putB x.tt := ⟨_, rfl⟩
  have l5 : P5.length ≤ b.length + 20050 := by rw [hP5, List.length_append]; omega
  obtain ⟨P6, hP6⟩ : ∃ P6, P6 = P5 ++ putB x.cnt := ⟨_, rfl⟩
  have l6 : P6.length ≤ b.length + 20060 := by rw [hP6, List.length_append]; omega
  obtain ⟨P7, hP7⟩ : ∃ P7, P7 = P6 ++ putB (x.sets.length : Int) := ⟨_, rfl⟩
  have l7 : P7.length ≤ b.length + 20070 := by rw [hP7, List.length_append]; omega
  have e1 := wPutIntD b x.kind h.kind (by omega)
  have e2 := wPutIntD P1 x.num h.num (by omega)
  have e3 := wPutListD P2 x.rows h.row (by omega)
  have e4 := wPutIntD P3 x.fr h.fr (by omega)
  have e5 := wPutIntD P4 x.tt h.tt (by omega)
  have e6 := wPutIntD P5 x.cnt h.cnt (by omega)
  have e7 := wPutIntD P6 (x.sets.length : Int) ⟨by omega, by omega⟩ (by omega)
  rw [← hP1] at e1
  rw [← hP2] at e2
  rw [← hP3] at e3
  rw [← hP4] at e4
  rw [← hP5] at e5
  rw [← hP6] at e6
  rw [← hP7] at e7
  have hfin : b ++ encSt x = P7 ++ x.sets.flatMap encSe := by
    rw [hP7, hP6, hP5, hP4, hP3, hP2, hP1, encSt]; simp only [List.append_assoc]
  have hlk : ∀ k, ((x.sets.take k).flatMap encSe).length ≤ 40100000 := fun k => by
    have h1 := flatMap_le (f := encSe) (l := x.sets.take k) (m := 20020) fun s hs => encSe_len (h.set s (List.mem_of_mem_take hs))
    have h2 : (x.sets.take k).length * 20020 ≤ 2000 * 20020 := Nat.mul_le_mul_right _ (by rw [List.length_take]; omega)
    omega
  repeat' (first | simp (maxSteps := 9999999) only [↓GE, PL, PP, EE, QQ, seval, List.length_map] | (simp (disch := omega) only [IntWalk.i64_in]) | (refine go_brD (fun h => ?_) (fun h => ?_)) | (refine go_gsD (by ((try simp only [EE, QQ, seval]) <;> rfl)) (fun h => ?_) (fun h => ?_)) | (refine go_br (fun h => ?_) (fun h => ?_)) | (refine go_gs (by ((try simp only [EE, QQ, seval]) <;> rfl)) (fun h => ?_) (fun h => ?_)) | (apply go_call 5000 (e0) rfl rfl; iterate 4 (first | (exact CallForm.plain rfl) | ((try simp only [CC, LL, NM, EE, QQ, seval]) <;> (first | rfl | ((repeat constructor); done))))) | (apply go_call 5000 (e1) rfl rfl; iterate 4 (first | (exact CallForm.plain rfl) | ((try simp only [CC, LL, NM, EE, QQ, seval]) <;> (first | rfl | ((repeat constructor); done))))) | (apply go_call 5000 (e2) rfl rfl; iterate 4 (first | (exact CallForm.plain rfl) | ((try simp only [CC, LL, NM, EE, QQ, seval]) <;> (first | rfl | ((repeat constructor); done))))) | (apply go_call 5000 (e3) rfl rfl; iterate 4 (first | (exact CallForm.plain rfl) | ((try simp only [CC, LL, NM, EE, QQ, seval]) <;> (first | rfl | ((repeat constructor); done))))) | (with_reducible apply And.intro) | (with_reducible exact trivial) | omega | (simp only [List.length_map, List.length_cons, List.length_nil] at *; omega) | (show _ = true; first | rfl | kernel_rfl))
  refine go_loop 5000 hm0 (ι := {i : Nat // i ≤ 4}) (fun i => [(0, vS (sel5 P3 P4 P5 P6 P7 i.1)), (3, .bp 3 0 0), (40, .ag [I x.fr, I x.tt, I x.cnt, I x.sets.length]), (41, I i.1)]) (fun i => [(3, .box 0 [I x.kind, I x.num, .d (dInts x.rows), I x.fr, I x.tt, I x.cnt, .d (dSets x.sets)])]) (fun i => 4 - i.1) [] ⟨0, Nat.zero_le _⟩ ?_ ?_
  · (simp only [GeS]; refine ⟨?_, ?_, ?_, ?_⟩; all_goals (repeat' (first | (with_reducible exact True.intro) | (with_reducible rfl) | simp only [CC, LL, EE, QQ, seval, List.contains_nil, Bool.false_eq_true, ↓reduceIte, Option.some.injEq, O.arr.injEq, true_and, and_true] | (with_reducible apply And.intro) | (refine ⟨_, rfl, ?_⟩) | (simp [sel5]; done) | rfl | omega | trivial)))
  rintro ⟨i, hi⟩
  have hcs : i = 0 ∨ i = 1 ∨ i = 2 ∨ i = 3 ∨ i = 4 := by omega
  rcases hcs with rfl | rfl | rfl | rfl | rfl
  · repeat' (first | simp (maxSteps := 9999999) only [↓GE, PL, PP, EE, QQ, seval, sel5] | (simp (disch := omega) only [IntWalk.i64_in]) | (refine go_brD (fun h => ?_) (fun h => ?_)) | (refine go_gsD (by ((try simp only [EE, QQ, seval]) <;> rfl)) (fun h => ?_) (fun h => ?_)) | (refine go_br (fun h => ?_) (fun h => ?_)) | (refine go_gs (by ((try simp only [EE, QQ, seval]) <;> rfl)) (fun h => ?_) (fun h => ?_)) | (apply go_call 5000 (e4) rfl rfl; iterate 4 (first | (exact CallForm.plain rfl) | ((try simp only [CC, LL, NM, EE, QQ, seval]) <;> (first | rfl | ((repeat constructor); done))))) | (with_reducible apply And.intro) | (with_reducible exact trivial) | omega | (simp only [List.length_map, List.length_cons, List.length_nil] at *; omega) | (show _ = true; first | rfl | kernel_rfl))
    refine ⟨⟨1, by omega⟩, ?_, by simp only; omega⟩
    (simp only [GeS]; refine ⟨?_, ?_, ?_, ?_⟩; all_goals (repeat' (first | (with_reducible exact True.intro) | (with_reducible rfl) | simp only [CC, LL, EE, QQ, seval, List.contains_nil, Bool.false_eq_true, ↓reduceIte, Option.some.injEq, O.arr.injEq, true_and, and_true] | (with_reducible apply And.intro) | (refine ⟨_, rfl, ?_⟩) | (simp [sel5]; done) | rfl | omega | trivial)))
  · repeat' (first | simp (maxSteps := 9999999) only [↓GE, PL, PP, EE, QQ, seval, sel5] | (simp (disch := omega) only [IntWalk.i64_in]) | (refine go_brD (fun h => ?_) (fun h => ?_)) | (refine go_gsD (by ((try simp only [EE, QQ, seval]) <;> rfl)) (fun h => ?_) (fun h => ?_)) | (refine go_br (fun h => ?_) (fun h => ?_)) | (refine go_gs (by ((try simp only [EE, QQ, seval]) <;> rfl)) (fun h => ?_) (fun h => ?_)) | (apply go_call 5000 (e5) rfl rfl; iterate 4 (first | (exact CallForm.plain rfl) | ((try simp only [CC, LL, NM, EE, QQ, seval]) <;> (first | rfl | ((repeat constructor); done))))) | (with_reducible apply And.intro) | (with_reducible exact trivial) | omega | (simp only [List.length_map, List.length_cons, List.length_nil] at *; omega) | (show _ = true; first | rfl | kernel_rfl))
    refine ⟨⟨2, by omega⟩, ?_, by simp only; omega⟩
    (simp only [GeS]; refine ⟨?_, ?_, ?_, ?_⟩; all_goals (repeat' (first | (with_reducible exact True.intro) | (with_reducible rfl) | simp only [CC, LL, EE, QQ, seval, List.contains_nil, Bool.false_eq_true, ↓reduceIte, Option.some.injEq, O.arr.injEq, true_and, and_true] | (with_reducible apply And.intro) | (refine ⟨_, rfl, ?_⟩) | (simp [sel5]; done) | rfl | omega | trivial)))
  · repeat' (first | simp (maxSteps := 9999999) only [↓GE, PL, PP, EE, QQ, seval, sel5] | (simp (disch := omega) only [IntWalk.i64_in]) | (refine go_brD (fun h => ?_) (fun h => ?_)) | (refine go_gsD (by ((try simp only [EE, QQ, seval]) <;> rfl)) (fun h => ?_) (fun h => ?_)) | (refine go_br (fun h => ?_) (fun h => ?_)) | (refine go_gs (by ((try simp only [EE, QQ, seval]) <;> rfl)) (fun h => ?_) (fun h => ?_)) | (apply go_call 5000 (e6) rfl rfl; iterate 4 (first | (exact CallForm.plain rfl) | ((try simp only [CC, LL, NM, EE, QQ, seval]) <;> (first | rfl | ((repeat constructor); done))))) | (with_reducible apply And.intro) | (with_reducible exact trivial) | omega | (simp only [List.length_map, List.length_cons, List.length_nil] at *; omega) | (show _ = true; first | rfl | kernel_rfl))
    refine ⟨⟨3, by omega⟩, ?_, by simp only; omega⟩
    (simp only [GeS]; refine ⟨?_, ?_, ?_, ?_⟩; all_goals (repeat' (first | (with_reducible exact True.intro) | (with_reducible rfl) | simp only [CC, LL, EE, QQ, seval, List.contains_nil, Bool.false_eq_true, ↓reduceIte, Option.some.injEq, O.arr.injEq, true_and, and_true] | (with_reducible apply And.intro) | (refine ⟨_, rfl, ?_⟩) | (simp [sel5]; done) | rfl | omega | trivial)))
  · repeat' (first | simp (maxSteps := 9999999) only [↓GE, PL, PP, EE, QQ, seval, sel5] | (simp (disch := omega) only [IntWalk.i64_in]) | (refine go_brD (fun h => ?_) (fun h => ?_)) | (refine go_gsD (by ((try simp only [EE, QQ, seval]) <;> rfl)) (fun h => ?_) (fun h => ?_)) | (refine go_br (fun h => ?_) (fun h => ?_)) | (refine go_gs (by ((try simp only [EE, QQ, seval]) <;> rfl)) (fun h => ?_) (fun h => ?_)) | (apply go_call 5000 (e7) rfl rfl; iterate 4 (first | (exact CallForm.plain rfl) | ((try simp only [CC, LL, NM, EE, QQ, seval]) <;> (first | rfl | ((repeat constructor); done))))) | (with_reducible apply And.intro) | (with_reducible exact trivial) | omega | (simp only [List.length_map, List.length_cons, List.length_nil] at *; omega) | (show _ = true; first | rfl | kernel_rfl))
    refine ⟨⟨4, by omega⟩, ?_, by simp only; omega⟩
    (simp only [GeS]; refine ⟨?_, ?_, ?_, ?_⟩; all_goals (repeat' (first | (with_reducible exact True.intro) | (with_reducible rfl) | simp only [CC, LL, EE, QQ, seval, List.contains_nil, Bool.false_eq_true, ↓reduceIte, Option.some.injEq, O.arr.injEq, true_and, and_true] | (with_reducible apply And.intro) | (refine ⟨_, rfl, ?_⟩) | (simp [sel5]; done) | rfl | omega | trivial)))
  repeat' (first | simp (maxSteps := 9999999) only [↓GE, PL, PP, EE, QQ, seval, sel5, List.length_map] | (simp (disch := omega) only [IntWalk.i64_in]) | (refine go_brD (fun h => ?_) (fun h => ?_)) | (refine go_gsD (by ((try simp only [EE, QQ, seval]) <;> rfl)) (fun h => ?_) (fun h => ?_)) | (refine go_br (fun h => ?_) (fun h => ?_)) | (refine go_gs (by ((try simp only [EE, QQ, seval]) <;> rfl)) (fun h => ?_) (fun h => ?_)) | (with_reducible apply And.intro) | (with_reducible exact trivial) | omega | (simp only [List.length_map, List.length_cons, List.length_nil] at *; omega) | (show _ = true; first | rfl | kernel_rfl))
  refine go_loop 5000 hm0 (ι := {k : Nat // k ≤ x.sets.length}) (fun i => [(0, vS (P7 ++ (x.sets.take i.1).flatMap encSe)), (50, .d (dSets x.sets)), (51, I x.sets.length), (52, I i.1)]) (fun i => []) (fun i => x.sets.length - i.1) [] ⟨0, Nat.zero_le _⟩ ?_ ?_
  · (simp only [GeS]; refine ⟨?_, ?_, ?_, ?_⟩; all_goals (repeat' (first | (with_reducible exact True.intro) | (with_reducible rfl) | simp only [CC, LL, EE, QQ, seval, List.contains_nil, Bool.false_eq_true, ↓reduceIte, Option.some.injEq, O.arr.injEq, true_and, and_true] | (with_reducible apply And.intro) | (refine ⟨_, rfl, ?_⟩) | (simp [sel5]; done) | rfl | omega | trivial)))
  rintro ⟨k, hk⟩
  by_cases hkl : k < x.sets.length
  · have hs1 := getD_map eSe [] noSe x.sets k hkl
    have hse := h.set _ (mem_getD noSe x.sets k hkl)
    have htk := take_flatMap encSe noSe hkl
    have hlt := hlk k
    generalize x.sets.getD k noSe = y at *
    generalize (x.sets.take k).flatMap encSe = tk at *
    have b1 := (putB_len hse.1.1 hse.1.2).1
    have g1 := wPutIntD (P7 ++ tk) y.idx hse.1 (by rw [List.length_append]; omega)
    have g2 := wPutListD (P7 ++ tk ++ putB y.idx) y.row hse.2.2 (by have := hse.2.1; simp only [List.length_append]; omega)
    have hN : P7 ++ (x.sets.take (k + 1)).flatMap encSe = P7 ++ tk ++ putB y.idx ++ putL y.row := by rw [htk, encSe]; simp only [List.append_assoc]
    repeat' (first | simp (maxSteps := 9999999) only [↓GE, PL, PP, EE, QQ, seval, hs1, hkl, eSe, List.length_map] | (simp (disch := omega) only [IntWalk.i64_in]) | (refine go_brD (fun h => ?_) (fun h => ?_)) | (refine go_gsD (by ((try simp only [EE, QQ, seval]) <;> rfl)) (fun h => ?_) (fun h => ?_)) | (refine go_br (fun h => ?_) (fun h => ?_)) | (refine go_gs (by ((try simp only [EE, QQ, seval]) <;> rfl)) (fun h => ?_) (fun h => ?_)) | (apply go_call 5000 (g1) rfl rfl; iterate 4 (first | (exact CallForm.plain rfl) | ((try simp only [CC, LL, NM, EE, QQ, seval]) <;> (first | rfl | ((repeat constructor); done))))) | (apply go_call 5000 (g2) rfl rfl; iterate 4 (first | (exact CallForm.plain rfl) | ((try simp only [CC, LL, NM, EE, QQ, seval]) <;> (first | rfl | ((repeat constructor); done))))) | (with_reducible apply And.intro) | (with_reducible exact trivial) | omega | (simp only [List.length_map, List.length_cons, List.length_nil] at *; omega) | (show _ = true; first | rfl | kernel_rfl))
    refine ⟨⟨k + 1, hkl⟩, ?_, by simp only; omega⟩
    (simp only [GeS]; refine ⟨?_, ?_, ?_, ?_⟩; all_goals (repeat' (first | (with_reducible exact True.intro) | (with_reducible rfl) | simp only [CC, LL, EE, QQ, seval, List.contains_nil, Bool.false_eq_true, ↓reduceIte, Option.some.injEq, O.arr.injEq, true_and, and_true] | (with_reducible apply And.intro) | (refine ⟨_, rfl, ?_⟩) | (simp [hN]; done) | rfl | omega | trivial)))
  · obtain rfl : k = x.sets.length := by omega
    have hN : P7 ++ (x.sets.take x.sets.length).flatMap encSe = b ++ encSt x := by rw [List.take_length, hfin]
    repeat' (first | simp (maxSteps := 9999999) only [↓GE, PL, PP, EE, QQ, seval, hN, List.length_map] | (simp (disch := omega) only [IntWalk.i64_in]) | (refine go_brD (fun h => ?_) (fun h => ?_)) | (refine go_gsD (by ((try simp only [EE, QQ, seval]) <;> rfl)) (fun h => ?_) (fun h => ?_)) | (refine go_br (fun h => ?_) (fun h => ?_)) | (refine go_gs (by ((try simp only [EE, QQ, seval]) <;> rfl)) (fun h => ?_) (fun h => ?_)) | (with_reducible apply And.intro) | (with_reducible exact trivial) | omega | (simp only [List.length_map, List.length_cons, List.length_nil] at *; omega) | (show _ = true; first | rfl | kernel_rfl))
    all_goals ((first | apply ret_mk [] | apply end_mk []); (· ((try simp only [CC, LL, EE, QQ, seval]) <;> rfl)); (· ((try simp only [CC, LL, EE, QQ, seval]) <;> repeat' (first | (with_reducible apply And.intro) | rfl | trivial | (exact ⟨_, rfl⟩) | (exact ⟨_, _, _, rfl⟩) | (simp [*, hp, hq]; done) | (simp [*, hp, hq]; omega) | (simp_all [hp, hq]; done) | (simp_all [hp, hq]; omega)))); all_goals (first | trivial | decide | ((try simp only [CC, LL, EE, QQ, seval]) <;> repeat' (first | (with_reducible apply And.intro) | (exact ⟨_, rfl, rfl, rfl⟩) | (exact ⟨_, _, _, rfl⟩) | (exact ⟨_, rfl⟩) | trivial | rfl | (simp; done)))))
theorem rPutD (b : List UInt8) (x : PSt) (h : okSt x) (hb : b.length ≤ 100000000000) : Does Try.prog 12 [vS b, vSt x] [] (.tu [vS (outS b x), I (outE x)]) [] [] := by
  refine go_ref41_Put rfl BxOK.nil fun cx hm0 => go_in 5000 ?_
  unfold ac_ref41_Put rs_ref41_Put
  have e0 := rCheckD x h
  by_cases hc : chk x = true
  case neg =>
    have hp : outS b x = [] := by rw [outS, if_neg hc]
    have hq : outE x = 4 := by rw [outE, if_neg hc]
    rw [if_neg hc] at e0
    repeat' (first | simp (maxSteps := 9999999) only [↓GE, PL, PP, EE, QQ, seval] | (simp (disch := omega) only [IntWalk.i64_in]) | (refine go_brD (fun h => ?_) (fun h => ?_)) | (refine go_gsD (by ((try simp only [EE, QQ, seval]) <;> rfl)) (fun h => ?_) (fun h => ?_)) | (refine go_br (fun h => ?_) (fun h => ?_)) | (refine go_gs (by ((try simp only [EE, QQ, seval]) <;> rfl)) (fun h => ?_) (fun h => ?_)) | (apply go_call 5000 (e0) rfl rfl; iterate 4 (first | (exact CallForm.plain rfl) | ((try simp only [CC, LL, NM, EE, QQ, seval]) <;> (first | rfl | ((repeat constructor); done))))) | (with_reducible apply And.intro) | (with_reducible exact trivial) | omega | (simp only [List.length_map, List.length_cons, List.length_nil] at *; omega) | (show _ = true; first | rfl | kernel_rfl))
    all_goals ((first | apply ret_mk [] | apply end_mk []); (· ((try simp only [CC, LL, EE, QQ, seval]) <;> rfl)); (· ((try simp only [CC, LL, EE, QQ, seval]) <;> repeat' (first | (with_reducible apply And.intro) | rfl | trivial | (exact ⟨_, rfl⟩) | (exact ⟨_, _, _, rfl⟩) | (simp [*, hp, hq]; done) | (simp [*, hp, hq]; omega) | (simp_all [hp, hq]; done) | (simp_all [hp, hq]; omega)))); all_goals (first | trivial | decide | ((try simp only [CC, LL, EE, QQ, seval]) <;> repeat' (first | (with_reducible apply And.intro) | (exact ⟨_, rfl, rfl, rfl⟩) | (exact ⟨_, _, _, rfl⟩) | (exact ⟨_, rfl⟩) | trivial | rfl | (simp; done)))))
  rw [if_pos hc] at e0
  have hp : outS b x = b ++ encSt x := by rw [outS, if_pos hc]
  have hq : outE x = 0 := by rw [outE, if_pos hc]
  have hsl := h.slen
  have a1 := (putB_len h.kind.1 h.kind.2).1
  have a2 := (putB_len h.num.1 h.num.2).1
  have a3 := putL_len2 h.row h.len
  have a4 := (putB_len h.fr.1 h.fr.2).1
  have a5 := (putB_len h.tt.1 h.tt.2).1
  have a6 := (putB_len h.cnt.1 h.cnt.2).1
  have a7 := (putB_len (n := (x.sets.length : Int)) (by omega) (by omega)).1
  have hrl := h.len
  obtain ⟨P1, hP1⟩ : ∃ P1, P1 = b ++ putB x.kind := ⟨_, rfl⟩
  have l1 : P1.length ≤ b.length + 10 := by rw [hP1, List.length_append]; omega
  obtain ⟨P2, hP2⟩ : ∃ P2, P2 = P1 ++ putB x.num := ⟨_, rfl⟩
  have l2 : P2.length ≤ b.length + 20 := by rw [hP2, List.length_append]; omega
  obtain ⟨P3, hP3⟩ : ∃ P3, P3 = P2 ++ putL x.rows := ⟨_, rfl⟩
  have l3 : P3.length ≤ b.length + 20030 := by rw [hP3, List.length_append]; omega
  obtain ⟨P4, hP4⟩ : ∃ P4, P4 = P3 ++ putB x.fr := ⟨_, rfl⟩
  have l4 : P4.length ≤ b.length + 20040 := by rw [hP4, List.length_append]; omega
  obtain ⟨P5, hP5⟩ : ∃ P5, P5 = P4 ++ putB x.tt := ⟨_, rfl⟩
  have l5 : P5.length ≤ b.length + 20050 := by rw [hP5, List.length_append]; omega
  obtain ⟨P6, hP6⟩ : ∃ P6, P6 = P5 ++ putB x.cnt := ⟨_, rfl⟩
  have l6 : P6.length ≤ b.length + 20060 := by rw [hP6, List.length_append]; omega
  obtain ⟨P7, hP7⟩ : ∃ P7, P7 = P6 ++ putB (x.sets.length : Int) := ⟨_, rfl⟩
  have l7 : P7.length ≤ b.length + 20070 := by rw [hP7, List.length_append]; omega
  have e1 := rPutIntD b x.kind h.kind (by omega)
  have e2 := rPutIntD P1 x.num h.num (by omega)
  have e3 := rPutListD P2 x.rows h.row (by omega)
  have e4 := rPutIntD P3 x.fr h.fr (by omega)
  have e5 := rPutIntD P4 x.tt h.tt (by omega)
  have e6 := rPutIntD P5 x.cnt h.cnt (by omega)
  have e7 := rPutIntD P6 (x.sets.length : Int) ⟨by omega, by omega⟩ (by omega)
  rw [← hP1] at e1
  rw [← hP2] at e2
  rw [← hP3] at e3
  rw [← hP4] at e4
  rw [← hP5] at e5
  rw [← hP6] at e6
  rw [← hP7] at e7
  have hfin : b ++ encSt x = P7 ++ x.sets.flatMap encSe := by
    rw [hP7, hP6, hP5, hP4, hP3, hP2, hP1, encSt]; simp only [List.append_assoc]
  have hlk : ∀ k, ((x.sets.take k).flatMap encSe).length ≤ 40100000 := fun k => by
    have h1 := flatMap_le (f := encSe) (l := x.sets.take k) (m := 20020) fun s hs => encSe_len (h.set s (List.mem_of_mem_take hs))
    have h2 : (x.sets.take k).length * 20020 ≤ 2000 * 20020 := Nat.mul_le_mul_right _ (by rw [List.length_take]; omega)
    omega
  repeat' (first | simp (maxSteps := 9999999) only [↓GE, PL, PP, EE, QQ, seval, List.length_map] | (simp (disch := omega) only [IntWalk.i64_in]) | (refine go_brD (fun h => ?_) (fun h => ?_)) | (refine go_gsD (by ((try simp only [EE, QQ, seval]) <;> rfl)) (fun h => ?_) (fun h => ?_)) | (refine go_br (fun h => ?_) (fun h => ?_)) | (refine go_gs (by ((try simp only [EE, QQ, seval]) <;> rfl)) (fun h => ?_) (fun h => ?_)) | (apply go_call 5000 (e0) rfl rfl; iterate 4 (first | (exact CallForm.plain rfl) | ((try simp only [CC, LL, NM, EE, QQ, seval]) <;> (first | rfl | ((repeat constructor); done))))) | (apply go_call 5000 (e1) rfl rfl; iterate 4 (first | (exact CallForm.plain rfl) | ((try simp only [CC, LL, NM, EE, QQ, seval]) <;> (first | rfl | ((repeat constructor); done))))) | (apply go_call 5000 (e2) rfl rfl; iterate 4 (first | (exact CallForm.plain rfl) | ((try simp only [CC, LL, NM, EE, QQ, seval]) <;> (first | rfl | ((repeat constructor); done))))) | (apply go_call 5000 (e3) rfl rfl; iterate 4 (first | (exact CallForm.plain rfl) | ((try simp only [CC, LL, NM, EE, QQ, seval]) <;> (first | rfl | ((repeat constructor); done))))) | (apply go_call 5000 (e4) rfl rfl; iterate 4 (first | (exact CallForm.plain rfl) | ((try simp only [CC, LL, NM, EE, QQ, seval]) <;> (first | rfl | ((repeat constructor); done))))) | (apply go_call 5000 (e5) rfl rfl; iterate 4 (first | (exact CallForm.plain rfl) | ((try simp only [CC, LL, NM, EE, QQ, seval]) <;> (first | rfl | ((repeat constructor); done))))) | (apply go_call 5000 (e6) rfl rfl; iterate 4 (first | (exact CallForm.plain rfl) | ((try simp only [CC, LL, NM, EE, QQ, seval]) <;> (first | rfl | ((repeat constructor); done))))) | (apply go_call 5000 (e7) rfl rfl; iterate 4 (first | (exact CallForm.plain rfl) | ((try simp only [CC, LL, NM, EE, QQ, seval]) <;> (first | rfl | ((repeat constructor); done))))) | (with_reducible apply And.intro) | (with_reducible exact trivial) | omega | (simp only [List.length_map, List.length_cons, List.length_nil] at *; omega) | (show _ = true; first | rfl | kernel_rfl))
  refine go_loop 5000 hm0 (ι := {k : Nat // k ≤ x.sets.length}) (fun i => [(0, vS (P7 ++ (x.sets.take i.1).flatMap encSe)), (7, .bp 7 0 0), (8, I i.1)]) (fun i => [(7, .box 0 [I x.fr, I x.tt, I x.cnt, .d (dSets x.sets)])]) (fun i => x.sets.length - i.1) [] ⟨0, Nat.zero_le _⟩ ?_ ?_
  · (simp only [GeS]; refine ⟨?_, ?_, ?_, ?_⟩; all_goals (repeat' (first | (with_reducible exact True.intro) | (with_reducible rfl) | simp only [CC, LL, EE, QQ, seval, List.contains_nil, Bool.false_eq_true, ↓reduceIte, Option.some.injEq, O.arr.injEq, true_and, and_true] | (with_reducible apply And.intro) | (refine ⟨_, rfl, ?_⟩) | (simp; done) | rfl | omega | trivial)))
  rintro ⟨k, hk⟩
  by_cases hkl : k < x.sets.length
  · have hs1 := getD_map eSe [] noSe x.sets k hkl
    have hse := h.set _ (mem_getD noSe x.sets k hkl)
    have htk := take_flatMap encSe noSe hkl
    have hlt := hlk k
    generalize x.sets.getD k noSe = y at *
    generalize (x.sets.take k).flatMap encSe = tk at *
    have b1 := (putB_len hse.1.1 hse.1.2).1
    have g1 := rPutIntD (P7 ++ tk) y.idx hse.1 (by rw [List.length_append]; omega)
    have g2 := rPutListD (P7 ++ tk ++ putB y.idx) y.row hse.2.2 (by have := hse.2.1; simp only [List.length_append]; omega)
    have hN : P7 ++ (x.sets.take (k + 1)).flatMap encSe = P7 ++ tk ++ putB y.idx ++ putL y.row := by rw [htk, encSe]; simp only [List.append_assoc]
    repeat' (first | simp (maxSteps := 9999999) only [↓GE, PL, PP, EE, QQ, seval, hs1, hkl, eSe, List.length_map] | (simp (disch := omega) only [IntWalk.i64_in]) | (refine go_brD (fun h => ?_) (fun h => ?_)) | (refine go_gsD (by ((try simp only [EE, QQ, seval]) <;> rfl)) (fun h => ?_) (fun h => ?_)) | (refine go_br (fun h => ?_) (fun h => ?_)) | (refine go_gs (by ((try simp only [EE, QQ, seval]) <;> rfl)) (fun h => ?_) (fun h => ?_)) | (apply go_call 5000 (g1) rfl rfl; iterate 4 (first | (exact CallForm.plain rfl) | ((try simp only [CC, LL, NM, EE, QQ, seval]) <;> (first | rfl | ((repeat constructor); done))))) | (apply go_call 5000 (g2) rfl rfl; iterate 4 (first | (exact CallForm.plain rfl) | ((try simp only [CC, LL, NM, EE, QQ, seval]) <;> (first | rfl | ((repeat constructor); done))))) | (with_reducible apply And.intro) | (with_reducible exact trivial) | omega | (simp only [List.length_map, List.length_cons, List.length_nil] at *; omega) | (show _ = true; first | rfl | kernel_rfl))
    refine ⟨⟨k + 1, hkl⟩, ?_, by simp only; omega⟩
    (simp only [GeS]; refine ⟨?_, ?_, ?_, ?_⟩; all_goals (repeat' (first | (with_reducible exact True.intro) | (with_reducible rfl) | simp only [CC, LL, EE, QQ, seval, List.contains_nil, Bool.false_eq_true, ↓reduceIte, Option.some.injEq, O.arr.injEq, true_and, and_true] | (with_reducible apply And.intro) | (refine ⟨_, rfl, ?_⟩) | (simp [hN]; done) | rfl | omega | trivial)))
  · obtain rfl : k = x.sets.length := by omega
    have hN : P7 ++ (x.sets.take x.sets.length).flatMap encSe = b ++ encSt x := by rw [List.take_length, hfin]
    repeat' (first | simp (maxSteps := 9999999) only [↓GE, PL, PP, EE, QQ, seval, hN, List.length_map] | (simp (disch := omega) only [IntWalk.i64_in]) | (refine go_brD (fun h => ?_) (fun h => ?_)) | (refine go_gsD (by ((try simp only [EE, QQ, seval]) <;> rfl)) (fun h => ?_) (fun h => ?_)) | (refine go_br (fun h => ?_) (fun h => ?_)) | (refine go_gs (by ((try simp only [EE, QQ, seval]) <;> rfl)) (fun h => ?_) (fun h => ?_)) | (with_reducible apply And.intro) | (with_reducible exact trivial) | omega | (simp only [List.length_map, List.length_cons, List.length_nil] at *; omega) | (show _ = true; first | rfl | kernel_rfl))
    all_goals ((first | apply ret_mk [] | apply end_mk []); (· ((try simp only [CC, LL, EE, QQ, seval]) <;> rfl)); (· ((try simp only [CC, LL, EE, QQ, seval]) <;> repeat' (first | (with_reducible apply And.intro) | rfl | trivial | (exact ⟨_, rfl⟩) | (exact ⟨_, _, _, rfl⟩) | (simp [*, hp, hq]; done) | (simp [*, hp, hq]; omega) | (simp_all [hp, hq]; done) | (simp_all [hp, hq]; omega)))); all_goals (first | trivial | decide | ((try simp only [CC, LL, EE, QQ, seval]) <;> repeat' (first | (with_reducible apply And.intro) | (exact ⟨_, rfl, rfl, rfl⟩) | (exact ⟨_, _, _, rfl⟩) | (exact ⟨_, rfl⟩) | trivial | rfl | (simp; done)))))
/-- The bytes of a script, or the error. -/
def encE (l : List PSt) : Int := if l.length ≤ 512 ∧ l.all chk = true then 0 else 4
def encL (l : List PSt) : List UInt8 := putB l.length ++ l.flatMap encSt
def encS (l : List PSt) : List UInt8 := if l.length ≤ 512 ∧ l.all chk = true then encL l else []
theorem encodeD (l : List PSt) (hl : l.length ≤ 600) (h : ∀ x ∈ l, okSt x) : Does Try.prog 5 [.d (dSts l)] [] (.tu [vS (encS l), I (encE l)]) [] [] := by
  refine go_script_Encode rfl BxOK.nil fun cx hm0 => go_in 5000 ?_
  unfold ac_script_Encode rs_script_Encode
  by_cases hn : l.length ≤ 512
  case neg =>
    have q1 : decide ((l.length : Int) > 512) = true := decide_eq_true (by omega)
    have h1 : encS l = [] := by rw [encS, if_neg fun hh => hn hh.1]
    have h2 : encE l = 4 := by rw [encE, if_neg fun hh => hn hh.1]
    repeat' (first | simp (maxSteps := 9999999) only [↓GE, PL, PP, EE, QQ, seval, q1, List.length_map] | (simp (disch := omega) only [IntWalk.i64_in]) | (refine go_brD (fun h => ?_) (fun h => ?_)) | (refine go_gsD (by ((try simp only [EE, QQ, seval]) <;> rfl)) (fun h => ?_) (fun h => ?_)) | (refine go_br (fun h => ?_) (fun h => ?_)) | (refine go_gs (by ((try simp only [EE, QQ, seval]) <;> rfl)) (fun h => ?_) (fun h => ?_)) | (with_reducible apply And.intro) | (with_reducible exact trivial) | omega | (simp only [List.length_map, List.length_cons, List.length_nil] at *; omega) | (show _ = true; first | rfl | kernel_rfl))
    all_goals ((first | apply ret_mk [] | apply end_mk []); (· ((try simp only [CC, LL, EE, QQ, seval]) <;> rfl)); (· ((try simp only [CC, LL, EE, QQ, seval]) <;> repeat' (first | (with_reducible apply And.intro) | rfl | trivial | (exact ⟨_, rfl⟩) | (exact ⟨_, _, _, rfl⟩) | (simp [*, h1, h2]; done) | (simp [*, h1, h2]; omega) | (simp_all [h1, h2]; done) | (simp_all [h1, h2]; omega)))); all_goals (first | trivial | decide | ((try simp only [CC, LL, EE, QQ, seval]) <;> repeat' (first | (with_reducible apply And.intro) | (exact ⟨_, rfl, rfl, rfl⟩) | (exact ⟨_, _, _, rfl⟩) | (exact ⟨_, rfl⟩) | trivial | rfl | (simp; done)))))
  have q1 : decide ((l.length : Int) > 512) = false := decide_eq_false (by omega)
  have e1 : Does Try.prog 9 [.d (.at (.string ⟨⟨[]⟩⟩)), I l.length] [] (vS (putB l.length)) [] [] := wPutIntD [] (l.length : Int) ⟨by omega, by omega⟩ (by simp only [List.length_nil]; omega)
  have a1 := (putB_len (n := (l.length : Int)) (by omega) (by omega)).1
  repeat' (first | simp (maxSteps := 9999999) only [↓GE, PL, PP, EE, QQ, seval, q1, List.length_map] | (simp (disch := omega) only [IntWalk.i64_in]) | (refine go_brD (fun h => ?_) (fun h => ?_)) | (refine go_gsD (by ((try simp only [EE, QQ, seval]) <;> rfl)) (fun h => ?_) (fun h => ?_)) | (refine go_br (fun h => ?_) (fun h => ?_)) | (refine go_gs (by ((try simp only [EE, QQ, seval]) <;> rfl)) (fun h => ?_) (fun h => ?_)) | (apply go_call 5000 (e1) rfl rfl; iterate 4 (first | (exact CallForm.plain rfl) | ((try simp only [CC, LL, NM, EE, QQ, seval]) <;> (first | rfl | ((repeat constructor); done))))) | (with_reducible apply And.intro) | (with_reducible exact trivial) | omega | (simp only [List.length_map, List.length_cons, List.length_nil] at *; omega) | (show _ = true; first | rfl | kernel_rfl))
  refine go_loop 5000 hm0 (ι := {k : Nat // k ≤ l.length ∧ l.all chk = (l.drop k).all chk}) (fun i => [(4, vS (putB l.length ++ (l.take i.1).flatMap encSt)), (15, .d (dSts l)), (16, I l.length), (17, I i.1)]) (fun i => []) (fun i => l.length - i.1) [] ⟨0, Nat.zero_le _, rfl⟩ ?_ ?_
  · (simp only [GeS]; refine ⟨?_, ?_, ?_, ?_⟩; all_goals (repeat' (first | (with_reducible exact True.intro) | (with_reducible rfl) | simp only [CC, LL, EE, QQ, seval, List.contains_nil, Bool.false_eq_true, ↓reduceIte, Option.some.injEq, O.arr.injEq, true_and, and_true] | (with_reducible apply And.intro) | (refine ⟨_, rfl, ?_⟩) | (simp; done) | rfl | omega | trivial)))
  rintro ⟨k, hk, hv⟩
  by_cases hkl : k < l.length
  · have hs1 := getD_map eSt [] noSt l k hkl
    have hst := h _ (mem_getD noSt l k hkl)
    have htk := take_flatMap encSt noSt hkl
    have g1 := flatMap_le (f := encSt) (l := l.take k) (m := 41000000) fun s hs => encSt_len (h s (List.mem_of_mem_take hs))
    have g2 : (l.take k).length * 41000000 ≤ 600 * 41000000 := Nat.mul_le_mul_right _ (by rw [List.length_take]; omega)
    rw [drop_get noSt _ _ hkl] at hv
    generalize l.getD k noSt = y at *
    generalize (l.take k).flatMap encSt = tk at *
    simp only [List.all_cons] at hv
    have e2 := putD (putB l.length ++ tk) y hst (by rw [List.length_append]; omega)
    cases hc : chk y with
    | true =>
      rw [hc, Bool.true_and] at hv
      rw [outS, outE, if_pos hc, if_pos hc] at e2
      have hN : putB l.length ++ (l.take (k + 1)).flatMap encSt = putB l.length ++ tk ++ encSt y := by rw [htk]; simp only [List.append_assoc]
      repeat' (first | simp (maxSteps := 9999999) only [↓GE, PL, PP, EE, QQ, seval, hs1, hkl, eSt, List.length_map] | (simp (disch := omega) only [IntWalk.i64_in]) | (refine go_brD (fun h => ?_) (fun h => ?_)) | (refine go_gsD (by ((try simp only [EE, QQ, seval]) <;> rfl)) (fun h => ?_) (fun h => ?_)) | (refine go_br (fun h => ?_) (fun h => ?_)) | (refine go_gs (by ((try simp only [EE, QQ, seval]) <;> rfl)) (fun h => ?_) (fun h => ?_)) | (apply go_call 5000 (e2) rfl rfl; iterate 4 (first | (exact CallForm.plain rfl) | ((try simp only [CC, LL, NM, EE, QQ, seval]) <;> (first | rfl | ((repeat constructor); done))))) | (with_reducible apply And.intro) | (with_reducible exact trivial) | omega | (simp only [List.length_map, List.length_cons, List.length_nil] at *; omega) | (show _ = true; first | rfl | kernel_rfl))
      refine ⟨⟨k + 1, hkl, hv⟩, ?_, by simp only; omega⟩
      (simp only [GeS]; refine ⟨?_, ?_, ?_, ?_⟩; all_goals (repeat' (first | (with_reducible exact True.intro) | (with_reducible rfl) | simp only [CC, LL, EE, QQ, seval, List.contains_nil, Bool.false_eq_true, ↓reduceIte, Option.some.injEq, O.arr.injEq, true_and, and_true] | (with_reducible apply And.intro) | (refine ⟨_, rfl, ?_⟩) | (simp [hN]; done) | rfl | omega | trivial)))
    | false =>
      rw [hc, Bool.false_and] at hv
      have hc2 : ¬ chk y = true := by rw [hc]; simp
      rw [outS, outE, if_neg hc2, if_neg hc2] at e2
      have h1 : encS l = [] := by rw [encS, if_neg fun hh => by rw [hv] at hh; simp at hh]
      have h2 : encE l = 4 := by rw [encE, if_neg fun hh => by rw [hv] at hh; simp at hh]
      rw [h1, h2]
      clear h1 h2 hv htk
      repeat' (first | simp (maxSteps := 9999999) only [↓GE, PL, PP, EE, QQ, seval, hs1, hkl, eSt, List.length_map] | (simp (disch := omega) only [IntWalk.i64_in]) | (refine go_brD (fun h => ?_) (fun h => ?_)) | (refine go_gsD (by ((try simp only [EE, QQ, seval]) <;> rfl)) (fun h => ?_) (fun h => ?_)) | (refine go_br (fun h => ?_) (fun h => ?_)) | (refine go_gs (by ((try simp only [EE, QQ, seval]) <;> rfl)) (fun h => ?_) (fun h => ?_)) | (apply go_call 5000 (e2) rfl rfl; iterate 4 (first | (exact CallForm.plain rfl) | ((try simp only [CC, LL, NM, EE, QQ, seval]) <;> (first | rfl | ((repeat constructor); done))))) | (with_reducible apply And.intro) | (with_reducible exact trivial) | omega | (simp only [List.length_map, List.length_cons, List.length_nil] at *; omega) | (show _ = true; first | rfl | kernel_rfl))
      all_goals ((first | apply ret_mk [] | apply end_mk []); (· ((try simp only [CC, LL, EE, QQ, seval]) <;> rfl)); (· ((try simp only [CC, LL, EE, QQ, seval]) <;> repeat' (first | (with_reducible apply And.intro) | rfl | trivial | (exact ⟨_, rfl⟩) | (exact ⟨_, _, _, rfl⟩) | (simp [*, ]; done) | (simp [*, ]; omega) | (simp_all []; done) | (simp_all []; omega)))); all_goals (first | trivial | decide | ((try simp only [CC, LL, EE, QQ, seval]) <;> repeat' (first | (with_reducible apply And.intro) | (exact ⟨_, rfl, rfl, rfl⟩) | (exact ⟨_, _, _, rfl⟩) | (exact ⟨_, rfl⟩) | trivial | rfl | (simp; done)))))
  · obtain rfl : k = l.length := by omega
    rw [List.drop_length, List.all_nil] at hv
    have h1 : encS l = putB l.length ++ (l.take l.length).flatMap encSt := by rw [encS, if_pos ⟨hn, hv⟩, List.take_length]; rfl
    have h2 : encE l = 0 := by rw [encE, if_pos ⟨hn, hv⟩]
    repeat' (first | simp (maxSteps := 9999999) only [↓GE, PL, PP, EE, QQ, seval, List.length_map] | (simp (disch := omega) only [IntWalk.i64_in]) | (refine go_brD (fun h => ?_) (fun h => ?_)) | (refine go_gsD (by ((try simp only [EE, QQ, seval]) <;> rfl)) (fun h => ?_) (fun h => ?_)) | (refine go_br (fun h => ?_) (fun h => ?_)) | (refine go_gs (by ((try simp only [EE, QQ, seval]) <;> rfl)) (fun h => ?_) (fun h => ?_)) | (with_reducible apply And.intro) | (with_reducible exact trivial) | omega | (simp only [List.length_map, List.length_cons, List.length_nil] at *; omega) | (show _ = true; first | rfl | kernel_rfl))
    all_goals ((first | apply ret_mk [] | apply end_mk []); (· ((try simp only [CC, LL, EE, QQ, seval]) <;> rfl)); (· ((try simp only [CC, LL, EE, QQ, seval]) <;> repeat' (first | (with_reducible apply And.intro) | rfl | trivial | (exact ⟨_, rfl⟩) | (exact ⟨_, _, _, rfl⟩) | (simp [*, h1, h2]; done) | (simp [*, h1, h2]; omega) | (simp_all [h1, h2]; done) | (simp_all [h1, h2]; omega)))); all_goals (first | trivial | decide | ((try simp only [CC, LL, EE, QQ, seval]) <;> repeat' (first | (with_reducible apply And.intro) | (exact ⟨_, rfl, rfl, rfl⟩) | (exact ⟨_, _, _, rfl⟩) | (exact ⟨_, rfl⟩) | trivial | rfl | (simp; done)))))
theorem rEncodeD (l : List PSt) (hl : l.length ≤ 600) (h : ∀ x ∈ l, okSt x) : Does Try.prog 6 [.d (dSts l)] [] (.tu [vS (encS l), I (encE l)]) [] [] := by
  refine go_ref41_Encode rfl BxOK.nil fun cx hm0 => go_in 5000 ?_
  unfold ac_ref41_Encode rs_ref41_Encode
  by_cases hn : l.length ≤ 512
  case neg =>
    have q1 : decide ((l.length : Int) > 512) = true := decide_eq_true (by omega)
    have h1 : encS l = [] := by rw [encS, if_neg fun hh => hn hh.1]
    have h2 : encE l = 4 := by rw [encE, if_neg fun hh => hn hh.1]
    repeat' (first | simp (maxSteps := 9999999) only [↓GE, PL, PP, EE, QQ, seval, q1, List.length_map] | (simp (disch := omega) only [IntWalk.i64_in]) | (refine go_brD (fun h => ?_) (fun h => ?_)) | (refine go_gsD (by ((try simp only [EE, QQ, seval]) <;> rfl)) (fun h => ?_) (fun h => ?_)) | (refine go_br (fun h => ?_) (fun h => ?_)) | (refine go_gs (by ((try simp only [EE, QQ, seval]) <;> rfl)) (fun h => ?_) (fun h => ?_)) | (with_reducible apply And.intro) | (with_reducible exact trivial) | omega | (simp only [List.length_map, List.length_cons, List.length_nil] at *; omega) | (show _ = true; first | rfl | kernel_rfl))
    all_goals ((first | apply ret_mk [] | apply end_mk []); (· ((try simp only [CC, LL, EE, QQ, seval]) <;> rfl)); (· ((try simp only [CC, LL, EE, QQ, seval]) <;> repeat' (first | (with_reducible apply And.intro) | rfl | trivial | (exact ⟨_, rfl⟩) | (exact ⟨_, _, _, rfl⟩) | (simp [*, h1, h2]; done) | (simp [*, h1, h2]; omega) | (simp_all [h1, h2]; done) | (simp_all [h1, h2]; omega)))); all_goals (first | trivial | decide | ((try simp only [CC, LL, EE, QQ, seval]) <;> repeat' (first | (with_reducible apply And.intro) | (exact ⟨_, rfl, rfl, rfl⟩) | (exact ⟨_, _, _, rfl⟩) | (exact ⟨_, rfl⟩) | trivial | rfl | (simp; done)))))
  have q1 : decide ((l.length : Int) > 512) = false := decide_eq_false (by omega)
  have e1 : Does Try.prog 11 [.d (.at (.string ⟨⟨[]⟩⟩)), I l.length] [] (vS (putB l.length)) [] [] := rPutIntD [] (l.length : Int) ⟨by omega, by omega⟩ (by simp only [List.length_nil]; omega)
  have a1 := (putB_len (n := (l.length : Int)) (by omega) (by omega)).1
  repeat' (first | simp (maxSteps := 9999999) only [↓GE, PL, PP, EE, QQ, seval, q1, List.length_map] | (simp (disch := omega) only [IntWalk.i64_in]) | (refine go_brD (fun h => ?_) (fun h => ?_)) | (refine go_gsD (by ((try simp only [EE, QQ, seval]) <;> rfl)) (fun h => ?_) (fun h => ?_)) | (refine go_br (fun h => ?_) (fun h => ?_)) | (refine go_gs (by ((try simp only [EE, QQ, seval]) <;> rfl)) (fun h => ?_) (fun h => ?_)) | (apply go_call 5000 (e1) rfl rfl; iterate 4 (first | (exact CallForm.plain rfl) | ((try simp only [CC, LL, NM, EE, QQ, seval]) <;> (first | rfl | ((repeat constructor); done))))) | (with_reducible apply And.intro) | (with_reducible exact trivial) | omega | (simp only [List.length_map, List.length_cons, List.length_nil] at *; omega) | (show _ = true; first | rfl | kernel_rfl))
  refine go_loop 5000 hm0 (ι := {k : Nat // k ≤ l.length ∧ l.all chk = (l.drop k).all chk}) (fun i => [(0, .d (dSts l)), (4, vS (putB l.length ++ (l.take i.1).flatMap encSt)), (5, I i.1)]) (fun i => []) (fun i => l.length - i.1) [] ⟨0, Nat.zero_le _, rfl⟩ ?_ ?_
  · (simp only [GeS]; refine ⟨?_, ?_, ?_, ?_⟩; all_goals (repeat' (first | (with_reducible exact True.intro) | (with_reducible rfl) | simp only [CC, LL, EE, QQ, seval, List.contains_nil, Bool.false_eq_true, ↓reduceIte, Option.some.injEq, O.arr.injEq, true_and, and_true] | (with_reducible apply And.intro) | (refine ⟨_, rfl, ?_⟩) | (simp; done) | rfl | omega | trivial)))
  rintro ⟨k, hk, hv⟩
  by_cases hkl : k < l.length
  · have hs1 := getD_map eSt [] noSt l k hkl
    have hst := h _ (mem_getD noSt l k hkl)
    have htk := take_flatMap encSt noSt hkl
    have g1 := flatMap_le (f := encSt) (l := l.take k) (m := 41000000) fun s hs => encSt_len (h s (List.mem_of_mem_take hs))
    have g2 : (l.take k).length * 41000000 ≤ 600 * 41000000 := Nat.mul_le_mul_right _ (by rw [List.length_take]; omega)
    rw [drop_get noSt _ _ hkl] at hv
    generalize l.getD k noSt = y at *
    generalize (l.take k).flatMap encSt = tk at *
    simp only [List.all_cons] at hv
    have e2 := rPutD (putB l.length ++ tk) y hst (by rw [List.length_append]; omega)
    cases hc : chk y with
    | true =>
      rw [hc, Bool.true_and] at hv
      rw [outS, outE, if_pos hc, if_pos hc] at e2
      have hN : putB l.length ++ (l.take (k + 1)).flatMap encSt = putB l.length ++ tk ++ encSt y := by rw [htk]; simp only [List.append_assoc]
      repeat' (first | simp (maxSteps := 9999999) only [↓GE, PL, PP, EE, QQ, seval, hs1, hkl, eSt, List.length_map] | (simp (disch := omega) only [IntWalk.i64_in]) | (refine go_brD (fun h => ?_) (fun h => ?_)) | (refine go_gsD (by ((try simp only [EE, QQ, seval]) <;> rfl)) (fun h => ?_) (fun h => ?_)) | (refine go_br (fun h => ?_) (fun h => ?_)) | (refine go_gs (by ((try simp only [EE, QQ, seval]) <;> rfl)) (fun h => ?_) (fun h => ?_)) | (apply go_call 5000 (e2) rfl rfl; iterate 4 (first | (exact CallForm.plain rfl) | ((try simp only [CC, LL, NM, EE, QQ, seval]) <;> (first | rfl | ((repeat constructor); done))))) | (with_reducible apply And.intro) | (with_reducible exact trivial) | omega | (simp only [List.length_map, List.length_cons, List.length_nil] at *; omega) | (show _ = true; first | rfl | kernel_rfl))
      refine ⟨⟨k + 1, hkl, hv⟩, ?_, by simp only; omega⟩
      (simp only [GeS]; refine ⟨?_, ?_, ?_, ?_⟩; all_goals (repeat' (first | (with_reducible exact True.intro) | (with_reducible rfl) | simp only [CC, LL, EE, QQ, seval, List.contains_nil, Bool.false_eq_true, ↓reduceIte, Option.some.injEq, O.arr.injEq, true_and, and_true] | (with_reducible apply And.intro) | (refine ⟨_, rfl, ?_⟩) | (simp [hN]; done) | rfl | omega | trivial)))
    | false =>
      rw [hc, Bool.false_and] at hv
      have hc2 : ¬ chk y = true := by rw [hc]; simp
      rw [outS, outE, if_neg hc2, if_neg hc2] at e2
      have h1 : encS l = [] := by rw [encS, if_neg fun hh => by rw [hv] at hh; simp at hh]
      have h2 : encE l = 4 := by rw [encE, if_neg fun hh => by rw [hv] at hh; simp at hh]
      rw [h1, h2]
      clear h1 h2 hv htk
      repeat' (first | simp (maxSteps := 9999999) only [↓GE, PL, PP, EE, QQ, seval, hs1, hkl, eSt, List.length_map] | (simp (disch := omega) only [IntWalk.i64_in]) | (refine go_brD (fun h => ?_) (fun h => ?_)) | (refine go_gsD (by ((try simp only [EE, QQ, seval]) <;> rfl)) (fun h => ?_) (fun h => ?_)) | (refine go_br (fun h => ?_) (fun h => ?_)) | (refine go_gs (by ((try simp only [EE, QQ, seval]) <;> rfl)) (fun h => ?_) (fun h => ?_)) | (apply go_call 5000 (e2) rfl rfl; iterate 4 (first | (exact CallForm.plain rfl) | ((try simp only [CC, LL, NM, EE, QQ, seval]) <;> (first | rfl | ((repeat constructor); done))))) | (with_reducible apply And.intro) | (with_reducible exact trivial) | omega | (simp only [List.length_map, List.length_cons, List.length_nil] at *; omega) | (show _ = true; first | rfl | kernel_rfl))
      all_goals ((first | apply ret_mk [] | apply end_mk []); (· ((try simp only [CC, LL, EE, QQ, seval]) <;> rfl)); (· ((try simp only [CC, LL, EE, QQ, seval]) <;> repeat' (first | (with_reducible apply And.intro) | rfl | trivial | (exact ⟨_, rfl⟩) | (exact ⟨_, _, _, rfl⟩) | (simp [*, ]; done) | (simp [*, ]; omega) | (simp_all []; done) | (simp_all []; omega)))); all_goals (first | trivial | decide | ((try simp only [CC, LL, EE, QQ, seval]) <;> repeat' (first | (with_reducible apply And.intro) | (exact ⟨_, rfl, rfl, rfl⟩) | (exact ⟨_, _, _, rfl⟩) | (exact ⟨_, rfl⟩) | trivial | rfl | (simp; done)))))
  · obtain rfl : k = l.length := by omega
    rw [List.drop_length, List.all_nil] at hv
    have h1 : encS l = putB l.length ++ (l.take l.length).flatMap encSt := by rw [encS, if_pos ⟨hn, hv⟩, List.take_length]; rfl
    have h2 : encE l = 0 := by rw [encE, if_pos ⟨hn, hv⟩]
    repeat' (first | simp (maxSteps := 9999999) only [↓GE, PL, PP, EE, QQ, seval, List.length_map] | (simp (disch := omega) only [IntWalk.i64_in]) | (refine go_brD (fun h => ?_) (fun h => ?_)) | (refine go_gsD (by ((try simp only [EE, QQ, seval]) <;> rfl)) (fun h => ?_) (fun h => ?_)) | (refine go_br (fun h => ?_) (fun h => ?_)) | (refine go_gs (by ((try simp only [EE, QQ, seval]) <;> rfl)) (fun h => ?_) (fun h => ?_)) | (with_reducible apply And.intro) | (with_reducible exact trivial) | omega | (simp only [List.length_map, List.length_cons, List.length_nil] at *; omega) | (show _ = true; first | rfl | kernel_rfl))
    all_goals ((first | apply ret_mk [] | apply end_mk []); (· ((try simp only [CC, LL, EE, QQ, seval]) <;> rfl)); (· ((try simp only [CC, LL, EE, QQ, seval]) <;> repeat' (first | (with_reducible apply And.intro) | rfl | trivial | (exact ⟨_, rfl⟩) | (exact ⟨_, _, _, rfl⟩) | (simp [*, h1, h2]; done) | (simp [*, h1, h2]; omega) | (simp_all [h1, h2]; done) | (simp_all [h1, h2]; omega)))); all_goals (first | trivial | decide | ((try simp only [CC, LL, EE, QQ, seval]) <;> repeat' (first | (with_reducible apply And.intro) | (exact ⟨_, rfl, rfl, rfl⟩) | (exact ⟨_, _, _, rfl⟩) | (exact ⟨_, rfl⟩) | trivial | rfl | (simp; done)))))
end Go.Proofs.Ytabfajhflaladaa.Sim
