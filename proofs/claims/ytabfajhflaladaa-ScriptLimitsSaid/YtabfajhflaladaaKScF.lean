/- ScriptLimits. -/
import Derived.Test.YtabfajhflaladaaKScE
import Derived.Test.YtabfajhflaladaaKScC
namespace Go.Proofs.Ytabfajhflaladaa.Sim
open Go Go.RowKit
set_option maxRecDepth 100000
set_option maxHeartbeats 8000000
set_option linter.unusedVariables false
set_option linter.unusedSimpArgs false
attribute [local irreducible] Go Mean
open Go.Proofs.Ytabfajhflaladaa.Wire (putB putL putB_len)
theorem sane41 : Does Try.prog 4 [] [] (B true) [] [] := by
  refine go_law41_sane rfl BxOK.nil fun cx hm0 => go_in 5000 ?_
  unfold ac_law41_sane rs_law41_sane
  have hb : encL [] = [0] := by decide +kernel
  have e1 : Does Try.prog 5 [.d (dSts [])] [] (.tu [vS [0], I 0]) [] [] := by
    have := encodeD [] (by decide) (fun x hx => by cases hx)
    rw [encS, encE, if_pos ⟨by decide, rfl⟩, if_pos ⟨by decide, rfl⟩, hb] at this
    exact this
  have e2 : Does Try.prog 7 [vS [0]] [] (.tu [.d (dSts []), I 0]) [] [] := by
    have := decodeD [] (fun x hx => by cases hx) (by decide) rfl
    rw [hb] at this
    exact this
  repeat' (first | simp (maxSteps := 9999999) only [↓GE, PL, PP, EE, QQ, seval] | (simp (disch := omega) only [IntWalk.i64_in]) | (refine go_brD (fun h => ?_) (fun h => ?_)) | (refine go_gsD (by ((try simp only [EE, QQ, seval]) <;> rfl)) (fun h => ?_) (fun h => ?_)) | (refine go_br (fun h => ?_) (fun h => ?_)) | (refine go_gs (by ((try simp only [EE, QQ, seval]) <;> rfl)) (fun h => ?_) (fun h => ?_)) | (apply go_call 5000 (e1) rfl rfl; iterate 4 (first | (exact CallForm.plain rfl) | ((try simp only [CC, LL, NM, EE, QQ, seval]) <;> (first | rfl | ((repeat constructor); done))))) | (apply go_call 5000 (e2) rfl rfl; iterate 4 (first | (exact CallForm.plain rfl) | ((try simp only [CC, LL, NM, EE, QQ, seval]) <;> (first | rfl | ((repeat constructor); done))))) | (with_reducible apply And.intro) | (with_reducible exact trivial) | omega | (simp only [List.length_map, List.length_cons, List.length_nil] at *; omega) | (show _ = true; first | rfl | kernel_rfl))
  all_goals ((first | apply ret_mk [] | apply end_mk []); (· ((try simp only [CC, LL, EE, QQ, seval]) <;> rfl)); (· ((try simp only [CC, LL, EE, QQ, seval]) <;> repeat' (first | (with_reducible apply And.intro) | rfl | trivial | (exact ⟨_, rfl⟩) | (exact ⟨_, _, _, rfl⟩) | (simp [*, ]; done) | (simp [*, ]; omega) | (simp_all []; done) | (simp_all []; omega)))); all_goals (first | trivial | decide | ((try simp only [CC, LL, EE, QQ, seval]) <;> repeat' (first | (with_reducible apply And.intro) | (exact ⟨_, rfl, rfl, rfl⟩) | (exact ⟨_, _, _, rfl⟩) | (exact ⟨_, rfl⟩) | trivial | rfl | (simp; done)))))
def eLs (l : List PSt) : List D := [dSts l]
def longS (m : Nat) : PSt := ⟨0, 0, List.replicate (15 + m) 0, 0, 0, 0, []⟩
def manyS (m : Nat) : PSt := ⟨0, 0, [], 0, 0, 0, List.replicate (1023 + m) noSe⟩
def wideS (m : Nat) : PSt := ⟨0, 0, [], 0, 0, 0, [⟨0, List.replicate (63 + m) 0⟩]⟩
theorem i0 : I64 0 := ⟨by decide, by decide⟩
theorem okNoSe : okSe noSe := ⟨i0, by decide, (fun n hn => by cases hn)⟩
theorem okNoSt : okSt noSt := ⟨i0, i0, i0, i0, i0, (by decide), (fun n hn => by cases hn), (by decide), (fun n hn => by cases hn)⟩
theorem rep0 {n : Nat} : ∀ x ∈ List.replicate n (0 : Int), I64 x := fun x hx => by obtain rfl := List.eq_of_mem_replicate hx; exact i0
theorem okLong {m : Nat} (h : m ≤ 2) : okSt (longS m) := ⟨i0, i0, i0, i0, i0, (by simp only [longS, List.length_replicate]; omega), rep0, (by simp [longS]), (fun n hn => by cases hn)⟩
theorem okMany {m : Nat} (h : m ≤ 2) : okSt (manyS m) := ⟨i0, i0, i0, i0, i0, (by simp [manyS]), (fun n hn => by cases hn), (by simp only [manyS, List.length_replicate]; omega), (fun n hn => by obtain rfl := List.eq_of_mem_replicate hn; exact okNoSe)⟩
theorem okWide {m : Nat} (h : m ≤ 2) : okSt (wideS m) := ⟨i0, i0, i0, i0, i0, (by simp [wideS]), (fun n hn => by cases hn), (by simp [wideS]), (fun n hn => by
  obtain rfl := List.mem_singleton.1 hn
  exact ⟨i0, (by simp only [List.length_replicate]; omega), rep0⟩)⟩
theorem wide_rep : ∀ n : Nat, wideN (List.replicate n noSe) = n
  | 0 => rfl
  | n + 1 => by rw [List.replicate_succ, wideN, if_neg (by decide), wide_rep n]; omega
theorem chkNo : chk noSt = true := by decide
theorem chkLong (m : Nat) : chk (longS m) = decide (m < 2) := by
  have h2 : (longS m).sets.length ≤ 1024 := Nat.zero_le _
  have h3 : ¬wideN (longS m).sets < (longS m).sets.length := Nat.lt_irrefl 0
  by_cases h : m < 2
  · have h1 : (longS m).rows.length ≤ 16 := by simp only [longS, List.length_replicate]; omega
    rw [chk, decide_eq_true h1, decide_eq_true h2, decide_eq_false h3, decide_eq_true h]; rfl
  · have h1 : ¬(longS m).rows.length ≤ 16 := by simp only [longS, List.length_replicate]; omega
    rw [chk, decide_eq_false h1, decide_eq_false h]; rfl
theorem chkMany (m : Nat) : chk (manyS m) = decide (m < 2) := by
  have h1 : (manyS m).rows.length ≤ 16 := Nat.zero_le _
  have h3 : ¬wideN (manyS m).sets < (manyS m).sets.length := by simp only [manyS, wide_rep, List.length_replicate]; omega
  by_cases h : m < 2
  · have h2 : (manyS m).sets.length ≤ 1024 := by simp only [manyS, List.length_replicate]; omega
    rw [chk, decide_eq_true h1, decide_eq_true h2, decide_eq_false h3, decide_eq_true h]; rfl
  · have h2 : ¬(manyS m).sets.length ≤ 1024 := by simp only [manyS, List.length_replicate]; omega
    rw [chk, decide_eq_true h1, decide_eq_false h2, decide_eq_false h]; rfl
theorem chkWide (m : Nat) : chk (wideS m) = decide (m < 2) := by
  have h1 : (wideS m).rows.length ≤ 16 := Nat.zero_le _
  have h2 : (wideS m).sets.length ≤ 1024 := by simp [wideS]
  by_cases h : m < 2
  · have h3 : ¬wideN (wideS m).sets < (wideS m).sets.length := by simp only [wideS, wideN, List.length_replicate, List.length_singleton]; rw [if_neg (by omega)]; omega
    rw [chk, decide_eq_true h1, decide_eq_true h2, decide_eq_false h3, decide_eq_true h]; rfl
  · have h3 : wideN (wideS m).sets < (wideS m).sets.length := by simp only [wideS, wideN, List.length_replicate, List.length_singleton]; rw [if_pos (by omega)]; omega
    rw [chk, decide_eq_true h1, decide_eq_true h2, decide_eq_true h3, decide_eq_false h]; rfl
/-- What is written out: at most so long, each of them ok, and written exactly if m is small. -/
def goodS (m : Nat) (l : List PSt) : Prop := l.length ≤ 600 ∧ (∀ x ∈ l, okSt x) ∧ ((l.length ≤ 512 ∧ l.all chk = true) ↔ m < 2)
theorem all_rep : ∀ n : Nat, (List.replicate n noSt).all chk = true
  | 0 => rfl
  | n + 1 => by rw [List.replicate_succ, List.all_cons, chkNo, all_rep n]; rfl
theorem good_one {m : Nat} {x : PSt} (h : okSt x) (hc : chk x = decide (m < 2)) : goodS m [x] := ⟨by simp, fun y hy => by obtain rfl := List.mem_singleton.1 hy; exact h, by
  rw [List.all_cons, List.all_nil, Bool.and_true, hc, decide_eq_true_eq]
  exact ⟨fun h => h.2, fun h => ⟨by simp, h⟩⟩⟩
theorem good_all {m : Nat} (h : m ≤ 2) : goodS m (List.replicate (511 + m) noSt) := ⟨by rw [List.length_replicate]; omega, fun y hy => by obtain rfl := List.eq_of_mem_replicate hy; exact okNoSt, by
  rw [List.length_replicate, all_rep]
  exact ⟨fun h => by have := h.1; omega, fun h => ⟨by omega, rfl⟩⟩⟩
theorem lawLimits (nn : UInt8) : Does Try.prog 3 [.d (.at (.int .u8 nn.toNat))] [] (B true) [] [] := by
  obtain ⟨m, hm, hm2⟩ : ∃ m : Nat, ((nn.toNat : Nat) : Int).tmod 3 = (m : Int) ∧ m ≤ 2 := ⟨nn.toNat % 3, rfl, by omega⟩
  have hnn := nn.toNat_lt
  have w0 : IntKind.i64.wrap ((nn.toNat : Nat) : Int) = ((nn.toNat : Nat) : Int) := IntWalk.i64_in _ (by omega)
  have w1 : IntKind.i64.wrap (m : Int) = (m : Int) := IntWalk.i64_in _ (by omega)
  have w2 : IntKind.i64.wrap (15 + (m : Int)) = ((15 + m : Nat) : Int) := by rw [show 15 + (m : Int) = ((15 + m : Nat) : Int) by omega]; exact IntWalk.i64_in _ (by omega)
  have w3 : IntKind.i64.wrap (1023 + (m : Int)) = ((1023 + m : Nat) : Int) := by rw [show 1023 + (m : Int) = ((1023 + m : Nat) : Int) by omega]; exact IntWalk.i64_in _ (by omega)
  have w4 : IntKind.i64.wrap (63 + (m : Int)) = ((63 + m : Nat) : Int) := by rw [show 63 + (m : Int) = ((63 + m : Nat) : Int) by omega]; exact IntWalk.i64_in _ (by omega)
  have w5 : IntKind.i64.wrap (511 + (m : Int)) = ((511 + m : Nat) : Int) := by rw [show 511 + (m : Int) = ((511 + m : Nat) : Int) by omega]; exact IntWalk.i64_in _ (by omega)
  have hgood : ∀ x ∈ [[longS m], [manyS m], [wideS m], List.replicate (511 + m) noSt], goodS m x := by
    intro x hx
    simp only [List.mem_cons, List.not_mem_nil, or_false] at hx
    rcases hx with rfl | rfl | rfl | rfl
    · exact good_one (okLong hm2) (chkLong m)
    · exact good_one (okMany hm2) (chkMany m)
    · exact good_one (okWide hm2) (chkWide m)
    · exact good_all hm2
  refine go_law41_ScriptLimits rfl BxOK.nil fun cx hm0 => go_in 5000 ?_
  unfold ac_law41_ScriptLimits rs_law41_ScriptLimits
  repeat' (first | simp (maxSteps := 9999999) only [↓GE, PL, PP, EE, QQ, seval, w0, w1, w2, w3, w4, w5, hm, List.length_replicate] | (simp (disch := omega) only [IntWalk.i64_in]) | (refine go_brD (fun h => ?_) (fun h => ?_)) | (refine go_gsD (by ((try simp only [EE, QQ, seval]) <;> rfl)) (fun h => ?_) (fun h => ?_)) | (refine go_br (fun h => ?_) (fun h => ?_)) | (refine go_gs (by ((try simp only [EE, QQ, seval]) <;> rfl)) (fun h => ?_) (fun h => ?_)) | (apply go_call 5000 (sane41) rfl rfl; iterate 4 (first | (exact CallForm.plain rfl) | ((try simp only [CC, LL, NM, EE, QQ, seval]) <;> (first | rfl | ((repeat constructor); done))))) | (with_reducible apply And.intro) | (with_reducible exact trivial) | omega | (simp only [List.length_map, List.length_cons, List.length_nil] at *; omega) | (show _ = true; first | rfl | kernel_rfl))
  have hr1 : [[dSts [longS m]], [dSts [manyS m]], [dSts [wideS m]], [dSts (List.replicate (511 + m) noSt)]] = [[longS m], [manyS m], [wideS m], List.replicate (511 + m) noSt].map eLs := rfl
  have hr2 : dSts [longS m] = .sl 7 [[.at (.int .i64 0), .at (.int .i64 0), .sl 1 (List.replicate (15 + m) [.at (.int .i64 0)]), .at (.int .i64 0), .at (.int .i64 0), .at (.int .i64 0), .sl 2 []]] := by
    simp only [dSts, List.map_cons, List.map_nil, eSt, longS, dInts, dSets, List.map_replicate, eI]
  have hr3 : dSts [manyS m] = .sl 7 [[.at (.int .i64 0), .at (.int .i64 0), .sl 1 [], .at (.int .i64 0), .at (.int .i64 0), .at (.int .i64 0), .sl 2 (List.replicate (1023 + m) [.at (.int .i64 0), .sl 1 []])]] := by
    simp only [dSts, List.map_cons, List.map_nil, eSt, manyS, dInts, dSets, List.map_replicate, eSe, noSe]
  have hr4 : dSts [wideS m] = .sl 7 [[.at (.int .i64 0), .at (.int .i64 0), .sl 1 [], .at (.int .i64 0), .at (.int .i64 0), .at (.int .i64 0), .sl 2 [[.at (.int .i64 0), .sl 1 (List.replicate (63 + m) [.at (.int .i64 0)])]]]] := by
    simp only [dSts, List.map_cons, List.map_nil, eSt, wideS, dInts, dSets, List.map_replicate, eSe, eI]
  have hr5 : dSts (List.replicate (511 + m) noSt) = .sl 7 (List.replicate (511 + m) [.at (.int .i64 0), .at (.int .i64 0), .sl 1 [], .at (.int .i64 0), .at (.int .i64 0), .at (.int .i64 0), .sl 2 []]) := by
    simp only [dSts, List.map_nil, eSt, noSt, dInts, dSets, List.map_replicate]
  rw [hr2, hr3, hr4, hr5] at hr1
  have hvl : [[longS m], [manyS m], [wideS m], List.replicate (511 + m) noSt].length = 4 := rfl
  generalize [[longS m], [manyS m], [wideS m], List.replicate (511 + m) noSt] = ls at *
  refine go_loopz 5000 hm0 (ι := {i : Nat // i ≤ 4}) (fun i => [(3, I m), (47, .d (.sl 1 (ls.map eLs))), (48, I 4), (49, I i.1)]) (fun i => []) (fun i => 4 - i.1) [.og 47 0] [] ⟨0, Nat.zero_le _⟩ ?_ ?_
  · simp only [GeZ]; (simp only [GeS]; refine ⟨?_, ?_, ?_, ?_⟩; all_goals (repeat' (first | (with_reducible exact True.intro) | (with_reducible rfl) | simp only [CC, LL, EE, QQ, seval, List.contains_nil, Bool.false_eq_true, ↓reduceIte, Option.some.injEq, O.arr.injEq, true_and, and_true] | (with_reducible apply And.intro) | (refine ⟨_, rfl, ?_⟩) | (simp [hr1]; done) | rfl | omega | trivial)))
  rintro ⟨i, hi⟩
  by_cases hi4 : i < 4
  · have hs := getD_map eLs [] [] ls i (by omega)
    have hg := hgood _ (mem_getD [] ls i (by omega))
    have hil : i < ls.length := by omega
    generalize ls.getD i [] = x at *
    obtain ⟨g1, g2, g3⟩ := hg
    have e1 := encodeD x g1 g2
    have e2 := rEncodeD x g1 g2
    have q1 : decide ((i : Int) < 4) = true := decide_eq_true (by omega)
    have e5 := same41 x g1 g2
    have qa : (true != true) = false := rfl
    have qb : (false != false) = false := rfl
    by_cases hm3 : m < 2
    · obtain ⟨g4, g5⟩ := g3.2 hm3
      have e3 := decodeD x g2 g4 g5
      rw [encS, encE, if_pos ⟨g4, g5⟩, if_pos ⟨g4, g5⟩] at e1 e2
      have q2 : decide ((m : Int) < 2) = true := decide_eq_true (by omega)
      have q3 : (({ data := (encL x).toArray } : ByteArray).toList != ({ data := (encL x).toArray } : ByteArray).toList) = false := by simp
      generalize encL x = bs at *
      repeat' (first | simp (maxSteps := 9999999) only [↓GE, PL, PP, EE, QQ, seval, hs, hil, hvl, q1, q2, q3, qa, eLs, List.length_map] | (simp (disch := omega) only [IntWalk.i64_in]) | (refine go_brD (fun h => ?_) (fun h => ?_)) | (refine go_gsD (by ((try simp only [EE, QQ, seval]) <;> rfl)) (fun h => ?_) (fun h => ?_)) | (refine go_br (fun h => ?_) (fun h => ?_)) | (refine go_gs (by ((try simp only [EE, QQ, seval]) <;> rfl)) (fun h => ?_) (fun h => ?_)) | (apply go_call 5000 (e1) rfl rfl; iterate 4 (first | (exact CallForm.plain rfl) | ((try simp only [CC, LL, NM, EE, QQ, seval]) <;> (first | rfl | ((repeat constructor); done))))) | (apply go_call 5000 (e2) rfl rfl; iterate 4 (first | (exact CallForm.plain rfl) | ((try simp only [CC, LL, NM, EE, QQ, seval]) <;> (first | rfl | ((repeat constructor); done))))) | (apply go_call 5000 (e3) rfl rfl; iterate 4 (first | (exact CallForm.plain rfl) | ((try simp only [CC, LL, NM, EE, QQ, seval]) <;> (first | rfl | ((repeat constructor); done))))) | (apply go_call 5000 (e5) rfl rfl; iterate 4 (first | (exact CallForm.plain rfl) | ((try simp only [CC, LL, NM, EE, QQ, seval]) <;> (first | rfl | ((repeat constructor); done))))) | (with_reducible apply And.intro) | (with_reducible exact trivial) | omega | (simp only [List.length_map, List.length_cons, List.length_nil] at *; omega) | (show _ = true; first | rfl | kernel_rfl))
      refine ⟨[], [], ⟨i + 1, hi4⟩, ?_, by simp only; omega⟩
      simp only [GeZ]; (simp only [GeS]; refine ⟨?_, ?_, ?_, ?_⟩; all_goals (repeat' (first | (with_reducible exact True.intro) | (with_reducible rfl) | simp only [CC, LL, EE, QQ, seval, List.contains_nil, Bool.false_eq_true, ↓reduceIte, Option.some.injEq, O.arr.injEq, true_and, and_true] | (with_reducible apply And.intro) | (refine ⟨_, rfl, ?_⟩) | (simp; done) | rfl | omega | trivial)))
    · have hno : ¬(x.length ≤ 512 ∧ x.all chk = true) := fun hh => hm3 (g3.1 hh)
      rw [encS, encE, if_neg hno, if_neg hno] at e1 e2
      have q2 : decide ((m : Int) < 2) = false := decide_eq_false (by omega)
      repeat' (first | simp (maxSteps := 9999999) only [↓GE, PL, PP, EE, QQ, seval, hs, hil, hvl, q1, q2, qb, eLs, List.length_map] | (simp (disch := omega) only [IntWalk.i64_in]) | (refine go_brD (fun h => ?_) (fun h => ?_)) | (refine go_gsD (by ((try simp only [EE, QQ, seval]) <;> rfl)) (fun h => ?_) (fun h => ?_)) | (refine go_br (fun h => ?_) (fun h => ?_)) | (refine go_gs (by ((try simp only [EE, QQ, seval]) <;> rfl)) (fun h => ?_) (fun h => ?_)) | (apply go_call 5000 (e1) rfl rfl; iterate 4 (first | (exact CallForm.plain rfl) | ((try simp only [CC, LL, NM, EE, QQ, seval]) <;> (first | rfl | ((repeat constructor); done))))) | (apply go_call 5000 (e2) rfl rfl; iterate 4 (first | (exact CallForm.plain rfl) | ((try simp only [CC, LL, NM, EE, QQ, seval]) <;> (first | rfl | ((repeat constructor); done))))) | (with_reducible apply And.intro) | (with_reducible exact trivial) | omega | (simp only [List.length_map, List.length_cons, List.length_nil] at *; omega) | (show _ = true; first | rfl | kernel_rfl))
      refine ⟨[], [], ⟨i + 1, hi4⟩, ?_, by simp only; omega⟩
      simp only [GeZ]; (simp only [GeS]; refine ⟨?_, ?_, ?_, ?_⟩; all_goals (repeat' (first | (with_reducible exact True.intro) | (with_reducible rfl) | simp only [CC, LL, EE, QQ, seval, List.contains_nil, Bool.false_eq_true, ↓reduceIte, Option.some.injEq, O.arr.injEq, true_and, and_true] | (with_reducible apply And.intro) | (refine ⟨_, rfl, ?_⟩) | (simp; done) | rfl | omega | trivial)))
  · obtain rfl : i = 4 := by omega
    repeat' (first | simp (maxSteps := 9999999) only [↓GE, PL, PP, EE, QQ, seval] | (simp (disch := omega) only [IntWalk.i64_in]) | (refine go_brD (fun h => ?_) (fun h => ?_)) | (refine go_gsD (by ((try simp only [EE, QQ, seval]) <;> rfl)) (fun h => ?_) (fun h => ?_)) | (refine go_br (fun h => ?_) (fun h => ?_)) | (refine go_gs (by ((try simp only [EE, QQ, seval]) <;> rfl)) (fun h => ?_) (fun h => ?_)) | (with_reducible apply And.intro) | (with_reducible exact trivial) | omega | (simp only [List.length_map, List.length_cons, List.length_nil] at *; omega) | (show _ = true; first | rfl | kernel_rfl))
    all_goals ((first | apply ret_mk [] | apply end_mk []); (· ((try simp only [CC, LL, EE, QQ, seval]) <;> rfl)); (· ((try simp only [CC, LL, EE, QQ, seval]) <;> repeat' (first | (with_reducible apply And.intro) | rfl | trivial | (exact ⟨_, rfl⟩) | (exact ⟨_, _, _, rfl⟩) | (simp [*, ]; done) | (simp [*, ]; omega) | (simp_all []; done) | (simp_all []; omega)))); all_goals (first | trivial | decide | ((try simp only [CC, LL, EE, QQ, seval]) <;> repeat' (first | (with_reducible apply And.intro) | (exact ⟨_, rfl, rfl, rfl⟩) | (exact ⟨_, _, _, rfl⟩) | (exact ⟨_, rfl⟩) | trivial | rfl | (simp; done)))))
theorem lawLimitsI (n : Int) (h0 : 0 ≤ n) (h1 : n ≤ 255) : Does Try.prog 3 [.d (.at (.int .u8 n))] [] (B true) [] [] := by
  have h := lawLimits (UInt8.ofNat n.toNat)
  have e : (((UInt8.ofNat n.toNat).toNat : Nat) : Int) = n := by rw [UInt8.toNat_ofNat', Nat.mod_eq_of_lt (by omega)]; omega
  rwa [e] at h
end Go.Proofs.Ytabfajhflaladaa.Sim
