/- ViewSteps. -/
import Derived.Test.YtihjmnhjjpdenaaMVwY
import Derived.Test.YtihjmnhjjpdenaaMVwQ
import Derived.Test.YtihjmnhjjpdenaaMVwU
import Derived.Test.YtihjmnhjjpdenaaMAcsW
import Derived.Test.YtihjmnhjjpdenaaMSimJn
namespace Go.Proofs.Ytihjmnhjjpdenaa.Sim
open Go Go.RowKit
set_option maxRecDepth 100000
set_option maxHeartbeats 16000000
set_option linter.unusedVariables false
set_option linter.unusedSimpArgs false
attribute [local irreducible] Go Mean
open Go.Proofs.Ytihjmnhjjpdenaa.Vw (flatQ)
def eV (x : List Int × List (List (List Int))) : List D := [dInts x.1, dQs x.2]
def okVw (x : List Int × List (List (List Int))) : Prop := x.1.length ≤ 1000 ∧ (∀ n ∈ x.1, I64 n) ∧ smQ x.2 ∧ inQ x.2
def smV (x : List Int × List (List (List Int))) : Prop := x.1.length ≤ 1000 ∧ smQ x.2
def goodL (x : List Int) : Prop := x.length ≤ 100 ∧ ∀ n ∈ x, I64 n
theorem smQ_nil : smQ [] := ⟨by simp, fun q h => by cases h⟩
theorem ofBoth {qs : List (List (List Int))} (hq : smQ qs) (hi : inQ qs) {x : List Int} (hx : goodL x) : ∃ y e, okVw y ∧ Does Try.prog 10 [.d (dQs qs), .d (dInts x)] [] (.tu [vView y.1 y.2, I e]) [] [] ∧ Does Try.prog 15 [.d (dQs qs), .d (dInts x)] [] (.tu [vView y.1 y.2, I e]) [] [] := by
  have h1 := hx.1
  refine ⟨(if okOf qs x = true then x else [], if okOf qs x = true then ofQ qs x else []), ofE qs x, ?_, vOf qs x hq (by omega) (fun n hn => (hx.2 n hn).2), of25 qs x hq (by omega) (fun n hn => (hx.2 n hn).2)⟩
  by_cases h : okOf qs x = true
  · simp only [h, if_pos]
    exact ⟨by simp only; omega, hx.2, hq.of (by omega), hi.of⟩
  · simp only [h, if_neg, Bool.false_eq_true, not_false_eq_true]
    exact ⟨by simp, by simp, smQ_nil, fun q h => by cases h⟩
theorem smQ.part {qs : List (List (List Int))} (h : smQ qs) {sv l : List Int} (hl : l.length ≤ 1000) : smQ (partQ sv qs l) := by
  refine ⟨by rw [partQ, List.length_map]; exact h.1, fun q hq => ?_⟩
  obtain ⟨r, hr, rfl⟩ := List.mem_map.1 hq
  refine ⟨by rw [pk, List.length_map, idxs, List.length_map]; exact hl, fun x hx => ?_⟩
  obtain ⟨i, _, rfl⟩ := List.mem_map.1 hx
  rw [pk1]
  by_cases h1 : i.toNat < r.length
  · exact (h.2 r hr).2 _ (mem_getD [] r _ h1)
  · rw [List.getD_eq_getElem?_getD, List.getElem?_eq_none (by omega)]; simp
theorem partBoth {v : List Int × List (List (List Int))} (hv : smV v) {x : List Int} (hx : x.length ≤ 100) : ∃ y b, smV y ∧ Does Try.prog 11 [vView v.1 v.2, .d (dInts x)] [] (.tu [vView y.1 y.2, B b]) [] [] ∧ Does Try.prog 20 [vView v.1 v.2, .d (dInts x)] [] (.tu [vView y.1 y.2, B b]) [] [] := by
  refine ⟨(if okPart v.1 v.2 x = true then x else [], if okPart v.1 v.2 x = true then partQ v.1 v.2 x else []), okPart v.1 v.2 x, ?_, vPart v.1 v.2 x hv.1 hv.2 (by omega), part25 v.1 v.2 x hv.1 hv.2 (by omega)⟩
  by_cases h : okPart v.1 v.2 x = true
  · simp only [h, if_pos]
    exact ⟨by simp only; omega, hv.2.part (by omega)⟩
  · simp only [h, if_neg, Bool.false_eq_true, not_false_eq_true]
    exact ⟨by simp, smQ_nil⟩
theorem sameSelf {y : List Int × List (List (List Int))} (hy : smV y) : Does Try.prog 16 [vView y.1 y.2, vView y.1 y.2] [] (B true) [] [] := by
  have := same25 y.1 y.1 y.2 y.2 hy.1 hy.1 hy.2 hy.2
  rwa [decide_eq_true ⟨rfl, rfl⟩] at this
theorem vSameSelf {y : List Int × List (List (List Int))} (hy : smV y) : Does Try.prog 12 [vView y.1 y.2, vView y.1 y.2] [] (B true) [] [] := by
  have := vSame y.1 y.1 y.2 y.2 hy.1 hy.1 hy.2 hy.2
  rwa [decide_eq_true ⟨rfl, rfl⟩] at this
theorem intsSelf {x : List Int} (h : x.length ≤ 1000000000) : Does Try.prog 18 [.d (dInts x), .d (dInts x)] [] (B true) [] [] := by
  have := ints23 x x h h
  rwa [decide_eq_true rfl] at this
theorem okVw.sm {y : List Int × List (List (List Int))} (h : okVw y) : smV y := ⟨h.1, h.2.2.1⟩
theorem lawSteps25 (s : List UInt8) (hs : s.length ≤ 140737488355328) (rw0 : List Int × List (List (List Int))) (hsv : ∀ n ∈ rw0.1, I64 n) (hrq : inQ rw0.2) (servers part : List Int) (hse : ∀ n ∈ servers, I64 n) (hpa : ∀ n ∈ part, I64 n) :
    Does Try.prog 5 [.d (dBytes s), vView rw0.1 rw0.2, .d (dInts servers), .d (dInts part)] [] (B true) [] [] := by
  obtain ⟨sv, rq⟩ := rw0
  simp only at hsv hrq ⊢
  refine go_law25_ViewSteps rfl BxOK.nil fun cx hm0 => go_in 5000 ?_
  unfold ac_law25_ViewSteps rs_law25_ViewSteps
  by_cases g1 : sv.length > 6
  · have q1 : decide ((sv.length : Int) > 6) = true := decide_eq_true (by omega)
    repeat' (first | simp (maxSteps := 9999999) only [↓GE, PL, PP, EE, QQ, seval, q1, List.length_map] | (simp (disch := omega) only [IntWalk.i64_in]) | (refine go_brD (fun h => ?_) (fun h => ?_)) | (refine go_gsD (by ((try simp only [EE, QQ, seval]) <;> rfl)) (fun h => ?_) (fun h => ?_)) | (refine go_br (fun h => ?_) (fun h => ?_)) | (refine go_gs (by ((try simp only [EE, QQ, seval]) <;> rfl)) (fun h => ?_) (fun h => ?_)) | (apply go_call 5000 (sane25) rfl rfl; iterate 4 (first | (exact CallForm.plain rfl) | ((try simp only [CC, LL, NM, EE, QQ, seval]) <;> (first | rfl | ((repeat constructor); done))))) | (with_reducible apply And.intro) | (with_reducible exact trivial) | omega | (simp only [List.length_map, List.length_cons, List.length_nil] at *; omega) | (show _ = true; first | rfl | kernel_rfl))
    all_goals ((first | apply ret_mk [] | apply end_mk []); (· ((try simp only [CC, LL, EE, QQ, seval]) <;> rfl)); (· ((try simp only [CC, LL, EE, QQ, seval]) <;> repeat' (first | (with_reducible apply And.intro) | rfl | trivial | (exact ⟨_, rfl⟩) | (exact ⟨_, _, _, rfl⟩) | (simp [*, ]; done) | (simp [*, ]; omega) | (simp_all []; done) | (simp_all []; omega)))); all_goals (first | trivial | decide | ((try simp only [CC, LL, EE, QQ, seval]) <;> repeat' (first | (with_reducible apply And.intro) | (exact ⟨_, rfl, rfl, rfl⟩) | (exact ⟨_, _, _, rfl⟩) | (exact ⟨_, rfl⟩) | trivial | rfl | (simp; done)))))
  have q1 : decide ((sv.length : Int) > 6) = false := decide_eq_false (by omega)
  by_cases g2 : rq.length > 6
  · have q2 : decide ((rq.length : Int) > 6) = true := decide_eq_true (by omega)
    repeat' (first | simp (maxSteps := 9999999) only [↓GE, PL, PP, EE, QQ, seval, q1, q2, List.length_map] | (simp (disch := omega) only [IntWalk.i64_in]) | (refine go_brD (fun h => ?_) (fun h => ?_)) | (refine go_gsD (by ((try simp only [EE, QQ, seval]) <;> rfl)) (fun h => ?_) (fun h => ?_)) | (refine go_br (fun h => ?_) (fun h => ?_)) | (refine go_gs (by ((try simp only [EE, QQ, seval]) <;> rfl)) (fun h => ?_) (fun h => ?_)) | (apply go_call 5000 (sane25) rfl rfl; iterate 4 (first | (exact CallForm.plain rfl) | ((try simp only [CC, LL, NM, EE, QQ, seval]) <;> (first | rfl | ((repeat constructor); done))))) | (with_reducible apply And.intro) | (with_reducible exact trivial) | omega | (simp only [List.length_map, List.length_cons, List.length_nil] at *; omega) | (show _ = true; first | rfl | kernel_rfl))
    all_goals ((first | apply ret_mk [] | apply end_mk []); (· ((try simp only [CC, LL, EE, QQ, seval]) <;> rfl)); (· ((try simp only [CC, LL, EE, QQ, seval]) <;> repeat' (first | (with_reducible apply And.intro) | rfl | trivial | (exact ⟨_, rfl⟩) | (exact ⟨_, _, _, rfl⟩) | (simp [*, ]; done) | (simp [*, ]; omega) | (simp_all []; done) | (simp_all []; omega)))); all_goals (first | trivial | decide | ((try simp only [CC, LL, EE, QQ, seval]) <;> repeat' (first | (with_reducible apply And.intro) | (exact ⟨_, rfl, rfl, rfl⟩) | (exact ⟨_, _, _, rfl⟩) | (exact ⟨_, rfl⟩) | trivial | rfl | (simp; done)))))
  have q2 : decide ((rq.length : Int) > 6) = false := decide_eq_false (by omega)
  by_cases g3 : servers.length > 8
  · have q3 : decide ((servers.length : Int) > 8) = true := decide_eq_true (by omega)
    repeat' (first | simp (maxSteps := 9999999) only [↓GE, PL, PP, EE, QQ, seval, q1, q2, q3, List.length_map] | (simp (disch := omega) only [IntWalk.i64_in]) | (refine go_brD (fun h => ?_) (fun h => ?_)) | (refine go_gsD (by ((try simp only [EE, QQ, seval]) <;> rfl)) (fun h => ?_) (fun h => ?_)) | (refine go_br (fun h => ?_) (fun h => ?_)) | (refine go_gs (by ((try simp only [EE, QQ, seval]) <;> rfl)) (fun h => ?_) (fun h => ?_)) | (apply go_call 5000 (sane25) rfl rfl; iterate 4 (first | (exact CallForm.plain rfl) | ((try simp only [CC, LL, NM, EE, QQ, seval]) <;> (first | rfl | ((repeat constructor); done))))) | (with_reducible apply And.intro) | (with_reducible exact trivial) | omega | (simp only [List.length_map, List.length_cons, List.length_nil] at *; omega) | (show _ = true; first | rfl | kernel_rfl))
    all_goals ((first | apply ret_mk [] | apply end_mk []); (· ((try simp only [CC, LL, EE, QQ, seval]) <;> rfl)); (· ((try simp only [CC, LL, EE, QQ, seval]) <;> repeat' (first | (with_reducible apply And.intro) | rfl | trivial | (exact ⟨_, rfl⟩) | (exact ⟨_, _, _, rfl⟩) | (simp [*, ]; done) | (simp [*, ]; omega) | (simp_all []; done) | (simp_all []; omega)))); all_goals (first | trivial | decide | ((try simp only [CC, LL, EE, QQ, seval]) <;> repeat' (first | (with_reducible apply And.intro) | (exact ⟨_, rfl, rfl, rfl⟩) | (exact ⟨_, _, _, rfl⟩) | (exact ⟨_, rfl⟩) | trivial | rfl | (simp; done)))))
  have q3 : decide ((servers.length : Int) > 8) = false := decide_eq_false (by omega)
  by_cases g4 : part.length > 8
  · have q4 : decide ((part.length : Int) > 8) = true := decide_eq_true (by omega)
    repeat' (first | simp (maxSteps := 9999999) only [↓GE, PL, PP, EE, QQ, seval, q1, q2, q3, q4, List.length_map] | (simp (disch := omega) only [IntWalk.i64_in]) | (refine go_brD (fun h => ?_) (fun h => ?_)) | (refine go_gsD (by ((try simp only [EE, QQ, seval]) <;> rfl)) (fun h => ?_) (fun h => ?_)) | (refine go_br (fun h => ?_) (fun h => ?_)) | (refine go_gs (by ((try simp only [EE, QQ, seval]) <;> rfl)) (fun h => ?_) (fun h => ?_)) | (apply go_call 5000 (sane25) rfl rfl; iterate 4 (first | (exact CallForm.plain rfl) | ((try simp only [CC, LL, NM, EE, QQ, seval]) <;> (first | rfl | ((repeat constructor); done))))) | (with_reducible apply And.intro) | (with_reducible exact trivial) | omega | (simp only [List.length_map, List.length_cons, List.length_nil] at *; omega) | (show _ = true; first | rfl | kernel_rfl))
    all_goals ((first | apply ret_mk [] | apply end_mk []); (· ((try simp only [CC, LL, EE, QQ, seval]) <;> rfl)); (· ((try simp only [CC, LL, EE, QQ, seval]) <;> repeat' (first | (with_reducible apply And.intro) | rfl | trivial | (exact ⟨_, rfl⟩) | (exact ⟨_, _, _, rfl⟩) | (simp [*, ]; done) | (simp [*, ]; omega) | (simp_all []; done) | (simp_all []; omega)))); all_goals (first | trivial | decide | ((try simp only [CC, LL, EE, QQ, seval]) <;> repeat' (first | (with_reducible apply And.intro) | (exact ⟨_, rfl, rfl, rfl⟩) | (exact ⟨_, _, _, rfl⟩) | (exact ⟨_, rfl⟩) | trivial | rfl | (simp; done)))))
  have q4 : decide ((part.length : Int) > 8) = false := decide_eq_false (by omega)
  repeat' (first | simp (maxSteps := 9999999) only [↓GE, PL, PP, EE, QQ, seval, q1, q2, q3, q4, List.length_map] | (simp (disch := omega) only [IntWalk.i64_in]) | (refine go_brD (fun h => ?_) (fun h => ?_)) | (refine go_gsD (by ((try simp only [EE, QQ, seval]) <;> rfl)) (fun h => ?_) (fun h => ?_)) | (refine go_br (fun h => ?_) (fun h => ?_)) | (refine go_gs (by ((try simp only [EE, QQ, seval]) <;> rfl)) (fun h => ?_) (fun h => ?_)) | (apply go_call 5000 (sane25) rfl rfl; iterate 4 (first | (exact CallForm.plain rfl) | ((try simp only [CC, LL, NM, EE, QQ, seval]) <;> (first | rfl | ((repeat constructor); done))))) | (with_reducible apply And.intro) | (with_reducible exact trivial) | omega | (simp only [List.length_map, List.length_cons, List.length_nil] at *; omega) | (show _ = true; first | rfl | kernel_rfl))
  refine go_loop 5000 hm0 (ι := {k : Nat // k ≤ rq.length ∧ ∀ j, j < k → (rq.getD j []).length ≤ 6 ∧ ∀ y ∈ rq.getD j [], y.length ≤ 8}) (fun i => [(0, .d (dBytes s)), (2, .d (dInts servers)), (3, .d (dInts part)), (5, .bp 5 0 0), (53, .d (dQs rq)), (54, I rq.length), (55, I i.1)]) (fun i => [(5, .box 0 [.d (dInts sv), .d (dQs rq)])]) (fun i => rq.length - i.1) [] ⟨0, Nat.zero_le _, fun j h => absurd h (Nat.not_lt_zero j)⟩ ?_ ?_
  · (simp only [GeS]; refine ⟨?_, ?_, ?_, ?_⟩; all_goals (repeat' (first | (with_reducible exact True.intro) | (with_reducible rfl) | simp only [CC, LL, EE, QQ, seval, List.contains_nil, Bool.false_eq_true, ↓reduceIte, Option.some.injEq, O.arr.injEq, true_and, and_true] | (with_reducible apply And.intro) | (refine ⟨_, rfl, ?_⟩) | (simp; done) | rfl | omega | trivial)))
  rintro ⟨k, hk, hv⟩
  by_cases hkl : k < rq.length
  · have hs1 := getD_map eQ [] [] rq k hkl
    obtain ⟨pr, hpr⟩ : ∃ pr, rq.getD k [] = pr := ⟨_, rfl⟩
    rw [hpr] at hs1
    by_cases g5 : pr.length > 6
    · have q5 : decide ((pr.length : Int) > 6) = true := decide_eq_true (by omega)
      repeat' (first | simp (maxSteps := 9999999) only [↓GE, PL, PP, EE, QQ, seval, hs1, hkl, q5, eQ, List.length_map] | (simp (disch := omega) only [IntWalk.i64_in]) | (refine go_brD (fun h => ?_) (fun h => ?_)) | (refine go_gsD (by ((try simp only [EE, QQ, seval]) <;> rfl)) (fun h => ?_) (fun h => ?_)) | (refine go_br (fun h => ?_) (fun h => ?_)) | (refine go_gs (by ((try simp only [EE, QQ, seval]) <;> rfl)) (fun h => ?_) (fun h => ?_)) | (with_reducible apply And.intro) | (with_reducible exact trivial) | omega | (simp only [List.length_map, List.length_cons, List.length_nil] at *; omega) | (show _ = true; first | rfl | kernel_rfl))
      all_goals ((first | apply ret_mk [] | apply end_mk []); (· ((try simp only [CC, LL, EE, QQ, seval]) <;> rfl)); (· ((try simp only [CC, LL, EE, QQ, seval]) <;> repeat' (first | (with_reducible apply And.intro) | rfl | trivial | (exact ⟨_, rfl⟩) | (exact ⟨_, _, _, rfl⟩) | (simp [*, ]; done) | (simp [*, ]; omega) | (simp_all []; done) | (simp_all []; omega)))); all_goals (first | trivial | decide | ((try simp only [CC, LL, EE, QQ, seval]) <;> repeat' (first | (with_reducible apply And.intro) | (exact ⟨_, rfl, rfl, rfl⟩) | (exact ⟨_, _, _, rfl⟩) | (exact ⟨_, rfl⟩) | trivial | rfl | (simp; done)))))
    have q5 : decide ((pr.length : Int) > 6) = false := decide_eq_false (by omega)
    repeat' (first | simp (maxSteps := 9999999) only [↓GE, PL, PP, EE, QQ, seval, hs1, hkl, q5, eQ, List.length_map] | (simp (disch := omega) only [IntWalk.i64_in]) | (refine go_brD (fun h => ?_) (fun h => ?_)) | (refine go_gsD (by ((try simp only [EE, QQ, seval]) <;> rfl)) (fun h => ?_) (fun h => ?_)) | (refine go_br (fun h => ?_) (fun h => ?_)) | (refine go_gs (by ((try simp only [EE, QQ, seval]) <;> rfl)) (fun h => ?_) (fun h => ?_)) | (with_reducible apply And.intro) | (with_reducible exact trivial) | omega | (simp only [List.length_map, List.length_cons, List.length_nil] at *; omega) | (show _ = true; first | rfl | kernel_rfl))
    refine go_loop 5000 hm0 (ι := {j : Nat // j ≤ pr.length ∧ ∀ i, i < j → (pr.getD i []).length ≤ 8}) (fun i => [(0, .d (dBytes s)), (2, .d (dInts servers)), (3, .d (dInts part)), (5, .bp 5 0 0), (53, .d (dQs rq)), (54, I rq.length), (55, I k), (62, .d (dRows pr)), (63, I pr.length), (64, I i.1)]) (fun i => [(5, .box 0 [.d (dInts sv), .d (dQs rq)])]) (fun i => pr.length - i.1) [] ⟨0, Nat.zero_le _, fun j h => absurd h (Nat.not_lt_zero j)⟩ ?_ ?_
    · (simp only [GeS]; refine ⟨?_, ?_, ?_, ?_⟩; all_goals (repeat' (first | (with_reducible exact True.intro) | (with_reducible rfl) | simp only [CC, LL, EE, QQ, seval, List.contains_nil, Bool.false_eq_true, ↓reduceIte, Option.some.injEq, O.arr.injEq, true_and, and_true] | (with_reducible apply And.intro) | (refine ⟨_, rfl, ?_⟩) | (simp; done) | rfl | omega | trivial)))
    rintro ⟨j, hj, hw⟩
    by_cases hjl : j < pr.length
    · have hs2 := getD_map eR [] [] pr j hjl
      obtain ⟨y, hy⟩ : ∃ y, pr.getD j [] = y := ⟨_, rfl⟩
      rw [hy] at hs2
      by_cases g6 : y.length > 8
      · have q6 : decide ((y.length : Int) > 8) = true := decide_eq_true (by omega)
        repeat' (first | simp (maxSteps := 9999999) only [↓GE, PL, PP, EE, QQ, seval, hs2, hjl, q6, eR, List.length_map] | (simp (disch := omega) only [IntWalk.i64_in]) | (refine go_brD (fun h => ?_) (fun h => ?_)) | (refine go_gsD (by ((try simp only [EE, QQ, seval]) <;> rfl)) (fun h => ?_) (fun h => ?_)) | (refine go_br (fun h => ?_) (fun h => ?_)) | (refine go_gs (by ((try simp only [EE, QQ, seval]) <;> rfl)) (fun h => ?_) (fun h => ?_)) | (with_reducible apply And.intro) | (with_reducible exact trivial) | omega | (simp only [List.length_map, List.length_cons, List.length_nil] at *; omega) | (show _ = true; first | rfl | kernel_rfl))
        all_goals ((first | apply ret_mk [] | apply end_mk []); (· ((try simp only [CC, LL, EE, QQ, seval]) <;> rfl)); (· ((try simp only [CC, LL, EE, QQ, seval]) <;> repeat' (first | (with_reducible apply And.intro) | rfl | trivial | (exact ⟨_, rfl⟩) | (exact ⟨_, _, _, rfl⟩) | (simp [*, ]; done) | (simp [*, ]; omega) | (simp_all []; done) | (simp_all []; omega)))); all_goals (first | trivial | decide | ((try simp only [CC, LL, EE, QQ, seval]) <;> repeat' (first | (with_reducible apply And.intro) | (exact ⟨_, rfl, rfl, rfl⟩) | (exact ⟨_, _, _, rfl⟩) | (exact ⟨_, rfl⟩) | trivial | rfl | (simp; done)))))
      have q6 : decide ((y.length : Int) > 8) = false := decide_eq_false (by omega)
      repeat' (first | simp (maxSteps := 9999999) only [↓GE, PL, PP, EE, QQ, seval, hs2, hjl, q6, eR, List.length_map] | (simp (disch := omega) only [IntWalk.i64_in]) | (refine go_brD (fun h => ?_) (fun h => ?_)) | (refine go_gsD (by ((try simp only [EE, QQ, seval]) <;> rfl)) (fun h => ?_) (fun h => ?_)) | (refine go_br (fun h => ?_) (fun h => ?_)) | (refine go_gs (by ((try simp only [EE, QQ, seval]) <;> rfl)) (fun h => ?_) (fun h => ?_)) | (with_reducible apply And.intro) | (with_reducible exact trivial) | omega | (simp only [List.length_map, List.length_cons, List.length_nil] at *; omega) | (show _ = true; first | rfl | kernel_rfl))
      refine ⟨⟨j + 1, hjl, fun i hi => ?_⟩, ?_, by simp only; omega⟩
      · by_cases e : i = j
        · subst e; rw [hy]; omega
        · exact hw i (by omega)
      · (simp only [GeS]; refine ⟨?_, ?_, ?_, ?_⟩; all_goals (repeat' (first | (with_reducible exact True.intro) | (with_reducible rfl) | simp only [CC, LL, EE, QQ, seval, List.contains_nil, Bool.false_eq_true, ↓reduceIte, Option.some.injEq, O.arr.injEq, true_and, and_true] | (with_reducible apply And.intro) | (refine ⟨_, rfl, ?_⟩) | (simp; done) | rfl | omega | trivial)))
    · obtain rfl : j = pr.length := by omega
      repeat' (first | simp (maxSteps := 9999999) only [↓GE, PL, PP, EE, QQ, seval, List.length_map] | (simp (disch := omega) only [IntWalk.i64_in]) | (refine go_brD (fun h => ?_) (fun h => ?_)) | (refine go_gsD (by ((try simp only [EE, QQ, seval]) <;> rfl)) (fun h => ?_) (fun h => ?_)) | (refine go_br (fun h => ?_) (fun h => ?_)) | (refine go_gs (by ((try simp only [EE, QQ, seval]) <;> rfl)) (fun h => ?_) (fun h => ?_)) | (with_reducible apply And.intro) | (with_reducible exact trivial) | omega | (simp only [List.length_map, List.length_cons, List.length_nil] at *; omega) | (show _ = true; first | rfl | kernel_rfl))
      refine ⟨⟨k + 1, hkl, fun i hi => ?_⟩, ?_, by simp only; omega⟩
      · by_cases e : i = k
        · subst e
          rw [hpr]
          refine ⟨by omega, fun y hy => ?_⟩
          obtain ⟨n, hn, rfl⟩ := List.getElem_of_mem hy
          have := hw n hn
          rwa [List.getD_eq_getElem?_getD, List.getElem?_eq_getElem hn] at this
        · exact hv i (by omega)
      · (simp only [GeS]; refine ⟨?_, ?_, ?_, ?_⟩; all_goals (repeat' (first | (with_reducible exact True.intro) | (with_reducible rfl) | simp only [CC, LL, EE, QQ, seval, List.contains_nil, Bool.false_eq_true, ↓reduceIte, Option.some.injEq, O.arr.injEq, true_and, and_true] | (with_reducible apply And.intro) | (refine ⟨_, rfl, ?_⟩) | (simp; done) | rfl | omega | trivial)))
  obtain rfl : k = rq.length := by omega
  have hrs : smQ rq := ⟨by omega, fun q hq => by
    obtain ⟨n, hn, rfl⟩ := List.getElem_of_mem hq
    have := hv n hn
    rw [List.getD_eq_getElem?_getD, List.getElem?_eq_getElem hn] at this
    exact ⟨Nat.le_trans this.1 (by omega), fun y hy => Nat.le_trans (this.2 y hy) (by omega)⟩⟩
  have hraw : okVw (sv, rq) := ⟨by simp only; omega, hsv, hrs, hrq⟩
  have hl : (s.take 300).length ≤ 140737488355328 := by rw [List.length_take]; omega
  have e0 := dice s hs
  generalize s.take 300 = l at *
  obtain ⟨qs, k0, n, p, h1, h2, h3, h4, hp, hq, e1'⟩ := queries25 l hl 0
  have e1 := e1'.nm1 76000 0 (by omega) rfl rfl rfl rfl rfl
  have hsm := okQ.sm hq h2 h4
  have hin := okQ.inQ hp hq
  have e2 := (pick l hl k0 3 (by omega)).nm1 76000 0 (by omega) rfl rfl rfl rfl rfl
  have a2 := pickV_in l k0 3 (by omega)
  generalize pickV l k0 3 = a at *
  generalize pickK l k0 = k1 at *
  have e3 := (pick l hl k1 4 (by omega)).nm1 76000 0 (by omega) rfl rfl rfl rfl rfl
  have a3 := pickV_in l k1 4 (by omega)
  generalize pickV l k1 4 = b at *
  generalize pickK l k1 = k2 at *
  have w1 : IntKind.i64.wrap (1 + a) = 1 + a := IntWalk.i64_in _ (by omega)
  have w2 : IntKind.i64.wrap (2 + b) = 2 + b := IntWalk.i64_in _ (by omega)
  repeat' (first | simp (maxSteps := 9999999) only [↓GE, PL, PP, EE, QQ, seval, w1, w2, List.length_map] | (simp (disch := omega) only [IntWalk.i64_in]) | (refine go_brD (fun h => ?_) (fun h => ?_)) | (refine go_gsD (by ((try simp only [EE, QQ, seval]) <;> rfl)) (fun h => ?_) (fun h => ?_)) | (refine go_br (fun h => ?_) (fun h => ?_)) | (refine go_gs (by ((try simp only [EE, QQ, seval]) <;> rfl)) (fun h => ?_) (fun h => ?_)) | (apply go_call 5000 (e0) rfl rfl; iterate 4 (first | (exact CallForm.news rfl rfl) | ((try simp only [CC, LL, NM, EE, QQ, seval]) <;> (first | rfl | ((repeat constructor); done))))) | (apply go_call 5000 (e1) rfl rfl; iterate 4 (first | (exact CallForm.lent (by (try simp only [CC, LL, NM, EE, QQ, seval]); repeat' (first | trivial | (with_reducible rfl) | omega | (with_reducible apply And.intro) | rfl)) rfl rfl) | ((try simp only [CC, LL, NM, EE, QQ, seval]) <;> (first | rfl | ((repeat constructor); done))))) | (apply go_call 5000 (e2) rfl rfl; iterate 4 (first | (exact CallForm.lent (by (try simp only [CC, LL, NM, EE, QQ, seval]); repeat' (first | trivial | (with_reducible rfl) | omega | (with_reducible apply And.intro) | rfl)) rfl rfl) | ((try simp only [CC, LL, NM, EE, QQ, seval]) <;> (first | rfl | ((repeat constructor); done))))) | (apply go_call 5000 (e3) rfl rfl; iterate 4 (first | (exact CallForm.lent (by (try simp only [CC, LL, NM, EE, QQ, seval]); repeat' (first | trivial | (with_reducible rfl) | omega | (with_reducible apply And.intro) | rfl)) rfl rfl) | ((try simp only [CC, LL, NM, EE, QQ, seval]) <;> (first | rfl | ((repeat constructor); done))))) | (with_reducible apply And.intro) | (with_reducible exact trivial) | omega | (simp only [List.length_map, List.length_cons, List.length_nil] at *; omega) | (show _ = true; first | rfl | kernel_rfl))
  have hgood : ∀ x ∈ [servers, [1, 2, 3], [2], [1 + a, 2 + b], [], [0, 1], [7], part], goodL x := by
    intro x hx
    simp only [List.mem_cons, List.not_mem_nil, or_false] at hx
    rcases hx with rfl | rfl | rfl | rfl | rfl | rfl | rfl | rfl
    · exact ⟨by omega, hse⟩
    · exact ⟨by simp, by intro n hn; simp at hn; exact ⟨by omega, by omega⟩⟩
    · exact ⟨by simp, by intro n hn; simp at hn; exact ⟨by omega, by omega⟩⟩
    · exact ⟨by simp, by intro n hn; simp at hn; exact ⟨by omega, by omega⟩⟩
    · exact ⟨by simp, by simp⟩
    · exact ⟨by simp, by intro n hn; simp at hn; exact ⟨by omega, by omega⟩⟩
    · exact ⟨by simp, by intro n hn; simp at hn; exact ⟨by omega, by omega⟩⟩
    · exact ⟨by omega, hpa⟩
  have hrw : [[dInts servers], [dInts [1, 2, 3]], [dInts [2]], [dInts [1 + a, 2 + b]], [dInts []], [dInts [0, 1]], [dInts [7]], [dInts part]] = [servers, [1, 2, 3], [2], [1 + a, 2 + b], [], [0, 1], [7], part].map eR := rfl
  refine go_loopz 5000 hm0 (ι := {k : Nat // k ≤ 7}) (fun i => [(3, .d (dInts part)), (5, .bp 5 0 0), (14, .d (dQs qs)), (15, .ep 89 0 7 1), (90, .ep 89 0 7 1), (91, I 7), (92, I i.1)]) (fun i => [(5, .box 0 [.d (dInts sv), .d (dQs rq)]), (89, .box 0 [.d (dInts servers), .d (dInts [1, 2, 3]), .d (dInts [2]), .d (dInts [1 + a, 2 + b]), .d (dInts []), .d (dInts [0, 1]), .d (dInts [7])])]) (fun i => 7 - i.1) [.og 78 0, .og 79 0, .og 86 0, .og 87 0, .og 88 0] [] ⟨0, Nat.zero_le _⟩ ?_ ?_
  · simp only [GeZ]; (simp only [GeS]; refine ⟨?_, ?_, ?_, ?_⟩; all_goals (repeat' (first | (with_reducible exact True.intro) | (with_reducible rfl) | simp only [CC, LL, EE, QQ, seval, List.contains_nil, Bool.false_eq_true, ↓reduceIte, Option.some.injEq, O.arr.injEq, true_and, and_true] | (with_reducible apply And.intro) | (refine ⟨_, rfl, ?_⟩) | (simp [eI]; done) | rfl | omega | trivial)))
  rintro ⟨k, hk⟩
  by_cases hk7 : k = 7
  · subst hk7
    have f4 := vText sv rq hraw.1 hraw.2.1 hraw.2.2.1 hraw.2.2.2
    have f5 := text25 sv rq hraw.1 hraw.2.1 hraw.2.2.1 hraw.2.2.2
    have f6 := vFlat sv rq hraw.2.2.2 hraw.2.2.1.flat
    have f7 := flat25 sv rq hraw.2.2.1
    have f8 := intsSelf hraw.2.2.1.flat
    repeat' (first | simp (maxSteps := 9999999) only [↓GE, PL, PP, EE, QQ, seval] | (simp (disch := omega) only [IntWalk.i64_in]) | (refine go_brD (fun h => ?_) (fun h => ?_)) | (refine go_gsD (by ((try simp only [EE, QQ, seval]) <;> rfl)) (fun h => ?_) (fun h => ?_)) | (refine go_br (fun h => ?_) (fun h => ?_)) | (refine go_gs (by ((try simp only [EE, QQ, seval]) <;> rfl)) (fun h => ?_) (fun h => ?_)) | (apply go_call 5000 (f4) rfl rfl; iterate 4 (first | (exact CallForm.plain rfl) | ((try simp only [CC, LL, NM, EE, QQ, seval]) <;> (first | rfl | ((repeat constructor); done))))) | (apply go_call 5000 (f5) rfl rfl; iterate 4 (first | (exact CallForm.plain rfl) | ((try simp only [CC, LL, NM, EE, QQ, seval]) <;> (first | rfl | ((repeat constructor); done))))) | (apply go_call 5000 (f6) rfl rfl; iterate 4 (first | (exact CallForm.plain rfl) | ((try simp only [CC, LL, NM, EE, QQ, seval]) <;> (first | rfl | ((repeat constructor); done))))) | (apply go_call 5000 (f7) rfl rfl; iterate 4 (first | (exact CallForm.plain rfl) | ((try simp only [CC, LL, NM, EE, QQ, seval]) <;> (first | rfl | ((repeat constructor); done))))) | (apply go_call 5000 (f8) rfl rfl; iterate 4 (first | (exact CallForm.plain rfl) | ((try simp only [CC, LL, NM, EE, QQ, seval]) <;> (first | rfl | ((repeat constructor); done))))) | (with_reducible apply And.intro) | (with_reducible exact trivial) | omega | (simp only [List.length_map, List.length_cons, List.length_nil] at *; omega) | (show _ = true; first | rfl | kernel_rfl))
    all_goals ((first | apply ret_mk [] | apply end_mk []); (· ((try simp only [CC, LL, EE, QQ, seval]) <;> rfl)); (· ((try simp only [CC, LL, EE, QQ, seval]) <;> repeat' (first | (with_reducible apply And.intro) | rfl | trivial | (exact ⟨_, rfl⟩) | (exact ⟨_, _, _, rfl⟩) | (simp [*, ]; done) | (simp [*, ]; omega) | (simp_all []; done) | (simp_all []; omega)))); all_goals (first | trivial | decide | ((try simp only [CC, LL, EE, QQ, seval]) <;> repeat' (first | (with_reducible apply And.intro) | (exact ⟨_, rfl, rfl, rfl⟩) | (exact ⟨_, _, _, rfl⟩) | (exact ⟨_, rfl⟩) | trivial | rfl | (simp; done)))))
  have hcs : k = 0 ∨ k = 1 ∨ k = 2 ∨ k = 3 ∨ k = 4 ∨ k = 5 ∨ k = 6 := by omega
  generalize hll : [servers, [1, 2, 3], [2], [1 + a, 2 + b], [], [0, 1], [7], part] = ll at *
  apply join_on (α := List Int × List (List (List Int))) (C := okVw)
  · intro hkey
    have key : ∀ x, x ∈ ll → ∃ y e, okVw y ∧ Does Try.prog 10 [.d (dQs qs), .d (dInts x)] [] (.tu [vView y.1 y.2, I e]) [] [] ∧ Does Try.prog 15 [.d (dQs qs), .d (dInts x)] [] (.tu [vView y.1 y.2, I e]) [] [] := fun x hx => ofBoth hsm hin (hgood x hx)
    have hyy := fun (y : List Int × List (List (List Int))) (hy : okVw y) => sameSelf hy.sm
    obtain ⟨z, hz⟩ : ∃ z : Int, (k : Int) = z := ⟨_, rfl⟩
    have hzk : z = 0 ∨ z = 1 ∨ z = 2 ∨ z = 3 ∨ z = 4 ∨ z = 5 ∨ z = 6 := by omega
    have hps : [[dInts part]] = [part].map eR := rfl
    simp only [hz]
    rcases hzk with rfl | rfl | rfl | rfl | rfl | rfl | rfl
    · obtain ⟨y, e, hy, f1, f2⟩ := key servers (by rw [← hll]; simp)
      have f3 := sameSelf hy.sm
      have f4 := vText y.1 y.2 hy.1 hy.2.1 hy.2.2.1 hy.2.2.2
      have f5 := text25 y.1 y.2 hy.1 hy.2.1 hy.2.2.1 hy.2.2.2
      have f6 := vFlat y.1 y.2 hy.2.2.2 hy.2.2.1.flat
      have f7 := flat25 y.1 y.2 hy.2.2.1
      have f8 := intsSelf hy.2.2.1.flat
      have q7 : (e != e) = false := by simp
      repeat' (first | simp (maxSteps := 9999999) only [↓GE, PL, PP, EE, QQ, seval, q7, List.length_map] | (simp (disch := omega) only [IntWalk.i64_in]) | (refine go_brD (fun h => ?_) (fun h => ?_)) | (refine go_gsD (by ((try simp only [EE, QQ, seval]) <;> rfl)) (fun h => ?_) (fun h => ?_)) | (refine go_br (fun h => ?_) (fun h => ?_)) | (refine go_gs (by ((try simp only [EE, QQ, seval]) <;> rfl)) (fun h => ?_) (fun h => ?_)) | (apply go_call 5000 (f1) rfl rfl; iterate 4 (first | (exact CallForm.plain rfl) | ((try simp only [CC, LL, NM, EE, QQ, seval]) <;> (first | rfl | ((repeat constructor); done))))) | (apply go_call 5000 (f2) rfl rfl; iterate 4 (first | (exact CallForm.plain rfl) | ((try simp only [CC, LL, NM, EE, QQ, seval]) <;> (first | rfl | ((repeat constructor); done))))) | (apply go_call 5000 (f3) rfl rfl; iterate 4 (first | (exact CallForm.plain rfl) | ((try simp only [CC, LL, NM, EE, QQ, seval]) <;> (first | rfl | ((repeat constructor); done))))) | (apply go_call 5000 (f4) rfl rfl; iterate 4 (first | (exact CallForm.plain rfl) | ((try simp only [CC, LL, NM, EE, QQ, seval]) <;> (first | rfl | ((repeat constructor); done))))) | (apply go_call 5000 (f5) rfl rfl; iterate 4 (first | (exact CallForm.plain rfl) | ((try simp only [CC, LL, NM, EE, QQ, seval]) <;> (first | rfl | ((repeat constructor); done))))) | (apply go_call 5000 (f6) rfl rfl; iterate 4 (first | (exact CallForm.plain rfl) | ((try simp only [CC, LL, NM, EE, QQ, seval]) <;> (first | rfl | ((repeat constructor); done))))) | (apply go_call 5000 (f7) rfl rfl; iterate 4 (first | (exact CallForm.plain rfl) | ((try simp only [CC, LL, NM, EE, QQ, seval]) <;> (first | rfl | ((repeat constructor); done))))) | (apply go_call 5000 (f8) rfl rfl; iterate 4 (first | (exact CallForm.plain rfl) | ((try simp only [CC, LL, NM, EE, QQ, seval]) <;> (first | rfl | ((repeat constructor); done))))) | (with_reducible apply And.intro) | (with_reducible exact trivial) | omega | (simp only [List.length_map, List.length_cons, List.length_nil] at *; omega) | (show _ = true; first | rfl | kernel_rfl))
      refine awp_meet hm0 [.og 135 0] [] [(3, .d (dInts part)), (5, .bp 5 0 0), (14, .d (dQs qs)), (15, .ep 89 0 7 1), (20, .bp 20 0 0), (90, .ep 89 0 7 1), (91, I 7), (92, I k), (135, .d (dRows ll)), (136, I 8), (137, I 0)] [(5, .box 0 [.d (dInts sv), .d (dQs rq)]), (20, .box 0 [.d (dInts y.1), .d (dQs y.2)]), (89, .box 0 [.d (dInts servers), .d (dInts [1, 2, 3]), .d (dInts [2]), .d (dInts [1 + a, 2 + b]), .d (dInts []), .d (dInts [0, 1]), .d (dInts [7])])] ?_ (hkey y hy)
      simp only [GeZ]; (simp only [GeS]; refine ⟨?_, ?_, ?_, ?_⟩; all_goals (repeat' (first | (with_reducible exact True.intro) | (with_reducible rfl) | simp only [CC, LL, EE, QQ, seval, List.contains_nil, Bool.false_eq_true, ↓reduceIte, Option.some.injEq, O.arr.injEq, true_and, and_true] | (with_reducible apply And.intro) | (refine ⟨_, rfl, ?_⟩) | (simp [hz, hrw, eI]; done) | rfl | omega | trivial)))
    · obtain ⟨y, e, hy, f1, f2⟩ := key [1, 2, 3] (by rw [← hll]; simp)
      have f3 := sameSelf hy.sm
      have f4 := vText y.1 y.2 hy.1 hy.2.1 hy.2.2.1 hy.2.2.2
      have f5 := text25 y.1 y.2 hy.1 hy.2.1 hy.2.2.1 hy.2.2.2
      have f6 := vFlat y.1 y.2 hy.2.2.2 hy.2.2.1.flat
      have f7 := flat25 y.1 y.2 hy.2.2.1
      have f8 := intsSelf hy.2.2.1.flat
      have q7 : (e != e) = false := by simp
      repeat' (first | simp (maxSteps := 9999999) only [↓GE, PL, PP, EE, QQ, seval, q7, List.length_map] | (simp (disch := omega) only [IntWalk.i64_in]) | (refine go_brD (fun h => ?_) (fun h => ?_)) | (refine go_gsD (by ((try simp only [EE, QQ, seval]) <;> rfl)) (fun h => ?_) (fun h => ?_)) | (refine go_br (fun h => ?_) (fun h => ?_)) | (refine go_gs (by ((try simp only [EE, QQ, seval]) <;> rfl)) (fun h => ?_) (fun h => ?_)) | (apply go_call 5000 (f1) rfl rfl; iterate 4 (first | (exact CallForm.plain rfl) | ((try simp only [CC, LL, NM, EE, QQ, seval]) <;> (first | rfl | ((repeat constructor); done))))) | (apply go_call 5000 (f2) rfl rfl; iterate 4 (first | (exact CallForm.plain rfl) | ((try simp only [CC, LL, NM, EE, QQ, seval]) <;> (first | rfl | ((repeat constructor); done))))) | (apply go_call 5000 (f3) rfl rfl; iterate 4 (first | (exact CallForm.plain rfl) | ((try simp only [CC, LL, NM, EE, QQ, seval]) <;> (first | rfl | ((repeat constructor); done))))) | (apply go_call 5000 (f4) rfl rfl; iterate 4 (first | (exact CallForm.plain rfl) | ((try simp only [CC, LL, NM, EE, QQ, seval]) <;> (first | rfl | ((repeat constructor); done))))) | (apply go_call 5000 (f5) rfl rfl; iterate 4 (first | (exact CallForm.plain rfl) | ((try simp only [CC, LL, NM, EE, QQ, seval]) <;> (first | rfl | ((repeat constructor); done))))) | (apply go_call 5000 (f6) rfl rfl; iterate 4 (first | (exact CallForm.plain rfl) | ((try simp only [CC, LL, NM, EE, QQ, seval]) <;> (first | rfl | ((repeat constructor); done))))) | (apply go_call 5000 (f7) rfl rfl; iterate 4 (first | (exact CallForm.plain rfl) | ((try simp only [CC, LL, NM, EE, QQ, seval]) <;> (first | rfl | ((repeat constructor); done))))) | (apply go_call 5000 (f8) rfl rfl; iterate 4 (first | (exact CallForm.plain rfl) | ((try simp only [CC, LL, NM, EE, QQ, seval]) <;> (first | rfl | ((repeat constructor); done))))) | (with_reducible apply And.intro) | (with_reducible exact trivial) | omega | (simp only [List.length_map, List.length_cons, List.length_nil] at *; omega) | (show _ = true; first | rfl | kernel_rfl))
      refine awp_meet hm0 [.og 135 0] [] [(3, .d (dInts part)), (5, .bp 5 0 0), (14, .d (dQs qs)), (15, .ep 89 0 7 1), (20, .bp 20 0 0), (90, .ep 89 0 7 1), (91, I 7), (92, I k), (135, .d (dRows ll)), (136, I 8), (137, I 0)] [(5, .box 0 [.d (dInts sv), .d (dQs rq)]), (20, .box 0 [.d (dInts y.1), .d (dQs y.2)]), (89, .box 0 [.d (dInts servers), .d (dInts [1, 2, 3]), .d (dInts [2]), .d (dInts [1 + a, 2 + b]), .d (dInts []), .d (dInts [0, 1]), .d (dInts [7])])] ?_ (hkey y hy)
      simp only [GeZ]; (simp only [GeS]; refine ⟨?_, ?_, ?_, ?_⟩; all_goals (repeat' (first | (with_reducible exact True.intro) | (with_reducible rfl) | simp only [CC, LL, EE, QQ, seval, List.contains_nil, Bool.false_eq_true, ↓reduceIte, Option.some.injEq, O.arr.injEq, true_and, and_true] | (with_reducible apply And.intro) | (refine ⟨_, rfl, ?_⟩) | (simp [hz, hrw, eI]; done) | rfl | omega | trivial)))
    · obtain ⟨y, e, hy, f1, f2⟩ := key [2] (by rw [← hll]; simp)
      have f3 := sameSelf hy.sm
      have f4 := vText y.1 y.2 hy.1 hy.2.1 hy.2.2.1 hy.2.2.2
      have f5 := text25 y.1 y.2 hy.1 hy.2.1 hy.2.2.1 hy.2.2.2
      have f6 := vFlat y.1 y.2 hy.2.2.2 hy.2.2.1.flat
      have f7 := flat25 y.1 y.2 hy.2.2.1
      have f8 := intsSelf hy.2.2.1.flat
      have q7 : (e != e) = false := by simp
      repeat' (first | simp (maxSteps := 9999999) only [↓GE, PL, PP, EE, QQ, seval, q7, List.length_map] | (simp (disch := omega) only [IntWalk.i64_in]) | (refine go_brD (fun h => ?_) (fun h => ?_)) | (refine go_gsD (by ((try simp only [EE, QQ, seval]) <;> rfl)) (fun h => ?_) (fun h => ?_)) | (refine go_br (fun h => ?_) (fun h => ?_)) | (refine go_gs (by ((try simp only [EE, QQ, seval]) <;> rfl)) (fun h => ?_) (fun h => ?_)) | (apply go_call 5000 (f1) rfl rfl; iterate 4 (first | (exact CallForm.plain rfl) | ((try simp only [CC, LL, NM, EE, QQ, seval]) <;> (first | rfl | ((repeat constructor); done))))) | (apply go_call 5000 (f2) rfl rfl; iterate 4 (first | (exact CallForm.plain rfl) | ((try simp only [CC, LL, NM, EE, QQ, seval]) <;> (first | rfl | ((repeat constructor); done))))) | (apply go_call 5000 (f3) rfl rfl; iterate 4 (first | (exact CallForm.plain rfl) | ((try simp only [CC, LL, NM, EE, QQ, seval]) <;> (first | rfl | ((repeat constructor); done))))) | (apply go_call 5000 (f4) rfl rfl; iterate 4 (first | (exact CallForm.plain rfl) | ((try simp only [CC, LL, NM, EE, QQ, seval]) <;> (first | rfl | ((repeat constructor); done))))) | (apply go_call 5000 (f5) rfl rfl; iterate 4 (first | (exact CallForm.plain rfl) | ((try simp only [CC, LL, NM, EE, QQ, seval]) <;> (first | rfl | ((repeat constructor); done))))) | (apply go_call 5000 (f6) rfl rfl; iterate 4 (first | (exact CallForm.plain rfl) | ((try simp only [CC, LL, NM, EE, QQ, seval]) <;> (first | rfl | ((repeat constructor); done))))) | (apply go_call 5000 (f7) rfl rfl; iterate 4 (first | (exact CallForm.plain rfl) | ((try simp only [CC, LL, NM, EE, QQ, seval]) <;> (first | rfl | ((repeat constructor); done))))) | (apply go_call 5000 (f8) rfl rfl; iterate 4 (first | (exact CallForm.plain rfl) | ((try simp only [CC, LL, NM, EE, QQ, seval]) <;> (first | rfl | ((repeat constructor); done))))) | (with_reducible apply And.intro) | (with_reducible exact trivial) | omega | (simp only [List.length_map, List.length_cons, List.length_nil] at *; omega) | (show _ = true; first | rfl | kernel_rfl))
      refine awp_meet hm0 [.og 135 0] [] [(3, .d (dInts part)), (5, .bp 5 0 0), (14, .d (dQs qs)), (15, .ep 89 0 7 1), (20, .bp 20 0 0), (90, .ep 89 0 7 1), (91, I 7), (92, I k), (135, .d (dRows ll)), (136, I 8), (137, I 0)] [(5, .box 0 [.d (dInts sv), .d (dQs rq)]), (20, .box 0 [.d (dInts y.1), .d (dQs y.2)]), (89, .box 0 [.d (dInts servers), .d (dInts [1, 2, 3]), .d (dInts [2]), .d (dInts [1 + a, 2 + b]), .d (dInts []), .d (dInts [0, 1]), .d (dInts [7])])] ?_ (hkey y hy)
      simp only [GeZ]; (simp only [GeS]; refine ⟨?_, ?_, ?_, ?_⟩; all_goals (repeat' (first | (with_reducible exact True.intro) | (with_reducible rfl) | simp only [CC, LL, EE, QQ, seval, List.contains_nil, Bool.false_eq_true, ↓reduceIte, Option.some.injEq, O.arr.injEq, true_and, and_true] | (with_reducible apply And.intro) | (refine ⟨_, rfl, ?_⟩) | (simp [hz, hrw, eI]; done) | rfl | omega | trivial)))
    · obtain ⟨y, e, hy, f1, f2⟩ := key [1 + a, 2 + b] (by rw [← hll]; simp)
      have f3 := sameSelf hy.sm
      have f4 := vText y.1 y.2 hy.1 hy.2.1 hy.2.2.1 hy.2.2.2
      have f5 := text25 y.1 y.2 hy.1 hy.2.1 hy.2.2.1 hy.2.2.2
      have f6 := vFlat y.1 y.2 hy.2.2.2 hy.2.2.1.flat
      have f7 := flat25 y.1 y.2 hy.2.2.1
      have f8 := intsSelf hy.2.2.1.flat
      have q7 : (e != e) = false := by simp
      repeat' (first | simp (maxSteps := 9999999) only [↓GE, PL, PP, EE, QQ, seval, q7, List.length_map] | (simp (disch := omega) only [IntWalk.i64_in]) | (refine go_brD (fun h => ?_) (fun h => ?_)) | (refine go_gsD (by ((try simp only [EE, QQ, seval]) <;> rfl)) (fun h => ?_) (fun h => ?_)) | (refine go_br (fun h => ?_) (fun h => ?_)) | (refine go_gs (by ((try simp only [EE, QQ, seval]) <;> rfl)) (fun h => ?_) (fun h => ?_)) | (apply go_call 5000 (f1) rfl rfl; iterate 4 (first | (exact CallForm.plain rfl) | ((try simp only [CC, LL, NM, EE, QQ, seval]) <;> (first | rfl | ((repeat constructor); done))))) | (apply go_call 5000 (f2) rfl rfl; iterate 4 (first | (exact CallForm.plain rfl) | ((try simp only [CC, LL, NM, EE, QQ, seval]) <;> (first | rfl | ((repeat constructor); done))))) | (apply go_call 5000 (f3) rfl rfl; iterate 4 (first | (exact CallForm.plain rfl) | ((try simp only [CC, LL, NM, EE, QQ, seval]) <;> (first | rfl | ((repeat constructor); done))))) | (apply go_call 5000 (f4) rfl rfl; iterate 4 (first | (exact CallForm.plain rfl) | ((try simp only [CC, LL, NM, EE, QQ, seval]) <;> (first | rfl | ((repeat constructor); done))))) | (apply go_call 5000 (f5) rfl rfl; iterate 4 (first | (exact CallForm.plain rfl) | ((try simp only [CC, LL, NM, EE, QQ, seval]) <;> (first | rfl | ((repeat constructor); done))))) | (apply go_call 5000 (f6) rfl rfl; iterate 4 (first | (exact CallForm.plain rfl) | ((try simp only [CC, LL, NM, EE, QQ, seval]) <;> (first | rfl | ((repeat constructor); done))))) | (apply go_call 5000 (f7) rfl rfl; iterate 4 (first | (exact CallForm.plain rfl) | ((try simp only [CC, LL, NM, EE, QQ, seval]) <;> (first | rfl | ((repeat constructor); done))))) | (apply go_call 5000 (f8) rfl rfl; iterate 4 (first | (exact CallForm.plain rfl) | ((try simp only [CC, LL, NM, EE, QQ, seval]) <;> (first | rfl | ((repeat constructor); done))))) | (with_reducible apply And.intro) | (with_reducible exact trivial) | omega | (simp only [List.length_map, List.length_cons, List.length_nil] at *; omega) | (show _ = true; first | rfl | kernel_rfl))
      refine awp_meet hm0 [.og 135 0] [] [(3, .d (dInts part)), (5, .bp 5 0 0), (14, .d (dQs qs)), (15, .ep 89 0 7 1), (20, .bp 20 0 0), (90, .ep 89 0 7 1), (91, I 7), (92, I k), (135, .d (dRows ll)), (136, I 8), (137, I 0)] [(5, .box 0 [.d (dInts sv), .d (dQs rq)]), (20, .box 0 [.d (dInts y.1), .d (dQs y.2)]), (89, .box 0 [.d (dInts servers), .d (dInts [1, 2, 3]), .d (dInts [2]), .d (dInts [1 + a, 2 + b]), .d (dInts []), .d (dInts [0, 1]), .d (dInts [7])])] ?_ (hkey y hy)
      simp only [GeZ]; (simp only [GeS]; refine ⟨?_, ?_, ?_, ?_⟩; all_goals (repeat' (first | (with_reducible exact True.intro) | (with_reducible rfl) | simp only [CC, LL, EE, QQ, seval, List.contains_nil, Bool.false_eq_true, ↓reduceIte, Option.some.injEq, O.arr.injEq, true_and, and_true] | (with_reducible apply And.intro) | (refine ⟨_, rfl, ?_⟩) | (simp [hz, hrw, eI]; done) | rfl | omega | trivial)))
    · obtain ⟨y, e, hy, f1, f2⟩ := key [] (by rw [← hll]; simp)
      have f3 := sameSelf hy.sm
      have f4 := vText y.1 y.2 hy.1 hy.2.1 hy.2.2.1 hy.2.2.2
      have f5 := text25 y.1 y.2 hy.1 hy.2.1 hy.2.2.1 hy.2.2.2
      have f6 := vFlat y.1 y.2 hy.2.2.2 hy.2.2.1.flat
      have f7 := flat25 y.1 y.2 hy.2.2.1
      have f8 := intsSelf hy.2.2.1.flat
      have q7 : (e != e) = false := by simp
      repeat' (first | simp (maxSteps := 9999999) only [↓GE, PL, PP, EE, QQ, seval, q7, List.length_map] | (simp (disch := omega) only [IntWalk.i64_in]) | (refine go_brD (fun h => ?_) (fun h => ?_)) | (refine go_gsD (by ((try simp only [EE, QQ, seval]) <;> rfl)) (fun h => ?_) (fun h => ?_)) | (refine go_br (fun h => ?_) (fun h => ?_)) | (refine go_gs (by ((try simp only [EE, QQ, seval]) <;> rfl)) (fun h => ?_) (fun h => ?_)) | (apply go_call 5000 (f1) rfl rfl; iterate 4 (first | (exact CallForm.plain rfl) | ((try simp only [CC, LL, NM, EE, QQ, seval]) <;> (first | rfl | ((repeat constructor); done))))) | (apply go_call 5000 (f2) rfl rfl; iterate 4 (first | (exact CallForm.plain rfl) | ((try simp only [CC, LL, NM, EE, QQ, seval]) <;> (first | rfl | ((repeat constructor); done))))) | (apply go_call 5000 (f3) rfl rfl; iterate 4 (first | (exact CallForm.plain rfl) | ((try simp only [CC, LL, NM, EE, QQ, seval]) <;> (first | rfl | ((repeat constructor); done))))) | (apply go_call 5000 (f4) rfl rfl; iterate 4 (first | (exact CallForm.plain rfl) | ((try simp only [CC, LL, NM, EE, QQ, seval]) <;> (first | rfl | ((repeat constructor); done))))) | (apply go_call 5000 (f5) rfl rfl; iterate 4 (first | (exact CallForm.plain rfl) | ((try simp only [CC, LL, NM, EE, QQ, seval]) <;> (first | rfl | ((repeat constructor); done))))) | (apply go_call 5000 (f6) rfl rfl; iterate 4 (first | (exact CallForm.plain rfl) | ((try simp only [CC, LL, NM, EE, QQ, seval]) <;> (first | rfl | ((repeat constructor); done))))) | (apply go_call 5000 (f7) rfl rfl; iterate 4 (first | (exact CallForm.plain rfl) | ((try simp only [CC, LL, NM, EE, QQ, seval]) <;> (first | rfl | ((repeat constructor); done))))) | (apply go_call 5000 (f8) rfl rfl; iterate 4 (first | (exact CallForm.plain rfl) | ((try simp only [CC, LL, NM, EE, QQ, seval]) <;> (first | rfl | ((repeat constructor); done))))) | (with_reducible apply And.intro) | (with_reducible exact trivial) | omega | (simp only [List.length_map, List.length_cons, List.length_nil] at *; omega) | (show _ = true; first | rfl | kernel_rfl))
      refine awp_meet hm0 [.og 135 0] [] [(3, .d (dInts part)), (5, .bp 5 0 0), (14, .d (dQs qs)), (15, .ep 89 0 7 1), (20, .bp 20 0 0), (90, .ep 89 0 7 1), (91, I 7), (92, I k), (135, .d (dRows ll)), (136, I 8), (137, I 0)] [(5, .box 0 [.d (dInts sv), .d (dQs rq)]), (20, .box 0 [.d (dInts y.1), .d (dQs y.2)]), (89, .box 0 [.d (dInts servers), .d (dInts [1, 2, 3]), .d (dInts [2]), .d (dInts [1 + a, 2 + b]), .d (dInts []), .d (dInts [0, 1]), .d (dInts [7])])] ?_ (hkey y hy)
      simp only [GeZ]; (simp only [GeS]; refine ⟨?_, ?_, ?_, ?_⟩; all_goals (repeat' (first | (with_reducible exact True.intro) | (with_reducible rfl) | simp only [CC, LL, EE, QQ, seval, List.contains_nil, Bool.false_eq_true, ↓reduceIte, Option.some.injEq, O.arr.injEq, true_and, and_true] | (with_reducible apply And.intro) | (refine ⟨_, rfl, ?_⟩) | (simp [hz, hrw, eI]; done) | rfl | omega | trivial)))
    · obtain ⟨y, e, hy, f1, f2⟩ := key [0, 1] (by rw [← hll]; simp)
      have f3 := sameSelf hy.sm
      have f4 := vText y.1 y.2 hy.1 hy.2.1 hy.2.2.1 hy.2.2.2
      have f5 := text25 y.1 y.2 hy.1 hy.2.1 hy.2.2.1 hy.2.2.2
      have f6 := vFlat y.1 y.2 hy.2.2.2 hy.2.2.1.flat
      have f7 := flat25 y.1 y.2 hy.2.2.1
      have f8 := intsSelf hy.2.2.1.flat
      have q7 : (e != e) = false := by simp
      repeat' (first | simp (maxSteps := 9999999) only [↓GE, PL, PP, EE, QQ, seval, q7, List.length_map] | (simp (disch := omega) only [IntWalk.i64_in]) | (refine go_brD (fun h => ?_) (fun h => ?_)) | (refine go_gsD (by ((try simp only [EE, QQ, seval]) <;> rfl)) (fun h => ?_) (fun h => ?_)) | (refine go_br (fun h => ?_) (fun h => ?_)) | (refine go_gs (by ((try simp only [EE, QQ, seval]) <;> rfl)) (fun h => ?_) (fun h => ?_)) | (apply go_call 5000 (f1) rfl rfl; iterate 4 (first | (exact CallForm.plain rfl) | ((try simp only [CC, LL, NM, EE, QQ, seval]) <;> (first | rfl | ((repeat constructor); done))))) | (apply go_call 5000 (f2) rfl rfl; iterate 4 (first | (exact CallForm.plain rfl) | ((try simp only [CC, LL, NM, EE, QQ, seval]) <;> (first | rfl | ((repeat constructor); done))))) | (apply go_call 5000 (f3) rfl rfl; iterate 4 (first | (exact CallForm.plain rfl) | ((try simp only [CC, LL, NM, EE, QQ, seval]) <;> (first | rfl | ((repeat constructor); done))))) | (apply go_call 5000 (f4) rfl rfl; iterate 4 (first | (exact CallForm.plain rfl) | ((try simp only [CC, LL, NM, EE, QQ, seval]) <;> (first | rfl | ((repeat constructor); done))))) | (apply go_call 5000 (f5) rfl rfl; iterate 4 (first | (exact CallForm.plain rfl) | ((try simp only [CC, LL, NM, EE, QQ, seval]) <;> (first | rfl | ((repeat constructor); done))))) | (apply go_call 5000 (f6) rfl rfl; iterate 4 (first | (exact CallForm.plain rfl) | ((try simp only [CC, LL, NM, EE, QQ, seval]) <;> (first | rfl | ((repeat constructor); done))))) | (apply go_call 5000 (f7) rfl rfl; iterate 4 (first | (exact CallForm.plain rfl) | ((try simp only [CC, LL, NM, EE, QQ, seval]) <;> (first | rfl | ((repeat constructor); done))))) | (apply go_call 5000 (f8) rfl rfl; iterate 4 (first | (exact CallForm.plain rfl) | ((try simp only [CC, LL, NM, EE, QQ, seval]) <;> (first | rfl | ((repeat constructor); done))))) | (with_reducible apply And.intro) | (with_reducible exact trivial) | omega | (simp only [List.length_map, List.length_cons, List.length_nil] at *; omega) | (show _ = true; first | rfl | kernel_rfl))
      refine awp_meet hm0 [.og 135 0] [] [(3, .d (dInts part)), (5, .bp 5 0 0), (14, .d (dQs qs)), (15, .ep 89 0 7 1), (20, .bp 20 0 0), (90, .ep 89 0 7 1), (91, I 7), (92, I k), (135, .d (dRows ll)), (136, I 8), (137, I 0)] [(5, .box 0 [.d (dInts sv), .d (dQs rq)]), (20, .box 0 [.d (dInts y.1), .d (dQs y.2)]), (89, .box 0 [.d (dInts servers), .d (dInts [1, 2, 3]), .d (dInts [2]), .d (dInts [1 + a, 2 + b]), .d (dInts []), .d (dInts [0, 1]), .d (dInts [7])])] ?_ (hkey y hy)
      simp only [GeZ]; (simp only [GeS]; refine ⟨?_, ?_, ?_, ?_⟩; all_goals (repeat' (first | (with_reducible exact True.intro) | (with_reducible rfl) | simp only [CC, LL, EE, QQ, seval, List.contains_nil, Bool.false_eq_true, ↓reduceIte, Option.some.injEq, O.arr.injEq, true_and, and_true] | (with_reducible apply And.intro) | (refine ⟨_, rfl, ?_⟩) | (simp [hz, hrw, eI]; done) | rfl | omega | trivial)))
    · obtain ⟨y, e, hy, f1, f2⟩ := key [7] (by rw [← hll]; simp)
      have f3 := sameSelf hy.sm
      have f4 := vText y.1 y.2 hy.1 hy.2.1 hy.2.2.1 hy.2.2.2
      have f5 := text25 y.1 y.2 hy.1 hy.2.1 hy.2.2.1 hy.2.2.2
      have f6 := vFlat y.1 y.2 hy.2.2.2 hy.2.2.1.flat
      have f7 := flat25 y.1 y.2 hy.2.2.1
      have f8 := intsSelf hy.2.2.1.flat
      have q7 : (e != e) = false := by simp
      repeat' (first | simp (maxSteps := 9999999) only [↓GE, PL, PP, EE, QQ, seval, q7, List.length_map] | (simp (disch := omega) only [IntWalk.i64_in]) | (refine go_brD (fun h => ?_) (fun h => ?_)) | (refine go_gsD (by ((try simp only [EE, QQ, seval]) <;> rfl)) (fun h => ?_) (fun h => ?_)) | (refine go_br (fun h => ?_) (fun h => ?_)) | (refine go_gs (by ((try simp only [EE, QQ, seval]) <;> rfl)) (fun h => ?_) (fun h => ?_)) | (apply go_call 5000 (f1) rfl rfl; iterate 4 (first | (exact CallForm.plain rfl) | ((try simp only [CC, LL, NM, EE, QQ, seval]) <;> (first | rfl | ((repeat constructor); done))))) | (apply go_call 5000 (f2) rfl rfl; iterate 4 (first | (exact CallForm.plain rfl) | ((try simp only [CC, LL, NM, EE, QQ, seval]) <;> (first | rfl | ((repeat constructor); done))))) | (apply go_call 5000 (f3) rfl rfl; iterate 4 (first | (exact CallForm.plain rfl) | ((try simp only [CC, LL, NM, EE, QQ, seval]) <;> (first | rfl | ((repeat constructor); done))))) | (apply go_call 5000 (f4) rfl rfl; iterate 4 (first | (exact CallForm.plain rfl) | ((try simp only [CC, LL, NM, EE, QQ, seval]) <;> (first | rfl | ((repeat constructor); done))))) | (apply go_call 5000 (f5) rfl rfl; iterate 4 (first | (exact CallForm.plain rfl) | ((try simp only [CC, LL, NM, EE, QQ, seval]) <;> (first | rfl | ((repeat constructor); done))))) | (apply go_call 5000 (f6) rfl rfl; iterate 4 (first | (exact CallForm.plain rfl) | ((try simp only [CC, LL, NM, EE, QQ, seval]) <;> (first | rfl | ((repeat constructor); done))))) | (apply go_call 5000 (f7) rfl rfl; iterate 4 (first | (exact CallForm.plain rfl) | ((try simp only [CC, LL, NM, EE, QQ, seval]) <;> (first | rfl | ((repeat constructor); done))))) | (apply go_call 5000 (f8) rfl rfl; iterate 4 (first | (exact CallForm.plain rfl) | ((try simp only [CC, LL, NM, EE, QQ, seval]) <;> (first | rfl | ((repeat constructor); done))))) | (with_reducible apply And.intro) | (with_reducible exact trivial) | omega | (simp only [List.length_map, List.length_cons, List.length_nil] at *; omega) | (show _ = true; first | rfl | kernel_rfl))
      refine awp_meet hm0 [.og 135 0] [] [(3, .d (dInts part)), (5, .bp 5 0 0), (14, .d (dQs qs)), (15, .ep 89 0 7 1), (20, .bp 20 0 0), (90, .ep 89 0 7 1), (91, I 7), (92, I k), (135, .d (dRows ll)), (136, I 8), (137, I 0)] [(5, .box 0 [.d (dInts sv), .d (dQs rq)]), (20, .box 0 [.d (dInts y.1), .d (dQs y.2)]), (89, .box 0 [.d (dInts servers), .d (dInts [1, 2, 3]), .d (dInts [2]), .d (dInts [1 + a, 2 + b]), .d (dInts []), .d (dInts [0, 1]), .d (dInts [7])])] ?_ (hkey y hy)
      simp only [GeZ]; (simp only [GeS]; refine ⟨?_, ?_, ?_, ?_⟩; all_goals (repeat' (first | (with_reducible exact True.intro) | (with_reducible rfl) | simp only [CC, LL, EE, QQ, seval, List.contains_nil, Bool.false_eq_true, ↓reduceIte, Option.some.injEq, O.arr.injEq, true_and, and_true] | (with_reducible apply And.intro) | (refine ⟨_, rfl, ?_⟩) | (simp [hz, hrw, eI]; done) | rfl | omega | trivial)))
  · intro y hy
    have hlen : ll.length = 8 := by rw [← hll]; rfl
    refine go_loop 5000 hm0 (ι := {j : Nat // j ≤ 8}) (fun i => [(3, .d (dInts part)), (5, .bp 5 0 0), (14, .d (dQs qs)), (15, .ep 89 0 7 1), (20, .bp 20 0 0), (90, .ep 89 0 7 1), (91, I 7), (92, I k), (135, .d (dRows ll)), (136, I 8), (137, I i.1)]) (fun i => [(5, .box 0 [.d (dInts sv), .d (dQs rq)]), (20, .box 0 [.d (dInts y.1), .d (dQs y.2)]), (89, .box 0 [.d (dInts servers), .d (dInts [1, 2, 3]), .d (dInts [2]), .d (dInts [1 + a, 2 + b]), .d (dInts []), .d (dInts [0, 1]), .d (dInts [7])])]) (fun i => 8 - i.1) [] ⟨0, Nat.zero_le _⟩ ?_ ?_
    · (simp only [GeS]; refine ⟨?_, ?_, ?_, ?_⟩; all_goals (repeat' (first | (with_reducible exact True.intro) | (with_reducible rfl) | simp only [CC, LL, EE, QQ, seval, List.contains_nil, Bool.false_eq_true, ↓reduceIte, Option.some.injEq, O.arr.injEq, true_and, and_true] | (with_reducible apply And.intro) | (refine ⟨_, rfl, ?_⟩) | (simp; done) | rfl | omega | trivial)))
    rintro ⟨j, hj⟩
    by_cases hj8 : j < 8
    · have hs3 := getD_map eR [] [] ll j (by omega)
      have gx := hgood _ (mem_getD [] ll j (by omega))
      have hjll : j < ll.length := by omega
      generalize ll.getD j [] = x at *
      have q8 : decide ((j : Int) < 8) = true := decide_eq_true (by omega)
      have hok : ∀ v ∈ [y, (sv, rq)], okVw v := by
        intro v hv
        simp only [List.mem_cons, List.not_mem_nil, or_false] at hv
        rcases hv with rfl | rfl
        · exact hy
        · exact hraw
      have hvs : [[dInts y.1, dQs y.2], [dInts sv, dQs rq]] = [y, (sv, rq)].map eV := rfl
      have hvl : [y, (sv, rq)].length = 2 := rfl
      generalize hvv : [y, (sv, rq)] = vs at *
      repeat' (first | simp (maxSteps := 9999999) only [↓GE, PL, PP, EE, QQ, seval, hs3, q8, hjll, eR, List.length_map] | (simp (disch := omega) only [IntWalk.i64_in]) | (refine go_brD (fun h => ?_) (fun h => ?_)) | (refine go_gsD (by ((try simp only [EE, QQ, seval]) <;> rfl)) (fun h => ?_) (fun h => ?_)) | (refine go_br (fun h => ?_) (fun h => ?_)) | (refine go_gs (by ((try simp only [EE, QQ, seval]) <;> rfl)) (fun h => ?_) (fun h => ?_)) | (with_reducible apply And.intro) | (with_reducible exact trivial) | omega | (simp only [List.length_map, List.length_cons, List.length_nil] at *; omega) | (show _ = true; first | rfl | kernel_rfl))
      refine go_loopz 5000 hm0 (ι := {i : Nat // i ≤ 2}) (fun i => [(3, .d (dInts part)), (5, .bp 5 0 0), (14, .d (dQs qs)), (15, .ep 89 0 7 1), (20, .bp 20 0 0), (23, .d (dInts x)), (90, .ep 89 0 7 1), (91, I 7), (92, I k), (135, .d (dRows ll)), (136, I 8), (137, I j), (143, .d (.sl 2 (vs.map eV))), (144, I 2), (145, I i.1)]) (fun i => [(5, .box 0 [.d (dInts sv), .d (dQs rq)]), (20, .box 0 [.d (dInts y.1), .d (dQs y.2)]), (89, .box 0 [.d (dInts servers), .d (dInts [1, 2, 3]), .d (dInts [2]), .d (dInts [1 + a, 2 + b]), .d (dInts []), .d (dInts [0, 1]), .d (dInts [7])])]) (fun i => 2 - i.1) [.og 143 0] [] ⟨0, Nat.zero_le _⟩ ?_ ?_
      · simp only [GeZ]; (simp only [GeS]; refine ⟨?_, ?_, ?_, ?_⟩; all_goals (repeat' (first | (with_reducible exact True.intro) | (with_reducible rfl) | simp only [CC, LL, EE, QQ, seval, List.contains_nil, Bool.false_eq_true, ↓reduceIte, Option.some.injEq, O.arr.injEq, true_and, and_true] | (with_reducible apply And.intro) | (refine ⟨_, rfl, ?_⟩) | (simp [hvs, eI]; done) | rfl | omega | trivial)))
      rintro ⟨i, hi⟩
      by_cases hi2 : i < 2
      · have hs4 := getD_map eV [] ([], []) vs i (by omega)
        have ov := hok _ (mem_getD ([], []) vs i (by omega))
        have hivs : i < vs.length := by omega
        generalize vs.getD i ([], []) = v at *
        obtain ⟨r, bb, hr, f1, f2⟩ := partBoth ov.sm gx.1
        have f3 := sameSelf hr
        have q9 : decide ((i : Int) < 2) = true := decide_eq_true (by omega)
        have q10 : (bb != bb) = false := by cases bb <;> rfl
        repeat' (first | simp (maxSteps := 9999999) only [↓GE, PL, PP, EE, QQ, seval, hs4, q9, q10, hivs, hvl, eV, List.length_map] | (simp (disch := omega) only [IntWalk.i64_in]) | (refine go_brD (fun h => ?_) (fun h => ?_)) | (refine go_gsD (by ((try simp only [EE, QQ, seval]) <;> rfl)) (fun h => ?_) (fun h => ?_)) | (refine go_br (fun h => ?_) (fun h => ?_)) | (refine go_gs (by ((try simp only [EE, QQ, seval]) <;> rfl)) (fun h => ?_) (fun h => ?_)) | (apply go_call 5000 (f1) rfl rfl; iterate 4 (first | (exact CallForm.plain rfl) | ((try simp only [CC, LL, NM, EE, QQ, seval]) <;> (first | rfl | ((repeat constructor); done))))) | (apply go_call 5000 (f2) rfl rfl; iterate 4 (first | (exact CallForm.plain rfl) | ((try simp only [CC, LL, NM, EE, QQ, seval]) <;> (first | rfl | ((repeat constructor); done))))) | (apply go_call 5000 (f3) rfl rfl; iterate 4 (first | (exact CallForm.plain rfl) | ((try simp only [CC, LL, NM, EE, QQ, seval]) <;> (first | rfl | ((repeat constructor); done))))) | (with_reducible apply And.intro) | (with_reducible exact trivial) | omega | (simp only [List.length_map, List.length_cons, List.length_nil] at *; omega) | (show _ = true; first | rfl | kernel_rfl))
        refine ⟨[], [], ⟨i + 1, hi2⟩, ?_, by simp only; omega⟩
        simp only [GeZ]; (simp only [GeS]; refine ⟨?_, ?_, ?_, ?_⟩; all_goals (repeat' (first | (with_reducible exact True.intro) | (with_reducible rfl) | simp only [CC, LL, EE, QQ, seval, List.contains_nil, Bool.false_eq_true, ↓reduceIte, Option.some.injEq, O.arr.injEq, true_and, and_true] | (with_reducible apply And.intro) | (refine ⟨_, rfl, ?_⟩) | (simp; done) | rfl | omega | trivial)))
      · obtain rfl : i = 2 := by omega
        repeat' (first | simp (maxSteps := 9999999) only [↓GE, PL, PP, EE, QQ, seval] | (simp (disch := omega) only [IntWalk.i64_in]) | (refine go_brD (fun h => ?_) (fun h => ?_)) | (refine go_gsD (by ((try simp only [EE, QQ, seval]) <;> rfl)) (fun h => ?_) (fun h => ?_)) | (refine go_br (fun h => ?_) (fun h => ?_)) | (refine go_gs (by ((try simp only [EE, QQ, seval]) <;> rfl)) (fun h => ?_) (fun h => ?_)) | (with_reducible apply And.intro) | (with_reducible exact trivial) | omega | (simp only [List.length_map, List.length_cons, List.length_nil] at *; omega) | (show _ = true; first | rfl | kernel_rfl))
        refine ⟨⟨j + 1, hj8⟩, ?_, by simp only; omega⟩
        (simp only [GeS]; refine ⟨?_, ?_, ?_, ?_⟩; all_goals (repeat' (first | (with_reducible exact True.intro) | (with_reducible rfl) | simp only [CC, LL, EE, QQ, seval, List.contains_nil, Bool.false_eq_true, ↓reduceIte, Option.some.injEq, O.arr.injEq, true_and, and_true] | (with_reducible apply And.intro) | (refine ⟨_, rfl, ?_⟩) | (simp; done) | rfl | omega | trivial)))
    · obtain rfl : j = 8 := by omega
      have f4 := vSame y.1 sv y.2 rq hy.1 hraw.1 hy.2.2.1 hraw.2.2.1
      have f5 := same25 y.1 sv y.2 rq hy.1 hraw.1 hy.2.2.1 hraw.2.2.1
      generalize decide (y.1 = sv ∧ y.2 = rq) = dd at *
      have f6 := vSameSelf hy.sm
      have q10 : (dd != dd) = false := by cases dd <;> rfl
      repeat' (first | simp (maxSteps := 9999999) only [↓GE, PL, PP, EE, QQ, seval, q10] | (simp (disch := omega) only [IntWalk.i64_in]) | (refine go_brD (fun h => ?_) (fun h => ?_)) | (refine go_gsD (by ((try simp only [EE, QQ, seval]) <;> rfl)) (fun h => ?_) (fun h => ?_)) | (refine go_br (fun h => ?_) (fun h => ?_)) | (refine go_gs (by ((try simp only [EE, QQ, seval]) <;> rfl)) (fun h => ?_) (fun h => ?_)) | (apply go_call 5000 (f4) rfl rfl; iterate 4 (first | (exact CallForm.plain rfl) | ((try simp only [CC, LL, NM, EE, QQ, seval]) <;> (first | rfl | ((repeat constructor); done))))) | (apply go_call 5000 (f5) rfl rfl; iterate 4 (first | (exact CallForm.plain rfl) | ((try simp only [CC, LL, NM, EE, QQ, seval]) <;> (first | rfl | ((repeat constructor); done))))) | (apply go_call 5000 (f6) rfl rfl; iterate 4 (first | (exact CallForm.plain rfl) | ((try simp only [CC, LL, NM, EE, QQ, seval]) <;> (first | rfl | ((repeat constructor); done))))) | (with_reducible apply And.intro) | (with_reducible exact trivial) | omega | (simp only [List.length_map, List.length_cons, List.length_nil] at *; omega) | (show _ = true; first | rfl | kernel_rfl))
      refine ⟨[], [], ⟨k + 1, by omega⟩, ?_, by simp only; omega⟩
      simp only [GeZ]; (simp only [GeS]; refine ⟨?_, ?_, ?_, ?_⟩; all_goals (repeat' (first | (with_reducible exact True.intro) | (with_reducible rfl) | simp only [CC, LL, EE, QQ, seval, List.contains_nil, Bool.false_eq_true, ↓reduceIte, Option.some.injEq, O.arr.injEq, true_and, and_true] | (with_reducible apply And.intro) | (refine ⟨_, rfl, ?_⟩) | (simp; done) | rfl | omega | trivial)))
end Go.Proofs.Ytihjmnhjjpdenaa.Sim
