/- What servers see. -/
import Derived.Test.YtihjmnhjjpdenaaMLibI
namespace Go.Proofs.Ytihjmnhjjpdenaa.Sim
open Go
set_option maxRecDepth 100000
set_option maxHeartbeats 4000000
set_option linter.unusedVariables false
set_option linter.unusedSimpArgs false
attribute [local irreducible] Go Mean
def eQ (q : List (List Int)) : List D := [dRows q]
abbrev dQs (l : List (List (List Int))) : D := .sl 1 (l.map eQ)
/-- Not long. -/
def smQ (qs : List (List (List Int))) : Prop := qs.length ≤ 1000 ∧ ∀ q ∈ qs, q.length ≤ 1000 ∧ ∀ x ∈ q, x.length ≤ 1000
def ascF : Int → List Int → Bool
  | _, [] => true
  | last, x :: r => decide (last < x) && ascF x r
/-- Strictly ascending, from 1 on. -/
def asc (l : List Int) : Bool := ascF 0 l
theorem ascends (l : List Int) (hl : l.length ≤ 1000) : Does Try.prog 27 [.d (dInts l)] [] (B (asc l)) [] [] := by
  refine go_view_ascends rfl BxOK.nil fun cx hm0 => go_in 5000 ?_
  unfold ac_view_ascends rs_view_ascends
  repeat' (first | simp (maxSteps := 9999999) only [↓GE, PL, PP, EE, QQ, seval, List.length_map] | (simp (disch := omega) only [IntWalk.i64_in]) | (refine go_brD (fun h => ?_) (fun h => ?_)) | (refine go_gsD (by ((try simp only [EE, QQ, seval]) <;> rfl)) (fun h => ?_) (fun h => ?_)) | (refine go_br (fun h => ?_) (fun h => ?_)) | (refine go_gs (by ((try simp only [EE, QQ, seval]) <;> rfl)) (fun h => ?_) (fun h => ?_)) | (with_reducible apply And.intro) | (with_reducible exact trivial) | omega | (simp only [List.length_map, List.length_cons, List.length_nil] at *; omega) | (show _ = true; first | rfl | kernel_rfl))
  refine go_loop 5000 hm0 (ι := {q : Nat × Int // q.1 ≤ l.length ∧ asc l = ascF q.2 (l.drop q.1)}) (fun i => [(3, I i.1.2), (6, .d (dInts l)), (7, I l.length), (8, I i.1.1)]) (fun i => []) (fun i => l.length - i.1.1) [] ⟨(0, 0), Nat.zero_le _, rfl⟩ ?_ ?_
  · (simp only [GeS]; refine ⟨?_, ?_, ?_, ?_⟩; all_goals (repeat' (first | (with_reducible exact True.intro) | (with_reducible rfl) | simp only [CC, LL, EE, QQ, seval, List.contains_nil, Bool.false_eq_true, ↓reduceIte, Option.some.injEq, O.arr.injEq, true_and, and_true] | (with_reducible apply And.intro) | (refine ⟨_, rfl, ?_⟩) | (simp; done) | rfl | omega | trivial)))
  rintro ⟨⟨k, last⟩, hk, hv⟩
  simp only at hk hv
  by_cases hkl : k < l.length
  · have hs := getD_map eI [] 0 l k hkl
    rw [drop_get 0 _ _ hkl] at hv
    generalize l.getD k 0 = x at hs hv
    simp only [ascF] at hv
    by_cases hx : x ≤ last
    · have q : decide (x ≤ last) = true := decide_eq_true hx
      rw [decide_eq_false (by omega), Bool.false_and] at hv
      repeat' (first | simp (maxSteps := 9999999) only [↓GE, PL, PP, EE, QQ, seval, hs, q, eI, List.length_map] | (simp (disch := omega) only [IntWalk.i64_in]) | (refine go_brD (fun h => ?_) (fun h => ?_)) | (refine go_gsD (by ((try simp only [EE, QQ, seval]) <;> rfl)) (fun h => ?_) (fun h => ?_)) | (refine go_br (fun h => ?_) (fun h => ?_)) | (refine go_gs (by ((try simp only [EE, QQ, seval]) <;> rfl)) (fun h => ?_) (fun h => ?_)) | (with_reducible apply And.intro) | (with_reducible exact trivial) | omega | (simp only [List.length_map, List.length_cons, List.length_nil] at *; omega) | (show _ = true; first | rfl | kernel_rfl))
      all_goals ((first | apply ret_mk [] | apply end_mk []); (· ((try simp only [CC, LL, EE, QQ, seval]) <;> rfl)); (· ((try simp only [CC, LL, EE, QQ, seval]) <;> repeat' (first | (with_reducible apply And.intro) | rfl | trivial | (exact ⟨_, rfl⟩) | (exact ⟨_, _, _, rfl⟩) | (simp [*, hv]; done) | (simp [*, hv]; omega) | (simp_all [hv]; done) | (simp_all [hv]; omega)))); all_goals (first | trivial | decide | ((try simp only [CC, LL, EE, QQ, seval]) <;> repeat' (first | (with_reducible apply And.intro) | (exact ⟨_, rfl, rfl, rfl⟩) | (exact ⟨_, _, _, rfl⟩) | (exact ⟨_, rfl⟩) | trivial | rfl | (simp; done)))))
    · have q : decide (x ≤ last) = false := decide_eq_false hx
      rw [decide_eq_true (by omega), Bool.true_and] at hv
      repeat' (first | simp (maxSteps := 9999999) only [↓GE, PL, PP, EE, QQ, seval, hs, q, eI, List.length_map] | (simp (disch := omega) only [IntWalk.i64_in]) | (refine go_brD (fun h => ?_) (fun h => ?_)) | (refine go_gsD (by ((try simp only [EE, QQ, seval]) <;> rfl)) (fun h => ?_) (fun h => ?_)) | (refine go_br (fun h => ?_) (fun h => ?_)) | (refine go_gs (by ((try simp only [EE, QQ, seval]) <;> rfl)) (fun h => ?_) (fun h => ?_)) | (with_reducible apply And.intro) | (with_reducible exact trivial) | omega | (simp only [List.length_map, List.length_cons, List.length_nil] at *; omega) | (show _ = true; first | rfl | kernel_rfl))
      refine ⟨⟨(k + 1, x), hkl, hv⟩, ?_, by simp only; omega⟩
      (simp only [GeS]; refine ⟨?_, ?_, ?_, ?_⟩; all_goals (repeat' (first | (with_reducible exact True.intro) | (with_reducible rfl) | simp only [CC, LL, EE, QQ, seval, List.contains_nil, Bool.false_eq_true, ↓reduceIte, Option.some.injEq, O.arr.injEq, true_and, and_true] | (with_reducible apply And.intro) | (refine ⟨_, rfl, ?_⟩) | (simp; done) | rfl | omega | trivial)))
  · obtain rfl : k = l.length := by omega
    rw [List.drop_length] at hv
    simp only [ascF] at hv
    repeat' (first | simp (maxSteps := 9999999) only [↓GE, PL, PP, EE, QQ, seval, List.length_map] | (simp (disch := omega) only [IntWalk.i64_in]) | (refine go_brD (fun h => ?_) (fun h => ?_)) | (refine go_gsD (by ((try simp only [EE, QQ, seval]) <;> rfl)) (fun h => ?_) (fun h => ?_)) | (refine go_br (fun h => ?_) (fun h => ?_)) | (refine go_gs (by ((try simp only [EE, QQ, seval]) <;> rfl)) (fun h => ?_) (fun h => ?_)) | (with_reducible apply And.intro) | (with_reducible exact trivial) | omega | (simp only [List.length_map, List.length_cons, List.length_nil] at *; omega) | (show _ = true; first | rfl | kernel_rfl))
    all_goals ((first | apply ret_mk [] | apply end_mk []); (· ((try simp only [CC, LL, EE, QQ, seval]) <;> rfl)); (· ((try simp only [CC, LL, EE, QQ, seval]) <;> repeat' (first | (with_reducible apply And.intro) | rfl | trivial | (exact ⟨_, rfl⟩) | (exact ⟨_, _, _, rfl⟩) | (simp [*, hv]; done) | (simp [*, hv]; omega) | (simp_all [hv]; done) | (simp_all [hv]; omega)))); all_goals (first | trivial | decide | ((try simp only [CC, LL, EE, QQ, seval]) <;> repeat' (first | (with_reducible apply And.intro) | (exact ⟨_, rfl, rfl, rfl⟩) | (exact ⟨_, _, _, rfl⟩) | (exact ⟨_, rfl⟩) | trivial | rfl | (simp; done)))))
theorem ascF_pos : ∀ {l : List Int} {a : Int}, 0 ≤ a → ascF a l = true → ∀ x ∈ l, a + 1 ≤ x
  | [], _, _, _, x, hx => by cases hx
  | y :: r, a, ha, h, x, hx => by
    simp only [ascF, Bool.and_eq_true, decide_eq_true_eq] at h
    rcases List.mem_cons.1 hx with rfl | hx
    · omega
    · have := ascF_pos (by omega) h.2 x hx
      omega
theorem asc_pos {l : List Int} (h : asc l = true) : ∀ x ∈ l, 1 ≤ x := ascF_pos (a := 0) (by omega) h
/-- There are such queries. -/
def okPr (pr : List (List Int)) (ix : List Int) : Bool := ix.all fun i => decide (i < pr.length)
def okPick (qs : List (List (List Int))) (ix : List Int) : Bool := qs.all fun pr => okPr pr ix
def pk1 (pr : List (List Int)) (i : Int) : List Int := pr.getD i.toNat []
def pk (ix : List Int) (pr : List (List Int)) : List (List Int) := ix.map (pk1 pr)
theorem picked (qs : List (List (List Int))) (ix : List Int) (hq : smQ qs) (hx : ix.length ≤ 1000) (hx0 : ∀ i ∈ ix, 0 ≤ i) :
    Does Try.prog 28 [.d (dQs qs), .d (dInts ix)] [] (.tu [.d (dQs (if okPick qs ix = true then qs.map (pk ix) else [])), B (okPick qs ix)]) [] [] := by
  refine go_view_picked rfl BxOK.nil fun cx hm0 => go_in 5000 ?_
  unfold ac_view_picked rs_view_picked
  have hq1 := hq.1
  repeat' (first | simp (maxSteps := 9999999) only [↓GE, PL, PP, EE, QQ, seval, List.length_map] | (simp (disch := omega) only [IntWalk.i64_in]) | (refine go_brD (fun h => ?_) (fun h => ?_)) | (refine go_gsD (by ((try simp only [EE, QQ, seval]) <;> rfl)) (fun h => ?_) (fun h => ?_)) | (refine go_br (fun h => ?_) (fun h => ?_)) | (refine go_gs (by ((try simp only [EE, QQ, seval]) <;> rfl)) (fun h => ?_) (fun h => ?_)) | (with_reducible apply And.intro) | (with_reducible exact trivial) | omega | (simp only [List.length_map, List.length_cons, List.length_nil] at *; omega) | (show _ = true; first | rfl | kernel_rfl))
  refine go_loop 5000 hm0 (ι := {q : Nat × Nat // q.1 ≤ qs.length ∧ okPick qs ix = okPick (qs.drop q.1) ix}) (fun i => [(1, .d (dInts ix)), (6, .og 14 i.1.2), (15, .d (dQs qs)), (16, I qs.length), (17, I i.1.1)]) (fun i => [(14, .arr i.1.2 1 true (((qs.take i.1.1).map (pk ix)).map eQ))]) (fun i => qs.length - i.1.1) [] ⟨(0, 0), Nat.zero_le _, rfl⟩ ?_ ?_
  · (simp only [GeS]; refine ⟨?_, ?_, ?_, ?_⟩; all_goals (repeat' (first | (with_reducible exact True.intro) | (with_reducible rfl) | simp only [CC, LL, EE, QQ, seval, List.contains_nil, Bool.false_eq_true, ↓reduceIte, Option.some.injEq, O.arr.injEq, true_and, and_true] | (with_reducible apply And.intro) | (refine ⟨_, rfl, ?_⟩) | (simp; done) | rfl | omega | trivial)))
  rintro ⟨⟨k, v⟩, hk, hv⟩
  simp only at hk hv
  by_cases hkl : k < qs.length
  · have hs := getD_map eQ [] [] qs k hkl
    have hpr := hq.2 _ (mem_getD [] qs k hkl)
    have htk := take_succ_getD [] qs k hkl
    have hlk : (qs.take k).length = k := by rw [List.length_take]; omega
    rw [drop_get [] _ _ hkl] at hv
    generalize qs.getD k [] = pr at *
    have hp1 := hpr.1
    simp only [okPick, List.all_cons] at hv
    repeat' (first | simp (maxSteps := 9999999) only [↓GE, PL, PP, EE, QQ, seval, hs, eQ, List.length_map] | (simp (disch := omega) only [IntWalk.i64_in]) | (refine go_brD (fun h => ?_) (fun h => ?_)) | (refine go_gsD (by ((try simp only [EE, QQ, seval]) <;> rfl)) (fun h => ?_) (fun h => ?_)) | (refine go_br (fun h => ?_) (fun h => ?_)) | (refine go_gs (by ((try simp only [EE, QQ, seval]) <;> rfl)) (fun h => ?_) (fun h => ?_)) | (with_reducible apply And.intro) | (with_reducible exact trivial) | omega | (simp only [List.length_map, List.length_cons, List.length_nil] at *; omega) | (show _ = true; first | rfl | kernel_rfl))
    refine go_loop 5000 hm0 (ι := {q : Nat × Nat // q.1 ≤ ix.length ∧ okPr pr ix = okPr pr (ix.drop q.1)}) (fun i => [(1, .d (dInts ix)), (6, .og 14 v), (8, .d (dRows pr)), (9, .og 38 i.1.2), (15, .d (dQs qs)), (16, I qs.length), (17, I k), (21, .d (dInts ix)), (22, I ix.length), (23, I i.1.1)]) (fun i => [(14, .arr v 1 true (((qs.take k).map (pk ix)).map eQ)), (38, .arr i.1.2 1 true (((ix.take i.1.1).map (pk1 pr)).map eR))]) (fun i => ix.length - i.1.1) [38] ⟨(0, 0), Nat.zero_le _, rfl⟩ ?_ ?_
    · (simp only [GeS]; refine ⟨?_, ?_, ?_, ?_⟩; all_goals (repeat' (first | (with_reducible exact True.intro) | (with_reducible rfl) | simp only [CC, LL, EE, QQ, seval, List.contains_nil, Bool.false_eq_true, ↓reduceIte, Option.some.injEq, O.arr.injEq, true_and, and_true] | (with_reducible apply And.intro) | (refine ⟨_, rfl, ?_⟩) | (simp; done) | rfl | omega | trivial)))
    rintro ⟨⟨j, v2⟩, hj, hv2⟩
    simp only at hj hv2
    by_cases hjl : j < ix.length
    · have hs2 := getD_map eI [] 0 ix j hjl
      have hx2 := hx0 _ (mem_getD 0 ix j hjl)
      have htj := take_succ_getD 0 ix j hjl
      have hlj : (ix.take j).length = j := by rw [List.length_take]; omega
      rw [drop_get 0 _ _ hjl] at hv2
      generalize ix.getD j 0 = x at *
      simp only [okPr, List.all_cons] at hv2
      by_cases hxp : x < (pr.length : Int)
      · have q : decide (x ≥ (pr.length : Int)) = false := decide_eq_false (by omega)
        have hxn : x.toNat < pr.length := by omega
        have hs3 := getD_map eR [] [] pr x.toNat hxn
        have hr1 := hpr.2 _ (mem_getD [] pr x.toNat hxn)
        have hN : pk1 pr x = pr.getD x.toNat [] := rfl
        rw [decide_eq_true hxp, Bool.true_and] at hv2
        generalize pr.getD x.toNat [] = r at *
        repeat' (first | simp (maxSteps := 9999999) only [↓GE, PL, PP, EE, QQ, seval, hs2, hs3, q, hxn, hlj, eI, eR, List.length_map] | (simp (disch := omega) only [IntWalk.i64_in]) | (refine go_brD (fun h => ?_) (fun h => ?_)) | (refine go_gsD (by ((try simp only [EE, QQ, seval]) <;> rfl)) (fun h => ?_) (fun h => ?_)) | (refine go_br (fun h => ?_) (fun h => ?_)) | (refine go_gs (by ((try simp only [EE, QQ, seval]) <;> rfl)) (fun h => ?_) (fun h => ?_)) | (apply go_call 5000 (cloneInts r (by omega)) rfl rfl; iterate 4 (first | (exact CallForm.news rfl rfl) | ((try simp only [CC, LL, NM, EE, QQ, seval]) <;> (first | rfl | ((repeat constructor); done))))) | (with_reducible apply And.intro) | (with_reducible exact trivial) | omega | (simp only [List.length_map, List.length_cons, List.length_nil] at *; omega) | (show _ = true; first | rfl | kernel_rfl))
        refine ⟨⟨(j + 1, v2 + 1), hjl, hv2⟩, ?_, by simp only; omega⟩
        (simp only [GeS]; refine ⟨?_, ?_, ?_, ?_⟩; all_goals (repeat' (first | (with_reducible exact True.intro) | (with_reducible rfl) | simp only [CC, LL, EE, QQ, seval, List.contains_nil, Bool.false_eq_true, ↓reduceIte, Option.some.injEq, O.arr.injEq, true_and, and_true] | (with_reducible apply And.intro) | (refine ⟨_, rfl, ?_⟩) | (simp [htj, hN, eR]; done) | rfl | omega | trivial)))
      · have q : decide (x ≥ (pr.length : Int)) = true := decide_eq_true (by omega)
        have hf : okPick qs ix = false := by
          rw [decide_eq_false hxp, Bool.false_and] at hv2
          rw [okPick, hv, show okPr pr ix = false from hv2, Bool.false_and]
        repeat' (first | simp (maxSteps := 9999999) only [↓GE, PL, PP, EE, QQ, seval, hs2, q, eI, List.length_map] | (simp (disch := omega) only [IntWalk.i64_in]) | (refine go_brD (fun h => ?_) (fun h => ?_)) | (refine go_gsD (by ((try simp only [EE, QQ, seval]) <;> rfl)) (fun h => ?_) (fun h => ?_)) | (refine go_br (fun h => ?_) (fun h => ?_)) | (refine go_gs (by ((try simp only [EE, QQ, seval]) <;> rfl)) (fun h => ?_) (fun h => ?_)) | (with_reducible apply And.intro) | (with_reducible exact trivial) | omega | (simp only [List.length_map, List.length_cons, List.length_nil] at *; omega) | (show _ = true; first | rfl | kernel_rfl))
        all_goals ((first | apply ret_mk [] | apply end_mk []); (· ((try simp only [CC, LL, EE, QQ, seval]) <;> rfl)); (· ((try simp only [CC, LL, EE, QQ, seval]) <;> repeat' (first | (with_reducible apply And.intro) | rfl | trivial | (exact ⟨_, rfl⟩) | (exact ⟨_, _, _, rfl⟩) | (simp [*, hf]; done) | (simp [*, hf]; omega) | (simp_all [hf]; done) | (simp_all [hf]; omega)))); all_goals (first | trivial | decide | ((try simp only [CC, LL, EE, QQ, seval]) <;> repeat' (first | (with_reducible apply And.intro) | (exact ⟨_, rfl, rfl, rfl⟩) | (exact ⟨_, _, _, rfl⟩) | (exact ⟨_, rfl⟩) | trivial | rfl | (simp; done)))))
    · obtain rfl : j = ix.length := by omega
      have hN : pk ix pr = ix.map (pk1 pr) := rfl
      rw [List.drop_length] at hv2
      simp only [okPr, List.all_nil] at hv2
      have hv3 : okPick qs ix = okPick (qs.drop (k + 1)) ix := by rw [okPick, hv, show okPr pr ix = true from hv2, Bool.true_and]; rfl
      repeat' (first | simp (maxSteps := 9999999) only [↓GE, PL, PP, EE, QQ, seval, hlk, List.take_length, List.length_map] | (simp (disch := omega) only [IntWalk.i64_in]) | (refine go_brD (fun h => ?_) (fun h => ?_)) | (refine go_gsD (by ((try simp only [EE, QQ, seval]) <;> rfl)) (fun h => ?_) (fun h => ?_)) | (refine go_br (fun h => ?_) (fun h => ?_)) | (refine go_gs (by ((try simp only [EE, QQ, seval]) <;> rfl)) (fun h => ?_) (fun h => ?_)) | (with_reducible apply And.intro) | (with_reducible exact trivial) | omega | (simp only [List.length_map, List.length_cons, List.length_nil] at *; omega) | (show _ = true; first | rfl | kernel_rfl))
      refine ⟨⟨(k + 1, v + 1), hkl, hv3⟩, ?_, by simp only; omega⟩
      (simp only [GeS]; refine ⟨?_, ?_, ?_, ?_⟩; all_goals (repeat' (first | (with_reducible exact True.intro) | (with_reducible rfl) | simp only [CC, LL, EE, QQ, seval, List.contains_nil, Bool.false_eq_true, ↓reduceIte, Option.some.injEq, O.arr.injEq, true_and, and_true] | (with_reducible apply And.intro) | (refine ⟨_, rfl, ?_⟩) | (simp [htk, hN, eQ]; done) | rfl | omega | trivial)))
  · obtain rfl : k = qs.length := by omega
    rw [List.drop_length] at hv
    simp only [okPick, List.all_nil] at hv
    have hv' : okPick qs ix = true := hv
    repeat' (first | simp (maxSteps := 9999999) only [↓GE, PL, PP, EE, QQ, seval, List.length_map, List.take_length] | (simp (disch := omega) only [IntWalk.i64_in]) | (refine go_brD (fun h => ?_) (fun h => ?_)) | (refine go_gsD (by ((try simp only [EE, QQ, seval]) <;> rfl)) (fun h => ?_) (fun h => ?_)) | (refine go_br (fun h => ?_) (fun h => ?_)) | (refine go_gs (by ((try simp only [EE, QQ, seval]) <;> rfl)) (fun h => ?_) (fun h => ?_)) | (with_reducible apply And.intro) | (with_reducible exact trivial) | omega | (simp only [List.length_map, List.length_cons, List.length_nil] at *; omega) | (show _ = true; first | rfl | kernel_rfl))
    all_goals ((first | apply ret_mk [] | apply end_mk []); (· ((try simp only [CC, LL, EE, QQ, seval]) <;> rfl)); (· ((try simp only [CC, LL, EE, QQ, seval]) <;> repeat' (first | (with_reducible apply And.intro) | rfl | trivial | (exact ⟨_, rfl⟩) | (exact ⟨_, _, _, rfl⟩) | (simp [*, hv']; done) | (simp [*, hv']; omega) | (simp_all [hv']; done) | (simp_all [hv']; omega)))); all_goals (first | trivial | decide | ((try simp only [CC, LL, EE, QQ, seval]) <;> repeat' (first | (with_reducible apply And.intro) | (exact ⟨_, rfl, rfl, rfl⟩) | (exact ⟨_, _, _, rfl⟩) | (exact ⟨_, rfl⟩) | trivial | rfl | (simp; done)))))
end Go.Proofs.Ytihjmnhjjpdenaa.Sim
