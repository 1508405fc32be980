/- Of, Part, Same. -/
import Derived.Test.YtihjmnhjjpdenaaMVwJ
namespace Go.Proofs.Ytihjmnhjjpdenaa.Sim
open Go
set_option maxRecDepth 100000
set_option maxHeartbeats 4000000
set_option linter.unusedVariables false
set_option linter.unusedSimpArgs false
attribute [local irreducible] Go Mean
abbrev vView (sv : List Int) (qs : List (List (List Int))) : V := .ag [.d (dInts sv), .d (dQs qs)]
def less1 (l : List Int) : List Int := l.map fun s => s - 1
def okOf (qs : List (List (List Int))) (l : List Int) : Bool := asc l && okPick qs (less1 l)
/-- The view's queries. -/
def ofQ (qs : List (List (List Int))) (l : List Int) : List (List (List Int)) := qs.map (pk (less1 l))
def ofE (qs : List (List (List Int))) (l : List Int) : Int := if asc l = true then (if okPick qs (less1 l) = true then 0 else 1) else 5
theorem vOf (qs : List (List (List Int))) (l : List Int) (hq : smQ qs) (hl : l.length ≤ 1000) (hr : ∀ x ∈ l, x ≤ 9223372036854775807) :
    Does Try.prog 10 [.d (dQs qs), .d (dInts l)] [] (.tu [vView (if okOf qs l = true then l else []) (if okOf qs l = true then ofQ qs l else []), I (ofE qs l)]) [] [] := by
  refine go_view_Of rfl BxOK.nil fun cx hm0 => go_in 5000 ?_
  unfold ac_view_Of rs_view_Of
  have e1 := ascends l hl
  have hq1 := hq.1
  cases ha : asc l with
  | false =>
    rw [ha] at e1
    have h1 : okOf qs l = false := by rw [okOf, ha, Bool.false_and]
    have h2 : ofE qs l = 5 := by rw [ofE, ha]; rfl
    repeat' (first | simp (maxSteps := 9999999) only [↓GE, PL, PP, EE, QQ, seval] | (simp (disch := omega) only [IntWalk.i64_in]) | (refine go_brD (fun h => ?_) (fun h => ?_)) | (refine go_gsD (by ((try simp only [EE, QQ, seval]) <;> rfl)) (fun h => ?_) (fun h => ?_)) | (refine go_br (fun h => ?_) (fun h => ?_)) | (refine go_gs (by ((try simp only [EE, QQ, seval]) <;> rfl)) (fun h => ?_) (fun h => ?_)) | (apply go_call 5000 (e1) rfl rfl; iterate 4 (first | (exact CallForm.plain rfl) | ((try simp only [CC, LL, NM, EE, QQ, seval]) <;> (first | rfl | ((repeat constructor); done))))) | (with_reducible apply And.intro) | (with_reducible exact trivial) | omega | (simp only [List.length_map, List.length_cons, List.length_nil] at *; omega) | (show _ = true; first | rfl | kernel_rfl))
    all_goals ((first | apply ret_mk [] | apply end_mk []); (· ((try simp only [CC, LL, EE, QQ, seval]) <;> rfl)); (· ((try simp only [CC, LL, EE, QQ, seval]) <;> repeat' (first | (with_reducible apply And.intro) | rfl | trivial | (exact ⟨_, rfl⟩) | (exact ⟨_, _, _, rfl⟩) | (simp [*, h1, h2]; done) | (simp [*, h1, h2]; omega) | (simp_all [h1, h2]; done) | (simp_all [h1, h2]; omega)))); all_goals (first | trivial | decide | ((try simp only [CC, LL, EE, QQ, seval]) <;> repeat' (first | (with_reducible apply And.intro) | (exact ⟨_, rfl, rfl, rfl⟩) | (exact ⟨_, _, _, rfl⟩) | (exact ⟨_, rfl⟩) | trivial | rfl | (simp; done)))))
  | true =>
    rw [ha] at e1
    have h1 : okOf qs l = okPick qs (less1 l) := by rw [okOf, ha, Bool.true_and]
    have h2 : ofE qs l = if okPick qs (less1 l) = true then 0 else 1 := by rw [ofE, ha, if_pos rfl]
    have hpos := asc_pos ha
    repeat' (first | simp (maxSteps := 9999999) only [↓GE, PL, PP, EE, QQ, seval] | (simp (disch := omega) only [IntWalk.i64_in]) | (refine go_brD (fun h => ?_) (fun h => ?_)) | (refine go_gsD (by ((try simp only [EE, QQ, seval]) <;> rfl)) (fun h => ?_) (fun h => ?_)) | (refine go_br (fun h => ?_) (fun h => ?_)) | (refine go_gs (by ((try simp only [EE, QQ, seval]) <;> rfl)) (fun h => ?_) (fun h => ?_)) | (apply go_call 5000 (e1) rfl rfl; iterate 4 (first | (exact CallForm.plain rfl) | ((try simp only [CC, LL, NM, EE, QQ, seval]) <;> (first | rfl | ((repeat constructor); done))))) | (with_reducible apply And.intro) | (with_reducible exact trivial) | omega | (simp only [List.length_map, List.length_cons, List.length_nil] at *; omega) | (show _ = true; first | rfl | kernel_rfl))
    refine go_loop 5000 hm0 (ι := {q : Nat × Nat // q.1 ≤ l.length}) (fun i => [(0, .d (dQs qs)), (1, .d (dInts l)), (4, .bp 4 0 0), (6, .og 25 i.1.2), (15, .d (dInts l)), (16, I l.length), (17, I i.1.1)]) (fun i => [(4, .box 0 [.nl 1, .nl 1]), (25, .arr i.1.2 1 true ((less1 (l.take i.1.1)).map eI))]) (fun i => l.length - i.1.1) [25] ⟨(0, 0), Nat.zero_le _⟩ ?_ ?_
    · (simp only [GeS]; refine ⟨?_, ?_, ?_, ?_⟩; all_goals (repeat' (first | (with_reducible exact True.intro) | (with_reducible rfl) | simp only [CC, LL, EE, QQ, seval, List.contains_nil, Bool.false_eq_true, ↓reduceIte, Option.some.injEq, O.arr.injEq, true_and, and_true] | (with_reducible apply And.intro) | (refine ⟨_, rfl, ?_⟩) | (simp [less1]; done) | rfl | omega | trivial)))
    rintro ⟨⟨k, v⟩, hk⟩
    simp only at hk
    by_cases hkl : k < l.length
    · have hs := getD_map eI [] 0 l k hkl
      have htk := take_succ_getD 0 l k hkl
      have hx1 := hpos _ (mem_getD 0 l k hkl)
      have hx2 := hr _ (mem_getD 0 l k hkl)
      have hlk : (less1 (l.take k)).length = k := by rw [less1, List.length_map, List.length_take]; omega
      have hN : (less1 (l.take (k + 1))).map eI = (less1 (l.take k)).map eI ++ [eI (l.getD k 0 - 1)] := by rw [htk, less1, List.map_append, List.map_append]; rfl
      generalize l.getD k 0 = x at *
      have w0 : IntKind.i64.wrap (x - 1) = x - 1 := IntWalk.i64_in _ (by omega)
      repeat' (first | simp (maxSteps := 9999999) only [↓GE, PL, PP, EE, QQ, seval, hs, w0, hlk, eI, List.length_map] | (simp (disch := omega) only [IntWalk.i64_in]) | (refine go_brD (fun h => ?_) (fun h => ?_)) | (refine go_gsD (by ((try simp only [EE, QQ, seval]) <;> rfl)) (fun h => ?_) (fun h => ?_)) | (refine go_br (fun h => ?_) (fun h => ?_)) | (refine go_gs (by ((try simp only [EE, QQ, seval]) <;> rfl)) (fun h => ?_) (fun h => ?_)) | (with_reducible apply And.intro) | (with_reducible exact trivial) | omega | (simp only [List.length_map, List.length_cons, List.length_nil] at *; omega) | (show _ = true; first | rfl | kernel_rfl))
      refine ⟨⟨(k + 1, v + 1), hkl⟩, ?_, by simp only; omega⟩
      (simp only [GeS]; refine ⟨?_, ?_, ?_, ?_⟩; all_goals (repeat' (first | (with_reducible exact True.intro) | (with_reducible rfl) | simp only [CC, LL, EE, QQ, seval, List.contains_nil, Bool.false_eq_true, ↓reduceIte, Option.some.injEq, O.arr.injEq, true_and, and_true] | (with_reducible apply And.intro) | (refine ⟨_, rfl, ?_⟩) | (simp [hN, eI]; done) | rfl | omega | trivial)))
    · obtain rfl : k = l.length := by omega
      have hl2 : (less1 l).length = l.length := by rw [less1, List.length_map]
      have e2 := picked qs (less1 l) hq (by omega) (fun i hi => by
        obtain ⟨x, hx, rfl⟩ := List.mem_map.1 hi
        have := hpos x hx
        omega)
      cases hp : okPick qs (less1 l) with
      | true =>
        simp only [hp, if_pos] at e2
        repeat' (first | simp (maxSteps := 9999999) only [↓GE, PL, PP, EE, QQ, seval, List.take_length, List.length_map] | (simp (disch := omega) only [IntWalk.i64_in]) | (refine go_brD (fun h => ?_) (fun h => ?_)) | (refine go_gsD (by ((try simp only [EE, QQ, seval]) <;> rfl)) (fun h => ?_) (fun h => ?_)) | (refine go_br (fun h => ?_) (fun h => ?_)) | (refine go_gs (by ((try simp only [EE, QQ, seval]) <;> rfl)) (fun h => ?_) (fun h => ?_)) | (apply go_call 5000 (e2) rfl rfl; iterate 4 (first | (exact CallForm.plain rfl) | ((try simp only [CC, LL, NM, EE, QQ, seval]) <;> (first | rfl | ((repeat constructor); done))))) | (apply go_call 5000 (cloneInts l (by omega)) rfl rfl; iterate 4 (first | (exact CallForm.news rfl rfl) | ((try simp only [CC, LL, NM, EE, QQ, seval]) <;> (first | rfl | ((repeat constructor); done))))) | (with_reducible apply And.intro) | (with_reducible exact trivial) | omega | (simp only [List.length_map, List.length_cons, List.length_nil] at *; omega) | (show _ = true; first | rfl | kernel_rfl))
        all_goals ((first | apply ret_mk [] | apply end_mk []); (· ((try simp only [CC, LL, EE, QQ, seval]) <;> rfl)); (· ((try simp only [CC, LL, EE, QQ, seval]) <;> repeat' (first | (with_reducible apply And.intro) | rfl | trivial | (exact ⟨_, rfl⟩) | (exact ⟨_, _, _, rfl⟩) | (simp [*, h1, h2, hp, ofQ]; done) | (simp [*, h1, h2, hp, ofQ]; omega) | (simp_all [h1, h2, hp, ofQ]; done) | (simp_all [h1, h2, hp, ofQ]; omega)))); all_goals (first | trivial | decide | ((try simp only [CC, LL, EE, QQ, seval]) <;> repeat' (first | (with_reducible apply And.intro) | (exact ⟨_, rfl, rfl, rfl⟩) | (exact ⟨_, _, _, rfl⟩) | (exact ⟨_, rfl⟩) | trivial | rfl | (simp; done)))))
      | false =>
        simp only [hp, if_neg, Bool.false_eq_true] at e2
        repeat' (first | simp (maxSteps := 9999999) only [↓GE, PL, PP, EE, QQ, seval, List.take_length, List.length_map] | (simp (disch := omega) only [IntWalk.i64_in]) | (refine go_brD (fun h => ?_) (fun h => ?_)) | (refine go_gsD (by ((try simp only [EE, QQ, seval]) <;> rfl)) (fun h => ?_) (fun h => ?_)) | (refine go_br (fun h => ?_) (fun h => ?_)) | (refine go_gs (by ((try simp only [EE, QQ, seval]) <;> rfl)) (fun h => ?_) (fun h => ?_)) | (apply go_call 5000 (e2) rfl rfl; iterate 4 (first | (exact CallForm.plain rfl) | ((try simp only [CC, LL, NM, EE, QQ, seval]) <;> (first | rfl | ((repeat constructor); done))))) | (apply go_call 5000 (cloneInts l (by omega)) rfl rfl; iterate 4 (first | (exact CallForm.news rfl rfl) | ((try simp only [CC, LL, NM, EE, QQ, seval]) <;> (first | rfl | ((repeat constructor); done))))) | (with_reducible apply And.intro) | (with_reducible exact trivial) | omega | (simp only [List.length_map, List.length_cons, List.length_nil] at *; omega) | (show _ = true; first | rfl | kernel_rfl))
        all_goals ((first | apply ret_mk [] | apply end_mk []); (· ((try simp only [CC, LL, EE, QQ, seval]) <;> rfl)); (· ((try simp only [CC, LL, EE, QQ, seval]) <;> repeat' (first | (with_reducible apply And.intro) | rfl | trivial | (exact ⟨_, rfl⟩) | (exact ⟨_, _, _, rfl⟩) | (simp [*, h1, h2, hp]; done) | (simp [*, h1, h2, hp]; omega) | (simp_all [h1, h2, hp]; done) | (simp_all [h1, h2, hp]; omega)))); all_goals (first | trivial | decide | ((try simp only [CC, LL, EE, QQ, seval]) <;> repeat' (first | (with_reducible apply And.intro) | (exact ⟨_, rfl, rfl, rfl⟩) | (exact ⟨_, _, _, rfl⟩) | (exact ⟨_, rfl⟩) | trivial | rfl | (simp; done)))))
/-- Where it stands; the length, if nowhere. -/
def idxN : List Int → Int → Nat
  | [], _ => 0
  | y :: r, x => if y = x then 0 else 1 + idxN r x
theorem idxN_le : ∀ (l : List Int) (x : Int), idxN l x ≤ l.length
  | [], _ => Nat.le_refl _
  | y :: r, x => by have := idxN_le r x; simp only [idxN, List.length_cons]; split <;> omega
theorem indexI (l : List Int) (x : Int) (hl : l.length ≤ 1000) : Does Try.prog 30 [.d (dInts l), I x] [] (I (if idxN l x < l.length then (idxN l x : Int) else -1)) [] [] := by
  refine go_slices_Index_int_int rfl BxOK.nil fun cx hm0 => go_in 5000 ?_
  unfold ac_slices_Index_int_int rs_slices_Index_int_int
  repeat' (first | simp (maxSteps := 9999999) only [↓GE, PL, PP, EE, QQ, seval, List.length_map] | (simp (disch := omega) only [IntWalk.i64_in]) | (refine go_brD (fun h => ?_) (fun h => ?_)) | (refine go_gsD (by ((try simp only [EE, QQ, seval]) <;> rfl)) (fun h => ?_) (fun h => ?_)) | (refine go_br (fun h => ?_) (fun h => ?_)) | (refine go_gs (by ((try simp only [EE, QQ, seval]) <;> rfl)) (fun h => ?_) (fun h => ?_)) | (with_reducible apply And.intro) | (with_reducible exact trivial) | omega | (simp only [List.length_map, List.length_cons, List.length_nil] at *; omega) | (show _ = true; first | rfl | kernel_rfl))
  refine go_loop 5000 hm0 (ι := {k : Nat // k ≤ l.length ∧ idxN l x = k + idxN (l.drop k) x}) (fun i => [(0, .d (dInts l)), (1, I x), (7, I l.length), (8, I i.1)]) (fun i => []) (fun i => l.length - i.1) [] ⟨0, Nat.zero_le _, by rw [List.drop_zero, Nat.zero_add]⟩ ?_ ?_
  · (simp only [GeS]; refine ⟨?_, ?_, ?_, ?_⟩; all_goals (repeat' (first | (with_reducible exact True.intro) | (with_reducible rfl) | simp only [CC, LL, EE, QQ, seval, List.contains_nil, Bool.false_eq_true, ↓reduceIte, Option.some.injEq, O.arr.injEq, true_and, and_true] | (with_reducible apply And.intro) | (refine ⟨_, rfl, ?_⟩) | (simp; done) | rfl | omega | trivial)))
  rintro ⟨k, hk, hv⟩
  by_cases hkl : k < l.length
  · have hs := getD_map eI [] 0 l k hkl
    rw [drop_get 0 _ _ hkl] at hv
    generalize l.getD k 0 = y at *
    simp only [idxN] at hv
    by_cases hyx : y = x
    · rw [if_pos hyx, Nat.add_zero] at hv
      have q : (x == y) = true := by rw [beq_iff_eq, hyx]
      have q' : (y == x) = true := by rw [beq_iff_eq, hyx]
      have hr : (if idxN l x < l.length then (idxN l x : Int) else -1) = (k : Int) := by rw [hv, if_pos hkl]
      rw [hr]
      repeat' (first | simp (maxSteps := 9999999) only [↓GE, PL, PP, EE, QQ, seval, hs, q, q', eI, List.length_map] | (simp (disch := omega) only [IntWalk.i64_in]) | (refine go_brD (fun h => ?_) (fun h => ?_)) | (refine go_gsD (by ((try simp only [EE, QQ, seval]) <;> rfl)) (fun h => ?_) (fun h => ?_)) | (refine go_br (fun h => ?_) (fun h => ?_)) | (refine go_gs (by ((try simp only [EE, QQ, seval]) <;> rfl)) (fun h => ?_) (fun h => ?_)) | (with_reducible apply And.intro) | (with_reducible exact trivial) | omega | (simp only [List.length_map, List.length_cons, List.length_nil] at *; omega) | (show _ = true; first | rfl | kernel_rfl))
      all_goals ((first | apply ret_mk [] | apply end_mk []); (· ((try simp only [CC, LL, EE, QQ, seval]) <;> rfl)); (· ((try simp only [CC, LL, EE, QQ, seval]) <;> repeat' (first | (with_reducible apply And.intro) | rfl | trivial | (exact ⟨_, rfl⟩) | (exact ⟨_, _, _, rfl⟩) | (simp [*, ]; done) | (simp [*, ]; omega) | (simp_all []; done) | (simp_all []; omega)))); all_goals (first | trivial | decide | ((try simp only [CC, LL, EE, QQ, seval]) <;> repeat' (first | (with_reducible apply And.intro) | (exact ⟨_, rfl, rfl, rfl⟩) | (exact ⟨_, _, _, rfl⟩) | (exact ⟨_, rfl⟩) | trivial | rfl | (simp; done)))))
    · rw [if_neg hyx] at hv
      have q : (x == y) = false := by rw [beq_eq_false_iff_ne]; exact fun h => hyx h.symm
      have q' : (y == x) = false := by rw [beq_eq_false_iff_ne]; exact hyx
      repeat' (first | simp (maxSteps := 9999999) only [↓GE, PL, PP, EE, QQ, seval, hs, q, q', eI, List.length_map] | (simp (disch := omega) only [IntWalk.i64_in]) | (refine go_brD (fun h => ?_) (fun h => ?_)) | (refine go_gsD (by ((try simp only [EE, QQ, seval]) <;> rfl)) (fun h => ?_) (fun h => ?_)) | (refine go_br (fun h => ?_) (fun h => ?_)) | (refine go_gs (by ((try simp only [EE, QQ, seval]) <;> rfl)) (fun h => ?_) (fun h => ?_)) | (with_reducible apply And.intro) | (with_reducible exact trivial) | omega | (simp only [List.length_map, List.length_cons, List.length_nil] at *; omega) | (show _ = true; first | rfl | kernel_rfl))
      refine ⟨⟨k + 1, hkl, by omega⟩, ?_, by simp only; omega⟩
      (simp only [GeS]; refine ⟨?_, ?_, ?_, ?_⟩; all_goals (repeat' (first | (with_reducible exact True.intro) | (with_reducible rfl) | simp only [CC, LL, EE, QQ, seval, List.contains_nil, Bool.false_eq_true, ↓reduceIte, Option.some.injEq, O.arr.injEq, true_and, and_true] | (with_reducible apply And.intro) | (refine ⟨_, rfl, ?_⟩) | (simp; done) | rfl | omega | trivial)))
  · obtain rfl : k = l.length := by omega
    rw [List.drop_length] at hv
    simp only [idxN, Nat.add_zero] at hv
    have hr : (if idxN l x < l.length then (idxN l x : Int) else -1) = -1 := by rw [if_neg (by omega)]
    rw [hr]
    repeat' (first | simp (maxSteps := 9999999) only [↓GE, PL, PP, EE, QQ, seval, List.length_map] | (simp (disch := omega) only [IntWalk.i64_in]) | (refine go_brD (fun h => ?_) (fun h => ?_)) | (refine go_gsD (by ((try simp only [EE, QQ, seval]) <;> rfl)) (fun h => ?_) (fun h => ?_)) | (refine go_br (fun h => ?_) (fun h => ?_)) | (refine go_gs (by ((try simp only [EE, QQ, seval]) <;> rfl)) (fun h => ?_) (fun h => ?_)) | (with_reducible apply And.intro) | (with_reducible exact trivial) | omega | (simp only [List.length_map, List.length_cons, List.length_nil] at *; omega) | (show _ = true; first | rfl | kernel_rfl))
    all_goals ((first | apply ret_mk [] | apply end_mk []); (· ((try simp only [CC, LL, EE, QQ, seval]) <;> rfl)); (· ((try simp only [CC, LL, EE, QQ, seval]) <;> repeat' (first | (with_reducible apply And.intro) | rfl | trivial | (exact ⟨_, rfl⟩) | (exact ⟨_, _, _, rfl⟩) | (simp [*, ]; done) | (simp [*, ]; omega) | (simp_all []; done) | (simp_all []; omega)))); all_goals (first | trivial | decide | ((try simp only [CC, LL, EE, QQ, seval]) <;> repeat' (first | (with_reducible apply And.intro) | (exact ⟨_, rfl, rfl, rfl⟩) | (exact ⟨_, _, _, rfl⟩) | (exact ⟨_, rfl⟩) | trivial | rfl | (simp; done)))))
end Go.Proofs.Ytihjmnhjjpdenaa.Sim
