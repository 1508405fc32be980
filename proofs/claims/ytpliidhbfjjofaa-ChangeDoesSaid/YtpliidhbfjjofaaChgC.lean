/- Digests, equal lists, numbers. -/
import Derived.Test.YtpliidhbfjjofaaChgB
namespace Go.Proofs.Ytpliidhbfjjofaa.Sim
open Go
set_option maxRecDepth 100000
set_option linter.unusedVariables false
set_option linter.unusedSimpArgs false
attribute [local irreducible] Go Mean
def modP (x : Int) : Int := x % 2147483647
theorem tmod_pos {x k : Int} (h : 0 ≤ x) : x.tmod k = x % k := Int.tmod_eq_emod_of_nonneg h
theorem tmod_range (x : Int) : -2147483647 < x.tmod 2147483647 ∧ x.tmod 2147483647 < 2147483647 := by
  rcases Int.le_total 0 x with h | h
  · rw [tmod_pos h]; omega
  · have e := Int.neg_tmod (-x) 2147483647
    rw [Int.neg_neg, tmod_pos (x := -x) (by omega)] at e
    rw [e]; omega
theorem modP_plus (x : Int) : (x.tmod 2147483647 + 2147483647) % 2147483647 = modP x := by
  unfold modP
  rcases Int.le_total 0 x with h | h
  · rw [tmod_pos h]; omega
  · have e := Int.neg_tmod (-x) 2147483647
    rw [Int.neg_neg, tmod_pos (x := -x) (by omega)] at e
    rw [e]; omega
theorem r11mod (x : Int) : Does Try.prog 63 [I x] [] (I (modP x)) [] [] := by
  refine go_ref11_mod rfl BxOK.nil fun cx hm0 => go_in 5000 ?_
  unfold ac_ref11_mod rs_ref11_mod
  have h := tmod_range x
  repeat' (first | simp only [↓GE, PL, PP, EE, QQ, seval] | (simp (disch := omega) only [IntWalk.i64_in]) | (refine go_brD (fun h => ?_) (fun h => ?_)) | (refine go_gsD (by ((try simp only [EE, QQ, seval]) <;> rfl)) (fun h => ?_) (fun h => ?_)) | (refine go_br (fun h => ?_) (fun h => ?_)) | (refine go_gs (by ((try simp only [EE, QQ, seval]) <;> rfl)) (fun h => ?_) (fun h => ?_)) | (with_reducible apply And.intro) | (with_reducible exact trivial) | omega | (simp only [List.length_map, List.length_cons, List.length_nil] at *; omega) | (show _ = true; first | rfl | kernel_rfl))
  have h2 := modP_plus x
  rw [← tmod_pos (by omega)] at h2
  ((first | apply ret_mk [] | apply end_mk []); (· ((try simp only [CC, EE, QQ, seval]) <;> rfl)); (· ((try simp only [CC, EE, QQ, seval]) <;> repeat' (first | (with_reducible apply And.intro) | rfl | trivial | (exact ⟨_, rfl⟩) | (exact ⟨_, _, _, rfl⟩) | (simp [*, h2]; done) | (simp [*, h2]; omega) | (simp_all [h2]; done) | (simp_all [h2]; omega)))); all_goals (first | trivial | decide | ((try simp only [CC, EE, QQ, seval]) <;> repeat' (first | (with_reducible apply And.intro) | (exact ⟨_, rfl, rfl, rfl⟩) | (exact ⟨_, _, _, rfl⟩) | (exact ⟨_, rfl⟩) | trivial | rfl | (simp; done)))))
theorem dmod (x : Int) : Does Try.prog 64 [I x] [] (I (modP x)) [] [] := by
  refine go_digest_mod rfl BxOK.nil fun cx hm0 => go_in 5000 ?_
  unfold ac_digest_mod rs_digest_mod
  have h := tmod_range x
  repeat' (first | simp only [↓GE, PL, PP, EE, QQ, seval] | (simp (disch := omega) only [IntWalk.i64_in]) | (refine go_brD (fun h => ?_) (fun h => ?_)) | (refine go_gsD (by ((try simp only [EE, QQ, seval]) <;> rfl)) (fun h => ?_) (fun h => ?_)) | (refine go_br (fun h => ?_) (fun h => ?_)) | (refine go_gs (by ((try simp only [EE, QQ, seval]) <;> rfl)) (fun h => ?_) (fun h => ?_)) | (with_reducible apply And.intro) | (with_reducible exact trivial) | omega | (simp only [List.length_map, List.length_cons, List.length_nil] at *; omega) | (show _ = true; first | rfl | kernel_rfl))
  · have h2 : x.tmod 2147483647 + 2147483647 = modP x := by rw [← modP_plus]; omega
    ((first | apply ret_mk [] | apply end_mk []); (· ((try simp only [CC, EE, QQ, seval]) <;> rfl)); (· ((try simp only [CC, EE, QQ, seval]) <;> repeat' (first | (with_reducible apply And.intro) | rfl | trivial | (exact ⟨_, rfl⟩) | (exact ⟨_, _, _, rfl⟩) | (simp [*, h2]; done) | (simp [*, h2]; omega) | (simp_all [h2]; done) | (simp_all [h2]; omega)))); all_goals (first | trivial | decide | ((try simp only [CC, EE, QQ, seval]) <;> repeat' (first | (with_reducible apply And.intro) | (exact ⟨_, rfl, rfl, rfl⟩) | (exact ⟨_, _, _, rfl⟩) | (exact ⟨_, rfl⟩) | trivial | rfl | (simp; done)))))
  · have h2 : x.tmod 2147483647 = modP x := by rw [← modP_plus]; omega
    ((first | apply ret_mk [] | apply end_mk []); (· ((try simp only [CC, EE, QQ, seval]) <;> rfl)); (· ((try simp only [CC, EE, QQ, seval]) <;> repeat' (first | (with_reducible apply And.intro) | rfl | trivial | (exact ⟨_, rfl⟩) | (exact ⟨_, _, _, rfl⟩) | (simp [*, h2]; done) | (simp [*, h2]; omega) | (simp_all [h2]; done) | (simp_all [h2]; omega)))); all_goals (first | trivial | decide | ((try simp only [CC, EE, QQ, seval]) <;> repeat' (first | (with_reducible apply And.intro) | (exact ⟨_, rfl, rfl, rfl⟩) | (exact ⟨_, _, _, rfl⟩) | (exact ⟨_, rfl⟩) | trivial | rfl | (simp; done)))))
def nodeF (a b : Int) : Int := (modP a * 1000003 + modP b + 3) % 2147483647
theorem modP_in (x : Int) : 0 ≤ modP x ∧ modP x < 2147483647 := by unfold modP; omega
theorem r11node (a b : Int) : Does Try.prog 68 [I a, I b] [] (I (nodeF a b)) [] [] := by
  refine go_ref11_Node rfl BxOK.nil fun cx hm0 => go_in 5000 ?_
  unfold ac_ref11_Node rs_ref11_Node
  have h := modP_in a
  have h' := modP_in b
  repeat' (first | simp only [↓GE, PL, PP, EE, QQ, seval] | (simp (disch := omega) only [IntWalk.i64_in]) | (refine go_brD (fun h => ?_) (fun h => ?_)) | (refine go_gsD (by ((try simp only [EE, QQ, seval]) <;> rfl)) (fun h => ?_) (fun h => ?_)) | (refine go_br (fun h => ?_) (fun h => ?_)) | (refine go_gs (by ((try simp only [EE, QQ, seval]) <;> rfl)) (fun h => ?_) (fun h => ?_)) | (apply go_call 5000 (r11mod _) rfl rfl; (· ((try simp only [CC, EE, QQ, seval]) <;> (first | rfl | ((repeat constructor); done)))); (· exact CallForm.plain rfl); (· ((try simp only [CC, EE, QQ, seval]) <;> (first | rfl | ((repeat constructor); done)))); (· ((try simp only [CC, EE, QQ, seval]) <;> (first | rfl | ((repeat constructor); done))))) | (with_reducible apply And.intro) | (with_reducible exact trivial) | omega | (simp only [List.length_map, List.length_cons, List.length_nil] at *; omega) | (show _ = true; first | rfl | kernel_rfl))
  have h2 : (modP a * 1000003 + modP b + 3).tmod 2147483647 = nodeF a b := tmod_pos (by omega)
  ((first | apply ret_mk [] | apply end_mk []); (· ((try simp only [CC, EE, QQ, seval]) <;> rfl)); (· ((try simp only [CC, EE, QQ, seval]) <;> repeat' (first | (with_reducible apply And.intro) | rfl | trivial | (exact ⟨_, rfl⟩) | (exact ⟨_, _, _, rfl⟩) | (simp [*, h2]; done) | (simp [*, h2]; omega) | (simp_all [h2]; done) | (simp_all [h2]; omega)))); all_goals (first | trivial | decide | ((try simp only [CC, EE, QQ, seval]) <;> repeat' (first | (with_reducible apply And.intro) | (exact ⟨_, rfl, rfl, rfl⟩) | (exact ⟨_, _, _, rfl⟩) | (exact ⟨_, rfl⟩) | trivial | rfl | (simp; done)))))
def rowGo (d : Int) (l : List Int) : Int := l.foldl (fun d x => (d * 1000003 + modP x + 1) % 2147483647) d
def rowF (l : List Int) : Int := rowGo 2 l
theorem r11row (l : List Int) (hl : l.length ≤ 17592186044416) : Does Try.prog 49 [.d (dInts l)] [] (I (rowF l)) [] [] := by
  refine go_ref11_Row rfl BxOK.nil fun cx hm0 => go_in 5000 ?_
  unfold ac_ref11_Row rs_ref11_Row
  repeat' (first | simp only [↓GE, PL, PP, EE, QQ, seval] | (simp (disch := omega) only [IntWalk.i64_in]) | (refine go_brD (fun h => ?_) (fun h => ?_)) | (refine go_gsD (by ((try simp only [EE, QQ, seval]) <;> rfl)) (fun h => ?_) (fun h => ?_)) | (refine go_br (fun h => ?_) (fun h => ?_)) | (refine go_gs (by ((try simp only [EE, QQ, seval]) <;> rfl)) (fun h => ?_) (fun h => ?_)) | (with_reducible apply And.intro) | (with_reducible exact trivial) | omega | (simp only [List.length_map, List.length_cons, List.length_nil] at *; omega) | (show _ = true; first | rfl | kernel_rfl))
  refine go_loop 5000 hm0 (ι := {p : Nat × Int // p.1 ≤ l.length ∧ 0 ≤ p.2 ∧ p.2 < 2147483647 ∧ rowF l = rowGo p.2 (l.drop p.1)}) (fun i => [(2, I 0), (3, I i.1.2), (6, .d (dInts l)), (7, I l.length), (8, I i.1.1)]) (fun i => []) (fun i => l.length - i.1.1) [] ⟨(0, 2), by simp [rowF]⟩ ?_ ?_
  · (simp only [GeS]; refine ⟨?_, ?_, ?_, ?_⟩; all_goals (repeat' (first | trivial | (with_reducible rfl) | simp only [CC, EE, QQ, seval] | (with_reducible apply And.intro) | rfl | (refine ⟨_, rfl, ?_⟩) | (simp; done) | omega)))
  · rintro ⟨⟨k, d⟩, hk, hd, hd2, hv⟩
    by_cases hkl : k < l.length
    · have hs := getD_map eI [] 0 l k hkl
      rw [drop_get 0 _ _ hkl] at hv
      generalize l.getD k 0 = s at hs hv
      simp only [rowGo, List.foldl_cons] at hv hd hd2
      have h' := modP_in s
      repeat' (first | simp only [↓GE, PL, PP, EE, QQ, seval, hs, eI] | (simp (disch := omega) only [IntWalk.i64_in]) | (refine go_brD (fun h => ?_) (fun h => ?_)) | (refine go_gsD (by ((try simp only [EE, QQ, seval]) <;> rfl)) (fun h => ?_) (fun h => ?_)) | (refine go_br (fun h => ?_) (fun h => ?_)) | (refine go_gs (by ((try simp only [EE, QQ, seval]) <;> rfl)) (fun h => ?_) (fun h => ?_)) | (apply go_call 5000 (r11mod s) rfl rfl; (· ((try simp only [CC, EE, QQ, seval]) <;> (first | rfl | ((repeat constructor); done)))); (· exact CallForm.plain rfl); (· ((try simp only [CC, EE, QQ, seval]) <;> (first | rfl | ((repeat constructor); done)))); (· ((try simp only [CC, EE, QQ, seval]) <;> (first | rfl | ((repeat constructor); done))))) | (with_reducible apply And.intro) | (with_reducible exact trivial) | omega | (simp only [List.length_map, List.length_cons, List.length_nil] at *; omega) | (show _ = true; first | rfl | kernel_rfl))
      rw [tmod_pos (by omega)]
      refine ⟨⟨(k + 1, (d * 1000003 + modP s + 1) % 2147483647), hkl, by omega, by omega, hv⟩, ?_, by simp only; omega⟩
      (simp only [GeS]; refine ⟨?_, ?_, ?_, ?_⟩; all_goals (repeat' (first | trivial | (with_reducible rfl) | simp only [CC, EE, QQ, seval] | (with_reducible apply And.intro) | rfl | (refine ⟨_, rfl, ?_⟩) | (simp; done) | omega)))
    · have : k = l.length := by simp only at hk; omega
      subst this
      simp only [List.drop_length, rowGo, List.foldl_nil] at hv
      repeat' (first | simp only [↓GE, PL, PP, EE, QQ, seval] | (simp (disch := omega) only [IntWalk.i64_in]) | (refine go_brD (fun h => ?_) (fun h => ?_)) | (refine go_gsD (by ((try simp only [EE, QQ, seval]) <;> rfl)) (fun h => ?_) (fun h => ?_)) | (refine go_br (fun h => ?_) (fun h => ?_)) | (refine go_gs (by ((try simp only [EE, QQ, seval]) <;> rfl)) (fun h => ?_) (fun h => ?_)) | (with_reducible apply And.intro) | (with_reducible exact trivial) | omega | (simp only [List.length_map, List.length_cons, List.length_nil] at *; omega) | (show _ = true; first | rfl | kernel_rfl))
      all_goals ((first | apply ret_mk [] | apply end_mk []); (· ((try simp only [CC, EE, QQ, seval]) <;> rfl)); (· ((try simp only [CC, EE, QQ, seval]) <;> repeat' (first | (with_reducible apply And.intro) | rfl | trivial | (exact ⟨_, rfl⟩) | (exact ⟨_, _, _, rfl⟩) | (simp [*, hv]; done) | (simp [*, hv]; omega) | (simp_all [hv]; done) | (simp_all [hv]; omega)))); all_goals (first | trivial | decide | ((try simp only [CC, EE, QQ, seval]) <;> repeat' (first | (with_reducible apply And.intro) | (exact ⟨_, rfl, rfl, rfl⟩) | (exact ⟨_, _, _, rfl⟩) | (exact ⟨_, rfl⟩) | trivial | rfl | (simp; done)))))
theorem drow (l : List Int) (hl : l.length ≤ 17592186044416) : Does Try.prog 50 [.d (dInts l)] [] (I (rowF l)) [] [] := by
  refine go_digest_Row rfl BxOK.nil fun cx hm0 => go_in 5000 ?_
  unfold ac_digest_Row rs_digest_Row
  repeat' (first | simp only [↓GE, PL, PP, EE, QQ, seval] | (simp (disch := omega) only [IntWalk.i64_in]) | (refine go_brD (fun h => ?_) (fun h => ?_)) | (refine go_gsD (by ((try simp only [EE, QQ, seval]) <;> rfl)) (fun h => ?_) (fun h => ?_)) | (refine go_br (fun h => ?_) (fun h => ?_)) | (refine go_gs (by ((try simp only [EE, QQ, seval]) <;> rfl)) (fun h => ?_) (fun h => ?_)) | (with_reducible apply And.intro) | (with_reducible exact trivial) | omega | (simp only [List.length_map, List.length_cons, List.length_nil] at *; omega) | (show _ = true; first | rfl | kernel_rfl))
  refine go_loop 5000 hm0 (ι := {p : Nat × Int // p.1 ≤ l.length ∧ 0 ≤ p.2 ∧ p.2 < 2147483647 ∧ rowF l = rowGo p.2 (l.drop p.1)}) (fun i => [(2, I 0), (3, I i.1.2), (6, .d (dInts l)), (7, I l.length), (8, I i.1.1)]) (fun i => []) (fun i => l.length - i.1.1) [] ⟨(0, 2), by simp [rowF]⟩ ?_ ?_
  · (simp only [GeS]; refine ⟨?_, ?_, ?_, ?_⟩; all_goals (repeat' (first | trivial | (with_reducible rfl) | simp only [CC, EE, QQ, seval] | (with_reducible apply And.intro) | rfl | (refine ⟨_, rfl, ?_⟩) | (simp; done) | omega)))
  · rintro ⟨⟨k, d⟩, hk, hd, hd2, hv⟩
    by_cases hkl : k < l.length
    · have hs := getD_map eI [] 0 l k hkl
      rw [drop_get 0 _ _ hkl] at hv
      generalize l.getD k 0 = s at hs hv
      simp only [rowGo, List.foldl_cons] at hv hd hd2
      have h' := modP_in s
      repeat' (first | simp only [↓GE, PL, PP, EE, QQ, seval, hs, eI] | (simp (disch := omega) only [IntWalk.i64_in]) | (refine go_brD (fun h => ?_) (fun h => ?_)) | (refine go_gsD (by ((try simp only [EE, QQ, seval]) <;> rfl)) (fun h => ?_) (fun h => ?_)) | (refine go_br (fun h => ?_) (fun h => ?_)) | (refine go_gs (by ((try simp only [EE, QQ, seval]) <;> rfl)) (fun h => ?_) (fun h => ?_)) | (apply go_call 5000 (dmod s) rfl rfl; (· ((try simp only [CC, EE, QQ, seval]) <;> (first | rfl | ((repeat constructor); done)))); (· exact CallForm.plain rfl); (· ((try simp only [CC, EE, QQ, seval]) <;> (first | rfl | ((repeat constructor); done)))); (· ((try simp only [CC, EE, QQ, seval]) <;> (first | rfl | ((repeat constructor); done))))) | (with_reducible apply And.intro) | (with_reducible exact trivial) | omega | (simp only [List.length_map, List.length_cons, List.length_nil] at *; omega) | (show _ = true; first | rfl | kernel_rfl))
      rw [tmod_pos (by omega)]
      refine ⟨⟨(k + 1, (d * 1000003 + modP s + 1) % 2147483647), hkl, by omega, by omega, hv⟩, ?_, by simp only; omega⟩
      (simp only [GeS]; refine ⟨?_, ?_, ?_, ?_⟩; all_goals (repeat' (first | trivial | (with_reducible rfl) | simp only [CC, EE, QQ, seval] | (with_reducible apply And.intro) | rfl | (refine ⟨_, rfl, ?_⟩) | (simp; done) | omega)))
    · have : k = l.length := by simp only at hk; omega
      subst this
      simp only [List.drop_length, rowGo, List.foldl_nil] at hv
      repeat' (first | simp only [↓GE, PL, PP, EE, QQ, seval] | (simp (disch := omega) only [IntWalk.i64_in]) | (refine go_brD (fun h => ?_) (fun h => ?_)) | (refine go_gsD (by ((try simp only [EE, QQ, seval]) <;> rfl)) (fun h => ?_) (fun h => ?_)) | (refine go_br (fun h => ?_) (fun h => ?_)) | (refine go_gs (by ((try simp only [EE, QQ, seval]) <;> rfl)) (fun h => ?_) (fun h => ?_)) | (with_reducible apply And.intro) | (with_reducible exact trivial) | omega | (simp only [List.length_map, List.length_cons, List.length_nil] at *; omega) | (show _ = true; first | rfl | kernel_rfl))
      all_goals ((first | apply ret_mk [] | apply end_mk []); (· ((try simp only [CC, EE, QQ, seval]) <;> rfl)); (· ((try simp only [CC, EE, QQ, seval]) <;> repeat' (first | (with_reducible apply And.intro) | rfl | trivial | (exact ⟨_, rfl⟩) | (exact ⟨_, _, _, rfl⟩) | (simp [*, hv]; done) | (simp [*, hv]; omega) | (simp_all [hv]; done) | (simp_all [hv]; omega)))); all_goals (first | trivial | decide | ((try simp only [CC, EE, QQ, seval]) <;> repeat' (first | (with_reducible apply And.intro) | (exact ⟨_, rfl, rfl, rfl⟩) | (exact ⟨_, _, _, rfl⟩) | (exact ⟨_, rfl⟩) | trivial | rfl | (simp; done)))))
def modF (a k : Int) : Int := (a.tmod k + k).tmod k
theorem mmod (a k : Int) (h : 0 < k) (h2 : k < 4611686018427387904) : Does Try.prog 47 [I a, I k] [] (I (a % k)) [] [] := by
  refine go_make_Mod rfl BxOK.nil fun cx hm0 => go_in 5000 ?_
  unfold ac_make_Mod rs_make_Mod
  have hr : -k < a.tmod k ∧ a.tmod k < k := by
    rcases Int.le_total 0 a with h0 | h0
    · rw [tmod_pos h0]; have := Int.emod_nonneg a (show k ≠ 0 by omega); have := Int.emod_lt_of_pos a h; omega
    · have e := Int.neg_tmod (-a) k
      rw [Int.neg_neg, tmod_pos (x := -a) (by omega)] at e
      have := Int.emod_nonneg (-a) (show k ≠ 0 by omega); have := Int.emod_lt_of_pos (-a) h
      rw [e]; omega
  have he : (a.tmod k + k).tmod k = a % k := by
    rw [tmod_pos (by omega), Int.add_emod_right, Int.tmod_def, Int.sub_mul_emod_self_left]
  repeat' (first | simp only [↓GE, PL, PP, EE, QQ, seval] | (simp (disch := omega) only [IntWalk.i64_in]) | (refine go_brD (fun h => ?_) (fun h => ?_)) | (refine go_gsD (by ((try simp only [EE, QQ, seval]) <;> rfl)) (fun h => ?_) (fun h => ?_)) | (refine go_br (fun h => ?_) (fun h => ?_)) | (refine go_gs (by ((try simp only [EE, QQ, seval]) <;> rfl)) (fun h => ?_) (fun h => ?_)) | (with_reducible apply And.intro) | (with_reducible exact trivial) | omega | (simp only [List.length_map, List.length_cons, List.length_nil] at *; omega) | (show _ = true; first | rfl | kernel_rfl))
  ((first | apply ret_mk [] | apply end_mk []); (· ((try simp only [CC, EE, QQ, seval]) <;> rfl)); (· ((try simp only [CC, EE, QQ, seval]) <;> repeat' (first | (with_reducible apply And.intro) | rfl | trivial | (exact ⟨_, rfl⟩) | (exact ⟨_, _, _, rfl⟩) | (simp [*, he]; done) | (simp [*, he]; omega) | (simp_all [he]; done) | (simp_all [he]; omega)))); all_goals (first | trivial | decide | ((try simp only [CC, EE, QQ, seval]) <;> repeat' (first | (with_reducible apply And.intro) | (exact ⟨_, rfl, rfl, rfl⟩) | (exact ⟨_, _, _, rfl⟩) | (exact ⟨_, rfl⟩) | trivial | rfl | (simp; done)))))
/-- Equal lists. -/
theorem eq_iff_get {α : Type} (z : α) (a b : List α) (h : a.length = b.length) : a = b ↔ ∀ k, k < a.length → a.getD k z = b.getD k z := by
  constructor
  · rintro rfl _ _; rfl
  · intro hk
    apply List.ext_getElem h
    intro i h1 h2
    have := hk i h1
    simpa [List.getD_eq_getElem?_getD, h1, h2] using this
def eR (r : List Int) : List D := [dInts r]
abbrev dRows (l : List (List Int)) : D := .sl 1 (l.map eR)
instance instSet : DecidableEq PSet := fun a b => decidable_of_iff (a.idx = b.idx ∧ a.row = b.row) (by cases a; cases b; simp)
theorem equalI (a b : List Int) (ha : a.length ≤ 17592186044416) (hb : b.length ≤ 17592186044416) : Does Try.prog 41 [.d (dInts a), .d (dInts b)] [] (B (decide (a = b))) [] [] := by
  refine go_slices_Equal_int_int rfl BxOK.nil fun cx hm0 => go_in 5000 ?_
  unfold ac_slices_Equal_int_int rs_slices_Equal_int_int
  repeat' (first | simp only [↓GE, PL, PP, EE, QQ, seval, List.length_map] | (simp (disch := omega) only [IntWalk.i64_in]) | (refine go_brD (fun h => ?_) (fun h => ?_)) | (refine go_gsD (by ((try simp only [EE, QQ, seval]) <;> rfl)) (fun h => ?_) (fun h => ?_)) | (refine go_br (fun h => ?_) (fun h => ?_)) | (refine go_gs (by ((try simp only [EE, QQ, seval]) <;> rfl)) (fun h => ?_) (fun h => ?_)) | (with_reducible apply And.intro) | (with_reducible exact trivial) | omega | (simp only [List.length_map, List.length_cons, List.length_nil] at *; omega) | (show _ = true; first | rfl | kernel_rfl))
  · have hv : decide (a = b) = false := decide_eq_false fun e => by subst e; simp at h
    ((first | apply ret_mk [] | apply end_mk []); (· ((try simp only [CC, EE, QQ, seval]) <;> rfl)); (· ((try simp only [CC, EE, QQ, seval]) <;> repeat' (first | (with_reducible apply And.intro) | rfl | trivial | (exact ⟨_, rfl⟩) | (exact ⟨_, _, _, rfl⟩) | (simp [*, hv]; done) | (simp [*, hv]; omega) | (simp_all [hv]; done) | (simp_all [hv]; omega)))); all_goals (first | trivial | decide | ((try simp only [CC, EE, QQ, seval]) <;> repeat' (first | (with_reducible apply And.intro) | (exact ⟨_, rfl, rfl, rfl⟩) | (exact ⟨_, _, _, rfl⟩) | (exact ⟨_, rfl⟩) | trivial | rfl | (simp; done)))))
  have hl : a.length = b.length := by simp at h; omega
  refine go_loop 5000 hm0 (ι := {k : Nat // k ≤ a.length ∧ ∀ j, j < k → a.getD j 0 = b.getD j 0}) (fun i => [(0, .d (dInts a)), (1, .d (dInts b)), (4, B false), (12, I a.length), (13, I i.1)]) (fun i => []) (fun i => a.length - i.1) [] ⟨0, by omega, fun j h => by omega⟩ ?_ ?_
  · (simp only [GeS]; refine ⟨?_, ?_, ?_, ?_⟩; all_goals (repeat' (first | trivial | (with_reducible rfl) | simp only [CC, EE, QQ, seval] | (with_reducible apply And.intro) | rfl | (refine ⟨_, rfl, ?_⟩) | (simp; done) | omega)))
  · rintro ⟨k, hk, hv⟩
    by_cases hkl : k < a.length
    · have hs := getD_map eI [] 0 a k hkl
      have hs' := getD_map eI [] 0 b k (by omega)
      repeat' (first | simp only [↓GE, PL, PP, EE, QQ, seval, hs, hs', eI] | (simp (disch := omega) only [IntWalk.i64_in]) | (refine go_brD (fun h => ?_) (fun h => ?_)) | (refine go_gsD (by ((try simp only [EE, QQ, seval]) <;> rfl)) (fun h => ?_) (fun h => ?_)) | (refine go_br (fun h => ?_) (fun h => ?_)) | (refine go_gs (by ((try simp only [EE, QQ, seval]) <;> rfl)) (fun h => ?_) (fun h => ?_)) | (with_reducible apply And.intro) | (with_reducible exact trivial) | omega | (simp only [List.length_map, List.length_cons, List.length_nil] at *; omega) | (show _ = true; first | rfl | kernel_rfl))
      · have hv' : decide (a = b) = false := decide_eq_false fun e => by subst e; simp at h
        ((first | apply ret_mk [] | apply end_mk []); (· ((try simp only [CC, EE, QQ, seval]) <;> rfl)); (· ((try simp only [CC, EE, QQ, seval]) <;> repeat' (first | (with_reducible apply And.intro) | rfl | trivial | (exact ⟨_, rfl⟩) | (exact ⟨_, _, _, rfl⟩) | (simp [*, hv']; done) | (simp [*, hv']; omega) | (simp_all [hv']; done) | (simp_all [hv']; omega)))); all_goals (first | trivial | decide | ((try simp only [CC, EE, QQ, seval]) <;> repeat' (first | (with_reducible apply And.intro) | (exact ⟨_, rfl, rfl, rfl⟩) | (exact ⟨_, _, _, rfl⟩) | (exact ⟨_, rfl⟩) | trivial | rfl | (simp; done)))))
      · refine ⟨⟨k + 1, hkl, fun j hj => ?_⟩, ?_, by simp only; omega⟩
        · by_cases e : j = k
          · subst e; simpa using h
          · exact hv j (by omega)
        (simp only [GeS]; refine ⟨?_, ?_, ?_, ?_⟩; all_goals (repeat' (first | trivial | (with_reducible rfl) | simp only [CC, EE, QQ, seval] | (with_reducible apply And.intro) | rfl | (refine ⟨_, rfl, ?_⟩) | (simp; done) | omega)))
    · have : k = a.length := by omega
      subst this
      have hv' : decide (a = b) = true := decide_eq_true ((eq_iff_get 0 a b hl).2 hv)
      repeat' (first | simp only [↓GE, PL, PP, EE, QQ, seval] | (simp (disch := omega) only [IntWalk.i64_in]) | (refine go_brD (fun h => ?_) (fun h => ?_)) | (refine go_gsD (by ((try simp only [EE, QQ, seval]) <;> rfl)) (fun h => ?_) (fun h => ?_)) | (refine go_br (fun h => ?_) (fun h => ?_)) | (refine go_gs (by ((try simp only [EE, QQ, seval]) <;> rfl)) (fun h => ?_) (fun h => ?_)) | (with_reducible apply And.intro) | (with_reducible exact trivial) | omega | (simp only [List.length_map, List.length_cons, List.length_nil] at *; omega) | (show _ = true; first | rfl | kernel_rfl))
      all_goals ((first | apply ret_mk [] | apply end_mk []); (· ((try simp only [CC, EE, QQ, seval]) <;> rfl)); (· ((try simp only [CC, EE, QQ, seval]) <;> repeat' (first | (with_reducible apply And.intro) | rfl | trivial | (exact ⟨_, rfl⟩) | (exact ⟨_, _, _, rfl⟩) | (simp [*, hv']; done) | (simp [*, hv']; omega) | (simp_all [hv']; done) | (simp_all [hv']; omega)))); all_goals (first | trivial | decide | ((try simp only [CC, EE, QQ, seval]) <;> repeat' (first | (with_reducible apply And.intro) | (exact ⟨_, rfl, rfl, rfl⟩) | (exact ⟨_, _, _, rfl⟩) | (exact ⟨_, rfl⟩) | trivial | rfl | (simp; done)))))
theorem sameI (a b : List Int) (ha : a.length ≤ 17592186044416) (hb : b.length ≤ 17592186044416) : Does Try.prog 17 [.d (dInts a), .d (dInts b)] [] (B (decide (a = b))) [] [] := by
  refine go_ref04_Same rfl BxOK.nil fun cx hm0 => go_in 5000 ?_
  unfold ac_ref04_Same rs_ref04_Same
  repeat' (first | simp only [↓GE, PL, PP, EE, QQ, seval, List.length_map] | (simp (disch := omega) only [IntWalk.i64_in]) | (refine go_brD (fun h => ?_) (fun h => ?_)) | (refine go_gsD (by ((try simp only [EE, QQ, seval]) <;> rfl)) (fun h => ?_) (fun h => ?_)) | (refine go_br (fun h => ?_) (fun h => ?_)) | (refine go_gs (by ((try simp only [EE, QQ, seval]) <;> rfl)) (fun h => ?_) (fun h => ?_)) | (with_reducible apply And.intro) | (with_reducible exact trivial) | omega | (simp only [List.length_map, List.length_cons, List.length_nil] at *; omega) | (show _ = true; first | rfl | kernel_rfl))
  · have hv : decide (a = b) = false := decide_eq_false fun e => by subst e; simp at h
    ((first | apply ret_mk [] | apply end_mk []); (· ((try simp only [CC, EE, QQ, seval]) <;> rfl)); (· ((try simp only [CC, EE, QQ, seval]) <;> repeat' (first | (with_reducible apply And.intro) | rfl | trivial | (exact ⟨_, rfl⟩) | (exact ⟨_, _, _, rfl⟩) | (simp [*, hv]; done) | (simp [*, hv]; omega) | (simp_all [hv]; done) | (simp_all [hv]; omega)))); all_goals (first | trivial | decide | ((try simp only [CC, EE, QQ, seval]) <;> repeat' (first | (with_reducible apply And.intro) | (exact ⟨_, rfl, rfl, rfl⟩) | (exact ⟨_, _, _, rfl⟩) | (exact ⟨_, rfl⟩) | trivial | rfl | (simp; done)))))
  have hl : a.length = b.length := by simp at h; omega
  refine go_loop 5000 hm0 (ι := {k : Nat // k ≤ a.length ∧ ∀ j, j < k → a.getD j 0 = b.getD j 0}) (fun i => [(0, .d (dInts a)), (1, .d (dInts b)), (4, B false), (12, I a.length), (13, I i.1)]) (fun i => []) (fun i => a.length - i.1) [] ⟨0, by omega, fun j h => by omega⟩ ?_ ?_
  · (simp only [GeS]; refine ⟨?_, ?_, ?_, ?_⟩; all_goals (repeat' (first | trivial | (with_reducible rfl) | simp only [CC, EE, QQ, seval] | (with_reducible apply And.intro) | rfl | (refine ⟨_, rfl, ?_⟩) | (simp; done) | omega)))
  · rintro ⟨k, hk, hv⟩
    by_cases hkl : k < a.length
    · have hs := getD_map eI [] 0 a k hkl
      have hs' := getD_map eI [] 0 b k (by omega)
      repeat' (first | simp only [↓GE, PL, PP, EE, QQ, seval, hs, hs', eI] | (simp (disch := omega) only [IntWalk.i64_in]) | (refine go_brD (fun h => ?_) (fun h => ?_)) | (refine go_gsD (by ((try simp only [EE, QQ, seval]) <;> rfl)) (fun h => ?_) (fun h => ?_)) | (refine go_br (fun h => ?_) (fun h => ?_)) | (refine go_gs (by ((try simp only [EE, QQ, seval]) <;> rfl)) (fun h => ?_) (fun h => ?_)) | (with_reducible apply And.intro) | (with_reducible exact trivial) | omega | (simp only [List.length_map, List.length_cons, List.length_nil] at *; omega) | (show _ = true; first | rfl | kernel_rfl))
      · have hv' : decide (a = b) = false := decide_eq_false fun e => by subst e; simp at h
        ((first | apply ret_mk [] | apply end_mk []); (· ((try simp only [CC, EE, QQ, seval]) <;> rfl)); (· ((try simp only [CC, EE, QQ, seval]) <;> repeat' (first | (with_reducible apply And.intro) | rfl | trivial | (exact ⟨_, rfl⟩) | (exact ⟨_, _, _, rfl⟩) | (simp [*, hv']; done) | (simp [*, hv']; omega) | (simp_all [hv']; done) | (simp_all [hv']; omega)))); all_goals (first | trivial | decide | ((try simp only [CC, EE, QQ, seval]) <;> repeat' (first | (with_reducible apply And.intro) | (exact ⟨_, rfl, rfl, rfl⟩) | (exact ⟨_, _, _, rfl⟩) | (exact ⟨_, rfl⟩) | trivial | rfl | (simp; done)))))
      · refine ⟨⟨k + 1, hkl, fun j hj => ?_⟩, ?_, by simp only; omega⟩
        · by_cases e : j = k
          · subst e; simpa using h
          · exact hv j (by omega)
        (simp only [GeS]; refine ⟨?_, ?_, ?_, ?_⟩; all_goals (repeat' (first | trivial | (with_reducible rfl) | simp only [CC, EE, QQ, seval] | (with_reducible apply And.intro) | rfl | (refine ⟨_, rfl, ?_⟩) | (simp; done) | omega)))
    · have : k = a.length := by omega
      subst this
      have hv' : decide (a = b) = true := decide_eq_true ((eq_iff_get 0 a b hl).2 hv)
      repeat' (first | simp only [↓GE, PL, PP, EE, QQ, seval] | (simp (disch := omega) only [IntWalk.i64_in]) | (refine go_brD (fun h => ?_) (fun h => ?_)) | (refine go_gsD (by ((try simp only [EE, QQ, seval]) <;> rfl)) (fun h => ?_) (fun h => ?_)) | (refine go_br (fun h => ?_) (fun h => ?_)) | (refine go_gs (by ((try simp only [EE, QQ, seval]) <;> rfl)) (fun h => ?_) (fun h => ?_)) | (with_reducible apply And.intro) | (with_reducible exact trivial) | omega | (simp only [List.length_map, List.length_cons, List.length_nil] at *; omega) | (show _ = true; first | rfl | kernel_rfl))
      all_goals ((first | apply ret_mk [] | apply end_mk []); (· ((try simp only [CC, EE, QQ, seval]) <;> rfl)); (· ((try simp only [CC, EE, QQ, seval]) <;> repeat' (first | (with_reducible apply And.intro) | rfl | trivial | (exact ⟨_, rfl⟩) | (exact ⟨_, _, _, rfl⟩) | (simp [*, hv']; done) | (simp [*, hv']; omega) | (simp_all [hv']; done) | (simp_all [hv']; omega)))); all_goals (first | trivial | decide | ((try simp only [CC, EE, QQ, seval]) <;> repeat' (first | (with_reducible apply And.intro) | (exact ⟨_, rfl, rfl, rfl⟩) | (exact ⟨_, _, _, rfl⟩) | (exact ⟨_, rfl⟩) | trivial | rfl | (simp; done)))))
theorem mem_getD {α : Type} (z : α) (l : List α) (k : Nat) (h : k < l.length) : l.getD k z ∈ l := by
  rw [List.getD_eq_getElem?_getD, List.getElem?_eq_getElem h]; exact List.getElem_mem h
/-- Rows that are not too long. -/
def Short (l : List (List Int)) : Prop := ∀ r ∈ l, r.length ≤ 17592186044416
def ShortS (l : List PSet) : Prop := ∀ r ∈ l, r.row.length ≤ 17592186044416
theorem sameRows (a b : List (List Int)) (ha : a.length ≤ 17592186044416) (hb : b.length ≤ 17592186044416) (hsa : Short a) (hsb : Short b) : Does Try.prog 19 [.d (dRows a), .d (dRows b)] [] (B (decide (a = b))) [] [] := by
  refine go_ref04_SameRows rfl BxOK.nil fun cx hm0 => go_in 5000 ?_
  unfold ac_ref04_SameRows rs_ref04_SameRows
  repeat' (first | simp only [↓GE, PL, PP, EE, QQ, seval, List.length_map] | (simp (disch := omega) only [IntWalk.i64_in]) | (refine go_brD (fun h => ?_) (fun h => ?_)) | (refine go_gsD (by ((try simp only [EE, QQ, seval]) <;> rfl)) (fun h => ?_) (fun h => ?_)) | (refine go_br (fun h => ?_) (fun h => ?_)) | (refine go_gs (by ((try simp only [EE, QQ, seval]) <;> rfl)) (fun h => ?_) (fun h => ?_)) | (with_reducible apply And.intro) | (with_reducible exact trivial) | omega | (simp only [List.length_map, List.length_cons, List.length_nil] at *; omega) | (show _ = true; first | rfl | kernel_rfl))
  · have hv : decide (a = b) = false := decide_eq_false fun e => by subst e; simp at h
    ((first | apply ret_mk [] | apply end_mk []); (· ((try simp only [CC, EE, QQ, seval]) <;> rfl)); (· ((try simp only [CC, EE, QQ, seval]) <;> repeat' (first | (with_reducible apply And.intro) | rfl | trivial | (exact ⟨_, rfl⟩) | (exact ⟨_, _, _, rfl⟩) | (simp [*, hv]; done) | (simp [*, hv]; omega) | (simp_all [hv]; done) | (simp_all [hv]; omega)))); all_goals (first | trivial | decide | ((try simp only [CC, EE, QQ, seval]) <;> repeat' (first | (with_reducible apply And.intro) | (exact ⟨_, rfl, rfl, rfl⟩) | (exact ⟨_, _, _, rfl⟩) | (exact ⟨_, rfl⟩) | trivial | rfl | (simp; done)))))
  have hl : a.length = b.length := by simp at h; omega
  refine go_loop 5000 hm0 (ι := {k : Nat // k ≤ a.length ∧ ∀ j, j < k → a.getD j [] = b.getD j []}) (fun i => [(0, .d (dRows a)), (1, .d (dRows b)), (4, B false), (12, I a.length), (13, I i.1)]) (fun i => []) (fun i => a.length - i.1) [] ⟨0, by omega, fun j h => by omega⟩ ?_ ?_
  · (simp only [GeS]; refine ⟨?_, ?_, ?_, ?_⟩; all_goals (repeat' (first | trivial | (with_reducible rfl) | simp only [CC, EE, QQ, seval] | (with_reducible apply And.intro) | rfl | (refine ⟨_, rfl, ?_⟩) | (simp; done) | omega)))
  · rintro ⟨k, hk, hv⟩
    by_cases hkl : k < a.length
    · have hs := getD_map eR [] [] a k hkl
      have hs' := getD_map eR [] [] b k (by omega)
      have hq := sameI _ _ (hsa _ (mem_getD [] a k hkl)) (hsb _ (mem_getD [] b k (by omega)))
      repeat' (first | simp only [↓GE, PL, PP, EE, QQ, seval, hs, hs', eR] | (simp (disch := omega) only [IntWalk.i64_in]) | (refine go_brD (fun h => ?_) (fun h => ?_)) | (refine go_gsD (by ((try simp only [EE, QQ, seval]) <;> rfl)) (fun h => ?_) (fun h => ?_)) | (refine go_br (fun h => ?_) (fun h => ?_)) | (refine go_gs (by ((try simp only [EE, QQ, seval]) <;> rfl)) (fun h => ?_) (fun h => ?_)) | (apply go_call 5000 (hq) rfl rfl; (· ((try simp only [CC, EE, QQ, seval]) <;> (first | rfl | ((repeat constructor); done)))); (· exact CallForm.plain rfl); (· ((try simp only [CC, EE, QQ, seval]) <;> (first | rfl | ((repeat constructor); done)))); (· ((try simp only [CC, EE, QQ, seval]) <;> (first | rfl | ((repeat constructor); done))))) | (with_reducible apply And.intro) | (with_reducible exact trivial) | omega | (simp only [List.length_map, List.length_cons, List.length_nil] at *; omega) | (show _ = true; first | rfl | kernel_rfl))
      · have hv' : decide (a = b) = false := decide_eq_false fun e => by subst e; simp at h
        ((first | apply ret_mk [] | apply end_mk []); (· ((try simp only [CC, EE, QQ, seval]) <;> rfl)); (· ((try simp only [CC, EE, QQ, seval]) <;> repeat' (first | (with_reducible apply And.intro) | rfl | trivial | (exact ⟨_, rfl⟩) | (exact ⟨_, _, _, rfl⟩) | (simp [*, hv']; done) | (simp [*, hv']; omega) | (simp_all [hv']; done) | (simp_all [hv']; omega)))); all_goals (first | trivial | decide | ((try simp only [CC, EE, QQ, seval]) <;> repeat' (first | (with_reducible apply And.intro) | (exact ⟨_, rfl, rfl, rfl⟩) | (exact ⟨_, _, _, rfl⟩) | (exact ⟨_, rfl⟩) | trivial | rfl | (simp; done)))))
      · refine ⟨⟨k + 1, hkl, fun j hj => ?_⟩, ?_, by simp only; omega⟩
        · by_cases e : j = k
          · subst e; simpa using h
          · exact hv j (by omega)
        (simp only [GeS]; refine ⟨?_, ?_, ?_, ?_⟩; all_goals (repeat' (first | trivial | (with_reducible rfl) | simp only [CC, EE, QQ, seval] | (with_reducible apply And.intro) | rfl | (refine ⟨_, rfl, ?_⟩) | (simp; done) | omega)))
    · have : k = a.length := by omega
      subst this
      have hv' : decide (a = b) = true := decide_eq_true ((eq_iff_get [] a b hl).2 hv)
      repeat' (first | simp only [↓GE, PL, PP, EE, QQ, seval] | (simp (disch := omega) only [IntWalk.i64_in]) | (refine go_brD (fun h => ?_) (fun h => ?_)) | (refine go_gsD (by ((try simp only [EE, QQ, seval]) <;> rfl)) (fun h => ?_) (fun h => ?_)) | (refine go_br (fun h => ?_) (fun h => ?_)) | (refine go_gs (by ((try simp only [EE, QQ, seval]) <;> rfl)) (fun h => ?_) (fun h => ?_)) | (with_reducible apply And.intro) | (with_reducible exact trivial) | omega | (simp only [List.length_map, List.length_cons, List.length_nil] at *; omega) | (show _ = true; first | rfl | kernel_rfl))
      all_goals ((first | apply ret_mk [] | apply end_mk []); (· ((try simp only [CC, EE, QQ, seval]) <;> rfl)); (· ((try simp only [CC, EE, QQ, seval]) <;> repeat' (first | (with_reducible apply And.intro) | rfl | trivial | (exact ⟨_, rfl⟩) | (exact ⟨_, _, _, rfl⟩) | (simp [*, hv']; done) | (simp [*, hv']; omega) | (simp_all [hv']; done) | (simp_all [hv']; omega)))); all_goals (first | trivial | decide | ((try simp only [CC, EE, QQ, seval]) <;> repeat' (first | (with_reducible apply And.intro) | (exact ⟨_, rfl, rfl, rfl⟩) | (exact ⟨_, _, _, rfl⟩) | (exact ⟨_, rfl⟩) | trivial | rfl | (simp; done)))))
theorem same1 (s t : PSet) (hs : s.row.length ≤ 17592186044416) (ht : t.row.length ≤ 17592186044416) : Does Try.prog 53 [.ag [I s.idx, .d (dInts s.row)], .ag [I t.idx, .d (dInts t.row)]] [] (B (decide (s = t))) [] [] := by
  refine go_change_Same_1 rfl BxOK.nil fun cx hm0 => go_in 5000 ?_
  unfold ac_change_Same_1 rs_change_Same_1
  have he : (s = t) ↔ (s.idx = t.idx ∧ s.row = t.row) := by cases s; cases t; simp
  repeat' (first | simp only [↓GE, PL, PP, EE, QQ, seval] | (simp (disch := omega) only [IntWalk.i64_in]) | (refine go_brD (fun h => ?_) (fun h => ?_)) | (refine go_gsD (by ((try simp only [EE, QQ, seval]) <;> rfl)) (fun h => ?_) (fun h => ?_)) | (refine go_br (fun h => ?_) (fun h => ?_)) | (refine go_gs (by ((try simp only [EE, QQ, seval]) <;> rfl)) (fun h => ?_) (fun h => ?_)) | (apply go_call 5000 (equalI _ _ hs ht) rfl rfl; (· ((try simp only [CC, EE, QQ, seval]) <;> (first | rfl | ((repeat constructor); done)))); (· exact CallForm.plain rfl); (· ((try simp only [CC, EE, QQ, seval]) <;> (first | rfl | ((repeat constructor); done)))); (· ((try simp only [CC, EE, QQ, seval]) <;> (first | rfl | ((repeat constructor); done))))) | (with_reducible apply And.intro) | (with_reducible exact trivial) | omega | (simp only [List.length_map, List.length_cons, List.length_nil] at *; omega) | (show _ = true; first | rfl | kernel_rfl))
  all_goals ((first | apply ret_mk [] | apply end_mk []); (· ((try simp only [CC, EE, QQ, seval]) <;> rfl)); (· ((try simp only [CC, EE, QQ, seval]) <;> repeat' (first | (with_reducible apply And.intro) | rfl | trivial | (exact ⟨_, rfl⟩) | (exact ⟨_, _, _, rfl⟩) | (simp [*, he]; done) | (simp [*, he]; omega) | (simp_all [he]; done) | (simp_all [he]; omega)))); all_goals (first | trivial | decide | ((try simp only [CC, EE, QQ, seval]) <;> repeat' (first | (with_reducible apply And.intro) | (exact ⟨_, rfl, rfl, rfl⟩) | (exact ⟨_, _, _, rfl⟩) | (exact ⟨_, rfl⟩) | trivial | rfl | (simp; done)))))
theorem equalSets (a b : List PSet) (ha : a.length ≤ 17592186044416) (hb : b.length ≤ 17592186044416) (hsa : ShortS a) (hsb : ShortS b) : Does Try.prog 52 [.d (dSets a), .d (dSets b), .cl 53 []] [] (B (decide (a = b))) [] [] := by
  refine go_slices_EqualFunc_api_Set_api_Set_api_Set_api_Set rfl BxOK.nil fun cx hm0 => go_in 5000 ?_
  unfold ac_slices_EqualFunc_api_Set_api_Set_api_Set_api_Set rs_slices_EqualFunc_api_Set_api_Set_api_Set_api_Set
  repeat' (first | simp only [↓GE, PL, PP, EE, QQ, seval, List.length_map] | (simp (disch := omega) only [IntWalk.i64_in]) | (refine go_brD (fun h => ?_) (fun h => ?_)) | (refine go_gsD (by ((try simp only [EE, QQ, seval]) <;> rfl)) (fun h => ?_) (fun h => ?_)) | (refine go_br (fun h => ?_) (fun h => ?_)) | (refine go_gs (by ((try simp only [EE, QQ, seval]) <;> rfl)) (fun h => ?_) (fun h => ?_)) | (with_reducible apply And.intro) | (with_reducible exact trivial) | omega | (simp only [List.length_map, List.length_cons, List.length_nil] at *; omega) | (show _ = true; first | rfl | kernel_rfl))
  · have hv : decide (a = b) = false := decide_eq_false fun e => by subst e; simp at h
    ((first | apply ret_mk [] | apply end_mk []); (· ((try simp only [CC, EE, QQ, seval]) <;> rfl)); (· ((try simp only [CC, EE, QQ, seval]) <;> repeat' (first | (with_reducible apply And.intro) | rfl | trivial | (exact ⟨_, rfl⟩) | (exact ⟨_, _, _, rfl⟩) | (simp [*, hv]; done) | (simp [*, hv]; omega) | (simp_all [hv]; done) | (simp_all [hv]; omega)))); all_goals (first | trivial | decide | ((try simp only [CC, EE, QQ, seval]) <;> repeat' (first | (with_reducible apply And.intro) | (exact ⟨_, rfl, rfl, rfl⟩) | (exact ⟨_, _, _, rfl⟩) | (exact ⟨_, rfl⟩) | trivial | rfl | (simp; done)))))
  have hl : a.length = b.length := by simp at h; omega
  refine go_loop 5000 hm0 (ι := {k : Nat // k ≤ a.length ∧ ∀ j, j < k → a.getD j noSet = b.getD j noSet}) (fun i => [(0, .d (dSets a)), (1, .d (dSets b)), (6, B false), (16, I a.length), (17, I i.1), (2, .cl 53 []), (15, .d (dSets a))]) (fun i => []) (fun i => a.length - i.1) [] ⟨0, by omega, fun j h => by omega⟩ ?_ ?_
  · (simp only [GeS]; refine ⟨?_, ?_, ?_, ?_⟩; all_goals (repeat' (first | trivial | (with_reducible rfl) | simp only [CC, EE, QQ, seval] | (with_reducible apply And.intro) | rfl | (refine ⟨_, rfl, ?_⟩) | (simp; done) | omega)))
  · rintro ⟨k, hk, hv⟩
    by_cases hkl : k < a.length
    · have hs := getD_map eSet [] noSet a k hkl
      have hs' := getD_map eSet [] noSet b k (by omega)
      have hq := same1 _ _ (hsa _ (mem_getD noSet a k hkl)) (hsb _ (mem_getD noSet b k (by omega)))
      repeat' (first | simp only [↓GE, PL, PP, EE, QQ, seval, hs, hs', eSet] | (simp (disch := omega) only [IntWalk.i64_in]) | (refine go_brD (fun h => ?_) (fun h => ?_)) | (refine go_gsD (by ((try simp only [EE, QQ, seval]) <;> rfl)) (fun h => ?_) (fun h => ?_)) | (refine go_br (fun h => ?_) (fun h => ?_)) | (refine go_gs (by ((try simp only [EE, QQ, seval]) <;> rfl)) (fun h => ?_) (fun h => ?_)) | (apply go_callv 5000 (hq) rfl (by kernel_rfl) rfl; (· ((try simp only [CC, EE, QQ, seval]) <;> (first | rfl | ((repeat constructor); done)))); (· exact CallForm.plain rfl); (· ((try simp only [CC, EE, QQ, seval]) <;> (first | rfl | ((repeat constructor); done)))); (· ((try simp only [CC, EE, QQ, seval]) <;> (first | rfl | ((repeat constructor); done))))) | (with_reducible apply And.intro) | (with_reducible exact trivial) | omega | (simp only [List.length_map, List.length_cons, List.length_nil] at *; omega) | (show _ = true; first | rfl | kernel_rfl))
      · have hv' : decide (a = b) = false := decide_eq_false fun e => by subst e; simp at h
        ((first | apply ret_mk [] | apply end_mk []); (· ((try simp only [CC, EE, QQ, seval]) <;> rfl)); (· ((try simp only [CC, EE, QQ, seval]) <;> repeat' (first | (with_reducible apply And.intro) | rfl | trivial | (exact ⟨_, rfl⟩) | (exact ⟨_, _, _, rfl⟩) | (simp [*, hv']; done) | (simp [*, hv']; omega) | (simp_all [hv']; done) | (simp_all [hv']; omega)))); all_goals (first | trivial | decide | ((try simp only [CC, EE, QQ, seval]) <;> repeat' (first | (with_reducible apply And.intro) | (exact ⟨_, rfl, rfl, rfl⟩) | (exact ⟨_, _, _, rfl⟩) | (exact ⟨_, rfl⟩) | trivial | rfl | (simp; done)))))
      · refine ⟨⟨k + 1, hkl, fun j hj => ?_⟩, ?_, by simp only; omega⟩
        · by_cases e : j = k
          · subst e; simpa using h
          · exact hv j (by omega)
        (simp only [GeS]; refine ⟨?_, ?_, ?_, ?_⟩; all_goals (repeat' (first | trivial | (with_reducible rfl) | simp only [CC, EE, QQ, seval] | (with_reducible apply And.intro) | rfl | (refine ⟨_, rfl, ?_⟩) | (simp; done) | omega)))
    · have : k = a.length := by omega
      subst this
      have hv' : decide (a = b) = true := decide_eq_true ((eq_iff_get noSet a b hl).2 hv)
      repeat' (first | simp only [↓GE, PL, PP, EE, QQ, seval] | (simp (disch := omega) only [IntWalk.i64_in]) | (refine go_brD (fun h => ?_) (fun h => ?_)) | (refine go_gsD (by ((try simp only [EE, QQ, seval]) <;> rfl)) (fun h => ?_) (fun h => ?_)) | (refine go_br (fun h => ?_) (fun h => ?_)) | (refine go_gs (by ((try simp only [EE, QQ, seval]) <;> rfl)) (fun h => ?_) (fun h => ?_)) | (with_reducible apply And.intro) | (with_reducible exact trivial) | omega | (simp only [List.length_map, List.length_cons, List.length_nil] at *; omega) | (show _ = true; first | rfl | kernel_rfl))
      all_goals ((first | apply ret_mk [] | apply end_mk []); (· ((try simp only [CC, EE, QQ, seval]) <;> rfl)); (· ((try simp only [CC, EE, QQ, seval]) <;> repeat' (first | (with_reducible apply And.intro) | rfl | trivial | (exact ⟨_, rfl⟩) | (exact ⟨_, _, _, rfl⟩) | (simp [*, hv']; done) | (simp [*, hv']; omega) | (simp_all [hv']; done) | (simp_all [hv']; omega)))); all_goals (first | trivial | decide | ((try simp only [CC, EE, QQ, seval]) <;> repeat' (first | (with_reducible apply And.intro) | (exact ⟨_, rfl, rfl, rfl⟩) | (exact ⟨_, _, _, rfl⟩) | (exact ⟨_, rfl⟩) | trivial | rfl | (simp; done)))))
end Go.Proofs.Ytpliidhbfjjofaa.Sim
