/- Reckoning in a field; a list added to another one. -/
import Derived.Test.YtilkjcobkdjlkaaPkC
import Derived.Test.YtilkjcobkdjlkaaAcsH
namespace Go.Proofs.Ytilkjcobkdjlkaa.Sim
open Go
set_option maxRecDepth 100000
set_option maxHeartbeats 4000000
set_option linter.unusedVariables false
set_option linter.unusedSimpArgs false
attribute [local irreducible] Go Mean
theorem mul_in {p a b : Int} (hp : 1 ≤ p) (hp2 : p ≤ 65521) (ha : 0 ≤ a ∧ a < p) (hb : 0 ≤ b ∧ b < p) : 0 ≤ a * b ∧ a * b ≤ 4293001441 := by
  refine ⟨Int.mul_nonneg ha.1 hb.1, ?_⟩
  have : a * b ≤ 65521 * 65521 := Int.mul_le_mul (by omega) (by omega) hb.1 (by omega)
  omega
theorem fmul (p a b : Int) (hp : 1 ≤ p) (hp2 : p ≤ 65521) (ha : 0 ≤ a ∧ a < p) (hb : 0 ≤ b ∧ b < p) : Does Try.prog 100 [I p, I a, I b] [] (I (a * b % p)) [] [] := by
  refine go_residue_Field_Mul rfl BxOK.nil fun cx hm0 => go_in 5000 ?_
  unfold ac_residue_Field_Mul rs_residue_Field_Mul
  have h := mul_in hp hp2 ha hb
  have w : IntKind.i64.wrap (a * b) = a * b := IntWalk.i64_in _ (by omega)
  have w2 : IntKind.i64.wrap p = p := IntWalk.i64_in _ (by omega)
  have e : (a * b).tmod p = a * b % p := Int.tmod_eq_emod_of_nonneg h.1
  repeat' (first | simp (maxSteps := 9999999) only [↓GE, PL, PP, EE, QQ, seval, w, w2, e] | (simp (disch := omega) only [IntWalk.i64_in]) | (refine go_brD (fun h => ?_) (fun h => ?_)) | (refine go_gsD (by ((try simp only [EE, QQ, seval]) <;> rfl)) (fun h => ?_) (fun h => ?_)) | (refine go_br (fun h => ?_) (fun h => ?_)) | (refine go_gs (by ((try simp only [EE, QQ, seval]) <;> rfl)) (fun h => ?_) (fun h => ?_)) | (with_reducible apply And.intro) | (with_reducible exact trivial) | omega | (simp only [List.length_map, List.length_cons, List.length_nil] at *; omega) | (show _ = true; first | rfl | kernel_rfl))
  all_goals ((first | apply ret_mk [] | apply end_mk []); (· ((try simp only [CC, LL, EE, QQ, seval]) <;> rfl)); (· ((try simp only [CC, LL, EE, QQ, seval]) <;> repeat' (first | (with_reducible apply And.intro) | rfl | trivial | (exact ⟨_, rfl⟩) | (exact ⟨_, _, _, rfl⟩) | (simp [*, ]; done) | (simp [*, ]; omega) | (simp_all []; done) | (simp_all []; omega)))); all_goals (first | trivial | decide | ((try simp only [CC, LL, EE, QQ, seval]) <;> repeat' (first | (with_reducible apply And.intro) | (exact ⟨_, rfl, rfl, rfl⟩) | (exact ⟨_, _, _, rfl⟩) | (exact ⟨_, rfl⟩) | trivial | rfl | (simp; done)))))
theorem fadd (p a b : Int) (hp : 1 ≤ p) (hp2 : p ≤ 65521) (ha : 0 ≤ a ∧ a < p) (hb : 0 ≤ b ∧ b < p) : Does Try.prog 114 [I p, I a, I b] [] (I ((a + b) % p)) [] [] := by
  refine go_residue_Field_Add rfl BxOK.nil fun cx hm0 => go_in 5000 ?_
  unfold ac_residue_Field_Add rs_residue_Field_Add
  have w : IntKind.i64.wrap (a + b) = a + b := IntWalk.i64_in _ (by omega)
  have w2 : IntKind.i64.wrap p = p := IntWalk.i64_in _ (by omega)
  have e : (a + b).tmod p = (a + b) % p := Int.tmod_eq_emod_of_nonneg (by omega)
  repeat' (first | simp (maxSteps := 9999999) only [↓GE, PL, PP, EE, QQ, seval, w, w2, e] | (simp (disch := omega) only [IntWalk.i64_in]) | (refine go_brD (fun h => ?_) (fun h => ?_)) | (refine go_gsD (by ((try simp only [EE, QQ, seval]) <;> rfl)) (fun h => ?_) (fun h => ?_)) | (refine go_br (fun h => ?_) (fun h => ?_)) | (refine go_gs (by ((try simp only [EE, QQ, seval]) <;> rfl)) (fun h => ?_) (fun h => ?_)) | (with_reducible apply And.intro) | (with_reducible exact trivial) | omega | (simp only [List.length_map, List.length_cons, List.length_nil] at *; omega) | (show _ = true; first | rfl | kernel_rfl))
  all_goals ((first | apply ret_mk [] | apply end_mk []); (· ((try simp only [CC, LL, EE, QQ, seval]) <;> rfl)); (· ((try simp only [CC, LL, EE, QQ, seval]) <;> repeat' (first | (with_reducible apply And.intro) | rfl | trivial | (exact ⟨_, rfl⟩) | (exact ⟨_, _, _, rfl⟩) | (simp [*, ]; done) | (simp [*, ]; omega) | (simp_all []; done) | (simp_all []; omega)))); all_goals (first | trivial | decide | ((try simp only [CC, LL, EE, QQ, seval]) <;> repeat' (first | (with_reducible apply And.intro) | (exact ⟨_, rfl, rfl, rfl⟩) | (exact ⟨_, _, _, rfl⟩) | (exact ⟨_, rfl⟩) | trivial | rfl | (simp; done)))))
/-- A list and another one times a number. -/
def addStep (p x : Int) (tl0 r : List Int) (k : Nat) : List Int := (List.range tl0.length).map fun i => if i < k then (tl0.getD i 0 + x * r.getD i 0 % p) % p else tl0.getD i 0
theorem addStep_len {p x : Int} {tl0 r : List Int} {k : Nat} : (addStep p x tl0 r k).length = tl0.length := by simp [addStep]
theorem addStep_get {p x : Int} {tl0 r : List Int} {k i : Nat} (h : i < tl0.length) : (addStep p x tl0 r k).getD i 0 = if i < k then (tl0.getD i 0 + x * r.getD i 0 % p) % p else tl0.getD i 0 := by
  simp [addStep, List.getD_eq_getElem?_getD, h]
theorem addStep_next {p x : Int} {tl0 r : List Int} {k : Nat} (h : k < tl0.length) : (addStep p x tl0 r k).set k ((tl0.getD k 0 + x * r.getD k 0 % p) % p) = addStep p x tl0 r (k + 1) := by
  apply List.ext_getElem (by simp [addStep])
  intro i h1 h2
  simp only [addStep, List.getElem_set, List.getElem_map, List.getElem_range]
  by_cases e : k = i
  · subst e; simp
  · rw [if_neg e]
    by_cases h3 : i < k
    · rw [if_pos h3, if_pos (by omega)]
    · rw [if_neg h3, if_neg (by omega)]
theorem addStep_zero {p x : Int} {tl0 r : List Int} : addStep p x tl0 r 0 = tl0 := by
  apply List.ext_getElem (by simp [addStep])
  intro i h1 h2
  simp [addStep, List.getD_eq_getElem?_getD, h2]
theorem addTimes (p x : Int) (tl0 r : List Int) (hp : 1 ≤ p) (hp2 : p ≤ 65521) (hx : 0 ≤ x ∧ x < p) (ht : ∀ i, i < tl0.length → 0 ≤ tl0.getD i 0 ∧ tl0.getD i 0 < p) (hr : ∀ i, i < r.length → 0 ≤ r.getD i 0 ∧ r.getD i 0 < p) (hl : r.length ≤ tl0.length) (hb : r.length ≤ 1000000) : Does Try.prog 96 [I p, .og 900000 0, I x, .d (dInts r)] [(900000, .arr 0 1 true (tl0.map eI))] (.tu []) [(900000, .arr 0 1 true ((addStep p x tl0 r r.length).map eI))] [] := by
  refine go_residue_Field_AddTimes rfl ⟨rfl, by simp⟩ fun cx hm0 => go_in 5000 ?_
  unfold ac_residue_Field_AddTimes rs_residue_Field_AddTimes
  repeat' (first | simp (maxSteps := 9999999) only [↓GE, PL, PP, EE, QQ, seval, List.length_map] | (simp (disch := omega) only [IntWalk.i64_in]) | (refine go_brD (fun h => ?_) (fun h => ?_)) | (refine go_gsD (by ((try simp only [EE, QQ, seval]) <;> rfl)) (fun h => ?_) (fun h => ?_)) | (refine go_br (fun h => ?_) (fun h => ?_)) | (refine go_gs (by ((try simp only [EE, QQ, seval]) <;> rfl)) (fun h => ?_) (fun h => ?_)) | (with_reducible apply And.intro) | (with_reducible exact trivial) | omega | (simp only [List.length_map, List.length_cons, List.length_nil] at *; omega) | (show _ = true; first | rfl | kernel_rfl))
  refine go_loop 5000 hm0 (ι := {k : Nat // k ≤ r.length}) (fun i => [(0, I p), (1, .og 900000 0), (2, I x), (10, .d (dInts r)), (11, I r.length), (12, I i.1)]) (fun i => [(900000, .arr 0 1 true ((addStep p x tl0 r i.1).map eI))]) (fun i => r.length - i.1) [] ⟨0, Nat.zero_le _⟩ ?_ ?_
  · (simp only [GeS]; refine ⟨?_, ?_, ?_, ?_⟩; all_goals (repeat' (first | trivial | (with_reducible rfl) | simp only [CC, LL, EE, QQ, seval] | (with_reducible apply And.intro) | rfl | (refine ⟨_, rfl, ?_⟩) | (simp [addStep_zero]; done) | omega)))
  · rintro ⟨k, hk⟩
    simp only
    by_cases hkr : k < r.length
    · have hs1 := getD_map eI [] 0 r k hkr
      have hs2 := getD_map eI [] 0 (addStep p x tl0 r k) k (by rw [addStep_len]; omega)
      rw [addStep_get (by omega), if_neg (by omega)] at hs2
      have hn := addStep_next (p := p) (x := x) (r := r) (show k < tl0.length by omega)
      have h1 := ht k (by omega)
      have h2 := hr k hkr
      have qk : k < (addStep p x tl0 r k).length := by rw [addStep_len]; omega
      generalize tl0.getD k 0 = a at *
      generalize r.getD k 0 = b at *
      have e1 := fmul p x b hp hp2 hx h2
      have e2 := fadd p a (x * b % p) hp hp2 h1 ⟨Int.emod_nonneg _ (by omega), Int.emod_lt_of_pos _ (by omega)⟩
      repeat' (first | simp (maxSteps := 9999999) only [↓GE, PL, PP, EE, QQ, seval, hs1, hs2, qk, eI, List.length_map] | (simp (disch := omega) only [IntWalk.i64_in]) | (refine go_brD (fun h => ?_) (fun h => ?_)) | (refine go_gsD (by ((try simp only [EE, QQ, seval]) <;> rfl)) (fun h => ?_) (fun h => ?_)) | (refine go_br (fun h => ?_) (fun h => ?_)) | (refine go_gs (by ((try simp only [EE, QQ, seval]) <;> rfl)) (fun h => ?_) (fun h => ?_)) | (apply go_call 5000 (e1) rfl rfl; (· ((try simp only [CC, LL, NM, EE, QQ, seval]) <;> (first | rfl | ((repeat constructor); done)))); (· exact CallForm.plain rfl); (· ((try simp only [CC, LL, NM, EE, QQ, seval]) <;> (first | rfl | ((repeat constructor); done)))); (· ((try simp only [CC, LL, NM, EE, QQ, seval]) <;> (first | rfl | ((repeat constructor); done))))) | (apply go_call 5000 (e2) rfl rfl; (· ((try simp only [CC, LL, NM, EE, QQ, seval]) <;> (first | rfl | ((repeat constructor); done)))); (· exact CallForm.plain rfl); (· ((try simp only [CC, LL, NM, EE, QQ, seval]) <;> (first | rfl | ((repeat constructor); done)))); (· ((try simp only [CC, LL, NM, EE, QQ, seval]) <;> (first | rfl | ((repeat constructor); done))))) | (with_reducible apply And.intro) | (with_reducible exact trivial) | omega | (simp only [List.length_map, List.length_cons, List.length_nil] at *; omega) | (show _ = true; first | rfl | kernel_rfl))
      refine ⟨⟨k + 1, hkr⟩, ?_, by simp only; omega⟩
      (simp only [GeS]; refine ⟨?_, ?_, ?_, ?_⟩; all_goals (repeat' (first | trivial | (with_reducible rfl) | simp only [CC, LL, EE, QQ, seval] | (with_reducible apply And.intro) | rfl | (refine ⟨_, rfl, ?_⟩) | (simp [← hn, List.map_set, eI]; done) | omega)))
    · obtain rfl : k = r.length := by omega
      repeat' (first | simp (maxSteps := 9999999) only [↓GE, PL, PP, EE, QQ, seval] | (simp (disch := omega) only [IntWalk.i64_in]) | (refine go_brD (fun h => ?_) (fun h => ?_)) | (refine go_gsD (by ((try simp only [EE, QQ, seval]) <;> rfl)) (fun h => ?_) (fun h => ?_)) | (refine go_br (fun h => ?_) (fun h => ?_)) | (refine go_gs (by ((try simp only [EE, QQ, seval]) <;> rfl)) (fun h => ?_) (fun h => ?_)) | (with_reducible apply And.intro) | (with_reducible exact trivial) | omega | (simp only [List.length_map, List.length_cons, List.length_nil] at *; omega) | (show _ = true; first | rfl | kernel_rfl))
      all_goals ((first | apply ret_mk [] | apply end_mk []); (· ((try simp only [CC, LL, EE, QQ, seval]) <;> rfl)); (· ((try simp only [CC, LL, EE, QQ, seval]) <;> repeat' (first | (with_reducible apply And.intro) | rfl | trivial | (exact ⟨_, rfl⟩) | (exact ⟨_, _, _, rfl⟩) | (simp [*, ]; done) | (simp [*, ]; omega) | (simp_all []; done) | (simp_all []; omega)))); all_goals (first | trivial | decide | ((try simp only [CC, LL, EE, QQ, seval]) <;> repeat' (first | (with_reducible apply And.intro) | (exact ⟨_, rfl, rfl, rfl⟩) | (exact ⟨_, _, _, rfl⟩) | (exact ⟨_, rfl⟩) | trivial | rfl | (simp; done)))))
end Go.Proofs.Ytilkjcobkdjlkaa.Sim
