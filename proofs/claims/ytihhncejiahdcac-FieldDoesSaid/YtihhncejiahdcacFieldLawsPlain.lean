/- The plain laws of a field: no program in sight but the results' forms. -/
import Derived.Test.YtihhncejiahdcacFieldFns
namespace Go.Proofs.Ytihhncejiahdcac.Field
open Go Go.RowKit
set_option linter.unusedVariables false

theorem valid_list {p : Int} {d : Nat} (h2 : 2 ≤ p) (h3 : p ≤ 65521) (hd : p < (d : Int) * d) (h : ∀ e, e < d → 2 ≤ e → p % ((e : Nat) : Int) ≠ 0 ∨ p ≤ (e : Int)) : Valid p := by
  refine ⟨h2, h3, ?_⟩
  obtain ⟨q, rfl⟩ := Int.eq_ofNat_of_zero_le (show 0 ≤ p by omega)
  rw [Int.toNat_natCast]
  refine isP_of_root (by omega) fun e he hee hm => ?_
  have hed : e < d := by
    rcases Nat.lt_or_ge e d with h | h
    · exact h
    · have : d * d ≤ e * e := Nat.mul_le_mul h h
      have hd' : q < d * d := by rw [← Int.natCast_mul] at hd; omega
      omega
  rcases h e hed he with h | h
  · exact h (by rw [← Int.natCast_emod, hm]; rfl)
  · have : 2 * e ≤ e * e := Nat.mul_le_mul_right e he
    omega

theorem valid_made {p : Int} (h : p = 2 ∨ p = 3 ∨ p = 5 ∨ p = 7 ∨ p = 11 ∨ p = 13 ∨ p = 17 ∨ p = 257 ∨ p = 65521) : Valid p := by
  rcases h with rfl | rfl | rfl | rfl | rfl | rfl | rfl | rfl | rfl
  · exact valid_list (d := 2) (by decide) (by decide) (by decide) (by decide +kernel)
  · exact valid_list (d := 2) (by decide) (by decide) (by decide) (by decide +kernel)
  · exact valid_list (d := 3) (by decide) (by decide) (by decide) (by decide +kernel)
  · exact valid_list (d := 3) (by decide) (by decide) (by decide) (by decide +kernel)
  · exact valid_list (d := 4) (by decide) (by decide) (by decide) (by decide +kernel)
  · exact valid_list (d := 4) (by decide) (by decide) (by decide) (by decide +kernel)
  · exact valid_list (d := 5) (by decide) (by decide) (by decide) (by decide +kernel)
  · exact valid_list (d := 17) (by decide) (by decide) (by decide) (by decide +kernel)
  · exact valid_list (d := 256) (by decide) (by decide) (by decide) (by decide +kernel)

/-- A power of an element that is not 0. -/
def pw (P a n : Int) : Int := ((a.toNat ^ (n % (P - 1)).toNat % P.toNat : Nat) : Int)

theorem powR_unit {P a : Int} (hv : Valid P) (h0 : 1 ≤ a) (h1 : a < P) (n : Int) : powR P a n = (pw P a n, 0) := by
  have hh : hasB P a = true := by unfold hasB; simp; omega
  have hp := hv.2.2
  have hP2 := hv.1
  have hnd : ¬ P.toNat ∣ a.toNat := not_dvd (by omega) (by omega)
  have hP1 : ((P.toNat - 1 : Nat) : Int) = P - 1 := by omega
  unfold powR
  rw [if_pos ⟨hv, hh⟩]
  by_cases hn : 0 ≤ n
  · rw [if_pos hn, pow_mod_order hp hnd]
    unfold pw
    congr 5
    obtain ⟨m, rfl⟩ := Int.eq_ofNat_of_zero_le hn
    rw [← hP1, Int.toNat_natCast, ← Int.natCast_emod, Int.toNat_natCast]
  · rw [if_neg hn, if_neg (by omega)]
    unfold pw
    rw [← Nat.pow_mod, ← Nat.pow_mul, pow_mod_order hp hnd]
    congr 5
    have hneg : ((negE P n : Nat) : Int) = -(n.tmod (P - 1)) := by
      unfold negE
      have : n.tmod (P - 1) ≤ 0 := by
        have := Int.tmod_nonneg (P - 1) (show 0 ≤ -n by omega)
        rw [Int.neg_tmod] at this
        omega
      omega
    have hz : (((P.toNat - 2) * negE P n % (P.toNat - 1) : Nat) : Int) = n % (P - 1) := by
      rw [Int.natCast_emod, hP1, Int.natCast_mul, hneg, show ((P.toNat - 2 : Nat) : Int) = (P - 1) - 1 by omega]
      rw [Int.tmod_def]
      have e : (P - 1 - 1) * -(n - (P - 1) * n.tdiv (P - 1)) = n + (P - 1) * (-(n - (P - 1) * n.tdiv (P - 1)) - n.tdiv (P - 1)) := by
        generalize n.tdiv (P - 1) = q
        generalize P - 1 = r
        simp only [Int.mul_sub, Int.sub_mul, Int.mul_neg, Int.one_mul]
        omega
      rw [e, Int.add_mul_emod_self_left]
    omega

theorem pw_range {P a n : Int} (hv : Valid P) : 0 ≤ pw P a n ∧ pw P a n < P := by
  have := hv.1
  unfold pw
  have := Nat.mod_lt (a.toNat ^ (n % (P - 1)).toNat) (show 0 < P.toNat by omega)
  omega
theorem pw_add {P a : Int} (hv : Valid P) (h0 : 1 ≤ a) (h1 : a < P) (m n : Int) : pw P a m * pw P a n % P = pw P a (m + n) := by
  have hp := hv.2.2
  have hP2 := hv.1
  have hnd : ¬ P.toNat ∣ a.toNat := not_dvd (by omega) (by omega)
  have hP1 : ((P.toNat - 1 : Nat) : Int) = P - 1 := by omega
  have hm := Int.emod_nonneg m (show P - 1 ≠ 0 by omega)
  have hn := Int.emod_nonneg n (show P - 1 ≠ 0 by omega)
  have hs : ((((m % (P - 1)).toNat + (n % (P - 1)).toNat) % (P.toNat - 1) : Nat) : Int) = (m + n) % (P - 1) := by
    rw [Int.natCast_emod, hP1, Int.natCast_add, Int.toNat_of_nonneg hm, Int.toNat_of_nonneg hn, ← Int.add_emod]
  have hx : ∀ x y : Nat, ((x : Int) * (y : Int)) % P = ((x * y % P.toNat : Nat) : Int) := fun x y => by
    rw [Int.natCast_emod, Int.natCast_mul, Int.toNat_of_nonneg (show 0 ≤ P by omega)]
  unfold pw
  rw [← hs, Int.toNat_natCast, ← pow_mod_order hp hnd, Nat.pow_add, hx, ← Nat.mul_mod]
theorem pw_per {P a : Int} (m k : Int) : pw P a (m + (P - 1) * k) = pw P a m := by
  unfold pw
  rw [Int.add_mul_emod_self_left]
theorem pw_one {P a : Int} (hv : Valid P) : pw P a (P - 1) = 1 := by
  have := hv.1
  unfold pw
  rw [Int.emod_self, Int.toNat_zero, Nat.pow_zero, Nat.mod_eq_of_lt (by omega)]; rfl
theorem mulR_ok {P a b : Int} (hv : Valid P) (ha : 0 ≤ a ∧ a < P) (hb : 0 ≤ b ∧ b < P) : mulR P a b = (a * b % P, 0) := if_pos ⟨hv, by unfold hasB; simp; omega, by unfold hasB; simp; omega⟩
theorem addR_ok {P a b : Int} (hv : Valid P) (ha : 0 ≤ a ∧ a < P) (hb : 0 ≤ b ∧ b < P) : addR P a b = ((a + b) % P, 0) := if_pos ⟨hv, by unfold hasB; simp; omega, by unfold hasB; simp; omega⟩
theorem subR_ok {P a b : Int} (hv : Valid P) (ha : 0 ≤ a ∧ a < P) (hb : 0 ≤ b ∧ b < P) : subR P a b = ((a - b) % P, 0) := if_pos ⟨hv, by unfold hasB; simp; omega, by unfold hasB; simp; omega⟩
end Go.Proofs.Ytihhncejiahdcac.Field
