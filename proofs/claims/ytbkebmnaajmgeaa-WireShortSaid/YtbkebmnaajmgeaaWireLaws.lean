/- What is read back of the bytes of a number, in plain terms. -/
import Derived.Test.YtbkebmnaajmgeaaWirePlain
namespace Go.Proofs.Ytbkebmnaajmgeaa.Wire
open Go Go.RowKit
set_option linter.unusedVariables false

theorem zz_unzz (u : Nat) : zz (unzz u) = u := by
  unfold unzz zz
  split <;> split <;> omega
theorem unzz_zz (n : Int) : unzz (zz n) = n := by
  unfold unzz zz
  split <;> split <;> omega
theorem unzz_i64 {u : Nat} (h : u < 18446744073709551616) : -9223372036854775808 ≤ unzz u ∧ unzz u ≤ 9223372036854775807 := by
  unfold unzz
  split <;> omega

theorem pow_bounds {k : Nat} (hk : k ≤ 9) : 1 ≤ 128 ^ k ∧ (k < 9 → 128 ^ k * 128 ≤ 128 ^ 9) := by
  refine ⟨Nat.pos_of_ne_zero (by simp), fun h => ?_⟩
  rw [← Nat.pow_succ]
  exact Nat.pow_le_pow_right (by decide) (by omega)

theorem acc_bound {acc j b : Nat} (hj : j ≤ 9) (h9 : j = 9 → b ≤ 1) (h : acc < 128 ^ j) : acc + b % 128 * 128 ^ j < 18446744073709551616 := by
  by_cases h' : j = 9
  · have := h9 h'
    subst h'
    have : b % 128 ≤ 1 := by omega
    have h2 : b % 128 * 128 ^ 9 ≤ 1 * 128 ^ 9 := Nat.mul_le_mul_right _ this
    omega
  · have h1 := acc_lt (b := b) h
    have h2 : 128 ^ (j + 1) ≤ 128 ^ 9 := Nat.pow_le_pow_right (by decide) (by omega)
    omega

/-- Bytes that are read are the ones of their number. -/
theorem rd_sound : ∀ (l : List UInt8) (k acc : Nat) (x : Int) (j : Nat), k ≤ 9 → acc < 128 ^ k → rd k acc l = (x, j, 0) →
    ∃ v, x = unzz (acc + v * 128 ^ k) ∧ acc + v * 128 ^ k < 18446744073709551616 ∧ l.take (j - k) = vb v ∧ k < j ∧ j ≤ 10 ∧ j - k ≤ l.length ∧ (0 < k → 0 < v)
  | [], k, acc, x, j, hk, ha, h => by simp [rd] at h
  | b :: r, k, acc, x, j, hk, ha, h => by
    have hb := b.toNat_lt
    by_cases hf : k = 9 ∧ 1 < b.toNat ∨ 0 < k ∧ b.toNat = 0
    · rw [rd, if_pos hf] at h; simp at h
    · rw [rd, if_neg hf] at h
      by_cases hlt : b.toNat < 128
      · rw [if_pos hlt] at h
        simp only [Prod.mk.injEq, and_true] at h
        obtain ⟨rfl, rfl⟩ := h
        have hu := acc_bound (b := b.toNat) hk (by omega) ha
        rw [Nat.mod_eq_of_lt hlt] at hu
        refine ⟨b.toNat, rfl, hu, ?_, by omega, by omega, by simp, by omega⟩
        rw [vb_small (by omega), show k + 1 - k = 1 by omega]
        simp
      · rw [if_neg hlt] at h
        have hk9 : k ≠ 9 := by omega
        obtain ⟨v, hx, hu, ht, h1, h2, h3, h4⟩ := rd_sound r (k + 1) _ x j (by omega) (acc_lt ha) h
        have hv := h4 (by omega)
        have e1 : acc + b.toNat % 128 * 128 ^ k + v * 128 ^ (k + 1) = acc + (b.toNat % 128 + 128 * v) * 128 ^ k := by
          rw [Nat.pow_succ, Nat.add_mul, Nat.mul_comm 128 v, Nat.mul_assoc, Nat.mul_comm (128 ^ k) 128]; omega
        rw [e1] at hx hu
        refine ⟨b.toNat % 128 + 128 * v, hx, hu, ?_, by omega, h2, by simp; omega, by omega⟩
        rw [vb_big (by omega), show (b.toNat % 128 + 128 * v) % 128 + 128 = b.toNat by omega, show (b.toNat % 128 + 128 * v) / 128 = v by omega, ← ht, show j - k = (j - (k + 1)) + 1 by omega]
        simp

/-- What was put is read, whatever stands behind it. -/
theorem rd_put : ∀ (f v k acc : Nat) (r : List UInt8), v < f → k ≤ 9 → acc < 128 ^ k → acc + v * 128 ^ k < 18446744073709551616 → (0 < k → 0 < v) →
    rd k acc (vb v ++ r) = (unzz (acc + v * 128 ^ k), k + (vb v).length, 0)
  | 0, v, k, acc, r, hf, _, _, _, _ => by omega
  | f + 1, v, k, acc, r, hf, hk, ha, hu, hv => by
    have hp := pow_bounds hk
    have h9 : k = 9 → v ≤ 1 := fun h => by subst h; omega
    by_cases hlt : 127 < v
    · have hk9 : k < 9 := by
        rcases Nat.lt_or_ge k 9 with h | h
        · exact h
        · have := h9 (by omega); omega
      have hn : (UInt8.ofNat (v % 128 + 128)).toNat = v % 128 + 128 := by simp; omega
      rw [vb_big hlt, List.cons_append, rd, hn, if_neg (by omega), if_neg (by omega)]
      have e1 : acc + (v % 128 + 128) % 128 * 128 ^ k + v / 128 * 128 ^ (k + 1) = acc + v * 128 ^ k := by
        have e2 : (v % 128 + 128) % 128 = v % 128 := by omega
        have e3 : v = v % 128 + v / 128 * 128 := by omega
        rw [e2, Nat.pow_succ, Nat.mul_comm (128 ^ k) 128, ← Nat.mul_assoc, Nat.add_assoc, ← Nat.add_mul, ← e3]
      rw [rd_put f (v / 128) (k + 1) _ r (by omega) (by omega) (acc_lt ha) (by rw [e1]; exact hu) (by omega), e1]
      simp; omega
    · have hn : (UInt8.ofNat v).toNat = v := by simp; omega
      rw [vb_small hlt, List.singleton_append, rd, hn, if_neg (by omega), if_pos (by omega)]
      simp

theorem getI_put {n : Int} (h0 : -9223372036854775808 ≤ n) (h1 : n ≤ 9223372036854775807) (pre r : List UInt8) :
    getI (pre ++ (putB n ++ r)) pre.length = (n, ((pre.length + (putB n).length : Nat) : Int), 0) := by
  unfold getI
  rw [if_neg (by simp; omega), Int.toNat_natCast, List.drop_left, putB, rd_put (zz n + 1) (zz n) 0 0 r (by omega) (by omega) (by decide) (by simp; exact zz_lt h0 h1) (by omega)]
  simp [unzz_zz]

theorem getI_sound {s : List UInt8} {a : Nat} {x k : Int} (h : getI s a = (x, k, 0)) :
    ∃ j : Nat, k = a + j ∧ 1 ≤ j ∧ j ≤ 10 ∧ a + j ≤ s.length ∧ (s.drop a).take j = putB x ∧ -9223372036854775808 ≤ x ∧ x ≤ 9223372036854775807 := by
  unfold getI at h
  by_cases hr : (a : Int) < 0 ∨ (s.length : Int) < a
  · rw [if_pos hr] at h; simp at h
  · rw [if_neg hr, Int.toNat_natCast] at h
    rcases hrd : rd 0 0 (s.drop a) with ⟨x', j, e⟩
    rw [hrd] at h
    cases e with
    | succ e => simp at h; omega
    | zero =>
      simp only [Prod.mk.injEq, and_true] at h
      obtain ⟨rfl, rfl⟩ := h
      obtain ⟨v, hx, hu, ht, h1, h2, h3, _⟩ := rd_sound _ 0 0 x' j (by omega) (by decide) hrd
      simp at hx hu ht h3
      refine ⟨j, rfl, by omega, h2, by omega, ?_, ?_⟩
      · rw [ht, putB, hx, zz_unzz]
      · rw [hx]; exact unzz_i64 hu

/-- The bytes of no number begin with those of another one. -/
theorem put_prefix {m n : Int} (m0 : -9223372036854775808 ≤ m) (m1 : m ≤ 9223372036854775807) (n0 : -9223372036854775808 ≤ n) (n1 : n ≤ 9223372036854775807)
    (h : (putB n).take (putB m).length = putB m) : m = n := by
  have e : putB n = putB m ++ (putB n).drop (putB m).length := by
    conv => lhs; rw [← List.take_append_drop (putB m).length (putB n), h]
  have h1 := getI_put n0 n1 [] []
  have h2 := getI_put m0 m1 [] ((putB n).drop (putB m).length)
  rw [← e] at h2
  simp only [List.append_nil, List.nil_append] at h1 h2
  rw [h1] at h2
  simp only [Prod.mk.injEq] at h2
  exact h2.1.symm
end Go.Proofs.Ytbkebmnaajmgeaa.Wire
