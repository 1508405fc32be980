/- The bytes of a number (groups of seven bits, the lowest first), in plain Lean: no program in sight. -/
import Derived.Laws.Concat
import Derived.Laws.Bits64b
import Derived.Laws.BitsAllLaws
import Derived.Lib.Zigzag
import Derived.IntWalk
namespace Go.Proofs.Ytbkebmnaajmgeaa.Wire
open Go Go.RowKit
set_option linter.unusedVariables false

/-- The groups of a number without a sign. -/
def vb (u : Nat) : List UInt8 := if h : 127 < u then UInt8.ofNat (u % 128 + 128) :: vb (u / 128) else [UInt8.ofNat u]
termination_by u
decreasing_by omega

/-- A number with a sign, as one without. -/
def zz (n : Int) : Nat := if 0 ≤ n then (2 * n).toNat else (-2 * n - 1).toNat

/-- The bytes of a number. -/
def putB (n : Int) : List UInt8 := vb (zz n)

theorem vb_big {u : Nat} (h : 127 < u) : vb u = UInt8.ofNat (u % 128 + 128) :: vb (u / 128) := by rw [vb]; simp [h]
theorem vb_small {u : Nat} (h : ¬ 127 < u) : vb u = [UInt8.ofNat u] := by rw [vb]; simp [h]

theorem vb_len : ∀ (k u : Nat), u < 128 ^ (k + 1) → (vb u).length ≤ k + 1 ∧ 1 ≤ (vb u).length
  | 0, u, h => by rw [vb_small (by omega)]; simp
  | k + 1, u, h => by
    by_cases hu : 127 < u
    · rw [vb_big hu]
      have h1 : u / 128 < 128 ^ (k + 1) := by
        rw [Nat.div_lt_iff_lt_mul (by decide)]; rw [Nat.pow_succ] at h; exact h
      have := vb_len k (u / 128) h1
      simp; omega
    · rw [vb_small hu]; simp

theorem zz_lt {n : Int} (h0 : -9223372036854775808 ≤ n) (h1 : n ≤ 9223372036854775807) : zz n < 18446744073709551616 := by
  unfold zz; split <;> omega

theorem putB_len {n : Int} (h0 : -9223372036854775808 ≤ n) (h1 : n ≤ 9223372036854775807) : (putB n).length ≤ 10 ∧ 1 ≤ (putB n).length := by
  have := zz_lt h0 h1
  exact vb_len 9 (zz n) (by omega)

/-- 'uint64(n)<<1 ^ uint64(n>>63)', as the walk has it. -/
theorem zz_walk {n : Int} (h0 : -9223372036854775808 ≤ n) (h1 : n ≤ 9223372036854775807) :
    bits .xor .u64 (n % 18446744073709551616 * 2 % 18446744073709551616) (n / 9223372036854775808 % 18446744073709551616) = ((zz n : Nat) : Int) := by
  have hlt := zz_lt h0 h1
  by_cases h : 0 ≤ n
  · have e1 : n % 18446744073709551616 * 2 % 18446744073709551616 = (((2 * n).toNat : Nat) : Int) := by omega
    have e2 : n / 9223372036854775808 % 18446744073709551616 = ((0 : Nat) : Int) := by omega
    rw [e1, e2, bits_xor_u64_nat _ _ (by omega) (by decide), Nat.xor_zero]
    unfold zz; rw [if_pos h]
  · have e1 : n % 18446744073709551616 * 2 % 18446744073709551616 = (((2 * n + 18446744073709551616).toNat : Nat) : Int) := by omega
    have e2 : n / 9223372036854775808 % 18446744073709551616 = ((2 ^ 64 - 1 : Nat) : Int) := by omega
    rw [e1, e2, bits_xor_u64_nat _ _ (by omega) (by decide), Nat.xor_comm, Lib.xor_ones64 _ (by omega)]
    unfold zz; rw [if_neg h]
    omega

theorem or128 : ∀ x : Nat, x < 256 → x ||| 128 = x % 128 + 128 := by decide +kernel

/-- 'byte(u) | 128', as the walk has it. -/
theorem byteBig (k : Nat) : (UInt8.ofNat (bits .or .u8 ((k : Int) % 256) 128).toNat) = UInt8.ofNat (k % 128 + 128) := by
  have e : (k : Int) % 256 = ((k % 256 : Nat) : Int) := by omega
  rw [e, show (128 : Int) = ((128 : Nat) : Int) from rfl, u8_or_nat _ _ (by omega) (by decide), or128 _ (by omega)]
  congr 1
  omega
theorem bigI (k : Nat) : bits .or .u8 ((k : Int) % 256) 128 = ((k % 128 + 128 : Nat) : Int) := by
  have e : (k : Int) % 256 = ((k % 256 : Nat) : Int) := by omega
  rw [e, show (128 : Int) = ((128 : Nat) : Int) from rfl, u8_or_nat _ _ (by omega) (by decide), or128 _ (by omega)]
  omega
/-- The number with a sign that a number without one stands for. -/
def unzz (u : Nat) : Int := if u % 2 = 0 then ((u / 2 : Nat) : Int) else -((u / 2 : Nat) : Int) - 1

/-- Reading on: k groups have been read, which make acc. The answer: the value, how many groups there were, the error. -/
def rd (k acc : Nat) : List UInt8 → Int × Nat × Nat
  | [] => (0, 0, 3)
  | b :: r =>
    if k = 9 ∧ 1 < b.toNat ∨ 0 < k ∧ b.toNat = 0 then (0, 0, 2)
    else if b.toNat < 128 then (unzz (acc + b.toNat * 128 ^ k), k + 1, 0)
    else rd (k + 1) (acc + b.toNat % 128 * 128 ^ k) r

/-- What Int answers: the value, the index behind it, the error. -/
def getI (l : List UInt8) (at_ : Int) : Int × Int × Int :=
  if at_ < 0 ∨ (l.length : Int) < at_ then (0, 0, 1)
  else match rd 0 0 (l.drop at_.toNat) with
    | (x, k, 0) => (x, at_ + k, 0)
    | (_, _, e) => (0, 0, e)

theorem acc_lt {acc j b : Nat} (h : acc < 128 ^ j) : acc + b % 128 * 128 ^ j < 128 ^ (j + 1) := by
  have h1 : b % 128 * 128 ^ j ≤ 127 * 128 ^ j := Nat.mul_le_mul_right _ (by omega)
  rw [Nat.pow_succ]
  omega

theorem pow128 (j : Nat) : (2 : Nat) ^ (7 * j) = 128 ^ j := by rw [Nat.pow_mul]

/-- 'u |= uint64(b&127) << (7*k)', as the walk has it. -/
theorem or_walk {acc j b : Nat} (hj : j ≤ 9) (hb : b < 256) (h9 : j = 9 → b ≤ 1) (h : acc < 128 ^ j) :
    bits .or .u64 (acc : Int) (IntKind.u64.wrap (IntKind.u64.wrap (bits .and .u8 (b : Int) 127) * 2 ^ (7 * j))) = ((acc + b % 128 * 128 ^ j : Nat) : Int) := by
  have ha : bits .and .u8 (b : Int) 127 = ((b % 128 : Nat) : Int) := by
    rw [show (127 : Int) = ((127 : Nat) : Int) from rfl, u8_and_nat _ _ hb (by decide), nat_mask7]
  have hw : IntKind.u64.wrap ((b % 128 : Nat) : Int) = ((b % 128 : Nat) : Int) := by rw [IntKind.wrap_u64]; omega
  have hp : ((2 : Int) ^ (7 * j)) = ((128 ^ j : Nat) : Int) := by rw [← pow128]; simp
  have hlt : b % 128 * 128 ^ j < 18446744073709551616 := by
    by_cases h' : j = 9
    · have := h9 h'
      subst h'
      have : b % 128 ≤ 1 := by omega
      have h2 : b % 128 * 128 ^ 9 ≤ 1 * 128 ^ 9 := Nat.mul_le_mul_right _ this
      omega
    · have h1 : b % 128 * 128 ^ j ≤ 127 * 128 ^ j := Nat.mul_le_mul_right _ (by omega)
      have h2 : 128 ^ j ≤ 128 ^ 8 := Nat.pow_le_pow_right (by decide) (by omega)
      omega
  have hacc : acc < 18446744073709551616 := by
    have h2 : 128 ^ j ≤ 128 ^ 9 := Nat.pow_le_pow_right (by decide) hj
    omega
  have hw2 : IntKind.u64.wrap (((b % 128 : Nat) : Int) * 2 ^ (7 * j)) = ((b % 128 * 128 ^ j : Nat) : Int) := by
    rw [hp, ← Int.natCast_mul, IntKind.wrap_u64]; omega
  rw [ha, hw, hw2, bits_or_u64_nat _ _ hacc hlt, Nat.or_comm, nat_join (7 * j) _ _ (by rw [pow128]; exact Nat.mul_mod_left _ _) (by rw [pow128]; exact h), Nat.add_comm]

/-- 'int(u>>1) ^ -int(u&1)', as the walk has it. -/
theorem unzz_walk {u : Nat} (hu : u < 18446744073709551616) :
    bits .xor .i64 (wrap64 ((u : Int) / 2)) (wrap64 (-wrap64 (bits .and .u64 (u : Int) 1))) = unzz u := by
  have ha : bits .and .u64 (u : Int) 1 = ((u % 2 : Nat) : Int) := by
    rw [show (1 : Int) = ((1 : Nat) : Int) from rfl, u64_and_nat _ _ hu (by decide), nat_mask1]
  have h2 : wrap64 ((u : Int) / 2) = ((u / 2 : Nat) : Int) := by unfold wrap64; omega
  rw [ha, h2]
  have hofx : (BitVec.ofInt 64 (((u / 2 : Nat) : Int))).toNat = u / 2 := by
    rw [BitVec.ofInt_natCast, BitVec.toNat_ofNat]; exact Nat.mod_eq_of_lt (by omega)
  unfold unzz
  by_cases h : u % 2 = 0
  · rw [if_pos h, h]
    show IntKind.i64.wrap ((BitVec.ofInt 64 (((u / 2 : Nat) : Int)) ^^^ BitVec.ofInt 64 (wrap64 (-wrap64 ((0 : Nat) : Int)))).toNat : Int) = _
    rw [BitVec.toNat_xor, hofx, show wrap64 (-wrap64 ((0 : Nat) : Int)) = 0 by unfold wrap64; omega, show (BitVec.ofInt 64 0).toNat = 0 by decide, Nat.xor_zero, IntKind.wrap_i64]
    omega
  · rw [if_neg h, show u % 2 = 1 by omega]
    show IntKind.i64.wrap ((BitVec.ofInt 64 (((u / 2 : Nat) : Int)) ^^^ BitVec.ofInt 64 (wrap64 (-wrap64 ((1 : Nat) : Int)))).toNat : Int) = _
    rw [BitVec.toNat_xor, hofx, show wrap64 (-wrap64 ((1 : Nat) : Int)) = -1 by unfold wrap64; omega, show (BitVec.ofInt 64 (-1)).toNat = 2 ^ 64 - 1 by decide, Nat.xor_comm, Lib.xor_ones64 _ (by omega), IntKind.wrap_i64]
    omega
theorem unzz_even {u : Nat} (hu : u < 18446744073709551616) (h : (bits .and .u64 (u : Int) 1 == 1) = false) : wrap64 ((u : Int) / 2) = unzz u := by
  have ha : bits .and .u64 (u : Int) 1 = ((u % 2 : Nat) : Int) := by
    rw [show (1 : Int) = ((1 : Nat) : Int) from rfl, u64_and_nat _ _ hu (by decide), nat_mask1]
  rw [ha] at h
  have h' : ¬ ((u % 2 : Nat) : Int) = 1 := by simpa using h
  unfold unzz
  rw [if_pos (by omega)]
  unfold wrap64; omega
theorem unzz_odd {u : Nat} (hu : u < 18446744073709551616) (h : (bits .and .u64 (u : Int) 1 == 1) = true) : wrap64 (wrap64 (-wrap64 ((u : Int) / 2)) - 1) = unzz u := by
  have ha : bits .and .u64 (u : Int) 1 = ((u % 2 : Nat) : Int) := by
    rw [show (1 : Int) = ((1 : Nat) : Int) from rfl, u64_and_nat _ _ hu (by decide), nat_mask1]
  rw [ha] at h
  have h' : ((u % 2 : Nat) : Int) = 1 := by simpa using h
  unfold unzz
  rw [if_neg (by omega)]
  unfold wrap64; omega
end Go.Proofs.Ytbkebmnaajmgeaa.Wire
