/- The elements of a valid field: sums, differences, products, powers and inverses of package residue. -/
import Derived.Test.YtihhncejiahdcacFieldOf
import Derived.Laws.BitsAllLaws
namespace Go.Proofs.Ytihhncejiahdcac.Field
open Go Go.RowKit
set_option linter.unusedVariables false

def hasB (p a : Int) : Bool := decide (0 ≤ a ∧ a < p)

theorem pHas_any (p a : Int) (w : World) : Calls Try.prog 32 #[.int .i64 p, .int .i64 a] w fun e w' => e = .returned (.bool (hasB p a)) ∧ w = w' := by
  by_cases h0 : 0 ≤ a
  · by_cases h1 : a < p
    · have hb : hasB p a = true := by unfold hasB; simp [h0, h1]
      rw [hb]
      clear hb
      go_enter Try.func32, Try.ntmps32
      go_wp2_with fail
      go_ret
      exact ⟨rfl, rfl⟩
    · have hb : hasB p a = false := by unfold hasB; simp [h1]
      rw [hb]
      clear hb
      go_enter Try.func32, Try.ntmps32
      go_wp2_with fail
      go_ret
      exact ⟨rfl, rfl⟩
  · have hb : hasB p a = false := by unfold hasB; simp [h0]
    rw [hb]
    clear hb
    go_enter Try.func32, Try.ntmps32
    go_wp2_with fail
    go_ret
    exact ⟨rfl, rfl⟩

theorem pAdd_any (p a b : Int) (w : World) (hp : 1 ≤ p) (hp1 : p ≤ 65521) (a0 : 0 ≤ a) (a1 : a < p) (b0 : 0 ≤ b) (b1 : b < p) :
    Calls Try.prog 36 #[.int .i64 p, .int .i64 a, .int .i64 b] w fun e w' => e = .returned (.int .i64 ((a + b) % p)) ∧ w = w' := by
  go_enter Try.func36, Try.ntmps36
  go_wp2_with fail
  go_ret
  exact ⟨rfl, rfl⟩
theorem pSub_any (p a b : Int) (w : World) (hp : 1 ≤ p) (hp1 : p ≤ 65521) (a0 : 0 ≤ a) (a1 : a < p) (b0 : 0 ≤ b) (b1 : b < p) :
    Calls Try.prog 37 #[.int .i64 p, .int .i64 a, .int .i64 b] w fun e w' => e = .returned (.int .i64 ((a - b + p) % p)) ∧ w = w' := by
  go_enter Try.func37, Try.ntmps37
  go_wp2_with fail
  go_ret
  exact ⟨rfl, rfl⟩
theorem mul_bound {p a b : Int} (hp1 : p ≤ 65521) (a0 : 0 ≤ a) (a1 : a < p) (b0 : 0 ≤ b) (b1 : b < p) : 0 ≤ a * b ∧ a * b ≤ 4293001441 := by
  have h1 : a * b ≤ 65521 * 65521 := Int.mul_le_mul (by omega) (by omega) b0 (by decide)
  exact ⟨Int.mul_nonneg a0 b0, by omega⟩
theorem pMul_any (p a b : Int) (w : World) (hp : 1 ≤ p) (hp1 : p ≤ 65521) (a0 : 0 ≤ a) (a1 : a < p) (b0 : 0 ≤ b) (b1 : b < p) :
    Calls Try.prog 35 #[.int .i64 p, .int .i64 a, .int .i64 b] w fun e w' => e = .returned (.int .i64 (a * b % p)) ∧ w = w' := by
  obtain ⟨h1, h2⟩ := mul_bound hp1 a0 a1 b0 b1
  go_enter Try.func35, Try.ntmps35
  go_wp2_with fail
  go_ret
  exact ⟨rfl, rfl⟩

theorem and1_i64 (a : Nat) (ha : a < 9223372036854775808) : bits .and .i64 (a : Int) 1 = ((a % 2 : Nat) : Int) := by
  have hx : (BitVec.ofInt 64 (a : Int)).toNat = a := by rw [BitVec.ofInt_natCast, BitVec.toNat_ofNat]; exact Nat.mod_eq_of_lt (by omega)
  show IntKind.i64.wrap ((BitVec.ofInt 64 (a : Int) &&& BitVec.ofInt 64 1).toNat : Int) = _
  rw [BitVec.toNat_and, hx, show (BitVec.ofInt 64 1).toNat = 1 by decide, nat_mask1, IntKind.wrap_i64]
  omega

def PRel (p a n : Nat) (w : World) (gk : Nat) (v1 v2 v7 : Value) (wr : World) : Prop :=
  ∃ x b : Nat, v7 = .int .i64 x ∧ v1 = .int .i64 b ∧ v2 = .int .i64 gk ∧ x < p ∧ b < p ∧ gk < 9223372036854775808 ∧ x * b ^ gk % p = a ^ n % p ∧ wr = w

theorem pPower_any (p a n : Nat) (w : World) (hp : 2 ≤ p) (hp1 : p ≤ 65521) (ha : a < p) (hn : n < 9223372036854775808) :
    Calls Try.prog 33 #[.int .i64 p, .int .i64 a, .int .i64 n] w fun e w' => e = .returned (.int .i64 ((a ^ n % p : Nat) : Int)) ∧ w = w' := by
  go_enter Try.func33, Try.ntmps33
  go_wp2_with fail
  go_loopg [1, 2, 7] n (fun gk v1 v2 v7 wr => PRel p a n w gk v1 v2 v7 wr)
  case atStart => exact ⟨1, a, rfl, rfl, rfl, by omega, ha, hn, by rw [Nat.one_mul], rfl⟩
  case round =>
    obtain ⟨x, b, rfl, rfl, rfl, hx, hb, hg, he, rfl⟩ := hrel
    have He := Lib.hid he
    clear he
    have ha1 := and1_i64 gk hg
    by_cases h0 : 0 < gk
    · by_cases h1 : gk % 2 = 1
      · have hq : (bits .and .i64 (gk : Int) 1 == 1) = true := by rw [ha1, h1]; rfl
        have ho := pow_step_odd (p := p) (x := x) (a := b) h1
        have Ho := Lib.hid ho
        clear ha1 h1 ho
        go_wp2_with fail
        refine (pMul_any _ _ _ _ (by omega) (by omega) (by omega) (by omega) (by omega) (by omega)).mono ?_
        rintro e w' ⟨rfl, rfl⟩
        go_wp2_with fail
        refine (pMul_any _ _ _ _ (by omega) (by omega) (by omega) (by omega) (by omega) (by omega)).mono ?_
        rintro e w' ⟨rfl, rfl⟩
        go_wp2_with fail
        go_roundg (gk / 2)
        case measure => omega
        case rel => exact ⟨x * b % p, b * b % p, by simp, by simp, by simp, Nat.mod_lt _ (by omega), Nat.mod_lt _ (by omega), by omega, by rw [Ho.out, He.out], rfl⟩
      · have hq : (bits .and .i64 (gk : Int) 1 == 1) = false := by rw [ha1, show gk % 2 = 0 by omega]; rfl
        have ho := pow_step_even (p := p) (x := x) (a := b) (m := gk) (by omega)
        have Ho := Lib.hid ho
        clear ha1 h1 ho
        go_wp2_with fail
        refine (pMul_any _ _ _ _ (by omega) (by omega) (by omega) (by omega) (by omega) (by omega)).mono ?_
        rintro e w' ⟨rfl, rfl⟩
        go_wp2_with fail
        go_roundg (gk / 2)
        case measure => omega
        case rel => exact ⟨x, b * b % p, by simp, by simp, by simp, hx, Nat.mod_lt _ (by omega), by omega, by rw [Ho.out, He.out], rfl⟩
    · clear ha1
      obtain rfl : gk = 0 := by omega
      go_wp2_with fail
      go_ret
      have h := He.out
      rw [Nat.pow_zero, Nat.mul_one, Nat.mod_eq_of_lt hx] at h
      exact ⟨by rw [← h]; rfl, rfl⟩

def ERel (p a : Nat) (w : World) (gk : Nat) (v5 v6 v7 v8 : Value) (wr : World) : Prop :=
  ∃ (r : Nat) (x y : Int), v5 = .int .i64 r ∧ v6 = .int .i64 gk ∧ v7 = .int .i64 x ∧ v8 = .int .i64 y ∧ Eu p a r gk x y ∧ wr = w

theorem pInverse_any (p a : Nat) (w : World) (hp : isP p) (hp1 : p ≤ 65521) (h0 : 0 < a) (h1 : a < p) :
    Calls Try.prog 34 #[.int .i64 p, .int .i64 a] w fun e w' => e = .returned (.int .i64 ((a ^ (p - 2) % p : Nat) : Int)) ∧ w = w' := by
  have hp2 := hp.1
  have HP := Lib.hid hp
  clear hp
  go_enter Try.func34, Try.ntmps34
  go_wp2_with fail
  go_loopg [5, 6, 7, 8] a (fun gk v5 v6 v7 v8 wr => ERel p a w gk v5 v6 v7 v8 wr)
  case atStart => exact ⟨p, 0, 1, rfl, rfl, rfl, rfl, Eu.start HP.out h0 h1, rfl⟩
  case round =>
    obtain ⟨r, x, y, rfl, rfl, rfl, rfl, he, rfl⟩ := hrel
    have hyb := he.yb.1
    have hxb := he.xb
    have hrb := he.rb
    have hlt := he.lt
    have hqb := he.qb
    by_cases hs : 0 < gk
    · have hst := he.step hs
      have hd : (r : Int) - ((r / gk : Nat) : Int) * gk = ((r % gk : Nat) : Int) := by
        have := Nat.div_add_mod r gk
        rw [Nat.mul_comm] at this
        have e : (r : Int) = ((r / gk : Nat) : Int) * gk + ((r % gk : Nat) : Int) := by exact_mod_cast this.symm
        omega
      have hml := Nat.mod_lt r hs
      have hyy := hst.yb.1
      have hq1 : (((r / gk : Nat) : Int) * y).natAbs ≤ p := by rw [Int.natAbs_mul, Int.natAbs_natCast]; exact hqb
      have hq2 : -65521 ≤ ((r / gk : Nat) : Int) * y ∧ ((r / gk : Nat) : Int) * y ≤ 65521 := by
        generalize ((r / gk : Nat) : Int) * y = z at *
        omega
      have HQ := Lib.hid hq2
      clear hq1 hq2
      have HD := Lib.hid hd
      have HST := Lib.hid hst
      clear hd hst he hqb
      have hq0 : ((gk : Int) != 0) = true := by simp; omega
      go_wp2_with fail
      have e1 : wrap64 ((r : Int) / (gk : Int)) = ((r / gk : Nat) : Int) := by
        rw [← Int.natCast_ediv]
        have hdl := Nat.div_le_self r gk
        generalize r / gk = q at hdl ⊢
        exact IntWalk.wrap64_in _ (by omega)
      have e2 : wrap64 (((r / gk : Nat) : Int) * (gk : Int)) = ((r / gk : Nat) : Int) * (gk : Int) := IntWalk.wrap64_in _ (by have := HD.out; omega)
      have e3 : wrap64 ((r : Int) - ((r / gk : Nat) : Int) * (gk : Int)) = ((r % gk : Nat) : Int) := by rw [HD.out]; exact IntWalk.wrap64_in _ (by omega)
      have hq2 := HQ.out
      have hdd := HD.out
      have e4 : wrap64 (((r / gk : Nat) : Int) * y) = ((r / gk : Nat) : Int) * y := IntWalk.wrap64_in _ (by omega)
      have e5 : wrap64 (x - ((r / gk : Nat) : Int) * y) = x - ((r / gk : Nat) : Int) * y := IntWalk.wrap64_in _ (by omega)
      go_roundg (r % gk)
      case measure => exact hml
      case rel => exact ⟨gk, y, x - ((r / gk : Nat) : Int) * y, rfl, by rw [e1, e2, e3], rfl, by rw [e1, e4, e5], HST.out, rfl⟩
    · obtain rfl : gk = 0 := by omega
      have hdone := he.done HP.out h0 h1
      have ht := tmod_fix x (p := (p : Int)) (by omega)
      have hr := tmod_range x (p := (p : Int)) (by omega)
      obtain ⟨hr1, hr2⟩ := hr
      have HT := Lib.hid ht
      clear he ht
      go_wp2_with fail
      go_ret
      exact ⟨by rw [← hdone, ← HT.out]; rfl, rfl⟩
end Go.Proofs.Ytihhncejiahdcac.Field
