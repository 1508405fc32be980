/- The elements of a valid field: sums, differences, products, powers and inverses of package residue. -/
import Derived.Test.YthbhkkdaaipngaaGreatDoorMFieldOf
import Derived.Laws.BitsAllLaws
namespace Go.Proofs.YthbhkkdaaipngaaGreatDoor.Field
open Go Go.RowKit
set_option linter.unusedVariables false

def hasB (p a : Int) : Bool := decide (0 ≤ a ∧ a < p)

theorem pHas_any (p a : Int) (w : World) : Calls Tryz.prog 39 #[.int .i64 p, .int .i64 a] w fun e w' => e = .returned (.bool (hasB p a)) ∧ w = w' := by
  by_cases h0 : 0 ≤ a
  · by_cases h1 : a < p
    · have hb : hasB p a = true := by unfold hasB; simp [h0, h1]
      rw [hb]
      clear hb
      go_enter Tryz.func39, Tryz.ntmps39
      go_wp2_with fail
      go_ret
      exact ⟨rfl, rfl⟩
    · have hb : hasB p a = false := by unfold hasB; simp [h1]
      rw [hb]
      clear hb
      go_enter Tryz.func39, Tryz.ntmps39
      go_wp2_with fail
      go_ret
      exact ⟨rfl, rfl⟩
  · have hb : hasB p a = false := by unfold hasB; simp [h0]
    rw [hb]
    clear hb
    go_enter Tryz.func39, Tryz.ntmps39
    go_wp2_with fail
    go_ret
    exact ⟨rfl, rfl⟩

theorem pAdd_any (p a b : Int) (w : World) (hp : 1 ≤ p) (hp1 : p ≤ 65521) (a0 : 0 ≤ a) (a1 : a < p) (b0 : 0 ≤ b) (b1 : b < p) :
    Calls Tryz.prog 56 #[.int .i64 p, .int .i64 a, .int .i64 b] w fun e w' => e = .returned (.int .i64 ((a + b) % p)) ∧ w = w' := by
  go_enter Tryz.func56, Tryz.ntmps56
  go_wp2_with fail
  go_ret
  exact ⟨rfl, rfl⟩
theorem mul_bound {p a b : Int} (hp1 : p ≤ 65521) (a0 : 0 ≤ a) (a1 : a < p) (b0 : 0 ≤ b) (b1 : b < p) : 0 ≤ a * b ∧ a * b ≤ 4293001441 := by
  have h1 : a * b ≤ 65521 * 65521 := Int.mul_le_mul (by omega) (by omega) b0 (by decide)
  exact ⟨Int.mul_nonneg a0 b0, by omega⟩
theorem pMul_any (p a b : Int) (w : World) (hp : 1 ≤ p) (hp1 : p ≤ 65521) (a0 : 0 ≤ a) (a1 : a < p) (b0 : 0 ≤ b) (b1 : b < p) :
    Calls Tryz.prog 57 #[.int .i64 p, .int .i64 a, .int .i64 b] w fun e w' => e = .returned (.int .i64 (a * b % p)) ∧ w = w' := by
  obtain ⟨h1, h2⟩ := mul_bound hp1 a0 a1 b0 b1
  go_enter Tryz.func57, Tryz.ntmps57
  go_wp2_with fail
  go_ret
  exact ⟨rfl, rfl⟩

def ERel (p a : Nat) (w : World) (gk : Nat) (v5 v6 v7 v8 : Value) (wr : World) : Prop :=
  ∃ (r : Nat) (x y : Int), v5 = .int .i64 r ∧ v6 = .int .i64 gk ∧ v7 = .int .i64 x ∧ v8 = .int .i64 y ∧ Eu p a r gk x y ∧ wr = w

theorem pInverse_any (p a : Nat) (w : World) (hp : isP p) (hp1 : p ≤ 65521) (h0 : 0 < a) (h1 : a < p) :
    Calls Tryz.prog 97 #[.int .i64 p, .int .i64 a] w fun e w' => e = .returned (.int .i64 ((a ^ (p - 2) % p : Nat) : Int)) ∧ w = w' := by
  have hp2 := hp.1
  have HP := Lib.hid hp
  clear hp
  go_enter Tryz.func97, Tryz.ntmps97
  go_wp2_with fail
  go_loopg [5, 6, 7, 8] a (fun gk v5 v6 v7 v8 wr => ERel p a w gk v5 v6 v7 v8 wr)
  case atStart => exact ⟨p, 0, 1, rfl, rfl, rfl, rfl, Eu.start HP.out h0 h1, rfl⟩
  case round =>
    obtain ⟨r, x, y, rfl, rfl, rfl, rfl, he, rfl⟩ := hrel
    have hyb := he.yb.1
    have hxb := he.xb
    have hrb := he.rb
    have hlt := he.lt
    have hqb := he.qb
    by_cases hs : 0 < gk
    · have hst := he.step hs
      have hd : (r : Int) - ((r / gk : Nat) : Int) * gk = ((r % gk : Nat) : Int) := by
        have := Nat.div_add_mod r gk
        rw [Nat.mul_comm] at this
        have e : (r : Int) = ((r / gk : Nat) : Int) * gk + ((r % gk : Nat) : Int) := by exact_mod_cast this.symm
        omega
      have hml := Nat.mod_lt r hs
      have hyy := hst.yb.1
      have hq1 : (((r / gk : Nat) : Int) * y).natAbs ≤ p := by rw [Int.natAbs_mul, Int.natAbs_natCast]; exact hqb
      have hq2 : -65521 ≤ ((r / gk : Nat) : Int) * y ∧ ((r / gk : Nat) : Int) * y ≤ 65521 := by
        generalize ((r / gk : Nat) : Int) * y = z at *
        omega
      have HQ := Lib.hid hq2
      clear hq1 hq2
      have HD := Lib.hid hd
      have HST := Lib.hid hst
      clear hd hst he hqb
      have hq0 : ((gk : Int) != 0) = true := by simp; omega
      go_wp2_with fail
      have e1 : wrap64 ((r : Int) / (gk : Int)) = ((r / gk : Nat) : Int) := by
        rw [← Int.natCast_ediv]
        have hdl := Nat.div_le_self r gk
        generalize r / gk = q at hdl ⊢
        exact IntWalk.wrap64_in _ (by omega)
      have e2 : wrap64 (((r / gk : Nat) : Int) * (gk : Int)) = ((r / gk : Nat) : Int) * (gk : Int) := IntWalk.wrap64_in _ (by have := HD.out; omega)
      have e3 : wrap64 ((r : Int) - ((r / gk : Nat) : Int) * (gk : Int)) = ((r % gk : Nat) : Int) := by rw [HD.out]; exact IntWalk.wrap64_in _ (by omega)
      have hq2 := HQ.out
      have hdd := HD.out
      have e4 : wrap64 (((r / gk : Nat) : Int) * y) = ((r / gk : Nat) : Int) * y := IntWalk.wrap64_in _ (by omega)
      have e5 : wrap64 (x - ((r / gk : Nat) : Int) * y) = x - ((r / gk : Nat) : Int) * y := IntWalk.wrap64_in _ (by omega)
      go_roundg (r % gk)
      case measure => exact hml
      case rel => exact ⟨gk, y, x - ((r / gk : Nat) : Int) * y, rfl, by rw [e1, e2, e3], rfl, by rw [e1, e4, e5], HST.out, rfl⟩
    · obtain rfl : gk = 0 := by omega
      have hdone := he.done HP.out h0 h1
      have ht := tmod_fix x (p := (p : Int)) (by omega)
      have hr := tmod_range x (p := (p : Int)) (by omega)
      obtain ⟨hr1, hr2⟩ := hr
      have HT := Lib.hid ht
      clear he ht
      go_wp2_with fail
      go_ret
      exact ⟨by rw [← hdone, ← HT.out]; rfl, rfl⟩
end Go.Proofs.YthbhkkdaaipngaaGreatDoor.Field
