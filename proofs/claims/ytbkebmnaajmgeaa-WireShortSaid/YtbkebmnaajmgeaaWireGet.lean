import Derived.Test.YtbkebmnaajmgeaaWirePlain
import Derived.Test.YtbkebmnaajmgeaaRows
import Derived.WalkKit
import Derived.WalkSpells
import Derived.WalkLawsBesides
import Derived.Outline
import Derived.Deep.DeepFit
import Derived.OwnWalk
import Derived.Below
import Derived.Lib.Hide
import Derived.Laws.BytesArg
import Derived.Deep.LoopGhost
namespace Go.Proofs.Ytbkebmnaajmgeaa.Wire
open Go Go.RowKit
set_option linter.unusedVariables false

def IntRel (s : List UInt8) (a : Nat) (w : World) (gk : Nat) (u k : Value) (wr : World) : Prop :=
  ∃ (acc j : Nat), wr = w ∧ gk + j = 10 ∧ u = .int .u64 acc ∧ k = .int .i64 j ∧ j ≤ 9 ∧ a + j ≤ s.length ∧ acc < 128 ^ j ∧ rd 0 0 (s.drop a) = rd j acc (s.drop (a + j))

def IntPost (s : List UInt8) (a : Int) (w : World) (e : Ending) (w' : World) : Prop :=
  e = .returned (.tuple #[.int .i64 (getI s a).1, .int .i64 (getI s a).2.1, .int .i64 (getI s a).2.2]) ∧ w = w'



theorem drop_at {l : List UInt8} {i : Nat} (h : i < l.length) : l.drop i = l[i] :: l.drop (i + 1) := List.drop_eq_getElem_cons h
theorem getI_of {s : List UInt8} {a : Nat} (h : a ≤ s.length) {x : Int} {k : Nat} (hr : rd 0 0 (s.drop a) = (x, k, 0)) : getI s a = (x, ((a + k : Nat) : Int), 0) := by
  unfold getI
  rw [if_neg (by omega), Int.toNat_natCast, hr]
  show (x, (a : Int) + (k : Int), (0 : Int)) = _
  simp
theorem getI_bad {s : List UInt8} {a : Nat} (h : a ≤ s.length) {x : Int} {k e : Nat} (hr : rd 0 0 (s.drop a) = (x, k, e + 1)) : getI s a = (0, 0, ((e + 1 : Nat) : Int)) := by
  unfold getI
  rw [if_neg (by omega), Int.toNat_natCast, hr]
  rfl

theorem rd_form {k acc : Nat} {b : UInt8} {r : List UInt8} (h : k = 9 ∧ 1 < b.toNat ∨ 0 < k ∧ b.toNat = 0) : rd k acc (b :: r) = (0, 0, 2) := by
  rw [rd, if_pos h]
theorem rd_end {k acc : Nat} {b : UInt8} {r : List UInt8} (h : ¬ (k = 9 ∧ 1 < b.toNat ∨ 0 < k ∧ b.toNat = 0)) (hb : b.toNat < 128) : rd k acc (b :: r) = (unzz (acc + b.toNat % 128 * 128 ^ k), k + 1, 0) := by
  rw [rd, if_neg h, if_pos hb, Nat.mod_eq_of_lt hb]
theorem rd_on {k acc : Nat} {b : UInt8} {r : List UInt8} (h : ¬ (k = 9 ∧ 1 < b.toNat ∨ 0 < k ∧ b.toNat = 0)) (hb : ¬ b.toNat < 128) : rd k acc (b :: r) = rd (k + 1) (acc + b.toNat % 128 * 128 ^ k) r := by
  rw [rd, if_neg h, if_neg hb]

theorem acc_u64 {acc j b : Nat} (hj : j ≤ 9) (h9 : j = 9 → b ≤ 1) (h : acc < 128 ^ j) : acc + b % 128 * 128 ^ j < 18446744073709551616 := by
  by_cases h' : j = 9
  · have := h9 h'
    subst h'
    have : b % 128 ≤ 1 := by omega
    have h2 : b % 128 * 128 ^ 9 ≤ 1 * 128 ^ 9 := Nat.mul_le_mul_right _ this
    omega
  · have h1 := acc_lt (b := b) h
    have h2 : 128 ^ (j + 1) ≤ 128 ^ 9 := Nat.pow_le_pow_right (by decide) (by omega)
    omega
theorem close_form {s : List UInt8} {a j acc : Nat} {w : World} (h1 : a ≤ s.length) (hlt : a + j < s.length) (hr : rd 0 0 (s.drop a) = rd j acc (s.drop (a + j)))
    (hf : j = 9 ∧ 1 < s[a + j].toNat ∨ 0 < j ∧ s[a + j].toNat = 0) : IntPost s a w (.returned (.tuple #[.int .i64 0, .int .i64 0, .int .i64 2])) w := by
  unfold IntPost
  rw [getI_bad h1 (x := 0) (k := 0) (e := 1) (by rw [hr, drop_at hlt, rd_form hf])]
  exact ⟨rfl, rfl⟩
theorem close_end {s : List UInt8} {a j acc : Nat} {w : World} (h1 : a ≤ s.length) (hlt : a + j < s.length) (hj : j ≤ 9) (hacc : acc < 128 ^ j) (hr : rd 0 0 (s.drop a) = rd j acc (s.drop (a + j)))
    (hf : ¬ (j = 9 ∧ 1 < s[a + j].toNat ∨ 0 < j ∧ s[a + j].toNat = 0)) (hb : s[a + j].toNat < 128) :
    IntPost s a w (.returned (.tuple #[.int .i64 (bits .xor .i64 (wrap64 (bits .or .u64 (acc : Int) (IntKind.u64.wrap (IntKind.u64.wrap (bits .and .u8 (s[a + j].toNat : Int) 127) * 2 ^ (7 * j))) / 2)) (wrap64 (-wrap64 (bits .and .u64 (bits .or .u64 (acc : Int) (IntKind.u64.wrap (IntKind.u64.wrap (bits .and .u8 (s[a + j].toNat : Int) 127) * 2 ^ (7 * j)))) 1)))), .int .i64 ((a : Int) + j + 1), .int .i64 0])) w := by
  unfold IntPost
  have hlt' := s[a + j].toNat_lt
  rw [or_walk hj hlt' (by omega) hacc, unzz_walk (acc_u64 hj (by omega) hacc), getI_of h1 (by rw [hr, drop_at hlt, rd_end hf hb])]
  exact ⟨rfl, rfl⟩
theorem close_on {s : List UInt8} {a j acc gk' : Nat} {w : World} (hg : gk' + (j + 1) = 10) (hlt : a + j < s.length) (hj : j ≤ 9) (hacc : acc < 128 ^ j) (hr : rd 0 0 (s.drop a) = rd j acc (s.drop (a + j)))
    (hf : ¬ (j = 9 ∧ 1 < s[a + j].toNat ∨ 0 < j ∧ s[a + j].toNat = 0)) (hb : ¬ s[a + j].toNat < 128) (h9 : ¬ j = 9) :
    IntRel s a w gk' (.int .u64 (bits .or .u64 (acc : Int) (IntKind.u64.wrap (IntKind.u64.wrap (bits .and .u8 (s[a + j].toNat : Int) 127) * 2 ^ (7 * j))))) (.int .i64 ((j : Int) + 1)) w := by
  have hlt' := s[a + j].toNat_lt
  rw [or_walk hj hlt' (by omega) hacc]
  exact ⟨_, j + 1, rfl, hg, rfl, by simp, by omega, by omega, acc_lt hacc, by rw [hr, drop_at hlt, rd_on hf hb]; rfl⟩

set_option maxRecDepth 100000 in
theorem wInt_in (s : List UInt8) (a : Nat) (w : World) (h1 : a ≤ s.length) (hs : s.length ≤ 2 ^ 62) :
    Calls Try.prog 8 #[.string ⟨s.toArray⟩, .int .i64 a] w (IntPost s a w) := by
  have hA : decide ((a : Int) < 0) = false := by simp
  have hB : decide (s.length < a) = false := by simp; omega
  go_enter Try.func8, Try.ntmps8
  go_wp2
  go_loopg [7, 8, 9] 10 (fun gk u k b wr => IntRel s a w gk u k wr)
  case atStart => exact ⟨0, 0, rfl, rfl, rfl, rfl, by omega, by omega, by decide, rfl⟩
  case round =>
    obtain ⟨acc, j, rfl, hg, rfl, rfl, hj, ha, hacc, hrd⟩ := hrel
    have Hrd := Lib.hid hrd
    clear hrd
    by_cases hlt : a + j < s.length
    · by_cases hj9 : j = 9
      · subst hj9
        go_wp2
        · go_ret3
          have h : 1 < (s[a + 9].toNat : Int) ∨ ((s[a + 9].toNat : Int) == 0) = true := by assumption
          exact close_form h1 hlt Hrd.out (by simp at h; omega)
        · go_ret3
          have h2 : (s[a + 9].toNat : Int) ≤ 1 ∧ ((s[a + 9].toNat : Int) == 0) = false := by assumption
          have h3 : (s[a + 9].toNat : Int) < 128 := by assumption
          exact close_end h1 hlt hj hacc Hrd.out (by simp at h2; omega) (by omega)
        · go_ret3
          have h : 1 < (s[a + 9].toNat : Int) := by assumption
          exact close_form h1 hlt Hrd.out (by omega)
      · by_cases hjp : j < 1
        · go_wp2
          · go_ret3
            have h3 : (s[a + j].toNat : Int) < 128 := by assumption
            exact close_end h1 hlt hj hacc Hrd.out (by omega) (by omega)
          · have h3 : 128 ≤ (s[a + j].toNat : Int) := by assumption
            go_roundg (gk - 1)
            case measure => omega
            case rel => exact close_on (by omega) hlt hj hacc Hrd.out (by omega) (by omega) hj9
        · have hjp : 0 < j := by omega
          go_wp2
          · go_ret3
            have h : ((s[a + j].toNat : Int) == 0) = true := by assumption
            exact close_form h1 hlt Hrd.out (by simp at h; omega)
          · go_ret3
            have h2 : ((s[a + j].toNat : Int) == 0) = false := by assumption
            have h3 : (s[a + j].toNat : Int) < 128 := by assumption
            exact close_end h1 hlt hj hacc Hrd.out (by simp at h2; omega) (by omega)
          · have h2 : ((s[a + j].toNat : Int) == 0) = false := by assumption
            have h3 : 128 ≤ (s[a + j].toNat : Int) := by assumption
            go_roundg (gk - 1)
            case measure => omega
            case rel => exact close_on (by omega) hlt hj hacc Hrd.out (by simp at h2; omega) (by omega) hj9
    · go_wp2
      go_ret3
      refine ⟨?_, rfl⟩
      rw [getI_bad h1 (x := 0) (k := 0) (e := 2) (by rw [Hrd.out, List.drop_eq_nil_of_le (by omega), rd])]
      rfl
theorem wInt_out (s : List UInt8) (a : Int) (w : World) (h1 : a < 0 ∨ (s.length : Int) < a) (hs : s.length ≤ 2 ^ 62) :
    Calls Try.prog 8 #[.string ⟨s.toArray⟩, .int .i64 a] w (IntPost s a w) := by
  have hg : getI s a = (0, 0, 1) := by unfold getI; rw [if_pos h1]
  rcases Int.lt_or_le a 0 with h | h
  · go_enter Try.func8, Try.ntmps8
    go_wp2
    go_ret3
    exact ⟨by rw [hg]; rfl, rfl⟩
  · have h2 : (s.length : Int) < a := by omega
    go_enter Try.func8, Try.ntmps8
    go_wp2
    go_ret3
    exact ⟨by rw [hg]; rfl, rfl⟩

theorem wInt_any (s : List UInt8) (a : Int) (w : World) (hs : s.length ≤ 2 ^ 62) :
    Calls Try.prog 8 #[.string ⟨s.toArray⟩, .int .i64 a] w (IntPost s a w) := by
  by_cases h : a < 0 ∨ (s.length : Int) < a
  · exact wInt_out s a w h hs
  · obtain ⟨n, rfl⟩ := Int.eq_ofNat_of_zero_le (show 0 ≤ a by omega)
    exact wInt_in s n w (by omega) hs
end Go.Proofs.Ytbkebmnaajmgeaa.Wire
