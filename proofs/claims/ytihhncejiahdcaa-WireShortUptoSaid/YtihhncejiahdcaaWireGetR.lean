import Derived.Test.YtihhncejiahdcaaWireGet
import Derived.Test.YtihhncejiahdcaaRows
import Derived.WalkKit
import Derived.WalkSpells
import Derived.WalkLawsBesides
import Derived.Outline
import Derived.Deep.DeepFit
import Derived.OwnWalk
import Derived.Below
import Derived.Lib.Hide
import Derived.Laws.BytesArg
import Derived.Deep.LoopGhost
namespace Go.Proofs.Ytihhncejiahdcaa.Wire
open Go Go.RowKit
set_option linter.unusedVariables false


theorem pow9 {j : Nat} (h : j = 9) : (9223372036854775808 : Int) = 2 ^ (7 * j) := by subst h; decide
theorem close_endR {s : List UInt8} {a j acc : Nat} {w : World} (B P J : Int) (h1 : a ≤ s.length) (hlt : a + j < s.length) (hj : j ≤ 9) (hacc : acc < 128 ^ j) (hr : rd 0 0 (s.drop a) = rd j acc (s.drop (a + j)))
    (hf : ¬ (j = 9 ∧ 1 < s[a + j].toNat ∨ 0 < j ∧ s[a + j].toNat = 0)) (hb : s[a + j].toNat < 128) (hB : B = (s[a + j].toNat : Int)) (hP : P = 2 ^ (7 * j)) (hJ : J = j)
    (ht : (bits .and .u64 (bits .or .u64 (acc : Int) (IntKind.u64.wrap (IntKind.u64.wrap (bits .and .u8 B 127) * P))) 1 == 1) = false) :
    IntPost s a w (.returned (.tuple #[.int .i64 (wrap64 (bits .or .u64 (acc : Int) (IntKind.u64.wrap (IntKind.u64.wrap (bits .and .u8 B 127) * P)) / 2)), .int .i64 ((a : Int) + J + 1), .int .i64 0])) w := by
  subst hB hP hJ
  have hlt' := s[a + j].toNat_lt
  have hu := acc_u64 (b := s[a + j].toNat) hj (by omega) hacc
  unfold IntPost
  rw [or_walk hj hlt' (by omega) hacc] at ht ⊢
  rw [unzz_even hu ht, getI_of h1 (by rw [hr, drop_at hlt, rd_end hf hb])]
  exact ⟨rfl, rfl⟩
theorem close_endR' {s : List UInt8} {a j acc : Nat} {w : World} (B P J : Int) (h1 : a ≤ s.length) (hlt : a + j < s.length) (hj : j ≤ 9) (hacc : acc < 128 ^ j) (hr : rd 0 0 (s.drop a) = rd j acc (s.drop (a + j)))
    (hf : ¬ (j = 9 ∧ 1 < s[a + j].toNat ∨ 0 < j ∧ s[a + j].toNat = 0)) (hb : s[a + j].toNat < 128) (hB : B = (s[a + j].toNat : Int)) (hP : P = 2 ^ (7 * j)) (hJ : J = j)
    (ht : (bits .and .u64 (bits .or .u64 (acc : Int) (IntKind.u64.wrap (IntKind.u64.wrap (bits .and .u8 B 127) * P))) 1 == 1) = true) :
    IntPost s a w (.returned (.tuple #[.int .i64 (wrap64 (wrap64 (-wrap64 (bits .or .u64 (acc : Int) (IntKind.u64.wrap (IntKind.u64.wrap (bits .and .u8 B 127) * P)) / 2)) - 1)), .int .i64 ((a : Int) + J + 1), .int .i64 0])) w := by
  subst hB hP hJ
  have hlt' := s[a + j].toNat_lt
  have hu := acc_u64 (b := s[a + j].toNat) hj (by omega) hacc
  unfold IntPost
  rw [or_walk hj hlt' (by omega) hacc] at ht ⊢
  rw [unzz_odd hu ht, getI_of h1 (by rw [hr, drop_at hlt, rd_end hf hb])]
  exact ⟨rfl, rfl⟩

set_option maxRecDepth 100000 in
theorem rInt_in (s : List UInt8) (a : Nat) (w : World) (h1 : a ≤ s.length) (hs : s.length ≤ 2 ^ 62) :
    Calls Try.prog 12 #[.string ⟨s.toArray⟩, .int .i64 a] w (IntPost s a w) := by
  have hA : decide ((a : Int) < 0) = false := by simp
  have hB : decide (s.length < a) = false := by simp; omega
  go_enter Try.func12, Try.ntmps12
  go_wp2
  go_loopg [7, 8, 9, 10] 10 (fun gk u k b n wr => IntRel s a w gk u k wr)
  case atStart => exact ⟨0, 0, rfl, rfl, rfl, rfl, by omega, by omega, by decide, rfl⟩
  case round =>
    obtain ⟨acc, j, rfl, hg, rfl, rfl, hj, ha, hacc, hrd⟩ := hrel
    have Hrd := Lib.hid hrd
    clear hrd
    by_cases hlt : a + j < s.length
    · by_cases hj9 : 9 ≤ j
      · go_wp2
        · go_ret3
          have h : 1 < (s[a + j].toNat : Int) := by assumption
          exact close_form h1 hlt Hrd.out (by omega)
        · go_ret3
          have h : s[a + j].toNat = 0 := by assumption
          exact close_form h1 hlt Hrd.out (by omega)
        · go_ret3
          have h0 : ¬ s[a + j].toNat = 0 := by assumption
          have h2 : (s[a + j].toNat : Int) ≤ 1 := by assumption
          have h3 : (s[a + j].toNat : Int) ≤ 127 := by assumption
          exact close_endR' _ 9223372036854775808 9 h1 hlt hj hacc Hrd.out (by omega) (by omega) rfl (pow9 (by omega)) (by omega) (by assumption)
        · go_ret3
          have h0 : ¬ s[a + j].toNat = 0 := by assumption
          have h2 : (s[a + j].toNat : Int) ≤ 1 := by assumption
          have h3 : (s[a + j].toNat : Int) ≤ 127 := by assumption
          exact close_endR _ 9223372036854775808 9 h1 hlt hj hacc Hrd.out (by omega) (by omega) rfl (pow9 (by omega)) (by omega) (by assumption)
      · by_cases hjp : j < 1
        · go_wp2
          · have h3 : 127 < (s[a + j].toNat : Int) := by assumption
            go_roundg (gk - 1)
            case measure => omega
            case rel => exact close_on (by omega) hlt hj hacc Hrd.out (by omega) (by omega) (by omega)
          · go_ret3
            have h0 : s[a + j].toNat = 0 := by assumption
            exact close_endR' 0 _ _ h1 hlt hj hacc Hrd.out (by omega) (by omega) (by omega) rfl rfl (by assumption)
          · go_ret3
            have h0 : s[a + j].toNat = 0 := by assumption
            exact close_endR 0 _ _ h1 hlt hj hacc Hrd.out (by omega) (by omega) (by omega) rfl rfl (by assumption)
          · go_ret3
            have h0 : ¬ s[a + j].toNat = 0 := by assumption
            have h3 : (s[a + j].toNat : Int) ≤ 127 := by assumption
            exact close_endR' _ _ _ h1 hlt hj hacc Hrd.out (by omega) (by omega) rfl rfl rfl (by assumption)
          · go_ret3
            have h0 : ¬ s[a + j].toNat = 0 := by assumption
            have h3 : (s[a + j].toNat : Int) ≤ 127 := by assumption
            exact close_endR _ _ _ h1 hlt hj hacc Hrd.out (by omega) (by omega) rfl rfl rfl (by assumption)
        · have hjp : 0 < j := by omega
          go_wp2
          · have h3 : 127 < (s[a + j].toNat : Int) := by assumption
            go_roundg (gk - 1)
            case measure => omega
            case rel => exact close_on (by omega) hlt hj hacc Hrd.out (by omega) (by omega) (by omega)
          · go_ret3
            have h0 : s[a + j].toNat = 0 := by assumption
            exact close_form h1 hlt Hrd.out (by omega)
          · go_ret3
            have h0 : ¬ s[a + j].toNat = 0 := by assumption
            have h3 : (s[a + j].toNat : Int) ≤ 127 := by assumption
            exact close_endR' _ _ _ h1 hlt hj hacc Hrd.out (by omega) (by omega) rfl rfl rfl (by assumption)
          · go_ret3
            have h0 : ¬ s[a + j].toNat = 0 := by assumption
            have h3 : (s[a + j].toNat : Int) ≤ 127 := by assumption
            exact close_endR _ _ _ h1 hlt hj hacc Hrd.out (by omega) (by omega) rfl rfl rfl (by assumption)
    · go_wp2
      go_ret3
      refine ⟨?_, rfl⟩
      rw [getI_bad h1 (x := 0) (k := 0) (e := 2) (by rw [Hrd.out, List.drop_eq_nil_of_le (by omega), rd])]
      rfl
theorem rInt_out (s : List UInt8) (a : Int) (w : World) (h1 : a < 0 ∨ (s.length : Int) < a) (hs : s.length ≤ 2 ^ 62) :
    Calls Try.prog 12 #[.string ⟨s.toArray⟩, .int .i64 a] w (IntPost s a w) := by
  have hg : getI s a = (0, 0, 1) := by unfold getI; rw [if_pos h1]
  rcases Int.lt_or_le a 0 with h | h
  · go_enter Try.func12, Try.ntmps12
    go_wp2
    go_ret3
    exact ⟨by rw [hg]; rfl, rfl⟩
  · have h2 : (s.length : Int) < a := by omega
    go_enter Try.func12, Try.ntmps12
    go_wp2
    go_ret3
    exact ⟨by rw [hg]; rfl, rfl⟩

theorem rInt_any (s : List UInt8) (a : Int) (w : World) (hs : s.length ≤ 2 ^ 62) :
    Calls Try.prog 12 #[.string ⟨s.toArray⟩, .int .i64 a] w (IntPost s a w) := by
  by_cases h : a < 0 ∨ (s.length : Int) < a
  · exact rInt_out s a w h hs
  · obtain ⟨n, rfl⟩ := Int.eq_ofNat_of_zero_le (show 0 ≤ a by omega)
    exact rInt_in s n w (by omega) hs
end Go.Proofs.Ytihhncejiahdcaa.Wire
