/- Which fields are valid: residue.Of, field.Check and the reference's Check. -/
import Derived.Test.YtihhncejiahdcacBase
import Derived.Test.YtihhncejiahdcacFieldPlain
import Derived.Test.YtihhncejiahdcacRows
namespace Go.Proofs.Ytihhncejiahdcac.Field
open Go Go.RowKit
set_option linter.unusedVariables false

/-- A field is valid. -/
def Valid (P : Int) : Prop := 2 ≤ P ∧ P ≤ 65521 ∧ isP P.toNat

theorem Valid.found {P : Int} {d : Nat} (h2 : 2 ≤ d) (hd : (d : Int) * d ≤ P) (hm : P % (d : Int) = 0) : ¬ Valid P := by
  rintro ⟨h0, h1, _, h⟩
  obtain ⟨p, rfl⟩ := Int.eq_ofNat_of_zero_le (show 0 ≤ P by omega)
  rw [Int.toNat_natCast] at h
  have hd' : d * d ≤ p := by rw [← Int.natCast_mul] at hd; omega
  have : d < p := by have := Nat.mul_le_mul_right d h2; omega
  exact h d h2 this (by have := hm; rw [← Int.natCast_emod] at this; omega)
theorem Valid.none {P : Int} {d : Nat} (h0 : 2 ≤ P) (h1 : P ≤ 65521) (hd : P < (d : Int) * d) (h : ∀ e : Nat, 2 ≤ e → e < d → P % (e : Int) ≠ 0) : Valid P := by
  refine ⟨h0, h1, ?_⟩
  obtain ⟨p, rfl⟩ := Int.eq_ofNat_of_zero_le (show 0 ≤ P by omega)
  rw [Int.toNat_natCast]
  refine isP_of_root (by omega) fun e he hee hm => ?_
  have hd' : p < d * d := by rw [← Int.natCast_mul] at hd; omega
  have : e < d := by
    rcases Nat.lt_or_ge e d with h' | h'
    · exact h'
    · have := Nat.mul_le_mul h' h'; omega
  exact h e he this (by rw [← Int.natCast_emod, hm]; rfl)

/-- What Of answers. -/
def OfPost (P : Int) (w : World) (e : Ending) (w' : World) : Prop :=
  ∃ (q : Int) (b : Bool), e = .returned (.tuple #[.int .i64 q, .bool b]) ∧ ((b = true ∧ q = P ∧ Valid P) ∨ (b = false ∧ q = 0 ∧ ¬ Valid P)) ∧ Below w.heap.size w w'
/-- Between two divisors. -/
def DRel (P : Int) (w : World) (gk : Nat) (i : Value) (wr : World) : Prop :=
  ∃ d : Nat, gk + d = 257 ∧ 2 ≤ d ∧ i = .int .i64 d ∧ (∀ e : Nat, 2 ≤ e → e < d → P % (e : Int) ≠ 0) ∧ wr = w

theorem sq_bound {d : Nat} (h : d ≤ 257) : (d : Int) * d ≤ 70000 ∧ 0 ≤ (d : Int) * d := by
  have h1 : d * d ≤ 257 * 257 := Nat.mul_le_mul h h
  rw [← Int.natCast_mul]
  omega
theorem sq_small {d : Nat} {P : Int} (h : (d : Int) * d ≤ P) (hP : P ≤ 65521) : d ≤ 255 := by
  rcases Nat.lt_or_ge d 256 with h' | h'
  · omega
  · have h1 : 256 * 256 ≤ d * d := Nat.mul_le_mul h' h'
    rw [← Int.natCast_mul] at h
    omega

theorem of_any (P : Int) (w : World) : Calls Try.prog 31 #[.agg #[.int .i64 P]] w (OfPost P w) := by
  by_cases h2 : P < 2
  · go_enter Try.func31, Try.ntmps31
    go_wp2_with fail
    go_ret2
    exact ⟨0, false, rfl, .inr ⟨rfl, rfl, fun h => by have := h.1; omega⟩, (Below.refl _ _).alloc (Nat.le_refl _) _⟩
  · by_cases h3 : 65521 < P
    · go_enter Try.func31, Try.ntmps31
      go_wp2_with fail
      go_ret2
      exact ⟨0, false, rfl, .inr ⟨rfl, rfl, fun h => by have := h.2.1; omega⟩, (Below.refl _ _).alloc (Nat.le_refl _) _⟩
    · have hd1 : decide (P < 2) = false := by simp; omega
      have hd2 : decide ((65521 : Int) < P) = false := by simp; omega
      have hP0 : 2 ≤ P := by omega
      have hP1 : P ≤ 65521 := by omega
      clear h2 h3
      go_enter Try.func31, Try.ntmps31
      go_wp2_with fail
      go_loopg [4] 255 (fun gk i wr => DRel P (w.alloc (.cells #[.int .i64 P] 27)) gk i wr)
      case atStart => exact ⟨2, rfl, by decide, rfl, fun e h1 h2 => by omega, rfl⟩
      case round =>
        obtain ⟨d, hg, hd2', rfl, hall, rfl⟩ := hrel
        have hsq := sq_bound (d := d) (by omega)
        obtain ⟨hs1, hs2⟩ := hsq
        have Hall := Lib.hid hall
        clear hall
        by_cases hlt : (d : Int) * d ≤ P
        · have hd255 := sq_small hlt hP1
          by_cases hm : P % (d : Int) = 0
          · have hq : (P % (d : Int) == 0) = true := by simp [hm]
            have hv := Valid.found hd2' hlt hm
            clear hm
            go_wp2_with fail
            go_ret2
            exact ⟨0, false, rfl, .inr ⟨rfl, rfl, hv⟩, (Below.refl _ _).alloc (Nat.le_refl _) _⟩
          · have hq : (P % (d : Int) == 0) = false := by simp [hm]
            have Hm := Lib.hid hm
            clear hm
            go_wp2_with fail
            go_roundg (gk - 1)
            case measure => omega
            case rel => exact ⟨d + 1, by omega, by omega, by go_num, fun e h1 h2 => by
                  rcases Nat.lt_or_ge e d with h | h
                  · exact Hall.out e h1 h
                  · obtain rfl : e = d := by omega
                    exact Hm.out, rfl⟩
        · have hv := Valid.none hP0 hP1 (by omega) Hall.out
          go_wp2_with fail
          go_ret2
          exact ⟨P, true, rfl, .inl ⟨rfl, rfl, hv⟩, (Below.refl _ _).alloc (Nat.le_refl _) _⟩
end Go.Proofs.Ytihhncejiahdcac.Field
