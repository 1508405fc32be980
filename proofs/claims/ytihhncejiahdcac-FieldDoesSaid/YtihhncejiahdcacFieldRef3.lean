/- The reference's powers and inverses. -/
import Derived.Test.YtihhncejiahdcacFieldRef2
namespace Go.Proofs.Ytihhncejiahdcac.Field
open Go Go.RowKit
set_option linter.unusedVariables false

theorem rPow_any (p a n : Nat) (w : World) (hp : 2 ≤ p) (hp1 : p ≤ 65521) (ha : a < p) (hn : n < 9223372036854775808) :
    Calls Try.prog 40 #[.agg #[.int .i64 p], .int .i64 a, .int .i64 n] w fun e w' => e = .returned (.int .i64 ((a ^ n % p : Nat) : Int)) ∧ Below w.heap.size w w' := by
  have hz1 : ((p : Int) == 0) = false := beq_eq_false_iff_ne.2 (by omega)
  have ht1 : (1 : Int).tmod p = 1 := Int.tmod_eq_of_lt (by omega) (by omega)
  go_enter Try.func40, Try.ntmps40
  go_wp2_with fail
  go_loopg [1, 2, 7] n (fun gk v1 v2 v7 wr => PRel p a n (w.alloc (.cells #[.int .i64 p] 27)) gk v1 v2 v7 wr)
  case atStart => exact ⟨1, a, rfl, rfl, rfl, by omega, ha, hn, by rw [Nat.one_mul], rfl⟩
  case round =>
    obtain ⟨x, b, rfl, rfl, rfl, hx, hb, hg, he, rfl⟩ := hrel
    have He := Lib.hid he
    clear he
    have ha1 := and1_i64 gk hg
    have hxb := mul_bound (p := (p : Int)) (a := x) (b := b) (by omega) (by omega) (by omega) (by omega) (by omega)
    have hbb := mul_bound (p := (p : Int)) (a := b) (b := b) (by omega) (by omega) (by omega) (by omega) (by omega)
    obtain ⟨hxb1, hxb2⟩ := hxb
    obtain ⟨hbb1, hbb2⟩ := hbb
    by_cases h0 : 0 < gk
    · by_cases h1 : gk % 2 = 1
      · have hq : (bits .and .i64 (gk : Int) 1 == 1) = true := by rw [ha1, h1]; rfl
        have ho := pow_step_odd (p := p) (x := x) (a := b) h1
        have Ho := Lib.hid ho
        clear ha1 h1 ho
        go_wp2_with fail
        go_roundg (gk / 2)
        case measure => omega
        case rel => exact ⟨x * b % p, b * b % p, by simp, by simp, by simp, Nat.mod_lt _ (by omega), Nat.mod_lt _ (by omega), by omega, by rw [Ho.out, He.out], rfl⟩
      · have hq : (bits .and .i64 (gk : Int) 1 == 1) = false := by rw [ha1, show gk % 2 = 0 by omega]; rfl
        have ho := pow_step_even (p := p) (x := x) (a := b) (m := gk) (by omega)
        have Ho := Lib.hid ho
        clear ha1 h1 ho
        go_wp2_with fail
        go_roundg (gk / 2)
        case measure => omega
        case rel => exact ⟨x, b * b % p, by simp, by simp, by simp, hx, Nat.mod_lt _ (by omega), by omega, by rw [Ho.out, He.out], rfl⟩
    · clear ha1
      obtain rfl : gk = 0 := by omega
      go_wp2_with fail
      go_ret
      have h := He.out
      rw [Nat.pow_zero, Nat.mul_one, Nat.mod_eq_of_lt hx] at h
      exact ⟨by rw [← h]; rfl, (Below.refl _ _).alloc (Nat.le_refl _) _⟩

theorem rInv_any (p a : Nat) (w : World) (hp : 2 ≤ p) (hp1 : p ≤ 65521) (ha : a < p) :
    Calls Try.prog 39 #[.agg #[.int .i64 p], .int .i64 a] w fun e w' => e = .returned (.int .i64 ((a ^ (p - 2) % p : Nat) : Int)) ∧ Below w.heap.size w w' := by
  have hb := (Below.refl w.heap.size w).alloc (Nat.le_refl _) (.cells #[.int .i64 p] 27)
  have hpp : ((p : Int) - 2) = ((p - 2 : Nat) : Int) := by omega
  have hP0 := fun W => rPow_any p a (p - 2) W hp hp1 ha (by omega)
  rw [← hpp] at hP0
  generalize a ^ (p - 2) % p = r at hP0 ⊢
  have hP := Lib.hid hP0
  clear hP0 hpp
  go_enter Try.func39, Try.ntmps39
  go_wp2_with fail
  refine (hP.out _).mono ?_
  rintro e w' ⟨rfl, hb'⟩
  go_wp2_with fail
  go_ret
  exact ⟨rfl, hb.trans (hb'.mono hb.size)⟩

theorem inB_one {P a : Int} : inB P [a] = true ↔ Valid P ∧ hasB P a = true := by
  unfold inB
  by_cases h : Valid P
  · rw [if_pos h]; simp [allB, h]
  · rw [if_neg h]; simp [h]
theorem pw_neg1 {P a : Int} (hv : Valid P) : pw P a (-1) = ((a.toNat ^ (P.toNat - 2) % P.toNat : Nat) : Int) := by
  have := hv.1
  have h : (-1 : Int) % (P - 1) = P - 2 := by
    rw [show (-1 : Int) = P - 2 + (P - 1) * (-1) by omega, Int.add_mul_emod_self_left, Int.emod_eq_of_lt (by omega) (by omega)]
  unfold pw
  rw [h, show (P - 2).toNat = P.toNat - 2 by omega]

theorem rInverse_any (P a : Int) (w : World) : Calls Try.prog 27 #[.agg #[.int .i64 P], .int .i64 a] w fun e w' => e = .returned (.tuple #[.int .i64 (powR P a (-1)).1, .int .i64 (powR P a (-1)).2]) ∧ Below w.heap.size w w' := by
  have hb := (Below.refl w.heap.size w).alloc (Nat.le_refl _) (.cells #[.int .i64 P] 27)
  have hi := rIn_one P a (w.alloc (.cells #[.int .i64 P] 27))
  by_cases h : inB P [a] = true
  · rw [h] at hi
    simp only [World.size_alloc] at hi
    obtain ⟨hv, hha⟩ := inB_one.1 h
    have ha : 0 ≤ a ∧ a < P := by simpa [hasB] using hha
    have HI := Lib.hid hi
    have hP := hv.1
    have hP2 := hv.2.1
    by_cases h0 : a = 0
    · subst h0
      rw [inv_zero hv]
      clear hi h hv hha
      go_enter Try.func27, Try.ntmps27
      go_wp2_with fail
      refine (HI.out).mono ?_
      rintro e w' ⟨rfl, hb'⟩
      have HB := Lib.hid (hb.trans (hb'.mono (by simp)))
      clear hb'
      go_wp2_with fail
      go_ret2
      exact ⟨rfl, HB.out⟩
    · have hq : (a == 0) = false := by simpa using h0
      rw [powR_unit hv (by omega) ha.2, pw_neg1 hv]
      have hinv := fun W => rInv_any P.toNat a.toNat W (by omega) (by omega) (by omega)
      rw [Int.toNat_of_nonneg (show 0 ≤ P by omega), Int.toNat_of_nonneg ha.1] at hinv
      generalize a.toNat ^ (P.toNat - 2) % P.toNat = r at hinv ⊢
      have HV := Lib.hid hinv
      clear hi h hv hha hinv h0
      go_enter Try.func27, Try.ntmps27
      go_wp2_with fail
      refine (HI.out).mono ?_
      rintro e w' ⟨rfl, hb'⟩
      have hc : w'.cell? ⟨w.heap.size, 0, none⟩ = some (.int .i64 P) := by rw [hb'.cell (p := ⟨w.heap.size, 0, none⟩) (by simp)]; simp
      have hb2 := hb.trans (hb'.mono (by simp))
      have HB := Lib.hid hb2
      have hs2 := hb2.size
      clear hb' hb2
      go_wp2_with fail
      refine (HV.out _).mono ?_
      rintro e w2 ⟨rfl, hb3⟩
      go_wp2_with fail
      go_ret2
      exact ⟨rfl, HB.out.trans (hb3.mono hs2)⟩
  · have h' : inB P [a] = false := by simpa using h
    rw [h'] at hi
    rw [show powR P a (-1) = (0, 9) from if_neg (fun hh => h (inB_one.2 hh))]
    simp only [World.size_alloc] at hi
    have HI := Lib.hid hi
    clear hi h h'
    go_enter Try.func27, Try.ntmps27
    go_wp2_with fail
    refine (HI.out).mono ?_
    rintro e w' ⟨rfl, hb'⟩
    go_wp2_with fail
    go_ret2
    exact ⟨rfl, hb.trans (hb'.mono (by simp))⟩
end Go.Proofs.Ytihhncejiahdcac.Field
