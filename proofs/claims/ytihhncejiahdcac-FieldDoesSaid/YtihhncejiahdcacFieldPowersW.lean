/- FieldPowers, walked. -/
import Derived.Test.YtihhncejiahdcacFieldPrimesW
import Derived.Test.YtihhncejiahdcacFieldLawsPlain
import Derived.Test.YtihhncejiahdcacDeck
namespace Go.Proofs.Ytihhncejiahdcac.Field
open Go Go.RowKit
set_option linter.unusedVariables false

theorem power_unit {P a : Int} (hv : Valid P) (h0 : 1 ≤ a) (h1 : a < P) (n : Int) (w : World) (n0 : -9223372036854775808 ≤ n) (n1 : n ≤ 9223372036854775807) :
    Calls Try.prog 14 #[.agg #[.int .i64 P], .int .i64 a, .int .i64 n] w fun e w' => e = .returned (.tuple #[.int .i64 (pw P a n), .int .i64 0]) ∧ Below w.heap.size w w' := by
  have := fPower_any P a n w n0 n1
  rwa [powR_unit hv h0 h1] at this

set_option maxRecDepth 100000 in
theorem powers_walk (w : World) (a : Option Addr) (len cap : Nat) (l : List Int) (hr : Rd w w.heap.size 1 (.slice a len cap) len (l.map (Value.int .i64))) (hl : ∀ x ∈ l, -9223372036854775808 ≤ x ∧ x ≤ 9223372036854775807) (hbytes : len * 8 ≤ 140737488351232)
    (m : Int) (m0 : -9223372036854775808 ≤ m) (m1 : m ≤ 9223372036854775807) (n : Int) (n0 : -9223372036854775808 ≤ n) (n1 : n ≤ 9223372036854775807) :
    Calls Try.prog 4 #[.slice a len cap, .int .i64 m, .int .i64 n] w (IsTrue w) := by
  have HR := Lib.hid hr
  have HL := Lib.hid hl
  clear hr hl
  by_cases hfew : len ≤ 500
  · go_enter Try.func4, Try.ntmps4
    go_wp2_with fail
    refine (sane_any _).mono ?_
    rintro e w1 ⟨rfl, hb1⟩
    go_wp2_with fail
    refine (Deck.few_yes a len cap w1 hfew).mono ?_
    rintro e w1' ⟨rfl, rfl⟩
    go_wp2_with fail
    refine (Deck.new_any a len cap l w.heap.size w1 hb1.size (HR.out.below hb1 (Nat.le_refl _)) (by omega) HL.out).mono ?_
    rintro e w2 ⟨D, rfl, hd2, hD, hg2⟩
    have hb2 := hb1.grown hg2 hb1.size (by simp)
    have HB2 := Lib.hid hb2
    have hs2 := hb2.size
    have hs1 := hb1.size
    clear hb2 hg2
    go_wp2_with fail
    refine (Deck.field_any D w.heap.size w2 hs2 hd2).mono ?_
    rintro e w3 ⟨P, rfl, hP, hd3, hg3⟩
    have hv := valid_made hP
    have hb3 := HB2.out.grown hg3 hs2 (fun k hk => by injection hk with hk; omega)
    have hs3 := hb3.size
    have HB3 := Lib.hid hb3
    have hP2 := hv.1
    have hP3 := hv.2.1
    have HV := Lib.hid hv
    clear hb3 hg3 hP hv
    go_wp2_with fail
    have hdl3 : D < w3.heap.size := by obtain ⟨_, _, _, _, _, _, h, _⟩ := hd3; exact h
    have hga := World.grownBy_alloc w3 (.cells #[.int .i64 P] 27) none
    have hd4 := hd3.grown hga (by simp) hs3 (by simp)
    refine (Deck.next_any D (P - 1) w.heap.size _ (by simp; omega) hd4 (by omega)).mono ?_
    rintro e w4 ⟨x, rfl, hx0, hx1, _, _, hg4⟩
    have hx2 := hx1 (by omega)
    have hc4 : w4.cell? ⟨w3.heap.size, 0, none⟩ = some (.int .i64 P) := by
      rw [Deck.far_cell hg4 _ (by simp) (by simp; omega)]; simp
    have hb4 := (HB3.out.alloc hs3 (.cells #[.int .i64 P] 27)).grown hg4 (by simp; omega) (fun k hk => by injection hk with hk; omega)
    have hs4 := hb4.size
    have hz4 := hg4.size
    simp only [World.size_alloc] at hz4
    have HB4 := Lib.hid hb4
    have hm1 := Int.tmod_lt_of_pos m (show (0 : Int) < 100000 by omega)
    have hm2 := Int.lt_tmod_of_pos m (show (0 : Int) < 100000 by omega)
    have hn1 := Int.tmod_lt_of_pos n (show (0 : Int) < 100000 by omega)
    have hn2 := Int.lt_tmod_of_pos n (show (0 : Int) < 100000 by omega)
    have hk1 := Int.tmod_lt_of_pos n (show (0 : Int) < 1000 by omega)
    have hk2 := Int.lt_tmod_of_pos n (show (0 : Int) < 1000 by omega)
    have hq1 : (P - 1) * n.tmod 1000 ≤ 65520 * 1000 := Int.le_trans (Int.mul_le_mul_of_nonneg_left (by omega) (by omega)) (Int.mul_le_mul_of_nonneg_right (show P - 1 ≤ 65520 by omega) (by omega))
    have hq2 : -(65520 * 1000) ≤ (P - 1) * n.tmod 1000 := by
      have : (P - 1) * -(n.tmod 1000) ≤ 65520 * 1000 := Int.le_trans (Int.mul_le_mul_of_nonneg_left (by omega) (by omega)) (Int.mul_le_mul_of_nonneg_right (show P - 1 ≤ 65520 by omega) (by omega))
      rw [Int.mul_neg] at this
      omega
    have ha0 : 1 ≤ 1 + x := by omega
    have ha1 : 1 + x < P := by omega
    have HX := Lib.hid hx1
    have hpw := fun k W => power_unit HV.out ha0 ha1 k W
    have h5 := fun W => hpw (m.tmod 100000) W (by omega) (by omega)
    have h6 := fun W => hpw (n.tmod 100000) W (by omega) (by omega)
    have h7 := fun W => hpw (m.tmod 100000 + n.tmod 100000) W (by omega) (by omega)
    have h8 := fun W => hpw (m.tmod 100000 + (P - 1) * n.tmod 1000) W (by omega) (by omega)
    have h9 := fun W => hpw (P - 1) W (by omega) (by omega)
    have h10 := fun W => fMul_any P (pw P (1 + x) (m.tmod 100000)) (pw P (1 + x) (n.tmod 100000)) W
    rw [mulR_ok HV.out (pw_range HV.out) (pw_range HV.out), pw_add HV.out ha0 ha1] at h10
    rw [pw_per] at h8
    rw [pw_one HV.out] at h9
    have H5 := Lib.hid h5
    have H6 := Lib.hid h6
    have H7 := Lib.hid h7
    have H8 := Lib.hid h8
    have H9 := Lib.hid h9
    have H10 := Lib.hid h10
    clear hb4 hg4 hga hd4 hx1 hpw h5 h6 h7 h8 h9 h10
    go_wp2_with fail
    refine (H5.out _).mono ?_
    rintro e w5 ⟨rfl, hb5⟩
    have hc5 : w5.cell? ⟨w3.heap.size, 0, none⟩ = some (.int .i64 P) := by rw [hb5.cell (p := ⟨w3.heap.size, 0, none⟩) (by show w3.heap.size < _; omega)]; exact hc4
    have HB5 := Lib.hid (HB4.out.trans (hb5.mono hs4))
    have hs5 := HB5.out.size
    have hz5 := hb5.size
    clear hb5
    go_wp2_with fail
    refine (H6.out _).mono ?_
    rintro e w6 ⟨rfl, hb6⟩
    have hc6 : w6.cell? ⟨w3.heap.size, 0, none⟩ = some (.int .i64 P) := by rw [hb6.cell (p := ⟨w3.heap.size, 0, none⟩) (by show w3.heap.size < _; omega)]; exact hc5
    have HB6 := Lib.hid (HB5.out.trans (hb6.mono hs5))
    have hs6 := HB6.out.size
    have hz6 := hb6.size
    clear hb6
    go_wp2_with fail
    refine (H7.out _).mono ?_
    rintro e w7 ⟨rfl, hb7⟩
    have hc7 : w7.cell? ⟨w3.heap.size, 0, none⟩ = some (.int .i64 P) := by rw [hb7.cell (p := ⟨w3.heap.size, 0, none⟩) (by show w3.heap.size < _; omega)]; exact hc6
    have HB7 := Lib.hid (HB6.out.trans (hb7.mono hs6))
    have hs7 := HB7.out.size
    have hz7 := hb7.size
    clear hb7
    go_wp2_with fail
    refine (H8.out _).mono ?_
    rintro e w8 ⟨rfl, hb8⟩
    have hc8 : w8.cell? ⟨w3.heap.size, 0, none⟩ = some (.int .i64 P) := by rw [hb8.cell (p := ⟨w3.heap.size, 0, none⟩) (by show w3.heap.size < _; omega)]; exact hc7
    have HB8 := Lib.hid (HB7.out.trans (hb8.mono hs7))
    have hs8 := HB8.out.size
    have hz8 := hb8.size
    clear hb8
    go_wp2_with fail
    refine (H9.out _).mono ?_
    rintro e w9 ⟨rfl, hb9⟩
    have hc9 : w9.cell? ⟨w3.heap.size, 0, none⟩ = some (.int .i64 P) := by rw [hb9.cell (p := ⟨w3.heap.size, 0, none⟩) (by show w3.heap.size < _; omega)]; exact hc8
    have HB9 := Lib.hid (HB8.out.trans (hb9.mono hs8))
    have hs9 := HB9.out.size
    have hz9 := hb9.size
    clear hb9
    go_wp2_with fail
    refine (H10.out _).mono ?_
    rintro e w10 ⟨rfl, hb10⟩
    have hc10 : w10.cell? ⟨w3.heap.size, 0, none⟩ = some (.int .i64 P) := by rw [hb10.cell (p := ⟨w3.heap.size, 0, none⟩) (by show w3.heap.size < _; omega)]; exact hc9
    have HB10 := Lib.hid (HB9.out.trans (hb10.mono hs9))
    have hs10 := HB10.out.size
    have hz10 := hb10.size
    clear hb10
    go_wp2_with fail
    go_ret
    exact ⟨rfl, HB10.out⟩
  · go_enter Try.func4, Try.ntmps4
    go_wp2_with fail
    refine (sane_any _).mono ?_
    rintro e w1 ⟨rfl, hb1⟩
    go_wp2_with fail
    refine (Deck.few_no a len cap w1 hfew).mono ?_
    rintro e w1' ⟨rfl, rfl⟩
    go_wp2_with fail
    go_ret
    exact ⟨rfl, hb1⟩
end Go.Proofs.Ytihhncejiahdcac.Field
