/- FieldReduces, walked. -/
import Derived.Test.YtihhncejiahdcacFieldPowersW
namespace Go.Proofs.Ytihhncejiahdcac.Field
open Go Go.RowKit
set_option linter.unusedVariables false

theorem reduce_ok {P n : Int} (hv : Valid P) (w : World) (n0 : -9223372036854775808 ≤ n) (n1 : n ≤ 9223372036854775807) :
    Calls Try.prog 29 #[.agg #[.int .i64 P], .int .i64 n] w fun e w' => e = .returned (.tuple #[.int .i64 (n % P), .int .i64 0]) ∧ Below w.heap.size w w' := by
  have := fReduce_any P n w n0 n1
  rwa [show redR P n = (n % P, 0) from if_pos hv] at this

theorem mul_bound32 {x y : Int} (x0 : -2147483648 ≤ x) (x1 : x ≤ 2147483647) (y0 : -2147483648 ≤ y) (y1 : y ≤ 2147483647) : -4611686018427387904 ≤ x * y ∧ x * y ≤ 4611686018427387904 := by
  have h : (x * y).natAbs ≤ 2147483648 * 2147483648 := by rw [Int.natAbs_mul]; exact Nat.mul_le_mul (by omega) (by omega)
  generalize x * y = z at *
  omega

set_option maxRecDepth 100000 in
set_option maxHeartbeats 400000 in
theorem reduces_walk (w : World) (a : Option Addr) (len cap : Nat) (l : List Int) (hr : Rd w w.heap.size 1 (.slice a len cap) len (l.map (Value.int .i64))) (hl : ∀ x ∈ l, -9223372036854775808 ≤ x ∧ x ≤ 9223372036854775807) (hbytes : len * 8 ≤ 140737488351232)
    (x : Int) (x0 : -2147483648 ≤ x) (x1 : x ≤ 2147483647) (y : Int) (y0 : -2147483648 ≤ y) (y1 : y ≤ 2147483647) :
    Calls Try.prog 7 #[.slice a len cap, .int .i32 x, .int .i32 y] w (IsTrue w) := by
  have HR := Lib.hid hr
  have HL := Lib.hid hl
  clear hr hl
  by_cases hfew : len ≤ 500
  · go_enter Try.func7, Try.ntmps7
    go_wp2_with fail
    refine (sane_any _).mono ?_
    rintro e w1 ⟨rfl, hb1⟩
    go_wp2_with fail
    refine (Deck.few_yes a len cap w1 hfew).mono ?_
    rintro e w1' ⟨rfl, rfl⟩
    go_wp2_with fail
    refine (Deck.new_any a len cap l w.heap.size w1 hb1.size (HR.out.below hb1 (Nat.le_refl _)) (by omega) HL.out).mono ?_
    rintro e w2 ⟨D, rfl, hd2, hD, hg2⟩
    have hb2 := hb1.grown hg2 hb1.size (by simp)
    have HB2 := Lib.hid hb2
    have hs2 := hb2.size
    have hs1 := hb1.size
    clear hb2 hg2
    go_wp2_with fail
    refine (Deck.field_any D w.heap.size w2 hs2 hd2).mono ?_
    rintro e w3 ⟨P, rfl, hP, hd3, hg3⟩
    have hv := valid_made hP
    have hb3 := HB2.out.grown hg3 hs2 (fun k hk => by injection hk with hk; omega)
    have hs3 := hb3.size
    have HB3 := Lib.hid hb3
    have hP2 := hv.1
    have hP3 := hv.2.1
    have HV := Lib.hid hv
    clear hb3 hg3 hP hv
    go_wp2_with fail
    have hxr : 0 ≤ x % P ∧ x % P < P := ⟨Int.emod_nonneg x (by omega), Int.emod_lt_of_pos x (by omega)⟩
    have hyr : 0 ≤ y % P ∧ y % P < P := ⟨Int.emod_nonneg y (by omega), Int.emod_lt_of_pos y (by omega)⟩
    have hq := mul_bound32 x0 x1 y0 y1
    have hga := World.grownBy_alloc w3 (.cells #[.int .i64 P] 27) none
    have hc3 : (w3.alloc (.cells #[.int .i64 P] 27)).cell? ⟨w3.heap.size, 0, none⟩ = some (.int .i64 P) := by simp
    have hb3' := HB3.out.alloc hs3 (.cells #[.int .i64 P] 27)
    obtain ⟨w3', hw3'⟩ : ∃ w3' : World, w3' = w3.alloc (.cells #[.int .i64 P] 27) := ⟨_, rfl⟩
    have hz3 : w3.heap.size < w3'.heap.size := by rw [hw3']; simp
    rw [← hw3'] at hc3 hb3'
    have hs3' := hb3'.size
    have HB3' := Lib.hid hb3'
    have HW3 := Lib.hid hw3'
    clear hga hb3' hw3'
    have hred := fun n W h0 h1 => reduce_ok (n := n) HV.out W h0 h1
    have h4 := fun W => hred x W (by omega) (by omega)
    have h5 := fun W => hred y W (by omega) (by omega)
    have h6 := fun W => fAdd_any P (x % P) (y % P) W
    have h7 := fun W => fSub_any P (x % P) (y % P) W
    have h8 := fun W => fMul_any P (x % P) (y % P) W
    have h9 := fun W => hred (x + y) W (by omega) (by omega)
    have h10 := fun W => hred (x - y) W (by omega) (by omega)
    have h11 := fun W => hred (x * y) W (by omega) (by omega)
    have h12 := fun W => hred (x % P) W (by omega) (by omega)
    rw [addR_ok HV.out hxr hyr, ← Int.add_emod] at h6
    rw [subR_ok HV.out hxr hyr, ← Int.sub_emod] at h7
    rw [mulR_ok HV.out hxr hyr, ← Int.mul_emod] at h8
    rw [Int.emod_emod_of_dvd x (Int.dvd_refl P)] at h12
    have hin : inB P [x % P, y % P] = true := by
      unfold inB
      rw [if_pos HV.out]
      simp [allB, hasB]
      omega
    have HIN := Lib.hid hin
    have H4 := Lib.hid h4
    have H5 := Lib.hid h5
    have H6 := Lib.hid h6
    have H7 := Lib.hid h7
    have H8 := Lib.hid h8
    have H9 := Lib.hid h9
    have H10 := Lib.hid h10
    have H11 := Lib.hid h11
    have H12 := Lib.hid h12
    clear hred hin h4 h5 h6 h7 h8 h9 h10 h11 h12
    go_wp2_with fail
    rw [← HW3.out]
    refine (H4.out _).mono ?_
    rintro e w4 ⟨rfl, hb4⟩
    have hc4 : w4.cell? ⟨w3.heap.size, 0, none⟩ = some (.int .i64 P) := by rw [hb4.cell (p := ⟨w3.heap.size, 0, none⟩) (by show w3.heap.size < _; omega)]; exact hc3
    have hz4 : w3.heap.size < w4.heap.size := Nat.lt_of_lt_of_le hz3 hb4.size
    have HB4 := Lib.hid (HB3'.out.trans (hb4.mono hs3'))
    have hs4 := HB4.out.size
    clear hb4
    go_wp2_with fail
    refine (H5.out _).mono ?_
    rintro e w5 ⟨rfl, hb5⟩
    have hc5 : w5.cell? ⟨w3.heap.size, 0, none⟩ = some (.int .i64 P) := by rw [hb5.cell (p := ⟨w3.heap.size, 0, none⟩) (by show w3.heap.size < _; omega)]; exact hc4
    have hz5 : w3.heap.size < w5.heap.size := Nat.lt_of_lt_of_le hz4 hb5.size
    have HB5 := Lib.hid (HB4.out.trans (hb5.mono hs4))
    have hs5 := HB5.out.size
    clear hb5
    go_wp2_with fail
    refine (H6.out _).mono ?_
    rintro e w6 ⟨rfl, hb6⟩
    have hc6 : w6.cell? ⟨w3.heap.size, 0, none⟩ = some (.int .i64 P) := by rw [hb6.cell (p := ⟨w3.heap.size, 0, none⟩) (by show w3.heap.size < _; omega)]; exact hc5
    have hz6 : w3.heap.size < w6.heap.size := Nat.lt_of_lt_of_le hz5 hb6.size
    have HB6 := Lib.hid (HB5.out.trans (hb6.mono hs5))
    have hs6 := HB6.out.size
    clear hb6
    go_wp2_with fail
    refine (H7.out _).mono ?_
    rintro e w7 ⟨rfl, hb7⟩
    have hc7 : w7.cell? ⟨w3.heap.size, 0, none⟩ = some (.int .i64 P) := by rw [hb7.cell (p := ⟨w3.heap.size, 0, none⟩) (by show w3.heap.size < _; omega)]; exact hc6
    have hz7 : w3.heap.size < w7.heap.size := Nat.lt_of_lt_of_le hz6 hb7.size
    have HB7 := Lib.hid (HB6.out.trans (hb7.mono hs6))
    have hs7 := HB7.out.size
    clear hb7
    go_wp2_with fail
    refine (H8.out _).mono ?_
    rintro e w8 ⟨rfl, hb8⟩
    have hc8 : w8.cell? ⟨w3.heap.size, 0, none⟩ = some (.int .i64 P) := by rw [hb8.cell (p := ⟨w3.heap.size, 0, none⟩) (by show w3.heap.size < _; omega)]; exact hc7
    have hz8 : w3.heap.size < w8.heap.size := Nat.lt_of_lt_of_le hz7 hb8.size
    have HB8 := Lib.hid (HB7.out.trans (hb8.mono hs7))
    have hs8 := HB8.out.size
    clear hb8
    go_wp2_with fail
    refine (H9.out _).mono ?_
    rintro e w9 ⟨rfl, hb9⟩
    have hc9 : w9.cell? ⟨w3.heap.size, 0, none⟩ = some (.int .i64 P) := by rw [hb9.cell (p := ⟨w3.heap.size, 0, none⟩) (by show w3.heap.size < _; omega)]; exact hc8
    have hz9 : w3.heap.size < w9.heap.size := Nat.lt_of_lt_of_le hz8 hb9.size
    have HB9 := Lib.hid (HB8.out.trans (hb9.mono hs8))
    have hs9 := HB9.out.size
    clear hb9
    go_wp2_with fail
    refine (H10.out _).mono ?_
    rintro e w10 ⟨rfl, hb10⟩
    have hc10 : w10.cell? ⟨w3.heap.size, 0, none⟩ = some (.int .i64 P) := by rw [hb10.cell (p := ⟨w3.heap.size, 0, none⟩) (by show w3.heap.size < _; omega)]; exact hc9
    have hz10 : w3.heap.size < w10.heap.size := Nat.lt_of_lt_of_le hz9 hb10.size
    have HB10 := Lib.hid (HB9.out.trans (hb10.mono hs9))
    have hs10 := HB10.out.size
    clear hb10
    go_wp2_with fail
    refine (H11.out _).mono ?_
    rintro e w11 ⟨rfl, hb11⟩
    have hc11 : w11.cell? ⟨w3.heap.size, 0, none⟩ = some (.int .i64 P) := by rw [hb11.cell (p := ⟨w3.heap.size, 0, none⟩) (by show w3.heap.size < _; omega)]; exact hc10
    have hz11 : w3.heap.size < w11.heap.size := Nat.lt_of_lt_of_le hz10 hb11.size
    have HB11 := Lib.hid (HB10.out.trans (hb11.mono hs10))
    have hs11 := HB11.out.size
    clear hb11
    go_wp2_with fail
    refine (H12.out _).mono ?_
    rintro e w12 ⟨rfl, hb12⟩
    have hc12 : w12.cell? ⟨w3.heap.size, 0, none⟩ = some (.int .i64 P) := by rw [hb12.cell (p := ⟨w3.heap.size, 0, none⟩) (by show w3.heap.size < _; omega)]; exact hc11
    have hz12 : w3.heap.size < w12.heap.size := Nat.lt_of_lt_of_le hz11 hb12.size
    have HB12 := Lib.hid (HB11.out.trans (hb12.mono hs11))
    have hs12 := HB12.out.size
    clear hb12
    go_wp2_with fail
    have hrt := rd_two w12 3 (x % P) (y % P)
    have i4 := fIn_any P [x % P, y % P] (some ⟨w12.heap.size, 0, none⟩) 2 (w12.heap.size + 1) _ hrt (by simp) (by simp)
    rw [HIN.out] at i4
    refine i4.mono ?_
    rintro e w13 ⟨rfl, hb13⟩
    have hb13' := (HB12.out.alloc hs12 (.cells #[.int .i64 (x % P), .int .i64 (y % P)] 3)).trans (hb13.mono (by simp; omega))
    go_wp2_with fail
    go_ret
    exact ⟨rfl, hb13'⟩
  · go_enter Try.func7, Try.ntmps7
    go_wp2_with fail
    refine (sane_any _).mono ?_
    rintro e w1 ⟨rfl, hb1⟩
    go_wp2_with fail
    refine (Deck.few_no a len cap w1 hfew).mono ?_
    rintro e w1' ⟨rfl, rfl⟩
    go_wp2_with fail
    go_ret
    exact ⟨rfl, hb1⟩
end Go.Proofs.Ytihhncejiahdcac.Field
