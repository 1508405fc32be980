/- FieldLaws, walked. -/
import Derived.Test.YtihhncejiahdcacFieldPowersW
namespace Go.Proofs.Ytihhncejiahdcac.Field
open Go Go.RowKit
set_option linter.unusedVariables false

theorem Int.mod_mul_one (a b c P : Int) : a * b % P * c % P = a * b * c % P := by rw [Int.mul_emod, Int.emod_emod_of_dvd _ (Int.dvd_refl P), ← Int.mul_emod]
theorem Int.mod_mul_two (a b c P : Int) : a * (b * c % P) % P = a * b * c % P := by rw [Int.mul_emod, Int.emod_emod_of_dvd _ (Int.dvd_refl P), ← Int.mul_emod, Int.mul_assoc]
theorem Int.mod_mul_three (a b c P : Int) : a * ((b + c) % P) % P = (a * b + a * c) % P := by rw [Int.mul_emod, Int.emod_emod_of_dvd _ (Int.dvd_refl P), ← Int.mul_emod, Int.mul_add]
theorem Int.mod_sub_add {a b P : Int} (h0 : 0 ≤ a) (h1 : a < P) : ((a - b) % P + b) % P = a := by rw [Int.emod_add_emod, Int.sub_add_cancel, Int.emod_eq_of_lt h0 h1]

theorem inv_zero {P : Int} (hv : Valid P) : powR P 0 (-1) = (0, 10) := by
  have := hv.1
  unfold powR
  rw [if_pos ⟨hv, by unfold hasB; simp; omega⟩, if_neg (by decide), if_pos rfl]
theorem inv_ok {P a : Int} (hv : Valid P) (h0 : 1 ≤ a) (h1 : a < P) : ∃ ν, powR P a (-1) = (ν, 0) ∧ (0 ≤ ν ∧ ν < P) ∧ a * ν % P = 1 := by
  have hP := hv.1
  refine ⟨pw P a (-1), powR_unit hv h0 h1 _, pw_range hv, ?_⟩
  have h := pw_add hv h0 h1 1 (-1)
  have e1 : pw P a 1 = a := by
    have h2 := powR_unit hv h0 h1 1
    unfold powR at h2
    rw [if_pos ⟨hv, by unfold hasB; simp; omega⟩, if_pos (by decide)] at h2
    have h3 := congrArg Prod.fst h2
    simp only [] at h3
    rw [← h3, show (1 : Int).toNat = 1 from rfl, Nat.pow_one, Nat.mod_eq_of_lt (by omega)]
    omega
  have e0 : pw P a (1 + -1) = 1 := by
    have := pw_one (a := a) hv
    have h4 := pw_per (P := P) (a := a) 0 1
    rw [Int.zero_add, Int.mul_one, this] at h4
    exact h4.symm
  rw [e1, e0] at h
  exact h
theorem mul_zero {P a b : Int} (hv : Valid P) (h0 : 1 ≤ a) (h1 : a < P) (hb : 0 ≤ b ∧ b < P) : a * b % P = 0 ↔ b = 0 := by
  have hP := hv.1
  constructor
  · intro h
    have hd := Int.dvd_of_emod_eq_zero h
    obtain ⟨p, rfl⟩ := Int.eq_ofNat_of_zero_le (show 0 ≤ P by omega)
    obtain ⟨x, rfl⟩ := Int.eq_ofNat_of_zero_le (show 0 ≤ a by omega)
    obtain ⟨y, rfl⟩ := Int.eq_ofNat_of_zero_le hb.1
    have hd' : p ∣ x * y := by
      rw [← Int.natCast_mul] at hd
      exact Int.natCast_dvd_natCast.1 hd
    have hp := hv.2.2
    rw [Int.toNat_natCast] at hp
    rcases hp.mul hd' with h | h
    · exact absurd h (not_dvd (by omega) (by omega))
    · rcases Nat.eq_zero_or_pos y with h2 | h2
      · rw [h2]; rfl
      · exact absurd h (not_dvd h2 (by omega))
  · rintro rfl
    simp

set_option maxRecDepth 100000 in
set_option maxHeartbeats 400000 in
theorem laws_walk (w : World) (a : Option Addr) (len cap : Nat) (l : List Int) (hr : Rd w w.heap.size 1 (.slice a len cap) len (l.map (Value.int .i64))) (hl : ∀ x ∈ l, -9223372036854775808 ≤ x ∧ x ≤ 9223372036854775807) (hbytes : len * 8 ≤ 140737488351232) :
    Calls Try.prog 5 #[.slice a len cap] w (IsTrue w) := by
  have HR := Lib.hid hr
  have HL := Lib.hid hl
  clear hr hl
  by_cases hfew : len ≤ 500
  · go_enter Try.func5, Try.ntmps5
    go_wp2_with fail
    refine (sane_any _).mono ?_
    rintro e w1 ⟨rfl, hb1⟩
    go_wp2_with fail
    refine (Deck.few_yes a len cap w1 hfew).mono ?_
    rintro e w1' ⟨rfl, rfl⟩
    go_wp2_with fail
    refine (Deck.new_any a len cap l w.heap.size w1 hb1.size (HR.out.below hb1 (Nat.le_refl _)) (by omega) HL.out).mono ?_
    rintro e w2 ⟨D, rfl, hd2, hD, hg2⟩
    have hb2 := hb1.grown hg2 hb1.size (by simp)
    have HB2 := Lib.hid hb2
    have hs2 := hb2.size
    have hs1 := hb1.size
    clear hb2 hg2
    go_wp2_with fail
    refine (Deck.field_any D w.heap.size w2 hs2 hd2).mono ?_
    rintro e w3 ⟨P, rfl, hP, hd3, hg3⟩
    have hv := valid_made hP
    have hb3 := HB2.out.grown hg3 hs2 (fun k hk => by injection hk with hk; omega)
    have hs3 := hb3.size
    have HB3 := Lib.hid hb3
    have hP2 := hv.1
    have hP3 := hv.2.1
    have HV := Lib.hid hv
    clear hb3 hg3 hP hv
    go_wp2_with fail
    have hdl3 : D < w3.heap.size := by obtain ⟨_, _, _, _, _, _, h, _⟩ := hd3; exact h
    have hga := World.grownBy_alloc w3 (.cells #[.int .i64 P] 27) none
    have hd4 := hd3.grown hga (by simp) hs3 (by simp)
    obtain ⟨w3', hw3'⟩ : ∃ w3' : World, w3' = w3.alloc (.cells #[.int .i64 P] 27) := ⟨_, rfl⟩
    have hz3 : w3'.heap.size = w3.heap.size + 1 := by rw [hw3']; simp
    have hcf : w3'.cell? ⟨w3.heap.size, 0, none⟩ = some (.int .i64 P) := by rw [hw3']; simp
    rw [← hw3']
    have hb3 := HB3.out.alloc hs3 (.cells #[.int .i64 P] 27)
    rw [← hw3'] at hga hd4 hb3
    have HW3 := Lib.hid hw3'
    clear hw3'
    refine (Deck.elements_any D w.heap.size P 3 w3' (by omega) hd4 (by omega) hP3 (by omega)).mono ?_
    rintro e w4 ⟨v, l3, rfl, ho, hl3, hd5, hg5⟩
    have hlen : l3.length = 3 := by have := ho.1; simpa using this
    obtain ⟨α, β, γ, rfl⟩ : ∃ α β γ, l3 = [α, β, γ] := by
      match l3, hlen with
      | [α, β, γ], _ => exact ⟨α, β, γ, rfl⟩
    have hα := hl3 α (by simp)
    have hβ := hl3 β (by simp)
    have hγ := hl3 γ (by simp)
    rcases ho.2 with ⟨_, h3⟩ | ⟨g, off, cap3, rfl, hgB, hgl, hcap, hcapm, _, hra⟩
    · omega
    have hca : w4.cell? ⟨g, off, none⟩ = some (.int .i64 α) := hra 0 _ rfl
    have hcb : w4.cell? ⟨g, off + 1, none⟩ = some (.int .i64 β) := hra 1 _ rfl
    have hcc : w4.cell? ⟨g, off + 2, none⟩ = some (.int .i64 γ) := hra 2 _ rfl
    have hc4 : w4.cell? ⟨w3.heap.size, 0, none⟩ = some (.int .i64 P) := by
      rw [Deck.far_cell hg5 _ (by show w3.heap.size < _; omega) (by show some w3.heap.size ≠ some D; intro e; injection e with e; omega)]; exact hcf
    have hb4 := hb3.grown hg5 (by omega) (fun k hk => by injection hk with hk; omega)
    have hs4 := hb4.size
    have hz4 : w3.heap.size < w4.heap.size := by have := hg5.size; omega
    have HB4 := Lib.hid hb4
    have hr2 : ∀ z : Int, 0 ≤ z % P ∧ z % P < P := fun z => ⟨Int.emod_nonneg z (by omega), Int.emod_lt_of_pos z (by omega)⟩
    have h5 := fun W => fMul_any P α β W
    have h6 := fun W => fMul_any P β γ W
    have h7 := fun W => fMul_any P (α * β % P) γ W
    have h8 := fun W => fMul_any P α (β * γ % P) W
    have h9 := fun W => fAdd_any P β γ W
    have h10 := fun W => fMul_any P α ((β + γ) % P) W
    have h11 := fun W => fMul_any P α γ W
    have h12 := fun W => fAdd_any P (α * β % P) (α * γ % P) W
    have h13 := fun W => fSub_any P α β W
    have h14 := fun W => fAdd_any P ((α - β) % P) β W
    have h15 := fun W => fMul_any P β α W
    rw [mulR_ok HV.out hα hβ] at h5
    rw [mulR_ok HV.out hβ hγ] at h6
    rw [mulR_ok HV.out (hr2 _) hγ, Int.mod_mul_one] at h7
    rw [mulR_ok HV.out hα (hr2 _), Int.mod_mul_two] at h8
    rw [addR_ok HV.out hβ hγ] at h9
    rw [mulR_ok HV.out hα (hr2 _), Int.mod_mul_three] at h10
    rw [mulR_ok HV.out hα hγ] at h11
    rw [addR_ok HV.out (hr2 _) (hr2 _), ← Int.add_emod] at h12
    rw [subR_ok HV.out hα hβ] at h13
    rw [addR_ok HV.out (hr2 _) hβ, Int.mod_sub_add hα.1 hα.2] at h14
    rw [mulR_ok HV.out hβ hα, Int.mul_comm β α] at h15
    have H5 := Lib.hid h5
    have H6 := Lib.hid h6
    have H7 := Lib.hid h7
    have H8 := Lib.hid h8
    have H9 := Lib.hid h9
    have H10 := Lib.hid h10
    have H11 := Lib.hid h11
    have H12 := Lib.hid h12
    have H13 := Lib.hid h13
    have H14 := Lib.hid h14
    have H15 := Lib.hid h15
    have HI := Lib.hid (fun W => fInverse_any P α W)
    clear hr2 hd5 hg5 hl3 ho hra hb3 hga hd4 hb4 hcf h5 h6 h7 h8 h9 h10 h11 h12 h13 h14 h15
    go_wp2_with fail
    go_quiet (fail)
    have hgd := Deck.grown_drewN w4 nq none
    obtain ⟨w4q, hw4q⟩ : ∃ w4q : World, w4q = w4.drewN nq := ⟨_, rfl⟩
    rw [← hw4q] at hgd ⊢
    have hc4q : w4q.cell? ⟨w3.heap.size, 0, none⟩ = some (.int .i64 P) := by rw [hw4q]; exact hc4
    have hz4q : w3.heap.size < w4q.heap.size := by rw [hw4q]; exact hz4
    have HB4q := Lib.hid (HB4.out.grown hgd hs4 (by simp))
    have hs4q := HB4q.out.size
    clear hw4q hgd
    go_wp2_with fail
    refine (H5.out _).mono ?_
    rintro e w5 ⟨rfl, hb5⟩
    have hc5 : w5.cell? ⟨w3.heap.size, 0, none⟩ = some (.int .i64 P) := by rw [hb5.cell (p := ⟨w3.heap.size, 0, none⟩) (by show w3.heap.size < _; omega)]; exact hc4q
    have hz5 : w3.heap.size < w5.heap.size := Nat.lt_of_lt_of_le hz4q hb5.size
    have HB5 := Lib.hid (HB4q.out.trans (hb5.mono hs4q))
    have hs5 := HB5.out.size
    clear hb5
    go_wp2_with fail
    refine (H6.out _).mono ?_
    rintro e w6 ⟨rfl, hb6⟩
    have hc6 : w6.cell? ⟨w3.heap.size, 0, none⟩ = some (.int .i64 P) := by rw [hb6.cell (p := ⟨w3.heap.size, 0, none⟩) (by show w3.heap.size < _; omega)]; exact hc5
    have hz6 : w3.heap.size < w6.heap.size := Nat.lt_of_lt_of_le hz5 hb6.size
    have HB6 := Lib.hid (HB5.out.trans (hb6.mono hs5))
    have hs6 := HB6.out.size
    clear hb6
    go_wp2_with fail
    refine (H7.out _).mono ?_
    rintro e w7 ⟨rfl, hb7⟩
    have hc7 : w7.cell? ⟨w3.heap.size, 0, none⟩ = some (.int .i64 P) := by rw [hb7.cell (p := ⟨w3.heap.size, 0, none⟩) (by show w3.heap.size < _; omega)]; exact hc6
    have hz7 : w3.heap.size < w7.heap.size := Nat.lt_of_lt_of_le hz6 hb7.size
    have HB7 := Lib.hid (HB6.out.trans (hb7.mono hs6))
    have hs7 := HB7.out.size
    clear hb7
    go_wp2_with fail
    refine (H8.out _).mono ?_
    rintro e w8 ⟨rfl, hb8⟩
    have hc8 : w8.cell? ⟨w3.heap.size, 0, none⟩ = some (.int .i64 P) := by rw [hb8.cell (p := ⟨w3.heap.size, 0, none⟩) (by show w3.heap.size < _; omega)]; exact hc7
    have hz8 : w3.heap.size < w8.heap.size := Nat.lt_of_lt_of_le hz7 hb8.size
    have HB8 := Lib.hid (HB7.out.trans (hb8.mono hs7))
    have hs8 := HB8.out.size
    clear hb8
    go_wp2_with fail
    refine (H9.out _).mono ?_
    rintro e w9 ⟨rfl, hb9⟩
    have hc9 : w9.cell? ⟨w3.heap.size, 0, none⟩ = some (.int .i64 P) := by rw [hb9.cell (p := ⟨w3.heap.size, 0, none⟩) (by show w3.heap.size < _; omega)]; exact hc8
    have hz9 : w3.heap.size < w9.heap.size := Nat.lt_of_lt_of_le hz8 hb9.size
    have HB9 := Lib.hid (HB8.out.trans (hb9.mono hs8))
    have hs9 := HB9.out.size
    clear hb9
    go_wp2_with fail
    refine (H10.out _).mono ?_
    rintro e w10 ⟨rfl, hb10⟩
    have hc10 : w10.cell? ⟨w3.heap.size, 0, none⟩ = some (.int .i64 P) := by rw [hb10.cell (p := ⟨w3.heap.size, 0, none⟩) (by show w3.heap.size < _; omega)]; exact hc9
    have hz10 : w3.heap.size < w10.heap.size := Nat.lt_of_lt_of_le hz9 hb10.size
    have HB10 := Lib.hid (HB9.out.trans (hb10.mono hs9))
    have hs10 := HB10.out.size
    clear hb10
    go_wp2_with fail
    refine (H11.out _).mono ?_
    rintro e w11 ⟨rfl, hb11⟩
    have hc11 : w11.cell? ⟨w3.heap.size, 0, none⟩ = some (.int .i64 P) := by rw [hb11.cell (p := ⟨w3.heap.size, 0, none⟩) (by show w3.heap.size < _; omega)]; exact hc10
    have hz11 : w3.heap.size < w11.heap.size := Nat.lt_of_lt_of_le hz10 hb11.size
    have HB11 := Lib.hid (HB10.out.trans (hb11.mono hs10))
    have hs11 := HB11.out.size
    clear hb11
    go_wp2_with fail
    refine (H12.out _).mono ?_
    rintro e w12 ⟨rfl, hb12⟩
    have hc12 : w12.cell? ⟨w3.heap.size, 0, none⟩ = some (.int .i64 P) := by rw [hb12.cell (p := ⟨w3.heap.size, 0, none⟩) (by show w3.heap.size < _; omega)]; exact hc11
    have hz12 : w3.heap.size < w12.heap.size := Nat.lt_of_lt_of_le hz11 hb12.size
    have HB12 := Lib.hid (HB11.out.trans (hb12.mono hs11))
    have hs12 := HB12.out.size
    clear hb12
    go_wp2_with fail
    refine (H13.out _).mono ?_
    rintro e w13 ⟨rfl, hb13⟩
    have hc13 : w13.cell? ⟨w3.heap.size, 0, none⟩ = some (.int .i64 P) := by rw [hb13.cell (p := ⟨w3.heap.size, 0, none⟩) (by show w3.heap.size < _; omega)]; exact hc12
    have hz13 : w3.heap.size < w13.heap.size := Nat.lt_of_lt_of_le hz12 hb13.size
    have HB13 := Lib.hid (HB12.out.trans (hb13.mono hs12))
    have hs13 := HB13.out.size
    clear hb13
    go_wp2_with fail
    refine (H14.out _).mono ?_
    rintro e w14 ⟨rfl, hb14⟩
    have hc14 : w14.cell? ⟨w3.heap.size, 0, none⟩ = some (.int .i64 P) := by rw [hb14.cell (p := ⟨w3.heap.size, 0, none⟩) (by show w3.heap.size < _; omega)]; exact hc13
    have hz14 : w3.heap.size < w14.heap.size := Nat.lt_of_lt_of_le hz13 hb14.size
    have HB14 := Lib.hid (HB13.out.trans (hb14.mono hs13))
    have hs14 := HB14.out.size
    clear hb14
    go_wp2_with fail
    refine (H15.out _).mono ?_
    rintro e w15 ⟨rfl, hb15⟩
    have hc15 : w15.cell? ⟨w3.heap.size, 0, none⟩ = some (.int .i64 P) := by rw [hb15.cell (p := ⟨w3.heap.size, 0, none⟩) (by show w3.heap.size < _; omega)]; exact hc14
    have hz15 : w3.heap.size < w15.heap.size := Nat.lt_of_lt_of_le hz14 hb15.size
    have HB15 := Lib.hid (HB14.out.trans (hb15.mono hs14))
    have hs15 := HB15.out.size
    clear hb15
    by_cases h0 : α = 0
    · have hq0 : (α == 0) = true := by simpa using h0
      have hiv : powR P α (-1) = (0, 10) := by rw [h0]; exact inv_zero HV.out
      have hi := HI.out
      rw [hiv] at hi
      have HI2 := Lib.hid hi
      clear h0 hiv hi
      go_wp2_with fail
      refine (HI2.out _).mono ?_
      rintro e w16 ⟨rfl, hb16⟩
      have HB16 := Lib.hid (HB15.out.trans (hb16.mono hs15))
      clear hb16
      go_wp2_with fail
      go_ret
      exact ⟨rfl, HB16.out⟩
    · have hq0 : (α == 0) = false := by simpa using h0
      have hi := HI.out
      obtain ⟨ν, hiv, hν, hn1⟩ := inv_ok HV.out (show 1 ≤ α by omega) hα.2
      rw [hiv] at hi
      have HI2 := Lib.hid hi
      have hm := fun W => fMul_any P α ν W
      rw [mulR_ok HV.out hα hν, hn1] at hm
      have HM := Lib.hid hm
      have hz := mul_zero HV.out (show 1 ≤ α by omega) hα.2 hβ
      have hqq : (β == 0) = (α * β % P == 0) := by
        rw [Bool.eq_iff_iff]; simpa using hz.symm
      have HQ := Lib.hid hqq
      clear h0 hiv hi hm hn1 hz hqq
      go_wp2_with fail
      refine (HI2.out _).mono ?_
      rintro e w16 ⟨rfl, hb16⟩
      have hc16 : w16.cell? ⟨w3.heap.size, 0, none⟩ = some (.int .i64 P) := by rw [hb16.cell (p := ⟨w3.heap.size, 0, none⟩) (by show w3.heap.size < _; omega)]; exact hc15
      have HB16 := Lib.hid (HB15.out.trans (hb16.mono hs15))
      have hs16 := HB16.out.size
      clear hb16
      go_wp2_with fail
      refine (HM.out _).mono ?_
      rintro e w17 ⟨rfl, hb17⟩
      have HB17 := Lib.hid (HB16.out.trans (hb17.mono hs16))
      clear hb17
      have hqq := HQ.out
      go_wp2_with fail
      go_ret
      exact ⟨rfl, HB17.out⟩
  · go_enter Try.func5, Try.ntmps5
    go_wp2_with fail
    refine (sane_any _).mono ?_
    rintro e w1 ⟨rfl, hb1⟩
    go_wp2_with fail
    refine (Deck.few_no a len cap w1 hfew).mono ?_
    rintro e w1' ⟨rfl, rfl⟩
    go_wp2_with fail
    go_ret
    exact ⟨rfl, hb1⟩
end Go.Proofs.Ytihhncejiahdcac.Field
