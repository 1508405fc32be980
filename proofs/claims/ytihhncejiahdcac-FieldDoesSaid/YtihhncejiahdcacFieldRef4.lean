/- The reference's Power. -/
import Derived.Test.YtihhncejiahdcacFieldRef3
namespace Go.Proofs.Ytihhncejiahdcac.Field
open Go Go.RowKit
set_option linter.unusedVariables false

theorem rPower_any (P a n : Int) (w : World) (n0 : -9223372036854775808 ≤ n) (n1 : n ≤ 9223372036854775807) : Calls Try.prog 28 #[.agg #[.int .i64 P], .int .i64 a, .int .i64 n] w fun e w' => e = .returned (.tuple #[.int .i64 (powR P a n).1, .int .i64 (powR P a n).2]) ∧ Below w.heap.size w w' := by
  have hb := (Below.refl w.heap.size w).alloc (Nat.le_refl _) (.cells #[.int .i64 P] 27)
  have hi := rIn_one P a (w.alloc (.cells #[.int .i64 P] 27))
  by_cases h : inB P [a] = true
  · rw [h] at hi
    simp only [World.size_alloc] at hi
    obtain ⟨hv, hha⟩ := inB_one.1 h
    have ha : 0 ≤ a ∧ a < P := by simpa [hasB] using hha
    have HI := Lib.hid hi
    have hP := hv.1
    have hP2 := hv.2.1
    by_cases h0 : a = 0
    · have hq : (a == 0) = true := by simpa using h0
      have hr : powR P a n = if n < 0 then (0, 10) else if n = 0 then (1, 0) else (0, 0) := by
        subst h0
        unfold powR
        rw [if_pos ⟨hv, hha⟩]
        by_cases hn : 0 ≤ n
        · rw [if_pos hn, if_neg (by omega)]
          by_cases hn0 : n = 0
          · rw [if_pos hn0, hn0, Int.toNat_zero, Nat.pow_zero, Nat.mod_eq_of_lt (by omega)]; rfl
          · rw [if_neg hn0, Int.toNat_zero, Nat.zero_pow (by omega), Nat.zero_mod]; rfl
        · rw [if_neg hn, if_pos rfl, if_pos (by omega)]
      by_cases hn : n < 0
      · have hqn : decide (n < 0) = true := decide_eq_true hn
        rw [if_pos hn] at hr
        rw [hr]
        clear hr hi h hv hha h0
        go_enter Try.func28, Try.ntmps28
        go_wp2_with fail
        refine (HI.out).mono ?_
        rintro e w' ⟨rfl, hb'⟩
        have hc : w'.cell? ⟨w.heap.size, 0, none⟩ = some (.int .i64 P) := by rw [hb'.cell (p := ⟨w.heap.size, 0, none⟩) (by simp)]; simp
        have hb2 := hb.trans (hb'.mono (by simp))
        have HB := Lib.hid hb2
        have hs2 := hb2.size
        clear hb' hb2
        go_wp2_with fail
        go_ret2
        exact ⟨rfl, HB.out⟩
      · have hqn : decide (n < 0) = false := decide_eq_false hn
        rw [if_neg hn] at hr
        by_cases hn0 : n = 0
        · have hqz : (n == 0) = true := by simpa using hn0
          rw [if_pos hn0] at hr
          rw [hr]
          clear hr hi h hv hha h0
          go_enter Try.func28, Try.ntmps28
          go_wp2_with fail
          refine (HI.out).mono ?_
          rintro e w' ⟨rfl, hb'⟩
          have hc : w'.cell? ⟨w.heap.size, 0, none⟩ = some (.int .i64 P) := by rw [hb'.cell (p := ⟨w.heap.size, 0, none⟩) (by simp)]; simp
          have hb2 := hb.trans (hb'.mono (by simp))
          have HB := Lib.hid hb2
          have hs2 := hb2.size
          clear hb' hb2
          go_wp2_with fail
          go_ret2
          exact ⟨rfl, HB.out⟩
        · have hqz : (n == 0) = false := by simpa using hn0
          rw [if_neg hn0] at hr
          rw [hr]
          clear hr hi h hv hha h0
          go_enter Try.func28, Try.ntmps28
          go_wp2_with fail
          refine (HI.out).mono ?_
          rintro e w' ⟨rfl, hb'⟩
          have hc : w'.cell? ⟨w.heap.size, 0, none⟩ = some (.int .i64 P) := by rw [hb'.cell (p := ⟨w.heap.size, 0, none⟩) (by simp)]; simp
          have hb2 := hb.trans (hb'.mono (by simp))
          have HB := Lib.hid hb2
          have hs2 := hb2.size
          clear hb' hb2
          go_wp2_with fail
          go_ret2
          exact ⟨rfl, HB.out⟩
    · have hq : (a == 0) = false := by simpa using h0
      rw [powR_unit hv (by omega) ha.2]
      have h1 := tmod_range n (show 0 < P - 1 by omega)
      have h3 : (n.tmod (P - 1) + (P - 1)).tmod (P - 1) = n % (P - 1) := by rw [Int.tmod_eq_emod_of_nonneg (by omega), tmod_fix n (by omega)]
      have hz1 : (P - 1 == 0) = false := beq_eq_false_iff_ne.2 (by omega)
      have hz2 : ¬ P - 1 = 0 := by omega
      have hw1 : IntKind.i64.wrap (n.tmod (P - 1) + (P - 1)) = n.tmod (P - 1) + (P - 1) := IntWalk.i64_in _ (by omega)
      have e0 := Int.emod_nonneg n (show P - 1 ≠ 0 by omega)
      have e1 := Int.emod_lt_of_pos n (show 0 < P - 1 by omega)
      have hinv := fun W => rPow_any P.toNat a.toNat (n % (P - 1)).toNat W (by omega) (by omega) (by omega) (by omega)
      rw [Int.toNat_of_nonneg (show 0 ≤ P by omega), Int.toNat_of_nonneg ha.1, Int.toNat_of_nonneg e0] at hinv
      unfold pw
      generalize a.toNat ^ (n % (P - 1)).toNat % P.toNat = r at hinv ⊢
      have HV := Lib.hid hinv
      have h3a := h1.1
      have h3b := h1.2
      clear hi h hv hha hinv h0 h1
      go_enter Try.func28, Try.ntmps28
      go_wp2_with fail
      refine (HI.out).mono ?_
      rintro e w' ⟨rfl, hb'⟩
      have hc : w'.cell? ⟨w.heap.size, 0, none⟩ = some (.int .i64 P) := by rw [hb'.cell (p := ⟨w.heap.size, 0, none⟩) (by simp)]; simp
      have hb2 := hb.trans (hb'.mono (by simp))
      have HB := Lib.hid hb2
      have hs2 := hb2.size
      clear hb' hb2
      go_wp2_with fail
      have hlt : w.heap.size < w'.heap.size := block_lt_of_cell hc
      have hv2 : (∀ W : World, Below w'.heap.size w' W → W.cell? ⟨w.heap.size, 0, none⟩ = some (.int .i64 P) → Calls Try.prog 40 #[.agg #[.int .i64 P], .int .i64 a, .int .i64 (n % (P - 1))] W fun e w2 => e = .returned (.int .i64 r) ∧ Below w'.heap.size w' w2 ∧ w2.cell? ⟨w.heap.size, 0, none⟩ = some (.int .i64 P)) :=
        fun W h1 h2 => (HV.out W).mono fun e w2 ⟨he, h3⟩ => ⟨he, h1.trans (h3.mono h1.size), (h3.cell (p := ⟨w.heap.size, 0, none⟩) (Nat.lt_of_lt_of_le hlt h1.size)).trans h2⟩
      have HV2 := Lib.hid hv2
      clear hv2
      go_region_held3 (fun w2 => Below w'.heap.size w' w2 ∧ w2.cell? ⟨w.heap.size, 0, none⟩ = some (.int .i64 P)) (first | exact ⟨(Below.refl _ _).drew, hc⟩ | (refine ⟨?_, ?_⟩ <;> assumption)) (first | (go_at_call 40; refine (HV2.out _ (by first | assumption | exact (Below.refl _ _).drew | exact Below.drew (by assumption)) (by first | assumption | exact hc)).mono ?_; rintro e w2 ⟨rfl, hb4, hc4⟩))
      have hb5 : Below w'.heap.size w' w2 := by assumption
      go_wp2_with fail
      go_ret2
      exact ⟨rfl, HB.out.trans (hb5.mono hs2)⟩
  · have h' : inB P [a] = false := by simpa using h
    rw [h'] at hi
    rw [show powR P a n = (0, 9) from if_neg (fun hh => h (inB_one.2 hh))]
    simp only [World.size_alloc] at hi
    have HI := Lib.hid hi
    clear hi h h'
    go_enter Try.func28, Try.ntmps28
    go_wp2_with fail
    refine (HI.out).mono ?_
    rintro e w' ⟨rfl, hb'⟩
    go_wp2_with fail
    go_ret2
    exact ⟨rfl, hb.trans (hb'.mono (by simp))⟩
end Go.Proofs.Ytihhncejiahdcac.Field
