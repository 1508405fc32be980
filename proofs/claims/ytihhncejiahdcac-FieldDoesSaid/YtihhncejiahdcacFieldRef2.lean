/- The reference's sums, differences and products. -/
import Derived.Test.YtihhncejiahdcacFieldRef
namespace Go.Proofs.Ytihhncejiahdcac.Field
open Go Go.RowKit
set_option linter.unusedVariables false

theorem rAdd_any (P a b : Int) (w : World) : Calls Try.prog 24 #[.agg #[.int .i64 P], .int .i64 a, .int .i64 b] w fun e w' => e = .returned (.tuple #[.int .i64 (addR P a b).1, .int .i64 (addR P a b).2]) ∧ Below w.heap.size w w' := by
  have hb := (Below.refl w.heap.size w).alloc (Nat.le_refl _) (.cells #[.int .i64 P] 27)
  have hi := rIn_two P a b (w.alloc (.cells #[.int .i64 P] 27))
  by_cases h : inB P [a, b] = true
  · rw [h] at hi
    have hh := inB_two.1 h
    rw [show addR P a b = ((a + b) % P, 0) from if_pos hh]
    have h1 := hh.1.1
    have h2 := hh.1.2.1
    have ha : 0 ≤ a ∧ a < P := by simpa [hasB] using hh.2.1
    have hbb : 0 ≤ b ∧ b < P := by simpa [hasB] using hh.2.2
    have hz1 : (P == 0) = false := beq_eq_false_iff_ne.2 (by omega)
    have hz2 : ¬ P = 0 := by omega
    have hw1 : IntKind.i64.wrap (a + b) = a + b := IntWalk.i64_in _ (by omega)
    have het : (a + b).tmod P = (a + b) % P := Int.tmod_eq_emod_of_nonneg (by omega)
    simp only [World.size_alloc] at hi
    have HI := Lib.hid hi
    clear hi h hh
    go_enter Try.func24, Try.ntmps24
    go_wp2_with fail
    refine (HI.out).mono ?_
    rintro e w' ⟨rfl, hb'⟩
    have hc : w'.cell? ⟨w.heap.size, 0, none⟩ = some (.int .i64 P) := by rw [hb'.cell (p := ⟨w.heap.size, 0, none⟩) (by simp)]; simp
    have HB := Lib.hid (hb.trans (hb'.mono (by simp)))
    clear hb'
    go_wp2_with fail
    go_ret2
    exact ⟨rfl, HB.out⟩
  · have h' : inB P [a, b] = false := by simpa using h
    rw [h'] at hi
    rw [show addR P a b = (0, 9) from if_neg (fun hh => h (inB_two.2 hh))]
    simp only [World.size_alloc] at hi
    have HI := Lib.hid hi
    clear hi h h'
    go_enter Try.func24, Try.ntmps24
    go_wp2_with fail
    refine (HI.out).mono ?_
    rintro e w' ⟨rfl, hb'⟩
    go_wp2_with fail
    go_ret2
    exact ⟨rfl, hb.trans (hb'.mono (by simp))⟩

theorem rSub_any (P a b : Int) (w : World) : Calls Try.prog 25 #[.agg #[.int .i64 P], .int .i64 a, .int .i64 b] w fun e w' => e = .returned (.tuple #[.int .i64 (subR P a b).1, .int .i64 (subR P a b).2]) ∧ Below w.heap.size w w' := by
  have hb := (Below.refl w.heap.size w).alloc (Nat.le_refl _) (.cells #[.int .i64 P] 27)
  have hi := rIn_two P a b (w.alloc (.cells #[.int .i64 P] 27))
  by_cases h : inB P [a, b] = true
  · rw [h] at hi
    have hh := inB_two.1 h
    rw [show subR P a b = ((a - b) % P, 0) from if_pos hh]
    have h1 := hh.1.1
    have h2 := hh.1.2.1
    have ha : 0 ≤ a ∧ a < P := by simpa [hasB] using hh.2.1
    have hbb : 0 ≤ b ∧ b < P := by simpa [hasB] using hh.2.2
    have hz1 : (P == 0) = false := beq_eq_false_iff_ne.2 (by omega)
    have hz2 : ¬ P = 0 := by omega
    have hw1 : IntKind.i64.wrap (a + P) = a + P := IntWalk.i64_in _ (by omega)
    have hw2 : IntKind.i64.wrap (a + P - b) = a + P - b := IntWalk.i64_in _ (by omega)
    have het : (a + P - b).tmod P = (a - b) % P := by rw [Int.tmod_eq_emod_of_nonneg (by omega), show a + P - b = a - b + P by omega, Int.add_emod_right]
    simp only [World.size_alloc] at hi
    have HI := Lib.hid hi
    clear hi h hh
    go_enter Try.func25, Try.ntmps25
    go_wp2_with fail
    refine (HI.out).mono ?_
    rintro e w' ⟨rfl, hb'⟩
    have hc : w'.cell? ⟨w.heap.size, 0, none⟩ = some (.int .i64 P) := by rw [hb'.cell (p := ⟨w.heap.size, 0, none⟩) (by simp)]; simp
    have HB := Lib.hid (hb.trans (hb'.mono (by simp)))
    clear hb'
    go_wp2_with fail
    go_ret2
    exact ⟨rfl, HB.out⟩
  · have h' : inB P [a, b] = false := by simpa using h
    rw [h'] at hi
    rw [show subR P a b = (0, 9) from if_neg (fun hh => h (inB_two.2 hh))]
    simp only [World.size_alloc] at hi
    have HI := Lib.hid hi
    clear hi h h'
    go_enter Try.func25, Try.ntmps25
    go_wp2_with fail
    refine (HI.out).mono ?_
    rintro e w' ⟨rfl, hb'⟩
    go_wp2_with fail
    go_ret2
    exact ⟨rfl, hb.trans (hb'.mono (by simp))⟩

theorem rMul_any (P a b : Int) (w : World) : Calls Try.prog 26 #[.agg #[.int .i64 P], .int .i64 a, .int .i64 b] w fun e w' => e = .returned (.tuple #[.int .i64 (mulR P a b).1, .int .i64 (mulR P a b).2]) ∧ Below w.heap.size w w' := by
  have hb := (Below.refl w.heap.size w).alloc (Nat.le_refl _) (.cells #[.int .i64 P] 27)
  have hi := rIn_two P a b (w.alloc (.cells #[.int .i64 P] 27))
  by_cases h : inB P [a, b] = true
  · rw [h] at hi
    have hh := inB_two.1 h
    rw [show mulR P a b = (a * b % P, 0) from if_pos hh]
    have h1 := hh.1.1
    have h2 := hh.1.2.1
    have ha : 0 ≤ a ∧ a < P := by simpa [hasB] using hh.2.1
    have hbb : 0 ≤ b ∧ b < P := by simpa [hasB] using hh.2.2
    have hz1 : (P == 0) = false := beq_eq_false_iff_ne.2 (by omega)
    have hz2 : ¬ P = 0 := by omega
    have hab : 0 ≤ a * b := Int.mul_nonneg ha.1 hbb.1
    have hab2 : a * b ≤ 65521 * 65521 := Int.le_trans (Int.mul_le_mul_of_nonneg_left (show b ≤ 65521 by omega) ha.1) (Int.mul_le_mul_of_nonneg_right (show a ≤ 65521 by omega) (by decide))
    have hw1 : IntKind.i64.wrap (a * b) = a * b := IntWalk.i64_in _ (by omega)
    have het : (a * b).tmod P = a * b % P := Int.tmod_eq_emod_of_nonneg (by omega)
    simp only [World.size_alloc] at hi
    have HI := Lib.hid hi
    clear hi h hh
    go_enter Try.func26, Try.ntmps26
    go_wp2_with fail
    refine (HI.out).mono ?_
    rintro e w' ⟨rfl, hb'⟩
    have hc : w'.cell? ⟨w.heap.size, 0, none⟩ = some (.int .i64 P) := by rw [hb'.cell (p := ⟨w.heap.size, 0, none⟩) (by simp)]; simp
    have HB := Lib.hid (hb.trans (hb'.mono (by simp)))
    clear hb'
    go_wp2_with fail
    go_ret2
    exact ⟨rfl, HB.out⟩
  · have h' : inB P [a, b] = false := by simpa using h
    rw [h'] at hi
    rw [show mulR P a b = (0, 9) from if_neg (fun hh => h (inB_two.2 hh))]
    simp only [World.size_alloc] at hi
    have HI := Lib.hid hi
    clear hi h h'
    go_enter Try.func26, Try.ntmps26
    go_wp2_with fail
    refine (HI.out).mono ?_
    rintro e w' ⟨rfl, hb'⟩
    go_wp2_with fail
    go_ret2
    exact ⟨rfl, hb.trans (hb'.mono (by simp))⟩
end Go.Proofs.Ytihhncejiahdcac.Field
