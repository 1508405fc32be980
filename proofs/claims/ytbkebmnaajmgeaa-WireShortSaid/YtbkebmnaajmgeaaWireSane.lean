/- The sanity check of the statements about wire. -/
import Derived.Test.YtbkebmnaajmgeaaWirePuts
import Derived.Test.YtbkebmnaajmgeaaWireGet
namespace Go.Proofs.Ytbkebmnaajmgeaa.Wire
open Go Go.RowKit
set_option linter.unusedVariables false

theorem vb64 : putB 64 = [128, 1] := by
  unfold putB
  rw [show zz 64 = 128 from rfl, vb_big (by decide), vb_small (by decide)]
  rfl
theorem vbm1 : putB (-1) = [1] := by
  unfold putB
  rw [show zz (-1) = 1 from rfl, vb_small (by decide)]
  rfl

theorem s1 (w : World) : Calls Try.prog 8 #[.string ⟨#[128, 1]⟩, .int .i64 0] w fun e w' => e = .returned (.tuple #[.int .i64 64, .int .i64 2, .int .i64 0]) ∧ w = w' := by
  refine (wInt_any [128, 1] 0 w (by decide)).mono fun e w' h => ?_
  rw [IntPost, show getI [128, 1] 0 = (64, 2, 0) by decide] at h
  exact h
theorem s2 (w : World) : Calls Try.prog 8 #[.string ⟨#[128, 0]⟩, .int .i64 0] w fun e w' => e = .returned (.tuple #[.int .i64 0, .int .i64 0, .int .i64 2]) ∧ w = w' := by
  refine (wInt_any [128, 0] 0 w (by decide)).mono fun e w' h => ?_
  rw [IntPost, show getI [128, 0] 0 = (0, 0, 2) by decide] at h
  exact h
theorem s3 (w : World) : Calls Try.prog 5 #[.string ⟨#[]⟩, .int .i64 64] w fun e w' => e = .returned (.string ⟨#[128, 1]⟩) ∧ Below w.heap.size w w' := by
  refine (wPutInt_any [] 64 w (by decide) (by decide) (by decide)).mono fun e w' h => ?_
  rw [vb64] at h
  exact h
theorem s4 (w : World) : Calls Try.prog 5 #[.string ⟨#[97]⟩, .int .i64 (-1)] w fun e w' => e = .returned (.string ⟨#[97, 1]⟩) ∧ Below w.heap.size w w' := by
  refine (wPutInt_any [97] (-1) w (by decide) (by decide) (by decide)).mono fun e w' h => ?_
  rw [vbm1] at h
  exact h

theorem sane_any (w : World) : Calls Try.prog 4 #[] w fun e w' => e = .returned (.bool true) ∧ Below w.heap.size w w' := by
  go_enter Try.func4, Try.ntmps4
  go_wp2_with fail
  refine (s1 _).mono ?_
  rintro e w1 ⟨rfl, rfl⟩
  go_wp2_with fail
  refine (s2 _).mono ?_
  rintro e w1 ⟨rfl, rfl⟩
  go_wp2_with fail
  refine (s3 _).mono ?_
  rintro e w1 ⟨rfl, hb1⟩
  go_wp2_with fail
  refine (s4 _).mono ?_
  rintro e w2 ⟨rfl, hb2⟩
  go_wp2_with fail
  go_ret
  exact ⟨rfl, hb1.trans (hb2.mono hb1.size)⟩
end Go.Proofs.Ytbkebmnaajmgeaa.Wire
