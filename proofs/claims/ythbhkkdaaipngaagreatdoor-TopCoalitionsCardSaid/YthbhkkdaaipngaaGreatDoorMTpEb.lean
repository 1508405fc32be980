/- What one server sees of two reads, counted: the walk. -/
import Derived.Test.YthbhkkdaaipngaaGreatDoorMTpEa
import Derived.Test.YthbhkkdaaipngaaGreatDoorMTpDb
import Derived.Test.YthbhkkdaaipngaaGreatDoorMTpCq2
namespace Go.Proofs.YthbhkkdaaipngaaGreatDoor.Sim
open Go Go.RowKit Go.Deep
set_option maxRecDepth 100000
set_option maxHeartbeats 8000000
set_option linter.unusedVariables false
set_option linter.unusedSimpArgs false
attribute [local irreducible] Go Mean
theorem cntN_le {view : Nat → Int} {N : Nat} : ∀ {K v : Nat}, 0 ≤ (cntN view N K).getD v 0 ∧ (cntN view N K).getD v 0 ≤ (K : Int)
  | 0, v => by
    rw [cntN, List.getD_eq_getElem?_getD, List.getElem?_replicate]
    split <;> simp
  | K + 1, v => by
    have h1 := cntN_le (view := view) (N := N) (K := K) (v := v)
    have h2 := cntN_le (view := view) (N := N) (K := K) (v := (view K).toNat)
    rw [cntN, List.getD_eq_getElem?_getD, List.getElem?_set]
    split
    · split
      · simp only [Option.getD_some]; omega
      · simp; omega
    · rw [← List.getD_eq_getElem?_getD]; omega
theorem atF_in {b : Int} (hb : 1 ≤ b) : ∀ (n : Nat) (x : Int), (atF (List.replicate n b) x).all (inE b) = true
  | 0, x => rfl
  | n + 1, x => by
    have h1 := Int.emod_nonneg x (show b ≠ 0 by omega)
    have h2 := Int.emod_lt_of_pos x (show 0 < b by omega)
    simp only [List.replicate_succ, atF, List.all_cons, Bool.and_eq_true, inE]
    exact ⟨⟨decide_eq_true h1, decide_eq_true h2⟩, atF_in hb n _⟩
theorem tapeOK_of {p : Int} {nums : List Int} {at_ count : Nat} (h : nums.all (inE p) = true) (h1 : at_ + count ≤ nums.length) (h2 : nums.length ≤ 16384) : TapeOK nums at_ p count :=
  ⟨h2, h1, fun i hi => all_getD h (by omega)⟩
/-- The index that is asked for. -/
theorem rem_ok {a : Int} {n : Nat} (h : 0 ≤ a ∧ a ≤ 255) (hn : 1 ≤ n) : ∃ i : Nat, i < n ∧ a.tmod (n : Int) = (i : Int) := by
  refine ⟨(a % n).toNat, ?_, ?_⟩
  · have := Int.emod_lt_of_pos a (show (0 : Int) < n by omega)
    have := Int.emod_nonneg a (show (n : Int) ≠ 0 by omega)
    omega
  · rw [Int.tmod_eq_emod_of_nonneg h.1]
    have := Int.emod_nonneg a (show (n : Int) ≠ 0 by omega)
    omega
end Go.Proofs.YthbhkkdaaipngaaGreatDoor.Sim
