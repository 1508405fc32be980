/- Checks that a word is within the radius, by reckoning. -/
import Derived.Test.YthbhkkdaaipngaaGreatDoorMTpY
namespace Go.Proofs.YthbhkkdaaipngaaGreatDoor.Sim
open Go Go.RowKit Go.Deep
open Go.Proofs.YthbhkkdaaipngaaGreatDoor.Tw (WCell kn kn_len kn_all kn_next)
set_option maxRecDepth 100000
set_option maxHeartbeats 4000000
def fillB (p : Int) (l : List WCell) (k : Nat) : Bool := (List.range ((knS l).take k).length).all fun j => decide (0 < valF p (intN p ((knS l).take k) j).2 (((knS l).take k).getD j (0, 0)).1)
theorem fillB_ok {p : Int} {l : List WCell} {k : Nat} (h : fillB p l k = true) : FillOK p l k := fun j hj => by
  have := List.all_eq_true.1 h j (List.mem_range.2 hj)
  exact of_decide_eq_true this
def decB (p : Int) (l : List WCell) (k : Nat) : Bool := fillB p l k && okZ (k + 2 * decW l k) ((decS p l k).1.drop (decS p l k).2.1) && (trimF (decD p l k).1).isEmpty && decide ((decP p l k).length ≤ k) && decide ((wrN p (decP p l k) 0 l).length ≤ decW l k)
theorem decB_ok {p : Int} {l : List WCell} {k : Nat} (h : decB p l k = true) : DecOK p l k := by
  unfold decB at h
  simp only [Bool.and_eq_true, decide_eq_true_eq, List.isEmpty_iff] at h
  obtain ⟨⟨⟨⟨h1, h2⟩, h3⟩, h4⟩, h5⟩ := h
  exact ⟨fillB_ok h1, h2, h3, h4, h5⟩
def onceA (l : List Int) : Bool := (List.range (l.length - 1)).all fun i => l.getD (i + 1) 0 != l.getD i 0
def colsB (p : Int) (need w : Nat) (l : List PAns) : Bool := ((List.range w).all fun i => decB p (colC i l) need) && decide ((wrgsF p need w l).length ≤ 12) && onceA (sortF (wrgsF p need w l))
theorem colsB_ok {p : Int} {need w : Nat} {l : List PAns} (h : colsB p need w l = true) : ColsOK p need w l := by
  unfold colsB at h
  simp only [Bool.and_eq_true, decide_eq_true_eq, List.all_eq_true, List.mem_range] at h
  obtain ⟨⟨h1, h2⟩, h3⟩ := h
  refine ⟨fun i hi => decB_ok (h1 i hi), h2, fun i hi => ?_⟩
  have := List.all_eq_true.1 h3 i (List.mem_range.2 (by omega))
  simpa using this
def awA : List PAns := [⟨true, [3, 0]⟩, ⟨false, []⟩, ⟨true, [3, 2]⟩]
theorem awA_ok : colsB 5 2 2 awA = true := by kernel_rfl
theorem awA_row : heads (polysF 5 2 2 awA) = [3, 4] := by kernel_rfl
theorem awA_wr : sortF (wrgsF 5 2 2 awA) = [] := by kernel_rfl
theorem root_le {d r p : Int} (h0 : 2 ≤ d) (h : d * d ≤ p) (hr0 : 0 ≤ r) (hr : p < (r + 1) * (r + 1)) : d ≤ r := by
  rcases Int.lt_or_le r d with h1 | h1
  · have := Int.mul_le_mul (show r + 1 ≤ d by omega) (show r + 1 ≤ d by omega) (by omega) (by omega)
    omega
  · exact h1
theorem field5 : fieldB 5 = true := fieldB_iff.2 ⟨by decide, by decide, fun d h1 h2 => by
  have := root_le (r := 2) h1 h2 (by decide) (by decide)
  obtain rfl : d = 2 := by omega
  decide⟩
end Go.Proofs.YthbhkkdaaipngaaGreatDoor.Sim
