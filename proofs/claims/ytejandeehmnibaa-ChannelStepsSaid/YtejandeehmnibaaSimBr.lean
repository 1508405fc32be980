/- From what a call does to what a statement asks: of no program. Conditions: none. -/
import Derived.Test.YtejandeehmnibaaSimZ
import Derived.Test.YtejandeehmnibaaOpens
import Derived.Below
namespace Go.Proofs.Ytejandeehmnibaa.Sim
open Go Go.RowKit Go.Deep
/-- It returns true, and nothing that was there turns. -/
def IsTrueS (w : World) (e : Ending) (w' : World) : Prop := e = .returned (.bool true) ∧ Below w.heap.size w w'
set_option linter.unusedVariables false
theorem rows_of {α : Type} [Rep α] (f : α → List D) (hf : ∀ w S cs x, Rep.is w S cs x → Cells w S (f x) cs) {w : World} {S : Nat → Prop} : ∀ (l : List α) (xs : List Value), Chunks w S xs l → Rows w S (Rep.sz α) (l.map f) xs
  | [], xs, h => by simp only [Rows, List.map_nil]; exact h
  | a :: l, xs, h => by
    obtain ⟨x, r, rfl, h1, h2⟩ := h
    simp only [Rows, List.map_cons]
    have hc := hf _ _ _ _ h1
    exact ⟨x, r, rfl, by rw [← hc.len]; exact Rep.len h1, hc, rows_of f hf l r h2⟩
/-- A list that lies in memory is data. -/
theorem lst_sl {α : Type} [Rep α] (f : α → List D) (hf : ∀ w S cs x, Rep.is w S cs x → Cells w S (f x) cs) {w : World} {S : Nat → Prop} {v : Value} {l : List α} (h : Lst w S v l) : (D.sl (Rep.sz α) (l.map f)).is w S v := by
  obtain ⟨xs, a, cap, rfl, h1, h2, h3, h4⟩ := h
  simp only [D.is]
  exact ⟨a, cap, xs, by rw [List.length_map], by rw [List.length_map]; exact h1, h2, rows_of f hf l xs h3, fun h0 => h4 (by rw [List.length_map] at h0; exact h0)⟩
theorem int_cells : ∀ (w : World) (S : Nat → Prop) (cs : List Value) (x : Int), Rep.is w S cs x → Cells w S [.at (.int .i64 x)] cs := by
  rintro w S cs x ⟨rfl, _⟩
  simp only [Cells, D.is]
  exact ⟨_, _, rfl, ⟨rfl, rfl⟩, rfl⟩
theorem u8_cells : ∀ (w : World) (S : Nat → Prop) (cs : List Value) (x : UInt8), Rep.is w S cs x → Cells w S [.at (.int .u8 x.toNat)] cs := by
  rintro w S cs x rfl
  simp only [Cells, D.is]
  exact ⟨_, _, rfl, ⟨rfl, rfl⟩, rfl⟩
theorem list_cells {α : Type} [Rep α] (f : α → List D) (hf : ∀ w S cs x, Rep.is w S cs x → Cells w S (f x) cs) : ∀ (w : World) (S : Nat → Prop) (cs : List Value) (l : List α), Rep.is w S cs l → Cells w S [.sl (Rep.sz α) (l.map f)] cs := by
  rintro w S cs l ⟨v, rfl, h⟩
  simp only [Cells]
  exact ⟨_, _, rfl, lst_sl f hf h, rfl⟩
/-- WHAT A STATEMENT ASKS. -/
theorem calls_true {P : Program} {f : FuncId} {xs : List V} {us : List Value} {w : World} {hd : H} (h : Does P f xs [] (B true) [] []) (hv : VRs M0 hd w (Lo w.heap.size) xs us) : Calls P f us.toArray w (IsTrueS w) := by
  have hm : Mem (ups M0 []) hd w (Lo w.heap.size) (fun _ => False) w.heap.size :=
    ⟨fun i o h => (by simp only [ups] at h; cases h), fun i j oi oj b _ h => (by simp only [ups] at h; cases h), fun b h => h, Nat.le_refl _, fun b h => h.elim⟩
  refine (h w hd _ _ us hm hv).mono ?_
  rintro e w' ⟨u, hd', S', rfl, hfr, _, hu, _⟩
  have : u = .bool true := by simp only [B, VR, D.is] at hu; exact hu.1
  subst this
  exact ⟨rfl, ⟨hfr.os, hfr.tape, hfr.output, hfr.size, fun k hk => hfr.block k hk fun h => h⟩⟩
end Go.Proofs.Ytejandeehmnibaa.Sim
