/- Lists of numbers. -/
import Derived.Test.YtabfajhflaladaaKAcs
namespace Go.Proofs.Ytabfajhflaladaa.Sim
open Go
set_option maxRecDepth 100000
set_option linter.unusedVariables false
set_option linter.unusedSimpArgs false
attribute [local irreducible] Go Mean
def eI (x : Int) : List D := [.at (.int .i64 x)]
abbrev dInts (l : List Int) : D := .sl 1 (l.map eI)
theorem getD_map {α β : Type} (f : α → β) (z : β) (w : α) : ∀ (l : List α) (k : Nat), k < l.length → (l.map f).getD k z = f (l.getD k w)
  | [], k, h => by simp at h
  | x :: l, 0, h => rfl
  | x :: l, k + 1, h => by
    simp only [List.map_cons, List.getD_cons_succ]
    exact getD_map f z w l k (by simpa using h)
theorem drop_get {α : Type} (w : α) : ∀ (l : List α) (k : Nat), k < l.length → l.drop k = l.getD k w :: l.drop (k + 1)
  | [], k, h => by simp at h
  | x :: l, 0, h => rfl
  | x :: l, k + 1, h => by
    simp only [List.drop_succ_cons, List.getD_cons_succ]
    exact drop_get w l k (by simpa using h)
theorem eq_iff_get {α : Type} (z : α) (a b : List α) (h : a.length = b.length) : a = b ↔ ∀ k, k < a.length → a.getD k z = b.getD k z := by
  constructor
  · rintro rfl _ _; rfl
  · intro hk
    apply List.ext_getElem h
    intro i h1 h2
    have := hk i h1
    simpa [List.getD_eq_getElem?_getD, h1, h2] using this
def eR (r : List Int) : List D := [dInts r]
abbrev dRows (l : List (List Int)) : D := .sl 1 (l.map eR)
theorem mem_getD {α : Type} (z : α) (l : List α) (k : Nat) (h : k < l.length) : l.getD k z ∈ l := by
  rw [List.getD_eq_getElem?_getD, List.getElem?_eq_getElem h]; exact List.getElem_mem h
def Short (l : List (List Int)) : Prop := ∀ r ∈ l, r.length ≤ 17592186044416
theorem take_succ_getD {α : Type} (w : α) : ∀ (l : List α) (k : Nat), k < l.length → l.take (k + 1) = l.take k ++ [l.getD k w]
  | [], k, h => by simp at h
  | x :: l, 0, h => by simp
  | x :: l, k + 1, h => by
    have := take_succ_getD w l k (by simpa using h)
    simp only [List.take_succ_cons, List.getD_cons_succ, this, List.cons_append]
end Go.Proofs.Ytabfajhflaladaa.Sim
