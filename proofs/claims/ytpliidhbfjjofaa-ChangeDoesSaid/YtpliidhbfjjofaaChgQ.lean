/- Rows that are set: plain. -/
import Derived.Test.YtpliidhbfjjofaaChgP
namespace Go.Proofs.Ytpliidhbfjjofaa.Sim
open Go
set_option linter.unusedVariables false
/-- Rows, with sets written over them. -/
def setAll : List (List Int) → List PSet → List (List Int)
  | cur, [] => cur
  | cur, s :: r => setAll (cur.set s.idx.toNat s.row) r
theorem setAll_len : ∀ {l : List PSet} {cur : List (List Int)}, (setAll cur l).length = cur.length
  | [], _ => rfl
  | s :: r, cur => by rw [setAll, setAll_len, List.length_set]
theorem getD_set {α : Type} (z : α) (l : List α) (i j : Nat) (x : α) : (l.set i x).getD j z = if i = j ∧ j < l.length then x else l.getD j z := by
  simp only [List.getD_eq_getElem?_getD, List.getElem?_set]
  by_cases h : i = j
  · subst h
    by_cases h2 : i < l.length
    · simp [h2]
    · simp [h2]
  · simp [h]
theorem setAll_get {count : Int} : ∀ {l : List PSet} {last : Int} {cur : List (List Int)}, formGo count last l = true → -1 ≤ last → count ≤ cur.length → ∀ i : Nat, (setAll cur l).getD i [] = (findF i l).getD (cur.getD i [])
  | [], _, _, _, _, _, _ => rfl
  | s :: r, last, cur, h, h0, hc, i => by
    obtain ⟨h1, h2, h3⟩ := formGo_cons.1 h
    have hin := formGo_in h3
    rw [setAll, setAll_get h3 (by omega) (by simpa using hc) i, findF, getD_set]
    by_cases he : s.idx = (i : Int)
    · rw [if_pos he, if_pos (by omega), findF_none fun t ht => by have := hin t ht; omega]
      rfl
    · rw [if_neg he, if_neg (by omega)]
theorem take_succ_getD {α : Type} (w : α) : ∀ (l : List α) (k : Nat), k < l.length → l.take (k + 1) = l.take k ++ [l.getD k w]
  | [], k, h => by simp at h
  | x :: l, 0, h => by simp
  | x :: l, k + 1, h => by
    have := take_succ_getD w l k (by simpa using h)
    simp only [List.take_succ_cons, List.getD_cons_succ, this, List.cons_append]
theorem findF_mem {x : Int} : ∀ {l : List PSet} {r : List Int}, findF x l = some r → ∃ s ∈ l, s.row = r
  | [], r, h => by cases h
  | s :: l, r, h => by
    rw [findF] at h
    split at h
    · cases h; exact ⟨s, by simp, rfl⟩
    · obtain ⟨s', h1, h2⟩ := findF_mem h
      exact ⟨s', by simp [h1], h2⟩
/-- What a change makes of rows. -/
def applyRows (rows : List (List Int)) (c : PChg) : List (List Int) := (List.range c.count.toNat).map fun (i : Nat) => (findF i c.sets).getD (rows.getD i [])
theorem applyRows_len {rows : List (List Int)} {c : PChg} : (applyRows rows c).length = c.count.toNat := by simp [applyRows]
theorem applyRows_get {rows : List (List Int)} {c : PChg} {i : Nat} (h : i < c.count.toNat) : (applyRows rows c).getD i [] = (findF i c.sets).getD (rows.getD i []) := by
  simp [applyRows, List.getD_eq_getElem?_getD, h]
/-- The rows that stay, and room for the others. -/
def baseRows (rows : List (List Int)) (n : Nat) : List (List Int) := (List.range n).map fun i => rows.getD i []
theorem eq_getD (a b : List (List Int)) (h : a.length = b.length) : a = b ↔ ∀ k, k < a.length → a.getD k [] = b.getD k [] := by
  constructor
  · rintro rfl _ _; rfl
  · intro hk
    apply List.ext_getElem h
    intro i h1 h2
    have := hk i h1
    simpa [List.getD_eq_getElem?_getD, h1, h2] using this
theorem setAll_apply {rows : List (List Int)} {c : PChg} (h : formGo c.count (-1) c.sets = true) (h0 : 0 ≤ c.count) (cur : List (List Int)) (hl : cur.length = c.count.toNat) (hg : ∀ i, i < c.count.toNat → cur.getD i [] = rows.getD i []) : setAll cur c.sets = applyRows rows c := by
  apply (eq_getD _ _ (by rw [setAll_len, applyRows_len, hl])).2
  intro k hk
  rw [setAll_len, hl] at hk
  rw [setAll_get h (by omega) (by omega) k, applyRows_get hk, hg k hk]
end Go.Proofs.Ytpliidhbfjjofaa.Sim
