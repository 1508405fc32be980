/- Sets in order: plain. -/
import Derived.Test.YtpliidhbfjjofaaChgA
namespace Go.Proofs.Ytpliidhbfjjofaa.Sim
open Go
set_option linter.unusedVariables false
/-- The row that is set at an index. -/
def findF (x : Int) : List PSet → Option (List Int)
  | [] => none
  | s :: r => if s.idx = x then some s.row else findF x r
theorem formGo_cons {count last : Int} {s : PSet} {r : List PSet} : formGo count last (s :: r) = true ↔ last < s.idx ∧ s.idx < count ∧ formGo count s.idx r = true := by
  rw [formGo]
  split
  · constructor
    · intro h; cases h
    · rintro ⟨h1, h2, _⟩; omega
  · exact ⟨fun h => ⟨by omega, by omega, h⟩, fun h => h.2.2⟩
theorem formGo_in {count : Int} : ∀ {l : List PSet} {last : Int}, formGo count last l = true → ∀ s ∈ l, last < s.idx ∧ s.idx < count
  | [], _, _ => by simp
  | s :: r, last, h => by
    obtain ⟨h1, h2, h3⟩ := formGo_cons.1 h
    intro t ht
    rcases List.mem_cons.1 ht with rfl | ht
    · exact ⟨h1, h2⟩
    · have := formGo_in h3 t ht
      omega
theorem formGo_len {count : Int} : ∀ {l : List PSet} {last : Int}, formGo count last l = true → last < count → (l.length : Int) ≤ count - 1 - last
  | [], _, _, _ => by simp; omega
  | s :: r, last, h, hl => by
    obtain ⟨h1, h2, h3⟩ := formGo_cons.1 h
    have := formGo_len h3 h2
    simp only [List.length_cons]
    omega
theorem findF_none {x : Int} : ∀ {l : List PSet}, (∀ s ∈ l, s.idx ≠ x) → findF x l = none
  | [], _ => rfl
  | s :: r, h => by
    rw [findF, if_neg (h s List.mem_cons_self)]
    exact findF_none fun t ht => h t (List.mem_cons_of_mem _ ht)
theorem behindF_all {x : Int} {l : List PSet} (h : ∀ s ∈ l, s.idx ≥ x) : behindF x l = l.length := by
  rw [behindF, List.countP_eq_length]
  exact fun s hs => by simpa using h s hs
theorem behind_all {count : Int} : ∀ {l : List PSet} {last x : Int}, formGo count last l = true → ((behindF x l : Int) = max 0 (count - x) ↔ ∀ i, x ≤ i → i < count → (findF i l).isSome = true)
  | [], last, x, h => by
    simp only [behindF, List.countP_nil, findF, Option.isSome_none]
    constructor
    · intro h2 i h3 h4; exfalso; have : (0 : Int) = max 0 (count - x) := h2; omega
    · intro h2
      have : ¬x < count := fun h3 => by have := h2 x (Int.le_refl _) h3; cases this
      show (0 : Int) = max 0 (count - x)
      omega
  | s :: r, last, x, h => by
    obtain ⟨h1, h2, h3⟩ := formGo_cons.1 h
    have hin := formGo_in h3
    have hlen := formGo_len h3 h2
    by_cases hx : s.idx < x
    · have e1 : behindF x (s :: r) = behindF x r := by simp only [behindF, List.countP_cons]; rw [if_neg (by simpa using hx)]; rfl
      rw [e1, behind_all h3]
      constructor
      · intro g i g1 g2; rw [findF, if_neg (by omega)]; exact g i g1 g2
      · intro g i g1 g2; have := g i g1 g2; rwa [findF, if_neg (by omega)] at this
    · have e1 : behindF x (s :: r) = (s :: r).length := behindF_all fun t ht => by
        rcases List.mem_cons.1 ht with rfl | ht
        · omega
        · have := hin t ht; omega
      rw [e1, List.length_cons]
      by_cases he : s.idx = x
      · have e2 : behindF (x + 1) r = r.length := behindF_all fun t ht => by have := hin t ht; omega
        have ih := behind_all (x := x + 1) h3
        rw [e2] at ih
        constructor
        · intro g i g1 g2
          rw [findF]
          split
          · rfl
          · exact (ih.1 (by omega)) i (by omega) g2
        · intro g
          have := ih.2 fun i g1 g2 => by have := g i (by omega) g2; rwa [findF, if_neg (by omega)] at this
          omega
      · constructor
        · intro g; exfalso; omega
        · intro g
          have := g x (Int.le_refl _) (by omega)
          rw [findF_none fun t ht => by
            rcases List.mem_cons.1 ht with rfl | ht
            · exact he
            · have := hin t ht; omega] at this
          cases this
end Go.Proofs.Ytpliidhbfjjofaa.Sim
