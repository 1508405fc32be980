/- Two changes as one: plain. -/
import Derived.Test.YtpliidhbfjjofaaChgQ
namespace Go.Proofs.Ytpliidhbfjjofaa.Sim
open Go
set_option linter.unusedVariables false
/-- Sets in order, one behind the other; the second ones win. -/
def mergeF (count : Int) : List PSet → List PSet → List PSet
  | [], bs => bs
  | x :: xs, [] => if x.idx < count then x :: mergeF count xs [] else mergeF count xs []
  | x :: xs, y :: bs => if x.idx < y.idx then (if x.idx < count then x :: mergeF count xs (y :: bs) else mergeF count xs (y :: bs)) else if x.idx = y.idx then y :: mergeF count xs bs else y :: mergeF count (x :: xs) bs
termination_by a b => a.length + b.length
theorem formGo_mono {count : Int} : ∀ {l : List PSet} {a b : Int}, a ≤ b → formGo count b l = true → formGo count a l = true
  | [], _, _, _, _ => rfl
  | s :: r, a, b, hab, h => by
    obtain ⟨h1, h2, h3⟩ := formGo_cons.1 h
    exact formGo_cons.2 ⟨by omega, h2, h3⟩
theorem mergeF_form {c1 count : Int} : ∀ {xs bs : List PSet} {last : Int}, formGo c1 last xs = true → formGo count last bs = true → formGo count last (mergeF count xs bs) = true
  | [], bs, last, _, h => by rw [mergeF]; exact h
  | x :: xs, [], last, h, _ => by
    obtain ⟨h1, h2, h3⟩ := formGo_cons.1 h
    rw [mergeF]
    split
    · rename_i hx
      exact formGo_cons.2 ⟨h1, hx, mergeF_form h3 rfl⟩
    · exact mergeF_form (formGo_mono (by omega) h3) rfl
  | x :: xs, y :: bs, last, h, k => by
    obtain ⟨h1, h2, h3⟩ := formGo_cons.1 h
    obtain ⟨k1, k2, k3⟩ := formGo_cons.1 k
    rw [mergeF]
    split
    · rename_i hx
      rw [if_pos (by omega)]
      exact formGo_cons.2 ⟨h1, by omega, mergeF_form h3 (formGo_cons.2 ⟨hx, k2, k3⟩)⟩
    · split
      · rename_i hx he
        exact formGo_cons.2 ⟨k1, k2, mergeF_form (he ▸ h3) k3⟩
      · exact formGo_cons.2 ⟨k1, k2, mergeF_form (formGo_cons.2 ⟨by omega, h2, h3⟩) k3⟩
termination_by xs bs => xs.length + bs.length
theorem findF_low {count last : Int} {l : List PSet} (h : formGo count last l = true) {i : Int} (hi : i ≤ last) : findF i l = none :=
  findF_none fun s hs => by have := formGo_in h s hs; omega
theorem findF_high {count last : Int} {l : List PSet} (h : formGo count last l = true) {i : Int} (hi : count ≤ i) : findF i l = none :=
  findF_none fun s hs => by have := formGo_in h s hs; omega
theorem mergeF_find {c1 count : Int} (i : Int) (hi : i < count) : ∀ {xs bs : List PSet} {last : Int}, formGo c1 last xs = true → formGo count last bs = true → findF i (mergeF count xs bs) = (findF i bs).or (findF i xs)
  | [], bs, last, _, h => by rw [mergeF]; simp [findF]
  | x :: xs, [], last, h, _ => by
    obtain ⟨h1, h2, h3⟩ := formGo_cons.1 h
    have ih := mergeF_find i hi (bs := []) h3 rfl
    rw [mergeF]
    split
    · simp only [findF, ih, Option.none_or]
    · rename_i hx
      rw [ih]
      simp only [findF, Option.none_or]
      rw [if_neg (by omega)]
  | x :: xs, y :: bs, last, h, k => by
    obtain ⟨h1, h2, h3⟩ := formGo_cons.1 h
    obtain ⟨k1, k2, k3⟩ := formGo_cons.1 k
    rw [mergeF]
    split
    · rename_i hx
      rw [if_pos (by omega), findF, mergeF_find i hi h3 (formGo_cons.2 ⟨hx, k2, k3⟩)]
      by_cases he : x.idx = i
      · rw [if_pos he, findF_low (formGo_cons.2 ⟨hx, k2, k3⟩) (by omega), Option.none_or, findF, if_pos he]
      · rw [if_neg he]; congr 1; rw [findF, if_neg he]
    · split
      · rename_i hx he
        rw [findF, mergeF_find i hi (he ▸ h3) k3, findF, findF]
        by_cases hy : y.idx = i
        · rw [if_pos hy, if_pos hy]; rfl
        · rw [if_neg hy, if_neg hy, if_neg (by omega)]
      · rename_i hx he
        rw [findF, mergeF_find i hi (formGo_cons.2 ⟨by omega, h2, h3⟩ : formGo c1 y.idx (x :: xs) = true) k3]
        by_cases hy : y.idx = i
        · rw [if_pos hy, findF, if_pos hy]; rfl
        · rw [if_neg hy]; congr 1; rw [findF, if_neg hy]
termination_by xs bs => xs.length + bs.length
theorem findF_cons_ne {i : Int} {s : PSet} {r : List PSet} (h : s.idx ≠ i) : findF i (s :: r) = findF i r := by rw [findF, if_neg h]
theorem findF_cons_eq {s : PSet} {r : List PSet} : findF s.idx (s :: r) = some s.row := by rw [findF, if_pos rfl]
/-- Sets in order are those that are found. -/
theorem formGo_ext {count : Int} : ∀ {l l' : List PSet} {last : Int}, formGo count last l = true → formGo count last l' = true → (∀ i, last < i → i < count → findF i l = findF i l') → l = l'
  | [], [], _, _, _, _ => rfl
  | [], y :: l', last, _, h, hf => by
    obtain ⟨h1, h2, h3⟩ := formGo_cons.1 h
    have := hf y.idx h1 h2
    rw [findF_cons_eq] at this
    cases this
  | x :: l, [], last, h, _, hf => by
    obtain ⟨h1, h2, h3⟩ := formGo_cons.1 h
    have := hf x.idx h1 h2
    rw [findF_cons_eq] at this
    cases this
  | x :: l, y :: l', last, h, k, hf => by
    obtain ⟨h1, h2, h3⟩ := formGo_cons.1 h
    obtain ⟨k1, k2, k3⟩ := formGo_cons.1 k
    have he : x.idx = y.idx := by
      rcases Int.lt_trichotomy x.idx y.idx with hl | hl | hl
      · have := hf x.idx h1 h2
        rw [findF_cons_eq, findF_low (formGo_cons.2 ⟨hl, k2, k3⟩) (by omega)] at this
        cases this
      · exact hl
      · have := hf y.idx k1 k2
        rw [findF_cons_eq, findF_low (formGo_cons.2 ⟨hl, h2, h3⟩) (by omega)] at this
        cases this
    have hr := hf x.idx h1 h2
    rw [findF_cons_eq] at hr
    rw [he, findF_cons_eq] at hr
    have hxy : x = y := by
      cases x; cases y
      simp only [PSet.mk.injEq]
      simp only at he
      refine ⟨he, by simpa using hr⟩
    subst hxy
    rw [formGo_ext h3 k3 fun i hi hc => by
      have := hf i (by omega) hc
      rwa [findF_cons_ne (by omega), findF_cons_ne (by omega)] at this]
/-- What is found, from an index on. -/
def pickF (g : Int → Option (List Int)) : Nat → Int → List PSet
  | 0, _ => []
  | n + 1, i => match g i with
    | some r => ⟨i, r⟩ :: pickF g n (i + 1)
    | none => pickF g n (i + 1)
theorem pickF_form {g : Int → Option (List Int)} {count : Int} : ∀ {n : Nat} {i last : Int}, last < i → i + n ≤ count → formGo count last (pickF g n i) = true
  | 0, i, last, _, _ => rfl
  | n + 1, i, last, h, hc => by
    rw [pickF]
    split
    · exact formGo_cons.2 ⟨h, by simp only; omega, pickF_form (by simp only; omega) (by omega)⟩
    · exact pickF_form (by omega) (by omega)
theorem pickF_find {g : Int → Option (List Int)} {j : Int} : ∀ {n : Nat} {i : Int}, i ≤ j → j < i + n → findF j (pickF g n i) = g j
  | 0, i, h, hc => by omega
  | n + 1, i, h, hc => by
    rw [pickF]
    by_cases e : i = j
    · subst e
      split
      · rename_i r hr; rw [findF, if_pos rfl]; exact hr.symm
      · rename_i hr
        rw [hr]
        exact findF_low (pickF_form (count := i + 1 + n) (last := i) (by omega) (by omega)) (by omega)
    · split
      · rw [findF, if_neg e]; exact pickF_find (by omega) (by omega)
      · exact pickF_find (by omega) (by omega)
theorem mergeF_pick {c1 count : Int} {xs bs : List PSet} (h : formGo c1 (-1) xs = true) (k : formGo count (-1) bs = true) (h0 : 0 ≤ count) : mergeF count xs bs = pickF (fun i => (findF i bs).or (findF i xs)) count.toNat 0 :=
  formGo_ext (mergeF_form h k) (pickF_form (by omega) (by omega)) fun i h1 h2 => by rw [mergeF_find i h2 h k, pickF_find (by omega) (by omega)]
theorem pickF_succ {g : Int → Option (List Int)} : ∀ {n : Nat} {i : Int}, pickF g (n + 1) i = pickF g n i ++ (match g (i + n) with | some r => [⟨i + n, r⟩] | none => [])
  | 0, i => by
    rw [show i + ((0 : Nat) : Int) = i by omega, pickF, pickF]
    cases g i <;> simp [pickF]
  | n + 1, i => by
    rw [pickF, pickF_succ (n := n) (i := i + 1), show i + 1 + (n : Int) = i + ((n + 1 : Nat) : Int) by omega, pickF]
    cases g i <;> rfl
end Go.Proofs.Ytpliidhbfjjofaa.Sim
