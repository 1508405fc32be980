/- Parts of views: plain. -/
import Derived.Test.YtihjmnhjjpdenaaLVwI
import Derived.Test.YtihjmnhjjpdenaaLVwP
namespace Go.Proofs.Ytihjmnhjjpdenaa.Sim
open Go
set_option linter.unusedVariables false
set_option linter.unusedSimpArgs false
open Go.Proofs.Ytihjmnhjjpdenaa.Vw (flatQ)
theorem okQ.sm {p : Int} {sv : Nat} {qs : List (List (List Int))} (h : ∀ q ∈ qs, okQ p sv q) (h1 : qs.length ≤ 3) (h2 : sv ≤ 6) : smQ qs :=
  ⟨by omega, fun q hq => ⟨by have := (h q hq).1; omega, fun x hx => by have := ((h q hq).2 x hx).1; omega⟩⟩
theorem okQ.inQ {p : Int} (hp : okP p) {sv : Nat} {qs : List (List (List Int))} (h : ∀ q ∈ qs, okQ p sv q) : inQ qs := fun q hq x hx n hn => by
  have h1 := ((h q hq).2 x hx).2 n hn
  have := hp.le
  exact ⟨by omega, by omega⟩
theorem flatten_le {m : Nat} : ∀ {q : List (List Int)}, (∀ x ∈ q, x.length ≤ m) → q.flatten.length ≤ q.length * m
  | [], _ => by simp
  | x :: q, h => by
    have h1 := h x (by simp)
    have h2 := flatten_le (q := q) fun y hy => h y (by simp [hy])
    rw [List.flatten_cons, List.length_append, List.length_cons, Nat.add_mul, Nat.one_mul]
    omega
theorem flatQ_le {m : Nat} : ∀ {qs : List (List (List Int))}, (∀ q ∈ qs, q.flatten.length ≤ m) → (flatQ qs).length ≤ qs.length * m
  | [], _ => by simp [flatQ]
  | x :: q, h => by
    have h1 := h x (by simp)
    have h2 := flatQ_le (qs := q) fun y hy => h y (by simp [hy])
    rw [flatQ, List.flatMap_cons, List.length_append, List.length_cons, Nat.add_mul, Nat.one_mul]
    simp only [flatQ] at h2
    omega
theorem smQ.flat {qs : List (List (List Int))} (h : smQ qs) : (flatQ qs).length ≤ 1000000000 := by
  have h1 : ∀ q ∈ qs, q.flatten.length ≤ 1000 * 1000 := fun q hq => Nat.le_trans (flatten_le (h.2 q hq).2) (Nat.mul_le_mul_right _ (h.2 q hq).1)
  exact Nat.le_trans (flatQ_le h1) (Nat.mul_le_mul_right _ h.1)
/-- The numbers from 1 on. -/
def allG : Nat → List Int
  | 0 => []
  | n + 1 => allG n ++ [((n + 1 : Nat) : Int)]
theorem allG_len : ∀ {n : Nat}, (allG n).length = n
  | 0 => rfl
  | n + 1 => by rw [allG, List.length_append, allG_len]; rfl
theorem allG_mem : ∀ {n : Nat} {x : Int}, x ∈ allG n ↔ 1 ≤ x ∧ x ≤ n
  | 0, x => by simp only [allG, List.not_mem_nil, false_iff]; omega
  | n + 1, x => by
    rw [allG, List.mem_append, allG_mem, List.mem_singleton]
    omega
theorem ascF_snoc : ∀ {l : List Int} {a x : Int}, ascF a l = true → a < x → (∀ y ∈ l, y < x) → ascF a (l ++ [x]) = true
  | [], a, x, _, h, _ => by simp [ascF, h]
  | y :: r, a, x, h, h1, h2 => by
    simp only [ascF, Bool.and_eq_true, decide_eq_true_eq, List.cons_append] at h ⊢
    exact ⟨h.1, ascF_snoc h.2 (h2 y (by simp)) fun z hz => h2 z (by simp [hz])⟩
theorem allG_asc : ∀ {n : Nat}, asc (allG n) = true
  | 0 => rfl
  | n + 1 => ascF_snoc allG_asc (by omega) fun y hy => by have := allG_mem.1 hy; omega
/-- Some of them, as the dice say. -/
def someG (l : List UInt8) (k : Nat) : Nat → List Int × Nat
  | 0 => ([], k)
  | n + 1 => (if pickV l (someG l k n).2 2 = 0 then (someG l k n).1 ++ [((n + 1 : Nat) : Int)] else (someG l k n).1, pickK l (someG l k n).2)
theorem someG_mem {l : List UInt8} {k : Nat} : ∀ {n : Nat} {x : Int}, x ∈ (someG l k n).1 → 1 ≤ x ∧ x ≤ n
  | 0, x, h => by simp [someG] at h
  | n + 1, x, h => by
    simp only [someG] at h
    split at h
    · rcases List.mem_append.1 h with h | h
      · have := someG_mem h; omega
      · have := List.mem_singleton.1 h; omega
    · have := someG_mem h; omega
theorem someG_asc {l : List UInt8} {k : Nat} : ∀ {n : Nat}, asc (someG l k n).1 = true
  | 0 => rfl
  | n + 1 => by
    simp only [someG]
    split
    · exact ascF_snoc someG_asc (by omega) fun y hy => by have := someG_mem hy; omega
    · exact someG_asc
theorem someG_len {l : List UInt8} {k : Nat} : ∀ {n : Nat}, (someG l k n).1.length ≤ n
  | 0 => Nat.le_refl _
  | n + 1 => by
    have := someG_len (l := l) (k := k) (n := n)
    simp only [someG]
    split
    · rw [List.length_append, List.length_singleton]; omega
    · omega
theorem idxN_lt : ∀ {l : List Int} {x : Int}, idxN l x < l.length ↔ x ∈ l
  | [], x => by simp [idxN]
  | y :: r, x => by
    simp only [idxN, List.length_cons, List.mem_cons]
    by_cases h : y = x
    · rw [if_pos h]; simp [h]
    · have := idxN_lt (l := r) (x := x)
      rw [if_neg h]
      constructor
      · intro h1; exact .inr (this.1 (by omega))
      · rintro (h1 | h1)
        · exact absurd h1.symm h
        · have := this.2 h1; omega
theorem allIn_iff {sv l : List Int} : allIn sv l = true ↔ ∀ x ∈ l, x ∈ sv := by
  simp only [allIn, List.all_eq_true, decide_eq_true_eq, idxN_lt]
theorem some_all {l : List UInt8} {k : Nat} : ∀ {n : Nat}, (∀ x ∈ allG n, x ∈ (someG l k n).1) ↔ (someG l k n).1.length = n
  | 0 => by simp [allG, someG]
  | n + 1 => by
    have ih := some_all (l := l) (k := k) (n := n)
    have hl := someG_len (l := l) (k := k) (n := n)
    simp only [someG, allG, List.mem_append, List.mem_singleton]
    split
    · simp only [List.mem_append, List.mem_singleton, List.length_append, List.length_singleton]
      constructor
      · intro h
        have : (someG l k n).1.length = n := ih.1 fun x hx => by
          rcases h x (.inl hx) with h1 | h1
          · exact h1
          · have := allG_mem.1 hx; omega
        omega
      · rintro h x (hx | hx)
        · exact .inl (ih.2 (by omega) x hx)
        · exact .inr hx
    · constructor
      · intro h
        have := someG_mem (h _ (.inr rfl))
        omega
      · intro h; omega
theorem okPick_in {qs : List (List (List Int))} {l : List Int} {n : Nat} (hq : ∀ q ∈ qs, q.length = n) (hl : ∀ x ∈ l, x ≤ n) : okPick qs (less1 l) = true := by
  simp only [okPick, okPr, less1, List.all_eq_true, List.all_map, decide_eq_true_eq, Function.comp]
  intro q h x hx
  have := hq q h
  have := hl x hx
  omega
theorem pk_all {q : List (List Int)} : pk (less1 (allG q.length)) q = q := by
  have key : ∀ n, n ≤ q.length → pk (less1 (allG n)) q = q.take n := by
    intro n
    induction n with
    | zero => intro _; simp [allG, less1, pk]
    | succ n ih =>
      intro hn
      rw [take_succ_getD [] q n hn, ← ih (by omega)]
      simp only [allG, less1, pk, List.map_append, List.map_cons, List.map_nil, pk1]
      rw [show ((((n + 1 : Nat) : Int)) - 1).toNat = n by omega]
  rw [key _ (Nat.le_refl _), List.take_length]
theorem ofQ_all {qs : List (List (List Int))} {n : Nat} (hq : ∀ q ∈ qs, q.length = n) : ofQ qs (allG n) = qs := by
  rw [ofQ]
  conv => rhs; rw [← List.map_id qs]
  refine List.map_congr_left fun q h => ?_
  rw [← hq q h]
  exact pk_all
theorem idx_all : ∀ {n : Nat} {x : Int}, 1 ≤ x → x ≤ n → (idxN (allG n) x : Int) = x - 1 := by
  have app : ∀ (l : List Int) (y x : Int), idxN (l ++ [y]) x = if x ∈ l then idxN l x else l.length + if y = x then 0 else 1 := by
    intro l y x
    induction l with
    | nil => simp [idxN]
    | cons z r ih =>
      simp only [List.cons_append, idxN, ih, List.mem_cons, List.length_cons]
      by_cases h : z = x
      · simp [h]
      · by_cases h2 : x ∈ r
        · simp [h, h2, Ne.symm h]
        · have : ¬ (x = z ∨ x ∈ r) := by rintro (h3 | h3); exact h h3.symm; exact h2 h3
          rw [if_neg h, if_neg h2, if_neg this]; omega
  intro n
  induction n with
  | zero => intro x h1 h2; omega
  | succ n ih =>
    intro x h1 h2
    rw [allG, app]
    by_cases h : x ≤ n
    · rw [if_pos (allG_mem.2 ⟨h1, h⟩)]; exact ih h1 h
    · rw [if_neg (fun hh => h (allG_mem.1 hh).2), allG_len, if_pos (by omega)]; omega
theorem part_all {qs : List (List (List Int))} {l : List Int} {n : Nat} (hl : ∀ x ∈ l, 1 ≤ x ∧ x ≤ n) : partQ (allG n) qs l = ofQ qs l := by
  rw [partQ, ofQ]
  refine List.map_congr_left fun q h => ?_
  have : idxs (allG n) l = less1 l := List.map_congr_left fun x hx => idx_all (hl x hx).1 (hl x hx).2
  rw [this]
/-- How many numbers the first servers see. -/
def sumG (qs : List (List (List Int))) (j : Nat) : Nat := (flatQ (qs.map fun q => q.take j)).length
theorem sumG_step {j : Nat} : ∀ {qs : List (List (List Int))}, (∀ q ∈ qs, j < q.length) → sumG qs (j + 1) = sumG qs j + (flatQ (ofQ qs [((j + 1 : Nat) : Int)])).length
  | [], _ => rfl
  | q :: qs, h => by
    have ih := sumG_step (j := j) (qs := qs) fun y hy => h y (by simp [hy])
    have e1 := take_succ_getD [] q j (h q (by simp))
    simp only [sumG, flatQ, ofQ, less1, pk, pk1, List.map_cons, List.map_nil, List.flatMap_cons, List.length_append, List.flatten_cons, List.flatten_nil, List.append_nil] at ih ⊢
    rw [ih, e1, List.flatten_append, List.flatten_cons, List.flatten_nil, List.append_nil, List.length_append, show ((((j + 1 : Nat) : Int)) - 1).toNat = j by omega]
    omega
theorem sumG_all {qs : List (List (List Int))} {n : Nat} (hq : ∀ q ∈ qs, q.length = n) : sumG qs n = (flatQ qs).length := by
  rw [sumG]
  have : (qs.map fun q => q.take n) = qs := by
    conv => rhs; rw [← List.map_id qs]
    exact List.map_congr_left fun q h => by rw [← hq q h, List.take_length]; rfl
  rw [this]
theorem smQ.of {qs : List (List (List Int))} (h : smQ qs) {l : List Int} (hl : l.length ≤ 1000) : smQ (ofQ qs l) := by
  refine ⟨by rw [ofQ, List.length_map]; exact h.1, fun q hq => ?_⟩
  obtain ⟨r, hr, rfl⟩ := List.mem_map.1 hq
  refine ⟨by rw [pk, List.length_map, less1, List.length_map]; exact hl, fun x hx => ?_⟩
  obtain ⟨i, _, rfl⟩ := List.mem_map.1 hx
  rw [pk1]
  by_cases h1 : i.toNat < r.length
  · exact (h.2 r hr).2 _ (mem_getD [] r _ h1)
  · rw [List.getD_eq_getElem?_getD, List.getElem?_eq_none (by omega)]; simp
theorem inQ.of {qs : List (List (List Int))} (h : inQ qs) {l : List Int} : inQ (ofQ qs l) := by
  intro q hq x hx n hn
  obtain ⟨r, hr, rfl⟩ := List.mem_map.1 hq
  obtain ⟨i, _, rfl⟩ := List.mem_map.1 hx
  rw [pk1] at hn
  by_cases h1 : i.toNat < r.length
  · exact h r hr _ (mem_getD [] r _ h1) n hn
  · rw [List.getD_eq_getElem?_getD, List.getElem?_eq_none (by omega)] at hn; simp at hn
end Go.Proofs.Ytihjmnhjjpdenaa.Sim
