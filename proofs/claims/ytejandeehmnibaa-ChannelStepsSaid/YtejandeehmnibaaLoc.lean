/- The variables of a call that lie in memory: one block each, known whole. Of no program. Conditions: none. -/
import Derived.Test.YtejandeehmnibaaStage
namespace Go.Proofs.Ytejandeehmnibaa
open Go Go.RowKit Go.Deep
set_option linter.unusedVariables false

/-- The cells of block b from o on. -/
def Cel (w : World) (b : Nat) : Nat → List Value → Prop
  | _, [] => True
  | o, v :: cs => w.cell? ⟨b, o, none⟩ = some v ∧ w.frozen? ⟨b, o, none⟩ = false ∧ Cel w b (o + 1) cs
/-- Variables: block and cells, the newest first. -/
def Loc (w : World) : List (Nat × List Value) → Prop
  | [] => True
  | p :: L => p.1 < w.heap.size ∧ Cel w p.1 0 p.2 ∧ (∀ q ∈ L, q.1 < p.1) ∧ Loc w L

section
variable {w w' : World} {b : Nat} {L : List (Nat × List Value)}
theorem Cel.congr (hb : w'.heap[b]? = w.heap[b]?) : ∀ {cs : List Value} {o : Nat}, Cel w b o cs → Cel w' b o cs
  | [], _, _ => trivial
  | _ :: _, o, ⟨h1, h2, h3⟩ => ⟨(World.cell?_of_block (a := ⟨b, o, none⟩) hb).trans h1, (World.frozen?_of_block (a := ⟨b, o, none⟩) hb).trans h2, Cel.congr hb h3⟩
theorem Cel.range : ∀ {cs : List Value} {o : Nat}, Cel w b o cs → w.rangeAt b o cs
  | [], _, _ => fun j v hv => by simp at hv
  | u :: cs, o, ⟨h1, _, h3⟩ => fun j v hv => by
    cases j with
    | zero => simp at hv; subst hv; exact h1
    | succ j =>
      have := Cel.range h3 j v (by simpa using hv)
      rwa [show o + 1 + j = o + (j + 1) by omega] at this
theorem Cel.new {cs : List Value} {t : TypeId} : Cel (w.alloc (.cells cs.toArray t)) w.heap.size 0 cs := by
  have key : ∀ (r : List Value) (o : Nat), (∀ j v, r[j]? = some v → cs[o + j]? = some v) → Cel (w.alloc (.cells cs.toArray t)) w.heap.size o r := by
    intro r
    induction r with
    | nil => intro o _; trivial
    | cons v r ih =>
      intro o h
      refine ⟨?_, World.frozen?_alloc_new _ _ _ _, ih (o + 1) fun j u hu => ?_⟩
      · rw [World.cell?_alloc_new]
        have := h 0 v rfl
        simpa using this
      · have := h (j + 1) u (by simpa using hu)
        rwa [show o + (j + 1) = o + 1 + j by omega] at this
  exact key cs 0 fun j v hv => by simpa using hv
theorem Cel.set {u : Value} : ∀ {cs : List Value} {o i : Nat}, Cel w b o cs → i < cs.length → Cel (w.setCell ⟨b, o + i, none⟩ u) b o (cs.set i u)
  | [], _, _, _, h => by simp at h
  | v :: cs, o, 0, ⟨h1, h2, h3⟩, _ => by
    refine ⟨World.cell?_setCell_same' _ _ _ (by show (w.cell? ⟨b, o, none⟩).isSome; rw [h1]; rfl), by rw [World.frozen?_setCell]; exact h2, ?_⟩
    have key : ∀ (r : List Value) (k : Nat), o < k → Cel w b k r → Cel (w.setCell ⟨b, o, none⟩ u) b k r := by
      intro r
      induction r with
      | nil => intro k _ _; trivial
      | cons x r ih =>
        intro k hk ⟨g1, g2, g3⟩
        exact ⟨by rw [World.cell?_setCell_other _ _ _ _ (fun e => by injection e with e1 e2; omega)]; exact g1, by rw [World.frozen?_setCell]; exact g2, ih (k + 1) (by omega) g3⟩
    exact key cs (o + 1) (Nat.lt_succ_self o) h3
  | v :: cs, o, i + 1, ⟨h1, h2, h3⟩, h => by
    have := Cel.set (u := u) h3 (i := i) (by simpa using h)
    rw [show o + 1 + i = o + (i + 1) by omega] at this
    exact ⟨by rw [World.cell?_setCell_other _ _ _ _ (fun e => by injection e with e1 e2; omega)]; exact h1, by rw [World.frozen?_setCell]; exact h2, this⟩

theorem Loc.lt (h : Loc w L) : ∀ p ∈ L, p.1 < w.heap.size := by
  induction L with
  | nil => intro p hp; cases hp
  | cons q L ih =>
    intro p hp
    rcases List.mem_cons.1 hp with rfl | hp
    · exact h.1
    · exact ih h.2.2.2 p hp
theorem Loc.keep (h : Loc w L) (hs : w.heap.size ≤ w'.heap.size) (hb : ∀ p ∈ L, w'.heap[p.1]? = w.heap[p.1]?) : Loc w' L := by
  induction L with
  | nil => trivial
  | cons q L ih => exact ⟨Nat.lt_of_lt_of_le h.1 hs, h.2.1.congr (hb q (by simp)), h.2.2.1, ih h.2.2.2 fun p hp => hb p (by simp [hp])⟩
theorem Loc.alloc (h : Loc w L) (cs : List Value) (t : TypeId) : Loc (w.alloc (.cells cs.toArray t)) ((w.heap.size, cs) :: L) :=
  ⟨by simp, Cel.new, fun q hq => h.lt q hq, h.keep (by simp) fun p hp => Below.heap_alloc _ _ _ (h.lt p hp)⟩
theorem Loc.tail {p : Nat × List Value} (h : Loc w (p :: L)) : Loc w L := h.2.2.2
/-- Cell i of variable j is written. -/
def upd (L : List (Nat × List Value)) (j i : Nat) (u : Value) : List (Nat × List Value) := L.modify j fun p => (p.1, p.2.set i u)
theorem Loc.set (h : Loc w L) {j i : Nat} {cs : List Value} (hj : L[j]? = some (b, cs)) (hi : i < cs.length) (u : Value) : Loc (w.setCell ⟨b, i, none⟩ u) (upd L j i u) := by
  induction L generalizing j with
  | nil => simp at hj
  | cons q L ih =>
    cases j with
    | zero =>
      simp at hj
      subst hj
      have := Cel.set (u := u) h.2.1 hi
      rw [Nat.zero_add] at this
      refine ⟨by simpa [World.setCell] using h.1, this, h.2.2.1, h.2.2.2.keep (by simp [World.setCell]) fun p hp => Below.heap_setCell _ _ _ _ (by have := h.2.2.1 p hp; simp at this; show p.1 ≠ b; omega)⟩
    | succ j =>
      have hj' : L[j]? = some (b, cs) := by simpa using hj
      have hm : (b, cs) ∈ L := List.mem_of_getElem? hj'
      have hlt := h.2.2.1 _ hm
      refine ⟨by simpa [World.setCell] using h.1, h.2.1.congr (Below.heap_setCell _ _ _ _ (by show q.1 ≠ b; simp at hlt; omega)), fun p (hp : p ∈ upd L j i u) => ?_, ih h.2.2.2 hj'⟩
      obtain ⟨k, hk⟩ := List.getElem?_of_mem hp
      unfold upd at hk
      rw [List.getElem?_modify] at hk
      cases hq : L[k]? with
      | none => rw [hq] at hk; split at hk <;> cases hk
      | some y =>
        have hy := h.2.2.1 y (List.mem_of_getElem? hq)
        rw [hq] at hk
        split at hk <;> (simp at hk; subst hk; exact hy)
theorem Loc.get (h : Loc w L) {j : Nat} {cs : List Value} (hj : L[j]? = some (b, cs)) : b < w.heap.size ∧ Cel w b 0 cs := by
  induction L generalizing j with
  | nil => simp at hj
  | cons q L ih =>
    cases j with
    | zero => simp at hj; subst hj; exact ⟨h.1, h.2.1⟩
    | succ j => exact ih h.2.2.2 (by simpa using hj)
end

/-- The state of a call: what lay there when it began is as it was, and its variables. -/
structure St (w0 : World) (L : List (Nat × List Value)) (W : World) : Prop where
  below : Below w0.heap.size w0 W
  loc : Loc W L
  new : ∀ p ∈ L, w0.heap.size ≤ p.1

section
variable {w0 W W' : World} {L : List (Nat × List Value)}
theorem St.start (w : World) : St w [] w := ⟨Below.refl _ _, trivial, fun p hp => by cases hp⟩
theorem St.size (h : St w0 L W) : w0.heap.size ≤ W.heap.size := h.below.size
theorem St.alloc (h : St w0 L W) (cs : List Value) (t : TypeId) : St w0 ((W.heap.size, cs) :: L) (W.alloc (.cells cs.toArray t)) :=
  ⟨h.below.alloc h.size _, h.loc.alloc cs t, fun p hp => by
    rcases List.mem_cons.1 hp with rfl | hp
    · exact h.size
    · exact h.new p hp⟩
theorem St.more (h : St w0 L W) (o : Obj) : St w0 L (W.alloc o) :=
  ⟨h.below.alloc h.size _, h.loc.keep (by simp) fun p hp => Below.heap_alloc _ _ _ (h.loc.lt p hp), h.new⟩
theorem St.call (h : St w0 L W) (hb : Below W.heap.size W W') : St w0 L W' :=
  ⟨h.below.trans (hb.mono h.size), h.loc.keep hb.size fun p hp => hb.block _ (h.loc.lt p hp), h.new⟩
theorem St.drew (h : St w0 L W) : St w0 L W.drew := ⟨h.below.drew, h.loc.keep (Nat.le_refl _) fun _ _ => rfl, h.new⟩
theorem St.drewN (h : St w0 L W) (n : Nat) : St w0 L (W.drewN n) := ⟨below_drewN h.below n, h.loc.keep (Nat.le_refl _) fun _ _ => rfl, h.new⟩
/-- A block of the call's own, none of its variables, may have been written. -/
theorem St.grown (h : St w0 L W) {row : Option Nat} (hg : W.grownBy W' row) (hr : ∀ k, row = some k → w0.heap.size ≤ k) (hL : ∀ p ∈ L, row ≠ some p.1) : St w0 L W' :=
  ⟨h.below.grown hg h.size hr, h.loc.keep hg.size fun p hp => hg.block _ (h.loc.lt p hp) (fun e => hL p hp e.symm), h.new⟩
theorem St.tail {p : Nat × List Value} (h : St w0 (p :: L) W) : St w0 L W := ⟨h.below, h.loc.tail, fun q hq => h.new q (by simp [hq])⟩
theorem St.set (h : St w0 L W) {b j i : Nat} {cs : List Value} (hj : L[j]? = some (b, cs)) (hi : i < cs.length) (u : Value) : St w0 (upd L j i u) (W.setCell ⟨b, i, none⟩ u) :=
  ⟨h.below.setCell (h.new _ (List.mem_of_getElem? hj)) u, h.loc.set hj hi u, fun p hp => by
    obtain ⟨k, hk⟩ := List.getElem?_of_mem hp
    unfold upd at hk
    rw [List.getElem?_modify] at hk
    cases hq : L[k]? with
    | none => rw [hq] at hk; split at hk <;> cases hk
    | some y =>
      have hy := h.new y (List.mem_of_getElem? hq)
      rw [hq] at hk
      split at hk <;> (simp at hk; subst hk; exact hy)⟩
/-- Lists that came in. -/
theorem St.lst {α : Type} [Rep α] (h : St w0 L W) {S : Nat → Prop} {v : Value} {l : List α} (hl : Lst w0 S v l) : Lst W S v l := hl.call h.below
theorem St.is {α : Type} [Rep α] (h : St w0 L W) {S : Nat → Prop} {cs : List Value} {x : α} (hl : Rep.is w0 S cs x) : Rep.is W S cs x := Rep.call hl h.below
end
/-- A variable is written whole. -/
theorem Loc.setAll {w : World} {b : Nat} {L : List (Nat × List Value)} (h : Loc w L) {j : Nat} {cs cs' : List Value} (hj : L[j]? = some (b, cs)) (hl : cs'.length = cs.length) : Loc (w.setCells b 0 cs') (L.set j (b, cs')) := by
  have key : ∀ (r : List Value) (o : Nat) (w : World) (cs : List Value) (L : List (Nat × List Value)), Loc w L → L[j]? = some (b, cs) → o + r.length = cs.length → Loc (w.setCells b o r) (L.set j (b, cs.take o ++ r)) := by
    intro r
    induction r with
    | nil =>
      intro o w cs L h hj hl
      rw [List.append_nil, List.take_of_length_le (by simp at hl; omega)]
      have : L.set j (b, cs) = L := by
        apply List.ext_getElem?
        intro k
        rw [List.getElem?_set]
        split
        · rename_i e; subst e; split
          · rw [hj]
          · rename_i h'; rw [List.getElem?_eq_none (by omega)] at hj; cases hj
        · rfl
      rw [this]; exact h
    | cons u r ih =>
      intro o w cs L h hj hl
      have h1 := h.set hj (i := o) (by simp at hl; omega) u
      have hj1 : (upd L j o u)[j]? = some (b, cs.set o u) := by
        unfold upd
        rw [List.getElem?_modify, hj]
        simp
      have h2 := ih (o + 1) _ _ _ h1 hj1 (by simp at hl ⊢; omega)
      have e : (upd L j o u).set j (b, (cs.set o u).take (o + 1) ++ r) = L.set j (b, cs.take o ++ u :: r) := by
        have e1 : (cs.set o u).take (o + 1) ++ r = cs.take o ++ u :: r := by
          rw [List.take_succ_eq_append_getElem (by simp; simp at hl; omega), List.getElem_set_self, List.append_assoc, List.take_set_of_le (Nat.le_refl _)]
          rfl
        rw [e1]
        apply List.ext_getElem?
        intro k
        unfold upd
        rw [List.getElem?_set, List.getElem?_set, List.length_modify]
        split
        · rfl
        · rename_i hne; rw [List.getElem?_modify]; simp [hne]
      rw [e] at h2
      exact h2
  have := key cs' 0 w cs L h hj (by omega)
  simpa using this
theorem St.setAll {w0 W : World} {L : List (Nat × List Value)} (h : St w0 L W) {b j : Nat} {cs cs' : List Value} (hj : L[j]? = some (b, cs)) (hl : cs'.length = cs.length) : St w0 (L.set j (b, cs')) (W.setCells b 0 cs') := by
  have hn := h.new _ (List.mem_of_getElem? hj)
  refine ⟨?_, h.loc.setAll hj hl, fun p hp => ?_⟩
  · refine h.below.trans ⟨World.os_setCells _ _ _ _, (size_setCells _ _ _ _).2, World.output_setCells _ _ _ _, by rw [(size_setCells _ _ _ _).1]; exact Nat.le_refl _, fun k hk => World.heap_setCells_other _ _ _ _ (Nat.lt_of_lt_of_le hk h.size) (by simp at hn; omega)⟩
  · rcases List.mem_or_eq_of_mem_set hp with hp | rfl
    · exact h.new p hp
    · exact hn
theorem OwnT.far_cells {α : Type} [Rep α] {w : World} {B : Nat} {T : Nat → Prop} {v : Value} {l : List α} (h : OwnT w B T v l) {b o : Nat} {cs : List Value} (hp : v.ownBlock ≠ some b) (hT : ¬ T b) : OwnT (w.setCells b o cs) B T v l := by
  obtain ⟨xs, ho, hx⟩ := h
  have hk : ∀ k, k < w.heap.size → k ≠ b → (w.setCells b o cs).heap[k]? = w.heap[k]? := fun k hk hne => World.heap_setCells_other _ _ _ _ hk hne
  exact ⟨xs, ho.congr (by rw [(size_setCells _ _ _ _).1]; exact Nat.le_refl _) fun g e => hk g (ho.lt e).1 (fun e' => hp (by rw [e, e'])), hx.keep fun k hk' _ => ⟨⟨⟨by rw [(size_setCells _ _ _ _).1]; exact hk'.1.1, hk'.1.2⟩, hk'.2⟩, hk k hk'.1.1 (fun e => hT (e ▸ hk'.2))⟩⟩
/-- What the walk takes of a state. -/
theorem St.facts {w0 W : World} {L : List (Nat × List Value)} (h : St w0 L W) : Loc W L := h.loc
end Go.Proofs.Ytejandeehmnibaa
