/- A range over an iterator that keeps a count in a cell of its own, where the body always goes on: of no program. Condition: one loop variable; no deferred call in the body. -/
import Derived.RangeFuncNested
import Derived.Shelf.Abstract
namespace Go.Proofs.Ytbkebmnaajmgeaa
open Go Go.RowKit
set_option linter.unusedVariables false

/-- All blocks but those in X are as they were. -/
structure But (X : Nat → Prop) (W W' : World) : Prop where
  os : W'.os = W.os
  tape : W'.tape = W.tape
  output : W'.output = W.output
  size : W.heap.size ≤ W'.heap.size
  block : ∀ k, k < W.heap.size → ¬ X k → W'.heap[k]? = W.heap[k]?

theorem But.putObj {W : World} {l : Nat} (o : Obj) : But (fun k => k = l) W (W.putObj l o) := by
  refine ⟨rfl, rfl, rfl, ?_, fun k _ hne => World.putObj_heap_other hne⟩
  simp [World.putObj]
theorem But.setCell {W : World} {p : Addr} (u : Value) : But (fun k => k = p.block) W (W.setCell p u) :=
  ⟨rfl, rfl, rfl, by simp [World.setCell], fun k _ hne => Below.heap_setCell W p u k hne⟩
theorem But.mono {X Y : Nat → Prop} {W W' : World} (h : But X W W') (hXY : ∀ k, X k → Y k) : But Y W W' := ⟨h.os, h.tape, h.output, h.size, fun k hk hn => h.block k hk (fun hx => hn (hXY k hx))⟩

/-- The iterator's own block, and the two that the statement lays, are as they were. -/
def KeepS (S D : Nat) (W W' : World) : Prop := ∀ k, k = S ∨ k = D ∨ k = D + 1 → W'.heap[k]? = W.heap[k]?

variable {F : Fence} {n : Nat} {P : Program}

/-- The law: S is the iterator's own block; D and D + 1 are the two that the statement lays. -/
theorem wpIn_range_on {α : Type} {g : Operand} {p : Tmp} {assign body : Code} {Q : Exit → Act → World → Prop} {a : Act} {w : World}
    (hro : F.round = none) (h1 : 1 ≤ n) {gf : Nat} {lb : Array Value} (hg : a.eval g = .func (.func gf) #[] lb) (hFg : F.fn gf) (eg : Enters P gf)
    (enc : α → Value) (xs : List α) (S : Nat) (hS : S < w.heap.size) (I : List α → World → Prop)
    (hI : ∀ pre W W', I pre W → But (fun k => k = S ∨ k = w.heap.size ∨ k = w.heap.size + 1) W W' → I pre W') (h0 : I [] w)
    (hIa : ∀ (W : World) (o : Obj), W.heap.size = w.heap.size ∨ W.heap.size = w.heap.size + 1 → I [] W → I [] (W.alloc o))
    (hseq : ∀ (l : Nat) (J : List α → World → Prop) (W : World), (∀ pre W v, J pre W → J pre (W.setCell ⟨S, 0, none⟩ v)) →
      (∀ pre x W, J pre W → pre.length < xs.length → YieldAt F (n - 1 - 1) P l #[enc x] W fun e W' => e = .returned (.bool true) ∧ J (pre ++ [x]) W' ∧ W'.heap[S]? = W.heap[S]?) →
      J [] W → W.heap[S]? = w.heap[S]? → CallsIn F (n - 1) P gf (#[.func (.yield l) #[] #[]] ++ lb) W fun e W' => (∃ v, e = .returned v) ∧ J xs W')
    (a₁ : α → Act)
    (hassign : ∀ (l : Nat) (x : α) (W : World) (K : Act → World → Prop), K (a₁ x) W →
      assign.wpIn (F.inRound l) (n - 1 - 1) P (Exit.then K (fun _ _ _ => False)) { tmps := (#[p].zip #[enc x]).foldl (fun t (p, v) => t.setIfInBounds p v) a.tmps, defers := [] } W)
    (hbody : ∀ (l : Nat) (pre : List α) (x : α) (W : World), I pre W → pre.length < xs.length → w.heap.size + 1 < W.heap.size →
      body.wpIn (F.inRound l) (n - 1 - 1) P (fun e _ W' => e = .normal ∧ I (pre ++ [x]) W' ∧ KeepS S w.heap.size W W') (a₁ x) W)
    (hdone : ∀ (W : World), I xs W → W.heap[w.heap.size]? = some (.deferred (some [])) → Q .normal { a with defers := { target := .collected w.heap.size, args := #[] } :: a.defers } W) :
    (Code.rangeFunc g #[p] assign body).wpIn F n P Q a w := by
  refine wpIn_rangeFunc fun fn hfn => ?_
  let rec_ : LoopState → Loop := fun st => { state := st, pending := none, fn, tmps := a.tmps, params := #[p], assign, body, defers := w.heap.size }
  let W1 : World := (w.alloc (.deferred (some []))).alloc (.loop (rec_ .ready))
  have hsz : W1.heap.size = w.heap.size + 2 := by show ((w.alloc _).alloc _).heap.size = _; simp
  have hL1 : W1.heap[w.heap.size + 1]? = some (.loop (rec_ .ready)) := by
    have := World.alloc_heap_new (w.alloc (.deferred (some []))) (.loop (rec_ .ready)); rwa [World.size_alloc] at this
  have hD1 : W1.heap[w.heap.size]? = some (.deferred (some [])) := (Below.heap_alloc _ _ _ (by simp)).trans (World.alloc_heap_new w _)
  have hS1 : W1.heap[S]? = w.heap[S]? := (Below.heap_alloc _ _ _ (by simp; omega)).trans (Below.heap_alloc _ _ _ hS)
  refine ⟨w.heap.size + 1, [{ target := .collected w.heap.size, args := #[] }], W1, { target := .fn (.func gf) lb, args := #[.func (.yield (w.heap.size + 1)) #[] #[]] }, W1, gf,
    #[.func (.yield (w.heap.size + 1)) #[] #[]] ++ lb, W1, ?_, ?_, ?_, ?_, fun _ => h1, ?_⟩
  · rw [hro]; exact run_enterLoop_outer _ _ _ _ _
  · simp only [resolve, hg]
    simp [go_sem]
  · intro f' hf'
    simp [Target.leads] at hf'
    subst hf'
    exact hFg
  · simp [invoke, go_sem, eg _ _]
  · refine (hseq (w.heap.size + 1) (fun pre W => I pre W ∧ W.heap[w.heap.size + 1]? = some (.loop (rec_ .ready)) ∧ W.heap[w.heap.size]? = some (.deferred (some []))) W1 ?_ ?_ ⟨?_, hL1, hD1⟩ hS1).mono ?_
    · rintro pre W v ⟨hi, hl, hd⟩
      exact ⟨hI _ _ _ hi ((But.setCell (p := ⟨S, 0, none⟩) v).mono fun k hk => .inl hk), (Below.heap_setCell W ⟨S, 0, none⟩ v _ (by show w.heap.size + 1 ≠ S; omega)).trans hl, (Below.heap_setCell W ⟨S, 0, none⟩ v _ (by show w.heap.size ≠ S; omega)).trans hd⟩
    · rintro pre x W ⟨hi, hl, hd⟩ hpl
      have hlt : w.heap.size + 1 < W.heap.size := (Array.getElem?_eq_some_iff.1 hl).1
      have hy := run_yield (P := P) (args := #[enc x]) hl rfl
      have hl2 : (W.putObj (w.heap.size + 1) (.loop (rec_ .busy))).heap[w.heap.size + 1]? = some (.loop (rec_ .busy)) := World.putObj_heap_same hlt
      have hbut : ∀ (V : World) (o : Obj), But (fun k => k = S ∨ k = w.heap.size ∨ k = w.heap.size + 1) V (V.putObj (w.heap.size + 1) o) := fun V o => (But.putObj o).mono fun k hk => .inr (.inr hk)
      refine ⟨fn, _, assign, body, hy, roundIn_of_wpIn hfn ?_⟩
      refine hassign _ x W _ ⟨_, run_beginRound hl rfl, ?_⟩
      refine wpIn_mono (hbody (w.heap.size + 1) pre x _ (hI _ _ _ hi (hbut W _)) hpl (by rw [World.putObj]; simpa using hlt)) ?_
      rintro e a3 W3 ⟨rfl, hi3, hk3⟩
      have hl3 := (hk3 (w.heap.size + 1) (.inr (.inr rfl))).trans hl2
      have hd3 := (hk3 w.heap.size (.inr (.inl rfl))).trans ((World.putObj_heap_other (by omega)).trans hd)
      refine ⟨_, _, run_endRound (P := P) none hl3, rfl, ⟨hI _ _ _ hi3 (hbut W3 _), World.putObj_heap_same (Array.getElem?_eq_some_iff.1 hl3).1, (World.putObj_heap_other (by omega)).trans hd3⟩, ?_⟩
      exact (World.putObj_heap_other (by omega)).trans ((hk3 S (.inl rfl)).trans (World.putObj_heap_other (by omega)))
    · exact hIa _ _ (.inr (by simp)) (hIa _ _ (.inl rfl) h0)
    · rintro e W2 ⟨⟨v, rfl⟩, hi, hl, hd⟩
      exact ⟨none, _, run_endLoop (P := P) hl (by simp [rec_]), hdone _ (hI _ _ _ hi ((But.putObj _).mono fun k hk => .inr (.inr hk))) ((World.putObj_heap_other (by omega)).trans hd)⟩
end Go.Proofs.Ytbkebmnaajmgeaa
