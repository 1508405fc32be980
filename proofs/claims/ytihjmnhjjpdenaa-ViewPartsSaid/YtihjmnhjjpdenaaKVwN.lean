/- The iterator of all numbers of all queries, at every loop body that leaves what lay before alone. -/
import Derived.RangeFuncNested
import Derived.Shelf.Abstract
import Derived.Test.YtihjmnhjjpdenaaRows
import Derived.Test.YtihjmnhjjpdenaaKRep
import Derived.Test.YtihjmnhjjpdenaaKVwJ
import Derived.RangeFuncBound
import Derived.RangeFuncCalls
import Derived.RangeFuncLeaves
import Derived.Shelf.RegionOpen
import Derived.WalkKit
import Derived.OwnWalkIn
import Derived.TacticsInMore
import Derived.LoopNIn
import Derived.LoopIn
import Derived.Lib.Hide
section
namespace Go.Proofs.Ytihjmnhjjpdenaa
open Go Go.RowKit
set_option linter.unusedVariables false

/-- All blocks but those in X are as they were. -/
structure But (X : Nat → Prop) (W W' : World) : Prop where
  os : W'.os = W.os
  tape : W'.tape = W.tape
  output : W'.output = W.output
  size : W.heap.size ≤ W'.heap.size
  block : ∀ k, k < W.heap.size → ¬ X k → W'.heap[k]? = W.heap[k]?

theorem But.putObj {W : World} {l : Nat} (o : Obj) : But (fun k => k = l) W (W.putObj l o) := by
  refine ⟨rfl, rfl, rfl, ?_, fun k _ hne => World.putObj_heap_other hne⟩
  simp [World.putObj]
theorem But.setCell {W : World} {p : Addr} (u : Value) : But (fun k => k = p.block) W (W.setCell p u) :=
  ⟨rfl, rfl, rfl, by simp [World.setCell], fun k _ hne => Below.heap_setCell W p u k hne⟩
theorem But.mono {X Y : Nat → Prop} {W W' : World} (h : But X W W') (hXY : ∀ k, X k → Y k) : But Y W W' := ⟨h.os, h.tape, h.output, h.size, fun k hk hn => h.block k hk (fun hx => hn (hXY k hx))⟩

/-- The iterator's own block, and the two that the statement lays, are as they were. -/
def KeepS (S D : Nat) (W W' : World) : Prop := ∀ k, k = S ∨ k = D ∨ k = D + 1 → W'.heap[k]? = W.heap[k]?

variable {F : Fence} {n : Nat} {P : Program}

/-- The law: S is the iterator's own block; D and D + 1 are the two that the statement lays. -/
theorem wpIn_range_on {α : Type} {g : Operand} {p : Tmp} {assign body : Code} {Q : Exit → Act → World → Prop} {a : Act} {w : World}
    (hro : F.round = none) (h1 : 1 ≤ n) {gf : Nat} {lb : Array Value} (hg : a.eval g = .func (.func gf) #[] lb) (hFg : F.fn gf) (eg : Enters P gf)
    (enc : α → Value) (xs : List α) (S : Nat) (hS : S < w.heap.size) (I : List α → World → Prop)
    (hI : ∀ pre W W', I pre W → But (fun k => k = S ∨ k = w.heap.size ∨ k = w.heap.size + 1) W W' → I pre W') (h0 : I [] w)
    (hIa : ∀ (W : World) (o : Obj), W.heap.size = w.heap.size ∨ W.heap.size = w.heap.size + 1 → I [] W → I [] (W.alloc o))
    (hseq : ∀ (l : Nat) (J : List α → World → Prop) (W : World), (∀ pre W v, J pre W → J pre (W.setCell ⟨S, 0, none⟩ v)) →
      (∀ pre x W, J pre W → pre.length < xs.length → YieldAt F (n - 1 - 1) P l #[enc x] W fun e W' => e = .returned (.bool true) ∧ J (pre ++ [x]) W' ∧ W'.heap[S]? = W.heap[S]?) →
      J [] W → W.heap[S]? = w.heap[S]? → CallsIn F (n - 1) P gf (#[.func (.yield l) #[] #[]] ++ lb) W fun e W' => (∃ v, e = .returned v) ∧ J xs W')
    (a₁ : α → Act)
    (hassign : ∀ (l : Nat) (x : α) (W : World) (K : Act → World → Prop), K (a₁ x) W →
      assign.wpIn (F.inRound l) (n - 1 - 1) P (Exit.then K (fun _ _ _ => False)) { tmps := (#[p].zip #[enc x]).foldl (fun t (p, v) => t.setIfInBounds p v) a.tmps, defers := [] } W)
    (hbody : ∀ (l : Nat) (pre : List α) (x : α) (W : World), I pre W → pre.length < xs.length → w.heap.size + 1 < W.heap.size →
      body.wpIn (F.inRound l) (n - 1 - 1) P (fun e _ W' => e = .normal ∧ I (pre ++ [x]) W' ∧ KeepS S w.heap.size W W') (a₁ x) W)
    (hdone : ∀ (W : World), I xs W → W.heap[w.heap.size]? = some (.deferred (some [])) → Q .normal { a with defers := { target := .collected w.heap.size, args := #[] } :: a.defers } W) :
    (Code.rangeFunc g #[p] assign body).wpIn F n P Q a w := by
  refine wpIn_rangeFunc fun fn hfn => ?_
  let rec_ : LoopState → Loop := fun st => { state := st, pending := none, fn, tmps := a.tmps, params := #[p], assign, body, defers := w.heap.size }
  let W1 : World := (w.alloc (.deferred (some []))).alloc (.loop (rec_ .ready))
  have hsz : W1.heap.size = w.heap.size + 2 := by show ((w.alloc _).alloc _).heap.size = _; simp
  have hL1 : W1.heap[w.heap.size + 1]? = some (.loop (rec_ .ready)) := by
    have := World.alloc_heap_new (w.alloc (.deferred (some []))) (.loop (rec_ .ready)); rwa [World.size_alloc] at this
  have hD1 : W1.heap[w.heap.size]? = some (.deferred (some [])) := (Below.heap_alloc _ _ _ (by simp)).trans (World.alloc_heap_new w _)
  have hS1 : W1.heap[S]? = w.heap[S]? := (Below.heap_alloc _ _ _ (by simp; omega)).trans (Below.heap_alloc _ _ _ hS)
  refine ⟨w.heap.size + 1, [{ target := .collected w.heap.size, args := #[] }], W1, { target := .fn (.func gf) lb, args := #[.func (.yield (w.heap.size + 1)) #[] #[]] }, W1, gf,
    #[.func (.yield (w.heap.size + 1)) #[] #[]] ++ lb, W1, ?_, ?_, ?_, ?_, fun _ => h1, ?_⟩
  · rw [hro]; exact run_enterLoop_outer _ _ _ _ _
  · simp only [resolve, hg]
    simp [go_sem]
  · intro f' hf'
    simp [Target.leads] at hf'
    subst hf'
    exact hFg
  · simp [invoke, go_sem, eg _ _]
  · refine (hseq (w.heap.size + 1) (fun pre W => I pre W ∧ W.heap[w.heap.size + 1]? = some (.loop (rec_ .ready)) ∧ W.heap[w.heap.size]? = some (.deferred (some []))) W1 ?_ ?_ ⟨?_, hL1, hD1⟩ hS1).mono ?_
    · rintro pre W v ⟨hi, hl, hd⟩
      exact ⟨hI _ _ _ hi ((But.setCell (p := ⟨S, 0, none⟩) v).mono fun k hk => .inl hk), (Below.heap_setCell W ⟨S, 0, none⟩ v _ (by show w.heap.size + 1 ≠ S; omega)).trans hl, (Below.heap_setCell W ⟨S, 0, none⟩ v _ (by show w.heap.size ≠ S; omega)).trans hd⟩
    · rintro pre x W ⟨hi, hl, hd⟩ hpl
      have hlt : w.heap.size + 1 < W.heap.size := (Array.getElem?_eq_some_iff.1 hl).1
      have hy := run_yield (P := P) (args := #[enc x]) hl rfl
      have hl2 : (W.putObj (w.heap.size + 1) (.loop (rec_ .busy))).heap[w.heap.size + 1]? = some (.loop (rec_ .busy)) := World.putObj_heap_same hlt
      have hbut : ∀ (V : World) (o : Obj), But (fun k => k = S ∨ k = w.heap.size ∨ k = w.heap.size + 1) V (V.putObj (w.heap.size + 1) o) := fun V o => (But.putObj o).mono fun k hk => .inr (.inr hk)
      refine ⟨fn, _, assign, body, hy, roundIn_of_wpIn hfn ?_⟩
      refine hassign _ x W _ ⟨_, run_beginRound hl rfl, ?_⟩
      refine wpIn_mono (hbody (w.heap.size + 1) pre x _ (hI _ _ _ hi (hbut W _)) hpl (by rw [World.putObj]; simpa using hlt)) ?_
      rintro e a3 W3 ⟨rfl, hi3, hk3⟩
      have hl3 := (hk3 (w.heap.size + 1) (.inr (.inr rfl))).trans hl2
      have hd3 := (hk3 w.heap.size (.inr (.inl rfl))).trans ((World.putObj_heap_other (by omega)).trans hd)
      refine ⟨_, _, run_endRound (P := P) none hl3, rfl, ⟨hI _ _ _ hi3 (hbut W3 _), World.putObj_heap_same (Array.getElem?_eq_some_iff.1 hl3).1, (World.putObj_heap_other (by omega)).trans hd3⟩, ?_⟩
      exact (World.putObj_heap_other (by omega)).trans ((hk3 S (.inl rfl)).trans (World.putObj_heap_other (by omega)))
    · exact hIa _ _ (.inr (by simp)) (hIa _ _ (.inl rfl) h0)
    · rintro e W2 ⟨⟨v, rfl⟩, hi, hl, hd⟩
      exact ⟨none, _, run_endLoop (P := P) hl (by simp [rec_]), hdone _ (hI _ _ _ hi ((But.putObj _).mono fun k hk => .inr (.inr hk))) ((World.putObj_heap_other (by omega)).trans hd)⟩
end Go.Proofs.Ytihjmnhjjpdenaa
end
section
namespace Go.Proofs.Ytihjmnhjjpdenaa
open Go Go.RowKit
set_option linter.unusedVariables false
/-- What the statement lays is as it was. -/
def KeepD (D : Nat) (W W' : World) : Prop := ∀ k, k = D ∨ k = D + 1 → W'.heap[k]? = W.heap[k]?
variable {F : Fence} {n : Nat} {P : Program}
/-- The law: what lies below B stays. -/
theorem wpIn_range_below {α : Type} {g : Operand} {p : Tmp} {assign body : Code} {Q : Exit → Act → World → Prop} {a : Act} {w : World}
    (hro : F.round = none) (h1 : 1 ≤ n) {gf : Nat} {lb : Array Value} (hg : a.eval g = .func (.func gf) #[] lb) (hFg : F.fn gf) (eg : Enters P gf)
    (enc : α → Value) (xs : List α) (B : Nat) (hB : B ≤ w.heap.size) (I : List α → World → Prop)
    (hI : ∀ pre W W', I pre W → But (fun k => k = w.heap.size ∨ k = w.heap.size + 1) W W' → I pre W') (h0 : I [] w)
    (hIa : ∀ (W : World) (o : Obj), W.heap.size = w.heap.size ∨ W.heap.size = w.heap.size + 1 → I [] W → I [] (W.alloc o))
    (hseq : ∀ (l : Nat) (J : List α → World → Prop) (W : World),
      (∀ pre x W, J pre W → pre.length < xs.length → YieldAt F (n - 1 - 1) P l #[enc x] W fun e W' => e = .returned (.bool true) ∧ J (pre ++ [x]) W' ∧ Below B W W') →
      J [] W → Below B w W → CallsIn F (n - 1) P gf (#[.func (.yield l) #[] #[]] ++ lb) W fun e W' => (∃ v, e = .returned v) ∧ J xs W')
    (a₁ : α → Act)
    (hassign : ∀ (l : Nat) (x : α) (W : World) (K : Act → World → Prop), K (a₁ x) W →
      assign.wpIn (F.inRound l) (n - 1 - 1) P (Exit.then K (fun _ _ _ => False)) { tmps := (#[p].zip #[enc x]).foldl (fun t (p, v) => t.setIfInBounds p v) a.tmps, defers := [] } W)
    (hbody : ∀ (l : Nat) (pre : List α) (x : α) (W : World), I pre W → pre.length < xs.length → w.heap.size + 1 < W.heap.size →
      body.wpIn (F.inRound l) (n - 1 - 1) P (fun e _ W' => e = .normal ∧ I (pre ++ [x]) W' ∧ Below B W W' ∧ KeepD w.heap.size W W') (a₁ x) W)
    (hdone : ∀ (W : World), I xs W → W.heap[w.heap.size]? = some (.deferred (some [])) → Q .normal { a with defers := { target := .collected w.heap.size, args := #[] } :: a.defers } W) :
    (Code.rangeFunc g #[p] assign body).wpIn F n P Q a w := by
  refine wpIn_rangeFunc fun fn hfn => ?_
  let rec_ : LoopState → Loop := fun st => { state := st, pending := none, fn, tmps := a.tmps, params := #[p], assign, body, defers := w.heap.size }
  let W1 : World := (w.alloc (.deferred (some []))).alloc (.loop (rec_ .ready))
  have hsz : W1.heap.size = w.heap.size + 2 := by show ((w.alloc _).alloc _).heap.size = _; simp
  have hL1 : W1.heap[w.heap.size + 1]? = some (.loop (rec_ .ready)) := by
    have := World.alloc_heap_new (w.alloc (.deferred (some []))) (.loop (rec_ .ready)); rwa [World.size_alloc] at this
  have hD1 : W1.heap[w.heap.size]? = some (.deferred (some [])) := (Below.heap_alloc _ _ _ (by simp)).trans (World.alloc_heap_new w _)
  have hb1 : Below B w W1 := ((Below.refl B w).alloc hB _).alloc (by simp; omega) _
  refine ⟨w.heap.size + 1, [{ target := .collected w.heap.size, args := #[] }], W1, { target := .fn (.func gf) lb, args := #[.func (.yield (w.heap.size + 1)) #[] #[]] }, W1, gf,
    #[.func (.yield (w.heap.size + 1)) #[] #[]] ++ lb, W1, ?_, ?_, ?_, ?_, fun _ => h1, ?_⟩
  · rw [hro]; exact run_enterLoop_outer _ _ _ _ _
  · simp only [resolve, hg]
    simp [go_sem]
  · intro f' hf'
    simp [Target.leads] at hf'
    subst hf'
    exact hFg
  · simp [invoke, go_sem, eg _ _]
  · refine (hseq (w.heap.size + 1) (fun pre W => I pre W ∧ W.heap[w.heap.size + 1]? = some (.loop (rec_ .ready)) ∧ W.heap[w.heap.size]? = some (.deferred (some []))) W1 ?_ ⟨?_, hL1, hD1⟩ hb1).mono ?_
    · rintro pre x W ⟨hi, hl, hd⟩ hpl
      have hlt : w.heap.size + 1 < W.heap.size := (Array.getElem?_eq_some_iff.1 hl).1
      have hy := run_yield (P := P) (args := #[enc x]) hl rfl
      have hl2 : (W.putObj (w.heap.size + 1) (.loop (rec_ .busy))).heap[w.heap.size + 1]? = some (.loop (rec_ .busy)) := World.putObj_heap_same hlt
      have hbut : ∀ (V : World) (o : Obj), But (fun k => k = w.heap.size ∨ k = w.heap.size + 1) V (V.putObj (w.heap.size + 1) o) := fun V o => (But.putObj o).mono fun k hk => .inr hk
      have hbel : ∀ (V : World) (o : Obj), Below B V (V.putObj (w.heap.size + 1) o) := fun V o => ⟨rfl, rfl, rfl, by simp [World.putObj], fun k hk => World.putObj_heap_other (by omega)⟩
      refine ⟨fn, _, assign, body, hy, roundIn_of_wpIn hfn ?_⟩
      refine hassign _ x W _ ⟨_, run_beginRound hl rfl, ?_⟩
      refine wpIn_mono (hbody (w.heap.size + 1) pre x _ (hI _ _ _ hi (hbut W _)) hpl (by rw [World.putObj]; simpa using hlt)) ?_
      rintro e a3 W3 ⟨rfl, hi3, hk3, hk4⟩
      have hl3 := (hk4 (w.heap.size + 1) (.inr rfl)).trans hl2
      have hd3 := (hk4 w.heap.size (.inl rfl)).trans ((World.putObj_heap_other (by omega)).trans hd)
      refine ⟨_, _, run_endRound (P := P) none hl3, rfl, ⟨hI _ _ _ hi3 (hbut W3 _), World.putObj_heap_same (Array.getElem?_eq_some_iff.1 hl3).1, (World.putObj_heap_other (by omega)).trans hd3⟩, ?_⟩
      exact ((hbel W _).trans hk3).trans (hbel W3 _)
    · exact hIa _ _ (.inr (by simp)) (hIa _ _ (.inl rfl) h0)
    · rintro e W2 ⟨⟨v, rfl⟩, hi, hl, hd⟩
      exact ⟨none, _, run_endLoop (P := P) hl (by simp [rec_]), hdone _ (hI _ _ _ hi ((But.putObj _).mono fun k hk => .inr hk)) ((World.putObj_heap_other (by omega)).trans hd)⟩
end Go.Proofs.Ytihjmnhjjpdenaa
end
section
namespace Go.Proofs.Ytihjmnhjjpdenaa.Vw
open Go Go.RowKit Go.Shelf
set_option linter.unusedVariables false
attribute [local go_sem] Oper.semAt_some
/-- All numbers. -/
def flatQ (qs : List (List (List Int))) : List Int := qs.flatMap List.flatten
theorem flatQ_at {qs : List (List (List Int))} {k : Nat} (h : k < qs.length) : flatQ qs = flatQ (qs.take k) ++ (qs[k].flatten ++ flatQ (qs.drop (k + 1))) := by
  have : qs = qs.take k ++ (qs[k] :: qs.drop (k + 1)) := by rw [← List.drop_eq_getElem_cons h, List.take_append_drop]
  conv => lhs; rw [this]
  rw [flatQ, List.flatMap_append, List.flatMap_cons]; rfl
theorem flatQ_snoc {qs : List (List (List Int))} {k : Nat} (h : k < qs.length) : flatQ (qs.take (k + 1)) = flatQ (qs.take k) ++ qs[k].flatten := by
  rw [List.take_succ_eq_append_getElem h, flatQ, List.flatMap_append, List.flatMap_cons, List.flatMap_nil, List.append_nil]; rfl
theorem flat_at {q : List (List Int)} {k : Nat} (h : k < q.length) : q.flatten = (q.take k).flatten ++ (q[k] ++ (q.drop (k + 1)).flatten) := by
  have : q = q.take k ++ (q[k] :: q.drop (k + 1)) := by rw [← List.drop_eq_getElem_cons h, List.take_append_drop]
  conv => lhs; rw [this]
  rw [List.flatten_append, List.flatten_cons]
theorem flat_snoc {q : List (List Int)} {k : Nat} (h : k < q.length) : (q.take (k + 1)).flatten = (q.take k).flatten ++ q[k] := by
  rw [List.take_succ_eq_append_getElem h, List.flatten_append, List.flatten_cons, List.flatten_nil, List.append_nil]
theorem flat_lt {qs : List (List (List Int))} {k j m : Nat} (hk : k < qs.length) (hj : j < qs[k].length) (hm : m < qs[k][j].length) : (flatQ (qs.take k) ++ ((qs[k].take j).flatten ++ qs[k][j].take m)).length < (flatQ qs).length := by
  rw [flatQ_at hk, flat_at hj]
  simp only [List.length_append, List.length_take]
  omega
theorem nums_any (sv vs : Value) (w : World) (h1 : sv.oneCell' = true) (h2 : vs.oneCell' = true) :
    Calls Try.prog 36 #[.agg #[sv, vs]] w fun e w' => e = .returned (.func (.func 48) #[] #[.pointer (some ⟨w.heap.size, 0, none⟩)]) ∧ w.alloc (.cells #[sv, vs] 32) = w' := by
  go_enter Try.func36, Try.ntmps36
  go_wp2
  go_ret
  exact ⟨rfl, rfl⟩

theorem nums_in (F : Fence) (n : Nat) (hf : F.fn 48) (hro : F.round = none) (hn : 1 ≤ n) (l Bu B : Nat) (hBu : Bu < B) (vs vq : Value) (qs : List (List (List Int))) (J : List Int → World → Prop) (W0 : World)
    (hbx : W0.heap[Bu]? = some (.cells #[vs, vq] 32 (0, 0))) (hq : Lst W0 (Lo B) vq qs)
    (hY : ∀ pre x W, J pre W → pre.length < (flatQ qs).length → YieldAt F (n - 1) Try.prog l #[.int .i64 x] W fun e W' => e = .returned (.bool true) ∧ J (pre ++ [x]) W' ∧ Below B W W')
    (h0 : J [] W0) :
    CallsIn F n Try.prog 48 #[.func (.yield l) #[] #[], .pointer (some ⟨Bu, 0, none⟩)] W0 fun e W' => (∃ v, e = .returned v) ∧ J (flatQ qs) W' := by
  obtain ⟨aq, cq, rfl, hq1, hq2⟩ := hq.form
  have hc0 : W0.cell? ⟨Bu, 1, none⟩ = some (.slice aq qs.length cq) := by simp [World.cell?, hbx]
  have Hbx := Lib.hid hbx
  clear hbx
  refine callsIn_of_wp Try.func48 rfl hf ?_ hro
  simp only [Try.ntmps48, List.size_toArray, List.length_cons, List.length_nil, Nat.reduceAdd, Nat.reduceSub, Array.replicate_succ, Array.replicate_zero, List.push_toArray, List.append_toArray, List.nil_append, List.cons_append]
  gi_wp2
  gi_loopw [12] (fun i wr => ∃ k : Nat, i = .int .i64 k ∧ k ≤ qs.length ∧ J (flatQ (qs.take k)) wr ∧ Below B W0 wr) (fun i wr => qs.length - (intOf i).toNat)
  case atStart => exact ⟨0, rfl, Nat.zero_le _, h0, Below.refl _ _⟩
  case round =>
    obtain ⟨k, rfl, hk, hj, hb⟩ := hrel
    by_cases hkl : k < qs.length
    · obtain ⟨g, off, cs, rfl, hg, hr, v1, rfl, hL1⟩ := hq.at_ hkl
      have hc1 : wr.cell? ⟨g, off + k, none⟩ = some v1 := (hb.cell (p := ⟨g, off + k, none⟩) hg.1).trans (by have := hr 0 v1 rfl; simpa [Rep.sz] using this)
      have hcb : wr.cell? ⟨Bu, 1, none⟩ = some (.slice (some ⟨g, off, none⟩) qs.length cq) := (hb.cell (p := ⟨Bu, 1, none⟩) hBu).trans hc0
      obtain ⟨a1, c1, rfl, hx1, hx2⟩ := hL1.form
      gi_wp2
      gi_loopw [18] (fun i wr => ∃ j : Nat, i = .int .i64 j ∧ j ≤ qs[k].length ∧ J (flatQ (qs.take k) ++ (qs[k].take j).flatten) wr ∧ Below B W0 wr) (fun i wr => qs[k].length - (intOf i).toNat)
      case atStart => exact ⟨0, rfl, Nat.zero_le _, by simpa using hj, hb⟩
      case round =>
        clear hj hb hc1 hcb
        obtain ⟨j, rfl, hjl, hj, hb⟩ := hrel
        by_cases hjl2 : j < qs[k].length
        · obtain ⟨g1, off1, cs1, rfl, hg1, hr1, v2, rfl, hL2⟩ := hL1.at_ hjl2
          have hc1 : wr.cell? ⟨g1, off1 + j, none⟩ = some v2 := (hb.cell (p := ⟨g1, off1 + j, none⟩) hg1.1).trans (by have := hr1 0 v2 rfl; simpa [Rep.sz] using this)
          obtain ⟨a2, c2, rfl, hy1, hy2⟩ := hL2.form
          gi_wp2
          gi_loopw [24] (fun i wr => ∃ m : Nat, i = .int .i64 m ∧ m ≤ qs[k][j].length ∧ J (flatQ (qs.take k) ++ ((qs[k].take j).flatten ++ qs[k][j].take m)) wr ∧ Below B W0 wr) (fun i wr => qs[k][j].length - (intOf i).toNat)
          case atStart => exact ⟨0, rfl, Nat.zero_le _, by simpa using hj, hb⟩
          case round =>
            clear hj hb hc1
            obtain ⟨m, rfl, hml, hj, hb⟩ := hrel
            by_cases hml2 : m < qs[k][j].length
            · obtain ⟨g2, off2, cs2, rfl, hg2, hr2, hcs2, hI⟩ := hL2.at_ hml2
              subst hcs2
              have hc1 : wr.cell? ⟨g2, off2 + m, none⟩ = some (.int .i64 qs[k][j][m]) := (hb.cell (p := ⟨g2, off2 + m, none⟩) hg2.1).trans (by have := hr2 0 _ rfl; simpa [Rep.sz] using this)
              obtain ⟨fn, tmps, assign, body, hy, hR⟩ := hY _ qs[k][j][m] wr hj (flat_lt hkl hjl2 hml2)
              gi_wp2
              refine hR.mono ?_
              rintro e W3 ⟨rfl, hJ3, hk3⟩
              gi_wp2
              have hw : wrap64 ((m : Int) + 1) = ((m + 1 : Nat) : Int) := IntWalk.wrap64_in _ (by unfold maxLen at *; omega)
              refine ⟨⟨m + 1, by simp only [hw], hml2, ?_, hb.trans hk3⟩, ?_⟩
              · rw [List.take_succ_eq_append_getElem hml2, ← List.append_assoc, ← List.append_assoc]
                simpa [List.append_assoc] using hJ3
              · simp only [hw]; simp [intOf]; exact Nat.sub_lt_sub_left hml2 (Nat.lt_succ_self _)
            · obtain rfl : m = qs[k][j].length := by omega
              gi_wp2
              have hw : wrap64 ((j : Int) + 1) = ((j + 1 : Nat) : Int) := IntWalk.wrap64_in _ (by unfold maxLen at *; omega)
              refine ⟨⟨j + 1, by simp only [hw], hjl2, ?_, hb⟩, ?_⟩
              · rw [flat_snoc hjl2]
                simpa using hj
              · simp only [hw]; simp [intOf]; exact Nat.sub_lt_sub_left hjl2 (Nat.lt_succ_self _)
        · obtain rfl : j = qs[k].length := by omega
          gi_wp2
          have hw : wrap64 ((k : Int) + 1) = ((k + 1 : Nat) : Int) := IntWalk.wrap64_in _ (by unfold maxLen at *; omega)
          refine ⟨⟨k + 1, by simp only [hw], hkl, ?_, hb⟩, ?_⟩
          · rw [flatQ_snoc hkl]
            simpa using hj
          · simp only [hw]; simp [intOf]; exact Nat.sub_lt_sub_left hkl (Nat.lt_succ_self _)
    · obtain rfl : k = qs.length := by omega
      gi_wp2
      go_end0
      exact ⟨⟨_, rfl⟩, by simpa using hj⟩
end Go.Proofs.Ytihjmnhjjpdenaa.Vw
end
