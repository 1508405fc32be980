/- Flat as data. -/
import Derived.Test.YtihjmnhjjpdenaaMRangeOwn
import Derived.Test.YtihjmnhjjpdenaaRows
import Derived.Test.YtihjmnhjjpdenaaMRep
import Derived.Test.YtihjmnhjjpdenaaMVwJ
import Derived.RangeFuncNested
import Derived.RangeFuncBound
import Derived.RangeFuncCalls
import Derived.RangeFuncLeaves
import Derived.Shelf.Abstract
import Derived.Shelf.RegionOpen
import Derived.WalkKit
import Derived.OwnWalkIn
import Derived.TacticsInMore
import Derived.LoopNIn
import Derived.LoopIn
import Derived.Lib.Hide
import Derived.OwnWalk
import Derived.Outline
import Derived.Test.YtihjmnhjjpdenaaMSimBr
import Derived.Test.YtihjmnhjjpdenaaMVwL
section
namespace Go.Proofs.Ytihjmnhjjpdenaa
open Go Go.RowKit
set_option linter.unusedVariables false
/-- What the statement lays is as it was. -/
def KeepD (D : Nat) (W W' : World) : Prop := ∀ k, k = D ∨ k = D + 1 → W'.heap[k]? = W.heap[k]?
variable {F : Fence} {n : Nat} {P : Program}
/-- The law: what lies below B stays. -/
theorem wpIn_range_below {α : Type} {g : Operand} {p : Tmp} {assign body : Code} {Q : Exit → Act → World → Prop} {a : Act} {w : World}
    (hro : F.round = none) (h1 : 1 ≤ n) {gf : Nat} {lb : Array Value} (hg : a.eval g = .func (.func gf) #[] lb) (hFg : F.fn gf) (eg : Enters P gf)
    (enc : α → Value) (xs : List α) (B : Nat) (hB : B ≤ w.heap.size) (I : List α → World → Prop)
    (hI : ∀ pre W W', I pre W → But (fun k => k = w.heap.size ∨ k = w.heap.size + 1) W W' → I pre W') (h0 : I [] w)
    (hIa : ∀ (W : World) (o : Obj), W.heap.size = w.heap.size ∨ W.heap.size = w.heap.size + 1 → I [] W → I [] (W.alloc o))
    (hseq : ∀ (l : Nat) (J : List α → World → Prop) (W : World),
      (∀ pre x W, J pre W → pre.length < xs.length → YieldAt F (n - 1 - 1) P l #[enc x] W fun e W' => e = .returned (.bool true) ∧ J (pre ++ [x]) W' ∧ Below B W W') →
      J [] W → Below B w W → CallsIn F (n - 1) P gf (#[.func (.yield l) #[] #[]] ++ lb) W fun e W' => (∃ v, e = .returned v) ∧ J xs W')
    (a₁ : α → Act)
    (hassign : ∀ (l : Nat) (x : α) (W : World) (K : Act → World → Prop), K (a₁ x) W →
      assign.wpIn (F.inRound l) (n - 1 - 1) P (Exit.then K (fun _ _ _ => False)) { tmps := (#[p].zip #[enc x]).foldl (fun t (p, v) => t.setIfInBounds p v) a.tmps, defers := [] } W)
    (hbody : ∀ (l : Nat) (pre : List α) (x : α) (W : World), I pre W → pre.length < xs.length → w.heap.size + 1 < W.heap.size →
      body.wpIn (F.inRound l) (n - 1 - 1) P (fun e _ W' => e = .normal ∧ I (pre ++ [x]) W' ∧ Below B W W' ∧ KeepD w.heap.size W W') (a₁ x) W)
    (hdone : ∀ (W : World), I xs W → W.heap[w.heap.size]? = some (.deferred (some [])) → Q .normal { a with defers := { target := .collected w.heap.size, args := #[] } :: a.defers } W) :
    (Code.rangeFunc g #[p] assign body).wpIn F n P Q a w := by
  refine wpIn_rangeFunc fun fn hfn => ?_
  let rec_ : LoopState → Loop := fun st => { state := st, pending := none, fn, tmps := a.tmps, params := #[p], assign, body, defers := w.heap.size }
  let W1 : World := (w.alloc (.deferred (some []))).alloc (.loop (rec_ .ready))
  have hsz : W1.heap.size = w.heap.size + 2 := by show ((w.alloc _).alloc _).heap.size = _; simp
  have hL1 : W1.heap[w.heap.size + 1]? = some (.loop (rec_ .ready)) := by
    have := World.alloc_heap_new (w.alloc (.deferred (some []))) (.loop (rec_ .ready)); rwa [World.size_alloc] at this
  have hD1 : W1.heap[w.heap.size]? = some (.deferred (some [])) := (Below.heap_alloc _ _ _ (by simp)).trans (World.alloc_heap_new w _)
  have hb1 : Below B w W1 := ((Below.refl B w).alloc hB _).alloc (by simp; omega) _
  refine ⟨w.heap.size + 1, [{ target := .collected w.heap.size, args := #[] }], W1, { target := .fn (.func gf) lb, args := #[.func (.yield (w.heap.size + 1)) #[] #[]] }, W1, gf,
    #[.func (.yield (w.heap.size + 1)) #[] #[]] ++ lb, W1, ?_, ?_, ?_, ?_, fun _ => h1, ?_⟩
  · rw [hro]; exact run_enterLoop_outer _ _ _ _ _
  · simp only [resolve, hg]
    simp [go_sem]
  · intro f' hf'
    simp [Target.leads] at hf'
    subst hf'
    exact hFg
  · simp [invoke, go_sem, eg _ _]
  · refine (hseq (w.heap.size + 1) (fun pre W => I pre W ∧ W.heap[w.heap.size + 1]? = some (.loop (rec_ .ready)) ∧ W.heap[w.heap.size]? = some (.deferred (some []))) W1 ?_ ⟨?_, hL1, hD1⟩ hb1).mono ?_
    · rintro pre x W ⟨hi, hl, hd⟩ hpl
      have hlt : w.heap.size + 1 < W.heap.size := (Array.getElem?_eq_some_iff.1 hl).1
      have hy := run_yield (P := P) (args := #[enc x]) hl rfl
      have hl2 : (W.putObj (w.heap.size + 1) (.loop (rec_ .busy))).heap[w.heap.size + 1]? = some (.loop (rec_ .busy)) := World.putObj_heap_same hlt
      have hbut : ∀ (V : World) (o : Obj), But (fun k => k = w.heap.size ∨ k = w.heap.size + 1) V (V.putObj (w.heap.size + 1) o) := fun V o => (But.putObj o).mono fun k hk => .inr hk
      have hbel : ∀ (V : World) (o : Obj), Below B V (V.putObj (w.heap.size + 1) o) := fun V o => ⟨rfl, rfl, rfl, by simp [World.putObj], fun k hk => World.putObj_heap_other (by omega)⟩
      refine ⟨fn, _, assign, body, hy, roundIn_of_wpIn hfn ?_⟩
      refine hassign _ x W _ ⟨_, run_beginRound hl rfl, ?_⟩
      refine wpIn_mono (hbody (w.heap.size + 1) pre x _ (hI _ _ _ hi (hbut W _)) hpl (by rw [World.putObj]; simpa using hlt)) ?_
      rintro e a3 W3 ⟨rfl, hi3, hk3, hk4⟩
      have hl3 := (hk4 (w.heap.size + 1) (.inr rfl)).trans hl2
      have hd3 := (hk4 w.heap.size (.inl rfl)).trans ((World.putObj_heap_other (by omega)).trans hd)
      refine ⟨_, _, run_endRound (P := P) none hl3, rfl, ⟨hI _ _ _ hi3 (hbut W3 _), World.putObj_heap_same (Array.getElem?_eq_some_iff.1 hl3).1, (World.putObj_heap_other (by omega)).trans hd3⟩, ?_⟩
      exact ((hbel W _).trans hk3).trans (hbel W3 _)
    · exact hIa _ _ (.inr (by simp)) (hIa _ _ (.inl rfl) h0)
    · rintro e W2 ⟨⟨v, rfl⟩, hi, hl, hd⟩
      exact ⟨none, _, run_endLoop (P := P) hl (by simp [rec_]), hdone _ (hI _ _ _ hi ((But.putObj _).mono fun k hk => .inr hk)) ((World.putObj_heap_other (by omega)).trans hd)⟩
end Go.Proofs.Ytihjmnhjjpdenaa
end
section
namespace Go.Proofs.Ytihjmnhjjpdenaa.Vw
open Go Go.RowKit Go.Shelf
set_option linter.unusedVariables false
attribute [local go_sem] Oper.semAt_some
/-- All numbers. -/
def flatQ (qs : List (List (List Int))) : List Int := qs.flatMap List.flatten
theorem flatQ_at {qs : List (List (List Int))} {k : Nat} (h : k < qs.length) : flatQ qs = flatQ (qs.take k) ++ (qs[k].flatten ++ flatQ (qs.drop (k + 1))) := by
  have : qs = qs.take k ++ (qs[k] :: qs.drop (k + 1)) := by rw [← List.drop_eq_getElem_cons h, List.take_append_drop]
  conv => lhs; rw [this]
  rw [flatQ, List.flatMap_append, List.flatMap_cons]; rfl
theorem flatQ_snoc {qs : List (List (List Int))} {k : Nat} (h : k < qs.length) : flatQ (qs.take (k + 1)) = flatQ (qs.take k) ++ qs[k].flatten := by
  rw [List.take_succ_eq_append_getElem h, flatQ, List.flatMap_append, List.flatMap_cons, List.flatMap_nil, List.append_nil]; rfl
theorem flat_at {q : List (List Int)} {k : Nat} (h : k < q.length) : q.flatten = (q.take k).flatten ++ (q[k] ++ (q.drop (k + 1)).flatten) := by
  have : q = q.take k ++ (q[k] :: q.drop (k + 1)) := by rw [← List.drop_eq_getElem_cons h, List.take_append_drop]
  conv => lhs; rw [this]
  rw [List.flatten_append, List.flatten_cons]
theorem flat_snoc {q : List (List Int)} {k : Nat} (h : k < q.length) : (q.take (k + 1)).flatten = (q.take k).flatten ++ q[k] := by
  rw [List.take_succ_eq_append_getElem h, List.flatten_append, List.flatten_cons, List.flatten_nil, List.append_nil]
theorem flat_lt {qs : List (List (List Int))} {k j m : Nat} (hk : k < qs.length) (hj : j < qs[k].length) (hm : m < qs[k][j].length) : (flatQ (qs.take k) ++ ((qs[k].take j).flatten ++ qs[k][j].take m)).length < (flatQ qs).length := by
  rw [flatQ_at hk, flat_at hj]
  simp only [List.length_append, List.length_take]
  omega
theorem nums_any (sv vs : Value) (w : World) (h1 : sv.oneCell' = true) (h2 : vs.oneCell' = true) :
    Calls Try.prog 36 #[.agg #[sv, vs]] w fun e w' => e = .returned (.func (.func 48) #[] #[.pointer (some ⟨w.heap.size, 0, none⟩)]) ∧ w.alloc (.cells #[sv, vs] 32) = w' := by
  go_enter Try.func36, Try.ntmps36
  go_wp2
  go_ret
  exact ⟨rfl, rfl⟩

theorem nums_in (F : Fence) (n : Nat) (hf : F.fn 48) (hro : F.round = none) (hn : 1 ≤ n) (l Bu B : Nat) (hBu : Bu < B) (vs vq : Value) (qs : List (List (List Int))) (J : List Int → World → Prop) (W0 : World)
    (hbx : W0.heap[Bu]? = some (.cells #[vs, vq] 32 (0, 0))) (hq : Lst W0 (Lo B) vq qs)
    (hY : ∀ pre x W, J pre W → pre.length < (flatQ qs).length → YieldAt F (n - 1) Try.prog l #[.int .i64 x] W fun e W' => e = .returned (.bool true) ∧ J (pre ++ [x]) W' ∧ Below B W W')
    (h0 : J [] W0) :
    CallsIn F n Try.prog 48 #[.func (.yield l) #[] #[], .pointer (some ⟨Bu, 0, none⟩)] W0 fun e W' => (∃ v, e = .returned v) ∧ J (flatQ qs) W' := by
  obtain ⟨aq, cq, rfl, hq1, hq2⟩ := hq.form
  have hc0 : W0.cell? ⟨Bu, 1, none⟩ = some (.slice aq qs.length cq) := by simp [World.cell?, hbx]
  have Hbx := Lib.hid hbx
  clear hbx
  refine callsIn_of_wp Try.func48 rfl hf ?_ hro
  simp only [Try.ntmps48, List.size_toArray, List.length_cons, List.length_nil, Nat.reduceAdd, Nat.reduceSub, Array.replicate_succ, Array.replicate_zero, List.push_toArray, List.append_toArray, List.nil_append, List.cons_append]
  gi_wp2
  gi_loopw [12] (fun i wr => ∃ k : Nat, i = .int .i64 k ∧ k ≤ qs.length ∧ J (flatQ (qs.take k)) wr ∧ Below B W0 wr) (fun i wr => qs.length - (intOf i).toNat)
  case atStart => exact ⟨0, rfl, Nat.zero_le _, h0, Below.refl _ _⟩
  case round =>
    obtain ⟨k, rfl, hk, hj, hb⟩ := hrel
    by_cases hkl : k < qs.length
    · obtain ⟨g, off, cs, rfl, hg, hr, v1, rfl, hL1⟩ := hq.at_ hkl
      have hc1 : wr.cell? ⟨g, off + k, none⟩ = some v1 := (hb.cell (p := ⟨g, off + k, none⟩) hg.1).trans (by have := hr 0 v1 rfl; simpa [Rep.sz] using this)
      have hcb : wr.cell? ⟨Bu, 1, none⟩ = some (.slice (some ⟨g, off, none⟩) qs.length cq) := (hb.cell (p := ⟨Bu, 1, none⟩) hBu).trans hc0
      obtain ⟨a1, c1, rfl, hx1, hx2⟩ := hL1.form
      gi_wp2
      gi_loopw [18] (fun i wr => ∃ j : Nat, i = .int .i64 j ∧ j ≤ qs[k].length ∧ J (flatQ (qs.take k) ++ (qs[k].take j).flatten) wr ∧ Below B W0 wr) (fun i wr => qs[k].length - (intOf i).toNat)
      case atStart => exact ⟨0, rfl, Nat.zero_le _, by simpa using hj, hb⟩
      case round =>
        clear hj hb hc1 hcb
        obtain ⟨j, rfl, hjl, hj, hb⟩ := hrel
        by_cases hjl2 : j < qs[k].length
        · obtain ⟨g1, off1, cs1, rfl, hg1, hr1, v2, rfl, hL2⟩ := hL1.at_ hjl2
          have hc1 : wr.cell? ⟨g1, off1 + j, none⟩ = some v2 := (hb.cell (p := ⟨g1, off1 + j, none⟩) hg1.1).trans (by have := hr1 0 v2 rfl; simpa [Rep.sz] using this)
          obtain ⟨a2, c2, rfl, hy1, hy2⟩ := hL2.form
          gi_wp2
          gi_loopw [24] (fun i wr => ∃ m : Nat, i = .int .i64 m ∧ m ≤ qs[k][j].length ∧ J (flatQ (qs.take k) ++ ((qs[k].take j).flatten ++ qs[k][j].take m)) wr ∧ Below B W0 wr) (fun i wr => qs[k][j].length - (intOf i).toNat)
          case atStart => exact ⟨0, rfl, Nat.zero_le _, by simpa using hj, hb⟩
          case round =>
            clear hj hb hc1
            obtain ⟨m, rfl, hml, hj, hb⟩ := hrel
            by_cases hml2 : m < qs[k][j].length
            · obtain ⟨g2, off2, cs2, rfl, hg2, hr2, hcs2, hI⟩ := hL2.at_ hml2
              subst hcs2
              have hc1 : wr.cell? ⟨g2, off2 + m, none⟩ = some (.int .i64 qs[k][j][m]) := (hb.cell (p := ⟨g2, off2 + m, none⟩) hg2.1).trans (by have := hr2 0 _ rfl; simpa [Rep.sz] using this)
              obtain ⟨fn, tmps, assign, body, hy, hR⟩ := hY _ qs[k][j][m] wr hj (flat_lt hkl hjl2 hml2)
              gi_wp2
              refine hR.mono ?_
              rintro e W3 ⟨rfl, hJ3, hk3⟩
              gi_wp2
              have hw : wrap64 ((m : Int) + 1) = ((m + 1 : Nat) : Int) := IntWalk.wrap64_in _ (by unfold maxLen at *; omega)
              refine ⟨⟨m + 1, by simp only [hw], hml2, ?_, hb.trans hk3⟩, ?_⟩
              · rw [List.take_succ_eq_append_getElem hml2, ← List.append_assoc, ← List.append_assoc]
                simpa [List.append_assoc] using hJ3
              · simp only [hw]; simp [intOf]; exact Nat.sub_lt_sub_left hml2 (Nat.lt_succ_self _)
            · obtain rfl : m = qs[k][j].length := by omega
              gi_wp2
              have hw : wrap64 ((j : Int) + 1) = ((j + 1 : Nat) : Int) := IntWalk.wrap64_in _ (by unfold maxLen at *; omega)
              refine ⟨⟨j + 1, by simp only [hw], hjl2, ?_, hb⟩, ?_⟩
              · rw [flat_snoc hjl2]
                simpa using hj
              · simp only [hw]; simp [intOf]; exact Nat.sub_lt_sub_left hjl2 (Nat.lt_succ_self _)
        · obtain rfl : j = qs[k].length := by omega
          gi_wp2
          have hw : wrap64 ((k : Int) + 1) = ((k + 1 : Nat) : Int) := IntWalk.wrap64_in _ (by unfold maxLen at *; omega)
          refine ⟨⟨k + 1, by simp only [hw], hkl, ?_, hb⟩, ?_⟩
          · rw [flatQ_snoc hkl]
            simpa using hj
          · simp only [hw]; simp [intOf]; exact Nat.sub_lt_sub_left hkl (Nat.lt_succ_self _)
    · obtain rfl : k = qs.length := by omega
      gi_wp2
      go_end0
      exact ⟨⟨_, rfl⟩, by simpa using hj⟩
end Go.Proofs.Ytihjmnhjjpdenaa.Vw
end
section
namespace Go.Proofs.Ytihjmnhjjpdenaa.Vw
open Go Go.RowKit Go.Shelf
set_option linter.unusedVariables false
attribute [local go_sem] Oper.semAt_some
theorem infoInt : (Try.prog.info? 3).map (fun i => (i.zero, i.size, i.bytes)) = some (some (.int .i64 0), 1, 8) := by kernel_rfl
abbrev iv (x : Int) : Value := .int .i64 x
/-- What the box holds between two rounds. -/
def SeqI (w : World) (pre : List Int) (W : World) : Prop :=
  ∃ ad c, W.heap[w.heap.size]? = some (.cells #[.slice ad pre.length c] 29 (0, 0)) ∧ Own W w.heap.size 1 (.slice ad pre.length c) pre.length (pre.map iv) ∧
    (∀ g, (Value.slice ad pre.length c).ownBlock = some g → w.heap.size + 2 < g) ∧ Below w.heap.size w W ∧ w.heap.size + 1 ≤ W.heap.size
theorem SeqI.but {w : World} {pre : List Int} {W W' : World} (h : SeqI w pre W) (hb : But (fun k => k = w.heap.size + 1 ∨ k = w.heap.size + 1 + 1) W W') : SeqI w pre W' := by
  obtain ⟨ad, c, h1, h2, h3, h4, h5⟩ := h
  refine ⟨ad, c, (hb.block _ (by omega) (by omega)).trans h1, h2.congr hb.size fun g hg => hb.block g (h2.lt hg).1 (by have := h3 g hg; omega), h3,
    h4.trans ⟨hb.os, hb.tape, hb.output, hb.size, fun k hk => hb.block k (by omega) (by omega)⟩, by have := hb.size; omega⟩
theorem SeqI.alloc {w : World} {pre : List Int} {W : World} (h : SeqI w pre W) (o : Obj) : SeqI w pre (W.alloc o) := by
  obtain ⟨ad, c, h1, h2, h3, h4, h5⟩ := h
  exact ⟨ad, c, (Below.heap_alloc W o _ (by omega)).trans h1, h2.alloc o, h3, h4.alloc (by omega) o, by simp; omega⟩
theorem appendSeq_any (Bu : Nat) (vs vq : Value) (qs : List (List (List Int))) (w : World) (hBu : Bu < w.heap.size) (hbx : w.heap[Bu]? = some (.cells #[vs, vq] 32 (0, 0))) (hq : Lst w (Lo w.heap.size) vq qs) (hlen : (flatQ qs).length ≤ 1000000000) :
    Calls Try.prog 47 #[.slice none 0 0, .func (.func 48) #[] #[.pointer (some ⟨Bu, 0, none⟩)]] w fun e w' => ∃ ad c, e = .returned (.slice ad (flatQ qs).length c) ∧ Own w' w.heap.size 1 (.slice ad (flatQ qs).length c) (flatQ qs).length ((flatQ qs).map iv) ∧ Below w.heap.size w w' := by
  refine (callsIn_wide (n := 3)).1 ?_
  refine callsIn_of_wp_marks Try.func47 rfl trivial ?_ rfl
  simp only [Try.ntmps47, List.size_toArray, List.length_cons, List.length_nil, Nat.reduceAdd, Nat.reduceSub, Array.replicate_succ, Array.replicate_zero, List.push_toArray, List.append_toArray, List.nil_append, List.cons_append]
  gi_wp2
  have hbs : (w.alloc (.cells #[.slice none 0 0] 29)).heap.size = w.heap.size + 1 := by simp
  refine wpIn_range_below rfl (by decide) (gf := 48) (lb := #[.pointer (some ⟨Bu, 0, none⟩)]) (by simp [go_sem]) trivial (enters_of Try.func48 (by kernel_rfl) rfl)
    iv (flatQ qs) w.heap.size (by simp) (SeqI w) ?hI ?h0 ?hIa ?hseq
    (fun x => { tmps := #[.slice none 0 0, .func (.func 48) #[] #[.pointer (some ⟨Bu, 0, none⟩)], .pointer (some ⟨w.heap.size, 0, none⟩), undef, .slice none 0 0, iv x, .func (.func 48) #[] #[.pointer (some ⟨Bu, 0, none⟩)], iv x, undef, undef, undef, undef, undef], defers := [] }) ?assign ?body ?done
  case hI =>
    intro pre W W' hi hb
    exact hi.but (hb.mono fun k hk => by simp at hk; omega)
  case h0 =>
    refine ⟨none, 0, ?_, ?_, ?_, ?_, by simp⟩
    · simpa using World.alloc_heap_new w (.cells #[.slice none 0 0] 29)
    · exact Own.nil _ _ _
    · intro g hg
      simp [Value.ownBlock] at hg
    · exact (Below.refl _ w).alloc (Nat.le_refl _) _
  case hIa =>
    intro W o _ hi
    exact hi.alloc o
  case hseq =>
    intro l J W hY hj hb
    have hb2 : Below w.heap.size w W := ((Below.refl _ w).alloc (Nat.le_refl _) _).trans hb
    exact nums_in Fence.wide 2 trivial rfl (by decide) l Bu w.heap.size hBu vs vq qs J W ((hb2.block _ hBu).trans hbx) (hq.below hb2 (Nat.le_refl _)) hY hj
  case assign =>
    intro l x W K hK
    gi_wp2
    exact hK
  case body =>
    rintro l pre x W ⟨ad1, c1, hbx1, ho, hg1, hbel, hsz⟩ hpl hlt
    have hc1 : W.cell? ⟨w.heap.size, 0, none⟩ = some (.slice ad1 pre.length c1) := by simp [World.cell?, hbx1]
    have hf1 : W.frozen? ⟨w.heap.size, 0, none⟩ = false := by simp [World.frozen?, hbx1]
    obtain ⟨i0, hi, hz0, hz1, hz2⟩ := info_parts infoInt
    simp only [World.size_alloc] at hlt
    have hkeep : ∀ (o : Obj) (row : Option Nat) (w2 : World), (W.alloc o).grownBy w2 (Value.slice ad1 pre.length c1).ownBlock → ∀ k, w.heap.size ≤ k → k ≤ w.heap.size + 2 → w2.heap[k]? = W.heap[k]? := fun o _ w2 hg k hk1 hk2 =>
      (hg.block k (by simp; omega) (fun e => by have := hg1 k e.symm; omega)).trans (Below.heap_alloc W o k (by omega))
    have hcell : ∀ (o : Obj) (row : Option Nat) (w2 : World), (W.alloc o).grownBy w2 (Value.slice ad1 pre.length c1).ownBlock → w2.cell? ⟨w.heap.size, 0, none⟩ = some (.slice ad1 pre.length c1) := fun o r w2 hg =>
      (World.cell?_of_block (a := ⟨w.heap.size, 0, none⟩) (hkeep o r w2 hg _ (by show w.heap.size ≤ w.heap.size; omega) (by show w.heap.size ≤ _; omega))).trans hc1
    have hfr : ∀ (o : Obj) (row : Option Nat) (w2 : World), (W.alloc o).grownBy w2 (Value.slice ad1 pre.length c1).ownBlock → w2.frozen? ⟨w.heap.size, 0, none⟩ = false := fun o r w2 hg =>
      (World.frozen?_of_block (a := ⟨w.heap.size, 0, none⟩) (hkeep o r w2 hg _ (by show w.heap.size ≤ w.heap.size; omega) (by show w.heap.size ≤ _; omega))).trans hf1
    have Hbx := Lib.hid hbx1
    clear hbx1
    have HK := Lib.hid hkeep
    have HC := Lib.hid hcell
    have HF := Lib.hid hfr
    clear hkeep hcell hfr
    gi_wp2_with (gi_at_builtin; refine wpListIn_append_mine rfl _ _ 29 29 rfl 3 i0 _ 8 Try.underlying29 hi hz0 hz1 hz2 rfl rfl (ho.alloc _) (by simp; omega) _ rfl 1 [iv x] (Src.ofSlice _ Try.underlying29 ⟨W.heap.size, 0, none⟩ 1 1 _ rfl (cell_one_new _ _ _) (by simp [Value.oneCell'])) (by simp only [maxLen]; omega) (by omega) ?_; intro ad2 c2 w2 ho2 hg2 hat2; have hc2 := HC.out _ none _ hg2; have hf2 := HF.out _ none _ hg2)
    have hk2 := HK.out _ none _ hg2
    have hset : ∀ k, w.heap.size + 1 ≤ k → k ≤ w.heap.size + 2 → (w2.setCell ⟨w.heap.size, 0, none⟩ (.slice ad2 (pre.length + 1) c2)).heap[k]? = W.heap[k]? := fun k h1 h2 =>
      (Below.heap_setCell w2 ⟨w.heap.size, 0, none⟩ _ k (by show k ≠ w.heap.size; omega)).trans (hk2 k (by omega) h2)
    have hsz2 := hg2.size
    simp only [World.size_alloc] at hsz2
    have hnb : ∀ g, (Value.slice ad2 (pre.length + 1) c2).ownBlock = some g → w.heap.size + 2 < g := fun g hg => by
      rcases hat2 with h | h
      · exact hg1 g (h.symm.trans hg)
      · rw [h] at hg
        simp at hg
        omega
    have hbelow : Below w.heap.size W (w2.setCell ⟨w.heap.size, 0, none⟩ (.slice ad2 (pre.length + 1) c2)) := by
      have hb1 := ((Below.refl w.heap.size W).alloc (by omega) (.cells #[iv x] 3)).grown hg2 (by simp; omega) (fun k hk => by have := hg1 k hk; omega)
      exact hb1.setCell (p := ⟨w.heap.size, 0, none⟩) (Nat.le_refl _) _
    refine ⟨⟨ad2, c2, ?_, ?_, ?_, ?_, ?_⟩, hbelow, fun k hk => hset k (by rcases hk with rfl | rfl <;> simp) (by rcases hk with rfl | rfl <;> simp)⟩
    · have := hk2 w.heap.size (Nat.le_refl _) (by omega)
      simp [World.setCell, Array.getElem?_modify, this, Hbx.out]
    · have := ho2.far (p := ⟨w.heap.size, 0, none⟩) (fun e => by have h := hnb _ e; exact absurd h (by show ¬ w.heap.size + 2 < w.heap.size; omega)) (.slice ad2 (pre.length + 1) c2)
      simpa using this
    · simpa using hnb
    · exact hbel.trans hbelow
    · simp [World.setCell]; omega
  case done =>
    rintro W ⟨ad1, c1, hbx1, ho, hg1, hbel, hsz⟩ hD
    have hc1 : W.cell? ⟨w.heap.size, 0, none⟩ = some (.slice ad1 (flatQ qs).length c1) := by simp [World.cell?, hbx1]
    gi_wp2
    refine ⟨by simp, .inl ⟨_, _, rfl, run_takeDeferred hD, ?_⟩⟩
    simp only [World.size_alloc]
    refine ⟨_, results_tmp rfl _ _ _, ad1, c1, rfl, ?_, ?_⟩
    · refine ho.congr (by simp [World.putObj]) fun g hg => World.putObj_heap_other ?_
      have := hg1 g hg
      omega
    · exact hbel.trans ⟨rfl, rfl, rfl, by simp [World.putObj], fun k hk => World.putObj_heap_other (by omega)⟩
end Go.Proofs.Ytihjmnhjjpdenaa.Vw
end
section
namespace Go.Proofs.Ytihjmnhjjpdenaa.Vw
open Go Go.RowKit Go.Shelf
set_option linter.unusedVariables false
theorem collect_any (Bu : Nat) (vs vq : Value) (qs : List (List (List Int))) (w : World) (hBu : Bu < w.heap.size) (hbx : w.heap[Bu]? = some (.cells #[vs, vq] 32 (0, 0))) (hq : Lst w (Lo w.heap.size) vq qs) (hlen : (flatQ qs).length ≤ 1000000000) :
    Calls Try.prog 35 #[.func (.func 48) #[] #[.pointer (some ⟨Bu, 0, none⟩)]] w fun e w' => ∃ ad c, e = .returned (.slice ad (flatQ qs).length c) ∧ Own w' w.heap.size 1 (.slice ad (flatQ qs).length c) (flatQ qs).length ((flatQ qs).map iv) ∧ Below w.heap.size w w' := by
  go_enter Try.func35, Try.ntmps35
  go_wp2_with (go_at_call 47; refine (appendSeq_any Bu vs vq qs _ hBu hbx hq hlen).mono ?_; rintro e w1 ⟨ad, c, rfl, ho, hb⟩)
  go_ret
  exact ⟨ad, c, rfl, ho, hb⟩
theorem flat_any (vs vq : Value) (qs : List (List (List Int))) (w : World) (h1 : vs.oneCell' = true) (h2 : vq.oneCell' = true) (hq : Lst w (Lo w.heap.size) vq qs) (hlen : (flatQ qs).length ≤ 1000000000) :
    Calls Try.prog 13 #[.agg #[vs, vq]] w fun e w' => ∃ ad c, e = .returned (.slice ad (flatQ qs).length c) ∧ Own w' w.heap.size 1 (.slice ad (flatQ qs).length c) (flatQ qs).length ((flatQ qs).map iv) ∧ Below w.heap.size w w' := by
  have hb0 : Below w.heap.size w (w.alloc (.cells #[vs, vq] 32)) := (Below.refl _ w).alloc (Nat.le_refl _) _
  have hb1 : Below w.heap.size w ((w.alloc (.cells #[vs, vq] 32)).alloc (.cells #[vs, vq] 32)) := hb0.alloc (by simp) _
  have hq2 : Lst ((w.alloc (.cells #[vs, vq] 32)).alloc (.cells #[vs, vq] 32)) (Lo ((w.alloc (.cells #[vs, vq] 32)).alloc (.cells #[vs, vq] 32)).heap.size) vq qs := (hq.below hb1 (Nat.le_refl _)).up (by simp; omega)
  have hbx : ((w.alloc (.cells #[vs, vq] 32)).alloc (.cells #[vs, vq] 32)).heap[w.heap.size + 1]? = some (.cells #[vs, vq] 32 (0, 0)) := by
    have := World.alloc_heap_new (w.alloc (.cells #[vs, vq] 32)) (.cells #[vs, vq] 32)
    rwa [World.size_alloc] at this
  have HB := Lib.hid hbx
  have HQ := Lib.hid hq2
  have H1 := Lib.hid hb1
  clear hbx hq2 hb1 hb0
  go_enter Try.func13, Try.ntmps13
  go_wp2_with (first | (go_at_call 36; refine (nums_any _ _ _ h1 h2).mono ?_; rintro e w1 ⟨rfl, rfl⟩) | (go_at_call 35; refine (collect_any (w.heap.size + 1) vs vq qs _ (by simp) HB.out HQ.out hlen).mono ?_; rintro e w1 ⟨ad, c, rfl, ho, hb⟩))
  go_ret
  exact ⟨ad, c, rfl, ho.mono (by simp; omega), H1.out.trans (hb.mono (by simp; omega))⟩
end Go.Proofs.Ytihjmnhjjpdenaa.Vw
namespace Go.Proofs.Ytihjmnhjjpdenaa.Sim
open Go Go.RowKit Go.Deep
set_option maxRecDepth 100000
set_option maxHeartbeats 4000000
set_option linter.unusedVariables false
set_option linter.unusedSimpArgs false
/-- Data are a list, where the elements are. -/
theorem chunks_of {α : Type} [Rep α] (f : α → List D) (Q : α → Prop) {w : World} {S : Nat → Prop} (hf : ∀ cs x, Q x → Cells w S (f x) cs → Rep.is w S cs x) : ∀ (l : List α) (xs : List Value), (∀ x ∈ l, Q x) → Rows w S (Rep.sz α) (l.map f) xs → Chunks w S xs l
  | [], xs, _, h => by simp only [Rows, List.map_nil] at h; exact h
  | a :: l, xs, hq, h => by
    simp only [Rows, List.map_cons] at h
    obtain ⟨x, r, rfl, h1, h2, h3⟩ := h
    exact ⟨x, r, rfl, hf _ _ (hq a (by simp)) h2, chunks_of f Q hf l r (fun y hy => hq y (by simp [hy])) h3⟩
theorem sl_lst {α : Type} [Rep α] (f : α → List D) (Q : α → Prop) {w : World} {S : Nat → Prop} (hf : ∀ cs x, Q x → Cells w S (f x) cs → Rep.is w S cs x) {v : Value} {l : List α} (hq : ∀ x ∈ l, Q x) (h : (D.sl (Rep.sz α) (l.map f)).is w S v) : Lst w S v l := by
  simp only [D.is] at h
  obtain ⟨a, cap, xs, rfl, h1, h2, h3, h4⟩ := h
  rw [List.length_map] at h1 h4 ⊢
  exact ⟨xs, a, cap, rfl, h1, h2, chunks_of f Q hf l xs hq h3, h4⟩
theorem dints_lst {w : World} {S : Nat → Prop} {v : Value} {l : List Int} (hq : ∀ x ∈ l, I64 x) (h : (dInts l).is w S v) : Lst w S v l :=
  sl_lst (α := Int) eI I64 (fun cs x hx hc => by
    simp only [eI, Cells, D.is] at hc
    obtain ⟨u, r, rfl, ⟨rfl, -⟩, rfl⟩ := hc
    exact ⟨rfl, hx⟩) hq h
theorem lst_dints {w : World} {S : Nat → Prop} {v : Value} {l : List Int} (h : Lst w S v l) : (dInts l).is w S v := lst_sl (α := Int) (fun x => [.at (.int .i64 x)]) int_cells h
theorem own_lst {α : Type} [Rep α] {w : World} {B : Nat} {v : Value} {l : List α} (h : OwnT w B (fun b => B ≤ b) v l) : Lst w (fun b => B ≤ b ∧ b < w.heap.size) v l := by
  obtain ⟨xs, ho, hx⟩ := h
  have hx' := hx.keep (w' := w) (S' := fun b => B ≤ b ∧ b < w.heap.size) fun b hb hl => ⟨⟨hb.2, hl⟩, rfl⟩
  rcases ho.2 with ⟨rfl, h0⟩ | ⟨g, off, cap, rfl, hB, hlt, hn, hc, _, hr⟩
  · exact ⟨xs, none, 0, by rw [h0], by omega, Nat.zero_le _, hx', fun h => by omega⟩
  · exact ⟨xs, _, cap, rfl, hn, hc, hx', fun _ => ⟨g, off, rfl, ⟨⟨hB, hlt⟩, hlt⟩, hr⟩⟩
/-- All numbers are such. -/
def inQ (qs : List (List (List Int))) : Prop := ∀ q ∈ qs, ∀ x ∈ q, ∀ n ∈ x, I64 n
theorem dqs_lst {w : World} {S : Nat → Prop} {v : Value} {l : List (List (List Int))} (hq : inQ l) (h : (dQs l).is w S v) : Lst w S v l :=
  sl_lst (α := List (List Int)) eQ (fun q => ∀ x ∈ q, ∀ n ∈ x, I64 n) (fun cs q hq hc => by
    simp only [eQ, Cells] at hc
    obtain ⟨u, r, rfl, h1, rfl⟩ := hc
    refine ⟨u, rfl, sl_lst (α := List Int) eR (fun x => ∀ n ∈ x, I64 n) (fun cs x hx hc => ?_) hq h1⟩
    simp only [eR, Cells] at hc
    obtain ⟨u, r, rfl, h1, rfl⟩ := hc
    exact ⟨u, rfl, dints_lst hx h1⟩) hq h
open Go.Proofs.Ytihjmnhjjpdenaa.Vw (flatQ flat_any iv)
theorem flatQ_in {qs : List (List (List Int))} (h : inQ qs) : ∀ n ∈ flatQ qs, I64 n := fun n hn => by
  simp only [flatQ, List.mem_flatMap, List.mem_flatten] at hn
  obtain ⟨q, hq, x, hx, hn⟩ := hn
  exact h q hq x hx n hn
theorem vFlat (sv : List Int) (qs : List (List (List Int))) (hi : inQ qs) (hlen : (flatQ qs).length ≤ 1000000000) : Does Try.prog 13 [vView sv qs] [] (.d (dInts (flatQ qs))) [] [] := by
  intro w hd S X us hm hv
  simp only [VRs, VR] at hv
  obtain ⟨u, r, rfl, ⟨vs, rfl, ⟨x, y, rfl, hx, z, y2, rfl, hz, rfl⟩, -⟩, rfl⟩ := hv
  have hq := (dqs_lst hi hz).more (S' := Lo w.heap.size) (fun b hb => hm.lt b hb)
  refine (flat_any x z qs w (D.one hx) (D.one hz) hq hlen).mono ?_
  rintro e w' ⟨ad, c, rfl, ho, hb⟩
  have hlv := (own_lst (ho.ownT (T := fun b => w.heap.size ≤ b) (flatQ_in hi))).more (S' := fun b => S b ∨ (w.heap.size ≤ b ∧ b < w'.heap.size)) fun b h => .inr h
  have hd1 := lst_dints hlv
  refine ⟨_, hd, fun b => S b ∨ (w.heap.size ≤ b ∧ b < w'.heap.size), rfl, ⟨hb.os, hb.tape, hb.output, hb.size, fun k hk _ => hb.block k hk⟩, ⟨fun i o h => by simp [ups, fresh] at h, fun i j oi oj b _ h => by simp [ups, fresh] at h, fun b hb' => hb'.elim (fun h => Nat.lt_of_lt_of_le (hm.lt b h) hb.size) (fun h => h.2), hb.size, hm.sX⟩, ?_, fun b h => h.elim .inl fun h => .inr (.inl h.1), Le.refl _ _⟩
  simp only [VR]
  exact hd1
end Go.Proofs.Ytihjmnhjjpdenaa.Sim
end
