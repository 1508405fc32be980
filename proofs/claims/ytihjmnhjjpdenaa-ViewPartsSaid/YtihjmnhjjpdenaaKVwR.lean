/- Parts of views: plain. -/
import Derived.Test.YtihjmnhjjpdenaaKVwN
import Derived.OwnWalk
import Derived.Outline
import Derived.Test.YtihjmnhjjpdenaaKSimBr
import Derived.Test.YtihjmnhjjpdenaaKVwL
import Derived.Test.YtihjmnhjjpdenaaKVwI
section
namespace Go.Proofs.Ytihjmnhjjpdenaa.Vw
open Go Go.RowKit Go.Shelf
set_option linter.unusedVariables false
attribute [local go_sem] Oper.semAt_some
theorem infoInt : (Try.prog.info? 3).map (fun i => (i.zero, i.size, i.bytes)) = some (some (.int .i64 0), 1, 8) := by kernel_rfl
abbrev iv (x : Int) : Value := .int .i64 x
/-- What the box holds between two rounds. -/
def SeqI (w : World) (pre : List Int) (W : World) : Prop :=
  ∃ ad c, W.heap[w.heap.size]? = some (.cells #[.slice ad pre.length c] 29 (0, 0)) ∧ Own W w.heap.size 1 (.slice ad pre.length c) pre.length (pre.map iv) ∧
    (∀ g, (Value.slice ad pre.length c).ownBlock = some g → w.heap.size + 2 < g) ∧ Below w.heap.size w W ∧ w.heap.size + 1 ≤ W.heap.size
theorem SeqI.but {w : World} {pre : List Int} {W W' : World} (h : SeqI w pre W) (hb : But (fun k => k = w.heap.size + 1 ∨ k = w.heap.size + 1 + 1) W W') : SeqI w pre W' := by
  obtain ⟨ad, c, h1, h2, h3, h4, h5⟩ := h
  refine ⟨ad, c, (hb.block _ (by omega) (by omega)).trans h1, h2.congr hb.size fun g hg => hb.block g (h2.lt hg).1 (by have := h3 g hg; omega), h3,
    h4.trans ⟨hb.os, hb.tape, hb.output, hb.size, fun k hk => hb.block k (by omega) (by omega)⟩, by have := hb.size; omega⟩
theorem SeqI.alloc {w : World} {pre : List Int} {W : World} (h : SeqI w pre W) (o : Obj) : SeqI w pre (W.alloc o) := by
  obtain ⟨ad, c, h1, h2, h3, h4, h5⟩ := h
  exact ⟨ad, c, (Below.heap_alloc W o _ (by omega)).trans h1, h2.alloc o, h3, h4.alloc (by omega) o, by simp; omega⟩
theorem appendSeq_any (Bu : Nat) (vs vq : Value) (qs : List (List (List Int))) (w : World) (hBu : Bu < w.heap.size) (hbx : w.heap[Bu]? = some (.cells #[vs, vq] 32 (0, 0))) (hq : Lst w (Lo w.heap.size) vq qs) (hlen : (flatQ qs).length ≤ 1000000000) :
    Calls Try.prog 47 #[.slice none 0 0, .func (.func 48) #[] #[.pointer (some ⟨Bu, 0, none⟩)]] w fun e w' => ∃ ad c, e = .returned (.slice ad (flatQ qs).length c) ∧ Own w' w.heap.size 1 (.slice ad (flatQ qs).length c) (flatQ qs).length ((flatQ qs).map iv) ∧ Below w.heap.size w w' := by
  refine (callsIn_wide (n := 3)).1 ?_
  refine callsIn_of_wp_marks Try.func47 rfl trivial ?_ rfl
  simp only [Try.ntmps47, List.size_toArray, List.length_cons, List.length_nil, Nat.reduceAdd, Nat.reduceSub, Array.replicate_succ, Array.replicate_zero, List.push_toArray, List.append_toArray, List.nil_append, List.cons_append]
  gi_wp2
  have hbs : (w.alloc (.cells #[.slice none 0 0] 29)).heap.size = w.heap.size + 1 := by simp
  refine wpIn_range_below rfl (by decide) (gf := 48) (lb := #[.pointer (some ⟨Bu, 0, none⟩)]) (by simp [go_sem]) trivial (enters_of Try.func48 (by kernel_rfl) rfl)
    iv (flatQ qs) w.heap.size (by simp) (SeqI w) ?hI ?h0 ?hIa ?hseq
    (fun x => { tmps := #[.slice none 0 0, .func (.func 48) #[] #[.pointer (some ⟨Bu, 0, none⟩)], .pointer (some ⟨w.heap.size, 0, none⟩), undef, .slice none 0 0, iv x, .func (.func 48) #[] #[.pointer (some ⟨Bu, 0, none⟩)], iv x, undef, undef, undef, undef, undef], defers := [] }) ?assign ?body ?done
  case hI =>
    intro pre W W' hi hb
    exact hi.but (hb.mono fun k hk => by simp at hk; omega)
  case h0 =>
    refine ⟨none, 0, ?_, ?_, ?_, ?_, by simp⟩
    · simpa using World.alloc_heap_new w (.cells #[.slice none 0 0] 29)
    · exact Own.nil _ _ _
    · intro g hg
      simp [Value.ownBlock] at hg
    · exact (Below.refl _ w).alloc (Nat.le_refl _) _
  case hIa =>
    intro W o _ hi
    exact hi.alloc o
  case hseq =>
    intro l J W hY hj hb
    have hb2 : Below w.heap.size w W := ((Below.refl _ w).alloc (Nat.le_refl _) _).trans hb
    exact nums_in Fence.wide 2 trivial rfl (by decide) l Bu w.heap.size hBu vs vq qs J W ((hb2.block _ hBu).trans hbx) (hq.below hb2 (Nat.le_refl _)) hY hj
  case assign =>
    intro l x W K hK
    gi_wp2
    exact hK
  case body =>
    rintro l pre x W ⟨ad1, c1, hbx1, ho, hg1, hbel, hsz⟩ hpl hlt
    have hc1 : W.cell? ⟨w.heap.size, 0, none⟩ = some (.slice ad1 pre.length c1) := by simp [World.cell?, hbx1]
    have hf1 : W.frozen? ⟨w.heap.size, 0, none⟩ = false := by simp [World.frozen?, hbx1]
    obtain ⟨i0, hi, hz0, hz1, hz2⟩ := info_parts infoInt
    simp only [World.size_alloc] at hlt
    have hkeep : ∀ (o : Obj) (row : Option Nat) (w2 : World), (W.alloc o).grownBy w2 (Value.slice ad1 pre.length c1).ownBlock → ∀ k, w.heap.size ≤ k → k ≤ w.heap.size + 2 → w2.heap[k]? = W.heap[k]? := fun o _ w2 hg k hk1 hk2 =>
      (hg.block k (by simp; omega) (fun e => by have := hg1 k e.symm; omega)).trans (Below.heap_alloc W o k (by omega))
    have hcell : ∀ (o : Obj) (row : Option Nat) (w2 : World), (W.alloc o).grownBy w2 (Value.slice ad1 pre.length c1).ownBlock → w2.cell? ⟨w.heap.size, 0, none⟩ = some (.slice ad1 pre.length c1) := fun o r w2 hg =>
      (World.cell?_of_block (a := ⟨w.heap.size, 0, none⟩) (hkeep o r w2 hg _ (by show w.heap.size ≤ w.heap.size; omega) (by show w.heap.size ≤ _; omega))).trans hc1
    have hfr : ∀ (o : Obj) (row : Option Nat) (w2 : World), (W.alloc o).grownBy w2 (Value.slice ad1 pre.length c1).ownBlock → w2.frozen? ⟨w.heap.size, 0, none⟩ = false := fun o r w2 hg =>
      (World.frozen?_of_block (a := ⟨w.heap.size, 0, none⟩) (hkeep o r w2 hg _ (by show w.heap.size ≤ w.heap.size; omega) (by show w.heap.size ≤ _; omega))).trans hf1
    have Hbx := Lib.hid hbx1
    clear hbx1
    have HK := Lib.hid hkeep
    have HC := Lib.hid hcell
    have HF := Lib.hid hfr
    clear hkeep hcell hfr
    gi_wp2_with (gi_at_builtin; refine wpListIn_append_mine rfl _ _ 29 29 rfl 3 i0 _ 8 Try.underlying29 hi hz0 hz1 hz2 rfl rfl (ho.alloc _) (by simp; omega) _ rfl 1 [iv x] (Src.ofSlice _ Try.underlying29 ⟨W.heap.size, 0, none⟩ 1 1 _ rfl (cell_one_new _ _ _) (by simp [Value.oneCell'])) (by simp only [maxLen]; omega) (by omega) ?_; intro ad2 c2 w2 ho2 hg2 hat2; have hc2 := HC.out _ none _ hg2; have hf2 := HF.out _ none _ hg2)
    have hk2 := HK.out _ none _ hg2
    have hset : ∀ k, w.heap.size + 1 ≤ k → k ≤ w.heap.size + 2 → (w2.setCell ⟨w.heap.size, 0, none⟩ (.slice ad2 (pre.length + 1) c2)).heap[k]? = W.heap[k]? := fun k h1 h2 =>
      (Below.heap_setCell w2 ⟨w.heap.size, 0, none⟩ _ k (by show k ≠ w.heap.size; omega)).trans (hk2 k (by omega) h2)
    have hsz2 := hg2.size
    simp only [World.size_alloc] at hsz2
    have hnb : ∀ g, (Value.slice ad2 (pre.length + 1) c2).ownBlock = some g → w.heap.size + 2 < g := fun g hg => by
      rcases hat2 with h | h
      · exact hg1 g (h.symm.trans hg)
      · rw [h] at hg
        simp at hg
        omega
    have hbelow : Below w.heap.size W (w2.setCell ⟨w.heap.size, 0, none⟩ (.slice ad2 (pre.length + 1) c2)) := by
      have hb1 := ((Below.refl w.heap.size W).alloc (by omega) (.cells #[iv x] 3)).grown hg2 (by simp; omega) (fun k hk => by have := hg1 k hk; omega)
      exact hb1.setCell (p := ⟨w.heap.size, 0, none⟩) (Nat.le_refl _) _
    refine ⟨⟨ad2, c2, ?_, ?_, ?_, ?_, ?_⟩, hbelow, fun k hk => hset k (by rcases hk with rfl | rfl <;> simp) (by rcases hk with rfl | rfl <;> simp)⟩
    · have := hk2 w.heap.size (Nat.le_refl _) (by omega)
      simp [World.setCell, Array.getElem?_modify, this, Hbx.out]
    · have := ho2.far (p := ⟨w.heap.size, 0, none⟩) (fun e => by have h := hnb _ e; exact absurd h (by show ¬ w.heap.size + 2 < w.heap.size; omega)) (.slice ad2 (pre.length + 1) c2)
      simpa using this
    · simpa using hnb
    · exact hbel.trans hbelow
    · simp [World.setCell]; omega
  case done =>
    rintro W ⟨ad1, c1, hbx1, ho, hg1, hbel, hsz⟩ hD
    have hc1 : W.cell? ⟨w.heap.size, 0, none⟩ = some (.slice ad1 (flatQ qs).length c1) := by simp [World.cell?, hbx1]
    gi_wp2
    refine ⟨by simp, .inl ⟨_, _, rfl, run_takeDeferred hD, ?_⟩⟩
    simp only [World.size_alloc]
    refine ⟨_, results_tmp rfl _ _ _, ad1, c1, rfl, ?_, ?_⟩
    · refine ho.congr (by simp [World.putObj]) fun g hg => World.putObj_heap_other ?_
      have := hg1 g hg
      omega
    · exact hbel.trans ⟨rfl, rfl, rfl, by simp [World.putObj], fun k hk => World.putObj_heap_other (by omega)⟩
end Go.Proofs.Ytihjmnhjjpdenaa.Vw
end
section
namespace Go.Proofs.Ytihjmnhjjpdenaa.Vw
open Go Go.RowKit Go.Shelf
set_option linter.unusedVariables false
theorem collect_any (Bu : Nat) (vs vq : Value) (qs : List (List (List Int))) (w : World) (hBu : Bu < w.heap.size) (hbx : w.heap[Bu]? = some (.cells #[vs, vq] 32 (0, 0))) (hq : Lst w (Lo w.heap.size) vq qs) (hlen : (flatQ qs).length ≤ 1000000000) :
    Calls Try.prog 35 #[.func (.func 48) #[] #[.pointer (some ⟨Bu, 0, none⟩)]] w fun e w' => ∃ ad c, e = .returned (.slice ad (flatQ qs).length c) ∧ Own w' w.heap.size 1 (.slice ad (flatQ qs).length c) (flatQ qs).length ((flatQ qs).map iv) ∧ Below w.heap.size w w' := by
  go_enter Try.func35, Try.ntmps35
  go_wp2_with (go_at_call 47; refine (appendSeq_any Bu vs vq qs _ hBu hbx hq hlen).mono ?_; rintro e w1 ⟨ad, c, rfl, ho, hb⟩)
  go_ret
  exact ⟨ad, c, rfl, ho, hb⟩
theorem flat_any (vs vq : Value) (qs : List (List (List Int))) (w : World) (h1 : vs.oneCell' = true) (h2 : vq.oneCell' = true) (hq : Lst w (Lo w.heap.size) vq qs) (hlen : (flatQ qs).length ≤ 1000000000) :
    Calls Try.prog 13 #[.agg #[vs, vq]] w fun e w' => ∃ ad c, e = .returned (.slice ad (flatQ qs).length c) ∧ Own w' w.heap.size 1 (.slice ad (flatQ qs).length c) (flatQ qs).length ((flatQ qs).map iv) ∧ Below w.heap.size w w' := by
  have hb0 : Below w.heap.size w (w.alloc (.cells #[vs, vq] 32)) := (Below.refl _ w).alloc (Nat.le_refl _) _
  have hb1 : Below w.heap.size w ((w.alloc (.cells #[vs, vq] 32)).alloc (.cells #[vs, vq] 32)) := hb0.alloc (by simp) _
  have hq2 : Lst ((w.alloc (.cells #[vs, vq] 32)).alloc (.cells #[vs, vq] 32)) (Lo ((w.alloc (.cells #[vs, vq] 32)).alloc (.cells #[vs, vq] 32)).heap.size) vq qs := (hq.below hb1 (Nat.le_refl _)).up (by simp; omega)
  have hbx : ((w.alloc (.cells #[vs, vq] 32)).alloc (.cells #[vs, vq] 32)).heap[w.heap.size + 1]? = some (.cells #[vs, vq] 32 (0, 0)) := by
    have := World.alloc_heap_new (w.alloc (.cells #[vs, vq] 32)) (.cells #[vs, vq] 32)
    rwa [World.size_alloc] at this
  have HB := Lib.hid hbx
  have HQ := Lib.hid hq2
  have H1 := Lib.hid hb1
  clear hbx hq2 hb1 hb0
  go_enter Try.func13, Try.ntmps13
  go_wp2_with (first | (go_at_call 36; refine (nums_any _ _ _ h1 h2).mono ?_; rintro e w1 ⟨rfl, rfl⟩) | (go_at_call 35; refine (collect_any (w.heap.size + 1) vs vq qs _ (by simp) HB.out HQ.out hlen).mono ?_; rintro e w1 ⟨ad, c, rfl, ho, hb⟩))
  go_ret
  exact ⟨ad, c, rfl, ho.mono (by simp; omega), H1.out.trans (hb.mono (by simp; omega))⟩
end Go.Proofs.Ytihjmnhjjpdenaa.Vw
namespace Go.Proofs.Ytihjmnhjjpdenaa.Sim
open Go Go.RowKit Go.Deep
set_option maxRecDepth 100000
set_option maxHeartbeats 4000000
set_option linter.unusedVariables false
set_option linter.unusedSimpArgs false
/-- Data are a list, where the elements are. -/
theorem chunks_of {α : Type} [Rep α] (f : α → List D) (Q : α → Prop) {w : World} {S : Nat → Prop} (hf : ∀ cs x, Q x → Cells w S (f x) cs → Rep.is w S cs x) : ∀ (l : List α) (xs : List Value), (∀ x ∈ l, Q x) → Rows w S (Rep.sz α) (l.map f) xs → Chunks w S xs l
  | [], xs, _, h => by simp only [Rows, List.map_nil] at h; exact h
  | a :: l, xs, hq, h => by
    simp only [Rows, List.map_cons] at h
    obtain ⟨x, r, rfl, h1, h2, h3⟩ := h
    exact ⟨x, r, rfl, hf _ _ (hq a (by simp)) h2, chunks_of f Q hf l r (fun y hy => hq y (by simp [hy])) h3⟩
theorem sl_lst {α : Type} [Rep α] (f : α → List D) (Q : α → Prop) {w : World} {S : Nat → Prop} (hf : ∀ cs x, Q x → Cells w S (f x) cs → Rep.is w S cs x) {v : Value} {l : List α} (hq : ∀ x ∈ l, Q x) (h : (D.sl (Rep.sz α) (l.map f)).is w S v) : Lst w S v l := by
  simp only [D.is] at h
  obtain ⟨a, cap, xs, rfl, h1, h2, h3, h4⟩ := h
  rw [List.length_map] at h1 h4 ⊢
  exact ⟨xs, a, cap, rfl, h1, h2, chunks_of f Q hf l xs hq h3, h4⟩
theorem dints_lst {w : World} {S : Nat → Prop} {v : Value} {l : List Int} (hq : ∀ x ∈ l, I64 x) (h : (dInts l).is w S v) : Lst w S v l :=
  sl_lst (α := Int) eI I64 (fun cs x hx hc => by
    simp only [eI, Cells, D.is] at hc
    obtain ⟨u, r, rfl, ⟨rfl, -⟩, rfl⟩ := hc
    exact ⟨rfl, hx⟩) hq h
theorem lst_dints {w : World} {S : Nat → Prop} {v : Value} {l : List Int} (h : Lst w S v l) : (dInts l).is w S v := lst_sl (α := Int) (fun x => [.at (.int .i64 x)]) int_cells h
theorem own_lst {α : Type} [Rep α] {w : World} {B : Nat} {v : Value} {l : List α} (h : OwnT w B (fun b => B ≤ b) v l) : Lst w (fun b => B ≤ b ∧ b < w.heap.size) v l := by
  obtain ⟨xs, ho, hx⟩ := h
  have hx' := hx.keep (w' := w) (S' := fun b => B ≤ b ∧ b < w.heap.size) fun b hb hl => ⟨⟨hb.2, hl⟩, rfl⟩
  rcases ho.2 with ⟨rfl, h0⟩ | ⟨g, off, cap, rfl, hB, hlt, hn, hc, _, hr⟩
  · exact ⟨xs, none, 0, by rw [h0], by omega, Nat.zero_le _, hx', fun h => by omega⟩
  · exact ⟨xs, _, cap, rfl, hn, hc, hx', fun _ => ⟨g, off, rfl, ⟨⟨hB, hlt⟩, hlt⟩, hr⟩⟩
/-- All numbers are such. -/
def inQ (qs : List (List (List Int))) : Prop := ∀ q ∈ qs, ∀ x ∈ q, ∀ n ∈ x, I64 n
theorem dqs_lst {w : World} {S : Nat → Prop} {v : Value} {l : List (List (List Int))} (hq : inQ l) (h : (dQs l).is w S v) : Lst w S v l :=
  sl_lst (α := List (List Int)) eQ (fun q => ∀ x ∈ q, ∀ n ∈ x, I64 n) (fun cs q hq hc => by
    simp only [eQ, Cells] at hc
    obtain ⟨u, r, rfl, h1, rfl⟩ := hc
    refine ⟨u, rfl, sl_lst (α := List Int) eR (fun x => ∀ n ∈ x, I64 n) (fun cs x hx hc => ?_) hq h1⟩
    simp only [eR, Cells] at hc
    obtain ⟨u, r, rfl, h1, rfl⟩ := hc
    exact ⟨u, rfl, dints_lst hx h1⟩) hq h
open Go.Proofs.Ytihjmnhjjpdenaa.Vw (flatQ flat_any iv)
theorem flatQ_in {qs : List (List (List Int))} (h : inQ qs) : ∀ n ∈ flatQ qs, I64 n := fun n hn => by
  simp only [flatQ, List.mem_flatMap, List.mem_flatten] at hn
  obtain ⟨q, hq, x, hx, hn⟩ := hn
  exact h q hq x hx n hn
theorem vFlat (sv : List Int) (qs : List (List (List Int))) (hi : inQ qs) (hlen : (flatQ qs).length ≤ 1000000000) : Does Try.prog 13 [vView sv qs] [] (.d (dInts (flatQ qs))) [] [] := by
  intro w hd S X us hm hv
  simp only [VRs, VR] at hv
  obtain ⟨u, r, rfl, ⟨vs, rfl, ⟨x, y, rfl, hx, z, y2, rfl, hz, rfl⟩, -⟩, rfl⟩ := hv
  have hq := (dqs_lst hi hz).more (S' := Lo w.heap.size) (fun b hb => hm.lt b hb)
  refine (flat_any x z qs w (D.one hx) (D.one hz) hq hlen).mono ?_
  rintro e w' ⟨ad, c, rfl, ho, hb⟩
  have hlv := (own_lst (ho.ownT (T := fun b => w.heap.size ≤ b) (flatQ_in hi))).more (S' := fun b => S b ∨ (w.heap.size ≤ b ∧ b < w'.heap.size)) fun b h => .inr h
  have hd1 := lst_dints hlv
  refine ⟨_, hd, fun b => S b ∨ (w.heap.size ≤ b ∧ b < w'.heap.size), rfl, ⟨hb.os, hb.tape, hb.output, hb.size, fun k hk _ => hb.block k hk⟩, ⟨fun i o h => by simp [ups, fresh] at h, fun i j oi oj b _ h => by simp [ups, fresh] at h, fun b hb' => hb'.elim (fun h => Nat.lt_of_lt_of_le (hm.lt b h) hb.size) (fun h => h.2), hb.size, hm.sX⟩, ?_, fun b h => h.elim .inl fun h => .inr (.inl h.1), Le.refl _ _⟩
  simp only [VR]
  exact hd1
end Go.Proofs.Ytihjmnhjjpdenaa.Sim
end
section
namespace Go.Proofs.Ytihjmnhjjpdenaa.Sim
open Go
set_option linter.unusedVariables false
set_option linter.unusedSimpArgs false
open Go.Proofs.Ytihjmnhjjpdenaa.Vw (flatQ)
theorem okQ.sm {p : Int} {sv : Nat} {qs : List (List (List Int))} (h : ∀ q ∈ qs, okQ p sv q) (h1 : qs.length ≤ 3) (h2 : sv ≤ 6) : smQ qs :=
  ⟨by omega, fun q hq => ⟨by have := (h q hq).1; omega, fun x hx => by have := ((h q hq).2 x hx).1; omega⟩⟩
theorem okQ.inQ {p : Int} (hp : okP p) {sv : Nat} {qs : List (List (List Int))} (h : ∀ q ∈ qs, okQ p sv q) : inQ qs := fun q hq x hx n hn => by
  have h1 := ((h q hq).2 x hx).2 n hn
  have := hp.le
  exact ⟨by omega, by omega⟩
theorem flatten_le {m : Nat} : ∀ {q : List (List Int)}, (∀ x ∈ q, x.length ≤ m) → q.flatten.length ≤ q.length * m
  | [], _ => by simp
  | x :: q, h => by
    have h1 := h x (by simp)
    have h2 := flatten_le (q := q) fun y hy => h y (by simp [hy])
    rw [List.flatten_cons, List.length_append, List.length_cons, Nat.add_mul, Nat.one_mul]
    omega
theorem flatQ_le {m : Nat} : ∀ {qs : List (List (List Int))}, (∀ q ∈ qs, q.flatten.length ≤ m) → (flatQ qs).length ≤ qs.length * m
  | [], _ => by simp [flatQ]
  | x :: q, h => by
    have h1 := h x (by simp)
    have h2 := flatQ_le (qs := q) fun y hy => h y (by simp [hy])
    rw [flatQ, List.flatMap_cons, List.length_append, List.length_cons, Nat.add_mul, Nat.one_mul]
    simp only [flatQ] at h2
    omega
theorem smQ.flat {qs : List (List (List Int))} (h : smQ qs) : (flatQ qs).length ≤ 1000000000 := by
  have h1 : ∀ q ∈ qs, q.flatten.length ≤ 1000 * 1000 := fun q hq => Nat.le_trans (flatten_le (h.2 q hq).2) (Nat.mul_le_mul_right _ (h.2 q hq).1)
  exact Nat.le_trans (flatQ_le h1) (Nat.mul_le_mul_right _ h.1)
/-- The numbers from 1 on. -/
def allG : Nat → List Int
  | 0 => []
  | n + 1 => allG n ++ [((n + 1 : Nat) : Int)]
theorem allG_len : ∀ {n : Nat}, (allG n).length = n
  | 0 => rfl
  | n + 1 => by rw [allG, List.length_append, allG_len]; rfl
theorem allG_mem : ∀ {n : Nat} {x : Int}, x ∈ allG n ↔ 1 ≤ x ∧ x ≤ n
  | 0, x => by simp only [allG, List.not_mem_nil, false_iff]; omega
  | n + 1, x => by
    rw [allG, List.mem_append, allG_mem, List.mem_singleton]
    omega
theorem ascF_snoc : ∀ {l : List Int} {a x : Int}, ascF a l = true → a < x → (∀ y ∈ l, y < x) → ascF a (l ++ [x]) = true
  | [], a, x, _, h, _ => by simp [ascF, h]
  | y :: r, a, x, h, h1, h2 => by
    simp only [ascF, Bool.and_eq_true, decide_eq_true_eq, List.cons_append] at h ⊢
    exact ⟨h.1, ascF_snoc h.2 (h2 y (by simp)) fun z hz => h2 z (by simp [hz])⟩
theorem allG_asc : ∀ {n : Nat}, asc (allG n) = true
  | 0 => rfl
  | n + 1 => ascF_snoc allG_asc (by omega) fun y hy => by have := allG_mem.1 hy; omega
/-- Some of them, as the dice say. -/
def someG (l : List UInt8) (k : Nat) : Nat → List Int × Nat
  | 0 => ([], k)
  | n + 1 => (if pickV l (someG l k n).2 2 = 0 then (someG l k n).1 ++ [((n + 1 : Nat) : Int)] else (someG l k n).1, pickK l (someG l k n).2)
theorem someG_mem {l : List UInt8} {k : Nat} : ∀ {n : Nat} {x : Int}, x ∈ (someG l k n).1 → 1 ≤ x ∧ x ≤ n
  | 0, x, h => by simp [someG] at h
  | n + 1, x, h => by
    simp only [someG] at h
    split at h
    · rcases List.mem_append.1 h with h | h
      · have := someG_mem h; omega
      · have := List.mem_singleton.1 h; omega
    · have := someG_mem h; omega
theorem someG_asc {l : List UInt8} {k : Nat} : ∀ {n : Nat}, asc (someG l k n).1 = true
  | 0 => rfl
  | n + 1 => by
    simp only [someG]
    split
    · exact ascF_snoc someG_asc (by omega) fun y hy => by have := someG_mem hy; omega
    · exact someG_asc
theorem someG_len {l : List UInt8} {k : Nat} : ∀ {n : Nat}, (someG l k n).1.length ≤ n
  | 0 => Nat.le_refl _
  | n + 1 => by
    have := someG_len (l := l) (k := k) (n := n)
    simp only [someG]
    split
    · rw [List.length_append, List.length_singleton]; omega
    · omega
theorem idxN_lt : ∀ {l : List Int} {x : Int}, idxN l x < l.length ↔ x ∈ l
  | [], x => by simp [idxN]
  | y :: r, x => by
    simp only [idxN, List.length_cons, List.mem_cons]
    by_cases h : y = x
    · rw [if_pos h]; simp [h]
    · have := idxN_lt (l := r) (x := x)
      rw [if_neg h]
      constructor
      · intro h1; exact .inr (this.1 (by omega))
      · rintro (h1 | h1)
        · exact absurd h1.symm h
        · have := this.2 h1; omega
theorem allIn_iff {sv l : List Int} : allIn sv l = true ↔ ∀ x ∈ l, x ∈ sv := by
  simp only [allIn, List.all_eq_true, decide_eq_true_eq, idxN_lt]
theorem some_all {l : List UInt8} {k : Nat} : ∀ {n : Nat}, (∀ x ∈ allG n, x ∈ (someG l k n).1) ↔ (someG l k n).1.length = n
  | 0 => by simp [allG, someG]
  | n + 1 => by
    have ih := some_all (l := l) (k := k) (n := n)
    have hl := someG_len (l := l) (k := k) (n := n)
    simp only [someG, allG, List.mem_append, List.mem_singleton]
    split
    · simp only [List.mem_append, List.mem_singleton, List.length_append, List.length_singleton]
      constructor
      · intro h
        have : (someG l k n).1.length = n := ih.1 fun x hx => by
          rcases h x (.inl hx) with h1 | h1
          · exact h1
          · have := allG_mem.1 hx; omega
        omega
      · rintro h x (hx | hx)
        · exact .inl (ih.2 (by omega) x hx)
        · exact .inr hx
    · constructor
      · intro h
        have := someG_mem (h _ (.inr rfl))
        omega
      · intro h; omega
theorem okPick_in {qs : List (List (List Int))} {l : List Int} {n : Nat} (hq : ∀ q ∈ qs, q.length = n) (hl : ∀ x ∈ l, x ≤ n) : okPick qs (less1 l) = true := by
  simp only [okPick, okPr, less1, List.all_eq_true, List.all_map, decide_eq_true_eq, Function.comp]
  intro q h x hx
  have := hq q h
  have := hl x hx
  omega
theorem pk_all {q : List (List Int)} : pk (less1 (allG q.length)) q = q := by
  have key : ∀ n, n ≤ q.length → pk (less1 (allG n)) q = q.take n := by
    intro n
    induction n with
    | zero => intro _; simp [allG, less1, pk]
    | succ n ih =>
      intro hn
      rw [take_succ_getD [] q n hn, ← ih (by omega)]
      simp only [allG, less1, pk, List.map_append, List.map_cons, List.map_nil, pk1]
      rw [show ((((n + 1 : Nat) : Int)) - 1).toNat = n by omega]
  rw [key _ (Nat.le_refl _), List.take_length]
theorem ofQ_all {qs : List (List (List Int))} {n : Nat} (hq : ∀ q ∈ qs, q.length = n) : ofQ qs (allG n) = qs := by
  rw [ofQ]
  conv => rhs; rw [← List.map_id qs]
  refine List.map_congr_left fun q h => ?_
  rw [← hq q h]
  exact pk_all
theorem idx_all : ∀ {n : Nat} {x : Int}, 1 ≤ x → x ≤ n → (idxN (allG n) x : Int) = x - 1 := by
  have app : ∀ (l : List Int) (y x : Int), idxN (l ++ [y]) x = if x ∈ l then idxN l x else l.length + if y = x then 0 else 1 := by
    intro l y x
    induction l with
    | nil => simp [idxN]
    | cons z r ih =>
      simp only [List.cons_append, idxN, ih, List.mem_cons, List.length_cons]
      by_cases h : z = x
      · simp [h]
      · by_cases h2 : x ∈ r
        · simp [h, h2, Ne.symm h]
        · have : ¬ (x = z ∨ x ∈ r) := by rintro (h3 | h3); exact h h3.symm; exact h2 h3
          rw [if_neg h, if_neg h2, if_neg this]; omega
  intro n
  induction n with
  | zero => intro x h1 h2; omega
  | succ n ih =>
    intro x h1 h2
    rw [allG, app]
    by_cases h : x ≤ n
    · rw [if_pos (allG_mem.2 ⟨h1, h⟩)]; exact ih h1 h
    · rw [if_neg (fun hh => h (allG_mem.1 hh).2), allG_len, if_pos (by omega)]; omega
theorem part_all {qs : List (List (List Int))} {l : List Int} {n : Nat} (hl : ∀ x ∈ l, 1 ≤ x ∧ x ≤ n) : partQ (allG n) qs l = ofQ qs l := by
  rw [partQ, ofQ]
  refine List.map_congr_left fun q h => ?_
  have : idxs (allG n) l = less1 l := List.map_congr_left fun x hx => idx_all (hl x hx).1 (hl x hx).2
  rw [this]
/-- How many numbers the first servers see. -/
def sumG (qs : List (List (List Int))) (j : Nat) : Nat := (flatQ (qs.map fun q => q.take j)).length
theorem sumG_step {j : Nat} : ∀ {qs : List (List (List Int))}, (∀ q ∈ qs, j < q.length) → sumG qs (j + 1) = sumG qs j + (flatQ (ofQ qs [((j + 1 : Nat) : Int)])).length
  | [], _ => rfl
  | q :: qs, h => by
    have ih := sumG_step (j := j) (qs := qs) fun y hy => h y (by simp [hy])
    have e1 := take_succ_getD [] q j (h q (by simp))
    simp only [sumG, flatQ, ofQ, less1, pk, pk1, List.map_cons, List.map_nil, List.flatMap_cons, List.length_append, List.flatten_cons, List.flatten_nil, List.append_nil] at ih ⊢
    rw [ih, e1, List.flatten_append, List.flatten_cons, List.flatten_nil, List.append_nil, List.length_append, show ((((j + 1 : Nat) : Int)) - 1).toNat = j by omega]
    omega
theorem sumG_all {qs : List (List (List Int))} {n : Nat} (hq : ∀ q ∈ qs, q.length = n) : sumG qs n = (flatQ qs).length := by
  rw [sumG]
  have : (qs.map fun q => q.take n) = qs := by
    conv => rhs; rw [← List.map_id qs]
    exact List.map_congr_left fun q h => by rw [← hq q h, List.take_length]; rfl
  rw [this]
theorem smQ.of {qs : List (List (List Int))} (h : smQ qs) {l : List Int} (hl : l.length ≤ 1000) : smQ (ofQ qs l) := by
  refine ⟨by rw [ofQ, List.length_map]; exact h.1, fun q hq => ?_⟩
  obtain ⟨r, hr, rfl⟩ := List.mem_map.1 hq
  refine ⟨by rw [pk, List.length_map, less1, List.length_map]; exact hl, fun x hx => ?_⟩
  obtain ⟨i, _, rfl⟩ := List.mem_map.1 hx
  rw [pk1]
  by_cases h1 : i.toNat < r.length
  · exact (h.2 r hr).2 _ (mem_getD [] r _ h1)
  · rw [List.getD_eq_getElem?_getD, List.getElem?_eq_none (by omega)]; simp
theorem inQ.of {qs : List (List (List Int))} (h : inQ qs) {l : List Int} : inQ (ofQ qs l) := by
  intro q hq x hx n hn
  obtain ⟨r, hr, rfl⟩ := List.mem_map.1 hq
  obtain ⟨i, _, rfl⟩ := List.mem_map.1 hx
  rw [pk1] at hn
  by_cases h1 : i.toNat < r.length
  · exact h r hr _ (mem_getD [] r _ h1) n hn
  · rw [List.getD_eq_getElem?_getD, List.getElem?_eq_none (by omega)] at hn; simp at hn
end Go.Proofs.Ytihjmnhjjpdenaa.Sim
end
