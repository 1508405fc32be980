/- 'put': the bytes of a number behind a slice of bytes that the caller owns. -/
import Derived.Test.YtbkebmnaajmgeaaWireGroups
import Derived.Test.YtbkebmnaajmgeaaBytes
import Derived.Test.YtbkebmnaajmgeaaRangeOwn
import Derived.OwnWalk
import Derived.Outline
namespace Go.Proofs.Ytbkebmnaajmgeaa.Wire
open Go Go.RowKit Go.Shelf
set_option linter.unusedVariables false
attribute [local go_sem] Oper.semAt_some



theorem infoU8 : (Try.prog.info? 5).map (fun i => (i.zero, i.size, i.bytes)) = some (some (.int .u8 0), 1, 1) := by kernel_rfl

/-- What the box holds between two rounds. -/
def PutI (w : World) (B n0 : Nat) (xs0 : List Value) (pre : List UInt8) (W : World) : Prop :=
  ∃ ad c, W.heap[w.heap.size]? = some (.cells #[.slice ad (n0 + pre.length) c] 36 (0, 0)) ∧ Own W B 1 (.slice ad (n0 + pre.length) c) (n0 + pre.length) (xs0 ++ pre.map bv) ∧
    (∀ g, (Value.slice ad (n0 + pre.length) c).ownBlock = some g → g < w.heap.size ∨ w.heap.size + 3 < g) ∧ Below B w W ∧ w.heap.size + 2 ≤ W.heap.size

theorem PutI.but {w : World} {B n0 : Nat} {xs0 : List Value} {pre : List UInt8} {W W' : World} (hB : B ≤ w.heap.size) (h : PutI w B n0 xs0 pre W)
    (hb : But (fun k => k = w.heap.size + 1 ∨ k = w.heap.size + 2 ∨ k = w.heap.size + 2 + 1) W W') : PutI w B n0 xs0 pre W' := by
  obtain ⟨ad, c, h1, h2, h3, h4, h5⟩ := h
  refine ⟨ad, c, (hb.block _ (by omega) (by omega)).trans h1, h2.congr hb.size fun g hg => hb.block g (h2.lt hg).1 (by rcases h3 g hg with h | h <;> omega), h3,
    h4.trans ⟨hb.os, hb.tape, hb.output, hb.size, fun k hk => hb.block k (by omega) (by omega)⟩, by have := hb.size; omega⟩
theorem PutI.alloc {w : World} {B n0 : Nat} {xs0 : List Value} {pre : List UInt8} {W : World} (hB : B ≤ w.heap.size) (h : PutI w B n0 xs0 pre W) (o : Obj) : PutI w B n0 xs0 pre (W.alloc o) := by
  obtain ⟨ad, c, h1, h2, h3, h4, h5⟩ := h
  exact ⟨ad, c, (Below.heap_alloc W o _ (by omega)).trans h1, h2.alloc o, h3, h4.alloc (by omega) o, by simp; omega⟩

theorem put_any (ad : Option Addr) (n0 c : Nat) (xs0 : List Value) (n : Int) (B : Nat) (w : World) (h0 : -9223372036854775808 ≤ n) (h1 : n ≤ 9223372036854775807) (hB : B ≤ w.heap.size)
    (hown : Own w B 1 (.slice ad n0 c) n0 xs0) (hlen : n0 + 10 ≤ 175921860444160) :
    Calls Try.prog 11 #[.slice ad n0 c, .int .i64 n] w fun e w' => ∃ ad' c', e = .returned (.slice ad' (n0 + (putB n).length) c') ∧ Own w' B 1 (.slice ad' (n0 + (putB n).length) c') (n0 + (putB n).length) (xs0 ++ (putB n).map bv) ∧ Below B w w' := by
  have Z := zz_walk h0 h1
  have L := (putB_len h0 h1).1
  have hzz := zz_lt h0 h1
  have HZ := Lib.hid Z
  clear Z
  refine (callsIn_wide (n := 3)).1 ?_
  refine callsIn_of_wp_marks Try.func11 rfl trivial ?_ rfl
  simp only [Try.ntmps11, List.size_toArray, List.length_cons, List.length_nil, Nat.reduceAdd, Nat.reduceSub, Array.replicate_succ, Array.replicate_zero, List.push_toArray, List.append_toArray, List.nil_append, List.cons_append]
  gi_wp2_with (refine ⟨trivial, ?_⟩; gi_at_call 13; refine (callsIn_wide.2 (groups_any _ _)).mono ?_; rintro e w' ⟨rfl, rfl⟩)
  have hbs : (w.alloc (.cells #[.slice ad n0 c] 36)).heap.size = w.heap.size + 1 := by simp
  refine wpIn_range_on rfl (by decide) (gf := 14) (lb := #[.pointer (some ⟨w.heap.size + 1, 0, none⟩)]) (by simp [go_sem]) trivial (enters_of Try.func14 (by kernel_rfl) rfl)
    (fun x : UInt8 => .int .u8 x.toNat) (putB n) (w.heap.size + 1) (by simp) (PutI w B n0 xs0) ?hI ?h0 ?hIa ?hseq
    (fun x => { tmps := #[.slice ad n0 c, .int .i64 n, .pointer (some ⟨w.heap.size, 0, none⟩), undef, .slice none 0 0, .int .u8 x.toNat, .int .i64 n, .int .u64 (IntKind.u64.wrap n), .int .u64 (IntKind.u64.wrap (IntKind.u64.wrap n * 2)), .int .i64 n, .int .i64 (n / 9223372036854775808),
        .int .u64 (IntKind.u64.wrap (n / 9223372036854775808)), .int .u64 (bits .xor .u64 (IntKind.u64.wrap (IntKind.u64.wrap n * 2)) (IntKind.u64.wrap (n / 9223372036854775808))), .func (.func 14) #[] #[.pointer (some ⟨w.heap.size + 1, 0, none⟩)], .int .u8 x.toNat, undef, undef, undef, undef, undef], defers := [] }) ?assign ?body ?done
  case hI =>
    intro pre W W' hi hb
    exact hi.but hB (hb.mono fun k hk => by simp at hk; omega)
  case h0 =>
    refine ⟨ad, c, ?_, ?_, ?_, ?_, by simp⟩
    · rw [Below.heap_alloc _ _ _ (by simp)]
      simpa using World.alloc_heap_new w (.cells #[.slice ad n0 c] 36)
    · simpa using (hown.alloc _).alloc _
    · intro g hg
      exact .inl (hown.lt hg).1
    · exact ((Below.refl B w).alloc hB _).alloc (by simp; omega) _
  case hIa =>
    intro W o _ hi
    exact hi.alloc hB o
  case hseq =>
    intro l J W hJ hY hj hS
    have hu : W.heap[w.heap.size + 1]? = some (.cells #[.int .u64 ((zz n : Nat) : Int)] 38 (0, 0)) := by
      rw [hS, ← HZ.out]
      simp only [IntKind.wrap_u64]
      have := World.alloc_heap_new (w.alloc (.cells #[.slice ad n0 c] 36)) (.cells #[.int .u64 (bits .xor .u64 (n % 18446744073709551616 * 2 % 18446744073709551616) (n / 9223372036854775808 % 18446744073709551616))] 38)
      rwa [World.size_alloc] at this
    exact groups1_in Fence.wide 2 trivial rfl (by decide) l (w.heap.size + 1) (zz n) hzz J hJ hY W hu hj
  case assign =>
    intro l x W K hK
    gi_wp2
    exact hK
  case body =>
    rintro l pre x W ⟨ad1, c1, hbx, ho, hg1, hbel, hsz⟩ hpl hlt
    have hc1 : W.cell? ⟨w.heap.size, 0, none⟩ = some (.slice ad1 (n0 + pre.length) c1) := by simp [World.cell?, hbx]
    have hf1 : W.frozen? ⟨w.heap.size, 0, none⟩ = false := by simp [World.frozen?, hbx]
    obtain ⟨i0, hi, hz0, hz1, hz2⟩ := info_parts infoU8
    simp only [World.size_alloc] at hlt
    have hkeep : ∀ (o : Obj) (row : Option Nat) (w2 : World), (W.alloc o).grownBy w2 (Value.slice ad1 (n0 + pre.length) c1).ownBlock → ∀ k, w.heap.size ≤ k → k ≤ w.heap.size + 3 → w2.heap[k]? = W.heap[k]? := fun o _ w2 hg k hk1 hk2 =>
      (hg.block k (by simp; omega) (fun e => by rcases hg1 k e.symm with h | h <;> omega)).trans (Below.heap_alloc W o k (by omega))
    have hcell : ∀ (o : Obj) (row : Option Nat) (w2 : World), (W.alloc o).grownBy w2 (Value.slice ad1 (n0 + pre.length) c1).ownBlock → w2.cell? ⟨w.heap.size, 0, none⟩ = some (.slice ad1 (n0 + pre.length) c1) := fun o r w2 hg =>
      (World.cell?_of_block (a := ⟨w.heap.size, 0, none⟩) (hkeep o r w2 hg _ (by show w.heap.size ≤ w.heap.size; omega) (by show w.heap.size ≤ _; omega))).trans hc1
    have hfr : ∀ (o : Obj) (row : Option Nat) (w2 : World), (W.alloc o).grownBy w2 (Value.slice ad1 (n0 + pre.length) c1).ownBlock → w2.frozen? ⟨w.heap.size, 0, none⟩ = false := fun o r w2 hg =>
      (World.frozen?_of_block (a := ⟨w.heap.size, 0, none⟩) (hkeep o r w2 hg _ (by show w.heap.size ≤ w.heap.size; omega) (by show w.heap.size ≤ _; omega))).trans hf1
    have Hbx := Lib.hid hbx
    clear hbx
    have HK := Lib.hid hkeep
    have HC := Lib.hid hcell
    have HF := Lib.hid hfr
    clear hkeep hcell hfr
    gi_wp2_with (gi_at_builtin; refine wpListIn_append_mine rfl _ _ 36 36 rfl 5 i0 _ 1 Try.underlying36 hi hz0 hz1 hz2 rfl rfl (ho.alloc _) (by simp; omega) _ rfl 1 [.int .u8 x.toNat] (Src.ofSlice _ Try.underlying36 ⟨W.heap.size, 0, none⟩ 1 1 _ rfl (cell_one_new _ _ _) (by simp [Value.oneCell'])) (by simp only [maxLen]; omega) (by omega) ?_; intro ad2 c2 w2 ho2 hg2 hat2; have hc2 := HC.out _ none _ hg2; have hf2 := HF.out _ none _ hg2)
    have hk2 := HK.out _ none _ hg2
    have hset : ∀ k, w.heap.size + 1 ≤ k → k ≤ w.heap.size + 3 → (w2.setCell ⟨w.heap.size, 0, none⟩ (.slice ad2 (n0 + pre.length + 1) c2)).heap[k]? = W.heap[k]? := fun k h1 h2 =>
      (Below.heap_setCell w2 ⟨w.heap.size, 0, none⟩ _ k (by show k ≠ w.heap.size; omega)).trans (hk2 k (by omega) h2)
    have hsz2 := hg2.size
    simp only [World.size_alloc] at hsz2
    have hnb : ∀ g, (Value.slice ad2 (n0 + pre.length + 1) c2).ownBlock = some g → g < w.heap.size ∨ w.heap.size + 3 < g := fun g hg => by
      rcases hat2 with h | h
      · exact hg1 g (h.symm.trans hg)
      · rw [h] at hg
        simp at hg
        omega
    refine ⟨⟨ad2, c2, ?_, ?_, ?_, ?_, ?_⟩, fun k hk => hset k (by rcases hk with rfl | rfl | rfl <;> simp <;> omega) (by rcases hk with rfl | rfl | rfl <;> simp <;> omega)⟩
    · have := hk2 w.heap.size (Nat.le_refl _) (by omega)
      simp [World.setCell, Array.getElem?_modify, this, Hbx.out, Nat.add_assoc]
    · have := ho2.far (p := ⟨w.heap.size, 0, none⟩) (fun e => by rcases hnb _ e with h | h; exact Nat.lt_irrefl _ h; exact absurd h (by show ¬ w.heap.size + 3 < w.heap.size; omega)) (.slice ad2 (n0 + pre.length + 1) c2)
      simpa [Nat.add_assoc, bv] using this
    · simpa [Nat.add_assoc] using hnb
    · refine ((hbel.alloc (by omega) _).grown hg2 (by simp; omega) ?_).setCell (p := ⟨w.heap.size, 0, none⟩) hB _
      intro k hk
      exact (ho.lt hk).2
    · simp [World.setCell]; omega
  case done =>
    rintro W ⟨ad1, c1, hbx, ho, hg1, hbel, hsz⟩ hD
    have hc1 : W.cell? ⟨w.heap.size, 0, none⟩ = some (.slice ad1 (n0 + (putB n).length) c1) := by simp [World.cell?, hbx]
    gi_wp2
    refine ⟨by simp, .inl ⟨_, _, rfl, run_takeDeferred hD, ?_⟩⟩
    simp only [World.size_alloc]
    refine ⟨_, results_tmp rfl _ _ _, ad1, c1, rfl, ?_, ?_⟩
    · refine ho.congr (by simp [World.putObj]) fun g hg => World.putObj_heap_other ?_
      rcases hg1 g hg with h | h <;> omega
    · exact hbel.trans ⟨rfl, rfl, rfl, by simp [World.putObj], fun k hk => World.putObj_heap_other (by omega)⟩
end Go.Proofs.Ytbkebmnaajmgeaa.Wire
