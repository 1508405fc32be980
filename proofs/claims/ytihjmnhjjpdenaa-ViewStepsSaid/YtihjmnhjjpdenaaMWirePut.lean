/- 'put': the bytes of a number behind a slice of bytes that the caller owns. -/
import Derived.Test.YtihjmnhjjpdenaaMWirePlain
import Derived.Test.YtihjmnhjjpdenaaRows
import Derived.RangeFuncNested
import Derived.RangeFuncBound
import Derived.RangeFuncCalls
import Derived.RangeFuncLeaves
import Derived.Shelf.Abstract
import Derived.Shelf.RegionOpen
import Derived.WalkKit
import Derived.OwnWalkIn
import Derived.TacticsInMore
import Derived.LoopNIn
import Derived.LoopIn
import Derived.Lib.Hide
import Derived.Test.YtihjmnhjjpdenaaMBase
import Derived.Lib.Strings
import Derived.Test.YtihjmnhjjpdenaaMRangeOwn
import Derived.OwnWalk
import Derived.Outline
section
namespace Go.Proofs.Ytihjmnhjjpdenaa.Wire
open Go Go.RowKit Go.Shelf
set_option linter.unusedVariables false
attribute [local go_sem] Oper.semAt_some

theorem vb_pos (u : Nat) : 0 < (vb u).length := by
  by_cases h : 127 < u
  · rw [vb_big h]; simp
  · rw [vb_small h]; simp

theorem groups_any (u : Int) (w : World) :
    Calls Try.prog 62 #[.int .u64 u] w fun e w' => e = .returned (.func (.func 69) #[] #[.pointer (some ⟨w.heap.size, 0, none⟩)]) ∧ w.alloc (.cells #[.int .u64 u] 84) = w' := by
  go_enter Try.func62, Try.ntmps62
  go_wp2
  go_ret
  exact ⟨rfl, rfl⟩

theorem groups1_in (F : Fence) (n : Nat) (hf : F.fn 69) (hro : F.round = none) (hn : 1 ≤ n) (l Bu : Nat) (u : Nat) (hu : u < 18446744073709551616) (J : List UInt8 → World → Prop)
    (hJ : ∀ pre W v, J pre W → J pre (W.setCell ⟨Bu, 0, none⟩ v))
    (hY : ∀ pre x W, J pre W → pre.length < (vb u).length → YieldAt F (n - 1) Try.prog l #[.int .u8 (x : UInt8).toNat] W fun e W' => e = .returned (.bool true) ∧ J (pre ++ [x]) W' ∧ W'.heap[Bu]? = W.heap[Bu]?)
    (W : World) (hB : W.heap[Bu]? = some (.cells #[.int .u64 u] 84 (0, 0))) (h0 : J [] W) :
    CallsIn F n Try.prog 69 #[.func (.yield l) #[] #[], .pointer (some ⟨Bu, 0, none⟩)] W fun e W' => (∃ v, e = .returned v) ∧ J (vb u) W' := by
  refine callsIn_of_wp Try.func69 rfl hf ?_ hro
  simp only [Try.ntmps69, List.size_toArray, List.length_cons, List.length_nil, Nat.reduceAdd, Nat.reduceSub, Array.replicate_succ, Array.replicate_zero, List.push_toArray, List.append_toArray, List.nil_append, List.cons_append]
  gi_wp2
  gi_loopw [] (fun wr => ∃ (pre : List UInt8) (k : Nat), k ≤ u ∧ pre ++ vb k = vb u ∧ J pre wr ∧ wr.heap[Bu]? = some (.cells #[.int .u64 k] 84 (0, 0)))
    (fun wr => (intOf ((wr.cell? ⟨Bu, 0, none⟩).getD undef)).toNat)
  case atStart =>
    exact ⟨[], u, Nat.le_refl _, rfl, h0, hB⟩
  case round =>
    obtain ⟨pre, k, hk, he, hj, hb⟩ := hrel
    have hc : wr.cell? ⟨Bu, 0, none⟩ = some (.int .u64 k) := by simp [World.cell?, hb]
    have hz : wr.frozen? ⟨Bu, 0, none⟩ = false := by simp [World.frozen?, hb]
    have hpl : pre.length < (vb u).length := by rw [← he, List.length_append]; have := vb_pos k; omega
    have He := Lib.hid he
    clear he
    by_cases hlt : 127 < k
    · obtain ⟨fn, tmps, assign, body, hy, hR⟩ := hY pre (UInt8.ofNat (k % 128 + 128)) wr hj hpl
      rw [show ((UInt8.ofNat (k % 128 + 128)).toNat : Int) = bits .or .u8 ((k : Int) % 256) 128 by rw [bigI]; simp; omega] at hy
      have Hb := Lib.hid hb
      clear hb
      gi_wp2
      refine hR.mono ?_
      rintro e W3 ⟨rfl, hJ3, hk3⟩
      have hb3 := hk3.trans Hb.out
      have hc3 : W3.cell? ⟨Bu, 0, none⟩ = some (.int .u64 k) := by simp [World.cell?, hb3]
      have hz3 : W3.frozen? ⟨Bu, 0, none⟩ = false := by simp [World.frozen?, hb3]
      have Hb3 := Lib.hid hb3
      clear hb3 hk3
      gi_wp2
      have hb4 : (W3.setCell ⟨Bu, 0, none⟩ (.int .u64 ((k : Int) / 128))).heap[Bu]? = some (.cells #[.int .u64 ((k / 128 : Nat) : Int)] 84 (0, 0)) := by
        simp [World.setCell, Array.getElem?_modify, Hb3.out]
      refine ⟨⟨pre ++ [UInt8.ofNat (k % 128 + 128)], k / 128, by omega, ?_, hJ _ _ _ hJ3, hb4⟩, ?_⟩
      · rw [← He.out, vb_big hlt]; simp
      · have e1 : (W3.setCell ⟨Bu, 0, none⟩ (.int .u64 ((k : Int) / 128))).cell? ⟨Bu, 0, none⟩ = some (.int .u64 ((k / 128 : Nat) : Int)) := by
          simp only [World.cell?, hb4]; simp
        have e2 : wr.cell? ⟨Bu, 0, none⟩ = some (.int .u64 k) := by simp only [World.cell?, Hb.out]; simp
        rw [e1, e2]
        simp [intOf]; omega
    · obtain ⟨fn, tmps, assign, body, hy, hR⟩ := hY pre (UInt8.ofNat k) wr hj hpl
      rw [show ((UInt8.ofNat k).toNat : Int) = (k : Int) by simp; omega] at hy
      have Hb := Lib.hid hb
      clear hb
      gi_wp2
      refine hR.mono ?_
      rintro e W3 ⟨rfl, hJ3, hk3⟩
      gi_wp2
      go_end0
      exact ⟨⟨_, rfl⟩, by rw [← He.out, vb_small hlt]; exact hJ3⟩
end Go.Proofs.Ytihjmnhjjpdenaa.Wire
end
section
namespace Go.Proofs.Ytihjmnhjjpdenaa
open Go Go.RowKit Go.Deep
set_option linter.unusedVariables false

def bv (x : UInt8) : Value := .int .u8 x.toNat
theorem bv_one (l : List UInt8) : ∀ u ∈ l.map bv, u.oneCell' = true := fun u hu => by
  obtain ⟨x, _, rfl⟩ := List.mem_map.1 hu
  rfl

/-- A part of a string, by its list of bytes. -/
theorem extract_list (l : List UInt8) (i j : Nat) : (ByteArray.mk l.toArray).extract i j = ⟨((l.drop i).take (j - i)).toArray⟩ := by
  have h := Lib.extract_data ⟨l.toArray⟩ i j
  have e : ∀ b : ByteArray, b = ⟨b.data.toList.toArray⟩ := fun b => by cases b; simp
  rw [e ((ByteArray.mk l.toArray).extract i j), h]

/-- 'string(b)'. -/
theorem run_bytes_str {P : Program} {w : World} {B n : Nat} {v : Value} {l : List UInt8} (src e dst : TypeId) (hs : P.underlying src = some (.slice e)) (he : P.underlying e = some (.int .u8)) (hd : P.underlying dst = some .string)
    (h : Rd w B 1 v n (l.map bv)) : (convert src dst v).run P w = .ok (.string ⟨l.toArray⟩) w := by
  obtain ⟨hl, a, cap, rfl, hn, hc, hr⟩ := h
  rcases Nat.eq_zero_or_pos n with h0 | h0
  · subst h0
    have hx : l = [] := List.eq_nil_of_length_eq_zero (by simpa using hl)
    subst hx
    cases a with
    | none => exact run_convert_bytes_nil w src e hs he 0 cap dst hd
    | some a =>
      rw [run_convert_bytes_string w src dst e _ 0 cap hs he hd, run_bytesToString w a 0 cap [] (by have := run_loadCells_list (P := P) w a [] (fun j v hj => by simp at hj); simpa using this)]
      rfl
  · obtain ⟨g, off, rfl, _, hr'⟩ := hr h0
    have hl' : l.length = n := by simpa using hl
    have := run_convert_bytes_arg (P := P) w src e hs he g off n cap (l.map fun x => (x.toNat : Int)) (by simpa using hl) (fun i hi => by
      have hx : (l.map bv)[i]? = some (bv l[i]) := by simp [hl', hi]
      rw [hr' i _ hx]
      simp [List.getD, hl', hi, bv]) dst hd
    rw [this]
    have e1 : strOfNums (l.map fun x => (x.toNat : Int)) = ⟨l.toArray⟩ := by
      unfold strOfNums
      congr 1
      simp [Function.comp_def]
    rw [e1]

/-- '[]byte(s)': the new row is the call's own. -/
theorem own_bytes {w : World} {e : TypeId} {s : List UInt8} (hs : s.length ≤ maxLen) :
    Own (Lib.bytesWorld w e ⟨s.toArray⟩) w.heap.size 1 (.slice (some ⟨w.heap.size, 0, none⟩) s.length (grownCap w s.length 0 e)) s.length (s.map bv) := by
  have hnew := Lib.bytesWorld_at_new w e ⟨s.toArray⟩
  have hge := grownCap_ge w s.length 0 e
  have hsize : (Lib.bytesCells w e ⟨s.toArray⟩).size = grownCap w s.length 0 e := by
    have h1 : (ByteArray.mk s.toArray).size = s.length := by simp [ByteArray.size]
    simp [Lib.bytesCells, h1]
    omega
  refine ⟨by simp, .inr ⟨w.heap.size, 0, _, rfl, Nat.le_refl _, by rw [Lib.bytesWorld_size]; omega, hge, grownCap_le_maxLen w s.length 0 e hs, fun j hj => ⟨?_, ?_⟩, fun j u hu => ?_⟩⟩
  · rw [cell_of_row _ _ _ _ _ _ hnew]
    rw [Array.getElem?_eq_getElem (by omega)]
    rfl
  · simp [World.frozen?, hnew]
    omega
  · have hj : j < s.length := by
      rcases Nat.lt_or_ge j s.length with h | h
      · exact h
      · rw [List.getElem?_eq_none (by simpa using h)] at hu; cases hu
    rw [Nat.zero_add, Lib.bytesWorld_cell w e ⟨s.toArray⟩ j (by simpa [ByteArray.size] using hj)]
    simp [hj] at hu
    subst hu
    simp [List.getD, hj, bv]

theorem bytes_below (w : World) (e : TypeId) (s : ByteArray) {B : Nat} (hB : B ≤ w.heap.size) : Below B w (Lib.bytesWorld w e s) := by
  refine ⟨rfl, rfl, rfl, by rw [Lib.bytesWorld_size]; omega, fun k hk => Lib.bytesWorld_at_old w e s k (by omega)⟩
end Go.Proofs.Ytihjmnhjjpdenaa
end
section
namespace Go.Proofs.Ytihjmnhjjpdenaa.Wire
open Go Go.RowKit Go.Shelf
set_option linter.unusedVariables false
attribute [local go_sem] Oper.semAt_some



theorem infoU8 : (Try.prog.info? 5).map (fun i => (i.zero, i.size, i.bytes)) = some (some (.int .u8 0), 1, 1) := by kernel_rfl

/-- What the box holds between two rounds. -/
def PutI (w : World) (B n0 : Nat) (xs0 : List Value) (pre : List UInt8) (W : World) : Prop :=
  ∃ ad c, W.heap[w.heap.size]? = some (.cells #[.slice ad (n0 + pre.length) c] 22 (0, 0)) ∧ Own W B 1 (.slice ad (n0 + pre.length) c) (n0 + pre.length) (xs0 ++ pre.map bv) ∧
    (∀ g, (Value.slice ad (n0 + pre.length) c).ownBlock = some g → g < w.heap.size ∨ w.heap.size + 3 < g) ∧ Below B w W ∧ w.heap.size + 2 ≤ W.heap.size

theorem PutI.but {w : World} {B n0 : Nat} {xs0 : List Value} {pre : List UInt8} {W W' : World} (hB : B ≤ w.heap.size) (h : PutI w B n0 xs0 pre W)
    (hb : But (fun k => k = w.heap.size + 1 ∨ k = w.heap.size + 2 ∨ k = w.heap.size + 2 + 1) W W') : PutI w B n0 xs0 pre W' := by
  obtain ⟨ad, c, h1, h2, h3, h4, h5⟩ := h
  refine ⟨ad, c, (hb.block _ (by omega) (by omega)).trans h1, h2.congr hb.size fun g hg => hb.block g (h2.lt hg).1 (by rcases h3 g hg with h | h <;> omega), h3,
    h4.trans ⟨hb.os, hb.tape, hb.output, hb.size, fun k hk => hb.block k (by omega) (by omega)⟩, by have := hb.size; omega⟩
theorem PutI.alloc {w : World} {B n0 : Nat} {xs0 : List Value} {pre : List UInt8} {W : World} (hB : B ≤ w.heap.size) (h : PutI w B n0 xs0 pre W) (o : Obj) : PutI w B n0 xs0 pre (W.alloc o) := by
  obtain ⟨ad, c, h1, h2, h3, h4, h5⟩ := h
  exact ⟨ad, c, (Below.heap_alloc W o _ (by omega)).trans h1, h2.alloc o, h3, h4.alloc (by omega) o, by simp; omega⟩

theorem put_any (ad : Option Addr) (n0 c : Nat) (xs0 : List Value) (n : Int) (B : Nat) (w : World) (h0 : -9223372036854775808 ≤ n) (h1 : n ≤ 9223372036854775807) (hB : B ≤ w.heap.size)
    (hown : Own w B 1 (.slice ad n0 c) n0 xs0) (hlen : n0 + 10 ≤ 140737488355328) :
    Calls Try.prog 49 #[.slice ad n0 c, .int .i64 n] w fun e w' => ∃ ad' c', e = .returned (.slice ad' (n0 + (putB n).length) c') ∧ Own w' B 1 (.slice ad' (n0 + (putB n).length) c') (n0 + (putB n).length) (xs0 ++ (putB n).map bv) ∧ Below B w w' := by
  have Z := zz_walk h0 h1
  have L := (putB_len h0 h1).1
  have hzz := zz_lt h0 h1
  have HZ := Lib.hid Z
  clear Z
  refine (callsIn_wide (n := 3)).1 ?_
  refine callsIn_of_wp_marks Try.func49 rfl trivial ?_ rfl
  simp only [Try.ntmps49, List.size_toArray, List.length_cons, List.length_nil, Nat.reduceAdd, Nat.reduceSub, Array.replicate_succ, Array.replicate_zero, List.push_toArray, List.append_toArray, List.nil_append, List.cons_append]
  gi_wp2_with (refine ⟨trivial, ?_⟩; gi_at_call 62; refine (callsIn_wide.2 (groups_any _ _)).mono ?_; rintro e w' ⟨rfl, rfl⟩)
  have hbs : (w.alloc (.cells #[.slice ad n0 c] 22)).heap.size = w.heap.size + 1 := by simp
  refine wpIn_range_on rfl (by decide) (gf := 69) (lb := #[.pointer (some ⟨w.heap.size + 1, 0, none⟩)]) (by simp [go_sem]) trivial (enters_of Try.func69 (by kernel_rfl) rfl)
    (fun x : UInt8 => .int .u8 x.toNat) (putB n) (w.heap.size + 1) (by simp) (PutI w B n0 xs0) ?hI ?h0 ?hIa ?hseq
    (fun x => { tmps := #[.slice ad n0 c, .int .i64 n, .pointer (some ⟨w.heap.size, 0, none⟩), undef, .slice none 0 0, .int .u8 x.toNat, .int .i64 n, .int .u64 (IntKind.u64.wrap n), .int .u64 (IntKind.u64.wrap (IntKind.u64.wrap n * 2)), .int .i64 n, .int .i64 (n / 9223372036854775808),
        .int .u64 (IntKind.u64.wrap (n / 9223372036854775808)), .int .u64 (bits .xor .u64 (IntKind.u64.wrap (IntKind.u64.wrap n * 2)) (IntKind.u64.wrap (n / 9223372036854775808))), .func (.func 69) #[] #[.pointer (some ⟨w.heap.size + 1, 0, none⟩)], .int .u8 x.toNat, undef, undef, undef, undef, undef], defers := [] }) ?assign ?body ?done
  case hI =>
    intro pre W W' hi hb
    exact hi.but hB (hb.mono fun k hk => by simp at hk; omega)
  case h0 =>
    refine ⟨ad, c, ?_, ?_, ?_, ?_, by simp⟩
    · rw [Below.heap_alloc _ _ _ (by simp)]
      simpa using World.alloc_heap_new w (.cells #[.slice ad n0 c] 22)
    · simpa using (hown.alloc _).alloc _
    · intro g hg
      exact .inl (hown.lt hg).1
    · exact ((Below.refl B w).alloc hB _).alloc (by simp; omega) _
  case hIa =>
    intro W o _ hi
    exact hi.alloc hB o
  case hseq =>
    intro l J W hJ hY hj hS
    have hu : W.heap[w.heap.size + 1]? = some (.cells #[.int .u64 ((zz n : Nat) : Int)] 84 (0, 0)) := by
      rw [hS, ← HZ.out]
      simp only [IntKind.wrap_u64]
      have := World.alloc_heap_new (w.alloc (.cells #[.slice ad n0 c] 22)) (.cells #[.int .u64 (bits .xor .u64 (n % 18446744073709551616 * 2 % 18446744073709551616) (n / 9223372036854775808 % 18446744073709551616))] 84)
      rwa [World.size_alloc] at this
    exact groups1_in Fence.wide 2 trivial rfl (by decide) l (w.heap.size + 1) (zz n) hzz J hJ hY W hu hj
  case assign =>
    intro l x W K hK
    gi_wp2
    exact hK
  case body =>
    rintro l pre x W ⟨ad1, c1, hbx, ho, hg1, hbel, hsz⟩ hpl hlt
    have hc1 : W.cell? ⟨w.heap.size, 0, none⟩ = some (.slice ad1 (n0 + pre.length) c1) := by simp [World.cell?, hbx]
    have hf1 : W.frozen? ⟨w.heap.size, 0, none⟩ = false := by simp [World.frozen?, hbx]
    obtain ⟨i0, hi, hz0, hz1, hz2⟩ := info_parts infoU8
    simp only [World.size_alloc] at hlt
    have hkeep : ∀ (o : Obj) (row : Option Nat) (w2 : World), (W.alloc o).grownBy w2 (Value.slice ad1 (n0 + pre.length) c1).ownBlock → ∀ k, w.heap.size ≤ k → k ≤ w.heap.size + 3 → w2.heap[k]? = W.heap[k]? := fun o _ w2 hg k hk1 hk2 =>
      (hg.block k (by simp; omega) (fun e => by rcases hg1 k e.symm with h | h <;> omega)).trans (Below.heap_alloc W o k (by omega))
    have hcell : ∀ (o : Obj) (row : Option Nat) (w2 : World), (W.alloc o).grownBy w2 (Value.slice ad1 (n0 + pre.length) c1).ownBlock → w2.cell? ⟨w.heap.size, 0, none⟩ = some (.slice ad1 (n0 + pre.length) c1) := fun o r w2 hg =>
      (World.cell?_of_block (a := ⟨w.heap.size, 0, none⟩) (hkeep o r w2 hg _ (by show w.heap.size ≤ w.heap.size; omega) (by show w.heap.size ≤ _; omega))).trans hc1
    have hfr : ∀ (o : Obj) (row : Option Nat) (w2 : World), (W.alloc o).grownBy w2 (Value.slice ad1 (n0 + pre.length) c1).ownBlock → w2.frozen? ⟨w.heap.size, 0, none⟩ = false := fun o r w2 hg =>
      (World.frozen?_of_block (a := ⟨w.heap.size, 0, none⟩) (hkeep o r w2 hg _ (by show w.heap.size ≤ w.heap.size; omega) (by show w.heap.size ≤ _; omega))).trans hf1
    have Hbx := Lib.hid hbx
    clear hbx
    have HK := Lib.hid hkeep
    have HC := Lib.hid hcell
    have HF := Lib.hid hfr
    clear hkeep hcell hfr
    gi_wp2_with (gi_at_builtin; refine wpListIn_append_mine rfl _ _ 22 22 rfl 5 i0 _ 1 Try.underlying22 hi hz0 hz1 hz2 rfl rfl (ho.alloc _) (by simp; omega) _ rfl 1 [.int .u8 x.toNat] (Src.ofSlice _ Try.underlying22 ⟨W.heap.size, 0, none⟩ 1 1 _ rfl (cell_one_new _ _ _) (by simp [Value.oneCell'])) (by simp only [maxLen]; omega) (by omega) ?_; intro ad2 c2 w2 ho2 hg2 hat2; have hc2 := HC.out _ none _ hg2; have hf2 := HF.out _ none _ hg2)
    have hk2 := HK.out _ none _ hg2
    have hset : ∀ k, w.heap.size + 1 ≤ k → k ≤ w.heap.size + 3 → (w2.setCell ⟨w.heap.size, 0, none⟩ (.slice ad2 (n0 + pre.length + 1) c2)).heap[k]? = W.heap[k]? := fun k h1 h2 =>
      (Below.heap_setCell w2 ⟨w.heap.size, 0, none⟩ _ k (by show k ≠ w.heap.size; omega)).trans (hk2 k (by omega) h2)
    have hsz2 := hg2.size
    simp only [World.size_alloc] at hsz2
    have hnb : ∀ g, (Value.slice ad2 (n0 + pre.length + 1) c2).ownBlock = some g → g < w.heap.size ∨ w.heap.size + 3 < g := fun g hg => by
      rcases hat2 with h | h
      · exact hg1 g (h.symm.trans hg)
      · rw [h] at hg
        simp at hg
        omega
    refine ⟨⟨ad2, c2, ?_, ?_, ?_, ?_, ?_⟩, fun k hk => hset k (by rcases hk with rfl | rfl | rfl <;> simp <;> omega) (by rcases hk with rfl | rfl | rfl <;> simp <;> omega)⟩
    · have := hk2 w.heap.size (Nat.le_refl _) (by omega)
      simp [World.setCell, Array.getElem?_modify, this, Hbx.out, Nat.add_assoc]
    · have := ho2.far (p := ⟨w.heap.size, 0, none⟩) (fun e => by rcases hnb _ e with h | h; exact Nat.lt_irrefl _ h; exact absurd h (by show ¬ w.heap.size + 3 < w.heap.size; omega)) (.slice ad2 (n0 + pre.length + 1) c2)
      simpa [Nat.add_assoc, bv] using this
    · simpa [Nat.add_assoc] using hnb
    · refine ((hbel.alloc (by omega) _).grown hg2 (by simp; omega) ?_).setCell (p := ⟨w.heap.size, 0, none⟩) hB _
      intro k hk
      exact (ho.lt hk).2
    · simp [World.setCell]; omega
  case done =>
    rintro W ⟨ad1, c1, hbx, ho, hg1, hbel, hsz⟩ hD
    have hc1 : W.cell? ⟨w.heap.size, 0, none⟩ = some (.slice ad1 (n0 + (putB n).length) c1) := by simp [World.cell?, hbx]
    gi_wp2
    refine ⟨by simp, .inl ⟨_, _, rfl, run_takeDeferred hD, ?_⟩⟩
    simp only [World.size_alloc]
    refine ⟨_, results_tmp rfl _ _ _, ad1, c1, rfl, ?_, ?_⟩
    · refine ho.congr (by simp [World.putObj]) fun g hg => World.putObj_heap_other ?_
      rcases hg1 g hg with h | h <;> omega
    · exact hbel.trans ⟨rfl, rfl, rfl, by simp [World.putObj], fun k hk => World.putObj_heap_other (by omega)⟩
end Go.Proofs.Ytihjmnhjjpdenaa.Wire
end
