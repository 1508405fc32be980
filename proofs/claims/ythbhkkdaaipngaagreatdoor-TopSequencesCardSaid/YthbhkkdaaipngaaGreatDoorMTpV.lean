/- Values of polynomials. -/
import Derived.Test.YthbhkkdaaipngaaGreatDoorRows
import Derived.Test.YthbhkkdaaipngaaGreatDoorMRep
import Derived.Test.YthbhkkdaaipngaaGreatDoorMFieldRes
import Derived.RangeFuncNested
import Derived.RangeFuncBound
import Derived.RangeFuncCalls
import Derived.RangeFuncLeaves
import Derived.Shelf.Abstract
import Derived.Shelf.RegionOpen
import Derived.WalkKit
import Derived.OwnWalk
import Derived.OwnWalkIn
import Derived.Outline
import Derived.TacticsInMore
import Derived.LoopNIn
import Derived.LoopIn
import Derived.Lib.Hide
import Derived.Test.YthbhkkdaaipngaaGreatDoorMRangeKeep
import Derived.Test.YthbhkkdaaipngaaGreatDoorMTpA
section
namespace Go.Proofs.YthbhkkdaaipngaaGreatDoor.Tw
open Go Go.RowKit Go.Shelf
open Go.Proofs.YthbhkkdaaipngaaGreatDoor.Field (pAdd_any pMul_any)
set_option linter.unusedVariables false
attribute [local go_sem] Oper.semAt_some
set_option maxHeartbeats 4000000 in
theorem value_region (l id : Nat) (p x s y : Int) (aq : Option Addr) (n c Bp Bx Bs : Nat) (W : World) (u0 u6 u11 u12 u13 : Value) (Q : Exit → Act → World → Prop) (hp : 1 ≤ p) (hp2 : p ≤ 65521) (hx : 0 ≤ x ∧ x < p) (hs : 0 ≤ s ∧ s < p) (hy : 0 ≤ y ∧ y < p)
    (hcs : W.cell? ⟨Bs, 0, none⟩ = some (.int .i64 s)) (hcp : W.cell? ⟨Bp, 0, none⟩ = some (.int .i64 p)) (hcx : W.cell? ⟨Bx, 0, none⟩ = some (.int .i64 x)) (hfs : W.frozen? ⟨Bs, 0, none⟩ = false)
    (hQ : Q .normal { tmps := #[.int .i64 p, .slice aq n c, .int .i64 x, .pointer (some ⟨Bp, 0, none⟩), undef, .pointer (some ⟨Bx, 0, none⟩), u6, .pointer (some ⟨Bs, 0, none⟩), undef, .int .i64 y, .slice aq n c, u11, u12, u13, .int .i64 p, .int .i64 p, .int .i64 s, .int .i64 x, .int .i64 (s * x % p), .int .i64 y, .int .i64 ((s * x + y) % p), undef], defers := [] } (W.setCell ⟨Bs, 0, none⟩ (.int .i64 ((s * x + y) % p))).drew) :
    (Code.region id #[⟨some 14, .load 76 (.tmp 3), 76, "residue.go:69", #[], none⟩, ⟨some 15, .load 76 (.tmp 3), 76, "residue.go:69", #[], none⟩, ⟨some 16, .load 3 (.tmp 7), 3, "residue.go:69", #[], none⟩, ⟨some 17, .load 3 (.tmp 5), 3, "residue.go:69", #[], none⟩,
      ⟨some 18, .call { callee := .value (.func 57), args := #[.tmp 15, .tmp 16, .tmp 17], argTypes := #[76, 3, 3] }, 3, "residue.go:69", #[⟨1, .data⟩, ⟨2, .data⟩, ⟨3, .data⟩], none⟩, ⟨some 19, .move (.tmp 9), 3, "residue.go:69", #[], none⟩,
      ⟨some 20, .call { callee := .value (.func 56), args := #[.tmp 14, .tmp 18, .tmp 19], argTypes := #[76, 3, 3] }, 3, "residue.go:69", #[⟨0, .data⟩, ⟨4, .data⟩, ⟨5, .data⟩, ⟨4, .chain⟩], none⟩,
      ⟨none, .store 3 (.tmp 7) (.tmp 20), 0, "residue.go:69", #[⟨6, .data⟩, ⟨6, .chain⟩, ⟨0, .phase⟩, ⟨1, .phase⟩, ⟨2, .phase⟩, ⟨3, .phase⟩, ⟨4, .phase⟩, ⟨5, .phase⟩, ⟨6, .phase⟩], none⟩] true).wpIn (Fence.wide.inRound l) 1 Tryz.prog Q { tmps := #[.int .i64 p, .slice aq n c, .int .i64 x, .pointer (some ⟨Bp, 0, none⟩), undef, .pointer (some ⟨Bx, 0, none⟩), u6, .pointer (some ⟨Bs, 0, none⟩), undef, .int .i64 y, .slice aq n c, u11, u12, u13, undef, undef, undef, undef, undef, undef, undef, undef], defers := [] } W := by
  have e1 := fun W => pMul_any p s x W hp hp2 hs.1 hs.2 hx.1 hx.2
  have e2 := fun W => pAdd_any p (s * x % p) y W hp hp2 (Int.emod_nonneg _ (by omega)) (Int.emod_lt_of_pos _ (by omega)) hy.1 hy.2
  have hm : Tryz.prog.follows .mixedOrders = true := by kernel_rfl
  gi_region_with_o (first | (refine ⟨trivial, (CallsIn.inRound l (callsIn_wide.2 (e1 _))).mono ?_⟩; rintro e w' ⟨rfl, rfl⟩) | (refine ⟨trivial, (CallsIn.inRound l (callsIn_wide.2 (e2 _))).mono ?_⟩; rintro e w' ⟨rfl, rfl⟩))
  all_goals exact hQ
end Go.Proofs.YthbhkkdaaipngaaGreatDoor.Tw
end
section
namespace Go.Proofs.YthbhkkdaaipngaaGreatDoor.Tw
open Go Go.RowKit Go.Shelf
open Go.Proofs.YthbhkkdaaipngaaGreatDoor.Field (pAdd_any pMul_any)
set_option linter.unusedVariables false
attribute [local go_sem] Oper.semAt_some
/-- What Backward yields: the places and the elements, from the last to the first. -/
def backs (l : List Int) : List (Nat × Int) := (List.range l.length).reverse.map fun i => (i, l.getD i 0)
def enc2 (x : Nat × Int) : Array Value := #[.int .i64 x.1, .int .i64 x.2]
theorem backs_len {l : List Int} : (backs l).length = l.length := by simp [backs]
theorem backs_next {l : List Int} {k : Nat} (h : k < l.length) : (backs l).take (k + 1) = (backs l).take k ++ [(l.length - 1 - k, l.getD (l.length - 1 - k) 0)] := by
  rw [List.take_succ_eq_append_getElem (by rw [backs_len]; exact h)]
  congr 2
  simp [backs]
theorem backward_any (v : Value) (w : World) (h1 : v.oneCell' = true) :
    Calls Tryz.prog 58 #[v] w fun e w' => e = .returned (.func (.func 80) #[] #[.pointer (some ⟨w.heap.size, 0, none⟩)]) ∧ w.alloc (.cells #[v] 22) = w' := by
  go_enter Tryz.func58, Tryz.ntmps58
  go_wp2
  go_ret
  exact ⟨rfl, rfl⟩
theorem backward_in (F : Fence) (n : Nat) (hf : F.fn 80) (hro : F.round = none) (hn : 1 ≤ n) (l Bu : Nat) (K S : Nat → Prop) (hBu : K Bu) (hS : ∀ b, S b → K b) (v : Value) (L : List Int) (J : List (Nat × Int) → World → Prop) (W0 : World)
    (hbx : W0.heap[Bu]? = some (.cells #[v] 22 (0, 0))) (hq : Lst W0 S v L) (hlen : L.length ≤ 1000000000)
    (hY : ∀ pre x W, J pre W → pre.length < (backs L).length → (backs L).take (pre.length + 1) = pre ++ [x] → YieldAt F (n - 1) Tryz.prog l (enc2 x) W fun e W' => e = .returned (.bool true) ∧ J (pre ++ [x]) W' ∧ KeepK K W W')
    (h0 : J [] W0) :
    CallsIn F n Tryz.prog 80 #[.func (.yield l) #[] #[], .pointer (some ⟨Bu, 0, none⟩)] W0 fun e W' => (∃ v, e = .returned v) ∧ J (backs L) W' := by
  obtain ⟨aq, cq, rfl, hq1, hq2⟩ := hq.form
  have hc0 : W0.cell? ⟨Bu, 0, none⟩ = some (.slice aq L.length cq) := by simp [World.cell?, hbx]
  have Hbx := Lib.hid hbx
  clear hbx
  refine callsIn_of_wp Tryz.func80 rfl hf ?_ hro
  simp only [Tryz.ntmps80, List.size_toArray, List.length_cons, List.length_nil, Nat.reduceAdd, Nat.reduceSub, Array.replicate_succ, Array.replicate_zero, List.push_toArray, List.append_toArray, List.nil_append, List.cons_append]
  gi_wp2
  gi_loopw [3] (fun i wr => ∃ k : Nat, i = .int .i64 ((L.length : Int) - 1 - k) ∧ k ≤ L.length ∧ J ((backs L).take k) wr ∧ KeepK K W0 wr) (fun i wr => (intOf i + 1).toNat)
  case atStart =>
    exact ⟨0, by simp, Nat.zero_le _, h0, KeepK.refl _ _⟩
  case round =>
    obtain ⟨k, rfl, hk, hj, hb⟩ := hrel
    by_cases hkl : k < L.length
    · have hnext := backs_next hkl
      obtain ⟨j, hj2⟩ : ∃ j : Nat, L.length - 1 - k = j := ⟨_, rfl⟩
      rw [hj2] at hnext
      have hjk : j + k + 1 = L.length := by omega
      clear hj2
      have hjl : j < L.length := by omega
      have hji : (L.length : Int) - 1 - k = (j : Int) := by omega
      obtain ⟨g, off, cs, rfl, hg, hr, hcs, hI⟩ := hq.at_ hjl
      subst hcs
      have hjd : L.getD j 0 = L[j] := by simp [List.getD_eq_getElem?_getD, hjl]
      rw [hjd] at hnext
      have hc1 : wr.cell? ⟨g, off + j, none⟩ = some (.int .i64 L[j]) := (hb.cell (p := ⟨g, off + j, none⟩) (hS _ hg.1)).trans (by have := hr 0 _ rfl; simpa [Rep.sz] using this)
      have hcb : wr.cell? ⟨Bu, 0, none⟩ = some (.slice (some ⟨g, off, none⟩) L.length cq) := (hb.cell (p := ⟨Bu, 0, none⟩) hBu).trans hc0
      have hlt : ((backs L).take k).length = k := by rw [List.length_take, backs_len]; omega
      obtain ⟨fn, tmps, assign, body, hy, hR⟩ := hY _ (j, L[j]) wr hj (by rw [hlt, backs_len]; omega) (by rw [hlt]; exact hnext)
      simp only [enc2] at hy
      rw [hji]
      have Hji := Lib.hid hji
      have Hjk := Lib.hid hjk
      have hk1 : (k : Int) + j + 1 = L.length := by omega
      have Hk1 := Lib.hid hk1
      have Hlt := Lib.hid hlt
      clear hji hjk hk1 hjd hlt
      gi_wp2
      refine hR.mono ?_
      rintro e W3 ⟨rfl, hJ3, hk3⟩
      gi_wp2
      have := Hk1.out
      refine ⟨⟨k + 1, ?_, hkl, ?_, hb.trans hk3⟩, ?_⟩
      · rw [show (j : Int) - 1 = (L.length : Int) - 1 - (k + 1 : Nat) by omega]
      · rw [hnext]; exact hJ3
      · simp only [intOf]; omega
    · obtain rfl : k = L.length := by omega
      rw [show (L.length : Int) - 1 - (L.length : Nat) = -1 by omega]
      gi_wp2
      go_end0
      refine ⟨⟨_, rfl⟩, ?_⟩
      have := hj
      rwa [List.take_of_length_le (by rw [backs_len]; exact Nat.le_refl _)] at this
/-- The sum after some. -/
def sumP (p x : Int) (pre : List (Nat × Int)) : Int := pre.foldl (fun s y => (s * x % p + y.2) % p) 0
def valF (p : Int) (l : List Int) (x : Int) : Int := l.foldr (fun c s => (s * x % p + c) % p) 0
theorem sumP_all (p x : Int) (l : List Int) : sumP p x (backs l) = valF p l x := by
  have : l = (List.range l.length).map fun i => l.getD i 0 := by
    apply List.ext_getElem (by simp)
    intro i h1 h2
    simp [List.getD_eq_getElem?_getD, h1]
  unfold sumP backs valF
  rw [List.foldl_map, List.foldl_reverse]
  conv => rhs; rw [this, List.foldr_map]
theorem sumP_snoc (p x : Int) (pre : List (Nat × Int)) (y : Nat × Int) : sumP p x (pre ++ [y]) = (sumP p x pre * x % p + y.2) % p := by
  simp [sumP]
theorem sumP_in {p x : Int} (hp : 1 ≤ p) : ∀ pre : List (Nat × Int), 0 ≤ sumP p x pre ∧ sumP p x pre < p := fun pre => by
  rcases List.eq_nil_or_concat pre with rfl | ⟨q, y, rfl⟩
  · simp [sumP]; omega
  · rw [List.concat_eq_append, sumP_snoc]
    exact ⟨Int.emod_nonneg _ (by omega), Int.emod_lt_of_pos _ (by omega)⟩
/-- What the box holds between two rounds. -/
structure SumI (p x : Int) (w : World) (pre : List (Nat × Int)) (W : World) : Prop where
  sum : W.heap[w.heap.size + 2]? = some (.cells #[.int .i64 (sumP p x pre)] 3 (0, 0))
  p : W.heap[w.heap.size]? = some (.cells #[.int .i64 p] 76 (0, 0))
  x : W.heap[w.heap.size + 1]? = some (.cells #[.int .i64 x] 3 (0, 0))
  below : Below w.heap.size w W
  size : w.heap.size + 4 ≤ W.heap.size
theorem value_any (p x : Int) (L : List Int) (v : Value) (w : World) (hp : 1 ≤ p) (hp2 : p ≤ 65521) (hx : 0 ≤ x ∧ x < p) (hL : ∀ y ∈ L, 0 ≤ y ∧ y < p) (hq : Lst w (Lo w.heap.size) v L) (hlen : L.length ≤ 1000000000) :
    Calls Tryz.prog 50 #[.int .i64 p, v, .int .i64 x] w fun e w' => e = .returned (.int .i64 (valF p L x)) ∧ Below w.heap.size w w' := by
  obtain ⟨aq, cq, rfl, hq1, hq2⟩ := hq.form
  refine (callsIn_wide (n := 3)).1 ?_
  refine callsIn_of_wp_marks Tryz.func50 rfl trivial ?_ rfl
  simp only [Tryz.ntmps50, List.size_toArray, List.length_cons, List.length_nil, Nat.reduceAdd, Nat.reduceSub, Array.replicate_succ, Array.replicate_zero, List.push_toArray, List.append_toArray, List.nil_append, List.cons_append]
  gi_wp2
  refine ⟨trivial, (callsIn_wide (n := 2)).2 ((backward_any _ _ rfl).mono ?_)⟩
  rintro e w1 ⟨rfl, rfl⟩
  gi_wp2
  let w1 := (((w.alloc (.cells #[.int .i64 p] 76)).alloc (.cells #[.int .i64 x] 3)).alloc (.cells #[.int .i64 0] 3)).alloc (.cells #[.slice aq L.length cq] 22)
  have hbs : w1.heap.size = w.heap.size + 4 := by simp [w1]
  refine wpIn_range_keep rfl (by decide) (gf := 80) (lb := #[.pointer (some ⟨w.heap.size + 3, 0, none⟩)]) (by simp [go_sem]) trivial (enters_of Tryz.func80 (by kernel_rfl) rfl)
    enc2 (fun _ => rfl) (backs L) (fun k => k < w.heap.size ∨ k = w.heap.size + 3) ?hK (SumI p x w) ?hI ?h0 ?hIb ?hseq
    (fun y => { tmps := #[.int .i64 p, .slice aq L.length cq, .int .i64 x, .pointer (some ⟨w.heap.size, 0, none⟩), undef, .pointer (some ⟨w.heap.size + 1, 0, none⟩), .int .i64 0, .pointer (some ⟨w.heap.size + 2, 0, none⟩), undef, .int .i64 y.2, .slice aq L.length cq, .func (.func 80) #[] #[.pointer (some ⟨w.heap.size + 3, 0, none⟩)], .int .i64 y.1, .int .i64 y.2, undef, undef, undef, undef, undef, undef, undef, undef], defers := [] }) ?assign ?body ?done
  case hK =>
    intro k hk
    simp
    omega
  case hI =>
    intro pre W W' hi hb
    have hn : ∀ k, k < w.heap.size + 4 → W'.heap[k]? = W.heap[k]? := fun k hk => hb.block k (by have := hi.size; omega) (by simp; omega)
    have := hb.size
    exact ⟨(hn _ (by omega)).trans hi.sum, (hn _ (by omega)).trans hi.p, (hn _ (by omega)).trans hi.x, hi.below.trans ⟨hb.os, hb.tape, hb.output, hb.size, fun k hk => hn k (by omega)⟩, by have := hi.size; omega⟩
  case h0 =>
    have h1 : ∀ (V : World) (o o' : Obj) (k : Nat), V.heap[k]? = some o → (V.alloc o').heap[k]? = some o := fun V o o' k h => (Below.heap_alloc V o' k (Array.getElem?_eq_some_iff.1 h).1).trans h
    refine ⟨?_, ?_, ?_, ?_, by simp⟩
    · refine h1 _ _ _ _ ?_
      have := World.alloc_heap_new ((w.alloc (.cells #[.int .i64 p] 76)).alloc (.cells #[.int .i64 x] 3)) (.cells #[.int .i64 0] 3)
      simpa [sumP] using this
    · exact h1 _ _ _ _ (h1 _ _ _ _ (h1 _ _ _ _ (World.alloc_heap_new w _)))
    · refine h1 _ _ _ _ (h1 _ _ _ _ ?_)
      have := World.alloc_heap_new (w.alloc (.cells #[.int .i64 p] 76)) (.cells #[.int .i64 x] 3)
      simpa using this
    · exact ((((Below.refl _ w).alloc (Nat.le_refl _) _).alloc (by simp) _).alloc (by simp; omega) _).alloc (by simp; omega) _
  case hIb =>
    intro pre W W' hi hb
    have hs := hi.size
    exact ⟨(hb.block _ (by omega)).trans hi.sum, (hb.block _ (by omega)).trans hi.p, (hb.block _ (by omega)).trans hi.x, hi.below.trans ⟨hb.os, hb.tape, hb.output, hb.size, fun k hk => hb.block k (by omega)⟩, Nat.le_trans hs hb.size⟩
  case hseq =>
    intro l J W hJb hY hj hb
    refine backward_in Fence.wide 2 trivial rfl (by decide) l (w.heap.size + 3) (fun k => k < w.heap.size ∨ k = w.heap.size + 3) (Lo w.heap.size) (.inr rfl) (fun b hb => .inl hb) (.slice aq L.length cq) L J W ?_ ?_ hlen hY hj
    · refine (hb.block _ (.inr rfl)).trans ?_
      have := World.alloc_heap_new (((w.alloc (.cells #[.int .i64 p] 76)).alloc (.cells #[.int .i64 x] 3)).alloc (.cells #[.int .i64 0] 3)) (.cells #[.slice aq L.length cq] 22)
      simpa using this
    · have hw : Below w.heap.size w W := ⟨hb.os, hb.tape, hb.output, by have := hb.size; simp at this; omega, fun k hk => (hb.block k (.inl hk)).trans ((((((Below.refl w.heap.size w).alloc (Nat.le_refl _) (.cells #[.int .i64 p] 76)).alloc (by simp) (.cells #[.int .i64 x] 3)).alloc (by simp; omega) (.cells #[.int .i64 0] 3)).alloc (by simp; omega) (.cells #[.slice aq L.length cq] 22)).block k hk)⟩
      exact hq.below hw (Nat.le_refl _)
  case assign =>
    intro l y W K hK
    simp only [enc2]
    gi_wp2
    exact hK
  case body =>
    rintro l pre y W hi hpl hpt hlt
    have hs := sumP_in (p := p) (x := x) hp pre
    have hy : 0 ≤ y.2 ∧ y.2 < p := by
      have : y ∈ (backs L).take (pre.length + 1) := by rw [hpt]; simp
      have h2 := List.mem_of_mem_take this
      simp only [backs, List.mem_map, List.mem_reverse, List.mem_range] at h2
      obtain ⟨i, hi, rfl⟩ := h2
      simp only [List.getD_eq_getElem?_getD, List.getElem?_eq_getElem hi, Option.getD_some]
      exact hL _ (List.getElem_mem hi)
    have hcs : W.cell? ⟨w.heap.size + 2, 0, none⟩ = some (.int .i64 (sumP p x pre)) := by simp [World.cell?, hi.sum]
    have hcp : W.cell? ⟨w.heap.size, 0, none⟩ = some (.int .i64 p) := by simp [World.cell?, hi.p]
    have hcx : W.cell? ⟨w.heap.size + 1, 0, none⟩ = some (.int .i64 x) := by simp [World.cell?, hi.x]
    have hfs : W.frozen? ⟨w.heap.size + 2, 0, none⟩ = false := by simp [World.frozen?, hi.sum]
    have hsn := sumP_snoc p x pre y
    generalize sumP p x pre = s at *
    have Hsn := Lib.hid hsn
    have Hi := Lib.hid hi
    clear hsn hi hpt hpl
    have hw1 : w1.heap.size = w.heap.size + 4 := hbs
    gi_wp2
    refine value_region l 4 p x s y.2 aq L.length cq w.heap.size (w.heap.size + 1) (w.heap.size + 2) W undef _ _ _ _ _ hp hp2 hx hs hy hcs hcp hcx hfs ?_
    have hsn : sumP p x (pre ++ [y]) = (s * x + y.2) % p := by rw [Hsn.out, Int.emod_add_emod]
    have hset : ∀ k, k ≠ w.heap.size + 2 → ((W.setCell ⟨w.heap.size + 2, 0, none⟩ (.int .i64 ((s * x + y.2) % p))).drew).heap[k]? = W.heap[k]? := fun k hk => Below.heap_setCell W ⟨w.heap.size + 2, 0, none⟩ _ k hk
    have hi := Hi.out
    have hsz := hi.size
    have hb : Below w.heap.size W ((W.setCell ⟨w.heap.size + 2, 0, none⟩ (.int .i64 ((s * x + y.2) % p))).drew) := ⟨rfl, rfl, rfl, by simp [World.drew, World.setCell], fun k hk => hset k (by omega)⟩
    refine ⟨rfl, ⟨?_, (hset _ (by omega)).trans hi.p, (hset _ (by omega)).trans hi.x, hi.below.trans hb, Nat.le_trans hsz hb.size⟩, ⟨rfl, rfl, rfl, hb.size, fun k hk => hset k (by omega)⟩, fun k hk => hset k (by rcases hk with rfl | rfl <;> simp <;> omega)⟩
    rw [hsn]
    simp [World.drew, World.setCell, Array.getElem?_modify, hi.sum]
  case done =>
    rintro W hi hD
    have hcs : W.cell? ⟨w.heap.size + 2, 0, none⟩ = some (.int .i64 (sumP p x (backs L))) := by simp [World.cell?, hi.sum]
    rw [sumP_all] at hcs
    gi_wp2
    refine ⟨by simp, .inl ⟨_, _, rfl, run_takeDeferred hD, ?_⟩⟩
    refine ⟨_, results_tmp rfl _ _ _, rfl, ?_⟩
    exact hi.below.trans ⟨rfl, rfl, rfl, by simp [World.putObj], fun k hk => World.putObj_heap_other (by simp; omega)⟩
end Go.Proofs.YthbhkkdaaipngaaGreatDoor.Tw
end
section
namespace Go.Proofs.YthbhkkdaaipngaaGreatDoor.Sim
open Go Go.RowKit Go.Deep
set_option maxRecDepth 100000
set_option linter.unusedVariables false
/-- Data are a list, where the elements are. -/
theorem chunks_of {α : Type} [Rep α] (f : α → List D) (Q : α → Prop) {w : World} {S : Nat → Prop} (hf : ∀ cs x, Q x → Cells w S (f x) cs → Rep.is w S cs x) : ∀ (l : List α) (xs : List Value), (∀ x ∈ l, Q x) → Rows w S (Rep.sz α) (l.map f) xs → Chunks w S xs l
  | [], xs, _, h => by simp only [Rows, List.map_nil] at h; exact h
  | a :: l, xs, hq, h => by
    simp only [Rows, List.map_cons] at h
    obtain ⟨x, r, rfl, h1, h2, h3⟩ := h
    exact ⟨x, r, rfl, hf _ _ (hq a (by simp)) h2, chunks_of f Q hf l r (fun y hy => hq y (by simp [hy])) h3⟩
theorem sl_lst {α : Type} [Rep α] (f : α → List D) (Q : α → Prop) {w : World} {S : Nat → Prop} (hf : ∀ cs x, Q x → Cells w S (f x) cs → Rep.is w S cs x) {v : Value} {l : List α} (hq : ∀ x ∈ l, Q x) (h : (D.sl (Rep.sz α) (l.map f)).is w S v) : Lst w S v l := by
  simp only [D.is] at h
  obtain ⟨a, cap, xs, rfl, h1, h2, h3, h4⟩ := h
  rw [List.length_map] at h1 h4 ⊢
  exact ⟨xs, a, cap, rfl, h1, h2, chunks_of f Q hf l xs hq h3, h4⟩
theorem dints_lst {w : World} {S : Nat → Prop} {v : Value} {l : List Int} (hq : ∀ x ∈ l, I64 x) (h : (dInts l).is w S v) : Lst w S v l :=
  sl_lst (α := Int) eI I64 (fun cs x hx hc => by
    simp only [eI, Cells, D.is] at hc
    obtain ⟨u, r, rfl, ⟨rfl, -⟩, rfl⟩ := hc
    exact ⟨rfl, hx⟩) hq h
/-- The value of a polynomial, as the program reckons it. -/
def valF (p : Int) (l : List Int) (x : Int) : Int := l.foldr (fun c s => (s * x % p + c) % p) 0
theorem value (p x : Int) (l : List Int) (hp : 1 ≤ p) (hp2 : p ≤ 65521) (hx : 0 ≤ x ∧ x < p) (hl : l.all (inE p) = true) (hb : l.length ≤ 1000000) : Does Tryz.prog 50 [I p, .d (dInts l), I x] [] (I (valF p l x)) [] [] := by
  have hl2 : ∀ y ∈ l, 0 ≤ y ∧ y < p := fun y hy => by
    have := List.all_eq_true.1 hl y hy
    simpa [inE] using this
  refine does_at (r := .int .i64 (valF p l x)) rfl fun w m hd S us hS hv => ?_
  simp only [VRs, VR, I] at hv
  obtain ⟨u, r, rfl, h1, u2, r2, rfl, h2, u3, r3, rfl, h3, rfl⟩ := hv
  simp only [D.is] at h1 h3
  obtain ⟨rfl, -⟩ := h1
  obtain ⟨rfl, -⟩ := h3
  have hq := (dints_lst (fun y hy => by have := hl2 y hy; constructor <;> omega) h2).more (S' := Lo w.heap.size) (fun b hb => hS b hb)
  exact Go.Proofs.YthbhkkdaaipngaaGreatDoor.Tw.value_any p x l u2 w hp hp2 hx hl2 hq (by omega)
theorem valF_in {p x : Int} {l : List Int} (hp : 1 ≤ p) : 0 ≤ valF p l x ∧ valF p l x < p := by
  cases l with
  | nil => simp [valF]; omega
  | cons c l => simp only [valF, List.foldr_cons]; exact ⟨Int.emod_nonneg _ (by omega), Int.emod_lt_of_pos _ (by omega)⟩
end Go.Proofs.YthbhkkdaaipngaaGreatDoor.Sim
end
