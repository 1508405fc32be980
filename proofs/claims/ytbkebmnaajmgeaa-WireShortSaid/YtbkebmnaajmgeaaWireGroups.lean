/- The iterator of a number's groups, at every loop body that leaves the iterator's own cell alone. -/
import Derived.Test.YtbkebmnaajmgeaaWirePlain
import Derived.Test.YtbkebmnaajmgeaaRows
import Derived.RangeFuncNested
import Derived.RangeFuncBound
import Derived.RangeFuncCalls
import Derived.RangeFuncLeaves
import Derived.Shelf.Abstract
import Derived.Shelf.RegionOpen
import Derived.WalkKit
import Derived.OwnWalkIn
import Derived.TacticsInMore
import Derived.LoopNIn
import Derived.LoopIn
import Derived.Lib.Hide
namespace Go.Proofs.Ytbkebmnaajmgeaa.Wire
open Go Go.RowKit Go.Shelf
set_option linter.unusedVariables false
attribute [local go_sem] Oper.semAt_some

theorem vb_pos (u : Nat) : 0 < (vb u).length := by
  by_cases h : 127 < u
  · rw [vb_big h]; simp
  · rw [vb_small h]; simp

theorem groups_any (u : Int) (w : World) :
    Calls Try.prog 13 #[.int .u64 u] w fun e w' => e = .returned (.func (.func 14) #[] #[.pointer (some ⟨w.heap.size, 0, none⟩)]) ∧ w.alloc (.cells #[.int .u64 u] 38) = w' := by
  go_enter Try.func13, Try.ntmps13
  go_wp2
  go_ret
  exact ⟨rfl, rfl⟩

theorem groups1_in (F : Fence) (n : Nat) (hf : F.fn 14) (hro : F.round = none) (hn : 1 ≤ n) (l Bu : Nat) (u : Nat) (hu : u < 18446744073709551616) (J : List UInt8 → World → Prop)
    (hJ : ∀ pre W v, J pre W → J pre (W.setCell ⟨Bu, 0, none⟩ v))
    (hY : ∀ pre x W, J pre W → pre.length < (vb u).length → YieldAt F (n - 1) Try.prog l #[.int .u8 (x : UInt8).toNat] W fun e W' => e = .returned (.bool true) ∧ J (pre ++ [x]) W' ∧ W'.heap[Bu]? = W.heap[Bu]?)
    (W : World) (hB : W.heap[Bu]? = some (.cells #[.int .u64 u] 38 (0, 0))) (h0 : J [] W) :
    CallsIn F n Try.prog 14 #[.func (.yield l) #[] #[], .pointer (some ⟨Bu, 0, none⟩)] W fun e W' => (∃ v, e = .returned v) ∧ J (vb u) W' := by
  refine callsIn_of_wp Try.func14 rfl hf ?_ hro
  simp only [Try.ntmps14, List.size_toArray, List.length_cons, List.length_nil, Nat.reduceAdd, Nat.reduceSub, Array.replicate_succ, Array.replicate_zero, List.push_toArray, List.append_toArray, List.nil_append, List.cons_append]
  gi_wp2
  gi_loopw [] (fun wr => ∃ (pre : List UInt8) (k : Nat), k ≤ u ∧ pre ++ vb k = vb u ∧ J pre wr ∧ wr.heap[Bu]? = some (.cells #[.int .u64 k] 38 (0, 0)))
    (fun wr => (intOf ((wr.cell? ⟨Bu, 0, none⟩).getD undef)).toNat)
  case atStart =>
    exact ⟨[], u, Nat.le_refl _, rfl, h0, hB⟩
  case round =>
    obtain ⟨pre, k, hk, he, hj, hb⟩ := hrel
    have hc : wr.cell? ⟨Bu, 0, none⟩ = some (.int .u64 k) := by simp [World.cell?, hb]
    have hz : wr.frozen? ⟨Bu, 0, none⟩ = false := by simp [World.frozen?, hb]
    have hpl : pre.length < (vb u).length := by rw [← he, List.length_append]; have := vb_pos k; omega
    have He := Lib.hid he
    clear he
    by_cases hlt : 127 < k
    · obtain ⟨fn, tmps, assign, body, hy, hR⟩ := hY pre (UInt8.ofNat (k % 128 + 128)) wr hj hpl
      rw [show ((UInt8.ofNat (k % 128 + 128)).toNat : Int) = bits .or .u8 ((k : Int) % 256) 128 by rw [bigI]; simp; omega] at hy
      have Hb := Lib.hid hb
      clear hb
      gi_wp2
      refine hR.mono ?_
      rintro e W3 ⟨rfl, hJ3, hk3⟩
      have hb3 := hk3.trans Hb.out
      have hc3 : W3.cell? ⟨Bu, 0, none⟩ = some (.int .u64 k) := by simp [World.cell?, hb3]
      have hz3 : W3.frozen? ⟨Bu, 0, none⟩ = false := by simp [World.frozen?, hb3]
      have Hb3 := Lib.hid hb3
      clear hb3 hk3
      gi_wp2
      have hb4 : (W3.setCell ⟨Bu, 0, none⟩ (.int .u64 ((k : Int) / 128))).heap[Bu]? = some (.cells #[.int .u64 ((k / 128 : Nat) : Int)] 38 (0, 0)) := by
        simp [World.setCell, Array.getElem?_modify, Hb3.out]
      refine ⟨⟨pre ++ [UInt8.ofNat (k % 128 + 128)], k / 128, by omega, ?_, hJ _ _ _ hJ3, hb4⟩, ?_⟩
      · rw [← He.out, vb_big hlt]; simp
      · have e1 : (W3.setCell ⟨Bu, 0, none⟩ (.int .u64 ((k : Int) / 128))).cell? ⟨Bu, 0, none⟩ = some (.int .u64 ((k / 128 : Nat) : Int)) := by
          simp only [World.cell?, hb4]; simp
        have e2 : wr.cell? ⟨Bu, 0, none⟩ = some (.int .u64 k) := by simp only [World.cell?, Hb.out]; simp
        rw [e1, e2]
        simp [intOf]; omega
    · obtain ⟨fn, tmps, assign, body, hy, hR⟩ := hY pre (UInt8.ofNat k) wr hj hpl
      rw [show ((UInt8.ofNat k).toNat : Int) = (k : Int) by simp; omega] at hy
      have Hb := Lib.hid hb
      clear hb
      gi_wp2
      refine hR.mono ?_
      rintro e W3 ⟨rfl, hJ3, hk3⟩
      gi_wp2
      go_end0
      exact ⟨⟨_, rfl⟩, by rw [← He.out, vb_small hlt]; exact hJ3⟩
end Go.Proofs.Ytbkebmnaajmgeaa.Wire
