/- What is known of a word: the iterator. -/
import Derived.Test.YthbhkkdaaipngaaGreatDoorRows
import Derived.Test.YthbhkkdaaipngaaGreatDoorMRep
import Derived.Test.YthbhkkdaaipngaaGreatDoorMRangeKeep
import Derived.Test.YthbhkkdaaipngaaGreatDoorMFieldRes
import Derived.RangeFuncNested
import Derived.RangeFuncBound
import Derived.RangeFuncCalls
import Derived.RangeFuncLeaves
import Derived.Shelf.Abstract
import Derived.Shelf.RegionOpen
import Derived.WalkKit
import Derived.OwnWalk
import Derived.OwnWalkIn
import Derived.Outline
import Derived.TacticsInMore
import Derived.LoopNIn
import Derived.LoopIn
import Derived.Lib.Hide
namespace Go.Proofs.YthbhkkdaaipngaaGreatDoor.Tw
open Go Go.RowKit Go.Shelf
set_option linter.unusedVariables false
attribute [local go_sem] Oper.semAt_some
/-- A cell of a word. -/
structure WCell where
  v : Int
  k : Bool
instance : Rep WCell where
  sz := 2
  is _ _ cs x := cs = [.int .i64 x.v, .bool x.k] ∧ I64 x.v
  len := by rintro w S cs x ⟨rfl, _⟩; rfl
  one := by rintro w S cs x ⟨rfl, _⟩ u hu; simp at hu; rcases hu with rfl | rfl <;> rfl
  keep := fun h _ => h
/-- What is known: the places from 1 on, and the values. -/
def kn : Nat → List WCell → List (Nat × Int)
  | _, [] => []
  | i, c :: r => if c.k then (i + 1, c.v) :: kn (i + 1) r else kn (i + 1) r
theorem kn_append : ∀ (i : Nat) (a b : List WCell), kn i (a ++ b) = kn i a ++ kn (i + a.length) b
  | i, [], b => by simp [kn]
  | i, c :: r, b => by
    simp only [List.cons_append, kn, List.length_cons]
    rw [kn_append (i + 1) r b, show i + 1 + r.length = i + (r.length + 1) by omega]
    split <;> rfl
theorem kn_next {l : List WCell} {k : Nat} (h : k < l.length) : kn 0 (l.take (k + 1)) = kn 0 (l.take k) ++ if l[k].k then [(k + 1, l[k].v)] else [] := by
  rw [List.take_succ_eq_append_getElem h, kn_append, List.length_take, Nat.min_eq_left (by omega), Nat.zero_add]
  simp only [kn]
theorem kn_take {l : List WCell} {k : Nat} : kn 0 l = kn 0 (l.take k) ++ kn (l.take k).length (l.drop k) := by
  have := kn_append 0 (l.take k) (l.drop k)
  rw [List.take_append_drop, Nat.zero_add] at this
  exact this
def encK (x : Nat × Int) : Array Value := #[.int .i64 x.1, .int .i64 x.2]
theorem known_any (v : Value) (w : World) (h1 : v.oneCell' = true) :
    Calls Tryz.prog 99 #[v] w fun e w' => e = .returned (.func (.func 102) #[] #[.pointer (some ⟨w.heap.size, 0, none⟩)]) ∧ w.alloc (.cells #[v] 103) = w' := by
  go_enter Tryz.func99, Tryz.ntmps99
  go_wp2
  go_ret
  exact ⟨rfl, rfl⟩
theorem known_in (F : Fence) (n : Nat) (hf : F.fn 102) (hro : F.round = none) (hn : 1 ≤ n) (l Bu : Nat) (K S : Nat → Prop) (hBu : K Bu) (hS : ∀ b, S b → K b) (v : Value) (L : List WCell) (J : List (Nat × Int) → World → Prop) (W0 : World) (hK : ∀ k, K k → k < W0.heap.size)
    (hbx : W0.heap[Bu]? = some (.cells #[v] 103 (0, 0))) (hq : Lst W0 S v L) (hlen : L.length ≤ 1000000000)
    (hJ : ∀ pre W W', J pre W → Below W.heap.size W W' → J pre W')
    (hY : ∀ pre x W, J pre W → pre.length < (kn 0 L).length → (kn 0 L).take (pre.length + 1) = pre ++ [x] → YieldAt F (n - 1) Tryz.prog l (encK x) W fun e W' => e = .returned (.bool true) ∧ J (pre ++ [x]) W' ∧ KeepK K W W')
    (h0 : J [] W0) :
    CallsIn F n Tryz.prog 102 #[.func (.yield l) #[] #[], .pointer (some ⟨Bu, 0, none⟩)] W0 fun e W' => (∃ v, e = .returned v) ∧ J (kn 0 L) W' := by
  obtain ⟨aq, cq, rfl, hq1, hq2⟩ := hq.form
  have hc0 : W0.cell? ⟨Bu, 0, none⟩ = some (.slice aq L.length cq) := by simp [World.cell?, hbx]
  have Hbx := Lib.hid hbx
  clear hbx
  refine callsIn_of_wp Tryz.func102 rfl hf ?_ hro
  simp only [Tryz.ntmps102, List.size_toArray, List.length_cons, List.length_nil, Nat.reduceAdd, Nat.reduceSub, Array.replicate_succ, Array.replicate_zero, List.push_toArray, List.append_toArray, List.nil_append, List.cons_append]
  gi_wp2
  gi_loopw [7] (fun i wr => ∃ k : Nat, i = .int .i64 k ∧ k ≤ L.length ∧ J (kn 0 (L.take k)) wr ∧ KeepK K W0 wr) (fun i wr => L.length - (intOf i).toNat)
  case atStart =>
    exact ⟨0, rfl, Nat.zero_le _, h0, KeepK.refl _ _⟩
  case round =>
    obtain ⟨k, rfl, hk, hj, hb⟩ := hrel
    by_cases hkl : k < L.length
    · have hnext := kn_next hkl
      have hall := kn_take (l := L) (k := k + 1)
      obtain ⟨g, off, cs, rfl, hg, hr, hcs, hI⟩ := hq.at_ hkl
      subst hcs
      have hr2 : wr.rangeAt g (off + k * 2) [.int .i64 L[k].v, .bool L[k].k] := fun i x hx => (hb.cell (p := ⟨g, off + k * 2 + i, none⟩) (hS _ hg.1)).trans (hr i x hx)
      have hc1 : wr.cell? ⟨g, off + k * 2, none⟩ = some (.int .i64 L[k].v) := hr2 0 _ rfl
      have hc2 : wr.cell? ⟨g, off + k * 2 + 1, none⟩ = some (.bool L[k].k) := hr2 1 _ rfl
      have hsz : ∀ k, K k → k < wr.heap.size := fun k hk => Nat.lt_of_lt_of_le (hK k hk) hb.size
      have hlt : (kn 0 (L.take (k + 1))).length ≤ (kn 0 L).length := by rw [hall, List.length_append]; omega
      have htk : (kn 0 L).take (kn 0 (L.take (k + 1))).length = kn 0 (L.take (k + 1)) := by
        conv => lhs; rw [hall]
        rw [List.take_append_of_le_length (Nat.le_refl _), List.take_length]
      clear hall
      generalize hck : L[k] = c at *
      obtain ⟨cv, ck⟩ := c
      simp only at hnext hc1 hc2 hI
      cases ck with
      | true =>
        simp only [if_true] at hnext
        have hlen2 : (kn 0 (L.take (k + 1))).length = (kn 0 (L.take k)).length + 1 := by rw [hnext, List.length_append]; rfl
        have hj2 := hJ _ _ _ hj ((Below.refl wr.heap.size wr).alloc (Nat.le_refl _) (.cells #[.int .i64 cv, .bool true] 105))
        obtain ⟨fn, tmps, assign, body, hy, hR⟩ := hY _ (k + 1, cv) _ hj2 (by omega) (by rw [← hlen2, htk, hnext])
        simp only [encK] at hy
        rw [show ((k + 1 : Nat) : Int) = (k : Int) + 1 by omega] at hy
        have Hn := Lib.hid hnext
        have Hl := Lib.hid hlen2
        have Ht := Lib.hid htk
        clear hnext hlen2 htk hlt hj2
        gi_wp2
        refine hR.mono ?_
        rintro e W3 ⟨rfl, hJ3, hk3⟩
        gi_wp2
        have hka : KeepK K wr (wr.alloc (.cells #[.int .i64 cv, .bool true] 105)) := (KeepK.refl K wr).alloc hsz _
        refine ⟨⟨k + 1, by rw [show ((k + 1 : Nat) : Int) = (k : Int) + 1 by omega], hkl, by rw [Hn.out]; exact hJ3, hb.trans (hka.trans hk3)⟩, ?_⟩
        simp only [intOf]; omega
      | false =>
        simp only [Bool.false_eq_true, if_false, List.append_nil] at hnext
        have Hn := Lib.hid hnext
        have Ht := Lib.hid htk
        clear hnext htk hlt
        gi_wp2
        refine ⟨by simp, ?_⟩
        gi_wp2
        have hka : KeepK K wr (wr.alloc (.cells #[.int .i64 cv, .bool false] 105)) := (KeepK.refl K wr).alloc hsz _
        refine ⟨⟨k + 1, by rw [show ((k + 1 : Nat) : Int) = (k : Int) + 1 by omega], hkl, by rw [Hn.out]; exact hJ _ _ _ hj ((Below.refl wr.heap.size wr).alloc (Nat.le_refl _) _), hb.trans hka⟩, ?_⟩
        simp only [intOf]; omega
    · obtain rfl : k = L.length := by omega
      gi_wp2
      go_end0
      refine ⟨⟨_, rfl⟩, ?_⟩
      have := hj
      rwa [List.take_of_length_le (Nat.le_refl _)] at this
end Go.Proofs.YthbhkkdaaipngaaGreatDoor.Tw
