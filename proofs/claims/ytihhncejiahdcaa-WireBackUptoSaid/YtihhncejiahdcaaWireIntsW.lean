/- WireInts, walked: it returns true at every input. -/
import Derived.Test.YtihhncejiahdcaaWireSane
import Derived.Test.YtihhncejiahdcaaWireOneW
import Derived.Deep.RegionWith
import Derived.StillTailTactics
namespace Go.Proofs.Ytihhncejiahdcaa.Wire
open Go Go.RowKit
set_option linter.unusedVariables false
attribute [local go_sem] extract_list ByteArray.mk_append_mk

theorem conv11 (c0 c1 c2 c3 c4 c5 c6 c7 c8 c9 c10 : Int) (w : World) :
    (convert 24 9 (.slice (some ⟨w.heap.size, 0, none⟩) 11 11)).run Try.prog (w.alloc (.cells #[.int .u8 c0, .int .u8 c1, .int .u8 c2, .int .u8 c3, .int .u8 c4, .int .u8 c5, .int .u8 c6, .int .u8 c7, .int .u8 c8, .int .u8 c9, .int .u8 c10] 5)) =
      .ok (.string ⟨([c0, c1, c2, c3, c4, c5, c6, c7, c8, c9, c10].map fun c => UInt8.ofNat c.toNat).toArray⟩) (w.alloc (.cells #[.int .u8 c0, .int .u8 c1, .int .u8 c2, .int .u8 c3, .int .u8 c4, .int .u8 c5, .int .u8 c6, .int .u8 c7, .int .u8 c8, .int .u8 c9, .int .u8 c10] 5)) := by
  have h := run_convert_bytes_arg (P := Try.prog) (w.alloc (.cells #[.int .u8 c0, .int .u8 c1, .int .u8 c2, .int .u8 c3, .int .u8 c4, .int .u8 c5, .int .u8 c6, .int .u8 c7, .int .u8 c8, .int .u8 c9, .int .u8 c10] 5)) 24 5 Try.underlying24 Try.underlying5 w.heap.size 0 11 11 [c0, c1, c2, c3, c4, c5, c6, c7, c8, c9, c10] rfl (fun i hi => by
    have e : i = 0 ∨ i = 1 ∨ i = 2 ∨ i = 3 ∨ i = 4 ∨ i = 5 ∨ i = 6 ∨ i = 7 ∨ i = 8 ∨ i = 9 ∨ i = 10 := by omega
    rcases e with rfl | rfl | rfl | rfl | rfl | rfl | rfl | rfl | rfl | rfl | rfl <;> simp) 9 Try.underlying9
  rw [h]
  rfl

theorem conv11' (p : Addr) (v : Value) (c0 c1 c2 c3 c4 c5 c6 c7 c8 c9 c10 : Int) (w : World) :
    (convert 24 9 (.slice (some ⟨w.heap.size, 0, none⟩) 11 11)).run Try.prog ((w.setCell p v).alloc (.cells #[.int .u8 c0, .int .u8 c1, .int .u8 c2, .int .u8 c3, .int .u8 c4, .int .u8 c5, .int .u8 c6, .int .u8 c7, .int .u8 c8, .int .u8 c9, .int .u8 c10] 5)) =
      .ok (.string ⟨([c0, c1, c2, c3, c4, c5, c6, c7, c8, c9, c10].map fun c => UInt8.ofNat c.toNat).toArray⟩) ((w.setCell p v).alloc (.cells #[.int .u8 c0, .int .u8 c1, .int .u8 c2, .int .u8 c3, .int .u8 c4, .int .u8 c5, .int .u8 c6, .int .u8 c7, .int .u8 c8, .int .u8 c9, .int .u8 c10] 5)) := by
  have := conv11 c0 c1 c2 c3 c4 c5 c6 c7 c8 c9 c10 (w.setCell p v)
  rwa [show (w.setCell p v).heap.size = w.heap.size by simp [World.setCell]] at this

/-- A row of strings. -/
def StrRow (W : World) (B n : Nat) : Prop := ∀ k, k < n → ∃ l : List UInt8, l.length ≤ 4611686018427387904 ∧ W.cell? ⟨B, k, none⟩ = some (.string ⟨l.toArray⟩)
theorem strRow_of (X : World) (o : Obj) (t : TypeId) (ls : List (List UInt8)) (h : ∀ l ∈ ls, l.length ≤ 4611686018427387904) : StrRow ((X.alloc o).alloc (.cells (ls.map fun l => Value.string ⟨l.toArray⟩).toArray t)).drew (X.heap.size + 1) ls.length := by
  intro k hk
  refine ⟨ls[k], h _ (List.getElem_mem _), ?_⟩
  show ((X.alloc o).alloc _).cell? _ = _
  rw [show X.heap.size + 1 = (X.alloc o).heap.size by simp, World.cell?_alloc_new]
  simp [hk]
theorem StrRow.below {W W' : World} {B n k : Nat} (h : StrRow W B n) (hb : Below k W W') (hk : B < k) : StrRow W' B n := fun i hi =>
  let ⟨l, h1, h2⟩ := h i hi
  ⟨l, h1, (hb.cell (p := ⟨B, i, none⟩) hk).trans h2⟩

/-- A row of numbers. -/
def IntRow (W : World) (B n : Nat) : Prop := ∀ k, k < n → ∃ x : Int, W.cell? ⟨B, k, none⟩ = some (.int .i64 x)
theorem intRow4 (X : World) (t : TypeId) (a b c d : Int) : IntRow (X.alloc (.cells #[.int .i64 a, .int .i64 b, .int .i64 c, .int .i64 d] t)) X.heap.size 4 := by
  intro k hk
  have e : k = 0 ∨ k = 1 ∨ k = 2 ∨ k = 3 := by omega
  rcases e with rfl | rfl | rfl | rfl
  · exact ⟨a, by rw [World.cell?_alloc_new]; rfl⟩
  · exact ⟨b, by rw [World.cell?_alloc_new]; rfl⟩
  · exact ⟨c, by rw [World.cell?_alloc_new]; rfl⟩
  · exact ⟨d, by rw [World.cell?_alloc_new]; rfl⟩
/-- The head of a round. -/
def ORel (W : World) (N gk : Nat) (i : Value) (wr : World) : Prop := ∃ k : Nat, gk + k = N ∧ i = .int .i64 k ∧ Below W.heap.size W wr

set_option maxRecDepth 100000 in
set_option maxHeartbeats 2000000 in
theorem ints_walk (w : World) (n : Int) (n0 : -9223372036854775808 ≤ n) (n1 : n ≤ 9223372036854775807) (m : Int) (m0 : -9223372036854775808 ≤ m) (m1 : m ≤ 9223372036854775807) (s : List UInt8) (hs : s.length ≤ 140737488351232)
    (at_ : Int) (a0 : -9223372036854775808 ≤ at_) (a1 : at_ ≤ 9223372036854775807) (by_ : Int) (b0 : 0 ≤ by_) (b1 : by_ ≤ 255) :
    Calls Try.prog 3 #[.int .i64 n, .int .i64 m, .string ⟨s.toArray⟩, .int .i64 at_, .int .u8 by_] w (IsTrue w) := by
  have L := putB_len m0 m1
  have k1 := toBytes
  have k2 := conv11'
  go_enter Try.func3, Try.ntmps3
  go_wp2_with fail
  refine (sane_any _).mono ?_
  rintro e w1 ⟨rfl, hb1⟩
  go_wp2_with fail
  refine (wPutInt_any s n _ n0 n1 (by omega)).mono ?_
  rintro e w2 ⟨rfl, hb2⟩
  go_wp2_with fail
  refine (rPutInt_any s n _ n0 n1 (by omega)).mono ?_
  rintro e w3 ⟨rfl, hb3⟩
  go_wp2_with fail
  refine (rPutInt_any [] m _ m0 m1 (by simp)).mono ?_
  rintro e w4 ⟨rfl, hb4⟩
  have ho := own_bytes (w := w4) (e := 5) (s := putB m) (by unfold maxLen; omega)
  have hx : ((((putB m).length : Int) - 1).toNat) = (putB m).length - 1 := by omega
  obtain ⟨g, off, hg, hgB, hglt, hgc, hgf, hgo⟩ := ho.set_ (i := (putB m).length - 1) (by omega) (bv (UInt8.ofNat by_.toNat))
  injection hg with hg
  injection hg with hg1 hg2 hg3
  subst hg1
  subst hg2
  clear hg3
  have hby : bv (UInt8.ofNat by_.toNat) = .int .u8 by_ := by simp [bv]; omega
  rw [List.getElem?_eq_getElem (by simp; omega)] at hgc
  simp only [Nat.zero_add] at hgc hgf hgo
  have k3 := fun o => run_bytes_str (P := Try.prog) (l := (putB m).set ((putB m).length - 1) (UInt8.ofNat by_.toNat)) 24 5 9 Try.underlying24 Try.underlying5 Try.underlying9 (by rw [List.map_set]; exact (hgo.alloc o).drew.rd)
  have k4 := fun o o' => run_bytes_str (P := Try.prog) (l := (putB m).set ((putB m).length - 1) (UInt8.ofNat by_.toNat)) 24 5 9 Try.underlying24 Try.underlying5 Try.underlying9 (by rw [List.map_set]; exact ((hgo.alloc o).alloc o').drew.rd)
  simp only [hby] at k3 k4 hgo
  have K3 := Lib.hid k3
  have K4 := Lib.hid k4
  clear k3 k4
  have hl5 : ((putB m).set ((putB m).length - 1) (UInt8.ofNat by_.toNat)).length = (putB m).length := by simp
  generalize (putB m).set ((putB m).length - 1) (UInt8.ofNat by_.toNat) = bl at *
  have hbl : bl.length ≤ 10 := by omega
  have hs3 : ¬ 9223372036854775807 < bl.length + s.length := by omega
  have hs4 : ¬ 9223372036854775807 < s.length + bl.length := by omega
  have HL5 := Lib.hid hl5
  clear hl5
  go_wp2_with fail
  go_region_held3 (fun w' => (convert 24 9 (.slice (some ⟨w4.heap.size, 0, none⟩) (putB m).length (grownCap w4 (putB m).length 0 5))).run Try.prog w' = .ok (.string ⟨bl.toArray⟩) w') (first | exact K3.out _ | exact K4.out _ _) (first | fail)
  have hb4' := hb1.trans ((hb2.mono hb1.size).trans ((hb3.mono (Nat.le_trans hb1.size hb2.size)).trans (hb4.mono (Nat.le_trans hb1.size (Nat.le_trans hb2.size hb3.size)))))
  have hb5 := hb4'.trans (bytes_below w4 5 ⟨(putB m).toArray⟩ hb4'.size)
  have hz5 := Lib.bytesWorld_size w4 5 ⟨(putB m).toArray⟩
  generalize hX : World.setCell _ _ _ = X
  have hXz : X.heap.size = w4.heap.size + 1 := by rw [← hX]; simp [World.setCell, hz5]
  have hbX : Below w.heap.size w X := by rw [← hX]; exact hb5.setCell hb4'.size _
  generalize hW5 : World.drew _ = W5
  have hrow : StrRow W5 (w4.heap.size + 2) 8 := by
    rw [← hW5, show w4.heap.size + 2 = X.heap.size + 1 by rw [hXz]]
    exact strRow_of X _ _ [_, _, _, _, _, _, _, _] (by simp; omega)
  have hbW : Below w.heap.size w W5 := by rw [← hW5]; exact ((hbX.alloc hbX.size _).alloc (by simp; have := hbX.size; omega) _).drew
  have hzW : w4.heap.size + 2 < W5.heap.size := by rw [← hW5]; simp [hXz]
  rw [hz5]
  clear hW5 hX
  go_wp2_with fail
  go_loopg [72] 8 (fun gk i wr => ORel W5 8 gk i wr)
  case atStart => exact ⟨0, rfl, rfl, Below.refl _ _⟩
  case round =>
    obtain ⟨wo, rfl⟩ : ∃ wo : World, wo = wr := ⟨_, rfl⟩
    obtain ⟨gko, rfl⟩ : ∃ x : Nat, x = gk := ⟨_, rfl⟩
    obtain ⟨k, hgk, rfl, hbo⟩ := hrel
    have hzo := hbo.size
    by_cases hlt : k < 8
    · obtain ⟨v, hv, hc⟩ := hrow k hlt
      have hc' : wo.cell? ⟨w4.heap.size + 1 + 1, k, none⟩ = some (.string ⟨v.toArray⟩) := (hbo.cell (p := ⟨w4.heap.size + 2, k, none⟩) hzW).trans hc
      have hd8 : decide ((k : Int) < 8) = true := by simp; omega
      go_wp2_with fail
      generalize hwq : World.alloc wo _ = wq
      have hrow4 : IntRow wq wo.heap.size 4 := by rw [← hwq]; exact intRow4 _ _ _ _ _ _
      have hbq : Below W5.heap.size W5 wq := by rw [← hwq]; exact hbo.alloc hzo _
      have hzq : wo.heap.size < wq.heap.size := by rw [← hwq]; simp
      clear hwq
      go_loopg [89] 4 (fun gk i wi => ORel wq 4 gk i wi)
      case atStart => exact ⟨0, rfl, rfl, Below.refl _ _⟩
      case round =>
        obtain ⟨wi, rfl⟩ : ∃ wi : World, wi = wr := ⟨_, rfl⟩
        obtain ⟨k2, hgk2, rfl, hbi⟩ := hrel
        by_cases hlt2 : k2 < 4
        · obtain ⟨x, hx⟩ := hrow4 k2 hlt2
          have hx' : wi.cell? ⟨wo.heap.size, k2, none⟩ = some (.int .i64 x) := (hbi.cell (p := ⟨wo.heap.size, k2, none⟩) hzq).trans hx
          rcases hg : getI v x with ⟨y, z, er⟩
          have HG := Lib.hid hg
          clear hg hc hx
          go_wp2_with fail
          refine (wInt_any v x wi (by omega)).mono ?_
          unfold IntPost
          rw [HG.out]
          rintro e w6 ⟨rfl, rfl⟩
          go_wp2_with fail
          refine (rInt_any v x wi (by omega)).mono ?_
          unfold IntPost
          rw [HG.out]
          rintro e w6 ⟨rfl, rfl⟩
          go_wp2_with fail
          go_roundg (gk - 1)
          case measure => omega
          case rel => exact ⟨k2 + 1, by omega, by go_num, hbi⟩
        · go_wp2_with fail
          go_roundg (gko - 1)
          case measure => omega
          case rel => exact ⟨k + 1, by omega, by go_num, hbq.trans (hbi.mono hbq.size)⟩
    · go_wp2_with fail
      go_ret
      exact ⟨rfl, hbW.trans (hbo.mono hbW.size)⟩
end Go.Proofs.Ytihhncejiahdcaa.Wire
