/- The dice: a list of bytes out of which numbers are made. -/
import Derived.Test.YtihhncejiahdcabLoc2
import Derived.Test.YtihhncejiahdcabRows
namespace Go.Proofs.Ytihhncejiahdcab
open Go Go.RowKit Go.Deep
set_option linter.unusedVariables false
set_option linter.unusedSimpArgs false

theorem far_cell {w w' : World} {row : Option Nat} (hg : w.grownBy w' row) (a : Addr) (hlt : a.block < w.heap.size) (hne : row ≠ some a.block) : w'.cell? a = w.cell? a := World.cell?_of_block (hg.block _ hlt (fun e => hne e.symm))
theorem far_frozen {w w' : World} {row : Option Nat} (hg : w.grownBy w' row) (a : Addr) (hlt : a.block < w.heap.size) (hne : row ≠ some a.block) : w'.frozen? a = w.frozen? a := World.frozen?_of_block (hg.block _ hlt (fun e => hne e.symm))
theorem Cel.grown {w w' : World} {row : Option Nat} {b o : Nat} {cs : List Value} (h : Cel w b o cs) (hg : w.grownBy w' row) (hlt : b < w.heap.size) (hne : row ≠ some b) : Cel w' b o cs := h.congr (hg.block b hlt (fun e => hne e.symm))

/-- Dice of the call's own, in a block from B on, over a list that is only read, in blocks below B. -/
def Dice (w : World) (B D : Nat) : Prop :=
  ∃ (a : Option Addr) (c : Nat) (l : List UInt8) (k : Nat), B ≤ D ∧ D < w.heap.size ∧ Cel w D 0 [.slice a l.length c, .int .i64 k] ∧ k ≤ l.length ∧ l.length ≤ 300 ∧ Lst w (fun b => b < B) (.slice a l.length c) l
theorem Dice.lt {w : World} {B D : Nat} (h : Dice w B D) : D < w.heap.size ∧ B ≤ D := let ⟨_, _, _, _, h1, h2, _⟩ := h; ⟨h2, h1⟩
theorem Dice.keep {w w' : World} {B D : Nat} (h : Dice w B D) (hs : w.heap.size ≤ w'.heap.size) (hD : w'.heap[D]? = w.heap[D]?) (hB : ∀ b, b < B → w'.heap[b]? = w.heap[b]?) : Dice w' B D := by
  obtain ⟨a, c, l, k, h1, h2, h3, h4, h5, h6⟩ := h
  exact ⟨a, c, l, k, h1, Nat.lt_of_lt_of_le h2 hs, h3.congr hD, h4, h5, h6.keep fun b hb _ => ⟨hb, hB b hb⟩⟩
theorem Dice.call {w w' : World} {B D : Nat} (h : Dice w B D) (hb : Below w.heap.size w w') : Dice w' B D := h.keep hb.size (hb.block _ h.lt.1) fun b hb' => hb.block b (by have := h.lt; omega)
theorem Dice.alloc {w : World} {B D : Nat} (h : Dice w B D) (o : Obj) : Dice (w.alloc o) B D := h.call ((Below.refl _ _).alloc (Nat.le_refl _) o)
theorem Dice.drew {w : World} {B D : Nat} (h : Dice w B D) : Dice w.drew B D := h.keep (Nat.le_refl _) rfl fun _ _ => rfl
theorem Dice.far {w : World} {B D : Nat} (h : Dice w B D) {p : Addr} (h1 : B ≤ p.block) (h2 : p.block ≠ D) (u : Value) : Dice (w.setCell p u) B D :=
  h.keep (by simp [World.setCell]) (Below.heap_setCell _ _ _ _ (fun e => h2 e.symm)) fun b hb => Below.heap_setCell _ _ _ _ (by omega)
theorem Dice.grown {w w' : World} {B D : Nat} (h : Dice w B D) {row : Option Nat} (hg : w.grownBy w' row) (hr : ∀ k, row = some k → B ≤ k ∧ k ≠ D) : Dice w' B D :=
  h.keep hg.size (hg.block D h.lt.1 (fun e => (hr D e.symm).2 rfl)) fun b hb => hg.block b (by have := h.lt; omega) (fun e => by have := (hr b e.symm).1; omega)

theorem u8_at {w : World} {S : Nat → Prop} {a : Option Addr} {n c : Nat} {l : List UInt8} (h : Lst w S (.slice a n c) l) {i : Nat} (hi : i < l.length) :
    ∃ g off, a = some ⟨g, off, none⟩ ∧ S g ∧ w.cell? ⟨g, off + i, none⟩ = some (.int .u8 (l[i]).toNat) := by
  obtain ⟨g, off, cs, ha, hS, hr, hcs⟩ := h.atN 1 rfl hi
  obtain rfl : cs = [.int .u8 (l[i]).toNat] := hcs
  refine ⟨g, off, ha, hS.1, ?_⟩
  have := hr 0 _ rfl
  simpa using this

theorem pick_any (D : Nat) (n : Int) (B : Nat) (w : World) (hd : Dice w B D) (n0 : 1 ≤ n) (n1 : n ≤ 1000000) :
    Calls Try.prog 11 #[.pointer (some ⟨D, 0, none⟩), .int .i64 n] w fun e w' => ∃ x : Int, e = .returned (.int .i64 x) ∧ (0 ≤ x ∧ x < n) ∧ Dice w' B D ∧ w.grownBy w' (some D) := by
  have hd0 := hd
  obtain ⟨a, c, l, k, hB, hlt, hcel, hk, hl, hls⟩ := hd
  have hc := hcel
  simp only [Cel, Nat.reduceAdd, Nat.zero_add, and_true] at hc
  obtain ⟨hc0, hf0, hc1, hf1⟩ := hc
  have HD := Lib.hid hd0
  by_cases h2 : k < l.length
  · have hq2 : decide (l.length ≤ k) = false := decide_eq_false (by omega)
    obtain ⟨g, off, rfl, hg, hxc⟩ := u8_at hls h2
    obtain ⟨x, hx, hx1⟩ : ∃ x : Nat, (l[k]).toNat = x ∧ x < 256 := ⟨_, rfl, by have := (l[k]).toNat_lt; omega⟩
    rw [hx] at hxc
    have hz1 : (n == 0) = false := beq_eq_false_iff_ne.2 (by omega)
    have hset : ∀ u, Cel (w.setCell ⟨D, 1, none⟩ u) D 0 [.slice (some ⟨g, off, none⟩) l.length c, u] := fun u => Cel.set (u := u) hcel (i := 1) (by simp)
    have hls1 : ∀ u, Lst (w.setCell ⟨D, 1, none⟩ u) (fun b => b < B) (.slice (some ⟨g, off, none⟩) l.length c) l := fun u => hls.far_cell (by show ¬ D < B; omega) u
    have HSET := Lib.hid hset
    have HLS := Lib.hid hls1
    have hfin : ∀ p q, Dice (((w.drewN p).setCell ⟨D, 1, none⟩ (.int .i64 ((k : Int) + 1))).drewN q) B D ∧ w.grownBy (((w.drewN p).setCell ⟨D, 1, none⟩ (.int .i64 ((k : Int) + 1))).drewN q) (some D) := fun p q =>
      ⟨⟨some ⟨g, off, none⟩, c, l, k + 1, hB, by show D < ((w.drewN p).setCell _ _).heap.size; simpa [World.setCell] using hlt, HSET.out _, h2, hl, (HLS.out _).keep fun b hb _ => ⟨hb, rfl⟩⟩, rfl, rfl, rfl, by show w.heap.size ≤ ((w.drewN p).setCell _ _).heap.size; simp [World.setCell], fun b hb hne => Below.heap_setCell _ _ _ b (fun e => hne (by rw [e]))⟩
    have HF := Lib.hid hfin
    have hgD : g ≠ D := by have : g < B := hg; omega
    have hm0 := Int.emod_nonneg (x : Int) (show n ≠ 0 by omega)
    have hm1 := Int.emod_lt_of_pos (x : Int) (show 0 < n by omega)
    clear hd0 hcel hls hset hls1 hfin hx
    go_enter Try.func11, Try.ntmps11
    go_wp2_with fail
    go_quiet (fail)
    go_wp2_with fail
    go_quiet (fail)
    go_wp2_with fail
    go_ret
    go_show
    exact ⟨_, rfl, ⟨hm0, hm1⟩, (HF.out _ _).1, (HF.out _ _).2⟩
  · have hq2 : decide (l.length ≤ k) = true := decide_eq_true (by omega)
    clear hd0 hcel hls
    go_enter Try.func11, Try.ntmps11
    go_wp2_with fail
    go_quiet (fail)
    go_wp2_with fail
    go_ret
    exact ⟨0, rfl, ⟨by omega, by omega⟩, HD.out.keep (Nat.le_refl _) rfl fun _ _ => rfl, ⟨rfl, rfl, rfl, Nat.le_refl _, fun _ _ _ => rfl⟩⟩
end Go.Proofs.Ytihhncejiahdcab
