/- The deck: a list of numbers out of which choices are made. -/
import Derived.Maps.RangeWalk
import Derived.Test.YtihhncejiahdcacBase
import Derived.Test.YtihhncejiahdcacRows
namespace Go.Proofs.Ytihhncejiahdcac.Deck
open Go Go.RowKit
set_option linter.unusedVariables false

/-- A deck of the call's own, in a block from B on, over a list that is only read. -/
def Deck (w : World) (B D : Nat) : Prop :=
  ∃ (a : Option Addr) (n c : Nat) (l : List Int) (at_ : Nat), B ≤ D ∧ D < w.heap.size ∧ w.cell? ⟨D, 0, none⟩ = some (.slice a n c) ∧ w.cell? ⟨D, 1, none⟩ = some (.int .i64 at_) ∧ w.frozen? ⟨D, 1, none⟩ = false ∧ at_ ≤ n ∧ n ≤ 4611686018427387904 ∧ Rd w B 1 (.slice a n c) n (l.map (Value.int .i64)) ∧ ∀ x ∈ l, -9223372036854775808 ≤ x ∧ x ≤ 9223372036854775807

theorem mod_any (n k : Int) (n0 : -9223372036854775808 ≤ n) (n1 : n ≤ 9223372036854775807) (k1 : 1 ≤ k) (k2 : k ≤ 4611686018427387904) (w : World) :
    Calls Try.prog 20 #[.int .i64 n, .int .i64 k] w fun e w' => e = .returned (.int .i64 (n % k)) ∧ w = w' := by
  have h1 := Int.tmod_lt_of_pos n (show (0 : Int) < k by omega)
  have h2 : -k < n.tmod k := Int.lt_tmod_of_pos n (by omega)
  have h3 : (n.tmod k + k).tmod k = n % k := by
    rw [Int.tmod_eq_emod_of_nonneg (by omega), Int.add_emod_right, Int.tmod_def, Int.sub_mul_emod_self_left]
  go_enter Try.func20, Try.ntmps20
  go_wp2_with fail
  go_ret
  exact ⟨rfl, rfl⟩

theorem grown_drewN (w : World) (k : Nat) (row : Option Nat) : w.grownBy (w.drewN k) row := ⟨rfl, rfl, rfl, Nat.le_refl _, fun _ _ _ => rfl⟩
theorem grown_set (w : World) (D o : Nat) (u : Value) : w.grownBy (w.setCell ⟨D, o, none⟩ u) (some D) :=
  ⟨rfl, rfl, rfl, by simp [World.setCell], fun k hk hne => Below.heap_setCell w _ u k (fun e => hne (by rw [e]))⟩

theorem far_cell {w w' : World} {row : Option Nat} (hg : w.grownBy w' row) (a : Addr) (hlt : a.block < w.heap.size) (hne : some a.block ≠ row) : w'.cell? a = w.cell? a := World.cell?_of_block (hg.block _ hlt hne)
theorem far_frozen {w w' : World} {row : Option Nat} (hg : w.grownBy w' row) (a : Addr) (hlt : a.block < w.heap.size) (hne : some a.block ≠ row) : w'.frozen? a = w.frozen? a := World.frozen?_of_block (hg.block _ hlt hne)
theorem Deck.grown {w w' : World} {B D : Nat} {row : Option Nat} (h : Deck w B D) (hg : w.grownBy w' row) (hne : row ≠ some D) (hB : B ≤ w.heap.size) (hr : ∀ k, row = some k → B ≤ k) : Deck w' B D := by
  obtain ⟨a, m, c, l, at_, hB', hlt, hcell, hcell1, hfr, hat, hm, hrd, hl⟩ := h
  have hb := hg.block D hlt (fun e => hne e.symm)
  refine ⟨a, m, c, l, at_, hB', Nat.lt_of_lt_of_le hlt hg.size, by rw [World.cell?_of_block (a := ⟨D, 0, none⟩) hb]; exact hcell, by rw [World.cell?_of_block (a := ⟨D, 1, none⟩) hb]; exact hcell1, by rw [World.frozen?_of_block (a := ⟨D, 1, none⟩) hb]; exact hfr, hat, hm, ?_, hl⟩
  obtain ⟨h1, a', cap, hv, hn, hc, hr'⟩ := hrd
  exact ⟨h1, a', cap, hv, hn, hc, fun h0 => let ⟨g, off, ha, hgl, hr2⟩ := hr' h0; ⟨g, off, ha, hgl, rangeAt_congr hr2 (hg.block g (by omega) (fun e => absurd (hr g e.symm) (by omega)))⟩⟩

theorem Deck.stepped {w : World} {B D m c at_ : Nat} {a : Option Addr} {l : List Int} (hB : B ≤ D) (hlt : D < w.heap.size) (hcell : w.cell? ⟨D, 0, none⟩ = some (.slice a m c)) (hcell1 : w.cell? ⟨D, 1, none⟩ = some (.int .i64 at_)) (hfr : w.frozen? ⟨D, 1, none⟩ = false) (hat : at_ < m) (hm : m ≤ 4611686018427387904)
    (hr : Rd w B 1 (.slice a m c) m (l.map (Value.int .i64))) (hl : ∀ x ∈ l, -9223372036854775808 ≤ x ∧ x ≤ 9223372036854775807) (k : Nat) : Deck ((w.drewN k).setCell ⟨D, 1, none⟩ (.int .i64 ((at_ : Int) + 1))) B D := by
  refine ⟨a, m, c, l, at_ + 1, hB, by simpa [World.setCell] using hlt, ?_, ?_, by rw [World.frozen?_setCell]; exact hfr, hat, hm, ?_, hl⟩
  · rw [World.cell?_setCell_other _ _ _ _ (fun e => by injection e with e1 e2; omega)]; exact hcell
  · rw [World.cell?_setCell_same' _ _ _ (by show (w.cell? _).isSome; rw [hcell1]; rfl)]; rfl
  · obtain ⟨h1, a', cap, hv, hn, hc, hr'⟩ := hr
    exact ⟨h1, a', cap, hv, hn, hc, fun h0 => let ⟨g, off, ha, hgl, hr2⟩ := hr' h0; ⟨g, off, ha, hgl, rangeAt_congr hr2 (Below.heap_setCell _ _ _ g (by show g ≠ D; omega))⟩⟩

theorem next_any (D : Nat) (n : Int) (B : Nat) (w : World) (hBw : B ≤ w.heap.size) (hd : Deck w B D) (n0 : n ≤ 4611686018427387904) :
    Calls Try.prog 13 #[.pointer (some ⟨D, 0, none⟩), .int .i64 n] w fun e w' => ∃ x : Int, e = .returned (.int .i64 x) ∧ 0 ≤ x ∧ (1 ≤ n → x < n) ∧ (n < 1 → x = 0) ∧ Deck w' B D ∧ w.grownBy w' (some D) := by
  have hd0 := hd
  obtain ⟨a, m, c, l, at_, hB, hlt, hcell, hcell1, hfr, hat, hm, hr, hl⟩ := hd
  by_cases h1 : n < 1
  · have hq : decide (n < 1) = true := decide_eq_true h1
    have HD := Lib.hid hd0
    clear hd0
    go_enter Try.func13, Try.ntmps13
    go_wp2_with fail
    go_quiet (fail)
    go_wp2_with fail
    go_ret
    exact ⟨0, rfl, by omega, by omega, fun _ => rfl, HD.out.grown (grown_drewN w _ none) (by simp) hBw (by simp), grown_drewN w _ _⟩
  · have hq : decide (n < 1) = false := decide_eq_false h1
    have HD := Lib.hid hd0
    clear hd0
    by_cases h2 : at_ < m
    · have hq2 : decide (m ≤ at_) = false := decide_eq_false (by omega)
      have hrd := hr
      rcases hr.addr with h0 | ⟨g, off, rfl, hg, hra⟩
      · omega
      have hll : l.length = m := by have := hr.1; simpa using this
      obtain ⟨x, hx⟩ : ∃ x, l[at_]? = some x := ⟨_, List.getElem?_eq_getElem (by omega)⟩
      have hxl := hl x (List.mem_of_getElem? hx)
      have hxc : w.cell? ⟨g, off + at_, none⟩ = some (.int .i64 x) := hra at_ _ (by rw [List.getElem?_map, hx]; rfl)
      have HS := Lib.hid (Deck.stepped hB hlt hcell hcell1 hfr h2 hm hrd hl)
      clear hr hrd hl hra hll hx
      have h1' : 1 ≤ n := by omega
      have hmod := mod_any x n hxl.1 hxl.2 h1' n0
      go_enter Try.func13, Try.ntmps13
      go_wp2_with fail
      go_quiet (fail)
      go_wp2_with fail
      go_quiet (fail)
      go_wp2_with fail
      refine (hmod _).mono ?_
      rintro e w2 ⟨rfl, rfl⟩
      go_wp2_with fail
      go_ret
      exact ⟨x % n, rfl, Int.emod_nonneg _ (by omega), fun _ => Int.emod_lt_of_pos _ (by omega), fun h => by omega, HS.out _, (grown_drewN w _ _).trans (grown_set _ _ _ _)⟩
    · have hq2 : decide (m ≤ at_) = true := decide_eq_true (by omega)
      go_enter Try.func13, Try.ntmps13
      go_wp2_with fail
      go_quiet (fail)
      go_wp2_with fail
      go_ret
      exact ⟨0, rfl, by omega, by omega, fun _ => rfl, HD.out.grown (grown_drewN w _ none) (by simp) hBw (by simp), grown_drewN w _ _⟩

theorem few_any (a : Option Addr) (n c : Nat) (w : World) : Calls Try.prog 10 #[.slice a n c] w fun e w' => e = .returned (.bool (decide (n ≤ 500))) ∧ w = w' := by
  go_enter Try.func10, Try.ntmps10
  go_wp2_with fail
  go_ret
  exact ⟨by simp; omega, rfl⟩
theorem few_yes (a : Option Addr) (n c : Nat) (w : World) (h : n ≤ 500) : Calls Try.prog 10 #[.slice a n c] w fun e w' => e = .returned (.bool true) ∧ w = w' := by
  have := few_any a n c w
  rwa [decide_eq_true h] at this
theorem few_no (a : Option Addr) (n c : Nat) (w : World) (h : ¬ n ≤ 500) : Calls Try.prog 10 #[.slice a n c] w fun e w' => e = .returned (.bool false) ∧ w = w' := by
  have := few_any a n c w
  rwa [decide_eq_false h] at this

theorem new_any (a : Option Addr) (n c : Nat) (l : List Int) (B : Nat) (w : World) (hBw : B ≤ w.heap.size) (hr : Rd w B 1 (.slice a n c) n (l.map (Value.int .i64))) (hn : n ≤ 4611686018427387904) (hl : ∀ x ∈ l, -9223372036854775808 ≤ x ∧ x ≤ 9223372036854775807) :
    Calls Try.prog 11 #[.slice a n c] w fun e w' => ∃ D, e = .returned (.pointer (some ⟨D, 0, none⟩)) ∧ Deck w' B D ∧ w.heap.size ≤ D ∧ w.grownBy w' none := by
  have HR := Lib.hid hr
  have HL := Lib.hid hl
  clear hr hl
  go_enter Try.func11, Try.ntmps11
  go_wp2_with fail
  go_ret
  have hg := World.grownBy_alloc w (.cells #[.slice a n c, .int .i64 0] 49) none
  refine ⟨w.heap.size, rfl, ⟨a, n, c, l, 0, hBw, by simp, World.cell?_alloc_new _ _ _ 0, World.cell?_alloc_new _ _ _ 1, World.frozen?_alloc_new _ _ _ 1, Nat.zero_le _, hn, ?_, HL.out⟩, Nat.le_refl _, hg⟩
  exact HR.out.below ((Below.refl w.heap.size w).alloc (Nat.le_refl _) _) hBw

theorem field_any (D B : Nat) (w : World) (hBw : B ≤ w.heap.size) (hd : Deck w B D) :
    Calls Try.prog 12 #[.pointer (some ⟨D, 0, none⟩)] w fun e w' => ∃ p : Int, e = .returned (.agg #[.int .i64 p]) ∧ (p = 2 ∨ p = 3 ∨ p = 5 ∨ p = 7 ∨ p = 11 ∨ p = 13 ∨ p = 17 ∨ p = 257 ∨ p = 65521) ∧ Deck w' B D ∧ w.grownBy w' (some D) := by
  have hdl : D < w.heap.size := by obtain ⟨_, _, _, _, _, _, h, _⟩ := hd; exact h
  have hg1 := World.grownBy_alloc w (.cells #[.int .i64 0] 27) none
  have hg2 := World.grownBy_alloc (w.alloc (.cells #[.int .i64 0] 27)) (.cells #[.int .i64 2, .int .i64 3, .int .i64 5, .int .i64 7, .int .i64 11, .int .i64 13, .int .i64 17, .int .i64 257, .int .i64 65521] 3) none
  have hd1 := hd.grown (hg1.trans hg2) (by simp) hBw (by simp)
  have hn := next_any D 9 B _ (Nat.le_trans hBw (hg1.trans hg2).size) hd1 (by decide)
  have HN := Lib.hid hn
  have HG := Lib.hid (hg1.trans hg2)
  clear hn hd1 hd hg1 hg2
  go_enter Try.func12, Try.ntmps12
  go_wp2_with fail
  refine (HN.out).mono ?_
  rintro e w2 ⟨x, rfl, x0, x1, _, hd2, hg⟩
  have x9 := x1 (by decide)
  obtain ⟨k, rfl⟩ := Int.eq_ofNat_of_zero_le x0
  have hk : k < 9 := by omega
  have hc0 : w2.cell? ⟨w.heap.size, 0, none⟩ = some (.int .i64 0) := by
    rw [far_cell hg _ (by simp; omega) (by simp; omega)]; simp
  have hf0 : w2.frozen? ⟨w.heap.size, 0, none⟩ = false := by
    rw [far_frozen hg _ (by simp; omega) (by simp; omega)]; simp
  obtain ⟨p, hp, hc1⟩ : ∃ p : Int, (p = 2 ∨ p = 3 ∨ p = 5 ∨ p = 7 ∨ p = 11 ∨ p = 13 ∨ p = 17 ∨ p = 257 ∨ p = 65521) ∧ w2.cell? ⟨w.heap.size + 1, k, none⟩ = some (.int .i64 p) := by
    rw [far_cell hg _ (by simp) (by simp; omega)]
    have : k = 0 ∨ k = 1 ∨ k = 2 ∨ k = 3 ∨ k = 4 ∨ k = 5 ∨ k = 6 ∨ k = 7 ∨ k = 8 := by omega
    rcases this with rfl | rfl | rfl | rfl | rfl | rfl | rfl | rfl | rfl
    · exact ⟨2, by decide, by simp⟩
    · exact ⟨3, by decide, by simp⟩
    · exact ⟨5, by decide, by simp⟩
    · exact ⟨7, by decide, by simp⟩
    · exact ⟨11, by decide, by simp⟩
    · exact ⟨13, by decide, by simp⟩
    · exact ⟨17, by decide, by simp⟩
    · exact ⟨257, by decide, by simp⟩
    · exact ⟨65521, by decide, by simp⟩
  have hs := hg.size
  simp only [World.size_alloc] at hs
  have HP := Lib.hid hp
  have HG2 := Lib.hid hg
  clear hp hg
  go_wp2_with fail
  have hgs := grown_set w2 w.heap.size 0 (.int .i64 p)
  have hcs : (w2.setCell ⟨w.heap.size, 0, none⟩ (.int .i64 p)).cell? ⟨w.heap.size, 0, none⟩ = some (.int .i64 p) := World.cell?_setCell_same' _ _ _ (by rw [hc0]; rfl)
  refine bodyPost_ret (v := .agg #[.int .i64 p]) (by simp [results, Try.results12, go_sem, hcs]) rfl ?_
  refine ⟨p, rfl, HP.out, hd2.grown hgs (by simp; omega) (by omega) (by simp; omega), ?_⟩
  exact ((World.grownBy.but HG.out _).trans HG2.out).andThen hgs (by simp)

theorem infoInt : (Try.prog.info? 3).map (fun i => (i.zero, i.size, i.bytes)) = some (some (.int .i64 0), 1, 8) := by kernel_rfl
def ElRel (D B n : Nat) (P : Int) (w w1 : World) (gk : Nat) (v7 v9 : Value) (wr : World) : Prop :=
  ∃ (i : Nat) (l : List Int) (ad : Option Addr) (c : Nat), gk + i = n ∧ v9 = .int .i64 i ∧ v7 = .slice ad i c ∧ Own wr (w.heap.size + 1) 1 (.slice ad i c) i (l.map (Value.int .i64)) ∧ (∀ x ∈ l, 0 ≤ x ∧ x < P) ∧ Deck wr B D ∧ w1.grownBy wr (some D)

theorem elements_any (D B : Nat) (P : Int) (n : Nat) (w : World) (hBw : B ≤ w.heap.size) (hd : Deck w B D) (hP : 1 ≤ P) (hP2 : P ≤ 65521) (hn : n ≤ 1000000) :
    Calls Try.prog 16 #[.pointer (some ⟨D, 0, none⟩), .agg #[.int .i64 P], .int .i64 n] w fun e w' => ∃ (v : Value) (l : List Int), e = .returned v ∧ Own w' w.heap.size 1 v n (l.map (Value.int .i64)) ∧ (∀ x ∈ l, 0 ≤ x ∧ x < P) ∧ Deck w' B D ∧ w.grownBy w' (some D) := by
  have hdl : D < w.heap.size := by obtain ⟨_, _, _, _, _, _, h, _⟩ := hd; exact h
  have hg1 := World.grownBy_alloc w (.cells #[.int .i64 P] 27) none
  have hd1 := hd.grown hg1 (by simp) hBw (by simp)
  obtain ⟨i0, hi, hz0, hz1, hz2⟩ := info_parts infoInt
  obtain ⟨w1, hw1⟩ : ∃ w1 : World, w1 = w.alloc (.cells #[.int .i64 P] 27) := ⟨_, rfl⟩
  have hs1 : w1.heap.size = w.heap.size + 1 := by rw [hw1]; simp
  have hcP : w1.cell? ⟨w.heap.size, 0, none⟩ = some (.int .i64 P) := by rw [hw1]; simp
  rw [← hw1] at hd1 hg1
  have HD := Lib.hid hd1
  have HG1 := Lib.hid hg1
  have HI := Lib.hid hi
  clear hd hd1 hg1 hi
  go_enter Try.func16, Try.ntmps16
  go_wp2_with fail
  rw [← hw1]
  have HW1 := Lib.hid hw1
  clear hw1
  go_loopg [7, 9] n (fun gk v7 v9 wr => ElRel D B n P w w1 gk v7 v9 wr)
  case atStart => exact ⟨0, [], none, 0, rfl, rfl, rfl, Own.nil _ _ _, by simp, HD.out, World.grownBy.refl _ _⟩
  case round =>
    obtain ⟨i, l, ad, c, hgi, rfl, rfl, hown, hl, hdk, hg⟩ := hrel
    have hsz := hg.size
    have hcW : wr.cell? ⟨w.heap.size, 0, none⟩ = some (.int .i64 P) := by
      rw [far_cell hg _ (by show w.heap.size < _; omega) (by show some w.heap.size ≠ some D; intro e; injection e with e; omega)]; exact hcP
    have hnx := next_any D P B wr (by omega) hdk (by omega)
    have HN := Lib.hid hnx
    have HO := Lib.hid hown
    have HL := Lib.hid hl
    have HG := Lib.hid hg
    have HDk := Lib.hid hdk
    clear hnx hown hl hdk hg
    by_cases hlt : i < n
    · go_wp2_with fail
      refine (HN.out).mono ?_
      rintro e w2 ⟨x, rfl, x0, x1, _, hdk2, hg2⟩
      have hx := x1 hP
      have hsz2 := hg2.size
      have ho2 := HO.out.grown hg2 (by intro e; have := (HO.out.lt e).2; omega)
      have HG2 := Lib.hid hg2
      have HD2 := Lib.hid hdk2
      have HX := Lib.hid x1
      clear hg2 hdk2 x1
      have hin := HI.out
      go_wp2_with (at_builtin; refine wpList_append_mine rfl _ _ 29 29 rfl 3 i0 _ 8 Try.underlying29 hin hz0 hz1 hz2 rfl rfl (ho2.alloc _) (by simp; omega) _ rfl 1 [.int .i64 x] (Src.ofSlice _ Try.underlying29 ⟨w2.heap.size, 0, none⟩ 1 1 _ rfl (cell_one_new _ _ _) (by simp [Value.oneCell'])) (by simp only [maxLen]; omega) (by omega) ?_; intro ad3 c3 w3 ho3 hg3 hat3)
      go_roundg (gk - 1)
      case measure => omega
      case rel =>
        have hga := World.grownBy_alloc w2 (.cells #[.int .i64 x] 3) none
        have hdk3 := HD2.out.grown hga (by simp) (by omega) (by simp)
        refine ⟨i + 1, l ++ [x], ad3, c3, by omega, by go_num, rfl, by simpa using ho3, ?_, ?_, ?_⟩
        · intro y hy
          rcases List.mem_append.1 hy with h | h
          · exact HL.out y h
          · obtain rfl : y = x := by simpa using h
            exact ⟨x0, hx⟩
        · exact hdk3.grown hg3 (by intro e; have := (ho2.lt e).2; omega) (by simp; omega) (fun k hk => by have := (ho2.lt hk).2; omega)
        · refine ((HG.out.trans HG2.out).trans (World.grownBy.but hga _)).andThen hg3 (fun j hj => .inl ?_)
          have := (ho2.lt hj).2
          omega
    · obtain rfl : gk = 0 := by omega
      obtain rfl : i = n := by omega
      go_wp2_with fail
      go_ret
      exact ⟨_, l, rfl, HO.out.mono (by omega), HL.out, HDk.out, (World.grownBy.but HG1.out _).trans HG.out⟩
end Go.Proofs.Ytihhncejiahdcac.Deck
