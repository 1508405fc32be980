/- FieldDoes, walked. -/
import Derived.Test.YtihhncejiahdcacFieldRef4
namespace Go.Proofs.Ytihhncejiahdcac.Field
open Go Go.RowKit
set_option linter.unusedVariables false

/-- mk.Mod at any modulus from 1 on. -/
theorem mod_some (n k : Int) (n0 : -9223372036854775808 ≤ n) (n1 : n ≤ 9223372036854775807) (k1 : 1 ≤ k) (k2 : k ≤ 9223372036854775807) (w : World) :
    Calls Try.prog 20 #[.int .i64 n, .int .i64 k] w fun e w' => ∃ r : Int, e = .returned (.int .i64 r) ∧ (-9223372036854775808 ≤ r ∧ r ≤ 9223372036854775807) ∧ w = w' := by
  have h1 := Int.tmod_lt_of_pos n (show (0 : Int) < k by omega)
  have h2 : -k < n.tmod k := Int.lt_tmod_of_pos n (by omega)
  have h3 : ∀ x : Int, -k < x.tmod k ∧ x.tmod k < k := fun x => ⟨Int.lt_tmod_of_pos x (by omega), Int.tmod_lt_of_pos x (by omega)⟩
  have H3 := Lib.hid h3
  clear h3
  go_enter Try.func20, Try.ntmps20
  go_wp2_with fail
  go_ret
  refine ⟨_, rfl, ?_, rfl⟩
  have := H3.out (wrap64 (n.tmod k + k))
  constructor <;> omega

/-- A contract, said of all worlds behind w0; a cell stays. -/
theorem lift {F : FuncId} {args : Array Value} {v x : Value} {w0 : World} {p : Addr} (h : ∀ W, Below w0.heap.size w0 W → Calls Try.prog F args W fun e w' => e = .returned v ∧ Below W.heap.size W w') (hp : p.block < w0.heap.size) (hc : w0.cell? p = some x) :
    ∀ W, Below w0.heap.size w0 W → Calls Try.prog F args W fun e w' => e = .returned v ∧ Below w0.heap.size w0 w' ∧ w'.cell? p = some x :=
  fun W hW => (h W hW).mono fun e w' ⟨he, hb⟩ => have hb' := hW.trans (hb.mono hW.size); ⟨he, hb', (hb'.cell hp).trans hc⟩
theorem two {w3 : World} {P r : Int} {t : TypeId} (hP : -9223372036854775808 ≤ P ∧ P ≤ 9223372036854775807) (hr : -9223372036854775808 ≤ r ∧ r ≤ 9223372036854775807) {i : Nat} (hi : i < 2) :
    ∃ Q : Int, (w3.alloc (.cells #[.int .i64 P, .int .i64 r] t)).cell? ⟨w3.heap.size, i, none⟩ = some (.int .i64 Q) ∧ (-9223372036854775808 ≤ Q ∧ Q ≤ 9223372036854775807) := by
  have : i = 0 ∨ i = 1 := by omega
  rcases this with rfl | rfl
  · exact ⟨P, by simp, hP⟩
  · exact ⟨r, by simp, hr⟩
/-- A new row behind w4, which lies behind wQ. -/
theorem next_base {w wQ w4 : World} {b : Nat} {x : Value} (o : Obj) (hb : Below w.heap.size w wQ) (hk : Below wQ.heap.size wQ w4) (hz : b < wQ.heap.size) (hc : wQ.cell? ⟨b, 0, none⟩ = some x) :
    ∃ wX : World, wX = w4.alloc o ∧ Below wQ.heap.size wQ wX ∧ Below w.heap.size w wX ∧ b < wX.heap.size ∧ wX.cell? ⟨b, 0, none⟩ = some x ∧ w4.heap.size < wX.heap.size := by
  have h1 := hk.alloc hk.size o
  exact ⟨_, rfl, h1, hb.trans (h1.mono hb.size), Nat.lt_of_lt_of_le hz h1.size, (h1.cell (p := ⟨b, 0, none⟩) hz).trans hc, by simp⟩
def LRel (n : Nat) (wL : World) (gk : Nat) (v : Value) (wr : World) : Prop := ∃ i : Nat, gk + i = n ∧ v = .int .i64 i ∧ Below wL.heap.size wL wr
theorem three {w3 : World} {P r p : Int} {t : TypeId} (hP : -9223372036854775808 ≤ P ∧ P ≤ 9223372036854775807) (hr : -9223372036854775808 ≤ r ∧ r ≤ 9223372036854775807) (hp : 2 ≤ p ∧ p ≤ 65521) {i : Nat} (hi : i < 3) :
    ∃ Q : Int, (w3.alloc (.cells #[.int .i64 P, .int .i64 r, .int .i64 p] t)).cell? ⟨w3.heap.size, i, none⟩ = some (.int .i64 Q) ∧ (-9223372036854775808 ≤ Q ∧ Q ≤ 9223372036854775807) := by
  have : i = 0 ∨ i = 1 ∨ i = 2 := by omega
  rcases this with rfl | rfl | rfl
  · exact ⟨P, by simp, hP⟩
  · exact ⟨r, by simp, hr⟩
  · exact ⟨p, by simp, by omega⟩

set_option maxRecDepth 100000 in
set_option maxHeartbeats 800000 in
theorem does_walk (w : World) (p1 : Option Addr) (len1 cap1 : Nat) (t : List Int) (hr : Rd w w.heap.size 1 (.slice p1 len1 cap1) len1 (t.map (Value.int .i64))) (ht : ∀ x ∈ t, -9223372036854775808 ≤ x ∧ x ≤ 9223372036854775807) (hbytes : len1 * 8 ≤ 140737488351232)
    (P : Int) (P0 : -9223372036854775808 ≤ P) (P1 : P ≤ 9223372036854775807)
    (a : Int) (a0 : -9223372036854775808 ≤ a) (a1 : a ≤ 9223372036854775807) (b : Int) (b0 : -9223372036854775808 ≤ b) (b1 : b ≤ 9223372036854775807) (n : Int) (n0 : -9223372036854775808 ≤ n) (n1 : n ≤ 9223372036854775807)
    (p2 : Option Addr) (len2 cap2 : Nat) (l : List Int) (hr2 : Rd w w.heap.size 1 (.slice p2 len2 cap2) len2 (l.map (Value.int .i64))) (hl : ∀ x ∈ l, -9223372036854775808 ≤ x ∧ x ≤ 9223372036854775807) (hbytes2 : len2 * 8 ≤ 140737488351232) :
    Calls Try.prog 6 #[.slice p1 len1 cap1, .agg #[.int .i64 P], .int .i64 a, .int .i64 b, .int .i64 n, .slice p2 len2 cap2] w (IsTrue w) := by
  have hbb := (Below.refl w.heap.size w).alloc (Nat.le_refl _) (.cells #[.int .i64 P] 27)
  by_cases hfew : len1 ≤ 500
  · by_cases hfew2 : len2 ≤ 300
    · have hq1 : decide ((300 : Int) < (len2 : Int)) = false := decide_eq_false (by omega)
      have HR := Lib.hid hr
      have HT := Lib.hid ht
      have HR2 := Lib.hid hr2
      have HL := Lib.hid hl
      have HBB := Lib.hid hbb
      clear hr ht hr2 hl hbb
      go_enter Try.func6, Try.ntmps6
      go_wp2_with fail
      refine (sane_any _).mono ?_
      rintro e w1 ⟨rfl, hb1⟩
      have hcP : w1.cell? ⟨w.heap.size, 0, none⟩ = some (.int .i64 P) := by rw [hb1.cell (p := ⟨w.heap.size, 0, none⟩) (by simp)]; simp
      have hz1 : w.heap.size < w1.heap.size := block_lt_of_cell hcP
      have HB1 := Lib.hid (HBB.out.trans (hb1.mono (by simp)))
      clear hb1
      go_wp2_with fail
      refine (Deck.few_yes _ len1 cap1 w1 hfew).mono ?_
      rintro e w1' ⟨rfl, rfl⟩
      have hmod : ∀ W : World, Calls Try.prog 20 #[.int .i64 P, .int .i64 70000] W fun e w' => ∃ r : Int, e = .returned (.int .i64 r) ∧ (-9223372036854775808 ≤ r ∧ r ≤ 9223372036854775807) ∧ W = w' := fun W => mod_some P 70000 P0 P1 (by omega) (by omega) W
      have HMOD := Lib.hid hmod
      have hnew : ∀ W : World, Below w1.heap.size w1 W → Calls Try.prog 11 #[.slice p1 len1 cap1] W fun e w' => ∃ D, e = .returned (.pointer (some ⟨D, 0, none⟩)) ∧ Deck.Deck w' w1.heap.size D ∧ Below w1.heap.size w1 w' ∧ w'.cell? ⟨w.heap.size, 0, none⟩ = some (.int .i64 P) :=
        fun W hW => (Deck.new_any p1 len1 cap1 t w1.heap.size W hW.size (((HR.out.below (HB1.out.trans (hW.mono HB1.out.size)) (Nat.le_refl _)).more HB1.out.size)) (by omega) HT.out).mono fun e w' ⟨D, he, hd, hD, hg⟩ =>
          have hb := hW.grown hg hW.size (by simp)
          ⟨D, he, hd, hb, (hb.cell (p := ⟨w.heap.size, 0, none⟩) hz1).trans hcP⟩
      have HNEW := Lib.hid hnew
      have hfld : ∀ (W : World) (D : Nat), Below w1.heap.size w1 W → Deck.Deck W w1.heap.size D → Calls Try.prog 12 #[.pointer (some ⟨D, 0, none⟩)] W fun e w' => ∃ p : Int, e = .returned (.agg #[.int .i64 p]) ∧ (2 ≤ p ∧ p ≤ 65521) ∧ Below w1.heap.size w1 w' ∧ w'.cell? ⟨w.heap.size, 0, none⟩ = some (.int .i64 P) :=
        fun W D hW hd => (Deck.field_any D w1.heap.size W hW.size hd).mono fun e w' ⟨p, he, hp, hd', hg⟩ =>
          have hb := hW.grown hg hW.size (fun k hk => by injection hk with hk; obtain ⟨_, _, _, _, _, h, _⟩ := hd'; omega)
          ⟨p, he, by omega, hb, (hb.cell (p := ⟨w.heap.size, 0, none⟩) hz1).trans hcP⟩
      have HFLD := Lib.hid hfld
      clear hmod hnew hfld
      go_wp2_with fail
      go_region_held3 (fun w2 => Below w1.heap.size w1 w2 ∧ w2.cell? ⟨w.heap.size, 0, none⟩ = some (.int .i64 P)) (first | exact ⟨(Below.refl _ _).drew, hcP⟩ | (refine ⟨?_, ?_⟩ <;> assumption) | exact ⟨hb5.alloc hb5.size _, ((hb5.alloc hb5.size _).cell (p := ⟨w.heap.size, 0, none⟩) hz1).trans hcP⟩)
        (first | (go_at_call 20; refine (HMOD.out _).mono ?_; rintro e w' ⟨r, rfl, hr, rfl⟩) | (go_at_call 11; refine (HNEW.out _ (by first | assumption | exact (Below.refl _ _).drew)).mono ?_; rintro e w2 ⟨D, rfl, hd, hb4, hc4⟩) | (go_at_call 12; refine (HFLD.out _ _ (by assumption) (by assumption)).mono ?_; rintro e w3 ⟨p, rfl, hp, hb5, hc5⟩))
      have hS3 : Below w1.heap.size w1 (w3.alloc (.cells #[.int .i64 P, .int .i64 r, .int .i64 p] 27)) := hb5.alloc hb5.size _
      have H3 := Lib.hid (fun i (h : i < 3) => three (w3 := w3) (t := 27) ⟨P0, P1⟩ hr hp h)
      obtain ⟨wL, hwL⟩ : ∃ wL : World, wL = w3.alloc (.cells #[.int .i64 P, .int .i64 r, .int .i64 p] 27) := ⟨_, rfl⟩
      rw [← hwL] at hS3 H3 ⊢
      have hzL : w3.heap.size < wL.heap.size := by rw [hwL]; simp
      have HS3 := Lib.hid (HB1.out.trans (hS3.mono HB1.out.size))
      clear hS3 hwL hb5 hc5 hp hr hcP
      clear HMOD HNEW HFLD
      go_wp2_with fail
      go_loopg [66] 3 (fun gk v wr => LRel 3 wL gk v wr)
      case atStart => exact ⟨0, rfl, rfl, Below.refl _ _⟩
      case round =>
        obtain ⟨g1, hg1⟩ : ∃ g, g = gk := ⟨_, rfl⟩
        obtain ⟨wo, hwo⟩ : ∃ wo, wo = wr := ⟨_, rfl⟩
        subst hg1 hwo
        obtain ⟨i, hg, rfl, hbr⟩ := hrel
        by_cases hlt : i < 3
        · obtain ⟨Q, hcQ, hQ⟩ := H3.out i hlt
          rw [← hbr.cell (p := ⟨w3.heap.size, i, none⟩) hzL] at hcQ
          obtain ⟨Q0, Q1⟩ := hQ
          have hbo := HS3.out.trans (hbr.mono HS3.out.size)
          have hbL : Below wL.heap.size wL (wo.alloc (.cells #[.int .i64 Q] 27)) := hbr.alloc hbr.size _
          clear hbr
          go_wp2_with fail
          obtain ⟨wQ, hwQ⟩ : ∃ wQ : World, wQ = wo.alloc (.cells #[.int .i64 Q] 27) := ⟨_, rfl⟩
          rw [← hwQ]
          have hbQ : Below w.heap.size w wQ := by rw [hwQ]; exact hbo.alloc hbo.size _
          rw [← hwQ] at hbL
          have HBL := Lib.hid hbL
          clear hbL
          have hzQ : wo.heap.size < wQ.heap.size := by rw [hwQ]; simp
          have hcQ : wQ.cell? ⟨wo.heap.size, 0, none⟩ = some (.int .i64 Q) := by rw [hwQ]; simp
          have HWQ := Lib.hid hwQ
          clear hwQ hbo
          have hrd : ∀ W, Below wQ.heap.size wQ W → Rd W w.heap.size 1 (.slice p2 len2 cap2) len2 (l.map (Value.int .i64)) := fun W hW => HR2.out.below (hbQ.trans (hW.mono hbQ.size)) (Nat.le_refl _)
          have hlen : l.length = len2 := by have := HR2.out.1; simpa using this
          have h1 := lift (w0 := wQ) (fun W _ => fCheck_any Q W) hzQ hcQ
          have h2 := lift (w0 := wQ) (fun W _ => rCheck_any Q W) hzQ hcQ
          have h3 := lift (w0 := wQ) (fun W hW => fIn_any Q l p2 cap2 w.heap.size W (by rw [hlen]; exact hrd W hW) (by omega) (Nat.le_trans hbQ.size hW.size)) hzQ hcQ
          have h4 := lift (w0 := wQ) (fun W hW => rIn_any Q l p2 cap2 w.heap.size W (by rw [hlen]; exact hrd W hW) (by omega) (Nat.le_trans hbQ.size hW.size)) hzQ hcQ
          rw [hlen] at h3 h4
          have H1 := Lib.hid h1
          have H2 := Lib.hid h2
          have H3 := Lib.hid h3
          have H4 := Lib.hid h4
          have HBQ := Lib.hid hbQ
          clear h1 h2 h3 h4 hrd hbQ hlen
          go_region_held3 (fun w2 => Below wQ.heap.size wQ w2 ∧ w2.cell? ⟨wo.heap.size, 0, none⟩ = some (.int .i64 Q)) (first | exact ⟨(Below.refl _ _).drew, hcQ⟩ | (refine ⟨?_, ?_⟩ <;> assumption))
            (first | (go_at_call 9; refine (H1.out _ (by first | assumption | exact (Below.refl _ _).drew)).mono ?_; rintro e w4 ⟨rfl, hb4, hc4⟩) | (go_at_call 21; refine (H2.out _ (by first | assumption | exact (Below.refl _ _).drew)).mono ?_; rintro e w4 ⟨rfl, hb4, hc4⟩) | (go_at_call 22; refine (H3.out _ (by first | assumption | exact (Below.refl _ _).drew)).mono ?_; rintro e w4 ⟨rfl, hb4, hc4⟩) | (go_at_call 23; refine (H4.out _ (by first | assumption | exact (Below.refl _ _).drew)).mono ?_; rintro e w4 ⟨rfl, hb4, hc4⟩))
          obtain ⟨m, hite, hm1, hm2⟩ : ∃ m : Int, (if Q < 1 then (1 : Int) else Q) = m ∧ 1 ≤ m ∧ m ≤ 9223372036854775807 := ⟨_, rfl, by split <;> omega, by split <;> omega⟩
          go_wp2_with fail
          clear hite
          have hadd := fun x y W => fAdd_any Q x y W
          have hsub := fun x y W => fSub_any Q x y W
          have hmul := fun x y W => fMul_any Q x y W
          have hinv := fun x W => fInverse_any Q x W
          have hpow := fun x y W h1 h2 => fPower_any Q x y W h1 h2
          have hred := fun W => fReduce_any Q n W n0 n1
          have radd := fun x y W => rAdd_any Q x y W
          have rsub := fun x y W => rSub_any Q x y W
          have rmul := fun x y W => rMul_any Q x y W
          have rinv := fun x W => rInverse_any Q x W
          have rpow := fun x y W h1 h2 => rPower_any Q x y W h1 h2
          have rred := fun W => rReduce_any Q n W n0 n1
          have HADD := Lib.hid hadd
          have HSUB := Lib.hid hsub
          have HMUL := Lib.hid hmul
          have HINV := Lib.hid hinv
          have HPOW := Lib.hid hpow
          have HRED := Lib.hid hred
          have RADD := Lib.hid radd
          have RSUB := Lib.hid rsub
          have RMUL := Lib.hid rmul
          have RINV := Lib.hid rinv
          have RPOW := Lib.hid rpow
          have RRED := Lib.hid rred
          clear hadd hsub hmul hinv hpow hred radd rsub rmul rinv rpow rred H1 H2 H3 H4
          have hma := fun W => mod_some a m a0 a1 hm1 hm2 W
          have hmb := fun W => mod_some b m b0 b1 hm1 hm2 W
          have hmn := fun W => Deck.mod_any n 50 n0 n1 (by omega) (by omega) W
          have hr0 := Int.emod_nonneg n (show (50 : Int) ≠ 0 by omega)
          have hr1 := Int.emod_lt_of_pos n (show (0 : Int) < 50 by omega)
          generalize n % 50 = r50 at hmn hr0 hr1
          have HMA := Lib.hid hma
          have HMB := Lib.hid hmb
          have HMN := Lib.hid hmn
          clear hma hmb hmn
          refine (HMA.out _).mono ?_
          rintro e w5 ⟨x2, rfl, hx2, rfl⟩
          obtain ⟨wX, hwX, hQX, hbX, hzX, hcX, hsX⟩ := next_base (.cells #[.int .i64 a, .int .i64 x2] 3) HBQ.out hb4 hzQ hcQ
          have T2 := Lib.hid (fun i (h : i < 2) => two (w3 := w4) (t := 3) ⟨a0, a1⟩ hx2 h)
          rw [← hwX] at T2
          have HQX := Lib.hid hQX
          have HBX := Lib.hid hbX
          clear hQX hbX hx2
          go_wp2_with fail
          rw [← hwX]
          have HWX := Lib.hid hwX
          clear hwX hb4 hc4
          go_loopg [93] 2 (fun gk v wr => LRel 2 wX gk v wr)
          case atStart => exact ⟨0, rfl, rfl, Below.refl _ _⟩
          case round =>
            obtain ⟨g2, hg2⟩ : ∃ g, g = gk := ⟨_, rfl⟩
            obtain ⟨wp, hwp⟩ : ∃ wp, wp = wr := ⟨_, rfl⟩
            subst hg2 hwp
            obtain ⟨j, hgj, rfl, hbp⟩ := hrel
            have hcp : wp.cell? ⟨wo.heap.size, 0, none⟩ = some (.int .i64 Q) := (hbp.cell (p := ⟨wo.heap.size, 0, none⟩) hzX).trans hcX
            by_cases hltj : j < 2
            · obtain ⟨x, hcx, hx⟩ := T2.out j hltj
              rw [← hbp.cell (p := ⟨w4.heap.size, j, none⟩) hsX] at hcx
              obtain ⟨x0, x1⟩ := hx
              go_wp2_with fail
              refine (HMB.out _).mono ?_
              rintro e w5 ⟨x3, rfl, hx3, rfl⟩
              obtain ⟨wY, hwY, hXY, hbY, hzY, hcY, hsY⟩ := next_base (.cells #[.int .i64 b, .int .i64 x3] 3) HBX.out hbp hzX hcX
              have T3 := Lib.hid (fun i (h : i < 2) => two (w3 := wp) (t := 3) ⟨b0, b1⟩ hx3 h)
              rw [← hwY] at T3
              have HXY := Lib.hid hXY
              have HBY := Lib.hid hbY
              clear hXY hbY hx3
              go_wp2_with fail
              rw [← hwY]
              have HWY := Lib.hid hwY
              clear hwY hbp hcp hcx
              go_loopg [103] 2 (fun gk v wr => LRel 2 wY gk v wr)
              case atStart => exact ⟨0, rfl, rfl, Below.refl _ _⟩
              case round =>
                obtain ⟨k, hgk, rfl, hbq⟩ := hrel
                have hcq : wr.cell? ⟨wo.heap.size, 0, none⟩ = some (.int .i64 Q) := (hbq.cell (p := ⟨wo.heap.size, 0, none⟩) hzY).trans hcY
                by_cases hltk : k < 2
                · obtain ⟨y, hcy, hy⟩ := T3.out k hltk
                  rw [← hbq.cell (p := ⟨wp.heap.size, k, none⟩) hsY] at hcy
                  clear hy
                  go_wp2_with (first | (go_at_call 17; refine (lift (w0 := wY) (fun W _ => HADD.out x y W) hzY hcY _ (by assumption)).mono ?_; rintro e w4 ⟨rfl, hb4, hc4⟩) | (go_at_call 24; refine (lift (w0 := wY) (fun W _ => RADD.out x y W) hzY hcY _ (by assumption)).mono ?_; rintro e w4 ⟨rfl, hb4, hc4⟩) | (go_at_call 18; refine (lift (w0 := wY) (fun W _ => HSUB.out x y W) hzY hcY _ (by assumption)).mono ?_; rintro e w4 ⟨rfl, hb4, hc4⟩) | (go_at_call 25; refine (lift (w0 := wY) (fun W _ => RSUB.out x y W) hzY hcY _ (by assumption)).mono ?_; rintro e w4 ⟨rfl, hb4, hc4⟩) | (go_at_call 15; refine (lift (w0 := wY) (fun W _ => HMUL.out x y W) hzY hcY _ (by assumption)).mono ?_; rintro e w4 ⟨rfl, hb4, hc4⟩) | (go_at_call 26; refine (lift (w0 := wY) (fun W _ => RMUL.out x y W) hzY hcY _ (by assumption)).mono ?_; rintro e w4 ⟨rfl, hb4, hc4⟩))
                  have hb5 : Below wY.heap.size wY w4 := by assumption
                  go_roundg (gk - 1)
                  case measure => omega
                  case rel => exact ⟨k + 1, by omega, by go_num, hb5⟩
                · skip
                  go_wp2_with (first | (go_at_call 19; refine (lift (w0 := wY) (fun W _ => HINV.out x W) hzY hcY _ (by assumption)).mono ?_; rintro e w4 ⟨rfl, hb4, hc4⟩) | (go_at_call 27; refine (lift (w0 := wY) (fun W _ => RINV.out x W) hzY hcY _ (by assumption)).mono ?_; rintro e w4 ⟨rfl, hb4, hc4⟩))
                  refine (HMN.out _).mono ?_
                  rintro e w5 ⟨rfl, rfl⟩
                  have hb5 : Below wY.heap.size wY w4 := by assumption
                  obtain ⟨wZ, hwZ, hYZ, hbZ, hzZ, hcZ, hsZ⟩ := next_base (.cells #[.int .i64 n, .int .i64 (r50 - 25)] 3) HBY.out hb5 hzY hcY
                  have T4 := Lib.hid (fun i (h : i < 2) => two (w3 := w4) (t := 3) ⟨n0, n1⟩ (show -9223372036854775808 ≤ r50 - 25 ∧ r50 - 25 ≤ 9223372036854775807 by omega) h)
                  rw [← hwZ] at T4
                  have HYZ := Lib.hid hYZ
                  have HBZ := Lib.hid hbZ
                  clear hYZ hbZ hbq hcq
                  go_wp2_with fail
                  rw [← hwZ]
                  have HWZ := Lib.hid hwZ
                  clear hwZ hb4 hc4 hb5
                  go_loopg [204] 2 (fun gk v wr => LRel 2 wZ gk v wr)
                  case atStart => exact ⟨0, rfl, rfl, Below.refl _ _⟩
                  case round =>
                    obtain ⟨h, hgh, rfl, hbh⟩ := hrel
                    have hch : wr.cell? ⟨wo.heap.size, 0, none⟩ = some (.int .i64 Q) := (hbh.cell (p := ⟨wo.heap.size, 0, none⟩) hzZ).trans hcZ
                    by_cases hlth : h < 2
                    · obtain ⟨y, hcy, hy⟩ := T4.out h hlth
                      rw [← hbh.cell (p := ⟨w4.heap.size, h, none⟩) hsZ] at hcy
                      obtain ⟨y0, y1⟩ := hy
                      go_wp2_with (first | (go_at_call 14; refine (lift (w0 := wZ) (fun W _ => HPOW.out x y W y0 y1) hzZ hcZ _ (by assumption)).mono ?_; rintro e w4 ⟨rfl, hb4, hc4⟩) | (go_at_call 28; refine (lift (w0 := wZ) (fun W _ => RPOW.out x y W y0 y1) hzZ hcZ _ (by assumption)).mono ?_; rintro e w4 ⟨rfl, hb4, hc4⟩))
                      go_roundg (gk - 1)
                      case measure => omega
                      case rel => exact ⟨h + 1, by omega, by go_num, by assumption⟩
                    · go_wp2_with fail
                      have hb6 := HXY.out.trans ((HYZ.out.trans (hbh.mono HYZ.out.size)).mono HXY.out.size)
                      go_roundg (g2 - 1)
                      case measure => omega
                      case rel => exact ⟨j + 1, by omega, by go_num, hb6⟩
            · skip
              go_wp2_with (first | (go_at_call 29; refine (lift (w0 := wX) (fun W _ => HRED.out W) hzX hcX _ (by assumption)).mono ?_; rintro e w4 ⟨rfl, hb4, hc4⟩) | (go_at_call 30; refine (lift (w0 := wX) (fun W _ => RRED.out W) hzX hcX _ (by assumption)).mono ?_; rintro e w4 ⟨rfl, hb4, hc4⟩))
              have hb5 : Below wX.heap.size wX w4 := by assumption
              have hb6 := HQX.out.trans (hb5.mono HQX.out.size)
              have hb7 := HBL.out.trans (hb6.mono HBL.out.size)
              clear hbp
              go_roundg (g1 - 1)
              case measure => omega
              case rel => exact ⟨i + 1, by omega, by go_num, hb7⟩
        · go_wp2_with fail
          go_ret
          obtain rfl : i = 3 := by omega
          exact ⟨rfl, HS3.out.trans (hbr.mono HS3.out.size)⟩
    · have hq1 : decide ((300 : Int) < (len2 : Int)) = true := decide_eq_true (by omega)
      have HBB := Lib.hid hbb
      clear hr ht hr2 hl hbb
      go_enter Try.func6, Try.ntmps6
      go_wp2_with fail
      refine (sane_any _).mono ?_
      rintro e w1 ⟨rfl, hb1⟩
      have HB1 := Lib.hid (HBB.out.trans (hb1.mono (by simp)))
      clear hb1
      go_wp2_with fail
      refine (Deck.few_yes _ len1 cap1 w1 hfew).mono ?_
      rintro e w1' ⟨rfl, rfl⟩
      go_wp2_with fail
      go_ret
      exact ⟨rfl, HB1.out⟩
  · have HBB := Lib.hid hbb
    clear hr ht hr2 hl hbb
    go_enter Try.func6, Try.ntmps6
    go_wp2_with fail
    refine (sane_any _).mono ?_
    rintro e w1 ⟨rfl, hb1⟩
    have HB1 := Lib.hid (HBB.out.trans (hb1.mono (by simp)))
    clear hb1
    go_wp2_with fail
    refine (Deck.few_no _ len1 cap1 w1 hfew).mono ?_
    rintro e w1' ⟨rfl, rfl⟩
    go_wp2_with fail
    go_ret
    exact ⟨rfl, HB1.out⟩
end Go.Proofs.Ytihhncejiahdcac.Field
