/- WireTexts, walked: it returns true at every input. -/
import Derived.Test.YtihhncejiahdcaaWireSane
import Derived.Test.YtihhncejiahdcaaWireIntsW
import Derived.Test.YtihhncejiahdcaaWireGets
import Derived.Test.YtihhncejiahdcaaWireSame
namespace Go.Proofs.Ytihhncejiahdcaa.Wire
open Go Go.RowKit
set_option linter.unusedVariables false
attribute [local go_sem] extract_list ByteArray.mk_append_mk

theorem putL_len {l : List Int} (h : Int64 l) (hl : l.length ≤ 2 ^ 40) : (putL l).length ≤ 10 + 10 * l.length ∧ 1 ≤ (putL l).length := by
  have h1 := putB_len (n := (l.length : Int)) (by omega) (by omega)
  have h2 := flat_len h
  unfold putL
  rw [List.length_append]
  omega

set_option maxRecDepth 100000 in
theorem texts_big (s : List UInt8) (hs : s.length ≤ 140737488351232) (t : List UInt8) (ht : t.length ≤ 140737488351232) (a : Option Addr) (c : Nat) (l : List Int) (bl : l.length * 8 ≤ 140737488351232)
    (at_ most cut : Int) (w : World) (h : 4000 < s.length + t.length ∨ 400 < l.length) :
    Calls Try.prog 5 #[.string ⟨s.toArray⟩, .string ⟨t.toArray⟩, .slice a l.length c, .int .i64 at_, .int .i64 most, .int .u8 cut] w (IsTrue w) := by
  by_cases h1 : 4000 < s.length + t.length
  · have hd : decide ((4000 : Int) < (s.length : Int) + (t.length : Int)) = true := by simp; omega
    go_enter Try.func5, Try.ntmps5
    go_wp2_with fail
    refine (sane_any _).mono ?_
    rintro e w1 ⟨rfl, hb1⟩
    go_wp2_with fail
    go_ret
    exact ⟨rfl, hb1⟩
  · have hd : decide ((4000 : Int) < (s.length : Int) + (t.length : Int)) = false := by simp; omega
    have hd2 : decide ((400 : Int) < (l.length : Int)) = true := by simp; omega
    go_enter Try.func5, Try.ntmps5
    go_wp2_with fail
    refine (sane_any _).mono ?_
    rintro e w1 ⟨rfl, hb1⟩
    go_wp2_with fail
    go_ret
    exact ⟨rfl, hb1⟩

theorem eqI_self (l : List Int) : eqI l l = true := by unfold eqI; simp
theorem rdL_len : ∀ (n : Nat) (s : List UInt8) (a : Int) (acc : List Int), (acc.length : Int) ≤ a → acc.length ≤ s.length → (rdL n s a acc).1.length ≤ s.length
  | 0, s, a, acc, h, h2 => by rw [rdL]; exact h2
  | n + 1, s, a, acc, h, h2 => by
    rw [rdL]
    by_cases he : (getI s a).2.2 = 0
    · rw [if_neg (by simpa using he)]
      obtain ⟨n1, j1, rfl, hk1, hj1, hle1, _⟩ := getI_ok he
      exact rdL_len n s _ _ (by rw [hk1, List.length_append, List.length_singleton]; omega) (by rw [List.length_append, List.length_singleton]; omega)
    · rw [if_pos he]; exact Nat.zero_le _
theorem getL_len {s : List UInt8} {a most : Int} (hs : s.length ≤ 1099511627776) : (getL s a most).1.length ≤ 4611686018427387904 := by
  unfold getL
  by_cases he : (getC s a most).2.2 = 0
  · rw [if_neg (by simpa using he)]
    obtain ⟨h1, h2, h3, h4⟩ := getC_ok he
    obtain ⟨n, j, rfl, hk, hj, hle, _⟩ := getI_ok h4
    rw [h1]
    have := rdL_len (getI s n).1.toNat s (getI s n).2.1 [] (by rw [hk]; simp; omega) (Nat.zero_le _)
    omega
  · rw [if_pos he]; exact Nat.zero_le _
/-- A row of strings, each of at most M bytes. -/
def StrRowM (W : World) (B n M : Nat) : Prop := ∀ k, k < n → ∃ l : List UInt8, l.length ≤ M ∧ W.cell? ⟨B, k, none⟩ = some (.string ⟨l.toArray⟩)
theorem strRowM_of (X : World) (t : TypeId) (ls : List (List UInt8)) (M : Nat) (h : ∀ l ∈ ls, l.length ≤ M) : StrRowM (X.alloc (.cells (ls.map fun l => Value.string ⟨l.toArray⟩).toArray t)) X.heap.size ls.length M := by
  intro k hk
  refine ⟨ls[k], h _ (List.getElem_mem _), ?_⟩
  rw [World.cell?_alloc_new]
  simp [hk]
theorem intRow2 (X : World) (t : TypeId) (a b : Int) : IntRow (X.alloc (.cells #[.int .i64 a, .int .i64 b] t)) X.heap.size 2 := by
  intro k hk
  have e : k = 0 ∨ k = 1 := by omega
  rcases e with rfl | rfl
  · exact ⟨a, by rw [World.cell?_alloc_new]; rfl⟩
  · exact ⟨b, by rw [World.cell?_alloc_new]; rfl⟩

set_option maxRecDepth 100000 in
set_option maxHeartbeats 2000000 in
theorem texts_small (s : List UInt8) (t : List UInt8) (a : Option Addr) (c : Nat) (l : List Int) (hl : Int64 l)
    (at_ : Int) (most : Int) (m0 : -9223372036854775808 ≤ most) (m1 : most ≤ 9223372036854775807) (cut : Int) (c0 : 0 ≤ cut) (c1 : cut ≤ 255) (w : World) (h1 : s.length + t.length ≤ 4000) (h2 : l.length ≤ 400) (hr : Rd w w.heap.size 1 (.slice a l.length c) l.length (l.map (Value.int .i64))) :
    Calls Try.prog 5 #[.string ⟨s.toArray⟩, .string ⟨t.toArray⟩, .slice a l.length c, .int .i64 at_, .int .i64 most, .int .u8 cut] w (IsTrue w) := by
  have hd : decide ((4000 : Int) < (s.length : Int) + (t.length : Int)) = false := by simp; omega
  have hd2 : decide ((400 : Int) < (l.length : Int)) = false := by simp; omega
  have LT := putB_len (n := (t.length : Int)) (by omega) (by omega)
  have LL := putL_len hl (by omega)
  have LM := putB_len m0 m1
  go_enter Try.func5, Try.ntmps5
  go_wp2_with fail
  refine (sane_any _).mono ?_
  rintro e w1 ⟨rfl, hb1⟩
  go_wp2_with fail
  refine (wPutText_any s t w1 (by omega)).mono ?_
  rintro e w2 ⟨rfl, hb2⟩
  go_wp2_with fail
  refine (rPutText_any s t w2 (by omega)).mono ?_
  rintro e w3 ⟨rfl, hb3⟩
  have hb3' := hb1.trans ((hb2.mono hb1.size).trans (hb3.mono (Nat.le_trans hb1.size hb2.size)))
  go_wp2_with fail
  refine (wPutList_any s l a c w.heap.size w3 hl (hr.below hb3' (Nat.le_refl _)) hb3'.size (by omega)).mono ?_
  rintro e w4 ⟨rfl, hb4⟩
  have hb4' := hb3'.trans (hb4.mono hb3'.size)
  clear hb1 hb2 hb3 hb4
  go_wp2_with fail
  refine (rPutList_any s l a c w.heap.size w4 hl (hr.below hb4' (Nat.le_refl _)) hb4'.size (by omega)).mono ?_
  rintro e w5 ⟨rfl, hb5⟩
  have hb5' := hb4'.trans (hb5.mono hb4'.size)
  go_wp2_with fail
  refine (rPutText_any [] t w5 (by simp; omega)).mono ?_
  rintro e w6 ⟨rfl, hb6⟩
  have hb6' := hb5'.trans (hb6.mono hb5'.size)
  go_wp2_with fail
  refine (rPutList_any [] l a c w.heap.size w6 hl (hr.below hb6' (Nat.le_refl _)) hb6'.size (by simp; omega)).mono ?_
  rintro e w7 ⟨rfl, hb7⟩
  have hb7' := hb6'.trans (hb7.mono hb6'.size)
  clear hb5 hb5' hb6 hb6' hb7 hb3' hb4'
  have la : (putB (t.length : Int) ++ t).length = (putB (t.length : Int)).length + t.length := by simp
  simp only [List.nil_append]
  generalize putB (t.length : Int) ++ t = ta at *
  generalize putL l = lb at *
  have hla1 : 1 ≤ ta.length := by omega
  have hla2 : ta.length ≤ 5000 := by omega
  have hlb2 : lb.length ≤ 5000 := by omega
  obtain ⟨q1, ht1, hq1⟩ : ∃ q : Nat, cut.tmod (ta.length : Int) = q ∧ q < ta.length := by
    rw [Int.tmod_eq_emod_of_nonneg c0]
    exact ⟨(cut % (ta.length : Int)).toNat, by have := Int.emod_nonneg cut (b := (ta.length : Int)) (by omega); omega, by have := Int.emod_lt_of_pos cut (b := (ta.length : Int)) (by omega); have := Int.emod_nonneg cut (b := (ta.length : Int)) (by omega); omega⟩
  obtain ⟨q2, ht2, hq2⟩ : ∃ q : Nat, cut.tmod (lb.length : Int) = q ∧ q < lb.length := by
    rw [Int.tmod_eq_emod_of_nonneg c0]
    exact ⟨(cut % (lb.length : Int)).toNat, by have := Int.emod_nonneg cut (b := (lb.length : Int)) (by omega); omega, by have := Int.emod_lt_of_pos cut (b := (lb.length : Int)) (by omega); have := Int.emod_nonneg cut (b := (lb.length : Int)) (by omega); omega⟩
  have hmm1 : cut % (ta.length : Int) = q1 := by rw [← ht1, Int.tmod_eq_emod_of_nonneg c0]
  have hmm2 : cut % (lb.length : Int) = q2 := by rw [← ht2, Int.tmod_eq_emod_of_nonneg c0]
  have hq1n : q1 ≤ ta.length := by omega
  have hq2n : q2 ≤ lb.length := by omega
  have hz1 : ¬ ta = [] := fun h => by rw [h] at hla1; simp at hla1
  have hz2 : ¬ lb = [] := fun h => by rw [h] at LL; simp at LL
  have hs3 : ¬ 9223372036854775807 < ta.length + s.length := by omega
  have hs4 : ¬ 9223372036854775807 < lb.length + s.length := by omega
  have hs5 : ¬ 9223372036854775807 < (putB most).length + t.length := by omega
  have HLA := Lib.hid la
  clear la
  go_wp2_with fail
  have hcw : IntKind.i64.wrap cut = cut := IntWalk.i64_in _ (by omega)
  have hw1 : IntKind.i64.wrap (q1 : Int) = q1 := IntWalk.i64_in _ (by omega)
  have hw2 : IntKind.i64.wrap (q2 : Int) = q2 := IntWalk.i64_in _ (by omega)
  go_region_held3 (fun w' => Below w7.heap.size w7 w') (first | exact (Below.refl _ _).drew | exact Below.trans (by assumption) hb8 | exact Below.alloc (by assumption) (Below.size (by assumption)) _ | assumption) (first | (go_at_call 10; refine (rPutInt_any [] _ _ m0 m1 (by simp)).mono ?_; rintro e w8 ⟨rfl, hb8'⟩; have hb8 := hb8'.mono (Below.size (by assumption))))
  generalize hW5 : World.alloc w8 _ = W5 at *
  have hS : Below w7.heap.size w7 W5 := by assumption
  have hrow : StrRowM W5 w8.heap.size 8 1099511627776 := by
    rw [← hW5]
    exact strRowM_of w8 _ [_, _, _, _, _, _, _, _] _ (by simp; omega)
  have hbW : Below w.heap.size w W5 := hb7'.trans (hS.mono hb7'.size)
  have hzW : w8.heap.size < W5.heap.size := by rw [← hW5]; simp
  clear hW5
  go_wp2_with fail
  go_loopg [91] 8 (fun gk i wr => ORel W5 8 gk i wr)
  case atStart => exact ⟨0, rfl, rfl, Below.refl _ _⟩
  case round =>
    obtain ⟨wo, rfl⟩ : ∃ wo : World, wo = wr := ⟨_, rfl⟩
    obtain ⟨gko, rfl⟩ : ∃ x : Nat, x = gk := ⟨_, rfl⟩
    obtain ⟨k, hgk, rfl, hbo⟩ := hrel
    have hzo := hbo.size
    by_cases hlt : k < 8
    · obtain ⟨v, hv, hc⟩ := hrow k hlt
      have hc' : wo.cell? ⟨w8.heap.size, k, none⟩ = some (.string ⟨v.toArray⟩) := (hbo.cell (p := ⟨w8.heap.size, k, none⟩) hzW).trans hc
      have hd8 : decide ((k : Int) < 8) = true := by simp; omega
      go_wp2_with fail
      generalize hwq : World.alloc wo _ = wq
      have hrow2 : IntRow wq wo.heap.size 2 := by rw [← hwq]; exact intRow2 _ _ _ _
      have hbq : Below W5.heap.size W5 wq := by rw [← hwq]; exact hbo.alloc hzo _
      have hzq : wo.heap.size < wq.heap.size := by rw [← hwq]; simp
      clear hwq
      go_loopg [98] 2 (fun gk i wi => ORel wq 2 gk i wi)
      case atStart => exact ⟨0, rfl, rfl, Below.refl _ _⟩
      case round =>
        obtain ⟨wi, rfl⟩ : ∃ wi : World, wi = wr := ⟨_, rfl⟩
        obtain ⟨gki, rfl⟩ : ∃ x : Nat, x = gk := ⟨_, rfl⟩
        obtain ⟨k2, hgk2, rfl, hbi⟩ := hrel
        have hzi := hbi.size
        by_cases hlt2 : k2 < 2
        · obtain ⟨x, hx⟩ := hrow2 k2 hlt2
          have hx' : wi.cell? ⟨wo.heap.size, k2, none⟩ = some (.int .i64 x) := (hbi.cell (p := ⟨wo.heap.size, k2, none⟩) hzq).trans hx
          have hd2' : decide ((k2 : Int) < 2) = true := by simp; omega
          go_wp2_with fail
          generalize hwp : World.alloc wi _ = wp
          have hrow4 : IntRow wp wi.heap.size 4 := by rw [← hwp]; exact intRow4 _ _ _ _ _ _
          have hbp : Below wq.heap.size wq wp := by rw [← hwp]; exact hbi.alloc hzi _
          have hzp : wi.heap.size < wp.heap.size := by rw [← hwp]; simp
          clear hwp
          go_loopg [109] 4 (fun gk i wj => ORel wp 4 gk i wj)
          case atStart => exact ⟨0, rfl, rfl, Below.refl _ _⟩
          case round =>
            obtain ⟨wj, rfl⟩ : ∃ wj : World, wj = wr := ⟨_, rfl⟩
            obtain ⟨k3, hgk3, rfl, hbj⟩ := hrel
            have hzj := hbj.size
            by_cases hlt3 : k3 < 4
            · obtain ⟨y, hy⟩ := hrow4 k3 hlt3
              have hy' : wj.cell? ⟨wi.heap.size, k3, none⟩ = some (.int .i64 y) := (hbj.cell (p := ⟨wi.heap.size, k3, none⟩) hzp).trans hy
              have hT := wText_any v x y wj (by omega)
              have hT' := rText_any v x y wj (by omega)
              have hL := wList_any v x y wj (by omega)
              unfold PostT at hT hT'
              unfold PostL at hL
              have hlm : (getL v x y).1.length ≤ 4611686018427387904 := getL_len hv
              have hL' := fun W => rList_any v x y W (by omega)
              unfold PostL at hL'
              generalize getT v x y = rt at *
              generalize getL v x y = rl at *
              have HT := Lib.hid hT
              have HT' := Lib.hid hT'
              have HL := Lib.hid hL
              have HL' := Lib.hid hL'
              clear hT hT' hL hL' hc hx hy
              go_wp2_with fail
              refine (HT.out).mono ?_
              rintro e w6 ⟨rfl, rfl⟩
              go_wp2_with fail
              refine (HT'.out).mono ?_
              rintro e w6 ⟨rfl, rfl⟩
              go_wp2_with fail
              refine (HL.out).mono ?_
              rintro e wl ⟨ad1, c1, rfl, ho1, hbl⟩
              go_wp2_with fail
              refine (HL'.out _).mono ?_
              rintro e wm ⟨ad2, c2, rfl, ho2, hbm⟩
              go_wp2_with fail
              refine (same01_any rl.1 rl.1 ad1 ad2 c1 c2 wl.heap.size wm.heap.size wm (ho1.rd.below hbm (Nat.le_refl _)) ho2.rd hbm.size (Nat.le_refl _) hlm hlm).mono ?_
              rw [eqI_self]
              rintro e wn ⟨rfl, hbn⟩
              go_wp2_with fail
              go_roundg (gk - 1)
              case measure => omega
              case rel => exact ⟨k3 + 1, by omega, by go_num, hbj.trans ((hbl.mono hzj).trans ((hbm.mono (Nat.le_trans hzj hbl.size)).trans (hbn.mono (Nat.le_trans hzj (Nat.le_trans hbl.size hbm.size)))))⟩
            · go_wp2_with fail
              go_roundg (gki - 1)
              case measure => omega
              case rel => exact ⟨k2 + 1, by omega, by go_num, hbp.trans (hbj.mono hbp.size)⟩
        · go_wp2_with fail
          go_roundg (gko - 1)
          case measure => omega
          case rel => exact ⟨k + 1, by omega, by go_num, hbq.trans (hbi.mono hbq.size)⟩
    · go_wp2_with fail
      go_ret
      exact ⟨rfl, hbW.trans (hbo.mono hbW.size)⟩
theorem texts_walk (w : World) (s : List UInt8) (hs : s.length ≤ 140737488351232) (t : List UInt8) (ht : t.length ≤ 140737488351232) (a : Option Addr) (n c : Nat) (l : List Int) (hr : Rd w w.heap.size 1 (.slice a n c) n (l.map (Value.int .i64))) (hl : ∀ x ∈ l, -9223372036854775808 ≤ x ∧ x ≤ 9223372036854775807) (bl : n * 8 ≤ 140737488351232)
    (at_ : Int) (_ : -9223372036854775808 ≤ at_) (_ : at_ ≤ 9223372036854775807) (most : Int) (m0 : -9223372036854775808 ≤ most) (m1 : most ≤ 9223372036854775807) (cut : Int) (c0 : 0 ≤ cut) (c1 : cut ≤ 255) :
    Calls Try.prog 5 #[.string ⟨s.toArray⟩, .string ⟨t.toArray⟩, .slice a n c, .int .i64 at_, .int .i64 most, .int .u8 cut] w (IsTrue w) := by
  obtain rfl : l.length = n := by simpa using hr.1
  by_cases h : 4000 < s.length + t.length ∨ 400 < l.length
  · exact texts_big s hs t ht a c l bl at_ most cut w h
  · exact texts_small s t a c l hl at_ most m0 m1 cut c0 c1 w (by omega) (by omega) hr
end Go.Proofs.Ytihhncejiahdcaa.Wire
