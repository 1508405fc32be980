/- WireShort, walked: it returns true at every input of some size. -/
import Derived.Test.YtbkebmnaajmgeaaWireLaws2
namespace Go.Proofs.Ytbkebmnaajmgeaa.Wire
open Go Go.RowKit
set_option linter.unusedVariables false
attribute [local go_sem] extract_list ByteArray.mk_append_mk

def IsTrue (w : World) (e : Ending) (w' : World) : Prop := e = .returned (.bool true) ∧ Below w.heap.size w w'
theorem cut_of {cut : Int} {n : Nat} (c0 : 0 ≤ cut) (hn : 1 ≤ n) : ∃ q : Nat, cut.tmod (n : Int) = q ∧ cut % (n : Int) = q ∧ q < n ∧ (q : Int) ≤ cut := by
  have h1 := Int.emod_nonneg cut (b := (n : Int)) (by omega)
  have h2 := Int.emod_lt_of_pos cut (b := (n : Int)) (by omega)
  rw [Int.tmod_eq_emod_of_nonneg c0]
  have h3 := Int.emod_add_mul_ediv cut (n : Int)
  have h4 := Int.mul_nonneg (show 0 ≤ (n : Int) by omega) (Int.ediv_nonneg c0 (show 0 ≤ (n : Int) by omega))
  exact ⟨(cut % (n : Int)).toNat, by omega, by omega, by omega, by omega⟩

set_option maxRecDepth 100000 in
set_option maxHeartbeats 1000000 in
theorem short_walk (w : World) (t : List UInt8) (ht : t.length ≤ 140737488351232) (a : Option Addr) (m c : Nat) (l : List Int) (hr : Rd w w.heap.size 1 (.slice a m c) m (l.map (Value.int .i64))) (hl : ∀ x ∈ l, -9223372036854775808 ≤ x ∧ x ≤ 9223372036854775807) (bl : m * 8 ≤ 140737488351232)
    (n : Int) (n0 : -9223372036854775808 ≤ n) (n1 : n ≤ 9223372036854775807) (cut : Int) (c0 : 0 ≤ cut) (c1 : cut ≤ 65535) (more : Int) (r0 : 0 ≤ more) (r1 : more ≤ 255) :
    Calls Try.prog 3 #[.string ⟨t.toArray⟩, .slice a m c, .int .i64 n, .int .u16 cut, .int .u8 more] w (IsTrue w) := by
  obtain rfl : l.length = m := by simpa using hr.1
  have L1 := putB_len n0 n1
  have L2 := putB_len (n := (t.length : Int)) (by omega) (by omega)
  have L3 := putL_len hl (by omega)
  have e2 : (putB (t.length : Int) ++ t).length = (putB (t.length : Int)).length + t.length := by simp
  obtain ⟨q1, t1, m1, h1, c1'⟩ := cut_of c0 L1.2
  obtain ⟨q2, t2, m2, h2, c2'⟩ := cut_of (n := (putB (t.length : Int)).length + t.length) c0 (by omega)
  obtain ⟨q3, t3, m3, h3, c3'⟩ := cut_of c0 L3.2
  have i1 := fun W => wInt_any ((putB n).take q1) 0 W (by simp; omega)
  have g1 := getI_short n0 n1 [] h1
  simp only [List.nil_append, List.length_nil, Int.natCast_zero] at g1
  unfold IntPost at i1
  rw [g1] at i1
  have i2 := fun W => wText_any ((putB (t.length : Int) ++ t).take q2) 0 (t.length + more) W (by simp; omega)
  unfold PostT at i2
  rw [getT_short (by omega) (by omega) (by rw [e2]; exact h2)] at i2
  have i3 := fun W => wList_any ((putL l).take q3) 0 (l.length + more) W (by simp; omega) (fun _ => by simp; omega)
  unfold PostL at i3
  rw [getL_short hl (by omega) (by omega) h3] at i3
  have i4 := fun W => wText_any (putB (t.length : Int) ++ t) 0 (t.length - 1) W (by simp; omega)
  unfold PostT at i4
  rw [getT_many (by omega)] at i4
  have i5 := fun W => wList_any (putL l) 0 (l.length - 1) W (by omega) (fun h => by have := getC_many (n := (l.length : Int)) (most := (l.length : Int) - 1) (by omega) (by omega) (by omega) [] (l.flatMap putB); simp only [List.nil_append, List.length_nil, Int.natCast_zero] at this; unfold putL at h; rw [this] at h; cases h)
  unfold PostL at i5
  rw [getL_many (by omega)] at i5
  have I1 := Lib.hid i1
  have I2 := Lib.hid i2
  have I3 := Lib.hid i3
  have I4 := Lib.hid i4
  have I5 := Lib.hid i5
  clear i1 i2 i3 i4 i5 g1
  have z1 : (((putB n).length : Int) == 0) = false := beq_eq_false_iff_ne.2 (by omega)
  have z2 : ((((putB (t.length : Int)).length : Int) + (t.length : Int)) == 0) = false := beq_eq_false_iff_ne.2 (by omega)
  have z3 : (((putL l).length : Int) == 0) = false := beq_eq_false_iff_ne.2 (by omega)
  rw [Int.natCast_add] at t2 m2
  have h1' : q1 ≤ (putB n).length := by omega
  have h2' : q2 ≤ (putB (t.length : Int)).length + t.length := by omega
  have h3' : q3 ≤ (putL l).length := by omega
  go_enter Try.func3, Try.ntmps3
  go_wp2_with fail
  refine (sane_any _).mono ?_
  rintro e w1 ⟨rfl, hb1⟩
  go_wp2_with fail
  refine (wPutInt_any [] n w1 n0 n1 (by simp)).mono ?_
  rintro e w2 ⟨rfl, hb2⟩
  go_wp2_with fail
  refine (wPutText_any [] t w2 (by simp; omega)).mono ?_
  rintro e w3 ⟨rfl, hb3⟩
  have hb3' := hb1.trans ((hb2.mono hb1.size).trans (hb3.mono (Nat.le_trans hb1.size hb2.size)))
  go_wp2_with fail
  refine (wPutList_any [] l a c w.heap.size w3 hl (hr.below hb3' (Nat.le_refl _)) hb3'.size (by simp; omega)).mono ?_
  rintro e w4 ⟨rfl, hb4⟩
  have hb4' := hb3'.trans (hb4.mono hb3'.size)
  go_wp2_with fail
  refine (I1.out _).mono ?_
  rintro e w5 ⟨rfl, rfl⟩
  go_wp2_with fail
  refine (I2.out _).mono ?_
  rintro e w5 ⟨rfl, rfl⟩
  go_wp2_with fail
  refine (I3.out _).mono ?_
  rintro e w5 ⟨ad5, c5, rfl, _, hb5⟩
  have hb5' := hb4'.trans (hb5.mono hb4'.size)
  go_wp2_with fail
  refine (I4.out _).mono ?_
  rintro e w6 ⟨rfl, rfl⟩
  go_wp2_with fail
  refine (I5.out _).mono ?_
  rintro e w6 ⟨ad6, c6, rfl, _, hb6⟩
  have hb6' := hb5'.trans (hb6.mono hb5'.size)
  go_wp2_with fail
  go_ret
  exact ⟨rfl, hb6'⟩
end Go.Proofs.Ytbkebmnaajmgeaa.Wire
