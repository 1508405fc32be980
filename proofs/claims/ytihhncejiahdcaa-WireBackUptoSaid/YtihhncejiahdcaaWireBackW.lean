/- WireBack, walked: it returns true at every input of some size. -/
import Derived.Test.YtihhncejiahdcaaWireLaws2
namespace Go.Proofs.Ytihhncejiahdcaa.Wire
open Go Go.RowKit
set_option linter.unusedVariables false
attribute [local go_sem] extract_list ByteArray.mk_append_mk

theorem back_facts (b d t : List UInt8) (n : Int) (l : List Int) (n0 : -9223372036854775808 ≤ n) (n1 : n ≤ 9223372036854775807) (hl : Int64 l) (ht : t.length ≤ 2 ^ 62) (hll : l.length ≤ 2 ^ 62) (S : List UInt8)
    (hS : b ++ putB n ++ (putB (t.length : Int) ++ t) ++ putL l ++ d = S) :
    getI S b.length = (n, ((b.length + (putB n).length : Nat) : Int), 0) ∧
    getT S ((b.length + (putB n).length : Nat) : Int) t.length = (t, ((b.length + (putB n).length + (putB (t.length : Int)).length + t.length : Nat) : Int), 0) ∧
    getL S ((b.length + (putB n).length + (putB (t.length : Int)).length + t.length : Nat) : Int) l.length = (l, ((b.length + (putB n).length + (putB (t.length : Int)).length + t.length + (putL l).length : Nat) : Int), 0) ∧
    S.drop (b.length + (putB n).length + (putB (t.length : Int)).length + t.length + (putL l).length) = d ∧ S.take b.length = b ∧ S.length = b.length + (putB n).length + (putB (t.length : Int)).length + t.length + (putL l).length + d.length := by
  subst hS
  refine ⟨?_, ?_, ?_, ?_, ?_, by simp; omega⟩
  · have := getI_put n0 n1 b ((putB (t.length : Int) ++ t) ++ putL l ++ d)
    simpa [List.append_assoc] using this
  · have := getT_put (t := t) (most := t.length) ht (by omega) (b ++ putB n) (putL l ++ d)
    rw [List.length_append] at this
    simpa [List.append_assoc] using this
  · have := getL_put (l := l) (most := l.length) hl hll (by omega) (b ++ putB n ++ (putB (t.length : Int) ++ t)) d
    have e : (b ++ putB n ++ (putB (t.length : Int) ++ t)).length = b.length + (putB n).length + (putB (t.length : Int)).length + t.length := by simp; omega
    rw [e] at this
    simpa [List.append_assoc] using this
  · exact List.drop_left' (by simp; omega)
  · rw [List.append_assoc, List.append_assoc, List.append_assoc]
    exact List.take_left

set_option maxRecDepth 100000 in
set_option maxHeartbeats 1000000 in
theorem back_walk (w : World) (b : List UInt8) (hb : b.length ≤ 1048576) (d : List UInt8) (hd : d.length ≤ 1048576) (t : List UInt8) (ht : t.length ≤ 1048576) (n : Int) (n0 : -9223372036854775808 ≤ n) (n1 : n ≤ 9223372036854775807)
    (a : Option Addr) (m c : Nat) (l : List Int) (hr : Rd w w.heap.size 1 (.slice a m c) m (l.map (Value.int .i64))) (hl : ∀ x ∈ l, -9223372036854775808 ≤ x ∧ x ≤ 9223372036854775807) (bl : m * 8 ≤ 8388608) :
    Calls Try.prog 6 #[.string ⟨b.toArray⟩, .string ⟨d.toArray⟩, .string ⟨t.toArray⟩, .int .i64 n, .slice a m c] w (IsTrue w) := by
  obtain rfl : l.length = m := by simpa using hr.1
  have L1 := putB_len n0 n1
  have L2 := putB_len (n := (t.length : Int)) (by omega) (by omega)
  have L3 := putL_len hl (by omega)
  go_enter Try.func6, Try.ntmps6
  go_wp2_with fail
  refine (sane_any _).mono ?_
  rintro e w1 ⟨rfl, hb1⟩
  go_wp2_with fail
  refine (wPutInt_any b n w1 n0 n1 (by omega)).mono ?_
  rintro e w2 ⟨rfl, hb2⟩
  go_wp2_with fail
  refine (wPutText_any _ t w2 (by simp; omega)).mono ?_
  rintro e w3 ⟨rfl, hb3⟩
  have hb3' := hb1.trans ((hb2.mono hb1.size).trans (hb3.mono (Nat.le_trans hb1.size hb2.size)))
  go_wp2_with fail
  refine (wPutList_any _ l a c w.heap.size w3 hl (hr.below hb3' (Nat.le_refl _)) hb3'.size (by simp; omega)).mono ?_
  rintro e w4 ⟨rfl, hb4⟩
  have hb4' := hb3'.trans (hb4.mono hb3'.size)
  have hlen : (b ++ putB n ++ (putB (t.length : Int) ++ t) ++ putL l ++ d).length ≤ 4611686018427387904 := by simp only [List.length_append]; omega
  go_wp2_with fail
  generalize hS : b ++ (putB n ++ (putB (t.length : Int) ++ (t ++ (putL l ++ d)))) = S
  obtain ⟨f1, f2, f3, f4, f5, f6⟩ := back_facts b d t n l n0 n1 hl (by omega) (by omega) S (by rw [← hS]; simp only [List.append_assoc])
  have hSl : S.length ≤ 2 ^ 40 := by omega
  have i1 := wInt_any S b.length w4 (by omega)
  unfold IntPost at i1
  rw [f1] at i1
  have hq1 : b.length + (putB n).length ≤ S.length := by omega
  have hq3 : b.length + (putB n).length + (putB (t.length : Int)).length + t.length + (putL l).length ≤ S.length := by omega
  have g1 : (List.take (S.length - (b.length + (putB n).length + (putB (t.length : Int)).length + t.length + (putL l).length)) (List.drop (b.length + (putB n).length + (putB (t.length : Int)).length + t.length + (putL l).length) S) == d) = true := by
    rw [f4, List.take_of_length_le (by omega)]; simp
  have g2 : (List.take b.length S == b) = true := by rw [f5]; simp
  have hbl : b.length ≤ S.length := by omega
  generalize b.length + (putB n).length = q1 at *
  generalize q1 + (putB (t.length : Int)).length + t.length = q2 at *
  generalize q2 + (putL l).length = q3 at *
  have i2 := wText_any S q1 t.length w4 (by omega)
  unfold PostT at i2
  rw [f2] at i2
  have i3 := wList_any S q2 l.length w4 (by omega)
  unfold PostL at i3
  rw [f3] at i3
  have I1 := Lib.hid i1
  have I2 := Lib.hid i2
  have I3 := Lib.hid i3
  have HS := Lib.hid hS
  clear i1 i2 i3 f1 f2 f3 f4 f5 f6 hS
  refine (I1.out).mono ?_
  rintro e w5 ⟨rfl, rfl⟩
  go_wp2_with fail
  refine (I2.out).mono ?_
  rintro e w5 ⟨rfl, rfl⟩
  go_wp2_with fail
  refine (I3.out).mono ?_
  rintro e w5 ⟨ad, c5, rfl, ho5, hb5⟩
  have hb5' := hb4'.trans (hb5.mono hb4'.size)
  go_wp2_with fail
  refine (same01_any l l ad a c5 c w5.heap.size w.heap.size w5 ho5.rd (hr.below hb5' (Nat.le_refl _)) (Nat.le_refl _) hb5'.size (by omega) (by omega)).mono ?_
  rw [eqI_self]
  rintro e w6 ⟨rfl, hb6⟩
  go_wp2_with fail
  go_ret
  exact ⟨rfl, hb5'.trans (hb6.mono hb5'.size)⟩
end Go.Proofs.Ytihhncejiahdcaa.Wire
