/- What was put is read back, and what is cut short is told: texts and lists, in plain terms. -/
import Derived.Test.YtbkebmnaajmgeaaWireGets
import Derived.Test.YtbkebmnaajmgeaaWireSane
namespace Go.Proofs.Ytbkebmnaajmgeaa.Wire
open Go Go.RowKit
set_option linter.unusedVariables false

theorem putL_len {l : List Int} (h : Int64 l) (hl : l.length ≤ 2 ^ 62) : (putL l).length ≤ 10 + 10 * l.length ∧ 1 ≤ (putL l).length := by
  have h1 := putB_len (n := (l.length : Int)) (by omega) (by omega)
  have h2 := flat_len h
  unfold putL
  rw [List.length_append]
  omega
theorem getC_put {n most : Int} (h0 : 0 ≤ n) (h1 : n ≤ 9223372036854775807) (hm : n ≤ most) (pre r : List UInt8) :
    getC (pre ++ (putB n ++ r)) pre.length most = (n, ((pre.length + (putB n).length : Nat) : Int), 0) := by
  unfold getC
  rw [getI_put (by omega) h1]
  simp only [ne_eq, not_true_eq_false, if_false]
  rw [if_neg (by omega), if_neg (by omega)]
theorem getC_many {n most : Int} (h0 : 0 ≤ n) (h1 : n ≤ 9223372036854775807) (hm : most < n) (pre r : List UInt8) :
    getC (pre ++ (putB n ++ r)) pre.length most = (0, 0, 4) := by
  unfold getC
  rw [getI_put (by omega) h1]
  simp only [ne_eq, not_true_eq_false, if_false]
  rw [if_neg (by omega), if_pos hm]

theorem getT_put {t : List UInt8} {most : Int} (h1 : t.length ≤ 2 ^ 62) (hm : (t.length : Int) ≤ most) (pre r : List UInt8) :
    getT (pre ++ ((putB t.length ++ t) ++ r)) pre.length most = (t, ((pre.length + (putB (t.length : Int)).length + t.length : Nat) : Int), 0) := by
  unfold getT
  rw [List.append_assoc, getC_put (by omega) (by omega) hm]
  simp only [ne_eq, not_true_eq_false, if_false]
  rw [if_neg (by simp; omega)]
  simp only [Int.toNat_natCast]
  have e : (pre ++ (putB (t.length : Int) ++ (t ++ r))).drop (pre.length + (putB (t.length : Int)).length) = t ++ r := by
    rw [← List.append_assoc, List.drop_left' (by simp)]
  rw [e, List.take_left]
  simp
theorem rdL_put : ∀ (l : List Int) (pre r : List UInt8) (acc : List Int), Int64 l → rdL l.length (pre ++ (l.flatMap putB ++ r)) pre.length acc = (acc ++ l, ((pre.length + (l.flatMap putB).length : Nat) : Int), 0)
  | [], pre, r, acc, h => by simp [rdL]
  | x :: l, pre, r, acc, h => by
    have hx := h x (by simp)
    rw [List.length_cons, rdL, List.flatMap_cons, List.append_assoc, getI_put hx.1 hx.2]
    simp only [ne_eq, not_true_eq_false, if_false]
    have := rdL_put l (pre ++ putB x) r (acc ++ [x]) (fun y hy => h y (by simp [hy]))
    rw [List.append_assoc, List.length_append] at this
    rw [this]
    simp only [List.append_assoc, List.singleton_append, List.length_append]
    congr 3
    omega
theorem getL_put {l : List Int} {most : Int} (h : Int64 l) (h1 : l.length ≤ 2 ^ 62) (hm : (l.length : Int) ≤ most) (pre r : List UInt8) :
    getL (pre ++ (putL l ++ r)) pre.length most = (l, ((pre.length + (putL l).length : Nat) : Int), 0) := by
  unfold getL putL
  rw [List.append_assoc, getC_put (by omega) (by omega) hm]
  simp only [ne_eq, not_true_eq_false, if_false, Int.toNat_natCast]
  have := rdL_put l (pre ++ putB (l.length : Int)) r [] h
  rw [List.append_assoc, List.length_append] at this
  rw [this]
  simp only [List.nil_append, List.length_append]
  congr 3
  omega

/-- The bytes of a number, cut short. -/
theorem rd_short : ∀ (f v k acc c : Nat), v < f → k ≤ 9 → acc < 128 ^ k → acc + v * 128 ^ k < 18446744073709551616 → (0 < k → 0 < v) → c < (vb v).length → rd k acc ((vb v).take c) = (0, 0, 3)
  | 0, v, k, acc, c, hf, _, _, _, _, _ => by omega
  | f + 1, v, k, acc, 0, hf, hk, ha, hu, hv, hc => by rw [List.take_zero, rd]
  | f + 1, v, k, acc, c + 1, hf, hk, ha, hu, hv, hc => by
    have hp := pow_bounds hk
    have h9 : k = 9 → v ≤ 1 := fun h => by subst h; omega
    by_cases hlt : 127 < v
    · have hk9 : k < 9 := by
        rcases Nat.lt_or_ge k 9 with h | h
        · exact h
        · have := h9 (by omega); omega
      have hn : (UInt8.ofNat (v % 128 + 128)).toNat = v % 128 + 128 := by simp; omega
      rw [vb_big hlt, List.length_cons] at hc
      rw [vb_big hlt, List.take_succ_cons, rd, hn, if_neg (by omega), if_neg (by omega)]
      have e1 : acc + (v % 128 + 128) % 128 * 128 ^ k + v / 128 * 128 ^ (k + 1) = acc + v * 128 ^ k := by
        have e2 : (v % 128 + 128) % 128 = v % 128 := by omega
        have e3 : v = v % 128 + v / 128 * 128 := by omega
        rw [e2, Nat.pow_succ, Nat.mul_comm (128 ^ k) 128, ← Nat.mul_assoc, Nat.add_assoc, ← Nat.add_mul, ← e3]
      exact rd_short f (v / 128) (k + 1) _ c (by omega) (by omega) (acc_lt ha) (by rw [e1]; exact hu) (by omega) (by omega)
    · rw [vb_small hlt] at hc
      simp at hc
theorem getI_short {n : Int} (h0 : -9223372036854775808 ≤ n) (h1 : n ≤ 9223372036854775807) (pre : List UInt8) {c : Nat} (hc : c < (putB n).length) :
    getI (pre ++ (putB n).take c) pre.length = (0, 0, 3) := by
  unfold getI
  rw [if_neg (by simp; omega), Int.toNat_natCast, List.drop_left, putB, rd_short (zz n + 1) (zz n) 0 0 c (by omega) (by omega) (by decide) (by simp; exact zz_lt h0 h1) (by omega) hc]
  rfl
theorem getC_short {n most : Int} (h0 : -9223372036854775808 ≤ n) (h1 : n ≤ 9223372036854775807) (pre : List UInt8) {c : Nat} (hc : c < (putB n).length) :
    getC (pre ++ (putB n).take c) pre.length most = (0, 0, 3) := by
  unfold getC
  rw [getI_short h0 h1 pre hc]
  rfl
theorem getT_short {t : List UInt8} {most : Int} (h1 : t.length ≤ 2 ^ 62) (hm : (t.length : Int) ≤ most) {c : Nat} (hc : c < (putB (t.length : Int) ++ t).length) :
    getT ((putB (t.length : Int) ++ t).take c) 0 most = ([], 0, 3) := by
  by_cases h : c < (putB (t.length : Int)).length
  · rw [List.take_append_of_le_length (by omega)]
    have := getC_short (n := (t.length : Int)) (most := most) (by omega) (by omega) [] h
    simp only [List.nil_append, List.length_nil, Int.natCast_zero] at this
    unfold getT
    rw [this]
    rfl
  · rw [List.length_append] at hc
    rw [List.take_append, List.take_of_length_le (by omega)]
    have := getC_put (n := (t.length : Int)) (by omega) (by omega) hm [] (t.take (c - (putB (t.length : Int)).length))
    simp only [List.nil_append, List.length_nil, Int.natCast_zero, Nat.zero_add] at this
    unfold getT
    rw [this]
    simp only [ne_eq, not_true_eq_false, if_false]
    rw [if_pos (by simp; omega)]
theorem rdL_short : ∀ (l : List Int) (pre : List UInt8) (acc : List Int) (c : Nat), Int64 l → c < (l.flatMap putB).length → rdL l.length (pre ++ (l.flatMap putB).take c) pre.length acc = ([], 0, 3)
  | [], pre, acc, c, h, hc => by simp at hc
  | x :: l, pre, acc, c, h, hc => by
    have hx := h x (by simp)
    rw [List.flatMap_cons, List.length_append] at hc
    rw [List.length_cons, rdL, List.flatMap_cons]
    by_cases hlt : c < (putB x).length
    · rw [List.take_append_of_le_length (by omega), getI_short hx.1 hx.2 pre hlt]
      rfl
    · rw [List.take_append, List.take_of_length_le (by omega), getI_put hx.1 hx.2]
      simp only [ne_eq, not_true_eq_false, if_false]
      have := rdL_short l (pre ++ putB x) (acc ++ [x]) (c - (putB x).length) (fun y hy => h y (by simp [hy])) (by omega)
      rw [List.append_assoc, List.length_append] at this
      exact this
theorem getL_short {l : List Int} {most : Int} (h : Int64 l) (h1 : l.length ≤ 2 ^ 62) (hm : (l.length : Int) ≤ most) {c : Nat} (hc : c < (putL l).length) :
    getL ((putL l).take c) 0 most = ([], 0, 3) := by
  unfold putL at hc ⊢
  by_cases hlt : c < (putB (l.length : Int)).length
  · rw [List.take_append_of_le_length (by omega)]
    have := getC_short (n := (l.length : Int)) (most := most) (by omega) (by omega) [] hlt
    simp only [List.nil_append, List.length_nil, Int.natCast_zero] at this
    unfold getL
    rw [this]
    rfl
  · rw [List.length_append] at hc
    rw [List.take_append, List.take_of_length_le (by omega)]
    have := getC_put (n := (l.length : Int)) (by omega) (by omega) hm [] ((l.flatMap putB).take (c - (putB (l.length : Int)).length))
    simp only [List.nil_append, List.length_nil, Int.natCast_zero, Nat.zero_add] at this
    unfold getL
    rw [this]
    simp only [ne_eq, not_true_eq_false, if_false, Int.toNat_natCast]
    exact rdL_short l (putB (l.length : Int)) [] _ h (by omega)
theorem getT_many {t : List UInt8} (h1 : t.length ≤ 2 ^ 62) : getT (putB (t.length : Int) ++ t) 0 ((t.length : Int) - 1) = ([], 0, 4) := by
  have := getC_many (n := (t.length : Int)) (most := (t.length : Int) - 1) (by omega) (by omega) (by omega) [] t
  simp only [List.nil_append, List.length_nil, Int.natCast_zero] at this
  unfold getT
  rw [this]
  rfl
theorem getL_many {l : List Int} (h1 : l.length ≤ 2 ^ 62) : getL (putL l) 0 ((l.length : Int) - 1) = ([], 0, 4) := by
  have := getC_many (n := (l.length : Int)) (most := (l.length : Int) - 1) (by omega) (by omega) (by omega) [] (l.flatMap putB)
  simp only [List.nil_append, List.length_nil, Int.natCast_zero] at this
  unfold getL putL
  rw [this]
  rfl
end Go.Proofs.Ytbkebmnaajmgeaa.Wire
