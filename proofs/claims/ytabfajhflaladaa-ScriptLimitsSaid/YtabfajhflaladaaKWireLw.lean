/- What was put is read back, and what is cut short is told: texts and lists, in plain terms. -/
import Derived.Test.YtabfajhflaladaaKWireGw
import Derived.Test.YtabfajhflaladaaKWirePuts
namespace Go.Proofs.Ytabfajhflaladaa.Wire
open Go Go.RowKit
set_option linter.unusedVariables false

theorem getC_put {n most : Int} (h0 : 0 ≤ n) (h1 : n ≤ 9223372036854775807) (hm : n ≤ most) (pre r : List UInt8) :
    getC (pre ++ (putB n ++ r)) pre.length most = (n, ((pre.length + (putB n).length : Nat) : Int), 0) := by
  unfold getC
  rw [getI_put (by omega) h1]
  simp only [ne_eq, not_true_eq_false, if_false]
  rw [if_neg (by omega), if_neg (by omega)]
theorem rdL_put : ∀ (l : List Int) (pre r : List UInt8) (acc : List Int), Int64 l → rdL l.length (pre ++ (l.flatMap putB ++ r)) pre.length acc = (acc ++ l, ((pre.length + (l.flatMap putB).length : Nat) : Int), 0)
  | [], pre, r, acc, h => by simp [rdL]
  | x :: l, pre, r, acc, h => by
    have hx := h x (by simp)
    rw [List.length_cons, rdL, List.flatMap_cons, List.append_assoc, getI_put hx.1 hx.2]
    simp only [ne_eq, not_true_eq_false, if_false]
    have := rdL_put l (pre ++ putB x) r (acc ++ [x]) (fun y hy => h y (by simp [hy]))
    rw [List.append_assoc, List.length_append] at this
    rw [this]
    simp only [List.append_assoc, List.singleton_append, List.length_append]
    congr 3
    omega
theorem getL_put {l : List Int} {most : Int} (h : Int64 l) (h1 : l.length ≤ 2 ^ 62) (hm : (l.length : Int) ≤ most) (pre r : List UInt8) :
    getL (pre ++ (putL l ++ r)) pre.length most = (l, ((pre.length + (putL l).length : Nat) : Int), 0) := by
  unfold getL putL
  rw [List.append_assoc, getC_put (by omega) (by omega) hm]
  simp only [ne_eq, not_true_eq_false, if_false, Int.toNat_natCast]
  have := rdL_put l (pre ++ putB (l.length : Int)) r [] h
  rw [List.append_assoc, List.length_append] at this
  rw [this]
  simp only [List.nil_append, List.length_append]
  congr 3
  omega


end Go.Proofs.Ytabfajhflaladaa.Wire
