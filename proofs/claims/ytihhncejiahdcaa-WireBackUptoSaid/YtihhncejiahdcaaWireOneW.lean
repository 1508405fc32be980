/- WireOne, walked: it returns true at every input. -/
import Derived.Test.YtihhncejiahdcaaWireSane
import Derived.Test.YtihhncejiahdcaaWireLaws
namespace Go.Proofs.Ytihhncejiahdcaa.Wire
open Go Go.RowKit
set_option linter.unusedVariables false

attribute [local go_sem] extract_list

def IsTrue (w : World) (e : Ending) (w' : World) : Prop := e = .returned (.bool true) ∧ Below w.heap.size w w'

theorem one_walk (w : World) (s : List UInt8) (hs : s.length ≤ 140737488351232) (m : Int) (m0 : -9223372036854775808 ≤ m) (m1 : m ≤ 9223372036854775807) (n : Int) (n0 : -9223372036854775808 ≤ n) (n1 : n ≤ 9223372036854775807) :
    Calls Try.prog 4 #[.string ⟨s.toArray⟩, .int .i64 m, .int .i64 n] w (IsTrue w) := by
  rcases hg : getI s 0 with ⟨x, k, er⟩
  by_cases he : er = 0
  · subst he
    obtain ⟨j, rfl, hj1, hj2, hj3, ht, hx0, hx1⟩ := getI_sound hg
    simp only [Int.natCast_zero, Int.zero_add, Nat.zero_add, List.drop_zero] at hg ht hj3
    have hd1 : decide ((j : Int) < 1) = false := by simp; omega
    have hd2 : decide ((10 : Int) < (j : Int)) = false := by simp; omega
    have hd3 : decide (s.length < j) = false := by simp; omega
    have HG := Lib.hid hg
    have htt : (putB x == s.take j) = true := by rw [ht]; simp
    have HT := Lib.hid ht
    clear hg ht
    go_enter Try.func4, Try.ntmps4
    go_wp2_with fail
    refine (sane_any _).mono ?_
    rintro e w1 ⟨rfl, hb1⟩
    go_wp2_with fail
    refine (wInt_any s 0 w1 (by omega)).mono ?_
    unfold IntPost
    rw [HG.out]
    rintro e w2 ⟨rfl, rfl⟩
    go_wp2_with fail
    go_region_held3 (fun w' => Below w1.heap.size w1 w') (first | exact (Below.refl _ _).drew | exact Below.trans (by assumption) hb2 | assumption) (first | (go_at_call 9; refine (wPutInt_any [] _ _ hx0 hx1 (by decide)).mono ?_; rintro e w2 ⟨rfl, hb2'⟩; have hb2 := hb2'.mono (Below.size (by assumption))))
    have hw2 : Below w1.heap.size w1 w2 := by assumption
    have hbs : Below w.heap.size w w2 := hb1.trans (hw2.mono hb1.size)
    go_wp2_with fail
    refine (wPutInt_any [] m _ m0 m1 (by decide)).mono ?_
    rintro e w3 ⟨rfl, hb3⟩
    go_wp2_with fail
    refine (wPutInt_any [] n _ n0 n1 (by decide)).mono ?_
    rintro e w4 ⟨rfl, hb4⟩
    have hbe : Below w.heap.size w w4 := hbs.trans ((hb3.mono hbs.size).trans (hb4.mono (Nat.le_trans hbs.size hb3.size)))
    have hfin : IsTrue w (.returned (.bool true)) w4 := ⟨rfl, hbe⟩
    by_cases hmn : m = n
    · have hq : (m == n) = true := by simp [hmn]
      clear hmn
      go_wp2_with fail
      go_ret
      exact hfin
    · have hq : (m == n) = false := by simp [hmn]
      by_cases hl : (putB n).length < (putB m).length
      · have hd : decide ((putB n).length < (putB m).length) = true := by simp [hl]
        go_wp2_with fail
        go_ret
        exact hfin
      · have hd : decide ((putB n).length < (putB m).length) = false := by simp; omega
        have hx : (List.take (putB m).length (putB n) == putB m) = false := by
          rw [beq_eq_false_iff_ne]
          exact fun h => hmn (put_prefix m0 m1 n0 n1 h)
        go_wp2_with fail
        go_ret
        exact hfin
  · have hq : (er == 0) = false := by simp [he]
    have HG := Lib.hid hg
    clear hg
    go_enter Try.func4, Try.ntmps4
    go_wp2_with fail
    refine (sane_any _).mono ?_
    rintro e w1 ⟨rfl, hb1⟩
    go_wp2_with fail
    refine (wInt_any s 0 w1 (by omega)).mono ?_
    unfold IntPost
    rw [HG.out]
    rintro e w2 ⟨rfl, rfl⟩
    go_wp2_with fail
    go_quiet (fail)
    have hbs : Below w.heap.size w (w1.drewN nq) := below_drewN hb1 nq
    go_wp2_with fail
    refine (wPutInt_any [] m _ m0 m1 (by decide)).mono ?_
    rintro e w3 ⟨rfl, hb3⟩
    go_wp2_with fail
    refine (wPutInt_any [] n _ n0 n1 (by decide)).mono ?_
    rintro e w4 ⟨rfl, hb4⟩
    have hbe : Below w.heap.size w w4 := hbs.trans ((hb3.mono hbs.size).trans (hb4.mono (Nat.le_trans hbs.size hb3.size)))
    have hfin : IsTrue w (.returned (.bool true)) w4 := ⟨rfl, hbe⟩
    by_cases hmn : m = n
    · have hq : (m == n) = true := by simp [hmn]
      clear hmn
      go_wp2_with fail
      go_ret
      exact hfin
    · have hq : (m == n) = false := by simp [hmn]
      by_cases hl : (putB n).length < (putB m).length
      · have hd : decide ((putB n).length < (putB m).length) = true := by simp [hl]
        go_wp2_with fail
        go_ret
        exact hfin
      · have hd : decide ((putB n).length < (putB m).length) = false := by simp; omega
        have hx : (List.take (putB m).length (putB n) == putB m) = false := by
          rw [beq_eq_false_iff_ne]
          exact fun h => hmn (put_prefix m0 m1 n0 n1 h)
        go_wp2_with fail
        go_ret
        exact hfin
end Go.Proofs.Ytihhncejiahdcaa.Wire
