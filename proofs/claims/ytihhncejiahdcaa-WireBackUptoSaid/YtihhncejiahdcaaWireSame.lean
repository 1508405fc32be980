/- The reference's comparison of lists of numbers. -/
import Derived.Test.YtihhncejiahdcaaBytes
import Derived.Test.YtihhncejiahdcaaRows
namespace Go.Proofs.Ytihhncejiahdcaa.Wire
open Go Go.RowKit
set_option linter.unusedVariables false

def eqI (l m : List Int) : Bool := decide (l = m)
def SRel (l m : List Int) (w : World) (gk : Nat) (i : Value) (wr : World) : Prop := ∃ k : Nat, gk + k = l.length ∧ i = .int .i64 k ∧ l.take k = m.take k ∧ Below w.heap.size w wr

theorem eqI_ne {l m : List Int} {k : Nat} (h1 : k < l.length) (h2 : k < m.length) (h : ¬ l[k] = m[k]) : eqI l m = false := by
  unfold eqI
  rw [decide_eq_false_iff_not]
  rintro rfl
  exact h rfl

theorem same01_any (l m : List Int) (a b : Option Addr) (c d : Nat) (A B : Nat) (w : World) (ha : Rd w A 1 (.slice a l.length c) l.length (l.map (Value.int .i64))) (hb : Rd w B 1 (.slice b m.length d) m.length (m.map (Value.int .i64)))
    (hA : A ≤ w.heap.size) (hB : B ≤ w.heap.size) (h1 : l.length ≤ 2 ^ 62) (h2 : m.length ≤ 2 ^ 62) :
    Calls Try.prog 21 #[.slice a l.length c, .slice b m.length d] w fun e w' => e = .returned (.bool (eqI l m)) ∧ Below w.heap.size w w' := by
  by_cases hlen : l.length = m.length
  · rcases ha.addr with h0 | ⟨g, off, rfl, hg, hat⟩
    · have hx : l = [] := List.eq_nil_of_length_eq_zero h0
      have hy : m = [] := List.eq_nil_of_length_eq_zero (hlen ▸ h0)
      subst hx
      subst hy
      go_enter Try.func21, Try.ntmps21
      go_wp2_with fail
      go_loopg [13] 0 (fun gk i wr => SRel [] [] w gk i wr)
      case atStart => exact ⟨0, rfl, rfl, rfl, Below.refl _ _⟩
      case round =>
        obtain ⟨k, hk, rfl, _, hw⟩ := hrel
        obtain rfl : k = 0 := by simp at hk; omega
        go_wp2_with fail
        go_ret
        exact ⟨rfl, hw⟩
    · rcases hb.addr with h0 | ⟨g2, off2, rfl, hg2, hat2⟩
      · have hx : l = [] := List.eq_nil_of_length_eq_zero (hlen ▸ h0)
        have hy : m = [] := List.eq_nil_of_length_eq_zero h0
        subst hx
        subst hy
        go_enter Try.func21, Try.ntmps21
        go_wp2_with fail
        go_loopg [13] 0 (fun gk i wr => SRel [] [] w gk i wr)
        case atStart => exact ⟨0, rfl, rfl, rfl, Below.refl _ _⟩
        case round =>
          obtain ⟨k, hk, rfl, _, hw⟩ := hrel
          obtain rfl : k = 0 := by simp at hk; omega
          go_wp2_with fail
          go_ret
          exact ⟨rfl, hw⟩
      · have hq : ((l.length : Int) != (m.length : Int)) = false := by simp [hlen]
        have HL := Lib.hid hlen
        clear hlen
        go_enter Try.func21, Try.ntmps21
        go_wp2_with fail
        go_loopg [13] l.length (fun gk i wr => SRel l m w gk i wr)
        case atStart => exact ⟨0, rfl, rfl, by simp, Below.refl _ _⟩
        case round =>
          obtain ⟨k, hk, rfl, ht, hw⟩ := hrel
          have HT := Lib.hid ht
          clear ht
          by_cases hlt : k < l.length
          · have hlt2 : k < m.length := by have := HL.out; omega
            have hc1 : wr.cell? ⟨g, off + k, none⟩ = some (.int .i64 l[k]) := (hw.cell (p := ⟨g, off + k, none⟩) (by show g < _; omega)).trans (hat k _ (by simp [hlt]))
            have hc2 : wr.cell? ⟨g2, off2 + k, none⟩ = some (.int .i64 m[k]) := (hw.cell (p := ⟨g2, off2 + k, none⟩) (by show g2 < _; omega)).trans (hat2 k _ (by simp [hlt2]))
            by_cases he : l[k] = m[k]
            · have hqq : (l[k] != m[k]) = false := by simp [he]
              have HE := Lib.hid he
              clear he
              go_wp2_with fail
              go_quiet (fail)
              go_wp2_with fail
              go_roundg (gk - 1)
              case measure => omega
              case rel => exact ⟨k + 1, by omega, by go_num, by rw [List.take_succ_eq_append_getElem hlt, List.take_succ_eq_append_getElem hlt2, HT.out, HE.out], below_drewN hw nq⟩
            · have hqq : (l[k] != m[k]) = true := by simp [he]
              have hf := eqI_ne hlt hlt2 he
              clear he
              go_wp2_with fail
              go_quiet (fail)
              go_wp2_with fail
              go_ret
              exact ⟨by rw [hf]; rfl, below_drewN hw nq⟩
          · go_wp2_with fail
            go_ret
            have ht := HT.out
            rw [List.take_of_length_le (by omega), List.take_of_length_le (by have := HL.out; omega)] at ht
            exact ⟨by rw [show eqI l m = true by unfold eqI; simp [ht]]; rfl, hw⟩
  · have hq : ((l.length : Int) != (m.length : Int)) = true := by simp; omega
    have hf : eqI l m = false := by unfold eqI; rw [decide_eq_false_iff_not]; rintro rfl; exact hlen rfl
    rw [hf]
    clear hlen hf
    go_enter Try.func21, Try.ntmps21
    go_wp2_with fail
    go_ret
    exact ⟨rfl, Below.refl _ _⟩
end Go.Proofs.Ytihhncejiahdcaa.Wire
