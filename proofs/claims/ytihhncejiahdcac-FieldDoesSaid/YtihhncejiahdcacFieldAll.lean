/- Whether all numbers of a list are elements. -/
import Derived.Test.YtihhncejiahdcacFieldRes
namespace Go.Proofs.Ytihhncejiahdcac.Field
open Go Go.RowKit
set_option linter.unusedVariables false

def allB (p : Int) (l : List Int) : Bool := l.all (hasB p)
def notHas (p a : Int) : Bool := !hasB p a

theorem pAll1_any (p a : Int) (b : Nat) (w : World) (hc : w.cell? ⟨b, 0, none⟩ = some (.int .i64 p)) :
    Calls Try.prog 42 #[.int .i64 a, .pointer (some ⟨b, 0, none⟩)] w fun e w' => e = .returned (.bool (notHas p a)) ∧ w = w' := by
  go_enter Try.func42, Try.ntmps42
  go_wp2_with fail
  refine (pHas_any p a w).mono ?_
  rintro e w' ⟨rfl, rfl⟩
  go_wp2_with fail
  go_ret
  exact ⟨rfl, rfl⟩

def IPost (p : Int) (l : List Int) (w : World) (e : Ending) (w' : World) : Prop :=
  ∃ r : Int, e = .returned (.int .i64 r) ∧ ((r = -1 ∧ allB p l = true) ∨ (0 ≤ r ∧ allB p l = false)) ∧ w = w'
def IRel (p : Int) (l : List Int) (w : World) (gk : Nat) (v : Value) (wr : World) : Prop :=
  ∃ k : Nat, gk + k = l.length ∧ v = .int .i64 k ∧ (l.take k).all (hasB p) = true ∧ wr = w
theorem all_snoc {p : Int} {l : List Int} {k : Nat} (h : (l.take k).all (hasB p) = true) (hlt : k < l.length) (hb : notHas p l[k] = false) : (l.take (k + 1)).all (hasB p) = true := by
  have hb' : hasB p l[k] = true := by simpa [notHas] using hb
  rw [List.take_succ_eq_append_getElem hlt, List.all_append, h]
  simp [hb']
theorem all_bad {p : Int} {l : List Int} {k : Nat} (hlt : k < l.length) (hb : notHas p l[k] = true) : allB p l = false := by
  have hb' : hasB p l[k] = false := by simpa [notHas] using hb
  unfold allB
  rw [List.all_eq_false]
  exact ⟨l[k], List.getElem_mem _, by simp [hb']⟩

theorem indexF_any (p : Int) (l : List Int) (a : Option Addr) (c : Nat) (B b : Nat) (w : World) (hr : Rd w B 1 (.slice a l.length c) l.length (l.map (Value.int .i64))) (hl : l.length ≤ 4611686018427387904) (hc : w.cell? ⟨b, 0, none⟩ = some (.int .i64 p)) :
    Calls Try.prog 43 #[.slice a l.length c, .func (.func 42) #[] #[.pointer (some ⟨b, 0, none⟩)]] w (IPost p l w) := by
  rcases hr.addr with h0 | ⟨g, off, rfl, hg, hat⟩
  · have hx : l = [] := List.eq_nil_of_length_eq_zero h0
    subst hx
    go_enter Try.func43, Try.ntmps43
    go_wp2_with fail
    go_loopg [8] 0 (fun gk v wr => IRel p [] w gk v wr)
    case atStart => exact ⟨0, rfl, rfl, rfl, rfl⟩
    case round =>
      obtain ⟨k, hk, rfl, _, rfl⟩ := hrel
      obtain rfl : k = 0 := by simp at hk; omega
      go_wp2_with fail
      go_ret
      exact ⟨-1, rfl, .inl ⟨rfl, rfl⟩, rfl⟩
  · go_enter Try.func43, Try.ntmps43
    go_wp2_with fail
    go_loopg [8] l.length (fun gk v wr => IRel p l w gk v wr)
    case atStart => exact ⟨0, rfl, rfl, by simp, rfl⟩
    case round =>
      obtain ⟨k, hk, rfl, hall, rfl⟩ := hrel
      have HA := Lib.hid hall
      clear hall
      by_cases hlt : k < l.length
      · have hck : wr.cell? ⟨g, off + k, none⟩ = some (.int .i64 l[k]) := hat k _ (by simp [hlt])
        cases hb : notHas p l[k] with
        | false =>
          have HB := Lib.hid hb
          clear hb
          go_wp2_with fail
          refine (pAll1_any p l[k] b wr hc).mono ?_
          rw [HB.out]
          rintro e w' ⟨rfl, rfl⟩
          go_wp2_with fail
          go_roundg (gk - 1)
          case measure => omega
          case rel => exact ⟨k + 1, by omega, by go_num, all_snoc HA.out hlt HB.out, rfl⟩
        | true =>
          have HB := Lib.hid hb
          clear hb
          go_wp2_with fail
          refine (pAll1_any p l[k] b wr hc).mono ?_
          rw [HB.out]
          rintro e w' ⟨rfl, rfl⟩
          go_wp2_with fail
          go_ret
          exact ⟨k, rfl, .inr ⟨by omega, all_bad hlt HB.out⟩, rfl⟩
      · go_wp2_with fail
        go_ret
        have h := HA.out
        rw [List.take_of_length_le (by omega)] at h
        exact ⟨-1, rfl, .inl ⟨rfl, h⟩, rfl⟩

def notAll (p : Int) (l : List Int) : Bool := !allB p l
theorem contF_any (p : Int) (l : List Int) (a : Option Addr) (c : Nat) (B b : Nat) (w : World) (hr : Rd w B 1 (.slice a l.length c) l.length (l.map (Value.int .i64))) (hl : l.length ≤ 4611686018427387904) (hc : w.cell? ⟨b, 0, none⟩ = some (.int .i64 p)) :
    Calls Try.prog 41 #[.slice a l.length c, .func (.func 42) #[] #[.pointer (some ⟨b, 0, none⟩)]] w fun e w' => e = .returned (.bool (notAll p l)) ∧ w = w' := by
  have hi := indexF_any p l a c B b w hr hl hc
  have HI := Lib.hid hi
  clear hi hc
  go_enter Try.func41, Try.ntmps41
  go_wp2_with fail
  refine (HI.out).mono ?_
  rintro e w' ⟨r, rfl, hr', rfl⟩
  rcases hr' with ⟨rfl, h⟩ | ⟨h0, h⟩
  · go_wp2_with fail
    go_ret
    exact ⟨by rw [show notAll p l = false by unfold notAll; rw [h]; rfl]; rfl, rfl⟩
  · have hd : decide (0 ≤ r) = true := by simp [h0]
    clear h0
    have HH := Lib.hid h
    clear h
    go_wp2_with fail
    go_ret
    exact ⟨by rw [show notAll p l = true by unfold notAll; rw [HH.out]; rfl]; rfl, rfl⟩

theorem pAll_any (p : Int) (l : List Int) (a : Option Addr) (c : Nat) (B : Nat) (w : World) (hr : Rd w B 1 (.slice a l.length c) l.length (l.map (Value.int .i64))) (hl : l.length ≤ 4611686018427387904) (hB : B ≤ w.heap.size) :
    Calls Try.prog 38 #[.int .i64 p, .slice a l.length c] w fun e w' => e = .returned (.bool (allB p l)) ∧ Below w.heap.size w w' := by
  have hb := (Below.refl w.heap.size w).alloc (Nat.le_refl _) (.cells #[.int .i64 p] 45)
  go_enter Try.func38, Try.ntmps38
  go_wp2_with fail
  refine (contF_any p l a c B w.heap.size _ (hr.below hb hB) hl (by simp)).mono ?_
  rintro e w' ⟨rfl, rfl⟩
  go_wp2_with fail
  go_ret
  exact ⟨by simp [notAll], hb⟩
end Go.Proofs.Ytihhncejiahdcac.Field
