/- slices.Clone and slices.Equal at lists of numbers. -/
import Derived.Lib.SliceRun
import Derived.Test.YtejandeehmnibaaRep
import Derived.Test.YtejandeehmnibaaRows
namespace Go.Proofs.Ytejandeehmnibaa
open Go Go.RowKit Go.Deep
set_option linter.unusedVariables false

theorem infoInt : (Try.prog.info? 3).map (fun i => (i.zero, i.size, i.bytes)) = some (some (.int .i64 0), 1, 8) := by kernel_rfl

theorem clone_any (v : Value) (l : List Int) (S : Nat → Prop) (w : World) (h : Lst w S v l) (hl : l.length ≤ 1000000) :
    Calls Try.prog 35 #[v] w fun e w' => ∃ v', e = .returned v' ∧ OwnL w' w.heap.size v' l ∧ Below w.heap.size w w' := by
  obtain ⟨a, cap, rfl, hlc, hcm⟩ := h.form
  cases a with
  | none =>
    have hnil : l = [] := by
      rcases h.addr with h0 | ⟨g, off, xs, ha, _⟩
      · exact List.eq_nil_of_length_eq_zero h0
      · cases ha
    subst hnil
    have hq := fun w => Lib.run_eql_slice_nil (P := Try.prog) w 32 3 none 0 cap 0 0 Try.underlying32
    clear h hl hlc
    show Calls Try.prog 35 #[.slice none 0 cap] w _
    go_enter Try.func35, Try.ntmps35
    go_wp2_with fail
    go_ret
    exact ⟨_, rfl, OwnT.nil _ _, Below.refl _ _⟩
  | some a =>
    have hq := fun w => Lib.run_eql_slice_nil (P := Try.prog) w 32 3 (some a) l.length cap 0 0 Try.underlying32
    obtain ⟨i0, hi, hz0, hz1, hz2⟩ := info_parts infoInt
    have hb := (Below.refl w.heap.size w).alloc (Nat.le_refl _) (.cells #[] 3)
    have h2 := h.alloc (.cells #[] 3)
    obtain ⟨xs, hx, hs⟩ := h2.src (P := Try.prog) Try.underlying32
    have HX := Lib.hid hx
    have HI := Lib.hid hi
    clear hx h2 hb hi
    go_enter Try.func35, Try.ntmps35
    have hin := HI.out
    go_wp2_with (at_builtin; refine wpList_append_mine rfl _ _ 32 32 rfl 3 i0 _ 8 Try.underlying32 hin hz0 hz1 hz2 rfl rfl (own_empty w 3 1) (by simp) _ rfl l.length xs hs (by simp only [maxLen]; omega) (by omega) ?_; intro ad3 c3 w3 ho3 hg3 hat3)
    go_ret
    have hb := (Below.refl w.heap.size w).alloc (Nat.le_refl _) (.cells #[] 3)
    refine ⟨_, rfl, ?_, hb.grown hg3 (by simp) (fun k hk => by have e : w.heap.size = k := (by injection hk); omega)⟩
    show OwnL w3 w.heap.size (.slice ad3 l.length c3) l
    rw [Nat.zero_add] at ho3
    have hx' := HX.out
    obtain ⟨rfl, h64⟩ := Chunks.ints.1 hx'
    exact Own.ownT (by simpa using ho3) h64

/-- Equality of two lists, as a name that the walk does not open. -/
def eqL {α : Type} [DecidableEq α] (l m : List α) : Bool := decide (l = m)
theorem eqL_self {α : Type} [DecidableEq α] (l : List α) : eqL l l = true := decide_eq_true rfl
theorem eqL_true {α : Type} [DecidableEq α] {l m : List α} (h : l = m) : eqL l m = true := decide_eq_true h
theorem eqL_iff {α : Type} [DecidableEq α] {l m : List α} : eqL l m = true ↔ l = m := decide_eq_true_iff
theorem eqL_false {α : Type} [DecidableEq α] {l m : List α} (h : l ≠ m) : eqL l m = false := decide_eq_false h
def EqRel {α : Type} [DecidableEq α] (l m : List α) (w : World) (gk : Nat) (v : Value) (wr : World) : Prop :=
  ∃ i k : Nat, gk + i = l.length ∧ v = .int .i64 i ∧ (∀ j (h : j < l.length) (h2 : j < m.length), j < i → l[j] = m[j]) ∧ wr = w.drewN k

theorem equal_any (v u : Value) (l m : List Int) (S : Nat → Prop) (w : World) (h : Lst w S v l) (k : Lst w S u m) (hl : l.length ≤ 1000000) :
    Calls Try.prog 28 #[v, u] w fun e w' => e = .returned (.bool (eqL l m)) ∧ ∃ n, w' = w.drewN n := by
  obtain ⟨a, cap, rfl, hlc, hcm⟩ := h.form
  obtain ⟨b, cap2, rfl, hlc2, hcm2⟩ := k.form
  unfold maxLen at hcm hcm2
  by_cases hlen : l.length = m.length
  · have hq : (!((l.length : Int) == (m.length : Int))) = false := by simp [hlen]
    have hq2 : ((l.length : Int) != (m.length : Int)) = false := by simp [hlen]
    have H := Lib.hid h
    have K := Lib.hid k
    have HLEN := Lib.hid hlen
    have hle : l.length ≤ m.length := by omega
    have hge : m.length ≤ l.length := by omega
    clear h k hlen
    go_enter Try.func28, Try.ntmps28
    go_wp2_with fail
    go_loopg [13] l.length (fun gk v wr => EqRel l m w gk v wr)
    case atStart => exact ⟨0, 0, rfl, rfl, fun j _ _ h => by omega, rfl⟩
    case round =>
      obtain ⟨i, k0, hg, rfl, hall, rfl⟩ := hrel
      have HA := Lib.hid hall
      clear hall
      by_cases hlt : i < l.length
      · obtain ⟨g, off, rfl, _, hc, _⟩ := H.out.int_at hlt
        obtain ⟨g2, off2, rfl, _, hc2, _⟩ := K.out.int_at (i := i) (by omega)
        obtain ⟨x, hx⟩ : ∃ x, x = l[i] := ⟨_, rfl⟩
        obtain ⟨y, hy⟩ : ∃ y, y = m[i]'(by omega) := ⟨_, rfl⟩
        rw [← hx] at hc
        rw [← hy] at hc2
        have HX := Lib.hid hx
        have HY := Lib.hid hy
        clear hx hy
        have h1 : (i : Int) < (l.length : Int) := by omega
        have h2 : (i : Int) < (m.length : Int) := by omega
        by_cases hxy : x = y
        · have hq3 : (x != y) = false := by simp [hxy]
          have HXY := Lib.hid hxy
          clear hxy
          go_wp2_with fail
          go_quiet (fail)
          go_wp2_with fail
          go_roundg (gk - 1)
          case measure => omega
          case rel =>
            refine ⟨i + 1, k0 + nq, by omega, by go_num, fun j hj hj2 hji => ?_, rfl⟩
            rcases Nat.lt_or_ge j i with h | h
            · exact HA.out j hj hj2 h
            · obtain rfl : j = i := by omega
              rw [← HX.out, ← HY.out, HXY.out]
        · have hq3 : (x != y) = true := by simp [hxy]
          have hne : eqL l m = false := eqL_false (fun e => hxy (by rw [HX.out, HY.out]; simp only [e]))
          have HN := Lib.hid hne
          clear hne hxy
          go_wp2_with fail
          go_quiet (fail)
          go_wp2_with fail
          go_ret
          exact ⟨by rw [HN.out]; rfl, k0 + nq, (by first | rfl | exact World.drewN_drewN _ _ _)⟩
      · have he : eqL l m = true := eqL_true (List.ext_getElem HLEN.out fun j h1 h2 => HA.out j h1 h2 (by omega))
        have HE := Lib.hid he
        clear he
        go_wp2_with fail
        go_ret
        exact ⟨by rw [HE.out]; rfl, k0, rfl⟩
  · have hq : ((l.length : Int) != (m.length : Int)) = true := by simp; omega
    have hne : eqL l m = false := eqL_false (fun e => hlen (by rw [e]))
    have HN := Lib.hid hne
    clear hne hlen
    go_enter Try.func28, Try.ntmps28
    go_wp2_with fail
    go_ret
    exact ⟨by rw [HN.out]; rfl, 0, rfl⟩
end Go.Proofs.Ytejandeehmnibaa
