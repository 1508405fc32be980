/- New dice. -/
import Derived.Test.YtihhncejiahdcabDice
namespace Go.Proofs.Ytihhncejiahdcab
open Go Go.RowKit Go.Deep
set_option linter.unusedVariables false
set_option linter.unusedSimpArgs false

theorem Lst.take {α : Type} [Rep α] {w : World} {S : Nat → Prop} {a : Option Addr} {n c : Nat} {l : List α} (h : Lst w S (.slice a n c) l) {i : Nat} (hi : i ≤ n) : Lst w S (.slice a i c) (l.take i) := by
  obtain ⟨xs, a', cap, hv, hl, hc, hx, hr⟩ := h
  injection hv with h1 h2 h3
  subst h1 h2 h3
  have hlen : (l.take i).length = i := by rw [List.length_take]; omega
  rw [← List.take_append_drop i l] at hx
  obtain ⟨p, q, rfl, hp, _⟩ := hx.split
  refine ⟨p, a, c, by rw [hlen], by omega, hc, hp, fun h0 => ?_⟩
  obtain ⟨g, off, ha, hS, hr'⟩ := hr (by omega)
  exact ⟨g, off, ha, hS, fun j u hu => hr' j u (by
    obtain ⟨hj, hju⟩ := List.getElem?_eq_some_iff.1 hu
    rw [List.getElem?_append_left hj]; exact hu)⟩
theorem dice_new {w : World} {S : Nat → Prop} {a : Option Addr} {c : Nat} {l : List UInt8} (h : Lst w S (.slice a l.length c) l) (hl : l.length ≤ 300) (t : TypeId) :
    Dice (w.alloc (.cells #[.slice a l.length c, .int .i64 0] t)) w.heap.size w.heap.size ∧ Below w.heap.size w (w.alloc (.cells #[.slice a l.length c, .int .i64 0] t)) :=
  ⟨⟨a, c, l, 0, Nat.le_refl _, by simp, Cel.new (cs := [.slice a l.length c, .int .i64 0]), Nat.zero_le _, hl, (h.bound.alloc _).more fun b hb => hb.2⟩, (Below.refl _ _).alloc (Nat.le_refl _) _⟩
theorem plnew_any (v : Value) (l : List UInt8) (S : Nat → Prop) (w : World) (h : Lst w S v l) :
    Calls Try.prog 10 #[v] w fun e w' => ∃ D, e = .returned (.pointer (some ⟨D, 0, none⟩)) ∧ Dice w' w.heap.size D ∧ Below w.heap.size w w' := by
  obtain ⟨a, cap, rfl, hlc, hcm⟩ := h.form
  have H0 := Lib.hid h
  clear h
  by_cases h2 : 300 < l.length
  · have hq : decide (300 < l.length) = true := decide_eq_true h2
    have hc3 : 300 ≤ cap := by omega
    go_enter Try.func10, Try.ntmps10
    go_wp2_with fail
    go_ret
    have hl : (l.take 300).length = 300 := by rw [List.length_take]; omega
    have h3 := H0.out.take (i := 300) (by omega)
    have h4 := dice_new (a := a) (c := cap) (l := l.take 300) (by rw [hl]; exact h3) (by omega) 54
    rw [hl] at h4
    exact ⟨_, rfl, h4.1, h4.2⟩
  · have hq : decide (300 < l.length) = false := decide_eq_false h2
    go_enter Try.func10, Try.ntmps10
    go_wp2_with fail
    go_ret
    exact ⟨_, rfl, (dice_new H0.out (by omega) _).1, (dice_new H0.out (by omega) _).2⟩
end Go.Proofs.Ytihhncejiahdcab
