/- channel.Own and channel.own. -/
import Derived.Test.YtejandeehmnibaaNote
namespace Go.Proofs.Ytejandeehmnibaa
open Go Go.RowKit Go.Deep
set_option linter.unusedVariables false
set_option linter.unusedSimpArgs false

/-- The block b holds the cells cs (a variable of the call's own), and what lay below n is as it was. -/
structure Hold (n : Nat) (w : World) (b : Nat) (W : World) : Prop where
  below : Below n w W
  lt : b < W.heap.size

def COwn (w : World) (x : Note) (e : Ending) (w' : World) : Prop :=
  ∃ q v, e = .returned (.agg #[.int .i64 x.kind, .int .i64 x.read, .int .i64 x.probe, .int .i64 x.server, .int .i64 x.version, q, v, .int .i64 x.mark]) ∧ OwnL w' w.heap.size q x.query ∧ OwnL w' w.heap.size v x.values ∧ Below w.heap.size w w'

/-- A clone, said of all worlds behind w0, in which two variables of the call's own lie as they did. -/
theorem clone_at {v : Value} {l : List Int} {S : Nat → Prop} {w w0 : World} (h : Lst w S v l) (hl : l.length ≤ 1000000) (hb0 : Below w.heap.size w w0) (hs0 : w.heap.size + 2 = w0.heap.size) :
    ∀ W, Below w0.heap.size w0 W → Calls Try.prog 35 #[v] W fun e w' => ∃ ad c, e = .returned (.slice ad l.length c) ∧ OwnL w' W.heap.size (.slice ad l.length c) l ∧ Below W.heap.size W w' ∧ Below w0.heap.size w0 w' ∧ (∀ o, w'.cell? ⟨w.heap.size, o, none⟩ = w0.cell? ⟨w.heap.size, o, none⟩) ∧ (∀ o, w'.cell? ⟨w.heap.size + 1, o, none⟩ = w0.cell? ⟨w.heap.size + 1, o, none⟩) ∧
      (∀ o, w'.frozen? ⟨w.heap.size, o, none⟩ = w0.frozen? ⟨w.heap.size, o, none⟩) ∧ (∀ o, w'.frozen? ⟨w.heap.size + 1, o, none⟩ = w0.frozen? ⟨w.heap.size + 1, o, none⟩) :=
  fun W hW => by
    have hbW : Below w.heap.size w W := hb0.trans (hW.mono hb0.size)
    refine (clone_any v l S W (h.call hbW) hl).mono ?_
    rintro e w' ⟨v', he, ho, hb⟩
    have hb' := hW.trans (hb.mono hW.size)
    obtain ⟨ad, c, rfl, _, _⟩ := ho.form
    exact ⟨ad, c, he, ho, hb, hb', fun o => hb'.cell (p := ⟨w.heap.size, o, none⟩) (by show w.heap.size < _; omega), fun o => hb'.cell (p := ⟨w.heap.size + 1, o, none⟩) (by show w.heap.size + 1 < _; omega), fun o => hb'.frozen (p := ⟨w.heap.size, o, none⟩) (by show w.heap.size < _; omega), fun o => hb'.frozen (p := ⟨w.heap.size + 1, o, none⟩) (by show w.heap.size + 1 < _; omega)⟩

set_option maxHeartbeats 2000000 in
theorem chOwn_any (x : Note) (a : Option Addr) (n c : Nat) (a2 : Option Addr) (n2 c2 : Nat) (S : Nat → Prop) (w : World) (hq : Lst w S (.slice a n c) x.query) (hv : Lst w S (.slice a2 n2 c2) x.values) (hs : x.Small) :
    Calls Try.prog 29 #[.agg #[.int .i64 x.kind, .int .i64 x.read, .int .i64 x.probe, .int .i64 x.server, .int .i64 x.version, .slice a n c, .slice a2 n2 c2, .int .i64 x.mark]] w (COwn w x) := by
  obtain ⟨w0, hw0⟩ : ∃ w0 : World, w0 = (w.alloc (.cells #[.int .i64 x.kind, .int .i64 x.read, .int .i64 x.probe, .int .i64 x.server, .int .i64 x.version, .slice a n c, .slice a2 n2 c2, .int .i64 x.mark] 34)).alloc (.cells #[.int .i64 0, .int .i64 0, .int .i64 0, .int .i64 0, .int .i64 0, .slice none 0 0, .slice none 0 0, .int .i64 0] 34) := ⟨_, rfl⟩
  have hb0 : Below w.heap.size w w0 := by rw [hw0]; exact ((Below.refl _ _).alloc (Nat.le_refl _) _).alloc (by simp) _
  have hs0 : w.heap.size + 2 = w0.heap.size := by rw [hw0]; simp
  have H1 := Lib.hid (clone_at hq hs.1 hb0 hs0)
  have H2 := Lib.hid (clone_at hv hs.2 hb0 hs0)
  have HQ0 := Lib.hid hb0
  clear hb0 hs0
  subst hw0
  go_enter Try.func29, Try.ntmps29
  go_wp2_with fail
  go_region_with (first | (go_at_call_of 35 (Value.slice a n c); refine (H1.out _ (by first | assumption | exact (Below.refl _ _).drew)).mono ?_; rintro e w1 ⟨aq, cq, rfl, ho1, hd1, hb1, hc1, hc1', hf1, hf1'⟩) | (go_at_call_of 35 (Value.slice a2 n2 c2); refine (H2.out _ (by first | assumption | exact (Below.refl _ _).drew)).mono ?_; rintro e w2 ⟨av, cv, rfl, ho2, hd2, hb2, hc2, hc2', hf2, hf2'⟩))
  all_goals
    have hs1 : w.heap.size + 1 < w2.heap.size := by have := hb2.size; simp at this; omega
    have hs0 : w.heap.size < w2.heap.size := by omega
    have hs3 : w.heap.size + 2 ≤ w1.heap.size := by have := hb1.size; simp at this; omega
    have h1 := Lib.hid ((ho1.mono (B' := w.heap.size + 2) (by simp)).below hd2)
    have h2 := Lib.hid (ho2.mono hs3)
    have h3 := Lib.hid (HQ0.out.trans (hb2.mono HQ0.out.size))
    clear ho1 hd1 hb1 ho2 hd2 hb2 hc1 hc1' hf1 hf1'
    go_wp2_with fail
    refine bodyPost_ret (v := .agg #[.int .i64 x.kind, .int .i64 x.read, .int .i64 x.probe, .int .i64 x.server, .int .i64 x.version, .slice aq x.query.length cq, .slice av x.values.length cv, .int .i64 x.mark]) (by simp [results, Try.results29, go_sem, *]) rfl ?_
    refine ⟨_, _, rfl, OwnT.mono (B := w.heap.size + 2) ?_ (by omega), OwnT.mono (B := w.heap.size + 2) ?_ (by omega), ?_⟩
    · iterate 10 refine OwnT.set_int ?_ (by simp) _
      exact h1.out
    · iterate 10 refine OwnT.set_int ?_ (by simp) _
      exact h2.out
    · iterate 10 refine Below.setCell ?_ (by simp) _
      exact h3.out
end Go.Proofs.Ytejandeehmnibaa
