/- Changes out of dice, and hints. -/
import Derived.Test.YtilkjcobkdjlkaaUhK
import Derived.Test.YtilkjcobkdjlkaaUhIa
namespace Go.Proofs.Ytilkjcobkdjlkaa.Sim
open Go
set_option maxRecDepth 100000
set_option maxHeartbeats 8000000
set_option linter.unusedVariables false
set_option linter.unusedSimpArgs false
attribute [local irreducible] Go Mean
theorem formF_len' {c : PChg} (h : formF c = true) : c.sets.length ≤ 1024 := by
  obtain ⟨f1, f2, f3, f4, f5, f6⟩ := formF_ok h
  have := formGo_len f6 (by omega)
  omega
theorem padF_all {p : Int} (hp : 1 ≤ p) {fac : List Int} (h : fac.all (inE p) = true) {n : Nat} : (padF n fac).all (inE p) = true := by
  rw [allIn] at h ⊢
  intro x hx
  obtain ⟨i, -, rfl⟩ := List.mem_map.1 hx
  by_cases hi : i < fac.length
  · exact h _ (mem_getD _ _ _ hi)
  · rw [List.getD_eq_getElem?_getD, List.getElem?_eq_none (by omega)]; simp; omega
theorem makeH_ok {t : PTab} {f : List Int} (h1 : f.length = t.rows.length) (h2 : f.all (inE t.p) = true) : makeH t f = (⟨t.num, f, combL t.p t.width.toNat f t.rows⟩, 0) := by rw [makeH, if_neg (by omega), if_pos h2]
theorem checkH_ok {t : PTab} {f : List Int} (h1 : f.length = t.rows.length) (h2 : f.all (inE t.p) = true) : checkH t ⟨t.num, f, combL t.p t.width.toNat f t.rows⟩ = 0 := by
  rw [checkH, makeH_ok h1 h2, if_neg (by simp), if_neg (by simp), if_neg (by simp)]
/-- What a dice's change does. -/
theorem chgG_leads (l : List UInt8) {t : PTab} {n : Nat} (h : TabOK t n) (hn : n ≤ 50) (k : Nat) : checkC t (chgG l t k).1 = 0 ∧ applyF t (chgG l t k).1 = ((laterG l t k).1, 0) ∧ (chgG l t k).1.sets.length ≤ 1024 ∧ ShortS (chgG l t k).1.sets := by
  have hok := laterG_ok l k h
  obtain ⟨a1, a2, a3⟩ := laterG_num l k t
  obtain ⟨b1, b2⟩ := between_leads (h.check (by omega)) (hok.check (by omega)) a2.symm a3.symm a1
  have hc : (chgG l t k).1 = ⟨t.num, (laterG l t k).1.num, (laterG l t k).1.rows.length, diffGo t.rows 0 (laterG l t k).1.rows⟩ := by rw [chgG, b1]
  rw [hc]
  obtain ⟨c1, c2⟩ := b2.apply (h.check (by omega)) a2 a3
  have hw := h.w2
  exact ⟨c1, c2, formF_len' b2.form, fun s hs => by have := (b2.rows s hs).1; omega⟩
end Go.Proofs.Ytilkjcobkdjlkaa.Sim
