/- What changes lead to: plain. -/
import Derived.Test.YtilkjcobkdjlkaaUhC
namespace Go.Proofs.Ytilkjcobkdjlkaa.Sim
open Go
set_option linter.unusedVariables false
theorem diffGo_find (ra : List (List Int)) : ∀ (l : List (List Int)) (k i : Nat), k ≤ i → i < k + l.length → findF i (diffGo ra k l) = if i ≥ ra.length ∨ l.getD (i - k) [] ≠ ra.getD i [] then some (l.getD (i - k) []) else none
  | [], k, i, h1, h2 => by simp at h2; omega
  | r :: l, k, i, h1, h2 => by
    rw [diffGo]
    by_cases e : i = k
    · subst e
      rw [Nat.sub_self, List.getD_cons_zero]
      split
      · rw [findF, if_pos rfl]
      · refine findF_none fun s hs => ?_
        have key : ∀ (l : List (List Int)) (k : Nat), ∀ s ∈ diffGo ra k l, (k : Int) ≤ s.idx := by
          intro l
          induction l with
          | nil => intro k s hs; cases hs
          | cons r l ih =>
            intro k s hs
            rw [diffGo] at hs
            split at hs
            · rcases List.mem_cons.1 hs with rfl | hs
              · exact Int.le_refl _
              · have := ih (k + 1) s hs; omega
            · have := ih (k + 1) s hs; omega
        have := key l (i + 1) s hs
        omega
    · have e2 : i - k = (i - (k + 1)) + 1 := by omega
      rw [e2, List.getD_cons_succ]
      have ih := diffGo_find ra l (k + 1) i (by omega) (by simp only [List.length_cons] at h2; omega)
      split
      · rw [findF, if_neg (by simp only; omega)]; exact ih
      · exact ih
theorem diffGo_form (ra : List (List Int)) {count : Int} : ∀ (l : List (List Int)) (k : Nat) (last : Int), last < k → k + l.length ≤ count → formGo count last (diffGo ra k l) = true
  | [], k, last, _, _ => rfl
  | r :: l, k, last, h1, h2 => by
    simp only [List.length_cons] at h2
    rw [diffGo]
    split
    · exact formGo_cons.2 ⟨h1, by simp only; omega, diffGo_form ra l (k + 1) k (by omega) (by omega)⟩
    · exact diffGo_form ra l (k + 1) last (by omega) (by omega)
theorem diffGo_mem (ra : List (List Int)) : ∀ (l : List (List Int)) (k : Nat), ∀ s ∈ diffGo ra k l, s.row ∈ l
  | [], k, s, hs => by cases hs
  | r :: l, k, s, hs => by
    rw [diffGo] at hs
    split at hs
    · rcases List.mem_cons.1 hs with rfl | hs
      · exact List.mem_cons_self
      · exact List.mem_cons_of_mem _ (diffGo_mem ra l (k + 1) s hs)
    · exact List.mem_cons_of_mem _ (diffGo_mem ra l (k + 1) s hs)
theorem setsErr_ok {p w : Int} (hw : 0 ≤ w) : ∀ {l : List PSet}, setsErr p w l = 0 ↔ ∀ s ∈ l, s.row.length = w.toNat ∧ s.row.all (inE p) = true
  | [] => by simp [setsErr]
  | s :: l => by
    have ih := setsErr_ok (p := p) hw (l := l)
    simp only [List.mem_cons, forall_eq_or_imp] at ih ⊢
    rw [setsErr]
    split
    · rename_i h; simp; omega
    · rename_i h
      split
      · rename_i h2
        rw [ih]
        exact ⟨fun g => ⟨⟨by omega, h2⟩, g⟩, fun g => g.2⟩
      · rename_i h2
        exact ⟨fun g => by simp at g, fun g => absurd g.1.2 h2⟩
/-- A change leads from a version to another one. -/
structure Leads (x : PTab) (c : PChg) (y : PTab) : Prop where
  form : formF c = true
  fr : c.fr = x.num
  tt : c.tt = y.num
  count : c.count = y.rows.length
  rows : ∀ s ∈ c.sets, s.row.length = x.width.toNat ∧ s.row.all (inE x.p) = true
  find : ∀ i : Nat, i < y.rows.length → findF i c.sets = some (y.rows.getD i []) ∨ (findF i c.sets = none ∧ i < x.rows.length ∧ x.rows.getD i [] = y.rows.getD i [])
theorem Leads.apply {x y : PTab} {c : PChg} (h : Leads x c y) (hx : checkT x = 0) (hp : y.p = x.p) (hw : y.width = x.width) : checkC x c = 0 ∧ applyF x c = (y, 0) := by
  obtain ⟨_, hl, hn1, hn2, hw1, hw2, hr⟩ := checkT_ok hx
  obtain ⟨f1, f2, f3, f4, f5, f6⟩ := formF_ok h.form
  have hc : checkC x c = 0 := by
    have h1 := (setsErr_ok (p := x.p) (by omega : 0 ≤ x.width)).2 h.rows
    have h2 := (behind_all (x := (x.rows.length : Int)) f6).2 fun i h1 h2 => by
      obtain ⟨j, rfl⟩ := Int.eq_ofNat_of_zero_le (show 0 ≤ i by omega)
      have := h.count
      rcases h.find j (by omega) with h3 | ⟨_, h4, _⟩
      · rw [h3]; rfl
      · omega
    rw [checkC, if_neg (by simp [hx]), if_neg (by simp [h.form]), if_neg (by simp [h.fr]), if_neg (by simp [h1]), if_neg (by simpa using h2)]
  refine ⟨hc, ?_⟩
  rw [applyF, if_neg (by simp [hc])]
  have hr : applyRows x.rows c = y.rows := by
    apply (eq_getD _ _ (by rw [applyRows_len, h.count, Int.toNat_natCast])).2
    intro k hk
    rw [applyRows_len, h.count, Int.toNat_natCast] at hk
    rw [applyRows_get (by rw [h.count, Int.toNat_natCast]; exact hk)]
    rcases h.find k hk with h3 | ⟨h3, _, h4⟩
    · rw [h3]; rfl
    · rw [h3]; exact h4
  rw [hr, h.tt, ← hp, ← hw]
theorem between_leads {a b : PTab} (ha : checkT a = 0) (hb : checkT b = 0) (hp : a.p = b.p) (hw : a.width = b.width) (hn : a.num < b.num) : betweenF a b = (⟨a.num, b.num, b.rows.length, diffGo a.rows 0 b.rows⟩, 0) ∧ Leads a ⟨a.num, b.num, b.rows.length, diffGo a.rows 0 b.rows⟩ b := by
  obtain ⟨_, hl, hn1, hn2, hw1, hw2, hr⟩ := checkT_ok ha
  obtain ⟨_, hbl, hm1, hm2, hv1, hv2, hbr⟩ := checkT_ok hb
  have hro := (rowsErr_ok (p := b.p) (by omega : 0 ≤ b.width)).1 hbr
  refine ⟨by rw [betweenF, if_neg (by simp [ha]), if_neg (by simp [hb]), if_neg (by simp [hp, hw]), if_neg (by omega)], ⟨?_, rfl, rfl, rfl, fun s hs => ?_, fun i hi => ?_⟩⟩
  · have hg := diffGo_form a.rows (count := (b.rows.length : Int)) b.rows 0 (-1) (by omega) (by omega)
    simp only [formF, numF, hg, Bool.and_true, Bool.and_eq_true, decide_eq_true_eq]
    omega
  · have := hro _ (diffGo_mem _ _ _ s hs)
    rw [hp, hw]
    exact this
  · have := diffGo_find a.rows b.rows 0 i (by omega) (by omega)
    simp only [Nat.sub_zero] at this
    by_cases h : i ≥ a.rows.length ∨ b.rows.getD i [] ≠ a.rows.getD i []
    · rw [if_pos h] at this; exact .inl this
    · rw [if_neg h] at this
      refine .inr ⟨this, by omega, ?_⟩
      apply Classical.byContradiction
      intro h2
      exact h (.inr fun e => h2 e.symm)
end Go.Proofs.Ytilkjcobkdjlkaa.Sim
