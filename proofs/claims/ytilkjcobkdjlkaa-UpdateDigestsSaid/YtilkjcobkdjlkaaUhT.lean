/- What digests come to behind a change: plain. -/
import Derived.Test.YtilkjcobkdjlkaaUhS
import Derived.Test.YtilkjcobkdjlkaaPkD
namespace Go.Proofs.Ytilkjcobkdjlkaa.Sim
open Go
set_option linter.unusedVariables false
theorem rowGo_in : ∀ (l : List Int) (d : Int), 0 ≤ d → d < 2147483647 → 0 ≤ rowGo d l ∧ rowGo d l < 2147483647
  | [], d, h1, h2 => ⟨h1, h2⟩
  | x :: l, d, h1, h2 => by
    rw [rowGo, List.foldl_cons]
    exact rowGo_in l _ (Int.emod_nonneg _ (by omega)) (Int.emod_lt_of_pos _ (by omega))
theorem rowF_in (l : List Int) : 0 ≤ rowF l ∧ rowF l < 2147483647 := rowGo_in l 2 (by omega) (by omega)
theorem Leads.digests {x y : PTab} {c : PChg} (h : Leads x c y) (hx : checkT x = 0) : digsF (x.rows.map rowF) c = (y.rows.map rowF, 0) := by
  obtain ⟨_, hl, hn1, hn2, hw1, hw2, hr⟩ := checkT_ok hx
  have hk : knownB (x.rows.map rowF).length c = true := (knownB_iff h.form).2 fun i h1 h2 => by
    have := h.count
    rw [List.length_map] at h1
    rcases h.find i (by omega) with h3 | ⟨_, h4, _⟩
    · rw [h3]; rfl
    · omega
  rw [digsF, if_pos ⟨h.form, by simpa using hl, hk⟩]
  have : digL (x.rows.map rowF) c = y.rows.map rowF := by
    apply (eq_iff_get 0 _ _ (by rw [digL_len, h.count, Int.toNat_natCast, List.length_map])).2
    intro k hk
    rw [digL_len, h.count, Int.toNat_natCast] at hk
    rw [digL_get (by rw [h.count, Int.toNat_natCast]; exact hk), getD_map rowF 0 [] _ k hk]
    rcases h.find k hk with h3 | ⟨h3, h5, h4⟩
    · rw [h3]
    · rw [h3, getD_map rowF 0 [] _ k h5, h4]
  rw [this]
theorem listErr_rows {rows : List (List Int)} (h : rows.length ≤ 1024) : listErr (rows.map rowF) = 0 := by
  rw [listErr, if_neg (by simpa using h), if_pos]
  rw [List.all_eq_true]
  intro x hx
  obtain ⟨r, _, rfl⟩ := List.mem_map.1 hx
  have := rowF_in r
  simp; omega
theorem rootF_ok {l : List Int} (h : listErr l = 0) : (rootF l).2 = 0 := by
  rw [rootF, if_neg (by simp [h])]
  split <;> rfl
theorem holds_rows {t : PTab} (h : checkT t = 0) : headF t = (⟨t.num, t.p, t.rows.length, t.width, (rootF (t.rows.map rowF)).1⟩, 0) ∧ holdsF (headF t).1 (t.rows.map rowF) = 0 := by
  obtain ⟨_, hl, _⟩ := checkT_ok h
  have e : headF t = (⟨t.num, t.p, t.rows.length, t.width, (rootF (t.rows.map rowF)).1⟩, 0) := by rw [headF, if_neg (by simp [h])]
  refine ⟨e, ?_⟩
  rw [e, holdsF, if_neg (by simp), if_neg (by simp [rootF_ok (listErr_rows hl)]), if_neg (by simp)]
end Go.Proofs.Ytilkjcobkdjlkaa.Sim
