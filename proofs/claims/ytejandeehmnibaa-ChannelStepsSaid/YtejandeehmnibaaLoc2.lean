/- More on the variables of a call. -/
import Derived.Test.YtejandeehmnibaaLoc
namespace Go.Proofs.Ytejandeehmnibaa
open Go Go.RowKit Go.Deep
set_option linter.unusedVariables false
theorem Loc.left {w : World} {L : List (Nat × List Value)} (h : Loc w L) : ∀ n : Nat, Loc w (L.take n) := by
  intro n
  induction n generalizing L with
  | zero => trivial
  | succ n ih =>
    cases L with
    | nil => trivial
    | cons p L => exact ⟨h.1, h.2.1, fun q hq => h.2.2.1 q (List.mem_of_mem_take hq), ih h.2.2.2⟩
/-- The slice that a nonempty list lies in. -/
theorem OwnT.addr {α : Type} [Rep α] {w : World} {B : Nat} {T : Nat → Prop} {v : Value} {l : List α} (h : OwnT w B T v l) (h0 : 0 < l.length) : ∃ g off cap, v = .slice (some ⟨g, off, none⟩) l.length cap ∧ l.length ≤ cap ∧ cap ≤ maxLen ∧ B ≤ g ∧ g < w.heap.size := by
  obtain ⟨xs, ho, _⟩ := h
  rcases ho.2 with ⟨_, e⟩ | ⟨g, off, cap, e, hB, hlt, hn, hc, _⟩
  · omega
  · exact ⟨g, off, cap, e, hn, hc, hB, hlt⟩
theorem OwnT.grown_far {α : Type} [Rep α] {w w' : World} {B : Nat} {T : Nat → Prop} {v : Value} {l : List α} (h : OwnT w B T v l) {row : Option Nat} (hg : w.grownBy w' row) (hv : v.ownBlock ≠ row ∨ v.ownBlock = none) (hT : ∀ b, T b → row ≠ some b) : OwnT w' B T v l := by
  obtain ⟨xs, ho, hx⟩ := h
  refine ⟨xs, ho.congr hg.size fun g e => hg.block g (ho.lt e).1 (fun e' => ?_), hx.keep fun b hb _ => ⟨⟨⟨Nat.lt_of_lt_of_le hb.1.1 hg.size, hb.1.2⟩, hb.2⟩, hg.block b hb.1.1 (fun e => hT b hb.2 e.symm)⟩⟩
  rcases hv with hv | hv
  · exact hv (e.trans e')
  · rw [hv] at e; cases e
/-- A row that was just laid. -/
theorem lst_new {α : Type} [Rep α] {w : World} {S : Nat → Prop} {xs : List Value} {l : List α} {t : TypeId} {n : Nat} (h : Chunks w S xs l) (hn : n = l.length) (hm : n ≤ maxLen) : Lst (w.alloc (.cells xs.toArray t)) (fun b => S b ∨ b = w.heap.size) (.slice (some ⟨w.heap.size, 0, none⟩) n n) l := by
  subst hn
  exact ⟨xs, _, _, rfl, Nat.le_refl _, hm, h.keep fun b hb hl => ⟨.inl hb, Below.heap_alloc _ _ _ hl⟩, fun _ => ⟨_, 0, rfl, ⟨.inr rfl, by simp⟩, range_new w xs t⟩⟩
theorem own_ne {g off n c k : Nat} (h : g ≠ k) : (Value.slice (some ⟨g, off, none⟩) n c).ownBlock ≠ some k := fun e => h (Option.some.inj e)

section
variable {P : Program} {ops : Array Oper} {Q : Exit → Act → World → Prop} {md : Region.Mode} {S : World → Prop} {k : Nat}
/-- What yields in whatever world may be taken first at any time. -/
theorem wpStage_first0 {i : Nat} {oi : Oper} {v : Value} (hi : ops[i]? = some oi) (hsel : ∀ (j : Nat) (o : Oper) cs b, ops[j]? = some o → o.op ≠ .select cs b)
    (hQ : ∀ c a w, Q (.panic c) (a.put oi.dst v) w → Q (.panic c) a w) (hik : i ≠ k) :
    ∀ (fuel : Nat) (listed : Array Bool) (a : Act) (w : World),
      (∀ j oj, ops[j]? = some oj → j ≠ i → listed.getD j true = false → (∀ e ∈ oj.after, Region.binds md e = true → e.on ≠ i) → oi.apart ops oj = true) →
      i ∈ Region.ready md ops listed → YieldsIf P ops (fun _ => True) oi v a → (listed.getD k true = false → S w) →
      wpStage P md ops Q S k fuel (listed.setIfInBounds i true) (a.put oi.dst v) w → wpStage P md ops Q S k (fuel + 1) listed a w := by
  intro fuel
  induction fuel with
  | zero =>
    intro listed a w _ hr hy hS H
    refine ⟨fun h => (by rw [h] at hr; cases hr), fun j hj => ?_⟩
    by_cases hji : j = i
    · subst hji; exact hy.wpOp hi trivial ⟨fun h => hS (by rw [getD_set_ne true hik] at h; exact h), H⟩
    · have := ready_mono hj hji
      rw [H.1] at this
      cases this
  | succ fuel ih =>
    intro listed a w hfree hr hy hS H
    refine ⟨fun h => (by rw [h] at hr; cases hr), fun j hj => ?_⟩
    by_cases hji : j = i
    · subst hji; exact hy.wpOp hi trivial ⟨fun h => hS (by rw [getD_set_ne true hik] at h; exact h), H⟩
    · have h1 := H.2 j (ready_mono hj hji)
      obtain ⟨hjun, oj, hoj, hall⟩ := mem_ready.1 hj
      have hnot : ∀ e ∈ oj.after, Region.binds md e = true → e.on ≠ i := fun e he hb heq => by
        have h1 := hall e he hb
        have h0 := (mem_ready.1 hr).1
        rw [heq] at h1
        rcases Nat.lt_or_ge i listed.size with h' | h'
        · simp [h'] at h0 h1; rw [h0] at h1; cases h1
        · simp [Array.getElem?_eq_none h'] at h1
      have h2 := wpOp_putIf hoj (hfree j oj hoj hji hjun hnot) (fun cs b => hsel i oi cs b hi) (fun cs b => hsel j oj cs b hoj) hQ hy h1
      have hfree' : ∀ m om, ops[m]? = some om → m ≠ i → (listed.setIfInBounds j true).getD m true = false →
          (∀ e ∈ om.after, Region.binds md e = true → e.on ≠ i) → oi.apart ops om = true := fun m om hm hmi hun hno => by
        refine hfree m om hm hmi ?_ hno
        by_cases hjm : j = m
        · subst hjm; exact hjun
        · rw [getD_set_ne true hjm] at hun; exact hun
      have hsw : ∀ w', (((listed.setIfInBounds i true).setIfInBounds j true).getD k true = false → S w') → ((listed.setIfInBounds j true).getD k true = false → S w') := fun w' h3 h => h3 (by rw [Array.setIfInBounds_comm _ _ (Ne.symm hji), getD_set_ne true hik]; exact h)
      refine wpOp_mono (fun a' w' h3 => ⟨hsw w' h3.2.1, ih (listed.setIfInBounds j true) a' w' hfree' (ready_mono hr (Ne.symm hji)) h3.1 (hsw w' h3.2.1) ?_⟩) h2
      rw [Array.setIfInBounds_comm _ _ hji]
      exact h3.2.2
theorem wpStage_free {i : Nat} {oi : Oper} {v : Value} {fuel : Nat} {listed : Array Bool} {a : Act} {w : World} (hi : ops[i]? = some oi) (hg : oi.guard = none)
    (hs : (Region.noSelect ops && Region.free md ops listed i && (Region.ready md ops listed).contains i && i != k) = true)
    (hQ : ∀ c a w, Q (.panic c) (a.put oi.dst v) w → Q (.panic c) a w) (hy : ∀ w, (execOp a.eval oi).run P w = .ok (.value v) w) (hS : listed.getD k true = true ∨ S w)
    (h : wpStage P md ops Q S k fuel (listed.setIfInBounds i true) (a.put oi.dst v) w) : wpStage P md ops Q S k (fuel + 1) listed a w := by
  simp only [Bool.and_eq_true] at hs
  obtain ⟨⟨⟨h1, h2⟩, h3⟩, h4⟩ := hs
  refine wpStage_first0 hi (Region.noSelect_spec h1) hQ (by simpa using h4) fuel listed a w (Region.free_spec hi h2) (by simpa using h3) (.inl ⟨by simp [Region.wanted, hg], fun w _ => hy w⟩) (fun hf => ?_) h
  rcases hS with hS | hS
  · rw [hS] at hf; cases hf
  · exact hS
/-- The beginning, the world forgotten but for S. -/
theorem wp_region_open (S : World → Prop) (k : Nat) {id : Nat} {a : Act} {w : World} (hm : P.follows .mixedOrders = true) (hS : S w.drew)
    (h : ∀ W, S W → wpStage P .any ops Q S k ops.size (Array.replicate ops.size false) a W) : (Code.region id ops true).wp P Q a w :=
  wp_region_any hm (wpAny_of_stage _ _ _ _ (h _ hS))
end
end Go.Proofs.Ytejandeehmnibaa
