/- Code on values without memory: of no program. Conditions: none. -/
import Derived.Test.YtabfajhflaladaaKSimCl
namespace Go.Proofs.Ytabfajhflaladaa.Sim
open Go Go.RowKit Go.Deep
set_option linter.unusedVariables false

section
variable {P : Program} {cx : Cx} {s : St} {a : Act} {w : World}
theorem Rel.skip (h : Rel cx s a w) {dst : Option Nat} (hd : ∀ d, dst = some d → d < cx.N) : Rel cx (s.put dst (.tu []) []) (a.put dst undef) w := by
  obtain ⟨hd1, S, hm, hv, hfr, hdef, hsz, hsub, hle⟩ := h
  exact Rel.put hv hfr hdef hsz hsub hle (Out.refl hm) hd (by simp only [VR]; exact ⟨[], rfl, by simp [VRs]⟩)
theorem Rel.drew (h : Rel cx s a w) : Rel cx s a { w with drawn := w.drawn + 1 } := by
  obtain ⟨hd1, S, hm, hv, hfr, hdef, hsz, hsub, hle⟩ := h
  have hk : ∀ b, S b → b < w.heap.size → S b ∧ ({ w with drawn := w.drawn + 1 } : World).heap[b]? = w.heap[b]? := fun b h _ => ⟨h, rfl⟩
  refine ⟨hd1, S, ?_, fun t => VR.keep (Le.refl _ _) hk _ _ (hv t), ⟨hfr.os, hfr.tape, hfr.output, hfr.size, hfr.block⟩, hdef, hsz, hsub, hle⟩
  exact Mem.next (Z := fun _ => False) hm (Nat.le_refl _) (fun _ _ _ => rfl) (fun _ _ h => h) (fun _ h => h) hm.lt (Le.refl _ _) (fun i o h => .inl ⟨h, rfl, fun b hl hb => ⟨fun h => h, (hm.blk h hl hb).2.1⟩⟩) hm.sep
theorem yields_ok {ops : Array Oper} {j t : Nat} {c : Option Bool} (h : Rel cx s a w) (hj : (ops[j]?).bind (·.dst) = some t) (ht : gv (s.T t) = some c) : yielded ops a.tmps j = c := by
  obtain ⟨hd1, S, hm, hv, _⟩ := h
  have h1 := hv t
  unfold yielded
  rw [hj]
  simp only [Option.bind_some]
  unfold gv at ht
  split at ht
  · rename_i b hT
    cases ht
    rw [hT] at h1
    have h2 := h1.at_
    rw [Array.getD_eq_getD_getElem?] at h2
    cases h3 : a.tmps[t]? with
    | none => rw [h3] at h2; simp [undef] at h2
    | some u => rw [h3] at h2; simp only [Option.getD_some] at h2; rw [h2]
  · rename_i hT
    cases ht
    rw [hT] at h1
    simp only [VR, VRs] at h1
    obtain ⟨vs, h2, rfl⟩ := h1
    rw [Array.getD_eq_getD_getElem?] at h2
    cases h3 : a.tmps[t]? with
    | none => rfl
    | some u => rw [h3] at h2; simp only [Option.getD_some] at h2; rw [h2]
  · cases ht
theorem awpOps_ok {N : Nat} {ops : Array Oper} {Q : Exit → Act → World → Prop} {K : St → Prop} (hN : cx.N = N) (hK : ∀ s a w, K s → Rel cx s a w → Q .normal a w) : ∀ {l : List Oper} {aos : List AO} {s : St} {a : Act} {w : World}, opAs P N ops l = some aos → awpOps P aos s K → Rel cx s a w → wpList P ops Q l a w
  | [], aos, s, a, w, h, hs, hR => by
    simp only [opAs, Option.some.injEq] at h
    subst h
    exact hK s a w hs hR
  | o :: l, aos, s, a, w, h, hs, hR => by
    unfold opAs at h
    split at h
    · rename_i ao aos' h1 h2
      cases h
      obtain ⟨xs, ts, _, _, g3, g4, _, g5⟩ := opA_ok h1
      have hd : ∀ d, o.dst = some d → d < cx.N := by rw [hN]; exact g4
      unfold wpList
      unfold awpOps at hs
      cases hg : o.guard with
      | none =>
        rw [hg] at g5
        simp only at g5
        rw [g5] at hs
        obtain ⟨v, us, h3, h4⟩ := hs
        rw [if_pos (by simp [Region.wanted, hg])]
        exact .inl (step_ok hN h1 hR h3 fun a' w' h => awpOps_ok hN hK h2 h4 h)
      | some p =>
        obtain ⟨j, b⟩ := p
        rw [hg] at g5
        obtain ⟨t, g6, g7⟩ := g5
        rw [g7] at hs
        obtain ⟨c, h3, h4, h5⟩ := hs
        have hy := yields_ok hR g6 h3
        by_cases hcb : c = some b
        · obtain ⟨v, us, h6, h7⟩ := h4 hcb
          rw [if_pos (by simp [Region.wanted, hg, hy, hcb])]
          exact .inl (step_ok hN h1 hR h6 fun a' w' h => awpOps_ok hN hK h2 h7 h)
        · have h7 := h5 hcb
          rw [if_neg (by simp [Region.wanted, hg, hy, hcb])]
          rw [g3] at h7
          exact awpOps_ok hN hK h2 h7 (hR.skip hd)
    · cases h

/-! ### Code -/
def Awp (P : Program) (cx : Cx) (c : AC) (Q : Exit → St → Prop) (s : St) : Prop :=
  ∀ code, compile P cx.N code = some c → ∀ a w, Rel cx s a w → code.wp P (fun e a' w' => ∃ s', Q e s' ∧ Rel cx s' a' w') a w
def thenE (next : St → Prop) (Q : Exit → St → Prop) : Exit → St → Prop
  | .normal, s => next s
  | e, s => Q e s
def blockE (id : Nat) (Q : Exit → St → Prop) : Exit → St → Prop
  | .exit id', s => if id' = id then Q .normal s else Q (.exit id') s
  | e, s => Q e s
variable {Q Q' : Exit → St → Prop}
theorem Awp.mono {c : AC} (h : Awp P cx c Q s) (hq : ∀ e s, Q e s → Q' e s) : Awp P cx c Q' s := fun code hc a w hR => wp_mono (h code hc a w hR) fun e a' w' ⟨s', h1, h2⟩ => ⟨s', hq e s' h1, h2⟩
theorem Awp.skip (h : Q .normal s) : Awp P cx .skip Q s := by
  intro code hc a w hR
  cases code <;> simp [compile] at hc
  · exact wp_skip ⟨s, h, hR⟩
  all_goals ((try unfold compile at hc); first | (split at hc <;> (first | (cases hc; done) | (simp at hc; done))) | (simp at hc; done))
theorem Awp.seq {x y : AC} (h : Awp P cx x (thenE (Awp P cx y Q) Q) s) : Awp P cx (.seq x y) Q s := by
  intro code hc a w hR
  cases code <;> try (simp [compile] at hc; done)
  case seq c1 c2 =>
    unfold compile at hc
    split at hc
    · rename_i x' y' h1 h2
      cases hc
      refine wp_seq (wp_mono (h c1 h1 a w hR) fun e a' w' ⟨s', h3, h4⟩ => ?_)
      cases e with
      | normal => exact h3 c2 h2 a' w' h4
      | _ => exact ⟨s', h3, h4⟩
    · cases hc
  all_goals ((try unfold compile at hc); first | (split at hc <;> (first | (cases hc; done) | (simp at hc; done))) | (simp at hc; done))
theorem Awp.cond {c : AV} {x y : AC} (t : Bool) (hc : ev s.T c = .d (.at (.bool t))) (h1 : t = true → Awp P cx x Q s) (h2 : t = false → Awp P cx y Q s) : Awp P cx (.cond c x y) Q s := by
  intro code hcomp a w hR
  cases code <;> try (simp [compile] at hcomp; done)
  case cond c' c1 c2 =>
    unfold compile at hcomp
    split at hcomp
    · rename_i c'' x' y' g1 g2 g3
      cases hcomp
      have hR' := hR
      obtain ⟨hd1, S, hm, hv, _⟩ := hR'
      have hcv := av_ok (a := a) hv g1
      rw [hc] at hcv
      refine wp_cond_split hcv.at_ (fun e => h1 e c1 g2 a w hR) (fun e => h2 e c2 g3 a w hR)
    · cases hcomp
  all_goals ((try unfold compile at hcomp); first | (split at hcomp <;> (first | (cases hcomp; done) | (simp at hcomp; done))) | (simp at hcomp; done))
theorem Awp.condU {c : AV} {x y : AC} (hc : ev s.T c = .ub) (h1 : Awp P cx x Q s) (h2 : Awp P cx y Q s) : Awp P cx (.cond c x y) Q s := by
  intro code hcomp a w hR
  cases code <;> try (simp [compile] at hcomp; done)
  case cond c' c1 c2 =>
    unfold compile at hcomp
    split at hcomp
    · rename_i c'' x' y' g1 g2 g3
      cases hcomp
      have hR' := hR
      obtain ⟨hd1, S, hm, hv, _⟩ := hR'
      have hcv := av_ok (a := a) hv g1
      rw [hc] at hcv
      simp only [VR] at hcv
      obtain ⟨t, ht⟩ := hcv
      refine wp_cond_split ht (fun e => h1 c1 g2 a w hR) (fun e => h2 c2 g3 a w hR)
    · cases hcomp
  all_goals ((try unfold compile at hcomp); first | (split at hcomp <;> (first | (cases hcomp; done) | (simp at hcomp; done))) | (simp at hcomp; done))
theorem Awp.block {id : Nat} {x : AC} (h : Awp P cx x (blockE id Q) s) : Awp P cx (.block id x) Q s := by
  intro code hc a w hR
  cases code <;> try (simp [compile] at hc; done)
  case block id' c1 =>
    simp only [compile, Option.map_eq_some_iff] at hc
    obtain ⟨x', h1, h2⟩ := hc
    cases h2
    refine wp_block (wp_mono (h c1 h1 a w hR) fun e a' w' ⟨s', h3, h4⟩ => ?_)
    cases e with
    | exit id' =>
      simp only [blockE, Exit.inBlock] at h3 ⊢
      split
      · rename_i e; rw [if_pos e] at h3; exact ⟨s', h3, h4⟩
      · rename_i e; rw [if_neg e] at h3; exact ⟨s', h3, h4⟩
    | _ => exact ⟨s', h3, h4⟩
  all_goals ((try unfold compile at hc); first | (split at hc <;> (first | (cases hc; done) | (simp at hc; done))) | (simp at hc; done))
theorem Awp.exit {id : Nat} (h : Q (.exit id) s) : Awp P cx (.exit id) Q s := by
  intro code hc a w hR
  cases code <;> try (simp [compile] at hc; done)
  case exit id' => simp [compile] at hc; subst hc; exact wp_exit ⟨s, h, hR⟩
  all_goals ((try unfold compile at hc); first | (split at hc <;> (first | (cases hc; done) | (simp at hc; done))) | (simp at hc; done))
theorem Awp.ret (h : Q .ret s) : Awp P cx .ret Q s := by
  intro code hc a w hR
  cases code <;> try (simp [compile] at hc; done)
  case ret => exact wp_ret ⟨s, h, hR⟩
  all_goals ((try unfold compile at hc); first | (split at hc <;> (first | (cases hc; done) | (simp at hc; done))) | (simp at hc; done))
theorem Awp.region {ops : List AO} (h : awpOps P ops s (Q .normal)) : Awp P cx (.region ops false) Q s := by
  intro code hc a w hR
  cases code <;> try (simp [compile] at hc; done)
  case region id ops' draw =>
    unfold compile at hc
    split at hc
    · cases hc
    simp only [Option.map_eq_some_iff] at hc
    obtain ⟨l, h1, h2⟩ := hc
    cases h2
    refine wp_region ?_
    have e := wpOps_eq_wpList (P := P) (ops := ops') (Q := fun e a' w' => ∃ s', Q e s' ∧ Rel cx s' a' w') ops'.toList 0 (fun j => by simp)
    have e2 : List.range ops'.size = List.range' 0 ops'.toList.length := by rw [List.range_eq_range']; simp
    rw [e2, e]
    exact awpOps_ok rfl (fun s a w h1 h2 => ⟨s, h1, h2⟩) h1 h hR
  all_goals ((try unfold compile at hc); first | (split at hc <;> (first | (cases hc; done) | (simp at hc; done))) | (simp at hc; done))
theorem Awp.clr {c : Clr} {i ver : Nat} {n : Nat} {kk : IntKind} {ll : List (List D)} (hT : s.T c.sl = .og i ver) (hI : s.T c.il = .d (.at (.int kk n))) (hm : s.m i = some (.arr ver c.k true ll)) (hn : n ≤ ll.length)
    (h : Q .normal (((s.put (some c.d1) (.og i ver) []).put (some c.d2) (.d (.at (.int kk n))) []).put (some c.d3) .un [(i, .arr ver c.k true (clrL c.k c.z ll n))])) : Awp P cx (.clr c) Q s := by
  intro code hc a w hR
  cases code <;> try (simp [compile] at hc; done)
  case region id ops' draw =>
    unfold compile at hc
    split at hc
    · rename_i c' h1
      cases hc
      obtain ⟨rfl, h2⟩ := clr_wp (ops := ops') (Q := fun e a' w' => ∃ s', Q e s' ∧ Rel cx s' a' w') h1 rfl hR hT hI hm hn fun a' w' h' => ⟨_, h, h'⟩
      refine wp_region ?_
      have e := wpOps_eq_wpList (P := P) (ops := ops') (Q := fun e a' w' => ∃ s', Q e s' ∧ Rel cx s' a' w') ops'.toList 0 (fun j => by simp)
      have e2 : List.range ops'.size = List.range' 0 ops'.toList.length := by rw [List.range_eq_range']; simp
      rw [e2, e]
      exact h2
    · simp at hc
  all_goals ((try unfold compile at hc); first | (split at hc <;> (first | (cases hc; done) | (simp at hc; done))) | (simp at hc; done))
/-- A LOOP: the states at its head are those of I, the measure falls. -/
theorem Awp.loop {x : AC} (I : St → Prop) (μ : St → Nat) (h0 : I s) (hr : ∀ s, I s → Awp P cx x (thenE (fun s' => I s' ∧ μ s' < μ s) Q) s) : Awp P cx (.loop x) Q s := by
  intro code hc a w hR
  cases code <;> try (simp [compile] at hc; done)
  case loop c1 =>
    simp only [compile, Option.map_eq_some_iff] at hc
    obtain ⟨x', h1, h2⟩ := hc
    cases h2
    intro b k cs
    have key : ∀ n s a w, μ s = n → I s → Rel cx s a w → ∃ e a' w', (∃ s', Q e s' ∧ Rel cx s' a' w') ∧ Arrives P (lone (b.at a (.code c1 :: .inLoop c1 :: k)) cs w) b k cs e a' w' := by
      intro n
      induction n using Nat.strongRecOn with
      | _ n ih =>
        intro s a w hn hI hR
        obtain ⟨e, a₁, w₁, ⟨s₁, hq, hR₁⟩, harr⟩ := hr s hI c1 h1 a w hR b (.inLoop c1 :: k) cs
        cases e with
        | normal =>
          obtain ⟨hI₁, hlt⟩ := hq
          obtain ⟨e₂, a₂, w₂, hq₂, harr₂⟩ := ih (μ s₁) (hn ▸ hlt) s₁ a₁ w₁ rfl hI₁ hR₁
          exact ⟨e₂, a₂, w₂, hq₂, .of_steps (Steps.trans harr (.one step_inLoop)) harr₂⟩
        | exit id => exact ⟨_, a₁, w₁, ⟨s₁, hq, hR₁⟩, .pass (x := .inLoop c1) rfl (fun _ _ => .inl (by simp)) harr⟩
        | goto l => exact ⟨_, a₁, w₁, ⟨s₁, hq, hR₁⟩, .pass (x := .inLoop c1) rfl (fun _ _ => .inl (by simp)) harr⟩
        | ret => exact ⟨_, a₁, w₁, ⟨s₁, hq, hR₁⟩, .pass (x := .inLoop c1) rfl (fun _ _ => .inl (by simp)) harr⟩
        | panic ch => exact ⟨_, a₁, w₁, ⟨s₁, hq, hR₁⟩, .pass (x := .inLoop c1) rfl (fun _ _ => .inl (by simp)) harr⟩
        | outgrown => exact ⟨_, a₁, w₁, ⟨s₁, hq, hR₁⟩, .pass (x := .inLoop c1) rfl (fun _ _ => .inl (by simp)) harr⟩
    obtain ⟨e, a', w', hq, harr⟩ := key _ s a w rfl h0 hR
    exact ⟨e, a', w', hq, .of_steps (.one step_loop) harr⟩
  all_goals ((try unfold compile at hc); first | (split at hc <;> (first | (cases hc; done) | (simp at hc; done))) | (simp at hc; done))
end
end Go.Proofs.Ytabfajhflaladaa.Sim
