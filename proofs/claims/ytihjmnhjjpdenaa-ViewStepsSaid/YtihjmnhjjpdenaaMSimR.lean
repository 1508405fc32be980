/- States that say less; results: of no program. Conditions: none. -/
import Derived.Test.YtihjmnhjjpdenaaMSimCl
section
namespace Go.Proofs.Ytihjmnhjjpdenaa.Sim
open Go Go.RowKit Go.Deep
set_option linter.unusedVariables false

section
variable {P : Program} {cx : Cx} {s : St} {a : Act} {w : World}
theorem Rel.skip (h : Rel cx s a w) {dst : Option Nat} (hd : ∀ d, dst = some d → d < cx.N) : Rel cx (s.put dst (.tu []) []) (a.put dst undef) w := by
  obtain ⟨hd1, S, hm, hv, hfr, hdef, hsz, hsub, hle⟩ := h
  exact Rel.put hv hfr hdef hsz hsub hle (Out.refl hm) hd (by simp only [VR]; exact ⟨[], rfl, by simp [VRs]⟩)
theorem Rel.drew (h : Rel cx s a w) : Rel cx s a { w with drawn := w.drawn + 1 } := by
  obtain ⟨hd1, S, hm, hv, hfr, hdef, hsz, hsub, hle⟩ := h
  have hk : ∀ b, S b → b < w.heap.size → S b ∧ ({ w with drawn := w.drawn + 1 } : World).heap[b]? = w.heap[b]? := fun b h _ => ⟨h, rfl⟩
  refine ⟨hd1, S, ?_, fun t => VR.keep (Le.refl _ _) hk _ _ (hv t), ⟨hfr.os, hfr.tape, hfr.output, hfr.size, hfr.block⟩, hdef, hsz, hsub, hle⟩
  exact Mem.next (Z := fun _ => False) hm (Nat.le_refl _) (fun _ _ _ => rfl) (fun _ _ h => h) (fun _ h => h) hm.lt (Le.refl _ _) (fun i o h => .inl ⟨h, rfl, fun b hl hb => ⟨fun h => h, (hm.blk h hl hb).2.1⟩⟩) hm.sep
theorem yields_ok {ops : Array Oper} {j t : Nat} {c : Option Bool} (h : Rel cx s a w) (hj : (ops[j]?).bind (·.dst) = some t) (ht : gv (s.T t) = some c) : yielded ops a.tmps j = c := by
  obtain ⟨hd1, S, hm, hv, _⟩ := h
  have h1 := hv t
  unfold yielded
  rw [hj]
  simp only [Option.bind_some]
  unfold gv at ht
  split at ht
  · rename_i b hT
    cases ht
    rw [hT] at h1
    have h2 := h1.at_
    rw [Array.getD_eq_getD_getElem?] at h2
    cases h3 : a.tmps[t]? with
    | none => rw [h3] at h2; simp [undef] at h2
    | some u => rw [h3] at h2; simp only [Option.getD_some] at h2; rw [h2]
  · rename_i hT
    cases ht
    rw [hT] at h1
    simp only [VR, VRs] at h1
    obtain ⟨vs, h2, rfl⟩ := h1
    rw [Array.getD_eq_getD_getElem?] at h2
    cases h3 : a.tmps[t]? with
    | none => rfl
    | some u => rw [h3] at h2; simp only [Option.getD_some] at h2; rw [h2]
  · cases ht
theorem awpOps_ok {N : Nat} {ops : Array Oper} {Q : Exit → Act → World → Prop} {K : St → Prop} (hN : cx.N = N) (hK : ∀ s a w, K s → Rel cx s a w → Q .normal a w) : ∀ {l : List Oper} {aos : List AO} {s : St} {a : Act} {w : World}, opAs P N ops l = some aos → awpOps P aos s K → Rel cx s a w → wpList P ops Q l a w
  | [], aos, s, a, w, h, hs, hR => by
    simp only [opAs, Option.some.injEq] at h
    subst h
    exact hK s a w hs hR
  | o :: l, aos, s, a, w, h, hs, hR => by
    unfold opAs at h
    split at h
    · rename_i ao aos' h1 h2
      cases h
      obtain ⟨xs, ts, _, _, g3, g4, _, g5⟩ := opA_ok h1
      have hd : ∀ d, o.dst = some d → d < cx.N := by rw [hN]; exact g4
      unfold wpList
      unfold awpOps at hs
      cases hg : o.guard with
      | none =>
        rw [hg] at g5
        simp only at g5
        rw [g5] at hs
        obtain ⟨v, us, h3, h4⟩ := hs
        rw [if_pos (by simp [Region.wanted, hg])]
        exact .inl (step_ok hN h1 hR h3 fun a' w' h => awpOps_ok hN hK h2 h4 h)
      | some p =>
        obtain ⟨j, b⟩ := p
        rw [hg] at g5
        obtain ⟨t, g6, g7⟩ := g5
        rw [g7] at hs
        obtain ⟨c, h3, h4, h5⟩ := hs
        have hy := yields_ok hR g6 h3
        by_cases hcb : c = some b
        · obtain ⟨v, us, h6, h7⟩ := h4 hcb
          rw [if_pos (by simp [Region.wanted, hg, hy, hcb])]
          exact .inl (step_ok hN h1 hR h6 fun a' w' h => awpOps_ok hN hK h2 h7 h)
        · have h7 := h5 hcb
          rw [if_neg (by simp [Region.wanted, hg, hy, hcb])]
          rw [g3] at h7
          exact awpOps_ok hN hK h2 h7 (hR.skip hd)
    · cases h

/-! ### Code -/
def Awp (P : Program) (cx : Cx) (c : AC) (Q : Exit → St → Prop) (s : St) : Prop :=
  ∀ code, compile P cx.N code = some c → ∀ a w, Rel cx s a w → code.wp P (fun e a' w' => ∃ s', Q e s' ∧ Rel cx s' a' w') a w
def thenE (next : St → Prop) (Q : Exit → St → Prop) : Exit → St → Prop
  | .normal, s => next s
  | e, s => Q e s
def blockE (id : Nat) (Q : Exit → St → Prop) : Exit → St → Prop
  | .exit id', s => if id' = id then Q .normal s else Q (.exit id') s
  | e, s => Q e s
variable {Q Q' : Exit → St → Prop}
theorem Awp.mono {c : AC} (h : Awp P cx c Q s) (hq : ∀ e s, Q e s → Q' e s) : Awp P cx c Q' s := fun code hc a w hR => wp_mono (h code hc a w hR) fun e a' w' ⟨s', h1, h2⟩ => ⟨s', hq e s' h1, h2⟩
theorem Awp.skip (h : Q .normal s) : Awp P cx .skip Q s := by
  intro code hc a w hR
  cases code <;> simp [compile] at hc
  · exact wp_skip ⟨s, h, hR⟩
  all_goals ((try unfold compile at hc); first | (split at hc <;> (first | (cases hc; done) | (simp at hc; done))) | (simp at hc; done))
theorem Awp.seq {x y : AC} (h : Awp P cx x (thenE (Awp P cx y Q) Q) s) : Awp P cx (.seq x y) Q s := by
  intro code hc a w hR
  cases code <;> try (simp [compile] at hc; done)
  case seq c1 c2 =>
    unfold compile at hc
    split at hc
    · rename_i x' y' h1 h2
      cases hc
      refine wp_seq (wp_mono (h c1 h1 a w hR) fun e a' w' ⟨s', h3, h4⟩ => ?_)
      cases e with
      | normal => exact h3 c2 h2 a' w' h4
      | _ => exact ⟨s', h3, h4⟩
    · cases hc
  all_goals ((try unfold compile at hc); first | (split at hc <;> (first | (cases hc; done) | (simp at hc; done))) | (simp at hc; done))
theorem Awp.cond {c : AV} {x y : AC} (t : Bool) (hc : ev s.T c = .d (.at (.bool t))) (h1 : t = true → Awp P cx x Q s) (h2 : t = false → Awp P cx y Q s) : Awp P cx (.cond c x y) Q s := by
  intro code hcomp a w hR
  cases code <;> try (simp [compile] at hcomp; done)
  case cond c' c1 c2 =>
    unfold compile at hcomp
    split at hcomp
    · rename_i c'' x' y' g1 g2 g3
      cases hcomp
      have hR' := hR
      obtain ⟨hd1, S, hm, hv, _⟩ := hR'
      have hcv := av_ok (a := a) hv g1
      rw [hc] at hcv
      refine wp_cond_split hcv.at_ (fun e => h1 e c1 g2 a w hR) (fun e => h2 e c2 g3 a w hR)
    · cases hcomp
  all_goals ((try unfold compile at hcomp); first | (split at hcomp <;> (first | (cases hcomp; done) | (simp at hcomp; done))) | (simp at hcomp; done))
theorem Awp.condU {c : AV} {x y : AC} (hc : ev s.T c = .ub) (h1 : Awp P cx x Q s) (h2 : Awp P cx y Q s) : Awp P cx (.cond c x y) Q s := by
  intro code hcomp a w hR
  cases code <;> try (simp [compile] at hcomp; done)
  case cond c' c1 c2 =>
    unfold compile at hcomp
    split at hcomp
    · rename_i c'' x' y' g1 g2 g3
      cases hcomp
      have hR' := hR
      obtain ⟨hd1, S, hm, hv, _⟩ := hR'
      have hcv := av_ok (a := a) hv g1
      rw [hc] at hcv
      simp only [VR] at hcv
      obtain ⟨t, ht⟩ := hcv
      refine wp_cond_split ht (fun e => h1 c1 g2 a w hR) (fun e => h2 c2 g3 a w hR)
    · cases hcomp
  all_goals ((try unfold compile at hcomp); first | (split at hcomp <;> (first | (cases hcomp; done) | (simp at hcomp; done))) | (simp at hcomp; done))
theorem Awp.block {id : Nat} {x : AC} (h : Awp P cx x (blockE id Q) s) : Awp P cx (.block id x) Q s := by
  intro code hc a w hR
  cases code <;> try (simp [compile] at hc; done)
  case block id' c1 =>
    simp only [compile, Option.map_eq_some_iff] at hc
    obtain ⟨x', h1, h2⟩ := hc
    cases h2
    refine wp_block (wp_mono (h c1 h1 a w hR) fun e a' w' ⟨s', h3, h4⟩ => ?_)
    cases e with
    | exit id' =>
      simp only [blockE, Exit.inBlock] at h3 ⊢
      split
      · rename_i e; rw [if_pos e] at h3; exact ⟨s', h3, h4⟩
      · rename_i e; rw [if_neg e] at h3; exact ⟨s', h3, h4⟩
    | _ => exact ⟨s', h3, h4⟩
  all_goals ((try unfold compile at hc); first | (split at hc <;> (first | (cases hc; done) | (simp at hc; done))) | (simp at hc; done))
theorem Awp.exit {id : Nat} (h : Q (.exit id) s) : Awp P cx (.exit id) Q s := by
  intro code hc a w hR
  cases code <;> try (simp [compile] at hc; done)
  case exit id' => simp [compile] at hc; subst hc; exact wp_exit ⟨s, h, hR⟩
  all_goals ((try unfold compile at hc); first | (split at hc <;> (first | (cases hc; done) | (simp at hc; done))) | (simp at hc; done))
theorem Awp.ret (h : Q .ret s) : Awp P cx .ret Q s := by
  intro code hc a w hR
  cases code <;> try (simp [compile] at hc; done)
  case ret => exact wp_ret ⟨s, h, hR⟩
  all_goals ((try unfold compile at hc); first | (split at hc <;> (first | (cases hc; done) | (simp at hc; done))) | (simp at hc; done))
theorem Awp.region {ops : List AO} (h : awpOps P ops s (Q .normal)) : Awp P cx (.region ops false) Q s := by
  intro code hc a w hR
  cases code <;> try (simp [compile] at hc; done)
  case region id ops' draw =>
    unfold compile at hc
    split at hc
    · cases hc
    simp only [Option.map_eq_some_iff] at hc
    obtain ⟨l, h1, h2⟩ := hc
    cases h2
    refine wp_region ?_
    have e := wpOps_eq_wpList (P := P) (ops := ops') (Q := fun e a' w' => ∃ s', Q e s' ∧ Rel cx s' a' w') ops'.toList 0 (fun j => by simp)
    have e2 : List.range ops'.size = List.range' 0 ops'.toList.length := by rw [List.range_eq_range']; simp
    rw [e2, e]
    exact awpOps_ok rfl (fun s a w h1 h2 => ⟨s, h1, h2⟩) h1 h hR
  all_goals ((try unfold compile at hc); first | (split at hc <;> (first | (cases hc; done) | (simp at hc; done))) | (simp at hc; done))
theorem Awp.clr {c : Clr} {i ver : Nat} {n : Nat} {kk : IntKind} {ll : List (List D)} (hT : s.T c.sl = .og i ver) (hI : s.T c.il = .d (.at (.int kk n))) (hm : s.m i = some (.arr ver c.k true ll)) (hn : n ≤ ll.length)
    (h : Q .normal (((s.put (some c.d1) (.og i ver) []).put (some c.d2) (.d (.at (.int kk n))) []).put (some c.d3) .un [(i, .arr ver c.k true (clrL c.k c.z ll n))])) : Awp P cx (.clr c) Q s := by
  intro code hc a w hR
  cases code <;> try (simp [compile] at hc; done)
  case region id ops' draw =>
    unfold compile at hc
    split at hc
    · rename_i c' h1
      cases hc
      obtain ⟨rfl, h2⟩ := clr_wp (ops := ops') (Q := fun e a' w' => ∃ s', Q e s' ∧ Rel cx s' a' w') h1 rfl hR hT hI hm hn fun a' w' h' => ⟨_, h, h'⟩
      refine wp_region ?_
      have e := wpOps_eq_wpList (P := P) (ops := ops') (Q := fun e a' w' => ∃ s', Q e s' ∧ Rel cx s' a' w') ops'.toList 0 (fun j => by simp)
      have e2 : List.range ops'.size = List.range' 0 ops'.toList.length := by rw [List.range_eq_range']; simp
      rw [e2, e]
      exact h2
    · simp at hc
  all_goals ((try unfold compile at hc); first | (split at hc <;> (first | (cases hc; done) | (simp at hc; done))) | (simp at hc; done))
/-- A LOOP: the states at its head are those of I, the measure falls. -/
theorem Awp.loop {x : AC} (I : St → Prop) (μ : St → Nat) (h0 : I s) (hr : ∀ s, I s → Awp P cx x (thenE (fun s' => I s' ∧ μ s' < μ s) Q) s) : Awp P cx (.loop x) Q s := by
  intro code hc a w hR
  cases code <;> try (simp [compile] at hc; done)
  case loop c1 =>
    simp only [compile, Option.map_eq_some_iff] at hc
    obtain ⟨x', h1, h2⟩ := hc
    cases h2
    intro b k cs
    have key : ∀ n s a w, μ s = n → I s → Rel cx s a w → ∃ e a' w', (∃ s', Q e s' ∧ Rel cx s' a' w') ∧ Arrives P (lone (b.at a (.code c1 :: .inLoop c1 :: k)) cs w) b k cs e a' w' := by
      intro n
      induction n using Nat.strongRecOn with
      | _ n ih =>
        intro s a w hn hI hR
        obtain ⟨e, a₁, w₁, ⟨s₁, hq, hR₁⟩, harr⟩ := hr s hI c1 h1 a w hR b (.inLoop c1 :: k) cs
        cases e with
        | normal =>
          obtain ⟨hI₁, hlt⟩ := hq
          obtain ⟨e₂, a₂, w₂, hq₂, harr₂⟩ := ih (μ s₁) (hn ▸ hlt) s₁ a₁ w₁ rfl hI₁ hR₁
          exact ⟨e₂, a₂, w₂, hq₂, .of_steps (Steps.trans harr (.one step_inLoop)) harr₂⟩
        | exit id => exact ⟨_, a₁, w₁, ⟨s₁, hq, hR₁⟩, .pass (x := .inLoop c1) rfl (fun _ _ => .inl (by simp)) harr⟩
        | goto l => exact ⟨_, a₁, w₁, ⟨s₁, hq, hR₁⟩, .pass (x := .inLoop c1) rfl (fun _ _ => .inl (by simp)) harr⟩
        | ret => exact ⟨_, a₁, w₁, ⟨s₁, hq, hR₁⟩, .pass (x := .inLoop c1) rfl (fun _ _ => .inl (by simp)) harr⟩
        | panic ch => exact ⟨_, a₁, w₁, ⟨s₁, hq, hR₁⟩, .pass (x := .inLoop c1) rfl (fun _ _ => .inl (by simp)) harr⟩
        | outgrown => exact ⟨_, a₁, w₁, ⟨s₁, hq, hR₁⟩, .pass (x := .inLoop c1) rfl (fun _ _ => .inl (by simp)) harr⟩
    obtain ⟨e, a', w', hq, harr⟩ := key _ s a w rfl h0 hR
    exact ⟨e, a', w', hq, .of_steps (.one step_loop) harr⟩
  all_goals ((try unfold compile at hc); first | (split at hc <;> (first | (cases hc; done) | (simp at hc; done))) | (simp at hc; done))
end
end Go.Proofs.Ytihjmnhjjpdenaa.Sim
end
section
namespace Go.Proofs.Ytihjmnhjjpdenaa.Sim
open Go Go.RowKit Go.Deep
set_option linter.unusedVariables false

/-- Values by their places. -/
def tl : List (Nat × V) → Nat → V
  | [] => fun _ => .un
  | (i, v) :: r => up (tl r) i v

/-! ### A state that says less -/
mutual
def W (m m0 : M) (ad : List Nat) : V → V → Prop
  | _, .un => True
  | .d x, .d y => x = y
  | .nl _, .nl _ => True
  | .nl _, .d y => ∃ k, y = .sl k []
  | .nl _, .og i v => i ∈ ad ∧ v = 0
  | .z0, .z0 => True
  | .ub, .ub => True
  | .og i v, .og j u => i = j ∧ v = u ∧ i ∉ ad ∧ (m0 i).isSome = true
  | .og i v, .d y => ∃ k l, m i = some (.arr v k false l) ∧ y = .sl k l
  | .bp i v o, .bp j u q => i = j ∧ v = u ∧ o = q ∧ i ∉ ad ∧ (m0 i).isSome = true
  | .ep i v e o, .ep j u e' q => i = j ∧ v = u ∧ e = e' ∧ o = q ∧ i ∉ ad ∧ (m0 i).isSome = true
  | .fp cs o, .fp cs' q => cs = cs' ∧ o = q
  | .cl f l, .cl g l' => f = g ∧ Ws m m0 ad l l'
  | .ag l, .ag l' => Ws m m0 ad l l'
  | .tu l, .tu l' => Ws m m0 ad l l'
  | _, _ => False
def Ws (m m0 : M) (ad : List Nat) : List V → List V → Prop
  | [], [] => True
  | x :: l, y :: l' => W m m0 ad x y ∧ Ws m m0 ad l l'
  | _, _ => False
end
section
variable {m m0 : M} {hd hd0 : H} {w : World} {S X : Nat → Prop} {B : Nat} {ad : List Nat}
mutual
theorem W_ok (hm : Mem m hd w S X B) (h0 : ∀ i o, i ∉ ad → m0 i = some o → ∃ o', m i = some o' ∧ o'.ver = o.ver ∧ o'.kind = o.kind) (hh : ∀ i, i ∉ ad → hd0 i = hd i) (ha : ∀ i, i ∈ ad → hd0 i = .slice none 0 0 ∧ ∃ k mu l, m0 i = some (.arr 0 k mu l)) :
    ∀ (x y : V) (u : Value), W m m0 ad x y → VR m hd w S x u → VR m0 hd0 w S y u
  | x, .un, u, _, _ => by simp only [VR]
  | .d x, .d y, u, h, hv => by simp only [W] at h; subst h; simp only [VR] at hv ⊢; exact hv
  | .nl _, .nl _, u, h, hv => by simp only [VR] at hv ⊢; exact hv
  | .nl _, .d y, u, h, hv => by
    simp only [W] at h
    obtain ⟨k, rfl⟩ := h
    simp only [VR] at hv ⊢
    subst hv
    simp only [D.is]
    exact ⟨none, 0, [], rfl, Nat.le_refl _, Nat.zero_le _, by simp [Rows], fun h => absurd h (by simp)⟩
  | .nl _, .og i v, u, h, hv => by
    simp only [W] at h
    obtain ⟨h1, rfl⟩ := h
    obtain ⟨h2, k, mu, l, h3⟩ := ha i h1
    simp only [VR] at hv ⊢
    subst hv
    exact ⟨rfl, _, h3, Nat.le_refl _, fun _ _ _ _ => h2.symm⟩
  | .z0, .z0, u, h, hv => by simp only [VR] at hv ⊢; exact hv
  | .ub, .ub, u, h, hv => by simp only [VR] at hv ⊢; exact hv
  | .og i v, .og j v', u, h, hv => by
    simp only [W] at h
    obtain ⟨rfl, rfl, h1, h2⟩ := h
    obtain ⟨o, ho⟩ := Option.isSome_iff_exists.1 h2
    obtain ⟨o', k1, k2, k3⟩ := h0 i o h1 ho
    simp only [VR] at hv ⊢
    obtain ⟨g0, y, g1, g2, g3⟩ := hv
    rw [k1] at g1
    cases g1
    refine ⟨g0, o, ho, by omega, fun k mu l e => ?_⟩
    subst e
    rw [hh i h1]
    cases o' with
    | box v' cs => simp [O.kind] at k3
    | arr v' k' mu' l' => simp only [O.ver] at k2 g2; subst k2; exact g3 k' mu' l' (by rfl)
  | .og i v, .d y, u, h, hv => by
    simp only [W] at h
    obtain ⟨k, l, h1, rfl⟩ := h
    have h2 := hm.obj i _ h1
    simp only [O.is, Bool.false_eq_true, if_false] at h2
    have := og_ok hv h1
    subst this
    simp only [VR]
    exact h2
  | .bp i v q, .bp j v' q', u, h, hv => by
    simp only [W] at h
    obtain ⟨rfl, rfl, rfl, h1, h2⟩ := h
    obtain ⟨o, ho⟩ := Option.isSome_iff_exists.1 h2
    obtain ⟨o', k1, k2, k3⟩ := h0 i o h1 ho
    simp only [VR] at hv ⊢
    obtain ⟨g0, y, g1, g2, g3⟩ := hv
    rw [k1] at g1
    cases g1
    refine ⟨g0, o, ho, by omega, fun cs e => ?_⟩
    subst e
    rw [hh i h1]
    cases o' with
    | arr v' k' mu' l' => simp [O.kind] at k3
    | box v' cs' => simp only [O.ver] at k2 g2; subst k2; exact g3 cs' (by rfl)
  | .ep i v e q, .ep j v' e' q', u, h, hv => by
    simp only [W] at h
    obtain ⟨rfl, rfl, rfl, rfl, h1, h2⟩ := h
    obtain ⟨o, ho⟩ := Option.isSome_iff_exists.1 h2
    obtain ⟨o', k1, k2, k3⟩ := h0 i o h1 ho
    simp only [VR] at hv ⊢
    obtain ⟨g0, y, g1, g2, g3⟩ := hv
    rw [k1] at g1
    cases g1
    refine ⟨g0, o, ho, by omega, fun k mu l e => ?_, fun cs e => ?_⟩
    · subst e
      rw [hh i h1]
      cases o' with
      | box v' cs => simp [O.kind] at k3
      | arr v' k' mu' l' =>
        simp only [O.ver] at k2 g2
        simp only [O.kind, Option.some.injEq] at k3
        subst k2
        subst k3
        exact g3.1 k' mu' l' (by rfl)
    · subst e
      rw [hh i h1]
      cases o' with
      | arr v' k' mu' l' => simp [O.kind] at k3
      | box v' cs' => simp only [O.ver] at k2 g2; subst k2; exact g3.2 cs' (by rfl)
  | .fp cs q, .fp cs' q', u, h, hv => by
    simp only [W] at h
    obtain ⟨rfl, rfl⟩ := h
    simp only [VR] at hv ⊢
    exact hv
  | .cl f l, .cl g l', u, h, hv => by
    simp only [W] at h
    obtain ⟨rfl, h⟩ := h
    simp only [VR] at hv ⊢
    obtain ⟨vs, e, h1⟩ := hv
    exact ⟨vs, e, Ws_ok hm h0 hh ha l l' vs h h1⟩
  | .ag l, .ag l', u, h, hv => by
    simp only [W] at h
    simp only [VR] at hv ⊢
    obtain ⟨vs, e, h1, h2⟩ := hv
    exact ⟨vs, e, Ws_ok hm h0 hh ha l l' vs h h1, h2⟩
  | .tu l, .tu l', u, h, hv => by
    simp only [W] at h
    simp only [VR] at hv ⊢
    obtain ⟨vs, e, h1⟩ := hv
    exact ⟨vs, e, Ws_ok hm h0 hh ha l l' vs h h1⟩
  | .un, .ub, u, h, _ | .un, .d _, u, h, _ | .un, .nl _, u, h, _ | .un, .z0, u, h, _ | .un, .og _ _, u, h, _ | .un, .bp _ _ _, u, h, _ | .un, .ep _ _ _ _, u, h, _ | .un, .fp _ _, u, h, _ | .un, .cl _ _, u, h, _ | .un, .ag _, u, h, _ | .un, .tu _, u, h, _ => by simp [W] at h
  | .d _, .ub, u, h, _ | .d _, .nl _, u, h, _ | .d _, .z0, u, h, _ | .d _, .og _ _, u, h, _ | .d _, .bp _ _ _, u, h, _ | .d _, .ep _ _ _ _, u, h, _ | .d _, .fp _ _, u, h, _ | .d _, .cl _ _, u, h, _ | .d _, .ag _, u, h, _ | .d _, .tu _, u, h, _ => by simp [W] at h
  | .nl _, .ub, u, h, _ | .nl _, .z0, u, h, _ | .nl _, .bp _ _ _, u, h, _ | .nl _, .ep _ _ _ _, u, h, _ | .nl _, .fp _ _, u, h, _ | .nl _, .cl _ _, u, h, _ | .nl _, .ag _, u, h, _ | .nl _, .tu _, u, h, _ => by simp [W] at h
  | .z0, .ub, u, h, _ | .z0, .d _, u, h, _ | .z0, .nl _, u, h, _ | .z0, .og _ _, u, h, _ | .z0, .bp _ _ _, u, h, _ | .z0, .ep _ _ _ _, u, h, _ | .z0, .fp _ _, u, h, _ | .z0, .cl _ _, u, h, _ | .z0, .ag _, u, h, _ | .z0, .tu _, u, h, _ => by simp [W] at h
  | .og _ _, .ub, u, h, _ | .og _ _, .nl _, u, h, _ | .og _ _, .z0, u, h, _ | .og _ _, .bp _ _ _, u, h, _ | .og _ _, .ep _ _ _ _, u, h, _ | .og _ _, .fp _ _, u, h, _ | .og _ _, .cl _ _, u, h, _ | .og _ _, .ag _, u, h, _ | .og _ _, .tu _, u, h, _ => by simp [W] at h
  | .bp _ _ _, .ub, u, h, _ | .bp _ _ _, .d _, u, h, _ | .bp _ _ _, .nl _, u, h, _ | .bp _ _ _, .z0, u, h, _ | .bp _ _ _, .og _ _, u, h, _ | .bp _ _ _, .ep _ _ _ _, u, h, _ | .bp _ _ _, .fp _ _, u, h, _ | .bp _ _ _, .cl _ _, u, h, _ | .bp _ _ _, .ag _, u, h, _ | .bp _ _ _, .tu _, u, h, _ => by simp [W] at h
  | .ep _ _ _ _, .ub, u, h, _ | .ep _ _ _ _, .d _, u, h, _ | .ep _ _ _ _, .nl _, u, h, _ | .ep _ _ _ _, .z0, u, h, _ | .ep _ _ _ _, .og _ _, u, h, _ | .ep _ _ _ _, .bp _ _ _, u, h, _ | .ep _ _ _ _, .fp _ _, u, h, _ | .ep _ _ _ _, .cl _ _, u, h, _ | .ep _ _ _ _, .ag _, u, h, _ | .ep _ _ _ _, .tu _, u, h, _ => by simp [W] at h
  | .fp _ _, .ub, u, h, _ | .fp _ _, .d _, u, h, _ | .fp _ _, .nl _, u, h, _ | .fp _ _, .z0, u, h, _ | .fp _ _, .og _ _, u, h, _ | .fp _ _, .bp _ _ _, u, h, _ | .fp _ _, .ep _ _ _ _, u, h, _ | .fp _ _, .cl _ _, u, h, _ | .fp _ _, .ag _, u, h, _ | .fp _ _, .tu _, u, h, _ => by simp [W] at h
  | .cl _ _, .ub, u, h, _ | .cl _ _, .d _, u, h, _ | .cl _ _, .nl _, u, h, _ | .cl _ _, .z0, u, h, _ | .cl _ _, .og _ _, u, h, _ | .cl _ _, .bp _ _ _, u, h, _ | .cl _ _, .ep _ _ _ _, u, h, _ | .cl _ _, .fp _ _, u, h, _ | .cl _ _, .ag _, u, h, _ | .cl _ _, .tu _, u, h, _ => by simp [W] at h
  | .ag _, .ub, u, h, _ | .ag _, .d _, u, h, _ | .ag _, .nl _, u, h, _ | .ag _, .z0, u, h, _ | .ag _, .og _ _, u, h, _ | .ag _, .bp _ _ _, u, h, _ | .ag _, .ep _ _ _ _, u, h, _ | .ag _, .fp _ _, u, h, _ | .ag _, .cl _ _, u, h, _ | .ag _, .tu _, u, h, _ => by simp [W] at h
  | .tu _, .ub, u, h, _ | .tu _, .d _, u, h, _ | .tu _, .nl _, u, h, _ | .tu _, .z0, u, h, _ | .tu _, .og _ _, u, h, _ | .tu _, .bp _ _ _, u, h, _ | .tu _, .ep _ _ _ _, u, h, _ | .tu _, .fp _ _, u, h, _ | .tu _, .cl _ _, u, h, _ | .tu _, .ag _, u, h, _ => by simp [W] at h
  | .ub, .d _, u, h, _ | .ub, .nl _, u, h, _ | .ub, .z0, u, h, _ | .ub, .og _ _, u, h, _ | .ub, .bp _ _ _, u, h, _ | .ub, .ep _ _ _ _, u, h, _ | .ub, .fp _ _, u, h, _ | .ub, .cl _ _, u, h, _ | .ub, .ag _, u, h, _ | .ub, .tu _, u, h, _ => by simp [W] at h
theorem Ws_ok (hm : Mem m hd w S X B) (h0 : ∀ i o, i ∉ ad → m0 i = some o → ∃ o', m i = some o' ∧ o'.ver = o.ver ∧ o'.kind = o.kind) (hh : ∀ i, i ∉ ad → hd0 i = hd i) (ha : ∀ i, i ∈ ad → hd0 i = .slice none 0 0 ∧ ∃ k mu l, m0 i = some (.arr 0 k mu l)) :
    ∀ (l l' : List V) (us : List Value), Ws m m0 ad l l' → VRs m hd w S l us → VRs m0 hd0 w S l' us
  | [], [], us, _, h => by simp only [VRs] at h ⊢; exact h
  | x :: l, y :: l', us, h, hv => by
    simp only [Ws] at h
    simp only [VRs] at hv ⊢
    obtain ⟨u, r, e, h1, h2⟩ := hv
    exact ⟨u, r, e, W_ok hm h0 hh ha x y u h.1 h1, Ws_ok hm h0 hh ha l l' r h.2 h2⟩
  | [], _ :: _, us, h, _ => by simp [Ws] at h
  | _ :: _, [], us, h, _ => by simp [Ws] at h
end
end
end Go.Proofs.Ytihjmnhjjpdenaa.Sim
end
section
namespace Go.Proofs.Ytihjmnhjjpdenaa.Sim
open Go Go.RowKit Go.Deep
set_option linter.unusedVariables false

def TW (m m0 : M) (ad : List Nat) (T : Nat → V) : List (Nat × V) → Prop
  | [] => True
  | (t, v) :: r => W m m0 ad (T t) v ∧ TW m m0 ad T r
def MW (m m0 : M) (ad : List Nat) : U → Prop
  | [] => True
  | (i, .box v cs0) :: r => (ad.contains i = false ∧ ∃ cs, m i = some (.box v cs) ∧ Ws m m0 ad cs cs0) ∧ MW m m0 ad r
  | (i, .arr v k mu l) :: r => (if ad.contains i = true then v = 0 ∧ mu = true ∧ l = [] else m i = some (.arr v k mu l)) ∧ MW m m0 ad r
def adOK (m0 : M) : List Nat → Prop
  | [] => True
  | i :: r => (∃ k mu l, m0 i = some (.arr 0 k mu l)) ∧ adOK m0 r
def parOK (m0 : M) (ad : List Nat) : U → Prop
  | [] => True
  | (i, _) :: r => (ad.contains i = false ∧ (m0 i).isSome = true) ∧ parOK m0 ad r

section
variable {m m0 : M} {ad : List Nat}
theorem TW_ok {T : Nat → V} : ∀ {l : List (Nat × V)}, TW m m0 ad T l → ∀ t, W m m0 ad (T t) (tl l t)
  | [], _, t => by simp only [tl]; cases T t <;> simp only [W]
  | (i, v) :: r, h, t => by
    simp only [TW] at h
    simp only [tl, up]
    split
    · rename_i e; rw [e]; exact h.1
    · exact TW_ok h.2 t
theorem MW_ok : ∀ {us : U}, MW m m0 ad us → ∀ x ∈ us, (∃ i v cs0, x = (i, .box v cs0) ∧ ad.contains i = false ∧ ∃ cs, m i = some (.box v cs) ∧ Ws m m0 ad cs cs0) ∨ (∃ i v k mu l, x = (i, .arr v k mu l) ∧ if ad.contains i = true then v = 0 ∧ mu = true ∧ l = [] else m i = some (.arr v k mu l))
  | [], _, x, hx => by cases hx
  | (i, .box v cs0) :: r, h, x, hx => by
    simp only [MW] at h
    rcases List.mem_cons.1 hx with rfl | hx
    · exact .inl ⟨i, v, cs0, rfl, h.1⟩
    · exact MW_ok h.2 x hx
  | (i, .arr v k mu l) :: r, h, x, hx => by
    simp only [MW] at h
    rcases List.mem_cons.1 hx with rfl | hx
    · exact .inr ⟨i, v, k, mu, l, rfl, h.1⟩
    · exact MW_ok h.2 x hx
theorem adOK_ok : ∀ {l : List Nat}, adOK m0 l → ∀ i ∈ l, ∃ k mu l, m0 i = some (.arr 0 k mu l)
  | [], _, i, hi => by cases hi
  | j :: r, h, i, hi => by
    simp only [adOK] at h
    rcases List.mem_cons.1 hi with rfl | hi
    · exact h.1
    · exact adOK_ok h.2 i hi
theorem parOK_ok : ∀ {us : U}, parOK m0 ad us → ∀ x ∈ us, ad.contains x.1 = false ∧ (m0 x.1).isSome = true
  | [], _, i, hi => by cases hi
  | (j, o) :: r, h, i, hi => by
    simp only [parOK] at h
    rcases List.mem_cons.1 hi with rfl | hi
    · exact h.1
    · exact parOK_ok h.2 i hi
theorem Ws_len {m m0 : M} {ad : List Nat} : ∀ {l l' : List V}, Ws m m0 ad l l' → l'.length = l.length
  | [], [], _ => rfl
  | _ :: l, _ :: l', h => by simp only [Ws] at h; simp [Ws_len h.2]
  | [], _ :: _, h => by simp [Ws] at h
  | _ :: _, [], h => by simp [Ws] at h
end

section
variable {P : Program} {cx : Cx} {s : St} {a : Act} {w : World}
theorem Rel.weaken (h : Rel cx s a w) (ad : List Nat) (T0 : List (Nat × V)) (ml bx : U) (hx : cx.m0 = ups M0 bx) (hT : TW s.m (ups M0 ml) ad s.T T0) (hM : MW s.m (ups M0 ml) ad ml) (hA : adOK (ups M0 ml) ad) (hP : parOK (ups M0 ml) ad bx) : Rel cx ⟨tl T0, ups M0 ml⟩ a w := by
  obtain ⟨hd, S, hm, hv, hfr, hdef, hsz, hsub, hle⟩ := h
  let hd0 : H := fun i => if ad.contains i = true then .slice none 0 0 else hd i
  have hget : ∀ i o, ups M0 ml i = some o → (i, o) ∈ ml := fun i o h => by
    rcases ups_or i ml M0 with ⟨h1, _⟩ | ⟨o', h1, h2⟩
    · rw [h1] at h; cases h
    · rw [h2] at h; cases h; exact h1
  have hc : ∀ i, i ∈ ad ↔ ad.contains i = true := fun i => by simp
  have h0 : ∀ i o, i ∉ ad → ups M0 ml i = some o → ∃ o', s.m i = some o' ∧ o'.ver = o.ver ∧ o'.kind = o.kind := by
    intro i o hi ho
    rcases MW_ok hM _ (hget i o ho) with ⟨i', v, cs0, e, h1, cs, h2, h3⟩ | ⟨i', v, k, mu, l, e, h1⟩
    · cases e; exact ⟨_, h2, rfl, rfl⟩
    · cases e
      rw [if_neg (fun h => hi ((hc _).2 h))] at h1
      exact ⟨_, h1, rfl, rfl⟩
  have hh : ∀ i, i ∉ ad → hd0 i = hd i := fun i hi => if_neg (fun h => hi ((hc i).2 h))
  have ha : ∀ i, i ∈ ad → hd0 i = .slice none 0 0 ∧ ∃ k mu l, ups M0 ml i = some (.arr 0 k mu l) := fun i hi => ⟨if_pos ((hc i).1 hi), adOK_ok hA i hi⟩
  have hobj : ∀ i o, ups M0 ml i = some o → o.is (ups M0 ml) hd0 w S cx.X cx.w0.heap.size (hd0 i) := by
    intro i o ho
    rcases MW_ok hM _ (hget i o ho) with ⟨i', v, cs0, e, h1, cs, h2, h3⟩ | ⟨i', v, k, mu, l, e, h1⟩
    · cases e
      have hi : i ∉ ad := fun h => by rw [(hc i).1 h] at h1; cases h1
      have hob := hm.obj i _ h2
      rw [hh i hi]
      simp only [O.is] at hob ⊢
      obtain ⟨b, vs, e, g1, g2, g3, g4, g5, g6, g7⟩ := hob
      exact ⟨b, vs, e, g1, g2, g3, Ws_ok hm h0 hh ha _ _ _ h3 g4, g5, by rw [Ws_len h3]; exact g6, g7⟩
    · cases e
      by_cases hi : i ∈ ad
      · rw [if_pos ((hc i).1 hi)] at h1
        obtain ⟨rfl, rfl, rfl⟩ := h1
        rw [(ha i hi).1]
        simp only [O.is, if_true]
        exact ⟨[], by simp [Rows], .inl ⟨none, rfl, rfl⟩⟩
      · rw [if_neg (fun h => hi ((hc i).2 h))] at h1
        rw [hh i hi]
        have hob := hm.obj i _ h1
        simp only [O.is] at hob ⊢
        exact hob
  have hback : ∀ i o, ups M0 ml i = some o → o.live = true → ∀ b, blk (hd0 i) = some b → i ∉ ad ∧ ∃ o', s.m i = some o' ∧ o'.live = true ∧ blk (hd i) = some b := by
    intro i o ho hl b hb
    have hi : i ∉ ad := fun h => by rw [(ha i h).1] at hb; simp [blk] at hb
    rw [hh i hi] at hb
    refine ⟨hi, ?_⟩
    rcases MW_ok hM _ (hget i o ho) with ⟨i', v, cs0, e, h1, cs, h2, h3⟩ | ⟨i', v, k, mu, l, e, h1⟩
    · cases e; exact ⟨_, h2, rfl, hb⟩
    · cases e
      rw [if_neg (fun h => hi ((hc _).2 h))] at h1
      exact ⟨_, h1, hl, hb⟩
  refine ⟨hd0, S, ⟨hobj, ?_, hm.lt, hm.base, hm.sX⟩, fun t => W_ok hm h0 hh ha _ _ _ (TW_ok hT t) (hv t), hfr, hdef, hsz, hsub, ⟨fun i o ho => ?_⟩⟩
  · intro i j oi oj b hne hi hj li lj bi bj
    obtain ⟨_, o1, e1, l1, b1⟩ := hback i oi hi li b bi
    obtain ⟨_, o2, e2, l2, b2⟩ := hback j oj hj lj b bj
    exact hm.sep i j o1 o2 b hne e1 e2 l1 l2 b1 b2
  · obtain ⟨o1, h1, h2, h3⟩ := hle.le i o ho
    have hmem : ∃ o', (i, o') ∈ bx := by
      rw [hx] at ho
      rcases ups_or i bx M0 with ⟨h1, _⟩ | ⟨o', h1, h2⟩
      · rw [h1] at ho; cases ho
      · exact ⟨o', h1⟩
    obtain ⟨o', hmem⟩ := hmem
    obtain ⟨p1, p2⟩ := parOK_ok hP _ hmem
    have hi : i ∉ ad := fun h => by rw [(hc i).1 h] at p1; cases p1
    obtain ⟨o2, p3⟩ := Option.isSome_iff_exists.1 p2
    obtain ⟨o3, p4, p5, p6⟩ := h0 i o2 hi p3
    rw [h1] at p4
    cases p4
    refine ⟨o2, p3, by omega, fun e => ?_⟩
    obtain ⟨q1, q2⟩ := h3 (by omega)
    exact ⟨(hh i hi).trans q1, by rw [← p6]; exact q2⟩
theorem Awp.weaken {c : AC} {Q : Exit → St → Prop} {bx : U} (ad : List Nat) (T0 : List (Nat × V)) (ml : U) (hx : cx.m0 = ups M0 bx) (h : Awp P cx c Q ⟨tl T0, ups M0 ml⟩) (hT : TW s.m (ups M0 ml) ad s.T T0) (hM : MW s.m (ups M0 ml) ad ml) (hA : adOK (ups M0 ml) ad) (hP : parOK (ups M0 ml) ad bx) : Awp P cx c Q s :=
  fun code hc a w hR => h code hc a w (hR.weaken ad T0 ml bx hx hT hM hA hP)
end
/-- As Rel.weaken asks it. -/
def GeS (s : St) (ad : List Nat) (T0 : List (Nat × V)) (ml bx : U) : Prop := TW s.m (ups M0 ml) ad s.T T0 ∧ MW s.m (ups M0 ml) ad ml ∧ adOK (ups M0 ml) ad ∧ parOK (ups M0 ml) ad bx

section
variable {P : Program} {cx : Cx} {Q : Exit → St → Prop} {s : St}
/-- A LOOP: at its head the walk stands at one of the states of a family. -/
theorem Awp.loopF {ι : Type} {x : AC} {bx : U} (hx : cx.m0 = ups M0 bx) (T0 : ι → List (Nat × V)) (ml : ι → U) (μ : ι → Nat) (ad : List Nat) (i0 : ι) (h0 : GeS s ad (T0 i0) (ml i0) bx)
    (hr : ∀ i, Awp P cx x (thenE (fun s' => ∃ i', GeS s' [] (T0 i') (ml i') bx ∧ μ i' < μ i) Q) ⟨tl (T0 i), ups M0 (ml i)⟩) : Awp P cx (.loop x) Q s := by
  refine Awp.weaken (bx := bx) ad (T0 i0) (ml i0) hx ?_ h0.1 h0.2.1 h0.2.2.1 h0.2.2.2
  intro code hc a w hR
  cases code <;> try (simp [compile] at hc; done)
  case loop c1 =>
    simp only [compile, Option.map_eq_some_iff] at hc
    obtain ⟨x', h1, h2⟩ := hc
    cases h2
    intro b k cs
    have key : ∀ n i a w, μ i = n → Rel cx ⟨tl (T0 i), ups M0 (ml i)⟩ a w → ∃ e a' w', (∃ s', Q e s' ∧ Rel cx s' a' w') ∧ Arrives P (lone (b.at a (.code c1 :: .inLoop c1 :: k)) cs w) b k cs e a' w' := by
      intro n
      induction n using Nat.strongRecOn with
      | _ n ih =>
        intro i a w hn hR
        obtain ⟨e, a₁, w₁, ⟨s₁, hq, hR₁⟩, harr⟩ := hr i c1 h1 a w hR b (.inLoop c1 :: k) cs
        cases e with
        | normal =>
          obtain ⟨i', hg, hlt⟩ := hq
          obtain ⟨e₂, a₂, w₂, hq₂, harr₂⟩ := ih (μ i') (hn ▸ hlt) i' a₁ w₁ rfl (hR₁.weaken [] _ _ bx hx hg.1 hg.2.1 hg.2.2.1 hg.2.2.2)
          exact ⟨e₂, a₂, w₂, hq₂, .of_steps (Steps.trans harr (.one step_inLoop)) harr₂⟩
        | exit id => exact ⟨_, a₁, w₁, ⟨s₁, hq, hR₁⟩, .pass (x := .inLoop c1) rfl (fun _ _ => .inl (by simp)) harr⟩
        | goto l => exact ⟨_, a₁, w₁, ⟨s₁, hq, hR₁⟩, .pass (x := .inLoop c1) rfl (fun _ _ => .inl (by simp)) harr⟩
        | ret => exact ⟨_, a₁, w₁, ⟨s₁, hq, hR₁⟩, .pass (x := .inLoop c1) rfl (fun _ _ => .inl (by simp)) harr⟩
        | panic ch => exact ⟨_, a₁, w₁, ⟨s₁, hq, hR₁⟩, .pass (x := .inLoop c1) rfl (fun _ _ => .inl (by simp)) harr⟩
        | outgrown => exact ⟨_, a₁, w₁, ⟨s₁, hq, hR₁⟩, .pass (x := .inLoop c1) rfl (fun _ _ => .inl (by simp)) harr⟩
    obtain ⟨e, a', w', hq, harr⟩ := key _ i0 a w rfl hR
    exact ⟨e, a', w', hq, .of_steps (.one step_loop) harr⟩
  all_goals ((try unfold compile at hc); first | (split at hc <;> (first | (cases hc; done) | (simp at hc; done))) | (simp at hc; done))
end
end Go.Proofs.Ytihjmnhjjpdenaa.Sim
end
