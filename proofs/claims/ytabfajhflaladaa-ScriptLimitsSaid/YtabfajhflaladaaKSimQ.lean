/- From a function's body to what a call does: of no program. Conditions: none. -/
import Derived.Test.YtabfajhflaladaaKSimP
namespace Go.Proofs.Ytabfajhflaladaa.Sim
open Go Go.RowKit Go.Deep
set_option linter.unusedVariables false

/-- Values by their places. -/
def tl : List (Nat × V) → Nat → V
  | [] => fun _ => .un
  | (i, v) :: r => up (tl r) i v

/-! ### A state that says less -/
mutual
def W (m m0 : M) (ad : List Nat) : V → V → Prop
  | _, .un => True
  | .d x, .d y => x = y
  | .nl _, .nl _ => True
  | .nl _, .d y => ∃ k, y = .sl k []
  | .nl _, .og i v => i ∈ ad ∧ v = 0
  | .z0, .z0 => True
  | .ub, .ub => True
  | .og i v, .og j u => i = j ∧ v = u ∧ i ∉ ad ∧ (m0 i).isSome = true
  | .og i v, .d y => ∃ k l, m i = some (.arr v k false l) ∧ y = .sl k l
  | .bp i v o, .bp j u q => i = j ∧ v = u ∧ o = q ∧ i ∉ ad ∧ (m0 i).isSome = true
  | .ep i v e o, .ep j u e' q => i = j ∧ v = u ∧ e = e' ∧ o = q ∧ i ∉ ad ∧ (m0 i).isSome = true
  | .fp cs o, .fp cs' q => cs = cs' ∧ o = q
  | .cl f l, .cl g l' => f = g ∧ Ws m m0 ad l l'
  | .ag l, .ag l' => Ws m m0 ad l l'
  | .tu l, .tu l' => Ws m m0 ad l l'
  | _, _ => False
def Ws (m m0 : M) (ad : List Nat) : List V → List V → Prop
  | [], [] => True
  | x :: l, y :: l' => W m m0 ad x y ∧ Ws m m0 ad l l'
  | _, _ => False
end
section
variable {m m0 : M} {hd hd0 : H} {w : World} {S X : Nat → Prop} {B : Nat} {ad : List Nat}
mutual
theorem W_ok (hm : Mem m hd w S X B) (h0 : ∀ i o, i ∉ ad → m0 i = some o → ∃ o', m i = some o' ∧ o'.ver = o.ver ∧ o'.kind = o.kind) (hh : ∀ i, i ∉ ad → hd0 i = hd i) (ha : ∀ i, i ∈ ad → hd0 i = .slice none 0 0 ∧ ∃ k mu l, m0 i = some (.arr 0 k mu l)) :
    ∀ (x y : V) (u : Value), W m m0 ad x y → VR m hd w S x u → VR m0 hd0 w S y u
  | x, .un, u, _, _ => by simp only [VR]
  | .d x, .d y, u, h, hv => by simp only [W] at h; subst h; simp only [VR] at hv ⊢; exact hv
  | .nl _, .nl _, u, h, hv => by simp only [VR] at hv ⊢; exact hv
  | .nl _, .d y, u, h, hv => by
    simp only [W] at h
    obtain ⟨k, rfl⟩ := h
    simp only [VR] at hv ⊢
    subst hv
    simp only [D.is]
    exact ⟨none, 0, [], rfl, Nat.le_refl _, Nat.zero_le _, by simp [Rows], fun h => absurd h (by simp)⟩
  | .nl _, .og i v, u, h, hv => by
    simp only [W] at h
    obtain ⟨h1, rfl⟩ := h
    obtain ⟨h2, k, mu, l, h3⟩ := ha i h1
    simp only [VR] at hv ⊢
    subst hv
    exact ⟨rfl, _, h3, Nat.le_refl _, fun _ _ _ _ => h2.symm⟩
  | .z0, .z0, u, h, hv => by simp only [VR] at hv ⊢; exact hv
  | .ub, .ub, u, h, hv => by simp only [VR] at hv ⊢; exact hv
  | .og i v, .og j v', u, h, hv => by
    simp only [W] at h
    obtain ⟨rfl, rfl, h1, h2⟩ := h
    obtain ⟨o, ho⟩ := Option.isSome_iff_exists.1 h2
    obtain ⟨o', k1, k2, k3⟩ := h0 i o h1 ho
    simp only [VR] at hv ⊢
    obtain ⟨g0, y, g1, g2, g3⟩ := hv
    rw [k1] at g1
    cases g1
    refine ⟨g0, o, ho, by omega, fun k mu l e => ?_⟩
    subst e
    rw [hh i h1]
    cases o' with
    | box v' cs => simp [O.kind] at k3
    | arr v' k' mu' l' => simp only [O.ver] at k2 g2; subst k2; exact g3 k' mu' l' (by rfl)
  | .og i v, .d y, u, h, hv => by
    simp only [W] at h
    obtain ⟨k, l, h1, rfl⟩ := h
    have h2 := hm.obj i _ h1
    simp only [O.is, Bool.false_eq_true, if_false] at h2
    have := og_ok hv h1
    subst this
    simp only [VR]
    exact h2
  | .bp i v q, .bp j v' q', u, h, hv => by
    simp only [W] at h
    obtain ⟨rfl, rfl, rfl, h1, h2⟩ := h
    obtain ⟨o, ho⟩ := Option.isSome_iff_exists.1 h2
    obtain ⟨o', k1, k2, k3⟩ := h0 i o h1 ho
    simp only [VR] at hv ⊢
    obtain ⟨g0, y, g1, g2, g3⟩ := hv
    rw [k1] at g1
    cases g1
    refine ⟨g0, o, ho, by omega, fun cs e => ?_⟩
    subst e
    rw [hh i h1]
    cases o' with
    | arr v' k' mu' l' => simp [O.kind] at k3
    | box v' cs' => simp only [O.ver] at k2 g2; subst k2; exact g3 cs' (by rfl)
  | .ep i v e q, .ep j v' e' q', u, h, hv => by
    simp only [W] at h
    obtain ⟨rfl, rfl, rfl, rfl, h1, h2⟩ := h
    obtain ⟨o, ho⟩ := Option.isSome_iff_exists.1 h2
    obtain ⟨o', k1, k2, k3⟩ := h0 i o h1 ho
    simp only [VR] at hv ⊢
    obtain ⟨g0, y, g1, g2, g3⟩ := hv
    rw [k1] at g1
    cases g1
    refine ⟨g0, o, ho, by omega, fun k mu l e => ?_, fun cs e => ?_⟩
    · subst e
      rw [hh i h1]
      cases o' with
      | box v' cs => simp [O.kind] at k3
      | arr v' k' mu' l' =>
        simp only [O.ver] at k2 g2
        simp only [O.kind, Option.some.injEq] at k3
        subst k2
        subst k3
        exact g3.1 k' mu' l' (by rfl)
    · subst e
      rw [hh i h1]
      cases o' with
      | arr v' k' mu' l' => simp [O.kind] at k3
      | box v' cs' => simp only [O.ver] at k2 g2; subst k2; exact g3.2 cs' (by rfl)
  | .fp cs q, .fp cs' q', u, h, hv => by
    simp only [W] at h
    obtain ⟨rfl, rfl⟩ := h
    simp only [VR] at hv ⊢
    exact hv
  | .cl f l, .cl g l', u, h, hv => by
    simp only [W] at h
    obtain ⟨rfl, h⟩ := h
    simp only [VR] at hv ⊢
    obtain ⟨vs, e, h1⟩ := hv
    exact ⟨vs, e, Ws_ok hm h0 hh ha l l' vs h h1⟩
  | .ag l, .ag l', u, h, hv => by
    simp only [W] at h
    simp only [VR] at hv ⊢
    obtain ⟨vs, e, h1, h2⟩ := hv
    exact ⟨vs, e, Ws_ok hm h0 hh ha l l' vs h h1, h2⟩
  | .tu l, .tu l', u, h, hv => by
    simp only [W] at h
    simp only [VR] at hv ⊢
    obtain ⟨vs, e, h1⟩ := hv
    exact ⟨vs, e, Ws_ok hm h0 hh ha l l' vs h h1⟩
  | .un, .ub, u, h, _ | .un, .d _, u, h, _ | .un, .nl _, u, h, _ | .un, .z0, u, h, _ | .un, .og _ _, u, h, _ | .un, .bp _ _ _, u, h, _ | .un, .ep _ _ _ _, u, h, _ | .un, .fp _ _, u, h, _ | .un, .cl _ _, u, h, _ | .un, .ag _, u, h, _ | .un, .tu _, u, h, _ => by simp [W] at h
  | .d _, .ub, u, h, _ | .d _, .nl _, u, h, _ | .d _, .z0, u, h, _ | .d _, .og _ _, u, h, _ | .d _, .bp _ _ _, u, h, _ | .d _, .ep _ _ _ _, u, h, _ | .d _, .fp _ _, u, h, _ | .d _, .cl _ _, u, h, _ | .d _, .ag _, u, h, _ | .d _, .tu _, u, h, _ => by simp [W] at h
  | .nl _, .ub, u, h, _ | .nl _, .z0, u, h, _ | .nl _, .bp _ _ _, u, h, _ | .nl _, .ep _ _ _ _, u, h, _ | .nl _, .fp _ _, u, h, _ | .nl _, .cl _ _, u, h, _ | .nl _, .ag _, u, h, _ | .nl _, .tu _, u, h, _ => by simp [W] at h
  | .z0, .ub, u, h, _ | .z0, .d _, u, h, _ | .z0, .nl _, u, h, _ | .z0, .og _ _, u, h, _ | .z0, .bp _ _ _, u, h, _ | .z0, .ep _ _ _ _, u, h, _ | .z0, .fp _ _, u, h, _ | .z0, .cl _ _, u, h, _ | .z0, .ag _, u, h, _ | .z0, .tu _, u, h, _ => by simp [W] at h
  | .og _ _, .ub, u, h, _ | .og _ _, .nl _, u, h, _ | .og _ _, .z0, u, h, _ | .og _ _, .bp _ _ _, u, h, _ | .og _ _, .ep _ _ _ _, u, h, _ | .og _ _, .fp _ _, u, h, _ | .og _ _, .cl _ _, u, h, _ | .og _ _, .ag _, u, h, _ | .og _ _, .tu _, u, h, _ => by simp [W] at h
  | .bp _ _ _, .ub, u, h, _ | .bp _ _ _, .d _, u, h, _ | .bp _ _ _, .nl _, u, h, _ | .bp _ _ _, .z0, u, h, _ | .bp _ _ _, .og _ _, u, h, _ | .bp _ _ _, .ep _ _ _ _, u, h, _ | .bp _ _ _, .fp _ _, u, h, _ | .bp _ _ _, .cl _ _, u, h, _ | .bp _ _ _, .ag _, u, h, _ | .bp _ _ _, .tu _, u, h, _ => by simp [W] at h
  | .ep _ _ _ _, .ub, u, h, _ | .ep _ _ _ _, .d _, u, h, _ | .ep _ _ _ _, .nl _, u, h, _ | .ep _ _ _ _, .z0, u, h, _ | .ep _ _ _ _, .og _ _, u, h, _ | .ep _ _ _ _, .bp _ _ _, u, h, _ | .ep _ _ _ _, .fp _ _, u, h, _ | .ep _ _ _ _, .cl _ _, u, h, _ | .ep _ _ _ _, .ag _, u, h, _ | .ep _ _ _ _, .tu _, u, h, _ => by simp [W] at h
  | .fp _ _, .ub, u, h, _ | .fp _ _, .d _, u, h, _ | .fp _ _, .nl _, u, h, _ | .fp _ _, .z0, u, h, _ | .fp _ _, .og _ _, u, h, _ | .fp _ _, .bp _ _ _, u, h, _ | .fp _ _, .ep _ _ _ _, u, h, _ | .fp _ _, .cl _ _, u, h, _ | .fp _ _, .ag _, u, h, _ | .fp _ _, .tu _, u, h, _ => by simp [W] at h
  | .cl _ _, .ub, u, h, _ | .cl _ _, .d _, u, h, _ | .cl _ _, .nl _, u, h, _ | .cl _ _, .z0, u, h, _ | .cl _ _, .og _ _, u, h, _ | .cl _ _, .bp _ _ _, u, h, _ | .cl _ _, .ep _ _ _ _, u, h, _ | .cl _ _, .fp _ _, u, h, _ | .cl _ _, .ag _, u, h, _ | .cl _ _, .tu _, u, h, _ => by simp [W] at h
  | .ag _, .ub, u, h, _ | .ag _, .d _, u, h, _ | .ag _, .nl _, u, h, _ | .ag _, .z0, u, h, _ | .ag _, .og _ _, u, h, _ | .ag _, .bp _ _ _, u, h, _ | .ag _, .ep _ _ _ _, u, h, _ | .ag _, .fp _ _, u, h, _ | .ag _, .cl _ _, u, h, _ | .ag _, .tu _, u, h, _ => by simp [W] at h
  | .tu _, .ub, u, h, _ | .tu _, .d _, u, h, _ | .tu _, .nl _, u, h, _ | .tu _, .z0, u, h, _ | .tu _, .og _ _, u, h, _ | .tu _, .bp _ _ _, u, h, _ | .tu _, .ep _ _ _ _, u, h, _ | .tu _, .fp _ _, u, h, _ | .tu _, .cl _ _, u, h, _ | .tu _, .ag _, u, h, _ => by simp [W] at h
  | .ub, .d _, u, h, _ | .ub, .nl _, u, h, _ | .ub, .z0, u, h, _ | .ub, .og _ _, u, h, _ | .ub, .bp _ _ _, u, h, _ | .ub, .ep _ _ _ _, u, h, _ | .ub, .fp _ _, u, h, _ | .ub, .cl _ _, u, h, _ | .ub, .ag _, u, h, _ | .ub, .tu _, u, h, _ => by simp [W] at h
theorem Ws_ok (hm : Mem m hd w S X B) (h0 : ∀ i o, i ∉ ad → m0 i = some o → ∃ o', m i = some o' ∧ o'.ver = o.ver ∧ o'.kind = o.kind) (hh : ∀ i, i ∉ ad → hd0 i = hd i) (ha : ∀ i, i ∈ ad → hd0 i = .slice none 0 0 ∧ ∃ k mu l, m0 i = some (.arr 0 k mu l)) :
    ∀ (l l' : List V) (us : List Value), Ws m m0 ad l l' → VRs m hd w S l us → VRs m0 hd0 w S l' us
  | [], [], us, _, h => by simp only [VRs] at h ⊢; exact h
  | x :: l, y :: l', us, h, hv => by
    simp only [Ws] at h
    simp only [VRs] at hv ⊢
    obtain ⟨u, r, e, h1, h2⟩ := hv
    exact ⟨u, r, e, W_ok hm h0 hh ha x y u h.1 h1, Ws_ok hm h0 hh ha l l' r h.2 h2⟩
  | [], _ :: _, us, h, _ => by simp [Ws] at h
  | _ :: _, [], us, h, _ => by simp [Ws] at h
end
end
end Go.Proofs.Ytabfajhflaladaa.Sim
