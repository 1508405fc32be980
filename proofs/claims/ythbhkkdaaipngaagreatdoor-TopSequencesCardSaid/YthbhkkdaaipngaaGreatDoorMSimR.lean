/- States that say less; results: of no program. Conditions: none. -/
import Derived.Test.YthbhkkdaaipngaaGreatDoorMSimP
section
namespace Go.Proofs.YthbhkkdaaipngaaGreatDoor.Sim
open Go Go.RowKit Go.Deep
set_option linter.unusedVariables false

/-- Values by their places. -/
def tl : List (Nat × V) → Nat → V
  | [] => fun _ => .un
  | (i, v) :: r => up (tl r) i v

/-! ### A state that says less -/
mutual
def W (m m0 : M) (ad : List Nat) : V → V → Prop
  | _, .un => True
  | .d x, .d y => x = y
  | .nl _, .nl _ => True
  | .nl _, .d y => ∃ k, y = .sl k []
  | .nl _, .og i v => i ∈ ad ∧ v = 0
  | .z0, .z0 => True
  | .ub, .ub => True
  | .og i v, .og j u => i = j ∧ v = u ∧ i ∉ ad ∧ (m0 i).isSome = true
  | .og i v, .d y => ∃ k l, m i = some (.arr v k false l) ∧ y = .sl k l
  | .bp i v o, .bp j u q => i = j ∧ v = u ∧ o = q ∧ i ∉ ad ∧ (m0 i).isSome = true
  | .ep i v e o, .ep j u e' q => i = j ∧ v = u ∧ e = e' ∧ o = q ∧ i ∉ ad ∧ (m0 i).isSome = true
  | .fp cs o, .fp cs' q => cs = cs' ∧ o = q
  | .cl f l, .cl g l' => f = g ∧ Ws m m0 ad l l'
  | .ag l, .ag l' => Ws m m0 ad l l'
  | .tu l, .tu l' => Ws m m0 ad l l'
  | .vg i v, .vg j u => i = j ∧ v = u ∧ i ∉ ad ∧ (m0 i).isSome = true
  | .vp i v e, .vp j u e' => i = j ∧ v = u ∧ e = e' ∧ i ∉ ad ∧ (m0 i).isSome = true
  | .ot i v e, .ot j u e' => i = j ∧ v = u ∧ e = e' ∧ i ∉ ad ∧ (m0 i).isSome = true
  | .mh i v, .mh j u => i = j ∧ v = u ∧ i ∉ ad ∧ (m0 i).isSome = true
  | _, _ => False
def Ws (m m0 : M) (ad : List Nat) : List V → List V → Prop
  | [], [] => True
  | x :: l, y :: l' => W m m0 ad x y ∧ Ws m m0 ad l l'
  | _, _ => False
end
section
variable {m m0 : M} {hd hd0 : H} {w : World} {S X : Nat → Prop} {B : Nat} {ad : List Nat}
mutual
theorem W_ok (hm : Mem m hd w S X B) (h0 : ∀ i o, i ∉ ad → m0 i = some o → ∃ o', m i = some o' ∧ o'.ver = o.ver ∧ o'.kind = o.kind) (hh : ∀ i, i ∉ ad → hd0 i = hd i) (ha : ∀ i, i ∈ ad → hd0 i = .slice none 0 0 ∧ ∃ k mu l, m0 i = some (.arr 0 k mu l)) :
    ∀ (x y : V) (u : Value), W m m0 ad x y → VR m hd w S x u → VR m0 hd0 w S y u
  | x, .un, u, _, _ => by simp only [VR]
  | .d x, .d y, u, h, hv => by simp only [W] at h; subst h; simp only [VR] at hv ⊢; exact hv
  | .nl _, .nl _, u, h, hv => by simp only [VR] at hv ⊢; exact hv
  | .nl _, .d y, u, h, hv => by
    simp only [W] at h
    obtain ⟨k, rfl⟩ := h
    simp only [VR] at hv ⊢
    subst hv
    simp only [D.is]
    exact ⟨none, 0, [], rfl, Nat.le_refl _, Nat.zero_le _, by simp [Rows], fun h => absurd h (by simp)⟩
  | .nl _, .og i v, u, h, hv => by
    simp only [W] at h
    obtain ⟨h1, rfl⟩ := h
    obtain ⟨h2, k, mu, l, h3⟩ := ha i h1
    simp only [VR] at hv ⊢
    subst hv
    exact ⟨rfl, _, h3, Nat.le_refl _, fun _ _ _ _ => h2.symm⟩
  | .z0, .z0, u, h, hv => by simp only [VR] at hv ⊢; exact hv
  | .ub, .ub, u, h, hv => by simp only [VR] at hv ⊢; exact hv
  | .og i v, .og j v', u, h, hv => by
    simp only [W] at h
    obtain ⟨rfl, rfl, h1, h2⟩ := h
    obtain ⟨o, ho⟩ := Option.isSome_iff_exists.1 h2
    obtain ⟨o', k1, k2, k3⟩ := h0 i o h1 ho
    simp only [VR] at hv ⊢
    obtain ⟨g0, y, g1, g2, g3⟩ := hv
    rw [k1] at g1
    cases g1
    refine ⟨g0, o, ho, by omega, fun k mu l e => ?_⟩
    subst e
    rw [hh i h1]
    cases o' with
    | box v' cs => simp [O.kind] at k3
    | vec v' cs => simp [O.kind] at k3
    | mp v' ks => simp [O.kind] at k3
    | arr v' k' mu' l' => simp only [O.ver] at k2 g2; subst k2; exact g3 k' mu' l' (by rfl)
  | .og i v, .d y, u, h, hv => by
    simp only [W] at h
    obtain ⟨k, l, h1, rfl⟩ := h
    have h2 := hm.obj i _ h1
    simp only [O.is, Bool.false_eq_true, if_false] at h2
    have := og_ok hv h1
    subst this
    simp only [VR]
    exact h2
  | .bp i v q, .bp j v' q', u, h, hv => by
    simp only [W] at h
    obtain ⟨rfl, rfl, rfl, h1, h2⟩ := h
    obtain ⟨o, ho⟩ := Option.isSome_iff_exists.1 h2
    obtain ⟨o', k1, k2, k3⟩ := h0 i o h1 ho
    simp only [VR] at hv ⊢
    obtain ⟨g0, y, g1, g2, g3⟩ := hv
    rw [k1] at g1
    cases g1
    refine ⟨g0, o, ho, by omega, fun cs e => ?_⟩
    subst e
    rw [hh i h1]
    cases o' with
    | arr v' k' mu' l' => simp [O.kind] at k3
    | vec v' cs' => simp [O.kind] at k3
    | mp v' ks' => simp [O.kind] at k3
    | box v' cs' => simp only [O.ver] at k2 g2; subst k2; exact g3 cs' (by rfl)
  | .ep i v e q, .ep j v' e' q', u, h, hv => by
    simp only [W] at h
    obtain ⟨rfl, rfl, rfl, rfl, h1, h2⟩ := h
    obtain ⟨o, ho⟩ := Option.isSome_iff_exists.1 h2
    obtain ⟨o', k1, k2, k3⟩ := h0 i o h1 ho
    simp only [VR] at hv ⊢
    obtain ⟨g0, y, g1, g2, g3⟩ := hv
    rw [k1] at g1
    cases g1
    refine ⟨g0, o, ho, by omega, fun k mu l e => ?_, fun cs e => ?_⟩
    · subst e
      rw [hh i h1]
      cases o' with
      | box v' cs => simp [O.kind] at k3
      | vec v' cs => simp [O.kind] at k3
      | mp v' ks => simp [O.kind] at k3
      | arr v' k' mu' l' =>
        simp only [O.ver] at k2 g2
        simp only [O.kind, Option.some.injEq, Nat.add_right_cancel_iff] at k3
        subst k2
        subst k3
        exact g3.1 k' mu' l' (by rfl)
    · subst e
      rw [hh i h1]
      cases o' with
      | arr v' k' mu' l' => simp [O.kind] at k3
      | vec v' cs' => simp [O.kind] at k3
      | mp v' ks' => simp [O.kind] at k3
      | box v' cs' => simp only [O.ver] at k2 g2; subst k2; exact g3.2 cs' (by rfl)
  | .fp cs q, .fp cs' q', u, h, hv => by
    simp only [W] at h
    obtain ⟨rfl, rfl⟩ := h
    simp only [VR] at hv ⊢
    exact hv
  | .cl f l, .cl g l', u, h, hv => by
    simp only [W] at h
    obtain ⟨rfl, h⟩ := h
    simp only [VR] at hv ⊢
    obtain ⟨vs, e, h1⟩ := hv
    exact ⟨vs, e, Ws_ok hm h0 hh ha l l' vs h h1⟩
  | .ag l, .ag l', u, h, hv => by
    simp only [W] at h
    simp only [VR] at hv ⊢
    obtain ⟨vs, e, h1, h2⟩ := hv
    exact ⟨vs, e, Ws_ok hm h0 hh ha l l' vs h h1, h2⟩
  | .tu l, .tu l', u, h, hv => by
    simp only [W] at h
    simp only [VR] at hv ⊢
    obtain ⟨vs, e, h1⟩ := hv
    exact ⟨vs, e, Ws_ok hm h0 hh ha l l' vs h h1⟩
  | .vg i v, .vg j v', u, h, hv => by
    simp only [W] at h
    obtain ⟨rfl, rfl, h1, h2⟩ := h
    obtain ⟨o, ho⟩ := Option.isSome_iff_exists.1 h2
    obtain ⟨o', k1, k2, k3⟩ := h0 i o h1 ho
    simp only [VR] at hv ⊢
    obtain ⟨g0, y, g1, g2, g3⟩ := hv
    rw [k1] at g1
    cases g1
    refine ⟨g0, o, ho, by omega, fun cs e => ?_⟩
    subst e
    rw [hh i h1]
    cases o' with
    | arr v' k' mu' l' => simp [O.kind] at k3
    | box v' cs' => simp [O.kind] at k3
    | mp v' ks' => simp [O.kind] at k3
    | vec v' cs' => simp only [O.ver] at k2 g2; subst k2; exact g3 cs' (by rfl)
  | .vp i v e0, .vp j v' e1, u, h, hv => by
    simp only [W] at h
    obtain ⟨rfl, rfl, rfl, h1, h2⟩ := h
    obtain ⟨o, ho⟩ := Option.isSome_iff_exists.1 h2
    obtain ⟨o', k1, k2, k3⟩ := h0 i o h1 ho
    simp only [VR] at hv ⊢
    obtain ⟨g0, y, g1, g2, g3⟩ := hv
    rw [k1] at g1
    cases g1
    refine ⟨g0, o, ho, by omega, fun cs e => ?_⟩
    subst e
    rw [hh i h1]
    cases o' with
    | arr v' k' mu' l' => simp [O.kind] at k3
    | box v' cs' => simp [O.kind] at k3
    | mp v' ks' => simp [O.kind] at k3
    | vec v' cs' => simp only [O.ver] at k2 g2; subst k2; exact g3 cs' (by rfl)
  | .ot i v e0, .ot j v' e1, u, h, hv => by
    simp only [W] at h
    obtain ⟨rfl, rfl, rfl, h1, h2⟩ := h
    obtain ⟨o, ho⟩ := Option.isSome_iff_exists.1 h2
    obtain ⟨o', k1, k2, k3⟩ := h0 i o h1 ho
    simp only [VR] at hv ⊢
    obtain ⟨g0, y, g1, g2, g3⟩ := hv
    rw [k1] at g1
    cases g1
    refine ⟨g0, o, ho, by omega, fun k mu l e => ?_⟩
    subst e
    rw [hh i h1]
    cases o' with
    | box v' cs' => simp [O.kind] at k3
    | vec v' cs' => simp [O.kind] at k3
    | mp v' ks' => simp [O.kind] at k3
    | arr v' k' mu' l' => simp only [O.ver] at k2 g2; simp only [O.kind, Option.some.injEq, Nat.add_right_cancel_iff] at k3; subst k2; subst k3; exact g3 k' mu' l' (by rfl)
  | .mh i v, .mh j v', u, h, hv => by
    simp only [W] at h
    obtain ⟨rfl, rfl, h1, h2⟩ := h
    obtain ⟨o, ho⟩ := Option.isSome_iff_exists.1 h2
    obtain ⟨o', k1, k2, k3⟩ := h0 i o h1 ho
    simp only [VR] at hv ⊢
    obtain ⟨g0, y, g1, g2, g3⟩ := hv
    rw [k1] at g1
    cases g1
    refine ⟨g0, o, ho, by omega, fun ks e => ?_⟩
    subst e
    rw [hh i h1]
    cases o' with
    | arr v' k' mu' l' => simp [O.kind] at k3
    | box v' cs' => simp [O.kind] at k3
    | vec v' cs' => simp [O.kind] at k3
    | mp v' ks' => simp only [O.ver] at k2 g2; subst k2; exact g3 ks' (by rfl)
  | .un, .ub, u, h, _ | .un, .d _, u, h, _ | .un, .nl _, u, h, _ | .un, .z0, u, h, _ | .un, .og _ _, u, h, _ | .un, .bp _ _ _, u, h, _ | .un, .ep _ _ _ _, u, h, _ | .un, .fp _ _, u, h, _ | .un, .cl _ _, u, h, _ | .un, .ag _, u, h, _ | .un, .tu _, u, h, _ | .un, .vg _ _, u, h, _ | .un, .vp _ _ _, u, h, _ | .un, .ot _ _ _, u, h, _ | .un, .mh _ _, u, h, _ => by simp [W] at h
  | .ub, .d _, u, h, _ | .ub, .nl _, u, h, _ | .ub, .z0, u, h, _ | .ub, .og _ _, u, h, _ | .ub, .bp _ _ _, u, h, _ | .ub, .ep _ _ _ _, u, h, _ | .ub, .fp _ _, u, h, _ | .ub, .cl _ _, u, h, _ | .ub, .ag _, u, h, _ | .ub, .tu _, u, h, _ | .ub, .vg _ _, u, h, _ | .ub, .vp _ _ _, u, h, _ | .ub, .ot _ _ _, u, h, _ | .ub, .mh _ _, u, h, _ => by simp [W] at h
  | .d _, .ub, u, h, _ | .d _, .nl _, u, h, _ | .d _, .z0, u, h, _ | .d _, .og _ _, u, h, _ | .d _, .bp _ _ _, u, h, _ | .d _, .ep _ _ _ _, u, h, _ | .d _, .fp _ _, u, h, _ | .d _, .cl _ _, u, h, _ | .d _, .ag _, u, h, _ | .d _, .tu _, u, h, _ | .d _, .vg _ _, u, h, _ | .d _, .vp _ _ _, u, h, _ | .d _, .ot _ _ _, u, h, _ | .d _, .mh _ _, u, h, _ => by simp [W] at h
  | .nl _, .ub, u, h, _ | .nl _, .z0, u, h, _ | .nl _, .bp _ _ _, u, h, _ | .nl _, .ep _ _ _ _, u, h, _ | .nl _, .fp _ _, u, h, _ | .nl _, .cl _ _, u, h, _ | .nl _, .ag _, u, h, _ | .nl _, .tu _, u, h, _ | .nl _, .vg _ _, u, h, _ | .nl _, .vp _ _ _, u, h, _ | .nl _, .ot _ _ _, u, h, _ | .nl _, .mh _ _, u, h, _ => by simp [W] at h
  | .z0, .ub, u, h, _ | .z0, .d _, u, h, _ | .z0, .nl _, u, h, _ | .z0, .og _ _, u, h, _ | .z0, .bp _ _ _, u, h, _ | .z0, .ep _ _ _ _, u, h, _ | .z0, .fp _ _, u, h, _ | .z0, .cl _ _, u, h, _ | .z0, .ag _, u, h, _ | .z0, .tu _, u, h, _ | .z0, .vg _ _, u, h, _ | .z0, .vp _ _ _, u, h, _ | .z0, .ot _ _ _, u, h, _ | .z0, .mh _ _, u, h, _ => by simp [W] at h
  | .og _ _, .ub, u, h, _ | .og _ _, .nl _, u, h, _ | .og _ _, .z0, u, h, _ | .og _ _, .bp _ _ _, u, h, _ | .og _ _, .ep _ _ _ _, u, h, _ | .og _ _, .fp _ _, u, h, _ | .og _ _, .cl _ _, u, h, _ | .og _ _, .ag _, u, h, _ | .og _ _, .tu _, u, h, _ | .og _ _, .vg _ _, u, h, _ | .og _ _, .vp _ _ _, u, h, _ | .og _ _, .ot _ _ _, u, h, _ | .og _ _, .mh _ _, u, h, _ => by simp [W] at h
  | .bp _ _ _, .ub, u, h, _ | .bp _ _ _, .d _, u, h, _ | .bp _ _ _, .nl _, u, h, _ | .bp _ _ _, .z0, u, h, _ | .bp _ _ _, .og _ _, u, h, _ | .bp _ _ _, .ep _ _ _ _, u, h, _ | .bp _ _ _, .fp _ _, u, h, _ | .bp _ _ _, .cl _ _, u, h, _ | .bp _ _ _, .ag _, u, h, _ | .bp _ _ _, .tu _, u, h, _ | .bp _ _ _, .vg _ _, u, h, _ | .bp _ _ _, .vp _ _ _, u, h, _ | .bp _ _ _, .ot _ _ _, u, h, _ | .bp _ _ _, .mh _ _, u, h, _ => by simp [W] at h
  | .ep _ _ _ _, .ub, u, h, _ | .ep _ _ _ _, .d _, u, h, _ | .ep _ _ _ _, .nl _, u, h, _ | .ep _ _ _ _, .z0, u, h, _ | .ep _ _ _ _, .og _ _, u, h, _ | .ep _ _ _ _, .bp _ _ _, u, h, _ | .ep _ _ _ _, .fp _ _, u, h, _ | .ep _ _ _ _, .cl _ _, u, h, _ | .ep _ _ _ _, .ag _, u, h, _ | .ep _ _ _ _, .tu _, u, h, _ | .ep _ _ _ _, .vg _ _, u, h, _ | .ep _ _ _ _, .vp _ _ _, u, h, _ | .ep _ _ _ _, .ot _ _ _, u, h, _ | .ep _ _ _ _, .mh _ _, u, h, _ => by simp [W] at h
  | .fp _ _, .ub, u, h, _ | .fp _ _, .d _, u, h, _ | .fp _ _, .nl _, u, h, _ | .fp _ _, .z0, u, h, _ | .fp _ _, .og _ _, u, h, _ | .fp _ _, .bp _ _ _, u, h, _ | .fp _ _, .ep _ _ _ _, u, h, _ | .fp _ _, .cl _ _, u, h, _ | .fp _ _, .ag _, u, h, _ | .fp _ _, .tu _, u, h, _ | .fp _ _, .vg _ _, u, h, _ | .fp _ _, .vp _ _ _, u, h, _ | .fp _ _, .ot _ _ _, u, h, _ | .fp _ _, .mh _ _, u, h, _ => by simp [W] at h
  | .cl _ _, .ub, u, h, _ | .cl _ _, .d _, u, h, _ | .cl _ _, .nl _, u, h, _ | .cl _ _, .z0, u, h, _ | .cl _ _, .og _ _, u, h, _ | .cl _ _, .bp _ _ _, u, h, _ | .cl _ _, .ep _ _ _ _, u, h, _ | .cl _ _, .fp _ _, u, h, _ | .cl _ _, .ag _, u, h, _ | .cl _ _, .tu _, u, h, _ | .cl _ _, .vg _ _, u, h, _ | .cl _ _, .vp _ _ _, u, h, _ | .cl _ _, .ot _ _ _, u, h, _ | .cl _ _, .mh _ _, u, h, _ => by simp [W] at h
  | .ag _, .ub, u, h, _ | .ag _, .d _, u, h, _ | .ag _, .nl _, u, h, _ | .ag _, .z0, u, h, _ | .ag _, .og _ _, u, h, _ | .ag _, .bp _ _ _, u, h, _ | .ag _, .ep _ _ _ _, u, h, _ | .ag _, .fp _ _, u, h, _ | .ag _, .cl _ _, u, h, _ | .ag _, .tu _, u, h, _ | .ag _, .vg _ _, u, h, _ | .ag _, .vp _ _ _, u, h, _ | .ag _, .ot _ _ _, u, h, _ | .ag _, .mh _ _, u, h, _ => by simp [W] at h
  | .tu _, .ub, u, h, _ | .tu _, .d _, u, h, _ | .tu _, .nl _, u, h, _ | .tu _, .z0, u, h, _ | .tu _, .og _ _, u, h, _ | .tu _, .bp _ _ _, u, h, _ | .tu _, .ep _ _ _ _, u, h, _ | .tu _, .fp _ _, u, h, _ | .tu _, .cl _ _, u, h, _ | .tu _, .ag _, u, h, _ | .tu _, .vg _ _, u, h, _ | .tu _, .vp _ _ _, u, h, _ | .tu _, .ot _ _ _, u, h, _ | .tu _, .mh _ _, u, h, _ => by simp [W] at h
  | .vg _ _, .ub, u, h, _ | .vg _ _, .d _, u, h, _ | .vg _ _, .nl _, u, h, _ | .vg _ _, .z0, u, h, _ | .vg _ _, .og _ _, u, h, _ | .vg _ _, .bp _ _ _, u, h, _ | .vg _ _, .ep _ _ _ _, u, h, _ | .vg _ _, .fp _ _, u, h, _ | .vg _ _, .cl _ _, u, h, _ | .vg _ _, .ag _, u, h, _ | .vg _ _, .tu _, u, h, _ | .vg _ _, .vp _ _ _, u, h, _ | .vg _ _, .ot _ _ _, u, h, _ | .vg _ _, .mh _ _, u, h, _ => by simp [W] at h
  | .vp _ _ _, .ub, u, h, _ | .vp _ _ _, .d _, u, h, _ | .vp _ _ _, .nl _, u, h, _ | .vp _ _ _, .z0, u, h, _ | .vp _ _ _, .og _ _, u, h, _ | .vp _ _ _, .bp _ _ _, u, h, _ | .vp _ _ _, .ep _ _ _ _, u, h, _ | .vp _ _ _, .fp _ _, u, h, _ | .vp _ _ _, .cl _ _, u, h, _ | .vp _ _ _, .ag _, u, h, _ | .vp _ _ _, .tu _, u, h, _ | .vp _ _ _, .vg _ _, u, h, _ | .vp _ _ _, .ot _ _ _, u, h, _ | .vp _ _ _, .mh _ _, u, h, _ => by simp [W] at h
  | .ot _ _ _, .ub, u, h, _ | .ot _ _ _, .d _, u, h, _ | .ot _ _ _, .nl _, u, h, _ | .ot _ _ _, .z0, u, h, _ | .ot _ _ _, .og _ _, u, h, _ | .ot _ _ _, .bp _ _ _, u, h, _ | .ot _ _ _, .ep _ _ _ _, u, h, _ | .ot _ _ _, .fp _ _, u, h, _ | .ot _ _ _, .cl _ _, u, h, _ | .ot _ _ _, .ag _, u, h, _ | .ot _ _ _, .tu _, u, h, _ | .ot _ _ _, .vg _ _, u, h, _ | .ot _ _ _, .vp _ _ _, u, h, _ | .ot _ _ _, .mh _ _, u, h, _ => by simp [W] at h
  | .mh _ _, .ub, u, h, _ | .mh _ _, .d _, u, h, _ | .mh _ _, .nl _, u, h, _ | .mh _ _, .z0, u, h, _ | .mh _ _, .og _ _, u, h, _ | .mh _ _, .bp _ _ _, u, h, _ | .mh _ _, .ep _ _ _ _, u, h, _ | .mh _ _, .fp _ _, u, h, _ | .mh _ _, .cl _ _, u, h, _ | .mh _ _, .ag _, u, h, _ | .mh _ _, .tu _, u, h, _ | .mh _ _, .vg _ _, u, h, _ | .mh _ _, .vp _ _ _, u, h, _ | .mh _ _, .ot _ _ _, u, h, _ => by simp [W] at h
theorem Ws_ok (hm : Mem m hd w S X B) (h0 : ∀ i o, i ∉ ad → m0 i = some o → ∃ o', m i = some o' ∧ o'.ver = o.ver ∧ o'.kind = o.kind) (hh : ∀ i, i ∉ ad → hd0 i = hd i) (ha : ∀ i, i ∈ ad → hd0 i = .slice none 0 0 ∧ ∃ k mu l, m0 i = some (.arr 0 k mu l)) :
    ∀ (l l' : List V) (us : List Value), Ws m m0 ad l l' → VRs m hd w S l us → VRs m0 hd0 w S l' us
  | [], [], us, _, h => by simp only [VRs] at h ⊢; exact h
  | x :: l, y :: l', us, h, hv => by
    simp only [Ws] at h
    simp only [VRs] at hv ⊢
    obtain ⟨u, r, e, h1, h2⟩ := hv
    exact ⟨u, r, e, W_ok hm h0 hh ha x y u h.1 h1, Ws_ok hm h0 hh ha l l' r h.2 h2⟩
  | [], _ :: _, us, h, _ => by simp [Ws] at h
  | _ :: _, [], us, h, _ => by simp [Ws] at h
end
end
end Go.Proofs.YthbhkkdaaipngaaGreatDoor.Sim
end
section
namespace Go.Proofs.YthbhkkdaaipngaaGreatDoor.Sim
open Go Go.RowKit Go.Deep
set_option linter.unusedVariables false

def TW (m m0 : M) (ad : List Nat) (T : Nat → V) : List (Nat × V) → Prop
  | [] => True
  | (t, v) :: r => W m m0 ad (T t) v ∧ TW m m0 ad T r
def MW (m m0 : M) (ad : List Nat) : U → Prop
  | [] => True
  | (i, .box v cs0) :: r => (ad.contains i = false ∧ ∃ cs, m i = some (.box v cs) ∧ Ws m m0 ad cs cs0) ∧ MW m m0 ad r
  | (i, .arr v k mu l) :: r => (if ad.contains i = true then v = 0 ∧ mu = true ∧ l = [] else m i = some (.arr v k mu l)) ∧ MW m m0 ad r
  | (i, .vec v cs0) :: r => (ad.contains i = false ∧ ∃ cs, m i = some (.vec v cs) ∧ Ws m m0 ad cs cs0) ∧ MW m m0 ad r
  | (i, .mp v ks) :: r => (ad.contains i = false ∧ m i = some (.mp v ks)) ∧ MW m m0 ad r
/-- .. of one object. -/
def MO (m m0 : M) (ad : List Nat) (i : Nat) : O → Prop
  | .box v cs0 => ad.contains i = false ∧ ∃ cs, m i = some (.box v cs) ∧ Ws m m0 ad cs cs0
  | .arr v k mu l => if ad.contains i = true then v = 0 ∧ mu = true ∧ l = [] else m i = some (.arr v k mu l)
  | .vec v cs0 => ad.contains i = false ∧ ∃ cs, m i = some (.vec v cs) ∧ Ws m m0 ad cs cs0
  | .mp v ks => ad.contains i = false ∧ m i = some (.mp v ks)
def adOK (m0 : M) : List Nat → Prop
  | [] => True
  | i :: r => (∃ k mu l, m0 i = some (.arr 0 k mu l)) ∧ adOK m0 r
def parOK (m0 : M) (ad : List Nat) : U → Prop
  | [] => True
  | (i, _) :: r => (ad.contains i = false ∧ (m0 i).isSome = true) ∧ parOK m0 ad r

section
variable {m m0 : M} {ad : List Nat}
theorem TW_ok {T : Nat → V} : ∀ {l : List (Nat × V)}, TW m m0 ad T l → ∀ t, W m m0 ad (T t) (tl l t)
  | [], _, t => by simp only [tl]; cases T t <;> simp only [W]
  | (i, v) :: r, h, t => by
    simp only [TW] at h
    simp only [tl, up]
    split
    · rename_i e; rw [e]; exact h.1
    · exact TW_ok h.2 t
theorem MW_ok : ∀ {us : U}, MW m m0 ad us → ∀ x ∈ us, MO m m0 ad x.1 x.2
  | [], _, x, hx => by cases hx
  | (i, o) :: r, h, x, hx => by
    have h' : MO m m0 ad i o ∧ MW m m0 ad r := by cases o <;> exact h
    rcases List.mem_cons.1 hx with rfl | hx
    · exact h'.1
    · exact MW_ok h'.2 x hx
theorem adOK_ok : ∀ {l : List Nat}, adOK m0 l → ∀ i ∈ l, ∃ k mu l, m0 i = some (.arr 0 k mu l)
  | [], _, i, hi => by cases hi
  | j :: r, h, i, hi => by
    simp only [adOK] at h
    rcases List.mem_cons.1 hi with rfl | hi
    · exact h.1
    · exact adOK_ok h.2 i hi
theorem parOK_ok : ∀ {us : U}, parOK m0 ad us → ∀ x ∈ us, ad.contains x.1 = false ∧ (m0 x.1).isSome = true
  | [], _, i, hi => by cases hi
  | (j, o) :: r, h, i, hi => by
    simp only [parOK] at h
    rcases List.mem_cons.1 hi with rfl | hi
    · exact h.1
    · exact parOK_ok h.2 i hi
theorem Ws_len {m m0 : M} {ad : List Nat} : ∀ {l l' : List V}, Ws m m0 ad l l' → l'.length = l.length
  | [], [], _ => rfl
  | _ :: l, _ :: l', h => by simp only [Ws] at h; simp [Ws_len h.2]
  | [], _ :: _, h => by simp [Ws] at h
  | _ :: _, [], h => by simp [Ws] at h
end

section
variable {P : Program} {cx : Cx} {s : St} {a : Act} {w : World}
/-- A STATE THAT SAYS LESS: objects forgotten, or looked at as less, or new and empty. -/
theorem Rel.weakenG (h : Rel cx s a w) (ad : List Nat) (T0 : Nat → V) (m0 : M) (hT : ∀ t, W s.m m0 ad (s.T t) (T0 t)) (hM : ∀ i o, m0 i = some o → MO s.m m0 ad i o) (hA : ∀ i ∈ ad, ∃ k mu l, m0 i = some (.arr 0 k mu l)) (hP : ∀ i o, cx.m0 i = some o → ad.contains i = false ∧ (m0 i).isSome = true) : Rel cx ⟨T0, m0⟩ a w := by
  obtain ⟨hd, S, hm, hv, hfr, hdef, hsz, hsub, hle⟩ := h
  let hd0 : H := fun i => if ad.contains i = true then .slice none 0 0 else hd i
  have hc : ∀ i, i ∈ ad ↔ ad.contains i = true := fun i => by simp
  have hcn : ∀ i, ad.contains i = false → i ∉ ad := fun i h hi => by rw [(hc i).1 hi] at h; cases h
  have h0 : ∀ i o, i ∉ ad → m0 i = some o → ∃ o', s.m i = some o' ∧ o'.ver = o.ver ∧ o'.kind = o.kind := by
    intro i o hi ho
    have hM1 := hM i o ho
    cases o with
    | box v cs0 => obtain ⟨_, cs, h2, _⟩ := hM1; exact ⟨_, h2, rfl, rfl⟩
    | vec v cs0 => obtain ⟨_, cs, h2, _⟩ := hM1; exact ⟨_, h2, rfl, rfl⟩
    | mp v ks => exact ⟨_, hM1.2, rfl, rfl⟩
    | arr v k mu l =>
      simp only [MO] at hM1
      rw [if_neg (fun h => hi ((hc _).2 h))] at hM1
      exact ⟨_, hM1, rfl, rfl⟩
  have hh : ∀ i, i ∉ ad → hd0 i = hd i := fun i hi => if_neg (fun h => hi ((hc i).2 h))
  have ha : ∀ i, i ∈ ad → hd0 i = .slice none 0 0 ∧ ∃ k mu l, m0 i = some (.arr 0 k mu l) := fun i hi => ⟨if_pos ((hc i).1 hi), hA i hi⟩
  have hobj : ∀ i o, m0 i = some o → o.is m0 hd0 w S cx.X cx.w0.heap.size (hd0 i) := by
    intro i o ho
    have hM1 := hM i o ho
    cases o with
    | box v cs0 =>
      obtain ⟨h1, cs, h2, h3⟩ := hM1
      have hob := hm.obj i _ h2
      rw [hh i (hcn i h1)]
      simp only [O.is] at hob ⊢
      obtain ⟨b, vs, e, g1, g2, g3, g4, g5, g6, g7⟩ := hob
      exact ⟨b, vs, e, g1, g2, g3, Ws_ok hm h0 hh ha _ _ _ h3 g4, g5, by rw [Ws_len h3]; exact g6, g7⟩
    | vec v cs0 =>
      obtain ⟨h1, cs, h2, h3⟩ := hM1
      have hob := hm.obj i _ h2
      rw [hh i (hcn i h1)]
      simp only [O.is] at hob ⊢
      obtain ⟨vs, g4, g5, g6⟩ := hob
      exact ⟨vs, Ws_ok hm h0 hh ha _ _ _ h3 g4, g5, by rw [Ws_len h3]; exact g6⟩
    | mp v ks =>
      have hob := hm.obj i _ hM1.2
      rw [hh i (hcn i hM1.1)]
      simp only [O.is] at hob ⊢
      exact hob
    | arr v k mu l =>
      simp only [MO] at hM1
      by_cases hi : i ∈ ad
      · rw [if_pos ((hc i).1 hi)] at hM1
        obtain ⟨rfl, rfl, rfl⟩ := hM1
        rw [(ha i hi).1]
        simp only [O.is, if_true]
        exact ⟨[], by simp [Rows], .inl ⟨none, rfl, rfl⟩⟩
      · rw [if_neg (fun h => hi ((hc i).2 h))] at hM1
        rw [hh i hi]
        have hob := hm.obj i _ hM1
        simp only [O.is] at hob ⊢
        exact hob
  have hback : ∀ i o, m0 i = some o → o.live = true → ∀ b, blk (hd0 i) = some b → i ∉ ad ∧ ∃ o', s.m i = some o' ∧ o'.live = true ∧ blk (hd i) = some b := by
    intro i o ho hl b hb
    have hi : i ∉ ad := fun h => by rw [(ha i h).1] at hb; simp [blk] at hb
    rw [hh i hi] at hb
    refine ⟨hi, ?_⟩
    have hM1 := hM i o ho
    cases o with
    | box v cs0 => obtain ⟨_, cs, h2, _⟩ := hM1; exact ⟨_, h2, rfl, hb⟩
    | vec v cs0 => obtain ⟨_, cs, h2, _⟩ := hM1; exact ⟨_, h2, rfl, hb⟩
    | mp v ks => exact ⟨_, hM1.2, rfl, hb⟩
    | arr v k mu l =>
      simp only [MO] at hM1
      rw [if_neg (fun h => hi ((hc _).2 h))] at hM1
      exact ⟨_, hM1, hl, hb⟩
  refine ⟨hd0, S, ⟨hobj, ?_, hm.lt, hm.base, hm.sX⟩, fun t => W_ok hm h0 hh ha _ _ _ (hT t) (hv t), hfr, hdef, hsz, hsub, ⟨fun i o ho => ?_⟩⟩
  · intro i j oi oj b hne hi hj li lj bi bj
    obtain ⟨_, o1, e1, l1, b1⟩ := hback i oi hi li b bi
    obtain ⟨_, o2, e2, l2, b2⟩ := hback j oj hj lj b bj
    exact hm.sep i j o1 o2 b hne e1 e2 l1 l2 b1 b2
  · obtain ⟨o1, h1, h2, h3⟩ := hle.le i o ho
    obtain ⟨p1, p2⟩ := hP i o ho
    have hi : i ∉ ad := hcn i p1
    obtain ⟨o2, p3⟩ := Option.isSome_iff_exists.1 p2
    obtain ⟨o3, p4, p5, p6⟩ := h0 i o2 hi p3
    rw [h1] at p4
    cases p4
    refine ⟨o2, p3, by omega, fun e => ?_⟩
    obtain ⟨q1, q2⟩ := h3 (by omega)
    exact ⟨(hh i hi).trans q1, by rw [← p6]; exact q2⟩
theorem Rel.weaken (h : Rel cx s a w) (ad : List Nat) (T0 : List (Nat × V)) (ml bx : U) (hx : cx.m0 = ups M0 bx) (hT : TW s.m (ups M0 ml) ad s.T T0) (hM : MW s.m (ups M0 ml) ad ml) (hA : adOK (ups M0 ml) ad) (hP : parOK (ups M0 ml) ad bx) : Rel cx ⟨tl T0, ups M0 ml⟩ a w := by
  have hget : ∀ i o (l : U), ups M0 l i = some o → (i, o) ∈ l := fun i o l h => by
    rcases ups_or i l M0 with ⟨h1, _⟩ | ⟨o', h1, h2⟩
    · rw [h1] at h; cases h
    · rw [h2] at h; cases h; exact h1
  exact h.weakenG ad (tl T0) (ups M0 ml) (TW_ok hT) (fun i o ho => MW_ok hM _ (hget i o ml ho)) (adOK_ok hA) (fun i o ho => parOK_ok hP _ (hget i o bx (by rw [← hx]; exact ho)))
theorem Awp.weaken {c : AC} {Q : Exit → St → Prop} {bx : U} (ad : List Nat) (T0 : List (Nat × V)) (ml : U) (hx : cx.m0 = ups M0 bx) (h : Awp P cx c Q ⟨tl T0, ups M0 ml⟩) (hT : TW s.m (ups M0 ml) ad s.T T0) (hM : MW s.m (ups M0 ml) ad ml) (hA : adOK (ups M0 ml) ad) (hP : parOK (ups M0 ml) ad bx) : Awp P cx c Q s :=
  fun code hc a w hR => h code hc a w (hR.weaken ad T0 ml bx hx hT hM hA hP)
end
/-- As Rel.weaken asks it. -/
def GeS (s : St) (ad : List Nat) (T0 : List (Nat × V)) (ml bx : U) : Prop := TW s.m (ups M0 ml) ad s.T T0 ∧ MW s.m (ups M0 ml) ad ml ∧ adOK (ups M0 ml) ad ∧ parOK (ups M0 ml) ad bx

section
variable {P : Program} {cx : Cx} {Q : Exit → St → Prop} {s : St}
/-- A LOOP: at its head the walk stands at one of the states of a family. -/
theorem Awp.loopF {ι : Type} {x : AC} {bx : U} (hx : cx.m0 = ups M0 bx) (T0 : ι → List (Nat × V)) (ml : ι → U) (μ : ι → Nat) (ad : List Nat) (i0 : ι) (h0 : GeS s ad (T0 i0) (ml i0) bx)
    (hr : ∀ i, Awp P cx x (thenE (fun s' => ∃ i', GeS s' [] (T0 i') (ml i') bx ∧ μ i' < μ i) Q) ⟨tl (T0 i), ups M0 (ml i)⟩) : Awp P cx (.loop x) Q s := by
  refine Awp.weaken (bx := bx) ad (T0 i0) (ml i0) hx ?_ h0.1 h0.2.1 h0.2.2.1 h0.2.2.2
  intro code hc a w hR
  cases code <;> try (simp [compile] at hc; done)
  case loop c1 =>
    simp only [compile, Option.map_eq_some_iff] at hc
    obtain ⟨x', h1, h2⟩ := hc
    cases h2
    intro b k cs
    have key : ∀ n i a w, μ i = n → Rel cx ⟨tl (T0 i), ups M0 (ml i)⟩ a w → ∃ e a' w', (∃ s', Q e s' ∧ Rel cx s' a' w') ∧ Arrives P (lone (b.at a (.code c1 :: .inLoop c1 :: k)) cs w) b k cs e a' w' := by
      intro n
      induction n using Nat.strongRecOn with
      | _ n ih =>
        intro i a w hn hR
        obtain ⟨e, a₁, w₁, ⟨s₁, hq, hR₁⟩, harr⟩ := hr i c1 h1 a w hR b (.inLoop c1 :: k) cs
        cases e with
        | normal =>
          obtain ⟨i', hg, hlt⟩ := hq
          obtain ⟨e₂, a₂, w₂, hq₂, harr₂⟩ := ih (μ i') (hn ▸ hlt) i' a₁ w₁ rfl (hR₁.weaken [] _ _ bx hx hg.1 hg.2.1 hg.2.2.1 hg.2.2.2)
          exact ⟨e₂, a₂, w₂, hq₂, .of_steps (Steps.trans harr (.one step_inLoop)) harr₂⟩
        | exit id => exact ⟨_, a₁, w₁, ⟨s₁, hq, hR₁⟩, .pass (x := .inLoop c1) rfl (fun _ _ => .inl (by simp)) harr⟩
        | goto l => exact ⟨_, a₁, w₁, ⟨s₁, hq, hR₁⟩, .pass (x := .inLoop c1) rfl (fun _ _ => .inl (by simp)) harr⟩
        | ret => exact ⟨_, a₁, w₁, ⟨s₁, hq, hR₁⟩, .pass (x := .inLoop c1) rfl (fun _ _ => .inl (by simp)) harr⟩
        | panic ch => exact ⟨_, a₁, w₁, ⟨s₁, hq, hR₁⟩, .pass (x := .inLoop c1) rfl (fun _ _ => .inl (by simp)) harr⟩
        | outgrown => exact ⟨_, a₁, w₁, ⟨s₁, hq, hR₁⟩, .pass (x := .inLoop c1) rfl (fun _ _ => .inl (by simp)) harr⟩
    obtain ⟨e, a', w', hq, harr⟩ := key _ i0 a w rfl hR
    exact ⟨e, a', w', hq, .of_steps (.one step_loop) harr⟩
  all_goals ((try unfold compile at hc); first | (split at hc <;> (first | (cases hc; done) | (simp at hc; done))) | (simp at hc; done))
end
end Go.Proofs.YthbhkkdaaipngaaGreatDoor.Sim
end
