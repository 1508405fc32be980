/- From a function's body to what a call does: of no program. Conditions: none. -/
import Derived.Test.YthbhkkdaaipngaaGreatDoorMSimR
namespace Go.Proofs.YthbhkkdaaipngaaGreatDoor.Sim
open Go Go.RowKit Go.Deep
set_option linter.unusedVariables false

/-- Where a result stands. -/
inductive RV where
  | t (n : Nat)
  | c (t n : Nat) (g : Bool)
def rvOf (P : Program) : ResultVar → Option RV
  | .tmp t => some (.t t)
  | .cell t ty => (form P ty).map fun p => .c t p.1 p.2
def rvsOf (P : Program) : List ResultVar → Option (List RV)
  | [] => some []
  | x :: r => match rvOf P x, rvsOf P r with
    | some y, some ys => some (y :: ys)
    | _, _ => none
def res1 (s : St) : RV → Option V
  | .t n => some (s.T n)
  | .c t n g => match s.T t with
    | .bp i v o => match s.m i with
      | some (.box v' cs) => if v' = v ∧ o + n ≤ cs.length then some (V.mk g ((cs.drop o).take n)) else none
      | _ => none
    | _ => none
def ress (s : St) : List RV → Option (List V)
  | [] => some []
  | x :: r => match res1 s x, ress s r with
    | some y, some ys => some (y :: ys)
    | _, _ => none
def resV (s : St) (rs : List RV) : Option V := match ress s rs with
  | some [x] => some x
  | some l => some (.tu l)
  | none => none

/-! ### What is handed back -/
mutual
def exF (m : M) (bx : U) (ids : List (Option Nat)) : V → V → Prop
  | .d x, .d y => x = y
  | .nl _, .nl _ => True
  | .nl _, .d y => ∃ k, y = .sl k []
  | .nl _, .og j u => u = 0 ∧ 1000000 ≤ j ∧ ids[j - 1000000]? = some none
  | .og i v, .og j u => if j < 1000000 then i = j ∧ v = u ∧ inU bx i = true else u = 0 ∧ ids[j - 1000000]? = some (some i) ∧ ∃ k mu l, m i = some (.arr v k mu l)
  | .og i v, .d y => ids.contains (some i) = false ∧ inU bx i = false ∧ ∃ k mu l, m i = some (.arr v k mu l) ∧ y = .sl k l
  | .bp i v o, .bp j u q => if j < 1000000 then i = j ∧ v = u ∧ o = q ∧ inU bx i = true else u = 0 ∧ o = q ∧ ids[j - 1000000]? = some (some i) ∧ ∃ cs, m i = some (.box v cs)
  | .ag l, .ag l' => exFs m bx ids l l'
  | .tu l, .tu l' => exFs m bx ids l l'
  | _, _ => False
def exFs (m : M) (bx : U) (ids : List (Option Nat)) : List V → List V → Prop
  | [], [] => True
  | x :: l, y :: l' => exF m bx ids x y ∧ exFs m bx ids l l'
  | _, _ => False
end
def asF (m : M) : List (Option Nat) → List O → Prop
  | [], [] => True
  | none :: r, o :: as => (∃ k, o = .arr 0 k true []) ∧ asF m r as
  | some i :: r, o :: as => (∃ o', m i = some o' ∧ o = o'.setv 0 ∧ o.wf = true) ∧ asF m r as
  | _, _ => False
def bxF (m : M) (ids : List (Option Nat)) : U → Prop
  | [] => True
  | (i, o) :: r => (m i = some o ∧ o.wfB = true ∧ ids.contains (some i) = false ∧ i < 1000000) ∧ bxF m ids r
structure RetOK (s : St) (rs : List RV) (r : V) (bx' : U) (as : List O) : Prop where
  ok : ∃ r' ids, resV s rs = some r' ∧ exF s.m bx' ids r' r ∧ asF s.m ids as ∧ (ids.filterMap id).Nodup ∧ bxF s.m ids bx'
def RetE (rs : List RV) (r : V) (bx' : U) (as : List O) : Exit → St → Prop
  | .normal, s => RetOK s rs r bx' as
  | .ret, s => RetOK s rs r bx' as
  | _, _ => False

section
variable {m m1 os : M} {hd hd' : H} {w : World} {S S1 X : Nat → Prop} {B : Nat} {ids : List (Option Nat)} {bx : U}
/-- The arrays of a result that are not handed back as arrays. -/
def kept (bx : U) (ids : List (Option Nat)) (l : List V) : List V := l.filter fun x => match x with
  | .og i _ => !ids.contains (some i) && !inU bx i
  | _ => false
mutual
theorem exF_ok (hm1 : Mem m1 hd w S1 X B) (hbx : ∀ i, inU bx i = true → i < 1000000 → os i = m i ∧ hd' i = hd i) (hids : ∀ j i, ids[j]? = some (some i) → ∃ o, m i = some o ∧ os (1000000 + j) = some (o.setv 0) ∧ hd' (1000000 + j) = hd i) (hno : ∀ j, ids[j]? = some none → (∃ k, os (1000000 + j) = some (.arr 0 k true [])) ∧ hd' (1000000 + j) = .slice none 0 0)
    (hS : ∀ b, S b → S1 b) : ∀ (x y : V) (u : Value), exF m bx ids x y → (∀ i v k mu l, .og i v ∈ x.flat → ids.contains (some i) = false → inU bx i = false → m i = some (.arr v k mu l) → m1 i = some (.arr v k false l)) → VR m hd w S x u → VR os hd' w S1 y u
  | .d x, .d y, u, h, _, hv => by simp only [exF] at h; subst h; simp only [VR] at hv ⊢; exact D.keep (fun b h _ => ⟨hS b h, rfl⟩) _ _ hv
  | .nl _, .nl _, u, h, _, hv => by simp only [VR] at hv ⊢; exact hv
  | .nl _, .d y, u, h, _, hv => by
    simp only [exF] at h
    obtain ⟨k, rfl⟩ := h
    simp only [VR] at hv ⊢
    subst hv
    simp only [D.is]
    exact ⟨none, 0, [], rfl, Nat.le_refl _, Nat.zero_le _, by simp [Rows], fun h => absurd h (by simp)⟩
  | .nl _, .og j v, u, h, _, hv => by
    simp only [exF] at h
    obtain ⟨rfl, h1, h2⟩ := h
    obtain ⟨⟨k, h3⟩, h4⟩ := hno _ h2
    rw [show 1000000 + (j - 1000000) = j by omega] at h3 h4
    simp only [VR] at hv ⊢
    subst hv
    exact ⟨rfl, _, h3, Nat.le_refl _, fun _ _ _ _ => h4.symm⟩
  | .og i v, .og j v', u, h, _, hv => by
    simp only [exF] at h
    by_cases hj : j < 1000000
    · rw [if_pos hj] at h
      obtain ⟨rfl, rfl, h1⟩ := h
      obtain ⟨e1, e2⟩ := hbx i h1 hj
      simp only [VR] at hv ⊢
      rw [e1, e2]
      exact hv
    rw [if_neg hj] at h
    obtain ⟨rfl, h2, k, mu, l, h3⟩ := h
    obtain ⟨o, h4, h5, h6⟩ := hids _ _ h2
    rw [show 1000000 + (j - 1000000) = j by omega] at h5 h6
    rw [h3] at h4
    cases h4
    have e := og_ok hv h3
    simp only [VR] at hv ⊢
    exact ⟨hv.1, _, h5, Nat.le_refl _, fun _ _ _ _ => by rw [h6]; exact e⟩
  | .og i v, .d y, u, h, hf, hv => by
    simp only [exF] at h
    obtain ⟨h0, hn, k, mu, l, h1, rfl⟩ := h
    have h2 := hf i v k mu l (by simp [V.flat]) h0 hn h1
    have h3 := hm1.obj i _ h2
    simp only [O.is, Bool.false_eq_true, if_false] at h3
    have e := og_ok hv h1
    subst e
    simp only [VR]
    exact h3
  | .bp i v q, .bp j v' q', u, h, _, hv => by
    simp only [exF] at h
    by_cases hj : j < 1000000
    · rw [if_pos hj] at h
      obtain ⟨rfl, rfl, rfl, h1⟩ := h
      obtain ⟨e1, e2⟩ := hbx i h1 hj
      simp only [VR] at hv ⊢
      rw [e1, e2]
      exact hv
    rw [if_neg hj] at h
    obtain ⟨rfl, rfl, h2, cs, h3⟩ := h
    obtain ⟨o, h4, h5, h6⟩ := hids _ _ h2
    rw [show 1000000 + (j - 1000000) = j by omega] at h5 h6
    rw [h3] at h4
    cases h4
    simp only [VR] at hv ⊢
    obtain ⟨g0, y, g1, g2, g3⟩ := hv
    rw [h3] at g1
    cases g1
    exact ⟨g0, _, h5, Nat.le_refl _, fun cs' e => by rw [h6]; exact g3 cs rfl⟩
  | .ag l, .ag l', u, h, hf, hv => by
    simp only [exF] at h
    simp only [VR] at hv ⊢
    obtain ⟨vs, e, h1, h2⟩ := hv
    exact ⟨vs, e, exFs_ok hm1 hbx hids hno hS l l' vs h (fun i v k mu l hm => hf i v k mu l (by simpa only [V.flat] using hm)) h1, h2⟩
  | .tu l, .tu l', u, h, hf, hv => by
    simp only [exF] at h
    simp only [VR] at hv ⊢
    obtain ⟨vs, e, h1⟩ := hv
    exact ⟨vs, e, exFs_ok hm1 hbx hids hno hS l l' vs h (fun i v k mu l hm => hf i v k mu l (by simpa only [V.flat] using hm)) h1⟩
  | .un, _, u, h, _, _ => by simp [exF] at h
  | .z0, _, u, h, _, _ => by simp [exF] at h
  | .ub, _, u, h, _, _ => by simp [exF] at h
  | .ep _ _ _ _, _, u, h, _, _ => by simp [exF] at h
  | .fp _ _, _, u, h, _, _ => by simp [exF] at h
  | .cl _ _, _, u, h, _, _ => by simp [exF] at h
  | .d _, .ub, u, h, _, _ | .d _, .un, u, h, _, _ | .d _, .nl _, u, h, _, _ | .d _, .z0, u, h, _, _ | .d _, .og _ _, u, h, _, _ | .d _, .bp _ _ _, u, h, _, _ | .d _, .ep _ _ _ _, u, h, _, _ | .d _, .fp _ _, u, h, _, _ | .d _, .cl _ _, u, h, _, _ | .d _, .ag _, u, h, _, _ | .d _, .tu _, u, h, _, _ => by simp [exF] at h
  | .nl _, .ub, u, h, _, _ | .nl _, .un, u, h, _, _ | .nl _, .z0, u, h, _, _ | .nl _, .bp _ _ _, u, h, _, _ | .nl _, .ep _ _ _ _, u, h, _, _ | .nl _, .fp _ _, u, h, _, _ | .nl _, .cl _ _, u, h, _, _ | .nl _, .ag _, u, h, _, _ | .nl _, .tu _, u, h, _, _ => by simp [exF] at h
  | .og _ _, .ub, u, h, _, _ | .og _ _, .un, u, h, _, _ | .og _ _, .nl _, u, h, _, _ | .og _ _, .z0, u, h, _, _ | .og _ _, .bp _ _ _, u, h, _, _ | .og _ _, .ep _ _ _ _, u, h, _, _ | .og _ _, .fp _ _, u, h, _, _ | .og _ _, .cl _ _, u, h, _, _ | .og _ _, .ag _, u, h, _, _ | .og _ _, .tu _, u, h, _, _ => by simp [exF] at h
  | .bp _ _ _, .ub, u, h, _, _ | .bp _ _ _, .un, u, h, _, _ | .bp _ _ _, .d _, u, h, _, _ | .bp _ _ _, .nl _, u, h, _, _ | .bp _ _ _, .z0, u, h, _, _ | .bp _ _ _, .og _ _, u, h, _, _ | .bp _ _ _, .ep _ _ _ _, u, h, _, _ | .bp _ _ _, .fp _ _, u, h, _, _ | .bp _ _ _, .cl _ _, u, h, _, _ | .bp _ _ _, .ag _, u, h, _, _ | .bp _ _ _, .tu _, u, h, _, _ => by simp [exF] at h
  | .ag _, .ub, u, h, _, _ | .ag _, .un, u, h, _, _ | .ag _, .d _, u, h, _, _ | .ag _, .nl _, u, h, _, _ | .ag _, .z0, u, h, _, _ | .ag _, .og _ _, u, h, _, _ | .ag _, .bp _ _ _, u, h, _, _ | .ag _, .ep _ _ _ _, u, h, _, _ | .ag _, .fp _ _, u, h, _, _ | .ag _, .cl _ _, u, h, _, _ | .ag _, .tu _, u, h, _, _ => by simp [exF] at h
  | .tu _, .ub, u, h, _, _ | .tu _, .un, u, h, _, _ | .tu _, .d _, u, h, _, _ | .tu _, .nl _, u, h, _, _ | .tu _, .z0, u, h, _, _ | .tu _, .og _ _, u, h, _, _ | .tu _, .bp _ _ _, u, h, _, _ | .tu _, .ep _ _ _ _, u, h, _, _ | .tu _, .fp _ _, u, h, _, _ | .tu _, .cl _ _, u, h, _, _ | .tu _, .ag _, u, h, _, _ => by simp [exF] at h
theorem exFs_ok (hm1 : Mem m1 hd w S1 X B) (hbx : ∀ i, inU bx i = true → i < 1000000 → os i = m i ∧ hd' i = hd i) (hids : ∀ j i, ids[j]? = some (some i) → ∃ o, m i = some o ∧ os (1000000 + j) = some (o.setv 0) ∧ hd' (1000000 + j) = hd i) (hno : ∀ j, ids[j]? = some none → (∃ k, os (1000000 + j) = some (.arr 0 k true [])) ∧ hd' (1000000 + j) = .slice none 0 0)
    (hS : ∀ b, S b → S1 b) : ∀ (l l' : List V) (us : List Value), exFs m bx ids l l' → (∀ i v k mu l', .og i v ∈ V.flats l → ids.contains (some i) = false → inU bx i = false → m i = some (.arr v k mu l') → m1 i = some (.arr v k false l')) → VRs m hd w S l us → VRs os hd' w S1 l' us
  | [], [], us, _, _, h => by simp only [VRs] at h ⊢; exact h
  | x :: l, y :: l', us, h, hf, hv => by
    simp only [exFs] at h
    simp only [VRs] at hv ⊢
    obtain ⟨u, r, e, h1, h2⟩ := hv
    exact ⟨u, r, e, exF_ok hm1 hbx hids hno hS x y u h.1 (fun i v k mu l hm => hf i v k mu l (by simp only [V.flats, List.mem_append]; exact .inl hm)) h1, exFs_ok hm1 hbx hids hno hS l l' r h.2 (fun i v k mu l hm => hf i v k mu l (by simp only [V.flats, List.mem_append]; exact .inr hm)) h2⟩
  | [], _ :: _, us, h, _, _ => by simp [exFs] at h
  | _ :: _, [], us, h, _, _ => by simp [exFs] at h
end
theorem asF_len {m : M} : ∀ {ids : List (Option Nat)} {as : List O}, asF m ids as → as.length = ids.length
  | [], [], _ => rfl
  | none :: r, o :: as, h => by simp only [asF] at h; simp [asF_len h.2]
  | some i :: r, o :: as, h => by simp only [asF] at h; simp [asF_len h.2]
  | [], _ :: _, h => by simp [asF] at h
  | none :: _, [], h => by simp [asF] at h
  | some _ :: _, [], h => by simp [asF] at h
theorem asF_get {m : M} : ∀ {ids : List (Option Nat)} {as : List O}, asF m ids as → ∀ (j : Nat) (o : O), as[j]? = some o → (ids[j]? = some none ∧ ∃ k, o = .arr 0 k true []) ∨ ∃ i o', ids[j]? = some (some i) ∧ m i = some o' ∧ o = o'.setv 0 ∧ o.wf = true
  | [], [], _, j, o, h => by simp at h
  | none :: r, o' :: as, h, 0, o, hj => by simp only [asF] at h; simp at hj; subst hj; exact .inl ⟨rfl, h.1⟩
  | none :: r, o' :: as, h, j + 1, o, hj => by simp only [asF] at h; simpa using asF_get h.2 j o (by simpa using hj)
  | some i :: r, o' :: as, h, 0, o, hj => by simp only [asF] at h; simp at hj; subst hj; obtain ⟨⟨o'', h1, h2, h3⟩, _⟩ := h; exact .inr ⟨i, o'', rfl, h1, h2, h3⟩
  | some i :: r, o' :: as, h, j + 1, o, hj => by simp only [asF] at h; simpa using asF_get h.2 j o (by simpa using hj)
  | [], _ :: _, h, _, _, _ => by simp [asF] at h
  | none :: _, [], h, _, _, _ => by simp [asF] at h
  | some _ :: _, [], h, _, _, _ => by simp [asF] at h
theorem bxF_get {m : M} : ∀ {us : U}, bxF m ids us → ∀ x ∈ us, m x.1 = some x.2 ∧ x.2.wfB = true ∧ ids.contains (some x.1) = false ∧ x.1 < 1000000
  | [], _, x, hx => by cases hx
  | (i, o) :: r, h, x, hx => by
    simp only [bxF] at h
    rcases List.mem_cons.1 hx with rfl | hx
    · exact h.1
    · exact bxF_get h.2 x hx
theorem ids_inj : ∀ {ids : List (Option Nat)}, (ids.filterMap id).Nodup → ∀ {j j' : Nat} {i : Nat}, ids[j]? = some (some i) → ids[j']? = some (some i) → j = j'
  | [], _, j, j', i, h, _ => by simp at h
  | none :: r, hn, 0, j', i, h, _ => by simp at h
  | none :: r, hn, j + 1, 0, i, _, h => by simp at h
  | none :: r, hn, j + 1, j' + 1, i, h, h' => by have e : j = j' := ids_inj (ids := r) (i := i) (by simpa using hn) (by simpa using h) (by simpa using h'); rw [e]
  | some k :: r, hn, 0, 0, i, _, _ => rfl
  | some k :: r, hn, 0, j' + 1, i, h, h' => by
    simp at h h' hn
    subst h
    exact absurd (List.mem_of_getElem? h') (fun hm => hn.1 (by simpa using hm))
  | some k :: r, hn, j + 1, 0, i, h, h' => by
    simp at h h' hn
    subst h'
    exact absurd (List.mem_of_getElem? h) (fun hm => hn.1 (by simpa using hm))
  | some k :: r, hn, j + 1, j' + 1, i, h, h' => by have e : j = j' := ids_inj (ids := r) (i := i) (by simp at hn; simpa using hn.2) (by simpa using h) (by simpa using h'); rw [e]
end

/-- WHAT IS HANDED BACK. -/
theorem ret_ok {m : M} {hd hd0 : H} {w w0 : World} {S S0 X : Nat → Prop} {r' r : V} {ids : List (Option Nat)} {bx bx' : U} {as : List O} {u : Value} (hm : Mem m hd w S X w0.heap.size) (hv : VR m hd w S r' u) (hsub : ∀ b, S b → S0 b ∨ w0.heap.size ≤ b ∨ X b) (hle : Le (ups M0 bx) hd0 m hd)
    (hbb : ∀ x ∈ bx, ∃ o, (x.1, o) ∈ bx') (hnd' : (bx'.map (·.1)).Nodup)
    (h1 : exF m bx' ids r' r) (h2 : asF m ids as) (h3 : (ids.filterMap id).Nodup) (h4 : bxF m ids bx') :
    ∃ hd' S', Mem (ups M0 (bx' ++ fresh as)) hd' w S' X w0.heap.size ∧ VR (ups M0 (bx' ++ fresh as)) hd' w S' r u ∧ (∀ b, S' b → S0 b ∨ w0.heap.size ≤ b ∨ X b) ∧ Le (ups M0 bx) hd0 (ups M0 (bx' ++ fresh as)) hd' := by
  obtain ⟨S1, o1⟩ := out_frzs hm (kept bx' ids r'.flat)
  have hS : ∀ b, S b → S1 b := fun b hb => (o1.keep b hb (hm.lt b hb)).1
  have hlen := asF_len h2
  let hd' : H := fun i => if 1000000 ≤ i then (match ids[i - 1000000]? with
    | some (some i') => hd i'
    | _ => .slice none 0 0) else hd i
  have hkept2 : ∀ i v, .og i v ∈ kept bx' ids r'.flat → ids.contains (some i) = false ∧ inU bx' i = false := by
    intro i v h
    unfold kept at h
    have := (List.mem_filter.1 h).2
    simpa using this
  have hkept : ∀ i v, .og i v ∈ kept bx' ids r'.flat → ids.contains (some i) = false := fun i v h => (hkept2 i v h).1
  -- what is handed back is as it was
  have hsame : ∀ i, ids.contains (some i) = true → ups m (frz m (kept bx' ids r'.flat)) i = m i := by
    intro i hi
    refine ups_frz_not i _ _ (List.all_eq_true.2 fun x hx => ?_)
    unfold V.notOg
    split
    · rename_i j v
      have := hkept j v hx
      simp only [bne_iff_ne, ne_eq]
      rintro rfl
      rw [hi] at this
      cases this
    · rfl
  have hmem : ∀ {j i}, ids[j]? = some (some i) → ids.contains (some i) = true := fun {j i} h => by
    simpa using List.mem_of_getElem? h
  have hfresh : ∀ {j o}, as[j]? = some o → ups M0 (bx' ++ fresh as) (1000000 + j) = some o := fun h => by rw [ups_append]; exact ups_mem nodup_fresh (fresh_mem h)
  have hold : ∀ {x}, x ∈ bx' → ups M0 (bx' ++ fresh as) x.1 = some x.2 := fun {x} hx => by
    rw [ups_append, ups_not]
    · exact ups_mem hnd' hx
    · rintro ⟨i', o'⟩ hx' e
      obtain ⟨j, e', _⟩ := mem_fresh hx'
      have := (bxF_get h4 x hx).2.2.2
      simp only at e
      omega
  have hcases : ∀ i o, ups M0 (bx' ++ fresh as) i = some o → (∃ j, i = 1000000 + j ∧ as[j]? = some o) ∨ (i, o) ∈ bx' := by
    intro i o h
    rcases ups_or i (bx' ++ fresh as) M0 with ⟨e, _⟩ | ⟨o', e1, e2⟩
    · rw [e] at h; cases h
    · rw [e2] at h
      cases h
      rcases List.mem_append.1 e1 with e1 | e1
      · exact .inr e1
      · exact .inl (mem_fresh e1)
  have hids : ∀ j i, ids[j]? = some (some i) → ∃ o, m i = some o ∧ ups M0 (bx' ++ fresh as) (1000000 + j) = some (o.setv 0) ∧ hd' (1000000 + j) = hd i := by
    intro j i h
    have hj : j < as.length := by rw [hlen]; exact (List.getElem?_eq_some_iff.1 h).1
    rcases asF_get h2 j _ (List.getElem?_eq_getElem hj) with ⟨e, _⟩ | ⟨i', o', e, e2, e3, _⟩
    · rw [e] at h; cases h
    · rw [e] at h
      cases h
      refine ⟨o', e2, by rw [← e3]; exact hfresh (List.getElem?_eq_getElem hj), ?_⟩
      simp only [hd', Nat.le_add_right, if_true, Nat.add_sub_cancel_left, e]
  have hno : ∀ j, ids[j]? = some none → (∃ k, ups M0 (bx' ++ fresh as) (1000000 + j) = some (.arr 0 k true [])) ∧ hd' (1000000 + j) = .slice none 0 0 := by
    intro j h
    have hj : j < as.length := by rw [hlen]; exact (List.getElem?_eq_some_iff.1 h).1
    rcases asF_get h2 j _ (List.getElem?_eq_getElem hj) with ⟨e, k, e2⟩ | ⟨i', o', e, _⟩
    · refine ⟨⟨k, by rw [← e2]; exact hfresh (List.getElem?_eq_getElem hj)⟩, ?_⟩
      simp only [hd', Nat.le_add_right, if_true, Nat.add_sub_cancel_left, h]
    · rw [e] at h; cases h
  have hlow : ∀ i, i < 1000000 → hd' i = hd i := fun i hi => by simp only [hd']; rw [if_neg (by omega)]
  refine ⟨hd', S1, ⟨fun i o ho => ?_, fun i j oi oj b hne hi hj li lj bi bj => ?_, o1.mem.lt, o1.mem.base, o1.mem.sX⟩, exF_ok o1.mem (fun i hi hlt => ?_) hids hno hS r' r u h1 (fun i v k mu l hmem hc hn hi => ups_frz_get (v := v) hi _ _ ?_) hv, fun b hb => (o1.more b hb).elim (hsub b) .inr, ⟨fun i o ho => ?_⟩⟩
  · rcases hcases i o ho with ⟨j, rfl, hj⟩ | hx
    · rcases asF_get h2 j o hj with ⟨e, k, rfl⟩ | ⟨i', o', e, e2, rfl, e4⟩
      · rw [(hno j e).2]
        simp only [O.is, if_true]
        exact ⟨[], by simp [Rows], .inl ⟨none, rfl, rfl⟩⟩
      · have hob := o1.mem.obj i' o' (by rw [hsame i' (hmem e)]; exact e2)
        have eh : hd' (1000000 + j) = hd i' := by obtain ⟨_, _, _, e⟩ := hids j i' e; exact e
        rw [eh]
        cases o' with
        | box v cs =>
          simp only [O.setv, O.wf, Bool.and_eq_true] at e4
          simp only [O.is, O.setv] at hob ⊢
          obtain ⟨b, vs, e, g1, g2, g3, g4, g5⟩ := hob
          exact ⟨b, vs, e, g1, g2, g3, closed_ok (fun _ h _ => ⟨h, rfl⟩) e4.2 g4, g5⟩
        | arr v k mu l =>
          simp only [O.is, O.setv] at hob ⊢
          exact hob
        | vec v cs => simp [O.setv, O.wf] at e4
        | mp v ks => simp [O.setv, O.wf] at e4
    · obtain ⟨g1, g2, g3, g4⟩ := bxF_get h4 _ hx
      simp only at g1 g2 g3 g4
      rw [hlow i g4]
      have hob := o1.mem.obj i o (by rw [frz_keep fun v hv => by have := (hkept2 i v hv).2; rw [mem_inU hx] at this; cases this]; exact g1)
      cases o with
      | arr v k mu l =>
        simp only [O.is] at hob ⊢
        exact hob
      | vec v cs => simp [O.wfB] at g2
      | mp v ks => simp [O.wfB] at g2
      | box v cs =>
        simp only [O.wfB] at g2
        simp only [O.is] at hob ⊢
        obtain ⟨b, vs, e, q1, q2, q3, q4, q5⟩ := hob
        exact ⟨b, vs, e, q1, q2, q3, closed_ok (fun _ h _ => ⟨h, rfl⟩) g2 q4, q5⟩
  · -- apart
    have back : ∀ i o, ups M0 (bx' ++ fresh as) i = some o → o.live = true → ∀ b, blk (hd' i) = some b → ∃ i' o', m i' = some o' ∧ o'.live = true ∧ blk (hd i') = some b ∧ ((i < 1000000 ∧ i' = i ∧ ids.contains (some i) = false) ∨ ∃ j, i = 1000000 + j ∧ ids[j]? = some (some i')) := by
      intro i o ho hl b hb
      rcases hcases i o ho with ⟨j, rfl, hj⟩ | hx
      · rcases asF_get h2 j o hj with ⟨e, k, rfl⟩ | ⟨i', o', e, e2, rfl, e4⟩
        · rw [(hno j e).2] at hb; simp [blk] at hb
        · obtain ⟨_, _, _, eh⟩ := hids j i' e
          rw [eh] at hb
          exact ⟨i', o', e2, by rw [← setv_live o' 0]; exact hl, hb, .inr ⟨j, rfl, e⟩⟩
      · obtain ⟨g1, g2, g3, g4⟩ := bxF_get h4 _ hx
        simp only at g1 g2 g3 g4
        rw [hlow i g4] at hb
        exact ⟨i, o, g1, hl, hb, .inl ⟨g4, rfl, g3⟩⟩
    obtain ⟨i1, o2, e1, l1, b1, c1⟩ := back i oi hi li b bi
    obtain ⟨i2, o3, e2, l2, b2, c2⟩ := back j oj hj lj b bj
    by_cases e : i1 = i2
    · subst e
      rcases c1 with ⟨c1, rfl, c3⟩ | ⟨j1, rfl, c1⟩
      · rcases c2 with ⟨c2, rfl, _⟩ | ⟨j2, rfl, c2⟩
        · exact hne rfl
        · rw [hmem c2] at c3; cases c3
      · rcases c2 with ⟨c2, rfl, c3⟩ | ⟨j2, rfl, c2⟩
        · rw [hmem c1] at c3; cases c3
        · exact hne (by rw [ids_inj h3 c1 c2])
    · exact hm.sep i1 i2 o2 o3 b e e1 e2 l1 l2 b1 b2
  · obtain ⟨o, ho⟩ := inU_mem hi
    obtain ⟨g1, g2, g3, g4⟩ := bxF_get h4 _ ho
    simp only at g1
    exact ⟨by rw [hold ho, g1], hlow i hlt⟩
  · unfold kept
    exact List.mem_filter.2 ⟨hmem, by simp only [hc, hn]; rfl⟩
  · have hmb : ∃ o', (i, o') ∈ bx := by
      rcases ups_or i bx M0 with ⟨e, _⟩ | ⟨o', e, _⟩
      · rw [e] at ho; cases ho
      · exact ⟨o', e⟩
    obtain ⟨o0, hx0⟩ := hmb
    obtain ⟨o', hx'⟩ := hbb _ hx0
    obtain ⟨g1, g2, g3, g4⟩ := bxF_get h4 _ hx'
    simp only at g1 g4
    obtain ⟨o2, k1, k2, k3⟩ := hle.le i o ho
    rw [g1] at k1
    cases k1
    exact ⟨_, hold hx', k2, fun e => by rw [hlow i g4]; exact k3 e⟩
end Go.Proofs.YthbhkkdaaipngaaGreatDoor.Sim
