/- What a call does: of no program. Conditions: none. -/
import Derived.Test.YthbhkkdaaipngaaGreatDoorMSimL
namespace Go.Proofs.YthbhkkdaaipngaaGreatDoor.Sim
open Go Go.RowKit Go.Deep
set_option linter.unusedVariables false

abbrev M0 : M := fun _ => none
/-- New objects, by their names. -/
def fresh (as : List O) : U := as.zipIdx.map fun p => (1000000 + p.2, p.1)
/-- The package's variables that are read are there. -/
def Gk (w : World) (X : Nat → Prop) : Prop := ∀ g, GL.contains g = true → g < w.heap.size ∧ ¬ X g ∧ w.cell? ⟨g, 0, none⟩ = some GLV
/-- WHAT A CALL DOES: values xs, with the variables bx that pointers lead to, come to r, these variables to bx', and the objects as are new. -/
def Does (P : Program) (f : FuncId) (xs : List V) (bx : U) (r : V) (bx' : U) (as : List O) : Prop :=
  ∀ (w : World) (hd : H) (S X : Nat → Prop) (us : List Value), Gk w X → Mem (ups M0 bx) hd w S X w.heap.size → VRs (ups M0 bx) hd w S xs us →
    Calls P f us.toArray w fun e w' => ∃ u hd' S', e = .returned u ∧ Fr w w' X ∧ Mem (ups M0 (bx' ++ fresh as)) hd' w' S' X w.heap.size ∧ VR (ups M0 (bx' ++ fresh as)) hd' w' S' r u ∧ (∀ b, S' b → S b ∨ w.heap.size ≤ b ∨ X b) ∧ Le (ups M0 bx) hd (ups M0 (bx' ++ fresh as)) hd'

/-- Is it the name of an object of these? -/
def inU : U → Nat → Bool
  | [], _ => false
  | (j, _) :: r, i => if j = i then true else inU r i
theorem inU_mem {i : Nat} : ∀ {us : U}, inU us i = true → ∃ o, (i, o) ∈ us
  | [], h => by cases h
  | (j, o) :: r, h => by
    simp only [inU] at h
    split at h
    · rename_i e; subst e; exact ⟨o, by simp⟩
    · obtain ⟨o', h'⟩ := inU_mem h; exact ⟨o', by simp [h']⟩
theorem mem_inU {i : Nat} {o : O} : ∀ {us : U}, (i, o) ∈ us → inU us i = true
  | [], h => by cases h
  | (j, o') :: r, h => by
    simp only [inU]
    split
    · rfl
    · rename_i e
      rcases List.mem_cons.1 h with h | h
      · cases h; exact absurd rfl e
      · exact mem_inU h
/-- What is not lent. -/
def lentOut (bx : U) : List V → List V
  | [] => []
  | .og i v :: l => if inU bx i = true then lentOut bx l else .og i v :: lentOut bx l
  | x :: l => x :: lentOut bx l
theorem lentOut_og {bx : U} {i v : Nat} : ∀ {l : List V}, .og i v ∈ lentOut bx l ↔ .og i v ∈ l ∧ inU bx i = false
  | [] => by simp [lentOut]
  | x :: l => by
    have ih := lentOut_og (bx := bx) (i := i) (v := v) (l := l)
    cases x with
    | og j u =>
      simp only [lentOut]
      split
      · rename_i hj
        rw [ih, List.mem_cons]
        constructor
        · rintro ⟨h1, h2⟩; exact ⟨.inr h1, h2⟩
        · rintro ⟨h1 | h1, h2⟩
          · cases h1; rw [hj] at h2; cases h2
          · exact ⟨h1, h2⟩
      · rename_i hj
        rw [List.mem_cons, List.mem_cons, ih]
        constructor
        · rintro (h1 | h1)
          · cases h1; exact ⟨.inl rfl, by simpa using hj⟩
          · exact ⟨.inr h1.1, h1.2⟩
        · rintro ⟨h1 | h1, h2⟩
          · exact .inl h1
          · exact .inr ⟨h1, h2⟩
    | _ => simp only [lentOut, List.mem_cons, ih, reduceCtorEq, false_or]
/-- Data that leads nowhere but to data. -/
def closed : V → Bool
  | .d _ => true
  | .nl _ => true
  | _ => false
/-- As what a value is handed on. -/
inductive Arg (m : M) (bx : U) : V → V → Prop
  | un : Arg m bx .un .un
  | ot (i v e k : Nat) (l : List (List D)) (h : m i = some (.arr v k true l)) (h2 : (i, O.arr v k true l) ∈ bx) : Arg m bx (.ot i v e) (.ot i v e)
  | d (x : D) : Arg m bx (.d x) (.d x)
  | nl (k k' : Nat) : Arg m bx (.nl k) (.nl k')
  | nd (k k' : Nat) : Arg m bx (.nl k) (.d (.sl k' []))
  | og (i v k : Nat) (mu : Bool) (l : List (List D)) (h : m i = some (.arr v k mu l)) (hn : inU bx i = false) : Arg m bx (.og i v) (.d (.sl k l))
  | ogl (i v k : Nat) (l : List (List D)) (h : m i = some (.arr v k true l)) (h2 : (i, O.arr v k true l) ∈ bx) : Arg m bx (.og i v) (.og i v)
  | bp (i v o : Nat) (cs : List V) (h : m i = some (.box v cs)) (h2 : (i, O.box v cs) ∈ bx) : Arg m bx (.bp i v o) (.bp i v o)
  | agn : Arg m bx (.ag []) (.ag [])
  | agc {x y : V} {l l' : List V} (h : Arg m bx x y) (h2 : Arg m bx (.ag l) (.ag l')) : Arg m bx (.ag (x :: l)) (.ag (y :: l'))
  | cln (f : FuncId) : Arg m bx (.cl f []) (.cl f [])
  | clc {f : FuncId} {x y : V} {l l' : List V} (h : Arg m bx x y) (h2 : Arg m bx (.cl f l) (.cl f l')) : Arg m bx (.cl f (x :: l)) (.cl f (y :: l'))
inductive Args (m : M) (bx : U) : List V → List V → Prop
  | nil : Args m bx [] []
  | cons {x y : V} {l l' : List V} (h : Arg m bx x y) (h2 : Args m bx l l') : Args m bx (x :: l) (y :: l')
mutual
/-- The cells of values, closures' too. -/
def V.flat : V → List V
  | .ag l => V.flats l
  | .cl _ l => V.flats l
  | .tu l => V.flats l
  | x => [x]
def V.flats : List V → List V
  | [] => []
  | x :: l => V.flat x ++ V.flats l
end
mutual
/-- The result of a call, in the caller's names. -/
def V.ren (b : Nat) (m : M) : V → V
  | .og i v => if i < 1000000 then .og i v else .og (b + (i - 1000000)) (nv m (b + (i - 1000000)))
  | .bp i v o => if i < 1000000 then .bp i v o else .bp (b + (i - 1000000)) (nv m (b + (i - 1000000))) o
  | .ag l => .ag (V.rens b m l)
  | .tu l => .tu (V.rens b m l)
  | x => x
def V.rens (b : Nat) (m : M) : List V → List V
  | [] => []
  | x :: l => V.ren b m x :: V.rens b m l
end
mutual
/-- Of the form of results. -/
def V.wfR (us : U) (n : Nat) : V → Bool
  | .d _ => true
  | .nl _ => true
  | .og i v => if i < 1000000 then inU us i else decide (i < 1000000 + n) && v == 0
  | .bp i v o => if i < 1000000 then inU us i else decide (i < 1000000 + n) && v == 0
  | .ag l => V.wfRs us n l
  | .tu l => V.wfRs us n l
  | _ => false
def V.wfRs (us : U) (n : Nat) : List V → Bool
  | [] => true
  | x :: l => V.wfR us n x && V.wfRs us n l
end
def O.setv (v : Nat) : O → O
  | .box _ cs => .box v cs
  | .arr _ k mu l => .arr v k mu l
  | .vec _ cs => .vec v cs
  | .mp _ ks => .mp v ks
def O.wf : O → Bool
  | .box v cs => v == 0 && cs.all closed
  | .arr v _ mu _ => v == 0 && mu
  | _ => false
def O.wfB : O → Bool
  | .box _ cs => cs.all closed
  | .arr _ _ _ _ => true
  | _ => false
/-- New objects in the caller's names. -/
def freshIn (b : Nat) (m : M) (as : List O) : U := as.zipIdx.map fun p => (b + p.2, p.1.setv (nv m (b + p.2)))

section
variable {m m' : M} {us : U}
theorem ups_not {i : Nat} : ∀ {us : U} {m : M}, (∀ x ∈ us, x.1 ≠ i) → ups m us i = m i
  | [], m, _ => rfl
  | (j, o) :: us, m, h => by
    rw [ups, ups_not (fun x hx => h x (by simp [hx])), up_ne]
    exact fun e => h (j, o) (by simp) e.symm
theorem ups_mem {i : Nat} {o : O} : ∀ {us : U} {m : M}, (us.map (·.1)).Nodup → (i, o) ∈ us → ups m us i = some o
  | [], m, _, h => by cases h
  | (j, o') :: us, m, hn, h => by
    simp only [List.map_cons, List.nodup_cons] at hn
    rw [ups]
    rcases List.mem_cons.1 h with h | h
    · cases h
      rw [ups_not, up_same]
      intro x hx e
      exact hn.1 (List.mem_map.2 ⟨x, hx, e⟩)
    · exact ups_mem hn.2 h
theorem ups_or (i : Nat) : ∀ (us : U) (m : M), (ups m us i = m i ∧ ∀ x ∈ us, x.1 ≠ i) ∨ ∃ o, (i, o) ∈ us ∧ ups m us i = some o
  | [], m => .inl ⟨rfl, by simp⟩
  | (j, o) :: us, m => by
    rw [ups]
    rcases ups_or i us (up m j (some o)) with ⟨h1, h2⟩ | ⟨o', h1, h2⟩
    · by_cases e : i = j
      · subst e
        exact .inr ⟨o, by simp, by rw [h1, up_same]⟩
      · refine .inl ⟨by rw [h1, up_ne _ _ e], fun x hx => ?_⟩
        rcases List.mem_cons.1 hx with rfl | hx
        · exact fun h => e h.symm
        · exact h2 x hx
    · exact .inr ⟨o', by simp [h1], h2⟩
theorem mem_fresh {as : List O} {i : Nat} {o : O} (h : (i, o) ∈ fresh as) : ∃ j, i = 1000000 + j ∧ as[j]? = some o := by
  unfold fresh at h
  obtain ⟨⟨o', j⟩, h1, h2⟩ := List.mem_map.1 h
  cases h2
  exact ⟨j, rfl, by simpa using List.mk_mem_zipIdx_iff_getElem?.1 h1⟩
theorem fresh_mem {as : List O} {j : Nat} {o : O} (h : as[j]? = some o) : (1000000 + j, o) ∈ fresh as := List.mem_map.2 ⟨(o, j), List.mk_mem_zipIdx_iff_getElem?.2 (by simpa using h), rfl⟩
theorem mem_freshIn {as : List O} {b i : Nat} {o : O} (h : (i, o) ∈ freshIn b m as) : ∃ j o', i = b + j ∧ as[j]? = some o' ∧ o = o'.setv (nv m i) := by
  unfold freshIn at h
  obtain ⟨⟨o', j⟩, h1, h2⟩ := List.mem_map.1 h
  cases h2
  exact ⟨j, o', rfl, by simpa using List.mk_mem_zipIdx_iff_getElem?.1 h1, rfl⟩
theorem freshIn_mem {as : List O} {b j : Nat} {o : O} (h : as[j]? = some o) : (b + j, o.setv (nv m (b + j))) ∈ freshIn b m as := List.mem_map.2 ⟨(o, j), List.mk_mem_zipIdx_iff_getElem?.2 (by simpa using h), rfl⟩
theorem nodup_freshIn {as : List O} {b : Nat} : ((freshIn b m as).map (·.1)).Nodup := by
  unfold freshIn
  rw [List.map_map]
  have : ((fun x : Nat × O => x.1) ∘ fun p : O × Nat => (b + p.2, p.1.setv (nv m (b + p.2)))) = (fun p : O × Nat => b + p.2) := rfl
  rw [this, show (fun p : O × Nat => b + p.2) = (fun j => b + j) ∘ Prod.snd from rfl, ← List.map_map, List.zipIdx_map_snd]
  exact List.pairwise_map.2 ((List.nodup_range' (s := 0) (n := as.length)).imp fun h e => h (by omega))
theorem nodup_fresh {as : List O} : ((fresh as).map (·.1)).Nodup := by
  unfold fresh
  rw [List.map_map]
  have : ((fun x : Nat × O => x.1) ∘ fun p : O × Nat => (1000000 + p.2, p.1)) = (fun j => 1000000 + j) ∘ Prod.snd := rfl
  rw [this, ← List.map_map, List.zipIdx_map_snd]
  exact List.pairwise_map.2 ((List.nodup_range' (s := 0) (n := as.length)).imp fun h e => h (by omega))
end

section
variable {m m1 : M} {hd : H} {w : World} {S S1 X : Nat → Prop} {B : Nat} {bx : U}
theorem closed_ok {m2 : M} {hd2 : H} {w2 : World} {S2 : Nat → Prop} (hk : ∀ b, S b → b < w.heap.size → S2 b ∧ w2.heap[b]? = w.heap[b]?) : ∀ {cs : List V} {vs : List Value}, cs.all closed = true → VRs m hd w S cs vs → VRs m2 hd2 w2 S2 cs vs
  | [], vs, _, h => by simp only [VRs] at h ⊢; exact h
  | x :: cs, vs, hc, h => by
    simp only [List.all_cons, Bool.and_eq_true] at hc
    simp only [VRs] at h ⊢
    obtain ⟨u, r, e, h1, h2⟩ := h
    refine ⟨u, r, e, ?_, closed_ok hk hc.2 h2⟩
    cases x with
    | d y => simp only [VR] at h1 ⊢; exact D.keep hk _ _ h1
    | nl k => simp only [VR] at h1 ⊢; exact h1
    | _ => exact absurd hc.1 (by simp [closed])
/-- A value as it is handed on. -/
theorem arg_ok (hm1 : Mem m1 hd w S1 X B) {x y : V} (h : Arg m bx x y) : ∀ {u : Value}, VR m1 hd w S1 x u → (∀ i v k mu l, .og i v ∈ x.flat → inU bx i = false → m i = some (.arr v k mu l) → m1 i = some (.arr v k false l)) → (∀ x ∈ bx, m1 x.1 = some x.2) → (bx.map (·.1)).Nodup → VR (ups M0 bx) hd w S1 y u := by
  induction h with
  | d x => intro u h _ _ _; simp only [VR] at h ⊢; exact h
  | nl k k' => intro u h _ _ _; simp only [VR] at h ⊢; exact h
  | nd k k' =>
    intro u h _ _ _
    simp only [VR] at h ⊢
    subst h
    simp only [D.is]
    exact ⟨none, 0, [], rfl, Nat.le_refl _, Nat.zero_le _, by simp [Rows], fun h => absurd h (by simp)⟩
  | un => intro u h _ _ _; simp only [VR]
  | ot i v e k l hi hbx =>
    intro u h _ hb hn
    have h1 := hb _ hbx
    simp only [VR] at h ⊢
    obtain ⟨h0, y, hy, hv, h⟩ := h
    simp only at h1
    rw [h1] at hy
    cases hy
    exact ⟨h0, _, ups_mem hn hbx, hv, h⟩
  | ogl i v k l hi hbx =>
    intro u h _ hb hn
    have h1 := hb _ hbx
    simp only [VR] at h ⊢
    obtain ⟨h0, y, hy, hv, h⟩ := h
    simp only at h1
    rw [h1] at hy
    cases hy
    exact ⟨h0, _, ups_mem hn hbx, hv, h⟩
  | og i v k mu l hi hno =>
    intro u h hf _ _
    have h1 := hf i v k mu l (by simp [V.flat]) hno hi
    have h2 := hm1.obj i _ h1
    simp only [O.is, Bool.false_eq_true, if_false] at h2
    simp only [VR] at h ⊢
    obtain ⟨_, y, hy, _, h⟩ := h
    rw [h1] at hy
    cases hy
    rw [h _ _ _ rfl]
    exact h2
  | bp i v o cs hi hbx =>
    intro u h _ hb hn
    have h1 := hb _ hbx
    simp only [VR] at h ⊢
    obtain ⟨h0, y, hy, hv, h⟩ := h
    simp only at h1
    rw [h1] at hy
    cases hy
    exact ⟨h0, _, ups_mem hn hbx, hv, h⟩
  | agn => intro u h _ _ _; simp only [VR] at h ⊢; obtain ⟨vs, e, h1, h2⟩ := h; simp only [VRs] at h1; subst h1; exact ⟨[], e, by simp [VRs], h2⟩
  | agc h1 h2 ih1 ih2 =>
    intro u h hf hb hn
    simp only [VR, VRs] at h
    obtain ⟨vs, e, ⟨v0, r, rfl, g1, g2⟩, g3⟩ := h
    have k1 := ih1 g1 (fun i v k mu l hm hn' hi => hf i v k mu l (by simp only [V.flat, V.flats, List.mem_append]; exact .inl hm) hn' hi) hb hn
    have k2 := ih2 (u := .agg r.toArray) (by simp only [VR]; exact ⟨r, rfl, g2, fun y hy => g3 y (by simp [hy])⟩) (fun i v k mu l hm hn' hi => hf i v k mu l (by simp only [V.flat, V.flats, List.mem_append] at hm ⊢; exact .inr hm) hn' hi) hb hn
    simp only [VR] at k2
    obtain ⟨r', e', k3, _⟩ := k2
    have er : r' = r := by injection e' with e'; exact (List.toArray_inj e').symm
    subst er
    simp only [VR, VRs]
    exact ⟨_, e, ⟨v0, _, rfl, k1, k3⟩, g3⟩
  | cln f => intro u h _ _ _; simp only [VR] at h ⊢; obtain ⟨vs, e, h1⟩ := h; simp only [VRs] at h1; subst h1; exact ⟨[], e, by simp [VRs]⟩
  | clc h1 h2 ih1 ih2 =>
    rename_i f x y l l'
    intro u h hf hb hn
    simp only [VR, VRs] at h
    obtain ⟨vs, e, ⟨v0, r, rfl, g1, g2⟩⟩ := h
    have k1 := ih1 g1 (fun i v k mu l hm hn' hi => hf i v k mu l (by simp only [V.flat, V.flats, List.mem_append]; exact .inl hm) hn' hi) hb hn
    have k2 := ih2 (u := .func (.func f) #[] r.toArray) (by simp only [VR]; exact ⟨r, rfl, g2⟩) (fun i v k mu l hm hn' hi => hf i v k mu l (by simp only [V.flat, V.flats, List.mem_append] at hm ⊢; exact .inr hm) hn' hi) hb hn
    simp only [VR] at k2
    obtain ⟨r', e', k3⟩ := k2
    have er : r' = r := by injection e' with _ _ e'; exact (List.toArray_inj e').symm
    subst er
    simp only [VR, VRs]
    exact ⟨_, e, ⟨v0, _, rfl, k1, k3⟩⟩
theorem args_ok (hm1 : Mem m1 hd w S1 X B) {xs ys : List V} (h : Args m bx xs ys) : ∀ {us : List Value}, VRs m1 hd w S1 xs us → (∀ i v k mu l, .og i v ∈ V.flats xs → inU bx i = false → m i = some (.arr v k mu l) → m1 i = some (.arr v k false l)) → (∀ x ∈ bx, m1 x.1 = some x.2) → (bx.map (·.1)).Nodup → VRs (ups M0 bx) hd w S1 ys us := by
  induction h with
  | nil => intro us h _ _ _; simp only [VRs] at h ⊢; exact h
  | cons h1 h2 ih =>
    intro us h hf hb hn
    simp only [VRs] at h ⊢
    obtain ⟨u, r, e, g1, g2⟩ := h
    exact ⟨u, r, e, arg_ok hm1 h1 g1 (fun i v k mu l hm hn' hi => hf i v k mu l (by simp only [V.flats, List.mem_append]; exact .inl hm) hn' hi) hb hn, ih g2 (fun i v k mu l hm hn' hi => hf i v k mu l (by simp only [V.flats, List.mem_append]; exact .inr hm) hn' hi) hb hn⟩
end
section
variable {os m2 : M} {hd' hd2 : H} {w' : World} {S' S2 : Nat → Prop} {b n : Nat} {m : M} {bx : U}
mutual
theorem ren_ok (hS : ∀ k, S' k → S2 k) (hold : ∀ i, inU bx i = true → i < 1000000 → m2 i = os i ∧ hd2 i = hd' i) (hnew : ∀ j, j < n → ∃ o, os (1000000 + j) = some o ∧ o.ver = 0 ∧ m2 (b + j) = some (o.setv (nv m (b + j))) ∧ hd2 (b + j) = hd' (1000000 + j)) : ∀ (r : V) (u : Value), r.wfR bx n = true → VR os hd' w' S' r u → VR m2 hd2 w' S2 (r.ren b m) u
  | .d x, u, _, h => by simp only [V.ren, VR] at h ⊢; exact D.keep (fun b hb _ => ⟨hS b hb, rfl⟩) _ _ h
  | .nl k, u, _, h => by simp only [V.ren, VR] at h ⊢; exact h
  | .og i v, u, hr, h => by
    simp only [V.wfR] at hr
    by_cases hi : i < 1000000
    · rw [if_pos hi] at hr
      obtain ⟨e1, e2⟩ := hold i hr hi
      simp only [V.ren, if_pos hi]
      simp only [VR] at h ⊢
      rw [e1, e2]
      exact h
    rw [if_neg hi] at hr
    simp only [V.ren, if_neg hi]
    simp only [Bool.and_eq_true, decide_eq_true_eq, beq_iff_eq] at hr
    obtain ⟨h2, rfl⟩ := hr
    have h1 : 1000000 ≤ i := by omega
    obtain ⟨o, k1, k2, k3, k4⟩ := hnew (i - 1000000) (by omega)
    rw [show 1000000 + (i - 1000000) = i by omega] at k1 k4
    simp only [VR] at h ⊢
    obtain ⟨h0, y, hy, _, h⟩ := h
    rw [k1] at hy
    cases hy
    refine ⟨h0, _, k3, by cases o <;> simp [O.setv, O.ver], fun k mu l e => ?_⟩
    cases o with
    | box v' cs => simp [O.setv] at e
    | vec v' cs => simp [O.setv] at e
    | mp v' cs => simp [O.setv] at e
    | arr v' k' mu' l' =>
      simp only [O.ver] at k2
      subst k2
      rw [k4]
      exact h k' mu' l' rfl
  | .bp i v q, u, hr, h => by
    simp only [V.wfR] at hr
    by_cases hi : i < 1000000
    · rw [if_pos hi] at hr
      obtain ⟨e1, e2⟩ := hold i hr hi
      simp only [V.ren, if_pos hi]
      simp only [VR] at h ⊢
      rw [e1, e2]
      exact h
    rw [if_neg hi] at hr
    simp only [V.ren, if_neg hi]
    simp only [Bool.and_eq_true, decide_eq_true_eq, beq_iff_eq] at hr
    obtain ⟨h2, rfl⟩ := hr
    have h1 : 1000000 ≤ i := by omega
    obtain ⟨o, k1, k2, k3, k4⟩ := hnew (i - 1000000) (by omega)
    rw [show 1000000 + (i - 1000000) = i by omega] at k1 k4
    simp only [VR] at h ⊢
    obtain ⟨h0, y, hy, _, h⟩ := h
    rw [k1] at hy
    cases hy
    refine ⟨h0, _, k3, by cases o <;> simp [O.setv, O.ver], fun cs e => ?_⟩
    cases o with
    | arr v' k' mu' l' => simp [O.setv] at e
    | vec v' cs => simp [O.setv] at e
    | mp v' cs => simp [O.setv] at e
    | box v' cs' =>
      simp only [O.ver] at k2
      subst k2
      rw [k4]
      exact h cs' rfl
  | .ag l, u, hr, h => by
    simp only [V.ren, VR] at h ⊢
    obtain ⟨vs, e, h1, h2⟩ := h
    exact ⟨vs, e, rens_ok hS hold hnew l vs (by simpa only [V.wfR] using hr) h1, h2⟩
  | .tu l, u, hr, h => by
    simp only [V.ren, VR] at h ⊢
    obtain ⟨vs, e, h1⟩ := h
    exact ⟨vs, e, rens_ok hS hold hnew l vs (by simpa only [V.wfR] using hr) h1⟩
  | .un, u, hr, h => by simp [V.wfR] at hr
  | .z0, u, hr, h => by simp [V.wfR] at hr
  | .ub, u, hr, h => by simp [V.wfR] at hr
  | .ep _ _ _ _, u, hr, h => by simp [V.wfR] at hr
  | .fp _ _, u, hr, h => by simp [V.wfR] at hr
  | .cl _ _, u, hr, h => by simp [V.wfR] at hr
  | .vg _ _, u, hr, h => by simp [V.wfR] at hr
  | .vp _ _ _, u, hr, h => by simp [V.wfR] at hr
  | .ot _ _ _, u, hr, h => by simp [V.wfR] at hr
  | .mh _ _, u, hr, h => by simp [V.wfR] at hr
theorem rens_ok (hS : ∀ k, S' k → S2 k) (hold : ∀ i, inU bx i = true → i < 1000000 → m2 i = os i ∧ hd2 i = hd' i) (hnew : ∀ j, j < n → ∃ o, os (1000000 + j) = some o ∧ o.ver = 0 ∧ m2 (b + j) = some (o.setv (nv m (b + j))) ∧ hd2 (b + j) = hd' (1000000 + j)) : ∀ (r : List V) (us : List Value), V.wfRs bx n r = true → VRs os hd' w' S' r us → VRs m2 hd2 w' S2 (V.rens b m r) us
  | [], us, _, h => by simp only [V.rens, VRs] at h ⊢; exact h
  | x :: l, us, hr, h => by
    simp only [V.wfRs, Bool.and_eq_true] at hr
    simp only [V.rens, VRs] at h ⊢
    obtain ⟨u, r, e, h1, h2⟩ := h
    exact ⟨u, r, e, ren_ok hS hold hnew x u hr.1 h1, rens_ok hS hold hnew l r hr.2 h2⟩
end
end
end Go.Proofs.YthbhkkdaaipngaaGreatDoor.Sim
