/- A call as a step of a walk: of no program. Conditions: none. -/
import Derived.Test.YthbhkkdaaipngaaGreatDoorMSimL
section
namespace Go.Proofs.YthbhkkdaaipngaaGreatDoor.Sim
open Go Go.RowKit Go.Deep
set_option linter.unusedVariables false

abbrev M0 : M := fun _ => none
/-- New objects, by their names. -/
def fresh (as : List O) : U := as.zipIdx.map fun p => (1000000 + p.2, p.1)
/-- The package's variables that are read are there. -/
def Gk (w : World) (X : Nat → Prop) : Prop := ∀ g, GL.contains g = true → g < w.heap.size ∧ ¬ X g ∧ w.cell? ⟨g, 0, none⟩ = some GLV
/-- WHAT A CALL DOES: values xs, with the variables bx that pointers lead to, come to r, these variables to bx', and the objects as are new. -/
def Does (P : Program) (f : FuncId) (xs : List V) (bx : U) (r : V) (bx' : U) (as : List O) : Prop :=
  ∀ (w : World) (hd : H) (S X : Nat → Prop) (us : List Value), Gk w X → Mem (ups M0 bx) hd w S X w.heap.size → VRs (ups M0 bx) hd w S xs us →
    Calls P f us.toArray w fun e w' => ∃ u hd' S', e = .returned u ∧ Fr w w' X ∧ Mem (ups M0 (bx' ++ fresh as)) hd' w' S' X w.heap.size ∧ VR (ups M0 (bx' ++ fresh as)) hd' w' S' r u ∧ (∀ b, S' b → S b ∨ w.heap.size ≤ b ∨ X b) ∧ Le (ups M0 bx) hd (ups M0 (bx' ++ fresh as)) hd'

/-- Is it the name of an object of these? -/
def inU : U → Nat → Bool
  | [], _ => false
  | (j, _) :: r, i => if j = i then true else inU r i
theorem inU_mem {i : Nat} : ∀ {us : U}, inU us i = true → ∃ o, (i, o) ∈ us
  | [], h => by cases h
  | (j, o) :: r, h => by
    simp only [inU] at h
    split at h
    · rename_i e; subst e; exact ⟨o, by simp⟩
    · obtain ⟨o', h'⟩ := inU_mem h; exact ⟨o', by simp [h']⟩
theorem mem_inU {i : Nat} {o : O} : ∀ {us : U}, (i, o) ∈ us → inU us i = true
  | [], h => by cases h
  | (j, o') :: r, h => by
    simp only [inU]
    split
    · rfl
    · rename_i e
      rcases List.mem_cons.1 h with h | h
      · cases h; exact absurd rfl e
      · exact mem_inU h
/-- What is not lent. -/
def lentOut (bx : U) : List V → List V
  | [] => []
  | .og i v :: l => if inU bx i = true then lentOut bx l else .og i v :: lentOut bx l
  | x :: l => x :: lentOut bx l
theorem lentOut_og {bx : U} {i v : Nat} : ∀ {l : List V}, .og i v ∈ lentOut bx l ↔ .og i v ∈ l ∧ inU bx i = false
  | [] => by simp [lentOut]
  | x :: l => by
    have ih := lentOut_og (bx := bx) (i := i) (v := v) (l := l)
    cases x with
    | og j u =>
      simp only [lentOut]
      split
      · rename_i hj
        rw [ih, List.mem_cons]
        constructor
        · rintro ⟨h1, h2⟩; exact ⟨.inr h1, h2⟩
        · rintro ⟨h1 | h1, h2⟩
          · cases h1; rw [hj] at h2; cases h2
          · exact ⟨h1, h2⟩
      · rename_i hj
        rw [List.mem_cons, List.mem_cons, ih]
        constructor
        · rintro (h1 | h1)
          · cases h1; exact ⟨.inl rfl, by simpa using hj⟩
          · exact ⟨.inr h1.1, h1.2⟩
        · rintro ⟨h1 | h1, h2⟩
          · exact .inl h1
          · exact .inr ⟨h1, h2⟩
    | _ => simp only [lentOut, List.mem_cons, ih, reduceCtorEq, false_or]
/-- Data that leads nowhere but to data. -/
def closed : V → Bool
  | .d _ => true
  | .nl _ => true
  | _ => false
/-- As what a value is handed on. -/
inductive Arg (m : M) (bx : U) : V → V → Prop
  | un : Arg m bx .un .un
  | ot (i v e k : Nat) (l : List (List D)) (h : m i = some (.arr v k true l)) (h2 : (i, O.arr v k true l) ∈ bx) : Arg m bx (.ot i v e) (.ot i v e)
  | d (x : D) : Arg m bx (.d x) (.d x)
  | nl (k k' : Nat) : Arg m bx (.nl k) (.nl k')
  | nd (k k' : Nat) : Arg m bx (.nl k) (.d (.sl k' []))
  | og (i v k : Nat) (mu : Bool) (l : List (List D)) (h : m i = some (.arr v k mu l)) (hn : inU bx i = false) : Arg m bx (.og i v) (.d (.sl k l))
  | ogl (i v k : Nat) (l : List (List D)) (h : m i = some (.arr v k true l)) (h2 : (i, O.arr v k true l) ∈ bx) : Arg m bx (.og i v) (.og i v)
  | bp (i v o : Nat) (cs : List V) (h : m i = some (.box v cs)) (h2 : (i, O.box v cs) ∈ bx) : Arg m bx (.bp i v o) (.bp i v o)
  | agn : Arg m bx (.ag []) (.ag [])
  | agc {x y : V} {l l' : List V} (h : Arg m bx x y) (h2 : Arg m bx (.ag l) (.ag l')) : Arg m bx (.ag (x :: l)) (.ag (y :: l'))
  | cln (f : FuncId) : Arg m bx (.cl f []) (.cl f [])
  | clc {f : FuncId} {x y : V} {l l' : List V} (h : Arg m bx x y) (h2 : Arg m bx (.cl f l) (.cl f l')) : Arg m bx (.cl f (x :: l)) (.cl f (y :: l'))
inductive Args (m : M) (bx : U) : List V → List V → Prop
  | nil : Args m bx [] []
  | cons {x y : V} {l l' : List V} (h : Arg m bx x y) (h2 : Args m bx l l') : Args m bx (x :: l) (y :: l')
mutual
/-- The cells of values, closures' too. -/
def V.flat : V → List V
  | .ag l => V.flats l
  | .cl _ l => V.flats l
  | .tu l => V.flats l
  | x => [x]
def V.flats : List V → List V
  | [] => []
  | x :: l => V.flat x ++ V.flats l
end
mutual
/-- The result of a call, in the caller's names. -/
def V.ren (b : Nat) (m : M) : V → V
  | .og i v => if i < 1000000 then .og i v else .og (b + (i - 1000000)) (nv m (b + (i - 1000000)))
  | .bp i v o => if i < 1000000 then .bp i v o else .bp (b + (i - 1000000)) (nv m (b + (i - 1000000))) o
  | .ag l => .ag (V.rens b m l)
  | .tu l => .tu (V.rens b m l)
  | x => x
def V.rens (b : Nat) (m : M) : List V → List V
  | [] => []
  | x :: l => V.ren b m x :: V.rens b m l
end
mutual
/-- Of the form of results. -/
def V.wfR (us : U) (n : Nat) : V → Bool
  | .d _ => true
  | .nl _ => true
  | .og i v => if i < 1000000 then inU us i else decide (i < 1000000 + n) && v == 0
  | .bp i v o => if i < 1000000 then inU us i else decide (i < 1000000 + n) && v == 0
  | .ag l => V.wfRs us n l
  | .tu l => V.wfRs us n l
  | _ => false
def V.wfRs (us : U) (n : Nat) : List V → Bool
  | [] => true
  | x :: l => V.wfR us n x && V.wfRs us n l
end
def O.setv (v : Nat) : O → O
  | .box _ cs => .box v cs
  | .arr _ k mu l => .arr v k mu l
  | .vec _ cs => .vec v cs
  | .mp _ ks => .mp v ks
def O.wf : O → Bool
  | .box v cs => v == 0 && cs.all closed
  | .arr v _ mu _ => v == 0 && mu
  | _ => false
def O.wfB : O → Bool
  | .box _ cs => cs.all closed
  | .arr _ _ _ _ => true
  | _ => false
/-- New objects in the caller's names. -/
def freshIn (b : Nat) (m : M) (as : List O) : U := as.zipIdx.map fun p => (b + p.2, p.1.setv (nv m (b + p.2)))

section
variable {m m' : M} {us : U}
theorem ups_not {i : Nat} : ∀ {us : U} {m : M}, (∀ x ∈ us, x.1 ≠ i) → ups m us i = m i
  | [], m, _ => rfl
  | (j, o) :: us, m, h => by
    rw [ups, ups_not (fun x hx => h x (by simp [hx])), up_ne]
    exact fun e => h (j, o) (by simp) e.symm
theorem ups_mem {i : Nat} {o : O} : ∀ {us : U} {m : M}, (us.map (·.1)).Nodup → (i, o) ∈ us → ups m us i = some o
  | [], m, _, h => by cases h
  | (j, o') :: us, m, hn, h => by
    simp only [List.map_cons, List.nodup_cons] at hn
    rw [ups]
    rcases List.mem_cons.1 h with h | h
    · cases h
      rw [ups_not, up_same]
      intro x hx e
      exact hn.1 (List.mem_map.2 ⟨x, hx, e⟩)
    · exact ups_mem hn.2 h
theorem ups_or (i : Nat) : ∀ (us : U) (m : M), (ups m us i = m i ∧ ∀ x ∈ us, x.1 ≠ i) ∨ ∃ o, (i, o) ∈ us ∧ ups m us i = some o
  | [], m => .inl ⟨rfl, by simp⟩
  | (j, o) :: us, m => by
    rw [ups]
    rcases ups_or i us (up m j (some o)) with ⟨h1, h2⟩ | ⟨o', h1, h2⟩
    · by_cases e : i = j
      · subst e
        exact .inr ⟨o, by simp, by rw [h1, up_same]⟩
      · refine .inl ⟨by rw [h1, up_ne _ _ e], fun x hx => ?_⟩
        rcases List.mem_cons.1 hx with rfl | hx
        · exact fun h => e h.symm
        · exact h2 x hx
    · exact .inr ⟨o', by simp [h1], h2⟩
theorem mem_fresh {as : List O} {i : Nat} {o : O} (h : (i, o) ∈ fresh as) : ∃ j, i = 1000000 + j ∧ as[j]? = some o := by
  unfold fresh at h
  obtain ⟨⟨o', j⟩, h1, h2⟩ := List.mem_map.1 h
  cases h2
  exact ⟨j, rfl, by simpa using List.mk_mem_zipIdx_iff_getElem?.1 h1⟩
theorem fresh_mem {as : List O} {j : Nat} {o : O} (h : as[j]? = some o) : (1000000 + j, o) ∈ fresh as := List.mem_map.2 ⟨(o, j), List.mk_mem_zipIdx_iff_getElem?.2 (by simpa using h), rfl⟩
theorem mem_freshIn {as : List O} {b i : Nat} {o : O} (h : (i, o) ∈ freshIn b m as) : ∃ j o', i = b + j ∧ as[j]? = some o' ∧ o = o'.setv (nv m i) := by
  unfold freshIn at h
  obtain ⟨⟨o', j⟩, h1, h2⟩ := List.mem_map.1 h
  cases h2
  exact ⟨j, o', rfl, by simpa using List.mk_mem_zipIdx_iff_getElem?.1 h1, rfl⟩
theorem freshIn_mem {as : List O} {b j : Nat} {o : O} (h : as[j]? = some o) : (b + j, o.setv (nv m (b + j))) ∈ freshIn b m as := List.mem_map.2 ⟨(o, j), List.mk_mem_zipIdx_iff_getElem?.2 (by simpa using h), rfl⟩
theorem nodup_freshIn {as : List O} {b : Nat} : ((freshIn b m as).map (·.1)).Nodup := by
  unfold freshIn
  rw [List.map_map]
  have : ((fun x : Nat × O => x.1) ∘ fun p : O × Nat => (b + p.2, p.1.setv (nv m (b + p.2)))) = (fun p : O × Nat => b + p.2) := rfl
  rw [this, show (fun p : O × Nat => b + p.2) = (fun j => b + j) ∘ Prod.snd from rfl, ← List.map_map, List.zipIdx_map_snd]
  exact List.pairwise_map.2 ((List.nodup_range' (s := 0) (n := as.length)).imp fun h e => h (by omega))
theorem nodup_fresh {as : List O} : ((fresh as).map (·.1)).Nodup := by
  unfold fresh
  rw [List.map_map]
  have : ((fun x : Nat × O => x.1) ∘ fun p : O × Nat => (1000000 + p.2, p.1)) = (fun j => 1000000 + j) ∘ Prod.snd := rfl
  rw [this, ← List.map_map, List.zipIdx_map_snd]
  exact List.pairwise_map.2 ((List.nodup_range' (s := 0) (n := as.length)).imp fun h e => h (by omega))
end

section
variable {m m1 : M} {hd : H} {w : World} {S S1 X : Nat → Prop} {B : Nat} {bx : U}
theorem closed_ok {m2 : M} {hd2 : H} {w2 : World} {S2 : Nat → Prop} (hk : ∀ b, S b → b < w.heap.size → S2 b ∧ w2.heap[b]? = w.heap[b]?) : ∀ {cs : List V} {vs : List Value}, cs.all closed = true → VRs m hd w S cs vs → VRs m2 hd2 w2 S2 cs vs
  | [], vs, _, h => by simp only [VRs] at h ⊢; exact h
  | x :: cs, vs, hc, h => by
    simp only [List.all_cons, Bool.and_eq_true] at hc
    simp only [VRs] at h ⊢
    obtain ⟨u, r, e, h1, h2⟩ := h
    refine ⟨u, r, e, ?_, closed_ok hk hc.2 h2⟩
    cases x with
    | d y => simp only [VR] at h1 ⊢; exact D.keep hk _ _ h1
    | nl k => simp only [VR] at h1 ⊢; exact h1
    | _ => exact absurd hc.1 (by simp [closed])
/-- A value as it is handed on. -/
theorem arg_ok (hm1 : Mem m1 hd w S1 X B) {x y : V} (h : Arg m bx x y) : ∀ {u : Value}, VR m1 hd w S1 x u → (∀ i v k mu l, .og i v ∈ x.flat → inU bx i = false → m i = some (.arr v k mu l) → m1 i = some (.arr v k false l)) → (∀ x ∈ bx, m1 x.1 = some x.2) → (bx.map (·.1)).Nodup → VR (ups M0 bx) hd w S1 y u := by
  induction h with
  | d x => intro u h _ _ _; simp only [VR] at h ⊢; exact h
  | nl k k' => intro u h _ _ _; simp only [VR] at h ⊢; exact h
  | nd k k' =>
    intro u h _ _ _
    simp only [VR] at h ⊢
    subst h
    simp only [D.is]
    exact ⟨none, 0, [], rfl, Nat.le_refl _, Nat.zero_le _, by simp [Rows], fun h => absurd h (by simp)⟩
  | un => intro u h _ _ _; simp only [VR]
  | ot i v e k l hi hbx =>
    intro u h _ hb hn
    have h1 := hb _ hbx
    simp only [VR] at h ⊢
    obtain ⟨h0, y, hy, hv, h⟩ := h
    simp only at h1
    rw [h1] at hy
    cases hy
    exact ⟨h0, _, ups_mem hn hbx, hv, h⟩
  | ogl i v k l hi hbx =>
    intro u h _ hb hn
    have h1 := hb _ hbx
    simp only [VR] at h ⊢
    obtain ⟨h0, y, hy, hv, h⟩ := h
    simp only at h1
    rw [h1] at hy
    cases hy
    exact ⟨h0, _, ups_mem hn hbx, hv, h⟩
  | og i v k mu l hi hno =>
    intro u h hf _ _
    have h1 := hf i v k mu l (by simp [V.flat]) hno hi
    have h2 := hm1.obj i _ h1
    simp only [O.is, Bool.false_eq_true, if_false] at h2
    simp only [VR] at h ⊢
    obtain ⟨_, y, hy, _, h⟩ := h
    rw [h1] at hy
    cases hy
    rw [h _ _ _ rfl]
    exact h2
  | bp i v o cs hi hbx =>
    intro u h _ hb hn
    have h1 := hb _ hbx
    simp only [VR] at h ⊢
    obtain ⟨h0, y, hy, hv, h⟩ := h
    simp only at h1
    rw [h1] at hy
    cases hy
    exact ⟨h0, _, ups_mem hn hbx, hv, h⟩
  | agn => intro u h _ _ _; simp only [VR] at h ⊢; obtain ⟨vs, e, h1, h2⟩ := h; simp only [VRs] at h1; subst h1; exact ⟨[], e, by simp [VRs], h2⟩
  | agc h1 h2 ih1 ih2 =>
    intro u h hf hb hn
    simp only [VR, VRs] at h
    obtain ⟨vs, e, ⟨v0, r, rfl, g1, g2⟩, g3⟩ := h
    have k1 := ih1 g1 (fun i v k mu l hm hn' hi => hf i v k mu l (by simp only [V.flat, V.flats, List.mem_append]; exact .inl hm) hn' hi) hb hn
    have k2 := ih2 (u := .agg r.toArray) (by simp only [VR]; exact ⟨r, rfl, g2, fun y hy => g3 y (by simp [hy])⟩) (fun i v k mu l hm hn' hi => hf i v k mu l (by simp only [V.flat, V.flats, List.mem_append] at hm ⊢; exact .inr hm) hn' hi) hb hn
    simp only [VR] at k2
    obtain ⟨r', e', k3, _⟩ := k2
    have er : r' = r := by injection e' with e'; exact (List.toArray_inj e').symm
    subst er
    simp only [VR, VRs]
    exact ⟨_, e, ⟨v0, _, rfl, k1, k3⟩, g3⟩
  | cln f => intro u h _ _ _; simp only [VR] at h ⊢; obtain ⟨vs, e, h1⟩ := h; simp only [VRs] at h1; subst h1; exact ⟨[], e, by simp [VRs]⟩
  | clc h1 h2 ih1 ih2 =>
    rename_i f x y l l'
    intro u h hf hb hn
    simp only [VR, VRs] at h
    obtain ⟨vs, e, ⟨v0, r, rfl, g1, g2⟩⟩ := h
    have k1 := ih1 g1 (fun i v k mu l hm hn' hi => hf i v k mu l (by simp only [V.flat, V.flats, List.mem_append]; exact .inl hm) hn' hi) hb hn
    have k2 := ih2 (u := .func (.func f) #[] r.toArray) (by simp only [VR]; exact ⟨r, rfl, g2⟩) (fun i v k mu l hm hn' hi => hf i v k mu l (by simp only [V.flat, V.flats, List.mem_append] at hm ⊢; exact .inr hm) hn' hi) hb hn
    simp only [VR] at k2
    obtain ⟨r', e', k3⟩ := k2
    have er : r' = r := by injection e' with _ _ e'; exact (List.toArray_inj e').symm
    subst er
    simp only [VR, VRs]
    exact ⟨_, e, ⟨v0, _, rfl, k1, k3⟩⟩
theorem args_ok (hm1 : Mem m1 hd w S1 X B) {xs ys : List V} (h : Args m bx xs ys) : ∀ {us : List Value}, VRs m1 hd w S1 xs us → (∀ i v k mu l, .og i v ∈ V.flats xs → inU bx i = false → m i = some (.arr v k mu l) → m1 i = some (.arr v k false l)) → (∀ x ∈ bx, m1 x.1 = some x.2) → (bx.map (·.1)).Nodup → VRs (ups M0 bx) hd w S1 ys us := by
  induction h with
  | nil => intro us h _ _ _; simp only [VRs] at h ⊢; exact h
  | cons h1 h2 ih =>
    intro us h hf hb hn
    simp only [VRs] at h ⊢
    obtain ⟨u, r, e, g1, g2⟩ := h
    exact ⟨u, r, e, arg_ok hm1 h1 g1 (fun i v k mu l hm hn' hi => hf i v k mu l (by simp only [V.flats, List.mem_append]; exact .inl hm) hn' hi) hb hn, ih g2 (fun i v k mu l hm hn' hi => hf i v k mu l (by simp only [V.flats, List.mem_append]; exact .inr hm) hn' hi) hb hn⟩
end
section
variable {os m2 : M} {hd' hd2 : H} {w' : World} {S' S2 : Nat → Prop} {b n : Nat} {m : M} {bx : U}
mutual
theorem ren_ok (hS : ∀ k, S' k → S2 k) (hold : ∀ i, inU bx i = true → i < 1000000 → m2 i = os i ∧ hd2 i = hd' i) (hnew : ∀ j, j < n → ∃ o, os (1000000 + j) = some o ∧ o.ver = 0 ∧ m2 (b + j) = some (o.setv (nv m (b + j))) ∧ hd2 (b + j) = hd' (1000000 + j)) : ∀ (r : V) (u : Value), r.wfR bx n = true → VR os hd' w' S' r u → VR m2 hd2 w' S2 (r.ren b m) u
  | .d x, u, _, h => by simp only [V.ren, VR] at h ⊢; exact D.keep (fun b hb _ => ⟨hS b hb, rfl⟩) _ _ h
  | .nl k, u, _, h => by simp only [V.ren, VR] at h ⊢; exact h
  | .og i v, u, hr, h => by
    simp only [V.wfR] at hr
    by_cases hi : i < 1000000
    · rw [if_pos hi] at hr
      obtain ⟨e1, e2⟩ := hold i hr hi
      simp only [V.ren, if_pos hi]
      simp only [VR] at h ⊢
      rw [e1, e2]
      exact h
    rw [if_neg hi] at hr
    simp only [V.ren, if_neg hi]
    simp only [Bool.and_eq_true, decide_eq_true_eq, beq_iff_eq] at hr
    obtain ⟨h2, rfl⟩ := hr
    have h1 : 1000000 ≤ i := by omega
    obtain ⟨o, k1, k2, k3, k4⟩ := hnew (i - 1000000) (by omega)
    rw [show 1000000 + (i - 1000000) = i by omega] at k1 k4
    simp only [VR] at h ⊢
    obtain ⟨h0, y, hy, _, h⟩ := h
    rw [k1] at hy
    cases hy
    refine ⟨h0, _, k3, by cases o <;> simp [O.setv, O.ver], fun k mu l e => ?_⟩
    cases o with
    | box v' cs => simp [O.setv] at e
    | vec v' cs => simp [O.setv] at e
    | mp v' cs => simp [O.setv] at e
    | arr v' k' mu' l' =>
      simp only [O.ver] at k2
      subst k2
      rw [k4]
      exact h k' mu' l' rfl
  | .bp i v q, u, hr, h => by
    simp only [V.wfR] at hr
    by_cases hi : i < 1000000
    · rw [if_pos hi] at hr
      obtain ⟨e1, e2⟩ := hold i hr hi
      simp only [V.ren, if_pos hi]
      simp only [VR] at h ⊢
      rw [e1, e2]
      exact h
    rw [if_neg hi] at hr
    simp only [V.ren, if_neg hi]
    simp only [Bool.and_eq_true, decide_eq_true_eq, beq_iff_eq] at hr
    obtain ⟨h2, rfl⟩ := hr
    have h1 : 1000000 ≤ i := by omega
    obtain ⟨o, k1, k2, k3, k4⟩ := hnew (i - 1000000) (by omega)
    rw [show 1000000 + (i - 1000000) = i by omega] at k1 k4
    simp only [VR] at h ⊢
    obtain ⟨h0, y, hy, _, h⟩ := h
    rw [k1] at hy
    cases hy
    refine ⟨h0, _, k3, by cases o <;> simp [O.setv, O.ver], fun cs e => ?_⟩
    cases o with
    | arr v' k' mu' l' => simp [O.setv] at e
    | vec v' cs => simp [O.setv] at e
    | mp v' cs => simp [O.setv] at e
    | box v' cs' =>
      simp only [O.ver] at k2
      subst k2
      rw [k4]
      exact h cs' rfl
  | .ag l, u, hr, h => by
    simp only [V.ren, VR] at h ⊢
    obtain ⟨vs, e, h1, h2⟩ := h
    exact ⟨vs, e, rens_ok hS hold hnew l vs (by simpa only [V.wfR] using hr) h1, h2⟩
  | .tu l, u, hr, h => by
    simp only [V.ren, VR] at h ⊢
    obtain ⟨vs, e, h1⟩ := h
    exact ⟨vs, e, rens_ok hS hold hnew l vs (by simpa only [V.wfR] using hr) h1⟩
  | .un, u, hr, h => by simp [V.wfR] at hr
  | .z0, u, hr, h => by simp [V.wfR] at hr
  | .ub, u, hr, h => by simp [V.wfR] at hr
  | .ep _ _ _ _, u, hr, h => by simp [V.wfR] at hr
  | .fp _ _, u, hr, h => by simp [V.wfR] at hr
  | .cl _ _, u, hr, h => by simp [V.wfR] at hr
  | .vg _ _, u, hr, h => by simp [V.wfR] at hr
  | .vp _ _ _, u, hr, h => by simp [V.wfR] at hr
  | .ot _ _ _, u, hr, h => by simp [V.wfR] at hr
  | .mh _ _, u, hr, h => by simp [V.wfR] at hr
  | .fx _ _, u, hr, h => by simp [V.wfR] at hr
theorem rens_ok (hS : ∀ k, S' k → S2 k) (hold : ∀ i, inU bx i = true → i < 1000000 → m2 i = os i ∧ hd2 i = hd' i) (hnew : ∀ j, j < n → ∃ o, os (1000000 + j) = some o ∧ o.ver = 0 ∧ m2 (b + j) = some (o.setv (nv m (b + j))) ∧ hd2 (b + j) = hd' (1000000 + j)) : ∀ (r : List V) (us : List Value), V.wfRs bx n r = true → VRs os hd' w' S' r us → VRs m2 hd2 w' S2 (V.rens b m r) us
  | [], us, _, h => by simp only [V.rens, VRs] at h ⊢; exact h
  | x :: l, us, hr, h => by
    simp only [V.wfRs, Bool.and_eq_true] at hr
    simp only [V.rens, VRs] at h ⊢
    obtain ⟨u, r, e, h1, h2⟩ := h
    exact ⟨u, r, e, ren_ok hS hold hnew x u hr.1 h1, rens_ok hS hold hnew l r hr.2 h2⟩
end
end
end Go.Proofs.YthbhkkdaaipngaaGreatDoor.Sim
end
section
namespace Go.Proofs.YthbhkkdaaipngaaGreatDoor.Sim
open Go Go.RowKit Go.Deep
set_option linter.unusedVariables false

/-- What is owed at a call, of names and forms. -/
structure CallForm (m : M) (b : Nat) (bx : U) (r : V) (bx' : U) (as : List O) : Prop where
  names : bx'.map (·.1) = bx.map (·.1)
  kinds : bx'.map (·.2.kind) = bx.map (·.2.kind)
  nd : (bx.map (·.1)).Nodup
  low : ∀ x ∈ bx, x.1 < 1000000 ∧ (x.1 < b ∨ b + as.length ≤ x.1)
  box : ∀ x ∈ bx, (x.2.wfB = true ∧ x.2.live = true) ∧ m x.1 = some x.2
  box' : ∀ x ∈ bx', x.2.wfB = true
  wf : as.all O.wf = true
  res : r.wfR bx' as.length = true

section
variable {m mb : M} {hd hd' : H} {w w' : World} {S Sb S' S2 X Xc : Nat → Prop} {B b : Nat} {bx bx' : U} {r : V} {as : List O}
/-- The heads behind a call. -/
def hdC (bx : U) (b n : Nat) (hd hd' : H) : H := fun i => if b ≤ i ∧ i < b + n then hd' (1000000 + (i - b)) else if inU bx i = true then hd' i else hd i
theorem hdC_new {n j : Nat} (h : j < n) : hdC bx b n hd hd' (b + j) = hd' (1000000 + j) := by
  unfold hdC
  rw [if_pos (by omega), Nat.add_sub_cancel_left]
theorem hdC_bx {n i : Nat} (h : i < b ∨ b + n ≤ i) (hi : inU bx i = true) : hdC bx b n hd hd' i = hd' i := by
  unfold hdC
  rw [if_neg (by omega), if_pos hi]
theorem hdC_old {n i : Nat} (h : i < b ∨ b + n ≤ i) (hi : inU bx i = false) : hdC bx b n hd hd' i = hd i := by
  unfold hdC
  rw [if_neg (by omega), if_neg (by simp [hi])]
theorem setv_live (o : O) (v : Nat) : (o.setv v).live = o.live := by cases o <;> rfl
theorem setv_ver (o : O) (v : Nat) : (o.setv v).ver = v := by cases o <;> rfl

theorem CallForm.find {m : M} (hF : CallForm m b bx r bx' as) {i : Nat} {o : O} (h : (i, o) ∈ bx') : ∃ o0, (i, o0) ∈ bx ∧ o.kind = o0.kind := by
  have h1 := hF.names
  have h2 := hF.kinds
  obtain ⟨j, hj, e⟩ := List.getElem_of_mem h
  have hl : bx'.length = bx.length := by have := congrArg List.length h1; simpa using this
  have e1 : (bx'.map (·.1))[j]'(by simpa using hj) = (bx.map (·.1))[j]'(by simp; omega) := by simp only [h1]
  have e2 : (bx'.map (·.2.kind))[j]'(by simpa using hj) = (bx.map (·.2.kind))[j]'(by simp; omega) := by simp only [h2]
  simp only [List.getElem_map, e] at e1 e2
  exact ⟨(bx[j]'(by omega)).2, by rw [e1]; exact List.getElem_mem _, e2⟩
theorem CallForm.find' {m : M} (hF : CallForm m b bx r bx' as) {i : Nat} {o0 : O} (h : (i, o0) ∈ bx) : ∃ o, (i, o) ∈ bx' := by
  have h1 := hF.names
  have : i ∈ bx'.map (·.1) := by rw [h1]; exact List.mem_map.2 ⟨_, h, rfl⟩
  obtain ⟨x, hx, rfl⟩ := List.mem_map.1 this
  exact ⟨x.2, hx⟩
theorem CallForm.nd' {m : M} (hF : CallForm m b bx r bx' as) : (bx'.map (·.1)).Nodup := by rw [hF.names]; exact hF.nd
theorem inU_not {i : Nat} {us : U} (h : ∀ x ∈ us, x.1 ≠ i) : inU us i = false := by
  cases e : inU us i with
  | false => rfl
  | true => obtain ⟨o, ho⟩ := inU_mem e; exact absurd rfl (h _ ho)

/-- The memory behind a call, object by object. -/
theorem call_cases {m : M} (hF : CallForm m b bx r bx' as) (mb : M) (i : Nat) :
    (∃ j o, i = b + j ∧ as[j]? = some o ∧ ups mb (bx' ++ freshIn b m as) i = some (o.setv (nv m i)) ∧ ups M0 (bx' ++ fresh as) (1000000 + j) = some o) ∨
    (∃ o o0, (i, o) ∈ bx' ∧ (i, o0) ∈ bx ∧ o.kind = o0.kind ∧ (i < b ∨ b + as.length ≤ i) ∧ ups mb (bx' ++ freshIn b m as) i = some o ∧ ups M0 (bx' ++ fresh as) i = some o) ∨
    ((i < b ∨ b + as.length ≤ i) ∧ (∀ x ∈ bx, x.1 ≠ i) ∧ ups mb (bx' ++ freshIn b m as) i = mb i) := by
  have hfr : ∀ j o, as[j]? = some o → ups M0 (bx' ++ fresh as) (1000000 + j) = some o := fun j o h => by
    rw [ups_append]; exact ups_mem nodup_fresh (fresh_mem h)
  have hjl : ∀ {j : Nat} {o : O}, as[j]? = some o → j < as.length := fun h => (List.getElem?_eq_some_iff.1 h).1
  by_cases hi : b ≤ i ∧ i < b + as.length
  · left
    have hj : i - b < as.length := by omega
    refine ⟨i - b, as[i - b], by omega, List.getElem?_eq_getElem hj, ?_, hfr _ _ (List.getElem?_eq_getElem hj)⟩
    have := freshIn_mem (m := m) (b := b) (List.getElem?_eq_getElem hj)
    rw [show b + (i - b) = i by omega] at this
    rw [ups_append]
    exact ups_mem nodup_freshIn this
  · right
    have hno : ∀ x ∈ freshIn b m as, x.1 ≠ i := by
      rintro ⟨i', o⟩ hx e
      obtain ⟨j, o', h1, h2, _⟩ := mem_freshIn hx
      have := hjl h2
      simp only at e
      omega
    rcases ups_or i bx' mb with ⟨h1, h2⟩ | ⟨o, h1, h2⟩
    · right
      refine ⟨by omega, fun x hx e => ?_, by rw [ups_append, ups_not hno, h1]⟩
      subst e
      obtain ⟨o, ho⟩ := hF.find' (i := x.1) (o0 := x.2) hx
      exact h2 _ ho rfl
    · left
      obtain ⟨o0, h3, h4⟩ := hF.find h1
      refine ⟨o, o0, h1, h3, h4, by omega, by rw [ups_append, ups_not hno, h2], ?_⟩
      rw [ups_append, ups_not]
      · exact ups_mem hF.nd' h1
      · rintro ⟨i', o'⟩ hx e
        obtain ⟨j, e', _⟩ := mem_fresh hx
        have := (hF.low _ h3).1
        simp only at e this
        omega

theorem call_out {m : M} (hF : CallForm m b bx r bx' as) (hmb : Mem mb hd w Sb X B) (hbox : ∀ x ∈ bx, mb x.1 = some x.2) (hver : ∀ i, b ≤ i → i < b + as.length → (mb i).map O.ver = (m i).map O.ver) (hfr : Fr w w' (fun k => ∃ x ∈ bx, blk (hd x.1) = some k)) (hmem : Mem (ups M0 (bx' ++ fresh as)) hd' w' S' (fun k => ∃ x ∈ bx, blk (hd x.1) = some k) w.heap.size) (hle0 : Le (ups M0 bx) hd (ups M0 (bx' ++ fresh as)) hd')
    (hS : ∀ k, Sb k → S2 k) (hS2 : ∀ k, S2 k → k < w'.heap.size) (hS3 : ∀ k, S2 k → Sb k ∨ w.heap.size ≤ k ∨ ∃ x ∈ bx, blk (hd x.1) = some k)
    (hnew : ∀ (j : Nat) (o : O), as[j]? = some o → (o.setv (nv m (b + j))).is (ups mb (bx' ++ freshIn b m as)) (hdC bx b as.length hd hd') w' S2 X B (hd' (1000000 + j)))
    (hold : ∀ i o, (i, o) ∈ bx' → o.is (ups mb (bx' ++ freshIn b m as)) (hdC bx b as.length hd hd') w' S2 X B (hd' i)) :
    Out X B mb hd w Sb (ups mb (bx' ++ freshIn b m as)) (hdC bx b as.length hd hd') w' S2 := by
  have hjl : ∀ {j : Nat} {o : O}, as[j]? = some o → j < as.length := fun h => (List.getElem?_eq_some_iff.1 h).1
  have hXblk : ∀ k, (∃ x ∈ bx, blk (hd x.1) = some k) → k < w.heap.size ∧ ¬ Sb k ∧ (X k ∨ B ≤ k) := by
    rintro k ⟨x, hx, e⟩
    exact hmb.blk (hbox x hx) (hF.box x hx).1.2 e
  have hle : Le mb hd (ups mb (bx' ++ freshIn b m as)) (hdC bx b as.length hd hd') := ⟨fun i o ho => by
    rcases call_cases hF mb i with ⟨j, o', e, h1, h2, h3⟩ | ⟨o', o0, h1, h2, h3, h4, h5, h6⟩ | ⟨h1, h2, h3⟩
    · have := hver i (by omega) (by have := hjl h1; omega)
      have hnv : nv m i = o.ver + 1 := by
        rw [← nv_congr this]
        simp [nv, ho]
      exact ⟨_, h2, by rw [setv_ver]; omega, fun e => by rw [setv_ver] at e; omega⟩
    · have := hbox _ h2
      simp only at this
      rw [this] at ho
      cases ho
      obtain ⟨o2, g1, g2, g3⟩ := hle0.le i _ (ups_mem hF.nd h2)
      rw [h6] at g1
      cases g1
      rw [hdC_bx h4 (mem_inU h2)]
      exact ⟨o', h5, g2, g3⟩
    · exact ⟨o, by rw [h3]; exact ho, Nat.le_refl _, fun _ => ⟨hdC_old h1 (inU_not h2), rfl⟩⟩⟩
  -- an object is the call's or it is as it was
  have side : ∀ i oi, ups mb (bx' ++ freshIn b m as) i = some oi → (∃ n o', ups M0 (bx' ++ fresh as) n = some o' ∧ o'.live = oi.live ∧ hdC bx b as.length hd hd' i = hd' n ∧ ((∃ j, i = b + j ∧ j < as.length ∧ n = 1000000 + j) ∨ (n = i ∧ (i < b ∨ b + as.length ≤ i) ∧ i < 1000000))) ∨ (mb i = some oi ∧ hdC bx b as.length hd hd' i = hd i ∧ ∀ x ∈ bx, x.1 ≠ i) := by
    intro i oi hi
    rcases call_cases hF mb i with ⟨j, o', e, h1, h2, h3⟩ | ⟨o', o0, h1, h2, h3, h4, h5, h6⟩ | ⟨h1, h2, h3⟩
    · rw [h2] at hi
      cases hi
      subst e
      exact .inl ⟨_, _, h3, (setv_live _ _).symm, hdC_new (hjl h1), .inl ⟨j, rfl, hjl h1, rfl⟩⟩
    · rw [h5] at hi
      cases hi
      exact .inl ⟨i, _, h6, rfl, hdC_bx h4 (mem_inU h2), .inr ⟨rfl, h4, (hF.low _ h2).1⟩⟩
    · rw [h3] at hi
      exact .inr ⟨hi, hdC_old h1 (inU_not h2), h2⟩
  have cross : ∀ {n o' k i oi}, ups M0 (bx' ++ fresh as) n = some o' → o'.live = true → blk (hd' n) = some k → mb i = some oi → oi.live = true → blk (hd i) = some k → (∀ x ∈ bx, x.1 ≠ i) → False := by
    intro n o' k i oi h1 h2 h3 h4 h5 h6 h7
    rcases (hmem.blk h1 h2 h3).2.2 with ⟨x, hx, e⟩ | h
    · exact hmb.sep x.1 i x.2 oi k (h7 x hx) (hbox x hx) h4 (hF.box x hx).1.2 h5 e h6
    · have := (hmb.blk h4 h5 h6).1; omega
  refine ⟨?_, hle, fun k hk hlt => ⟨hS k hk, hfr.block k hlt fun h => (hXblk k h).2.1 hk⟩, ⟨hfr.os, hfr.tape, hfr.output, hfr.size, fun k hk hn => hfr.block k hk fun h => hn (hXblk k h).2.2⟩, fun k hk => (hS3 k hk).elim .inl fun h => .inr (h.elim (fun h => .inl (Nat.le_trans hmb.base h)) fun h => (hXblk k h).2.2.symm)⟩
  refine Mem.next (Z := fun k => ∃ x ∈ bx, blk (hd x.1) = some k) hmb hfr.size hfr.block (fun k hk h => (hXblk k h).2.1 hk) hS hS2 hle (fun i o ho => ?_) (fun i i' oi oi' k hne hi hi' li li' bi bi' => ?_)
  · rcases call_cases hF mb i with ⟨j, o', e, h1, h2, h3⟩ | ⟨o', o0, h1, h2, h3, h4, h5, h6⟩ | ⟨h1, h2, h3⟩
    · right
      rw [h2] at ho
      cases ho
      subst e
      rw [hdC_new (hjl h1)]
      exact hnew j o' h1
    · right
      rw [h5] at ho
      cases ho
      rw [hdC_bx h4 (mem_inU h2)]
      exact hold i _ h1
    · left
      rw [h3] at ho
      refine ⟨ho, hdC_old h1 (inU_not h2), fun k hl hb => ⟨?_, fun h => ?_⟩⟩
      · rintro ⟨x, hx, e⟩
        exact hmb.sep i x.1 o x.2 k (fun e => h2 x hx e.symm) ho (hbox x hx) hl (hF.box x hx).1.2 hb e
      · have hb' := hmb.blk ho hl hb
        rcases hS3 k h with h | h | ⟨x, hx, e⟩
        · exact hb'.2.1 h
        · omega
        · exact hmb.sep i x.1 o x.2 k (fun e => h2 x hx e.symm) ho (hbox x hx) hl (hF.box x hx).1.2 hb e
  · -- apart
    rcases side i oi hi with ⟨n, o1, p1, p2, p3, p4⟩ | ⟨p1, p2, p3⟩
    · rw [p3] at bi
      rw [← p2] at li
      rcases side i' oi' hi' with ⟨n', o2, q1, q2, q3, q4⟩ | ⟨q1, q2, q3⟩
      · rw [q3] at bi'
        rw [← q2] at li'
        refine hmem.sep n n' o1 o2 k (fun e => hne ?_) p1 q1 li li' bi bi'
        rcases p4 with ⟨j, e1, e2, e3⟩ | ⟨e1, e2, e3⟩ <;> rcases q4 with ⟨j', f1, f2, f3⟩ | ⟨f1, f2, f3⟩ <;> omega
      · rw [q2] at bi'
        exact (cross p1 li bi q1 li' bi' q3).elim
    · rw [p2] at bi
      rcases side i' oi' hi' with ⟨n', o2, q1, q2, q3, q4⟩ | ⟨q1, q2, q3⟩
      · rw [q3] at bi'
        rw [← q2] at li'
        exact (cross q1 li' bi' p1 li bi p3).elim
      · rw [q2] at bi'
        exact hmb.sep i i' oi oi' k hne p1 q1 li li' bi bi'
/-- The variables that are handed on lie there. -/
theorem call_mem {m : M} (hF : CallForm m b bx r bx' as) (hmb : Mem mb hd w Sb X B) (hbox : ∀ x ∈ bx, mb x.1 = some x.2) : Mem (ups M0 bx) hd w Sb (fun k => ∃ x ∈ bx, blk (hd x.1) = some k) w.heap.size := by
  have hget : ∀ i o, ups M0 bx i = some o → (i, o) ∈ bx := fun i o h => by
    rcases ups_or i bx M0 with ⟨h1, _⟩ | ⟨o', h1, h2⟩
    · rw [h1] at h; cases h
    · rw [h2] at h; cases h; exact h1
  refine ⟨fun i o h => ?_, fun i j oi oj k hne hi hj li lj bi => ?_, hmb.lt, Nat.le_refl _, ?_⟩
  · have hx := hget i o h
    have hmi := hbox _ hx
    have hw := (hF.box _ hx).1
    simp only at hmi hw
    have ho := hmb.obj i o hmi
    cases o with
    | arr v k mu l =>
      have hmu : mu = true := hw.2
      subst hmu
      simp only [O.is, if_true] at ho ⊢
      obtain ⟨xs, h1, h2 | ⟨g, off, cap, e, h3, h4, h5⟩⟩ := ho
      · exact ⟨xs, h1, .inl h2⟩
      · exact ⟨xs, h1, .inr ⟨g, off, cap, e, h3, .inr ⟨_, hx, by rw [e]; cases cap with | zero => omega | succ c => rfl⟩, h5⟩⟩
    | box v cs =>
      have hwc := hw.1
      simp only [O.wfB] at hwc
      simp only [O.is] at ho ⊢
      obtain ⟨k, vs, e, h1, h2, h3, h4, h5⟩ := ho
      exact ⟨k, vs, e, .inr ⟨_, hx, by rw [e]; rfl⟩, h2, h3, closed_ok (fun _ h _ => ⟨h, rfl⟩) hwc h4, h5⟩
    | vec v cs => simp [O.wfB] at hw
    | mp v ks => simp [O.wfB] at hw
  · exact hmb.sep i j oi oj k hne (hbox _ (hget i oi hi)) (hbox _ (hget j oj hj)) li lj bi
  · rintro k ⟨x, hx, e⟩
    exact (hmb.blk (hbox x hx) (hF.box x hx).1.2 e).1
/-- What the call's memory holds lies there for the caller too. -/
theorem is_new {m2 os : M} {hd2 : H} {o : O} {h : Value} {v : Nat} {w0 : World} (hw : o.wfB = true) (ho : o.is os hd' w' S' Xc w0.heap.size h) (hX : ∀ k, Xc k → (B ≤ k ∨ X k)) (hB : B ≤ w0.heap.size)
    (hS : ∀ k, S' k → k < w'.heap.size → S2 k ∧ w'.heap[k]? = w'.heap[k]?) (hS2 : ∀ k, (w0.heap.size ≤ k ∨ Xc k) → ¬ S' k → ¬ S2 k) : (o.setv v).is m2 hd2 w' S2 X B h := by
  cases o with
  | box v' cs =>
    simp only [O.wfB] at hw
    simp only [O.is, O.setv] at ho ⊢
    obtain ⟨k, vs, e, h1, h2, h3, h4, h5, h6, h7⟩ := ho
    exact ⟨k, vs, e, h1.elim (fun h => .inl (Nat.le_trans hB h)) (hX k), h2, hS2 k h1 h3, closed_ok hS hw h4, h5, h6, h7⟩
  | arr v' k mu l =>
    cases mu with
    | true =>
      simp only [O.is, O.setv, if_true] at ho ⊢
      obtain ⟨xs, hrow, h⟩ := ho
      exact ⟨xs, Rows.keep hS _ _ _ hrow, h.imp id fun ⟨g, off, cap, e, h0, h1, h2, h3, h4, h5⟩ => ⟨g, off, cap, e, h0, h1.elim (fun h => .inl (Nat.le_trans hB h)) (hX g), h2, hS2 g h1 h3, h4, h5⟩⟩
    | false =>
      simp only [O.is, O.setv, Bool.false_eq_true, if_false] at ho ⊢
      exact D.keep hS _ _ ho
  | vec v cs => simp [O.wfB] at hw
  | mp v ks => simp [O.wfB] at hw
theorem setv_self (o : O) : o.setv o.ver = o := by cases o <;> rfl
theorem frz_keep {l : List V} {i : Nat} (h : ∀ v, .og i v ∉ l) : ups m (frz m l) i = m i := by
  refine ups_frz_not i _ _ (List.all_eq_true.2 fun x hx => ?_)
  unfold V.notOg
  split
  · rename_i j v
    simp only [bne_iff_ne, ne_eq]
    rintro rfl
    exact h v hx
  · rfl
theorem wf_wfB {o : O} (h : o.wf = true) : o.wfB = true ∧ o.live = true := by
  cases o with
  | box v cs => simp only [O.wf, Bool.and_eq_true] at h; exact ⟨h.2, rfl⟩
  | arr v k mu l => simp only [O.wf, Bool.and_eq_true] at h; exact ⟨rfl, h.2⟩
  | vec v cs => simp [O.wf] at h
  | mp v ks => simp [O.wf] at h

/-- A CALL, AS A STEP OF A WALK: what was handed on is data from now on, but for what was lent. -/
theorem call_step {P : Program} {f : FuncId} {xs ys : List V} {us : List Value} (hG : ∀ g, GL.contains g = true → g < B ∧ ¬ X g ∧ w.cell? ⟨g, 0, none⟩ = some GLV) (hD : Does P f ys bx r bx' as) (hF : CallForm m b bx r bx' as) (hm : Mem m hd w S X B) (hv : VRs m hd w S xs us) (ha : Args m bx xs ys) :
    Calls P f us.toArray w fun e w' => ∃ u hd2 S2, e = .returned u ∧ Out X B m hd w S (ups m (frz m (lentOut bx (V.flats xs)) ++ (bx' ++ freshIn b m as))) hd2 w' S2 ∧ VR (ups m (frz m (lentOut bx (V.flats xs)) ++ (bx' ++ freshIn b m as))) hd2 w' S2 (r.ren b m) u := by
  obtain ⟨S1, o1⟩ := out_frzs hm (lentOut bx (V.flats xs))
  have hbox : ∀ x ∈ bx, ups m (frz m (lentOut bx (V.flats xs))) x.1 = some x.2 := fun x hx => by
    rw [frz_keep fun v hv => by have := (lentOut_og.1 hv).2; rw [mem_inU hx] at this; cases this]
    exact (hF.box x hx).2
  have hmem0 := call_mem hF o1.mem hbox
  have hys := args_ok o1.mem ha (o1.vrs hv) (fun i v k mu l hmem hno hi => ups_frz_get hi _ _ (lentOut_og.2 ⟨hmem, hno⟩)) hbox hF.nd
  have hG' : Gk w (fun k => ∃ x ∈ bx, blk (hd x.1) = some k) := fun g hg => by
    obtain ⟨g1, g2, g3⟩ := hG g hg
    refine ⟨Nat.lt_of_lt_of_le g1 hm.base, ?_, g3⟩
    rintro ⟨x, hx, e⟩
    rcases (o1.mem.blk (hbox x hx) (hF.box x hx).1.2 e).2.2 with h | h
    · exact g2 h
    · omega
  refine (hD w hd S1 _ us hG' hmem0 hys).mono ?_
  rintro e w' ⟨u, hd', S', rfl, hfr, hmem, hvr, hsub, hle0⟩
  have hjl : ∀ {j : Nat} {o : O}, as[j]? = some o → j < as.length := fun h => (List.getElem?_eq_some_iff.1 h).1
  have hos : ∀ {j : Nat} {o : O}, as[j]? = some o → ups M0 (bx' ++ fresh as) (1000000 + j) = some o := fun h => by rw [ups_append]; exact ups_mem nodup_fresh (fresh_mem h)
  have hob : ∀ {i : Nat} {o : O}, (i, o) ∈ bx' → ups M0 (bx' ++ fresh as) i = some o := fun {i o} h => by
    obtain ⟨o0, h0, _⟩ := hF.find h
    have hlow := (hF.low _ h0).1
    rw [ups_append, ups_not]
    · exact ups_mem hF.nd' h
    · rintro ⟨i', o2⟩ hx2 e2
      obtain ⟨j', e', _⟩ := mem_fresh hx2
      simp only at e2 hlow
      omega
  have hwf : ∀ {j : Nat} {o : O}, as[j]? = some o → o.wf = true := fun h => List.all_eq_true.1 hF.wf _ (List.mem_of_getElem? h)
  have hXc : ∀ k, (∃ x ∈ bx, blk (hd x.1) = some k) → k < w.heap.size ∧ ¬ S1 k ∧ (X k ∨ B ≤ k) := by
    rintro k ⟨x, hx, e⟩
    exact o1.mem.blk (hbox x hx) (hF.box x hx).1.2 e
  have hS2 : ∀ k, (S1 k ∨ S' k) → k < w'.heap.size := fun k h => h.elim (fun h => Nat.lt_of_lt_of_le (o1.mem.lt k h) hfr.size) (hmem.lt k)
  have hnot : ∀ k, (w.heap.size ≤ k ∨ ∃ x ∈ bx, blk (hd x.1) = some k) → ¬ S' k → ¬ (S1 k ∨ S' k) := fun k h1 h2 h => h.elim (fun h => h1.elim (fun h1 => by have := o1.mem.lt k h; omega) fun h1 => (hXc k h1).2.1 h) h2
  have hout := call_out (S2 := fun k => S1 k ∨ S' k) hF o1.mem hbox (fun i _ _ => frz_ver m _ i) hfr hmem hle0 (fun k h => .inl h) hS2 (fun k h => h.elim .inl (hsub k))
    (fun j o hj => is_new (wf_wfB (hwf hj)).1 (hmem.obj _ _ (hos hj)) (fun k hk => (hXc k hk).2.2.symm) o1.mem.base (fun k h _ => ⟨.inr h, rfl⟩) hnot)
    (fun i o hi => by
      have := is_new (m2 := ups (ups m (frz m (lentOut bx (V.flats xs)))) (bx' ++ freshIn b m as)) (hd2 := hdC bx b as.length hd hd') (X := X) (B := B) (v := o.ver) (hF.box' _ hi) (hmem.obj _ _ (hob hi)) (fun k hk => (hXc k hk).2.2.symm) o1.mem.base (fun k h _ => ⟨.inr h, rfl⟩) hnot
      rwa [setv_self] at this)
  refine ⟨u, hdC bx b as.length hd hd', fun k => S1 k ∨ S' k, rfl, by rw [ups_append]; exact o1.trans hout, ?_⟩
  rw [ups_append]
  refine ren_ok (bx := bx') (fun k h => .inr h) (fun i hi hlt => ?_) (fun j hj => ?_) r u hF.res hvr
  · obtain ⟨o, ho⟩ := inU_mem hi
    obtain ⟨o0, h0, _⟩ := hF.find ho
    have hlow := (hF.low _ h0).2
    simp only at hlow
    rcases call_cases hF (ups m (frz m (lentOut bx (V.flats xs)))) i with ⟨j, o', e, h1, h2, h3⟩ | ⟨o', o0, h1, h2, h3, h4, h5, h6⟩ | ⟨h1, h2, h3⟩
    · have := hjl h1; omega
    · exact ⟨by rw [h5, h6], hdC_bx h4 (mem_inU h2)⟩
    · exact absurd rfl (h2 _ h0)
  have hj' := List.getElem?_eq_getElem hj
  refine ⟨as[j], hos hj', ?_, ?_, hdC_new hj⟩
  · have := hwf hj'
    cases h : as[j] <;> simp_all [O.wf, O.ver]
  · rw [ups_append]
    exact ups_mem nodup_freshIn (freshIn_mem hj')

/-! ### Calls that only look -/
def scD : D → Bool
  | .at _ => true
  | _ => false
def scV : V → Bool
  | .d (.at _) => true
  | _ => false
/-- Numbers and the like, no slices. -/
def O.scal : O → Bool
  | .arr _ _ _ l => l.all fun c => c.all scD
  | .box _ cs => cs.all scV
  | _ => false
mutual
def V.scal : V → Bool
  | .d (.at _) => true
  | .nl _ => true
  | .og _ _ => true
  | .bp _ _ _ => true
  | .ag l => V.scals l
  | .tu l => V.scals l
  | _ => false
def V.scals : List V → Bool
  | [] => true
  | x :: l => x.scal && V.scals l
end
theorem cells_sc : ∀ {c : List D} {xs : List Value}, c.all scD = true → Cells w S c xs → Cells w' S' c xs
  | [], xs, _, h => by simp only [Cells] at h ⊢; exact h
  | d :: c, xs, hs, h => by
    simp only [List.all_cons, Bool.and_eq_true] at hs
    simp only [Cells] at h ⊢
    obtain ⟨x, r, e, h1, h2⟩ := h
    refine ⟨x, r, e, ?_, cells_sc hs.2 h2⟩
    cases d with
    | «at» v => simp only [D.is] at h1 ⊢; exact h1
    | sl k l => exact absurd hs.1 (by simp [scD])
theorem rows_sc {k : Nat} : ∀ {l : List (List D)} {xs : List Value}, (l.all fun c => c.all scD) = true → Rows w S k l xs → Rows w' S' k l xs
  | [], xs, _, h => by simp only [Rows] at h ⊢; exact h
  | c :: l, xs, hs, h => by
    simp only [List.all_cons, Bool.and_eq_true] at hs
    simp only [Rows] at h ⊢
    obtain ⟨a, r, e, h0, h1, h2⟩ := h
    exact ⟨a, r, e, h0, cells_sc (by simpa using hs.1) h1, rows_sc hs.2 h2⟩
theorem vrs_sc {m m2 : M} {hd2 : H} : ∀ {cs : List V} {xs : List Value}, cs.all scV = true → VRs m hd w S cs xs → VRs m2 hd2 w' S' cs xs
  | [], xs, _, h => by simp only [VRs] at h ⊢; exact h
  | x :: c, xs, hs, h => by
    simp only [List.all_cons, Bool.and_eq_true] at hs
    simp only [VRs] at h ⊢
    obtain ⟨u, r, e, h1, h2⟩ := h
    refine ⟨u, r, e, ?_, vrs_sc hs.2 h2⟩
    have hx := hs.1
    unfold scV at hx
    split at hx
    · simp only [VR, D.is] at h1 ⊢; exact h1
    · cases hx
mutual
theorem V.scal_ok {m : M} : ∀ {x : V} {u : Value}, x.scal = true → VR m hd w S x u → VR m hd w S' x u
  | .d (.at v), u, _, h => by simp only [VR, D.is] at h ⊢; exact h
  | .d (.sl k l), u, hs, h => by simp [V.scal] at hs
  | .nl k, u, _, h => by simp only [VR] at h ⊢; exact h
  | .og i v, u, _, h => by simp only [VR] at h ⊢; exact h
  | .bp i v o, u, _, h => by simp only [VR] at h ⊢; exact h
  | .ag l, u, hs, h => by
    simp only [VR] at h ⊢
    obtain ⟨vs, e, h1, h2⟩ := h
    exact ⟨vs, e, V.scals_ok (by simpa only [V.scal] using hs) h1, h2⟩
  | .tu l, u, hs, h => by
    simp only [VR] at h ⊢
    obtain ⟨vs, e, h1⟩ := h
    exact ⟨vs, e, V.scals_ok (by simpa only [V.scal] using hs) h1⟩
  | .un, u, hs, h => by simp [V.scal] at hs
  | .z0, u, hs, h => by simp [V.scal] at hs
  | .ub, u, hs, h => by simp [V.scal] at hs
  | .ep _ _ _ _, u, hs, h => by simp [V.scal] at hs
  | .fp _ _, u, hs, h => by simp [V.scal] at hs
  | .cl _ _, u, hs, h => by simp [V.scal] at hs
  | .vg _ _, u, hs, h => by simp [V.scal] at hs
  | .vp _ _ _, u, hs, h => by simp [V.scal] at hs
  | .ot _ _ _, u, hs, h => by simp [V.scal] at hs
  | .mh _ _, u, hs, h => by simp [V.scal] at hs
  | .fx _ _, u, hs, h => by simp [V.scal] at hs
theorem V.scals_ok {m : M} : ∀ {l : List V} {xs : List Value}, V.scals l = true → VRs m hd w S l xs → VRs m hd w S' l xs
  | [], xs, _, h => by simp only [VRs] at h ⊢; exact h
  | x :: l, xs, hs, h => by
    simp only [V.scals, Bool.and_eq_true] at hs
    simp only [VRs] at h ⊢
    obtain ⟨u, r, e, h1, h2⟩ := h
    exact ⟨u, r, e, V.scal_ok hs.1 h1, V.scals_ok hs.2 h2⟩
end
mutual
theorem ren_scal {m : M} : ∀ {x : V}, x.scal = true → (x.ren b m).scal = true
  | .d (.at v), h => by simpa only [V.ren] using h
  | .d (.sl k l), h => by simp [V.scal] at h
  | .nl k, h => by simpa only [V.ren] using h
  | .og i v, h => by simp only [V.ren]; split <;> rfl
  | .bp i v o, h => by simp only [V.ren]; split <;> rfl
  | .ag l, h => by simp only [V.ren, V.scal] at h ⊢; exact rens_scal h
  | .tu l, h => by simp only [V.ren, V.scal] at h ⊢; exact rens_scal h
  | .un, h => by simp [V.scal] at h
  | .z0, h => by simp [V.scal] at h
  | .ub, h => by simp [V.scal] at h
  | .ep _ _ _ _, h => by simp [V.scal] at h
  | .fp _ _, h => by simp [V.scal] at h
  | .cl _ _, h => by simp [V.scal] at h
  | .vg _ _, h => by simp [V.scal] at h
  | .vp _ _ _, h => by simp [V.scal] at h
  | .ot _ _ _, h => by simp [V.scal] at h
  | .mh _ _, h => by simp [V.scal] at h
  | .fx _ _, h => by simp [V.scal] at h
theorem rens_scal {m : M} : ∀ {l : List V}, V.scals l = true → V.scals (V.rens b m l) = true
  | [], _ => rfl
  | x :: l, h => by
    simp only [V.scals, Bool.and_eq_true] at h
    simp only [V.rens, V.scals, Bool.and_eq_true]
    exact ⟨ren_scal h.1, rens_scal h.2⟩
end
/-- A CALL THAT ONLY LOOKS at what is not lent: nothing becomes data by it. -/
theorem call_stepB {P : Program} {f : FuncId} {xs ys : List V} {us : List Value} (hG : ∀ g, GL.contains g = true → g < B ∧ ¬ X g ∧ w.cell? ⟨g, 0, none⟩ = some GLV) (hD : Does P f ys bx r bx' []) (hF : CallForm m b bx r bx' []) (hrs : r.scal = true) (hbs : bx'.all (·.2.scal) = true) (hmut : ∀ x ∈ bx', x.2.live = true) (hm : Mem m hd w S X B) (hv : VRs m hd w S xs us) (ha : Args m bx xs ys) :
    Calls P f us.toArray w fun e w' => ∃ u hd2, e = .returned u ∧ Out X B m hd w S (ups m (bx' ++ freshIn b m [])) hd2 w' S ∧ VR (ups m (bx' ++ freshIn b m [])) hd2 w' S (r.ren b m) u := by
  obtain ⟨S1, o1⟩ := out_frzs hm (lentOut bx (V.flats xs))
  have hSS : ∀ k, S k → S1 k := fun k h => (o1.keep k h (hm.lt k h)).1
  have hbox : ∀ x ∈ bx, ups m (frz m (lentOut bx (V.flats xs))) x.1 = some x.2 := fun x hx => by
    rw [frz_keep fun v hv => by have := (lentOut_og.1 hv).2; rw [mem_inU hx] at this; cases this]
    exact (hF.box x hx).2
  have hmem0 := call_mem hF o1.mem hbox
  have hys := args_ok o1.mem ha (o1.vrs hv) (fun i v k mu l hmem hno hi => ups_frz_get hi _ _ (lentOut_og.2 ⟨hmem, hno⟩)) hbox hF.nd
  have hXc : ∀ k, (∃ x ∈ bx, blk (hd x.1) = some k) → k < w.heap.size ∧ ¬ S1 k ∧ (X k ∨ B ≤ k) := by
    rintro k ⟨x, hx, e⟩
    exact o1.mem.blk (hbox x hx) (hF.box x hx).1.2 e
  have hG' : Gk w (fun k => ∃ x ∈ bx, blk (hd x.1) = some k) := fun g hg => by
    obtain ⟨g1, g2, g3⟩ := hG g hg
    refine ⟨Nat.lt_of_lt_of_le g1 hm.base, fun h => ?_, g3⟩
    rcases (hXc g h).2.2 with h | h
    · exact g2 h
    · omega
  refine (hD w hd S1 _ us hG' hmem0 hys).mono ?_
  rintro e w' ⟨u, hd', S', rfl, hfr, hmem, hvr, hsub, hle0⟩
  have hob : ∀ {i : Nat} {o : O}, (i, o) ∈ bx' → ups M0 (bx' ++ fresh []) i = some o := fun {i o} h => by
    rw [ups_append]
    show ups M0 bx' i = some o
    exact ups_mem hF.nd' h
  have hnot : ∀ k, (w.heap.size ≤ k ∨ ∃ x ∈ bx, blk (hd x.1) = some k) → ¬ S k := fun k h1 h => h1.elim (fun h1 => by have := hm.lt k h; omega) fun h1 => (hXc k h1).2.1 (hSS k h)
  have hout := call_out (S2 := S) hF hm (fun x hx => (hF.box x hx).2) (fun i _ _ => rfl) hfr hmem hle0 (fun k h => h) (fun k h => Nat.lt_of_lt_of_le (hm.lt k h) hfr.size) (fun k h => .inl h)
    (fun j o hj => by simp at hj)
    (fun i o hi => by
      have h1 := hmem.obj _ _ (hob hi)
      have h2 : o.scal = true := List.all_eq_true.1 hbs _ hi
      cases o with
      | box v cs =>
        simp only [O.scal] at h2
        simp only [O.is] at h1 ⊢
        obtain ⟨k, vs, e, g1, g2, g3, g4, g5⟩ := h1
        exact ⟨k, vs, e, g1.elim (fun h => .inl (Nat.le_trans hm.base h)) (fun h => (hXc k h).2.2.symm), g2, hnot k g1, vrs_sc h2 g4, g5⟩
      | arr v k mu l =>
        simp only [O.scal] at h2
        have hl := (hF.box' _ hi)
        obtain ⟨o0, h0, hk⟩ := hF.find hi
        cases mu with
        | true =>
          simp only [O.is, if_true] at h1 ⊢
          obtain ⟨ys, hrow, h⟩ := h1
          exact ⟨ys, rows_sc h2 hrow, h.imp id fun ⟨g, off, cap, e, k0, k1, k2, k3, k4⟩ => ⟨g, off, cap, e, k0, k1.elim (fun h => .inl (Nat.le_trans hm.base h)) (fun h => (hXc g h).2.2.symm), k2, hnot g k1, k4⟩⟩
        | false => exact absurd (hmut _ hi) (by simp [O.live])
      | vec v cs => simp [O.scal] at h2
      | mp v ks => simp [O.scal] at h2)
  refine ⟨u, _, rfl, hout, ?_⟩
  refine V.scal_ok (S := S') (ren_scal hrs) (ren_ok (S2 := S') (n := ([] : List O).length) (bx := bx') (fun k h => h) (fun i hi hlt => ?_) (fun j hj => by simp at hj) r u hF.res hvr)
  obtain ⟨o, ho⟩ := inU_mem hi
  obtain ⟨o0, h0, _⟩ := hF.find ho
  have hlow := (hF.low _ h0).2
  simp only at hlow
  rcases call_cases hF m i with ⟨j, o', e, h1, h2, h3⟩ | ⟨o', o0, h1, h2, h3, h4, h5, h6⟩ | ⟨h1, h2, h3⟩
  · simp at h1
  · exact ⟨by rw [h5, h6], hdC_bx h4 (mem_inU h2)⟩
  · exact absurd rfl (h2 _ h0)
end
end Go.Proofs.YthbhkkdaaipngaaGreatDoor.Sim
end
