/- The operations on memory: of no program. Conditions: none. -/
import Derived.Test.YtabfajhflaladaaKSimG
namespace Go.Proofs.Ytabfajhflaladaa.Sim
open Go Go.RowKit Go.Deep
set_option linter.unusedVariables false

section
variable {P : Program} {X : Nat → Prop} {B : Nat} {o : Oper} {a : Act} {m m0 : M} {hd : H} {w : World} {S : Nat → Prop} {v : V} {us : U} {vs : List V} {d : Nat} {u1 u2 u3 : Value}

theorem form_ok {t : TypeId} {n : Nat} {g : Bool} (h : form P t = some (n, g)) : ∃ i dd, P.info? t = some i ∧ P.underlying t = some dd ∧ i.size = n ∧ dd.isRow = g ∧ (g = false → n = 1) := by
  unfold form at h
  split at h
  · rename_i i dd h1 h2
    split at h
    · rename_i h3
      simp only [Option.some.injEq, Prod.mk.injEq] at h
      obtain ⟨rfl, rfl⟩ := h
      refine ⟨i, dd, h1, h2, rfl, rfl, fun hg => ?_⟩
      simpa [hg] using h3
    · cases h
  · cases h
theorem run_load_range {t : TypeId} {n : Nat} {g : Bool} (h : form P t = some (n, g)) {b q : Nat} {cs : List Value} (hc : w.rangeAt b q cs) (hn : cs.length = n) :
    (Instr.loadAt t (.pointer (some ⟨b, q, none⟩))).run P w = .ok (if g then .agg cs.toArray else cs.headD undef) w := by
  obtain ⟨i, dd, h1, h2, h3, h4, h5⟩ := form_ok h
  cases g with
  | true => exact run_loadAt_mid w b q t cs dd hc h2 h4 (by rw [h1]; simp; omega)
  | false =>
    have hl := h5 rfl
    match cs, hn with
    | [y], _ =>
      have hcell := hc 0 y rfl
      simp only [Nat.add_zero] at hcell
      have hagg : (isAgg t).run P w = .ok false w := by
        unfold isAgg
        rw [Sem.run_bind, run_underlying h2 w]
        cases dd <;> simp_all
      simp [Instr.loadAt, Instr.sureAddr, loadVar, hagg, hcell]
    | [], hn => simp at hn; omega
    | _ :: _ :: _, hn => simp at hn; omega
theorem run_store_range {t : TypeId} {n : Nat} {g : Bool} (h : form P t = some (n, g)) {b q : Nat} {u : Value} (ht : w.there b q u.cells.toList.length) (hn : u.cells.toList.length = n) (h1 : ∀ y ∈ u.cells.toList, y.oneCell' = true) :
    (Instr.storeAt t (.pointer (some ⟨b, q, none⟩)) u).run P w = .ok () (w.setCells b q u.cells.toList) := by
  obtain ⟨i, dd, h2, h3, h4, h5, h6⟩ := form_ok h
  have := run_storeCells_cells (P := P) b q u.cells.toList 0 w (fun j hj => by simpa using (ht j hj).1) (fun j hj => by simpa using (ht j hj).2) h1
  simp only [Nat.add_zero] at this
  have hs : u.cells.size = i.size := by simp at hn; omega
  simp [Instr.storeAt, Instr.sureAddr, storeVar, sizeOf, typeInfo, h2, hs, this]
theorem range_sub {b off : Nat} {xs : List Value} (h : w.rangeAt b off xs) (q n : Nat) : w.rangeAt b (off + q) ((xs.drop q).take n) := fun j y hj => by
  rw [List.getElem?_take] at hj
  split at hj
  · rw [List.getElem?_drop] at hj
    have := h _ y hj
    rwa [← Nat.add_assoc] at this
  · cases hj

theorem ok_load (hm : Mem m hd w S X B) {t : TypeId} {n : Nat} {g : Bool} {x : Operand} (ho : o.op = .load t x) (hf : form P t = some (n, g)) (hv : VRs m hd w S vs [a.eval x]) (hs : semLoad n g m vs = some (v, us)) : StepOK P X B o a m hd w S v us := by
  obtain ⟨y, rfl, h⟩ := hv.inv1
  have hg1 := (form_ok hf).choose_spec.choose_spec.2.2.2.2
  have fin : ∀ {b q : Nat} {cs : List Value} {l : List V}, a.eval x = .pointer (some ⟨b, q, none⟩) → w.rangeAt b q cs → cs.length = n → VRs m hd w S l cs → (∀ y ∈ cs, y.oneCell' = true) → StepOK P X B o a m hd w S (V.mk g l) [] := by
    intro b q cs l e hr hn hl h1
    refine StepOK.pure hm (u := if g then .agg cs.toArray else cs.headD undef) ?_ (hl.mk (n := n) (by rw [← hl.len]; exact hn) h1 hg1)
    simp [execOp, ho, e, run_load_range hf hr hn]
  unfold semLoad at hs
  split at hs
  · rename_i i ver q e
    simp only [List.cons.injEq, and_true] at e
    subst e
    split at hs
    · rename_i v' cs hi
      split at hs
      · rename_i hc
        obtain ⟨rfl, hc⟩ := hc
        simp only [Option.some.injEq, Prod.mk.injEq] at hs
        obtain ⟨rfl, rfl⟩ := hs
        simp only [VR] at h
        obtain ⟨_, y, hy, _, h⟩ := h
        rw [hi] at hy
        cases hy
        obtain ⟨b, h1, h2⟩ := h cs rfl
        have hob := hm.obj i _ hi
        simp only [O.is] at hob
        obtain ⟨b', xs, e1, _, _, _, hx, hone, _, hra⟩ := hob
        rw [h1] at e1
        cases e1
        have hxl := hx.len
        have hra' := range_sub hra q n
        rw [Nat.zero_add] at hra'
        exact fin h2 hra' (by simp; omega) ((hx.drop _).take _) (fun y hy => hone y (List.mem_of_mem_drop (List.mem_of_mem_take hy)))
      · cases hs
    · cases hs
  · rename_i cs q e
    simp only [List.cons.injEq, and_true] at e
    subst e
    split at hs
    · rename_i hc
      simp only [Option.some.injEq, Prod.mk.injEq] at hs
      obtain ⟨rfl, rfl⟩ := hs
      simp only [VR] at h
      obtain ⟨gb, off, xs, h1, _, hr, hcs⟩ := h
      have hcl := hcs.len
      have hl := (hcs.drop q).take n
      exact fin h1 (range_sub hr q n) (by simp; omega) (cells_VRs hl) hl.one
    · cases hs
  · rename_i i ver e' q e
    simp only [List.cons.injEq, and_true] at e
    subst e
    split at hs
    · rename_i v' k mu l hi
      split at hs
      · rename_i hc
        obtain ⟨rfl, he, hq⟩ := hc
        simp only [Option.some.injEq, Prod.mk.injEq] at hs
        obtain ⟨rfl, rfl⟩ := hs
        simp only [VR] at h
        obtain ⟨_, y, hy, _, h⟩ := h
        rw [hi] at hy
        cases hy
        obtain ⟨gb, off, len, cap, h1, h2⟩ := h.1 k mu l rfl
        have hob := hm.obj i _ hi
        simp only [O.is] at hob
        have key : ∃ xs, Rows w S k l xs ∧ w.rangeAt gb off xs := by
          cases mu with
          | true =>
            simp only [if_true] at hob
            obtain ⟨xs, hrow, ⟨ad, e1, rfl⟩ | ⟨g', off', cap', e1, _, _, _, _, _, _, _, hr⟩⟩ := hob
            · simp at he
            · rw [h1] at e1; cases e1; exact ⟨xs, hrow, hr⟩
          | false =>
            simp only [Bool.false_eq_true, if_false, D.is] at hob
            obtain ⟨ad, cap', xs, e1, _, _, hrow, hr⟩ := hob
            obtain ⟨g', off', e2, _, hr'⟩ := hr (by omega)
            rw [h1, e2] at e1
            cases e1
            exact ⟨xs, hrow, hr'⟩
        obtain ⟨xs, hrow, hr⟩ := key
        obtain ⟨hlen, cs, hcs, hsub⟩ := hrow.get he
        have hcl := hcs.len
        have hr2 : w.rangeAt gb (off + e' * k) cs := fun j u hu => by have := hr _ u (hsub j u hu); rwa [← Nat.add_assoc] at this
        have hl := (hcs.drop q).take n
        exact fin h2 (range_sub hr2 q n) (by simp; omega) (cells_VRs hl) hl.one
      · cases hs
    · cases hs
  · cases hs

/-! ### Data out of values -/
theorem ups_frz_not (i : Nat) : ∀ (l : List V) (m : M), l.all (V.notOg i) = true → ups m (frz m0 l) i = m i
  | [], m, _ => rfl
  | y :: l, m, h => by
    simp only [List.all_cons, Bool.and_eq_true] at h
    unfold frz
    split
    · rfl
    · rename_i j v l0 e
      cases e
      split
      · rename_i v' k mu l' hm
        rw [ups, ups_frz_not i l _ h.2, up_ne]
        have := h.1
        simp only [V.notOg, bne_iff_ne, ne_eq] at this
        exact fun e => this e.symm
      · exact ups_frz_not i l m h.2
    · rename_i e
      cases e
      exact ups_frz_not i l m h.2
theorem ups_frz_get {i v k ver : Nat} {mu : Bool} {l' : List (List D)} (hi : m0 i = some (.arr ver k mu l')) : ∀ (l : List V) (m : M), .og i v ∈ l → ups m (frz m0 l) i = some (.arr ver k false l')
  | [], m, h => by cases h
  | y :: l, m, h => by
    by_cases hl : l.all (V.notOg i) = true
    · rcases List.mem_cons.1 h with rfl | h
      · unfold frz
        simp only [hi, ups]
        rw [ups_frz_not i l _ hl, up_same]
      · have := List.all_eq_true.1 hl _ h
        simp [V.notOg] at this
    · have : ∃ v', .og i v' ∈ l := by
        simp only [Bool.not_eq_true, List.all_eq_false] at hl
        obtain ⟨x, hx, h1⟩ := hl
        unfold V.notOg at h1
        split at h1
        · rename_i j v'
          have : j = i := by simpa using h1
          subst this
          exact ⟨v', hx⟩
        · simp at h1
      obtain ⟨v', hv'⟩ := this
      unfold frz
      split
      · rename_i e; cases e
      · rename_i j v l0 e
        cases e
        split
        · rw [ups]; exact ups_frz_get hi l _ hv'
        · exact ups_frz_get hi l _ hv'
      · rename_i e
        cases e
        exact ups_frz_get hi l _ hv'
/-- A cell that is data from now on. -/
theorem dcell_ok {m1 : M} {S1 : Nat → Prop} {x : V} {y : D} {u : Value} (h : VR m hd w S x u) (hx : dcell m x = some y) (hS : ∀ b, S b → S1 b) (hm1 : Mem m1 hd w S1 X B) (hf : ∀ i v k mu l, x = .og i v → m i = some (.arr v k mu l) → m1 i = some (.arr v k false l)) : y.is w S1 u := by
  unfold dcell at hx
  split at hx
  · cases hx; simp only [VR] at h; exact D.keep (fun b hb _ => ⟨hS b hb, rfl⟩) _ _ h
  · cases hx
    simp only [VR] at h
    subst h
    simp only [D.is]
    exact ⟨none, 0, [], rfl, Nat.le_refl _, Nat.zero_le _, by simp [Rows], fun h => absurd h (by simp)⟩
  · rename_i i v
    split at hx
    · rename_i v' k mu l hi
      split at hx
      · rename_i e
        subst e
        cases hx
        have h1 := hm1.obj i _ (hf i v' k mu l rfl hi)
        simp only [O.is, Bool.false_eq_true, if_false] at h1
        simp only [VR] at h
        obtain ⟨_, y, hy, _, h⟩ := h
        rw [hi] at hy
        cases hy
        rw [h k mu l rfl]
        exact h1
      · cases hx
    · cases hx
  · cases hx
theorem dcells_ok {m1 : M} {S1 : Nat → Prop} (hS : ∀ b, S b → S1 b) (hm1 : Mem m1 hd w S1 X B) : ∀ {l : List V} {ds : List D} {us : List Value}, VRs m hd w S l us → dcells m l = some ds → (∀ i v k mu l', .og i v ∈ l → m i = some (.arr v k mu l') → m1 i = some (.arr v k false l')) → Cells w S1 ds us
  | [], ds, us, h, hx, _ => by
    simp only [dcells, Option.some.injEq] at hx
    simp only [VRs] at h
    subst hx
    subst h
    simp [Cells]
  | x :: l, ds, us, h, hx, hf => by
    simp only [VRs] at h
    obtain ⟨u, r, rfl, h1, h2⟩ := h
    unfold dcells at hx
    split at hx
    · rename_i y ys h3 h4
      cases hx
      refine ⟨u, r, rfl, dcell_ok h1 h3 hS hm1 (fun i v k mu l' e hi => hf i v k mu l' (by rw [e]; simp) hi), dcells_ok hS hm1 h2 h4 (fun i v k mu l' hmem hi => hf i v k mu l' (by simp [hmem]) hi)⟩
    · cases hx

theorem ok_store (hm : Mem m hd w S X B) {t : TypeId} {n : Nat} {g : Bool} {x y : Operand} (ho : o.op = .store t x y) (hf : form P t = some (n, g)) (hv : VRs m hd w S vs [a.eval x, a.eval y]) (hs : semStore n m vs = some (v, us)) : StepOK P X B o a m hd w S v us := by
  obtain ⟨p, z, rfl, h, hz⟩ := hv.inv2
  unfold semStore at hs
  split at hs
  · rename_i i ver q x' e
    simp only [List.cons.injEq, and_true] at e
    obtain ⟨rfl, rfl⟩ := e
    split at hs
    · rename_i v' cs hi
      split at hs
      · rename_i hc
        obtain ⟨rfl, hg, hn, hq⟩ := hc
        simp only [Option.some.injEq, Prod.mk.injEq] at hs
        obtain ⟨rfl, rfl⟩ := hs
        simp only [VR] at h
        obtain ⟨_, y', hy, _, h⟩ := h
        rw [hi] at hy
        cases hy
        obtain ⟨b, h1, h2⟩ := h cs rfl
        have hgood := hz.good hg
        have hl := hgood.1.len
        refine StepOK.wrBox hm hi h1 (fun hth => ?_) hgood.1 hgood.2 (by omega)
        simp [execOp, ho, h2, run_store_range hf hth (by omega) hgood.2]
      · cases hs
    · cases hs
  · rename_i i ver e' q x' e
    simp only [List.cons.injEq, and_true] at e
    obtain ⟨rfl, rfl⟩ := e
    split at hs
    · rename_i v' k l c hi hc
      split at hs
      · rename_i hcond
        obtain ⟨rfl, hg, hnot, hn, he, hq⟩ := hcond
        simp only [Option.some.injEq, Prod.mk.injEq] at hs
        obtain ⟨rfl, rfl⟩ := hs
        obtain ⟨S1, o1⟩ := out_frzs hm z.cells
        have hgood := hz.good hg
        simp only [VR] at h
        obtain ⟨_, y', hy, _, h⟩ := h
        rw [hi] at hy
        cases hy
        obtain ⟨gb, off, len, cap, h1, h2⟩ := h.1 k true l rfl
        have hcells := dcells_ok (fun b hb => ((o1.keep b hb (hm.lt b hb)).1)) o1.mem hgood.1 hc (fun i v k mu l' hmem hi => ups_frz_get hi _ _ hmem)
        have hcl := hcells.len
        refine StepOK.wrArr o1 rfl (vs := (a.eval y).cells.toList) (by rw [ups_frz_not i _ _ hnot]; exact hi) (fun g' off' n' cap' e1 hth => ?_) hcells he (by omega)
        rw [h1] at e1
        cases e1
        rw [← Nat.add_assoc] at hth ⊢
        simp [execOp, ho, h2, run_store_range hf hth (by omega) hgood.2]
      · cases hs
    · cases hs
  · cases hs
end
end Go.Proofs.Ytabfajhflaladaa.Sim
