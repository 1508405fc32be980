/- The operations on memory: of no program. Conditions: none. -/
import Derived.Test.YtihjmnhjjpdenaaMSimF
section
namespace Go.Proofs.Ytihjmnhjjpdenaa.Sim
open Go Go.RowKit Go.Deep
set_option linter.unusedVariables false

section
variable {P : Program} {X : Nat → Prop} {B : Nat} {o : Oper} {a : Act} {m : M} {hd : H} {w : World} {S : Nat → Prop} {v : V} {us : U} {vs : List V} {d : Nat} {u1 u2 u3 : Value}

theorem VRs.inv0 (h : VRs m hd w S vs []) : vs = [] := by cases vs <;> simp_all [VRs]
theorem VRs.inv1 (h : VRs m hd w S vs [u1]) : ∃ x, vs = [x] ∧ VR m hd w S x u1 := by
  cases vs with
  | nil => simp [VRs] at h
  | cons x l =>
    simp only [VRs] at h
    obtain ⟨u, r, e, h1, h2⟩ := h
    cases e
    exact ⟨x, by rw [h2.inv0], h1⟩
theorem VRs.invc {us : List Value} (h : VRs m hd w S vs (u1 :: us)) : ∃ x l, vs = x :: l ∧ VR m hd w S x u1 ∧ VRs m hd w S l us := by
  cases vs with
  | nil => simp [VRs] at h
  | cons x l =>
    simp only [VRs] at h
    obtain ⟨u, r, e, h1, h2⟩ := h
    cases e
    exact ⟨x, l, rfl, h1, h2⟩
theorem VRs.inv2 (h : VRs m hd w S vs [u1, u2]) : ∃ x y, vs = [x, y] ∧ VR m hd w S x u1 ∧ VR m hd w S y u2 := by
  obtain ⟨x, l, rfl, h1, h2⟩ := h.invc
  obtain ⟨y, rfl, h3⟩ := h2.inv1
  exact ⟨x, y, rfl, h1, h3⟩
theorem VRs.inv3 (h : VRs m hd w S vs [u1, u2, u3]) : ∃ x y z, vs = [x, y, z] ∧ VR m hd w S x u1 ∧ VR m hd w S y u2 ∧ VR m hd w S z u3 := by
  obtain ⟨x, l, rfl, h1, h2⟩ := h.invc
  obtain ⟨y, z, rfl, h3, h4⟩ := h2.inv2
  exact ⟨x, y, z, rfl, h1, h3, h4⟩
theorem VR.at_ {x u : Value} (h : VR m hd w S (.d (.at x)) u) : u = x := by simp only [VR, D.is] at h; exact h.1
theorem VR.at_mk {x : Value} (h : x.oneCell' = true) : VR m hd w S (.d (.at x)) x := by simp only [VR, D.is]; simp [h]

theorem ok_mov (hm : Mem m hd w S X B) {x : Operand} (ho : o.op = .move x ∨ o.op = .assign x) (hv : VRs m hd w S vs [a.eval x]) (hs : semMov vs = some (v, us)) : StepOK P X B o a m hd w S v us := by
  obtain ⟨y, rfl, h⟩ := hv.inv1
  simp only [semMov, Option.some.injEq, Prod.mk.injEq] at hs
  obtain ⟨rfl, rfl⟩ := hs
  refine StepOK.pure hm ?_ h
  rcases ho with ho | ho <;> simp [execOp, ho]
theorem ok_pick (hm : Mem m hd w S X B) {c x y : Operand} (ho : o.op = .pick c x y) (hv : VRs m hd w S vs [a.eval c, a.eval x, a.eval y]) (hs : semPick vs = some (v, us)) : StepOK P X B o a m hd w S v us := by
  obtain ⟨c', x', y', rfl, h1, h2, h3⟩ := hv.inv3
  unfold semPick at hs
  split at hs
  · rename_i b _ _ e
    simp only [List.cons.injEq, and_true] at e
    obtain ⟨rfl, rfl, rfl⟩ := e
    simp only [Option.some.injEq, Prod.mk.injEq] at hs
    obtain ⟨rfl, rfl⟩ := hs
    have := h1.at_
    cases b
    · exact StepOK.pure hm (u := a.eval y) (by simp [execOp, ho, this, asBool]) h3
    · exact StepOK.pure hm (u := a.eval x) (by simp [execOp, ho, this, asBool]) h2
  · cases hs
theorem ok_alloc (hm : Mem m hd w S X B) {t : TypeId} {z : List V} (ho : o.op = .alloc t) (hz : zcs P t = some z) : StepOK P X B o a m hd w S (.bp d (nv m d) 0) [(d, .box (nv m d) z)] := by
  obtain ⟨i, u, h1, h2, h3, h4⟩ := zcs_ok hz
  have hr : (execOp a.eval o).run P w = .ok (.value (.pointer (some ⟨w.heap.size, 0, none⟩))) (w.alloc (.cells u.cells.toList.toArray t)) := by
    simp [execOp, ho, Instr.alloc, zeroValue, typeInfo, h1, h2, newVar, newRow]
  exact StepOK.newBox hm hr (zOks_ok h3).1 (zOks_ok (m := m) (hd := hd) (w := w) (S := S) h3).2
theorem ok_box (hm : Mem m hd w S X B) {t : TypeId} {x : Operand} (ho : o.op = .box t x) (hv : VRs m hd w S vs [a.eval x]) (hs : semBox d m vs = some (v, us)) : StepOK P X B o a m hd w S v us := by
  obtain ⟨y, rfl, h⟩ := hv.inv1
  simp only [semBox] at hs
  split at hs
  · rename_i hg
    simp only [Option.some.injEq, Prod.mk.injEq] at hs
    obtain ⟨rfl, rfl⟩ := hs
    have hr : (execOp a.eval o).run P w = .ok (.value (.pointer (some ⟨w.heap.size, 0, none⟩))) (w.alloc (.cells (a.eval x).cells.toList.toArray t)) := by
      simp [execOp, ho, Instr.box, newVar, newRow]
    exact StepOK.newBox hm hr (h.good hg).1 (h.good hg).2
  · cases hs

/-! ### Composite literals -/
theorem zipset (c : List Value) : ∀ (k : Nat) (xs : List Value) (off : Nat), (((c.zipIdx k).foldl (fun (cs : Array Value) (p : Value × Nat) => cs.setIfInBounds (off + p.2) p.1) xs.toArray)).toList = if off + k + c.length ≤ xs.length then xs.take (off + k) ++ (c ++ xs.drop (off + k + c.length)) else (((c.zipIdx k).foldl (fun (cs : Array Value) (p : Value × Nat) => cs.setIfInBounds (off + p.2) p.1) xs.toArray)).toList := by
  induction c with
  | nil => intro k xs off; split <;> simp
  | cons y c ih =>
    intro k xs off
    split
    · rename_i hle
      simp only [List.length_cons] at hle
      simp only [List.zipIdx_cons, List.foldl_cons, List.setIfInBounds_toArray]
      have := ih (k + 1) (xs.set (off + k) y) off
      rw [if_pos (by simp; omega)] at this
      rw [this]
      have hlt : off + k < xs.length := by omega
      rw [show off + (k + 1) = off + k + 1 by omega, List.take_succ_eq_append_getElem (by simpa using hlt), List.getElem_set_self, List.take_set_of_le (Nat.le_refl _), List.drop_set_of_lt (by omega)]
      simp [Nat.add_assoc, Nat.add_comm 1]
    · rfl
theorem fold_splice {c xs : List Value} {off : Nat} (h : off + c.length ≤ xs.length) : ((c.toArray.zipIdx.foldl (fun (cs : Array Value) (p : Value × Nat) => cs.setIfInBounds (off + p.2) p.1) xs.toArray)).toList = splice xs off c := by
  have := zipset c 0 xs off
  rw [if_pos (by omega)] at this
  unfold splice
  simpa [← Array.foldl_toList] using this
theorem VRs.splice {l c : List V} {xs ys : List Value} {off : Nat} (h : VRs m hd w S l xs) (k : VRs m hd w S c ys) : VRs m hd w S (splice l off c) (splice xs off ys) := by
  unfold Sim.splice
  rw [k.len]
  exact (h.take _).append (k.append (h.drop _))
theorem mem_splice {α : Type} {l c : List α} {off : Nat} {p : α → Prop} (h : ∀ y ∈ l, p y) (k : ∀ y ∈ c, p y) : ∀ y ∈ splice l off c, p y := by
  intro y hy
  unfold splice at hy
  rcases List.mem_append.1 hy with hy | hy
  · exact h y (List.mem_of_mem_take hy)
  · rcases List.mem_append.1 hy with hy | hy
    · exact k y hy
    · exact h y (List.mem_of_mem_drop hy)
/-- Parts are laid over zeros. -/
theorem fill_ok (f : Nat → Option (Nat × Nat)) : ∀ {ps : List (Nat × Value)} {fs : List (Nat × Nat)} {vs z : List V} {zs : List Value},
    VRs m hd w S z zs → (∀ y ∈ zs, y.oneCell' = true) → VRs m hd w S vs (ps.map (·.2)) → fitB z.length fs vs = true → fs.map some = ps.map (fun p => f p.1) →
    ∃ zs', Instr.fill f zs.toArray ps = some zs' ∧ VRs m hd w S (fillV z fs vs) zs'.toList ∧ ∀ y ∈ zs'.toList, y.oneCell' = true
  | [], fs, vs, z, zs, hz, h1, hv, hg, hl => by
    have : fs = [] := List.eq_nil_of_length_eq_zero (by have := congrArg List.length hl; simpa using this)
    subst this
    exact ⟨zs.toArray, rfl, by simpa [fillV] using hz, by simpa using h1⟩
  | (j, u) :: ps, fs, vs, z, zs, hz, h1, hv, hg, hl => by
    obtain ⟨x, vs', rfl, h2, h3⟩ := VRs.invc hv
    cases fs with
    | nil => simp at hl
    | cons q fs =>
      obtain ⟨off, size⟩ := q
      simp only [List.map_cons, List.cons.injEq] at hl
      simp only [fitB, Bool.and_eq_true, beq_iff_eq, decide_eq_true_eq] at hg
      obtain ⟨⟨⟨g1, g2⟩, g3⟩, g4⟩ := hg
      have hgood := h2.good g1
      have hzl := hz.len
      have hul : u.cells.size = size := by have := hgood.1.len; simp at this; omega
      have hfold := fold_splice (c := u.cells.toList) (xs := zs) (off := off) (by simp; omega)
      have e : (u.cells.zipIdx.foldl (fun (cs : Array Value) (p : Value × Nat) => cs.setIfInBounds (off + p.2) p.1) zs.toArray) = (splice zs off u.cells.toList).toArray := by
        apply Array.ext'
        simpa using hfold
      obtain ⟨zs', r1, r2, r3⟩ := fill_ok f (ps := ps) (fs := fs) (vs := vs') (hz.splice (off := off) hgood.1) (mem_splice h1 hgood.2) h3 (by rw [length_splice (by omega)]; exact g4) hl.2
      refine ⟨zs', ?_, by simpa only [fillV] using r2, r3⟩
      simp only [Instr.fill, ← hl.1]
      rw [if_neg (by simp; omega), e]
      exact r1
theorem offs_ok {f : Nat → Option (Nat × Nat)} : ∀ {ps : List (Nat × Operand)} {os : List (Nat × Nat)}, offs f ps = some os → os.map some = ps.map (fun p => f p.1)
  | [], os, h => by simp only [offs, Option.some.injEq] at h; subst h; rfl
  | (i, x) :: ps, os, h => by
    unfold offs at h
    split at h
    · rename_i o os' h1 h2
      cases h
      simp only [List.map_cons, h1, offs_ok h2]
    · cases h
theorem ok_build (hm : Mem m hd w S X B) {t : TypeId} {ps : Array (Nat × Operand)} {z : List V} {f : Nat → Option (Nat × Nat)} {os : List (Nat × Nat)} (ho : o.op = .build t ps) (hf : placeF P t = some f) (hz : zcs P t = some z) (hos : offs f ps.toList = some os)
    (hv : VRs m hd w S vs ((ps.toList.map (·.2)).map a.eval)) (hs : semBuild z os vs = some (v, us)) : StepOK P X B o a m hd w S v us := by
  unfold semBuild at hs
  split at hs
  · rename_i hfit
    simp only [Option.some.injEq, Prod.mk.injEq] at hs
    obtain ⟨rfl, rfl⟩ := hs
    obtain ⟨i, u, h1, h2, h3, h4⟩ := zcs_ok hz
    have hzk := zOks_ok (m := m) (hd := hd) (w := w) (S := S) h3
    obtain ⟨zs', r1, r2, r3⟩ := fill_ok f (ps := ps.toList.map fun (i, x) => (i, a.eval x)) hzk.1 hzk.2 (by simpa [Function.comp_def] using hv) hfit (by rw [offs_ok hos]; simp [Function.comp_def])
    have hb : P.built t (ps.map fun (i, x) => (i, a.eval x)).toList = some zs' := by
      unfold Program.built
      unfold placeF at hf
      split at hf
      · rename_i it n e hi hu
        rw [h1] at hi
        cases hi
        simp only [h1, hu, h2]
        cases he : P.info? e with
        | none => simp [he] at hf
        | some ie =>
          simp only [he, Option.map_some, Option.some.injEq] at hf
          subst hf
          simpa using r1
      · rename_i it fields hi hu
        rw [h1] at hi
        cases hi
        simp only [h1, hu, h2]
        split at hf
        · rename_i places hp
          simp only [Option.some.injEq] at hf
          subst hf
          simp only [hp]
          simpa using r1
        · cases hf
      · cases hf
    refine StepOK.pure hm (u := .agg zs') ?_ ?_
    · simp only [execOp, ho, Sem.run_bind, run_build w t _ zs' hb, Result.andThen_ok]
      rfl
    · simp only [VR]
      exact ⟨zs'.toList, rfl, r2, r3⟩
  · cases hs
end
end Go.Proofs.Ytihjmnhjjpdenaa.Sim
end
section
namespace Go.Proofs.Ytihjmnhjjpdenaa.Sim
open Go Go.RowKit Go.Deep
set_option linter.unusedVariables false

section
variable {P : Program} {X : Nat → Prop} {B : Nat} {o : Oper} {a : Act} {m m0 : M} {hd : H} {w : World} {S : Nat → Prop} {v : V} {us : U} {vs : List V} {d : Nat} {u1 u2 u3 : Value}

theorem form_ok {t : TypeId} {n : Nat} {g : Bool} (h : form P t = some (n, g)) : ∃ i dd, P.info? t = some i ∧ P.underlying t = some dd ∧ i.size = n ∧ dd.isRow = g ∧ (g = false → n = 1) := by
  unfold form at h
  split at h
  · rename_i i dd h1 h2
    split at h
    · rename_i h3
      simp only [Option.some.injEq, Prod.mk.injEq] at h
      obtain ⟨rfl, rfl⟩ := h
      refine ⟨i, dd, h1, h2, rfl, rfl, fun hg => ?_⟩
      simpa [hg] using h3
    · cases h
  · cases h
theorem run_load_range {t : TypeId} {n : Nat} {g : Bool} (h : form P t = some (n, g)) {b q : Nat} {cs : List Value} (hc : w.rangeAt b q cs) (hn : cs.length = n) :
    (Instr.loadAt t (.pointer (some ⟨b, q, none⟩))).run P w = .ok (if g then .agg cs.toArray else cs.headD undef) w := by
  obtain ⟨i, dd, h1, h2, h3, h4, h5⟩ := form_ok h
  cases g with
  | true => exact run_loadAt_mid w b q t cs dd hc h2 h4 (by rw [h1]; simp; omega)
  | false =>
    have hl := h5 rfl
    match cs, hn with
    | [y], _ =>
      have hcell := hc 0 y rfl
      simp only [Nat.add_zero] at hcell
      have hagg : (isAgg t).run P w = .ok false w := by
        unfold isAgg
        rw [Sem.run_bind, run_underlying h2 w]
        cases dd <;> simp_all
      simp [Instr.loadAt, Instr.sureAddr, loadVar, hagg, hcell]
    | [], hn => simp at hn; omega
    | _ :: _ :: _, hn => simp at hn; omega
theorem run_store_range {t : TypeId} {n : Nat} {g : Bool} (h : form P t = some (n, g)) {b q : Nat} {u : Value} (ht : w.there b q u.cells.toList.length) (hn : u.cells.toList.length = n) (h1 : ∀ y ∈ u.cells.toList, y.oneCell' = true) :
    (Instr.storeAt t (.pointer (some ⟨b, q, none⟩)) u).run P w = .ok () (w.setCells b q u.cells.toList) := by
  obtain ⟨i, dd, h2, h3, h4, h5, h6⟩ := form_ok h
  have := run_storeCells_cells (P := P) b q u.cells.toList 0 w (fun j hj => by simpa using (ht j hj).1) (fun j hj => by simpa using (ht j hj).2) h1
  simp only [Nat.add_zero] at this
  have hs : u.cells.size = i.size := by simp at hn; omega
  simp [Instr.storeAt, Instr.sureAddr, storeVar, sizeOf, typeInfo, h2, hs, this]
theorem range_sub {b off : Nat} {xs : List Value} (h : w.rangeAt b off xs) (q n : Nat) : w.rangeAt b (off + q) ((xs.drop q).take n) := fun j y hj => by
  rw [List.getElem?_take] at hj
  split at hj
  · rw [List.getElem?_drop] at hj
    have := h _ y hj
    rwa [← Nat.add_assoc] at this
  · cases hj

theorem ok_load (hm : Mem m hd w S X B) {t : TypeId} {n : Nat} {g : Bool} {x : Operand} (ho : o.op = .load t x) (hf : form P t = some (n, g)) (hv : VRs m hd w S vs [a.eval x]) (hs : semLoad n g m vs = some (v, us)) : StepOK P X B o a m hd w S v us := by
  obtain ⟨y, rfl, h⟩ := hv.inv1
  have hg1 := (form_ok hf).choose_spec.choose_spec.2.2.2.2
  have fin : ∀ {b q : Nat} {cs : List Value} {l : List V}, a.eval x = .pointer (some ⟨b, q, none⟩) → w.rangeAt b q cs → cs.length = n → VRs m hd w S l cs → (∀ y ∈ cs, y.oneCell' = true) → StepOK P X B o a m hd w S (V.mk g l) [] := by
    intro b q cs l e hr hn hl h1
    refine StepOK.pure hm (u := if g then .agg cs.toArray else cs.headD undef) ?_ (hl.mk (n := n) (by rw [← hl.len]; exact hn) h1 hg1)
    simp [execOp, ho, e, run_load_range hf hr hn]
  unfold semLoad at hs
  split at hs
  · rename_i i ver q e
    simp only [List.cons.injEq, and_true] at e
    subst e
    split at hs
    · rename_i v' cs hi
      split at hs
      · rename_i hc
        obtain ⟨rfl, hc⟩ := hc
        simp only [Option.some.injEq, Prod.mk.injEq] at hs
        obtain ⟨rfl, rfl⟩ := hs
        simp only [VR] at h
        obtain ⟨_, y, hy, _, h⟩ := h
        rw [hi] at hy
        cases hy
        obtain ⟨b, h1, h2⟩ := h cs rfl
        have hob := hm.obj i _ hi
        simp only [O.is] at hob
        obtain ⟨b', xs, e1, _, _, _, hx, hone, _, hra⟩ := hob
        rw [h1] at e1
        cases e1
        have hxl := hx.len
        have hra' := range_sub hra q n
        rw [Nat.zero_add] at hra'
        exact fin h2 hra' (by simp; omega) ((hx.drop _).take _) (fun y hy => hone y (List.mem_of_mem_drop (List.mem_of_mem_take hy)))
      · cases hs
    · cases hs
  · rename_i cs q e
    simp only [List.cons.injEq, and_true] at e
    subst e
    split at hs
    · rename_i hc
      simp only [Option.some.injEq, Prod.mk.injEq] at hs
      obtain ⟨rfl, rfl⟩ := hs
      simp only [VR] at h
      obtain ⟨gb, off, xs, h1, _, hr, hcs⟩ := h
      have hcl := hcs.len
      have hl := (hcs.drop q).take n
      exact fin h1 (range_sub hr q n) (by simp; omega) (cells_VRs hl) hl.one
    · cases hs
  · rename_i i ver e' q e
    simp only [List.cons.injEq, and_true] at e
    subst e
    split at hs
    · rename_i v' k mu l hi
      split at hs
      · rename_i hc
        obtain ⟨rfl, he, hq⟩ := hc
        simp only [Option.some.injEq, Prod.mk.injEq] at hs
        obtain ⟨rfl, rfl⟩ := hs
        simp only [VR] at h
        obtain ⟨_, y, hy, _, h⟩ := h
        rw [hi] at hy
        cases hy
        obtain ⟨gb, off, len, cap, h1, h2⟩ := h.1 k mu l rfl
        have hob := hm.obj i _ hi
        simp only [O.is] at hob
        have key : ∃ xs, Rows w S k l xs ∧ w.rangeAt gb off xs := by
          cases mu with
          | true =>
            simp only [if_true] at hob
            obtain ⟨xs, hrow, ⟨ad, e1, rfl⟩ | ⟨g', off', cap', e1, _, _, _, _, _, _, _, hr⟩⟩ := hob
            · simp at he
            · rw [h1] at e1; cases e1; exact ⟨xs, hrow, hr⟩
          | false =>
            simp only [Bool.false_eq_true, if_false, D.is] at hob
            obtain ⟨ad, cap', xs, e1, _, _, hrow, hr⟩ := hob
            obtain ⟨g', off', e2, _, hr'⟩ := hr (by omega)
            rw [h1, e2] at e1
            cases e1
            exact ⟨xs, hrow, hr'⟩
        obtain ⟨xs, hrow, hr⟩ := key
        obtain ⟨hlen, cs, hcs, hsub⟩ := hrow.get he
        have hcl := hcs.len
        have hr2 : w.rangeAt gb (off + e' * k) cs := fun j u hu => by have := hr _ u (hsub j u hu); rwa [← Nat.add_assoc] at this
        have hl := (hcs.drop q).take n
        exact fin h2 (range_sub hr2 q n) (by simp; omega) (cells_VRs hl) hl.one
      · cases hs
    · cases hs
  · cases hs

/-! ### Data out of values -/
theorem ups_frz_not (i : Nat) : ∀ (l : List V) (m : M), l.all (V.notOg i) = true → ups m (frz m0 l) i = m i
  | [], m, _ => rfl
  | y :: l, m, h => by
    simp only [List.all_cons, Bool.and_eq_true] at h
    unfold frz
    split
    · rfl
    · rename_i j v l0 e
      cases e
      split
      · rename_i v' k mu l' hm
        rw [ups, ups_frz_not i l _ h.2, up_ne]
        have := h.1
        simp only [V.notOg, bne_iff_ne, ne_eq] at this
        exact fun e => this e.symm
      · exact ups_frz_not i l m h.2
    · rename_i e
      cases e
      exact ups_frz_not i l m h.2
theorem ups_frz_get {i v k ver : Nat} {mu : Bool} {l' : List (List D)} (hi : m0 i = some (.arr ver k mu l')) : ∀ (l : List V) (m : M), .og i v ∈ l → ups m (frz m0 l) i = some (.arr ver k false l')
  | [], m, h => by cases h
  | y :: l, m, h => by
    by_cases hl : l.all (V.notOg i) = true
    · rcases List.mem_cons.1 h with rfl | h
      · unfold frz
        simp only [hi, ups]
        rw [ups_frz_not i l _ hl, up_same]
      · have := List.all_eq_true.1 hl _ h
        simp [V.notOg] at this
    · have : ∃ v', .og i v' ∈ l := by
        simp only [Bool.not_eq_true, List.all_eq_false] at hl
        obtain ⟨x, hx, h1⟩ := hl
        unfold V.notOg at h1
        split at h1
        · rename_i j v'
          have : j = i := by simpa using h1
          subst this
          exact ⟨v', hx⟩
        · simp at h1
      obtain ⟨v', hv'⟩ := this
      unfold frz
      split
      · rename_i e; cases e
      · rename_i j v l0 e
        cases e
        split
        · rw [ups]; exact ups_frz_get hi l _ hv'
        · exact ups_frz_get hi l _ hv'
      · rename_i e
        cases e
        exact ups_frz_get hi l _ hv'
/-- A cell that is data from now on. -/
theorem dcell_ok {m1 : M} {S1 : Nat → Prop} {x : V} {y : D} {u : Value} (h : VR m hd w S x u) (hx : dcell m x = some y) (hS : ∀ b, S b → S1 b) (hm1 : Mem m1 hd w S1 X B) (hf : ∀ i v k mu l, x = .og i v → m i = some (.arr v k mu l) → m1 i = some (.arr v k false l)) : y.is w S1 u := by
  unfold dcell at hx
  split at hx
  · cases hx; simp only [VR] at h; exact D.keep (fun b hb _ => ⟨hS b hb, rfl⟩) _ _ h
  · cases hx
    simp only [VR] at h
    subst h
    simp only [D.is]
    exact ⟨none, 0, [], rfl, Nat.le_refl _, Nat.zero_le _, by simp [Rows], fun h => absurd h (by simp)⟩
  · rename_i i v
    split at hx
    · rename_i v' k mu l hi
      split at hx
      · rename_i e
        subst e
        cases hx
        have h1 := hm1.obj i _ (hf i v' k mu l rfl hi)
        simp only [O.is, Bool.false_eq_true, if_false] at h1
        simp only [VR] at h
        obtain ⟨_, y, hy, _, h⟩ := h
        rw [hi] at hy
        cases hy
        rw [h k mu l rfl]
        exact h1
      · cases hx
    · cases hx
  · cases hx
theorem dcells_ok {m1 : M} {S1 : Nat → Prop} (hS : ∀ b, S b → S1 b) (hm1 : Mem m1 hd w S1 X B) : ∀ {l : List V} {ds : List D} {us : List Value}, VRs m hd w S l us → dcells m l = some ds → (∀ i v k mu l', .og i v ∈ l → m i = some (.arr v k mu l') → m1 i = some (.arr v k false l')) → Cells w S1 ds us
  | [], ds, us, h, hx, _ => by
    simp only [dcells, Option.some.injEq] at hx
    simp only [VRs] at h
    subst hx
    subst h
    simp [Cells]
  | x :: l, ds, us, h, hx, hf => by
    simp only [VRs] at h
    obtain ⟨u, r, rfl, h1, h2⟩ := h
    unfold dcells at hx
    split at hx
    · rename_i y ys h3 h4
      cases hx
      refine ⟨u, r, rfl, dcell_ok h1 h3 hS hm1 (fun i v k mu l' e hi => hf i v k mu l' (by rw [e]; simp) hi), dcells_ok hS hm1 h2 h4 (fun i v k mu l' hmem hi => hf i v k mu l' (by simp [hmem]) hi)⟩
    · cases hx

theorem ok_store (hm : Mem m hd w S X B) {t : TypeId} {n : Nat} {g : Bool} {x y : Operand} (ho : o.op = .store t x y) (hf : form P t = some (n, g)) (hv : VRs m hd w S vs [a.eval x, a.eval y]) (hs : semStore n m vs = some (v, us)) : StepOK P X B o a m hd w S v us := by
  obtain ⟨p, z, rfl, h, hz⟩ := hv.inv2
  unfold semStore at hs
  split at hs
  · rename_i i ver q x' e
    simp only [List.cons.injEq, and_true] at e
    obtain ⟨rfl, rfl⟩ := e
    split at hs
    · rename_i v' cs hi
      split at hs
      · rename_i hc
        obtain ⟨rfl, hg, hn, hq⟩ := hc
        simp only [Option.some.injEq, Prod.mk.injEq] at hs
        obtain ⟨rfl, rfl⟩ := hs
        simp only [VR] at h
        obtain ⟨_, y', hy, _, h⟩ := h
        rw [hi] at hy
        cases hy
        obtain ⟨b, h1, h2⟩ := h cs rfl
        have hgood := hz.good hg
        have hl := hgood.1.len
        refine StepOK.wrBox hm hi h1 (fun hth => ?_) hgood.1 hgood.2 (by omega)
        simp [execOp, ho, h2, run_store_range hf hth (by omega) hgood.2]
      · cases hs
    · cases hs
  · rename_i i ver e' q x' e
    simp only [List.cons.injEq, and_true] at e
    obtain ⟨rfl, rfl⟩ := e
    split at hs
    · rename_i v' k l c hi hc
      split at hs
      · rename_i hcond
        obtain ⟨rfl, hg, hnot, hn, he, hq⟩ := hcond
        simp only [Option.some.injEq, Prod.mk.injEq] at hs
        obtain ⟨rfl, rfl⟩ := hs
        obtain ⟨S1, o1⟩ := out_frzs hm z.cells
        have hgood := hz.good hg
        simp only [VR] at h
        obtain ⟨_, y', hy, _, h⟩ := h
        rw [hi] at hy
        cases hy
        obtain ⟨gb, off, len, cap, h1, h2⟩ := h.1 k true l rfl
        have hcells := dcells_ok (fun b hb => ((o1.keep b hb (hm.lt b hb)).1)) o1.mem hgood.1 hc (fun i v k mu l' hmem hi => ups_frz_get hi _ _ hmem)
        have hcl := hcells.len
        refine StepOK.wrArr o1 rfl (vs := (a.eval y).cells.toList) (by rw [ups_frz_not i _ _ hnot]; exact hi) (fun g' off' n' cap' e1 hth => ?_) hcells he (by omega)
        rw [h1] at e1
        cases e1
        rw [← Nat.add_assoc] at hth ⊢
        simp [execOp, ho, h2, run_store_range hf hth (by omega) hgood.2]
      · cases hs
    · cases hs
  · cases hs
end
end Go.Proofs.Ytihjmnhjjpdenaa.Sim
end
