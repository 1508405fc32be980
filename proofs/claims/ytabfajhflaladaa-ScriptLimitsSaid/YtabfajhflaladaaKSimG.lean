/- The operations, one by one: of no program. Conditions: none. -/
import Derived.Test.YtabfajhflaladaaKSimF
namespace Go.Proofs.Ytabfajhflaladaa.Sim
open Go Go.RowKit Go.Deep
set_option linter.unusedVariables false

section
variable {P : Program} {X : Nat → Prop} {B : Nat} {o : Oper} {a : Act} {m : M} {hd : H} {w : World} {S : Nat → Prop} {v : V} {us : U} {vs : List V} {d : Nat} {u1 u2 u3 : Value}

theorem VRs.inv0 (h : VRs m hd w S vs []) : vs = [] := by cases vs <;> simp_all [VRs]
theorem VRs.inv1 (h : VRs m hd w S vs [u1]) : ∃ x, vs = [x] ∧ VR m hd w S x u1 := by
  cases vs with
  | nil => simp [VRs] at h
  | cons x l =>
    simp only [VRs] at h
    obtain ⟨u, r, e, h1, h2⟩ := h
    cases e
    exact ⟨x, by rw [h2.inv0], h1⟩
theorem VRs.invc {us : List Value} (h : VRs m hd w S vs (u1 :: us)) : ∃ x l, vs = x :: l ∧ VR m hd w S x u1 ∧ VRs m hd w S l us := by
  cases vs with
  | nil => simp [VRs] at h
  | cons x l =>
    simp only [VRs] at h
    obtain ⟨u, r, e, h1, h2⟩ := h
    cases e
    exact ⟨x, l, rfl, h1, h2⟩
theorem VRs.inv2 (h : VRs m hd w S vs [u1, u2]) : ∃ x y, vs = [x, y] ∧ VR m hd w S x u1 ∧ VR m hd w S y u2 := by
  obtain ⟨x, l, rfl, h1, h2⟩ := h.invc
  obtain ⟨y, rfl, h3⟩ := h2.inv1
  exact ⟨x, y, rfl, h1, h3⟩
theorem VRs.inv3 (h : VRs m hd w S vs [u1, u2, u3]) : ∃ x y z, vs = [x, y, z] ∧ VR m hd w S x u1 ∧ VR m hd w S y u2 ∧ VR m hd w S z u3 := by
  obtain ⟨x, l, rfl, h1, h2⟩ := h.invc
  obtain ⟨y, z, rfl, h3, h4⟩ := h2.inv2
  exact ⟨x, y, z, rfl, h1, h3, h4⟩
theorem VR.at_ {x u : Value} (h : VR m hd w S (.d (.at x)) u) : u = x := by simp only [VR, D.is] at h; exact h.1
theorem VR.at_mk {x : Value} (h : x.oneCell' = true) : VR m hd w S (.d (.at x)) x := by simp only [VR, D.is]; simp [h]

theorem ok_mov (hm : Mem m hd w S X B) {x : Operand} (ho : o.op = .move x ∨ o.op = .assign x) (hv : VRs m hd w S vs [a.eval x]) (hs : semMov vs = some (v, us)) : StepOK P X B o a m hd w S v us := by
  obtain ⟨y, rfl, h⟩ := hv.inv1
  simp only [semMov, Option.some.injEq, Prod.mk.injEq] at hs
  obtain ⟨rfl, rfl⟩ := hs
  refine StepOK.pure hm ?_ h
  rcases ho with ho | ho <;> simp [execOp, ho]
theorem ok_pick (hm : Mem m hd w S X B) {c x y : Operand} (ho : o.op = .pick c x y) (hv : VRs m hd w S vs [a.eval c, a.eval x, a.eval y]) (hs : semPick vs = some (v, us)) : StepOK P X B o a m hd w S v us := by
  obtain ⟨c', x', y', rfl, h1, h2, h3⟩ := hv.inv3
  unfold semPick at hs
  split at hs
  · rename_i b _ _ e
    simp only [List.cons.injEq, and_true] at e
    obtain ⟨rfl, rfl, rfl⟩ := e
    simp only [Option.some.injEq, Prod.mk.injEq] at hs
    obtain ⟨rfl, rfl⟩ := hs
    have := h1.at_
    cases b
    · exact StepOK.pure hm (u := a.eval y) (by simp [execOp, ho, this, asBool]) h3
    · exact StepOK.pure hm (u := a.eval x) (by simp [execOp, ho, this, asBool]) h2
  · cases hs
theorem ok_alloc (hm : Mem m hd w S X B) {t : TypeId} {z : List V} (ho : o.op = .alloc t) (hz : zcs P t = some z) : StepOK P X B o a m hd w S (.bp d (nv m d) 0) [(d, .box (nv m d) z)] := by
  obtain ⟨i, u, h1, h2, h3, h4⟩ := zcs_ok hz
  have hr : (execOp a.eval o).run P w = .ok (.value (.pointer (some ⟨w.heap.size, 0, none⟩))) (w.alloc (.cells u.cells.toList.toArray t)) := by
    simp [execOp, ho, Instr.alloc, zeroValue, typeInfo, h1, h2, newVar, newRow]
  exact StepOK.newBox hm hr (zOks_ok h3).1 (zOks_ok (m := m) (hd := hd) (w := w) (S := S) h3).2
theorem ok_box (hm : Mem m hd w S X B) {t : TypeId} {x : Operand} (ho : o.op = .box t x) (hv : VRs m hd w S vs [a.eval x]) (hs : semBox d m vs = some (v, us)) : StepOK P X B o a m hd w S v us := by
  obtain ⟨y, rfl, h⟩ := hv.inv1
  simp only [semBox] at hs
  split at hs
  · rename_i hg
    simp only [Option.some.injEq, Prod.mk.injEq] at hs
    obtain ⟨rfl, rfl⟩ := hs
    have hr : (execOp a.eval o).run P w = .ok (.value (.pointer (some ⟨w.heap.size, 0, none⟩))) (w.alloc (.cells (a.eval x).cells.toList.toArray t)) := by
      simp [execOp, ho, Instr.box, newVar, newRow]
    exact StepOK.newBox hm hr (h.good hg).1 (h.good hg).2
  · cases hs

/-! ### Composite literals -/
theorem zipset (c : List Value) : ∀ (k : Nat) (xs : List Value) (off : Nat), (((c.zipIdx k).foldl (fun (cs : Array Value) (p : Value × Nat) => cs.setIfInBounds (off + p.2) p.1) xs.toArray)).toList = if off + k + c.length ≤ xs.length then xs.take (off + k) ++ (c ++ xs.drop (off + k + c.length)) else (((c.zipIdx k).foldl (fun (cs : Array Value) (p : Value × Nat) => cs.setIfInBounds (off + p.2) p.1) xs.toArray)).toList := by
  induction c with
  | nil => intro k xs off; split <;> simp
  | cons y c ih =>
    intro k xs off
    split
    · rename_i hle
      simp only [List.length_cons] at hle
      simp only [List.zipIdx_cons, List.foldl_cons, List.setIfInBounds_toArray]
      have := ih (k + 1) (xs.set (off + k) y) off
      rw [if_pos (by simp; omega)] at this
      rw [this]
      have hlt : off + k < xs.length := by omega
      rw [show off + (k + 1) = off + k + 1 by omega, List.take_succ_eq_append_getElem (by simpa using hlt), List.getElem_set_self, List.take_set_of_le (Nat.le_refl _), List.drop_set_of_lt (by omega)]
      simp [Nat.add_assoc, Nat.add_comm 1]
    · rfl
theorem fold_splice {c xs : List Value} {off : Nat} (h : off + c.length ≤ xs.length) : ((c.toArray.zipIdx.foldl (fun (cs : Array Value) (p : Value × Nat) => cs.setIfInBounds (off + p.2) p.1) xs.toArray)).toList = splice xs off c := by
  have := zipset c 0 xs off
  rw [if_pos (by omega)] at this
  unfold splice
  simpa [← Array.foldl_toList] using this
theorem VRs.splice {l c : List V} {xs ys : List Value} {off : Nat} (h : VRs m hd w S l xs) (k : VRs m hd w S c ys) : VRs m hd w S (splice l off c) (splice xs off ys) := by
  unfold Sim.splice
  rw [k.len]
  exact (h.take _).append (k.append (h.drop _))
theorem mem_splice {α : Type} {l c : List α} {off : Nat} {p : α → Prop} (h : ∀ y ∈ l, p y) (k : ∀ y ∈ c, p y) : ∀ y ∈ splice l off c, p y := by
  intro y hy
  unfold splice at hy
  rcases List.mem_append.1 hy with hy | hy
  · exact h y (List.mem_of_mem_take hy)
  · rcases List.mem_append.1 hy with hy | hy
    · exact k y hy
    · exact h y (List.mem_of_mem_drop hy)
/-- Parts are laid over zeros. -/
theorem fill_ok (f : Nat → Option (Nat × Nat)) : ∀ {ps : List (Nat × Value)} {fs : List (Nat × Nat)} {vs z : List V} {zs : List Value},
    VRs m hd w S z zs → (∀ y ∈ zs, y.oneCell' = true) → VRs m hd w S vs (ps.map (·.2)) → fitB z.length fs vs = true → fs.map some = ps.map (fun p => f p.1) →
    ∃ zs', Instr.fill f zs.toArray ps = some zs' ∧ VRs m hd w S (fillV z fs vs) zs'.toList ∧ ∀ y ∈ zs'.toList, y.oneCell' = true
  | [], fs, vs, z, zs, hz, h1, hv, hg, hl => by
    have : fs = [] := List.eq_nil_of_length_eq_zero (by have := congrArg List.length hl; simpa using this)
    subst this
    exact ⟨zs.toArray, rfl, by simpa [fillV] using hz, by simpa using h1⟩
  | (j, u) :: ps, fs, vs, z, zs, hz, h1, hv, hg, hl => by
    obtain ⟨x, vs', rfl, h2, h3⟩ := VRs.invc hv
    cases fs with
    | nil => simp at hl
    | cons q fs =>
      obtain ⟨off, size⟩ := q
      simp only [List.map_cons, List.cons.injEq] at hl
      simp only [fitB, Bool.and_eq_true, beq_iff_eq, decide_eq_true_eq] at hg
      obtain ⟨⟨⟨g1, g2⟩, g3⟩, g4⟩ := hg
      have hgood := h2.good g1
      have hzl := hz.len
      have hul : u.cells.size = size := by have := hgood.1.len; simp at this; omega
      have hfold := fold_splice (c := u.cells.toList) (xs := zs) (off := off) (by simp; omega)
      have e : (u.cells.zipIdx.foldl (fun (cs : Array Value) (p : Value × Nat) => cs.setIfInBounds (off + p.2) p.1) zs.toArray) = (splice zs off u.cells.toList).toArray := by
        apply Array.ext'
        simpa using hfold
      obtain ⟨zs', r1, r2, r3⟩ := fill_ok f (ps := ps) (fs := fs) (vs := vs') (hz.splice (off := off) hgood.1) (mem_splice h1 hgood.2) h3 (by rw [length_splice (by omega)]; exact g4) hl.2
      refine ⟨zs', ?_, by simpa only [fillV] using r2, r3⟩
      simp only [Instr.fill, ← hl.1]
      rw [if_neg (by simp; omega), e]
      exact r1
theorem offs_ok {f : Nat → Option (Nat × Nat)} : ∀ {ps : List (Nat × Operand)} {os : List (Nat × Nat)}, offs f ps = some os → os.map some = ps.map (fun p => f p.1)
  | [], os, h => by simp only [offs, Option.some.injEq] at h; subst h; rfl
  | (i, x) :: ps, os, h => by
    unfold offs at h
    split at h
    · rename_i o os' h1 h2
      cases h
      simp only [List.map_cons, h1, offs_ok h2]
    · cases h
theorem ok_build (hm : Mem m hd w S X B) {t : TypeId} {ps : Array (Nat × Operand)} {z : List V} {f : Nat → Option (Nat × Nat)} {os : List (Nat × Nat)} (ho : o.op = .build t ps) (hf : placeF P t = some f) (hz : zcs P t = some z) (hos : offs f ps.toList = some os)
    (hv : VRs m hd w S vs ((ps.toList.map (·.2)).map a.eval)) (hs : semBuild z os vs = some (v, us)) : StepOK P X B o a m hd w S v us := by
  unfold semBuild at hs
  split at hs
  · rename_i hfit
    simp only [Option.some.injEq, Prod.mk.injEq] at hs
    obtain ⟨rfl, rfl⟩ := hs
    obtain ⟨i, u, h1, h2, h3, h4⟩ := zcs_ok hz
    have hzk := zOks_ok (m := m) (hd := hd) (w := w) (S := S) h3
    obtain ⟨zs', r1, r2, r3⟩ := fill_ok f (ps := ps.toList.map fun (i, x) => (i, a.eval x)) hzk.1 hzk.2 (by simpa [Function.comp_def] using hv) hfit (by rw [offs_ok hos]; simp [Function.comp_def])
    have hb : P.built t (ps.map fun (i, x) => (i, a.eval x)).toList = some zs' := by
      unfold Program.built
      unfold placeF at hf
      split at hf
      · rename_i it n e hi hu
        rw [h1] at hi
        cases hi
        simp only [h1, hu, h2]
        cases he : P.info? e with
        | none => simp [he] at hf
        | some ie =>
          simp only [he, Option.map_some, Option.some.injEq] at hf
          subst hf
          simpa using r1
      · rename_i it fields hi hu
        rw [h1] at hi
        cases hi
        simp only [h1, hu, h2]
        split at hf
        · rename_i places hp
          simp only [Option.some.injEq] at hf
          subst hf
          simp only [hp]
          simpa using r1
        · cases hf
      · cases hf
    refine StepOK.pure hm (u := .agg zs') ?_ ?_
    · simp only [execOp, ho, Sem.run_bind, run_build w t _ zs' hb, Result.andThen_ok]
      rfl
    · simp only [VR]
      exact ⟨zs'.toList, rfl, r2, r3⟩
  · cases hs
end
end Go.Proofs.Ytabfajhflaladaa.Sim
