/- Composite slices, parts of slices, copies: of no program. Conditions: none. -/
import Derived.Test.YthbhkkdaaipngaaGreatDoorMSimJ
namespace Go.Proofs.YthbhkkdaaipngaaGreatDoor.Sim
open Go Go.RowKit Go.Deep
set_option linter.unusedVariables false
set_option linter.unusedSimpArgs false

section
variable {P : Program} {X : Nat → Prop} {B : Nat} {o : Oper} {a : Act} {m m0 : M} {hd : H} {w : World} {S : Nat → Prop} {v : V} {us : U} {vs : List V} {d : Nat} {u1 u2 u3 : Value}

theorem splice_full {α : Type} {l c : List α} (h : c.length = l.length) : splice l 0 c = c := by
  unfold splice
  rw [List.take_zero, List.nil_append, List.drop_of_length_le (by omega), List.append_nil]
theorem fillD_ok {m1 : M} {S1 : Nat → Prop} (hS : ∀ b, S b → S1 b) (hm1 : Mem m1 hd w S1 X B) {k : Nat} : ∀ {ps : List (Nat × Value)} {vs : List V} {l l' : List (List D)} {zs : List Value},
    Rows w S1 k l zs → VRs m hd w S vs (ps.map (·.2)) → fillD m k l ((ps.map (·.1)).zip vs) = some l' → (∀ x ∈ vs, ∀ i v k mu l', .og i v ∈ x.cells → m i = some (.arr v k mu l') → m1 i = some (.arr v k false l')) →
    ∃ zs', Instr.fill (fun i => some (i * k, k)) zs.toArray ps = some zs' ∧ Rows w S1 k l' zs'.toList ∧ l'.length = l.length
  | [], vs, l, l', zs, hz, hv, hf, _ => by
    have := hv.inv0
    subst this
    simp only [List.map_nil, List.zip_nil_left, fillD, Option.some.injEq] at hf
    subst hf
    exact ⟨zs.toArray, rfl, by simpa using hz, rfl⟩
  | (j, u) :: ps, vs, l, l', zs, hz, hv, hf, hfr => by
    obtain ⟨x, vs', rfl, h2, h3⟩ := VRs.invc hv
    simp only [List.map_cons, List.zip_cons_cons] at hf
    unfold fillD at hf
    split at hf
    · rename_i c hc
      split at hf
      · rename_i hcond
        obtain ⟨g1, g2, g3⟩ := hcond
        have hgood := h2.good g1
        have hcells := dcells_ok hS hm1 hgood.1 hc (fun i v k mu l' hmem hi => hfr x (by simp) i v k mu l' hmem hi)
        have hcl := hcells.len
        have hzl := hz.len
        have hle : (j + 1) * k ≤ l.length * k := Nat.mul_le_mul_right _ g3
        rw [Nat.add_mul, Nat.one_mul] at hle
        have hul : u.cells.size = k := by simp at hcl; omega
        have hput := Rows.put hcells (o := 0) (by omega) hz g3
        rw [splice_full (by rw [(hz.get g3).1, g2]), Nat.add_zero] at hput
        have hfold := fold_splice (c := u.cells.toList) (xs := zs) (off := j * k) (by simp; omega)
        have e : (u.cells.zipIdx.foldl (fun (cs : Array Value) (p : Value × Nat) => cs.setIfInBounds (j * k + p.2) p.1) zs.toArray) = (splice zs (j * k) u.cells.toList).toArray := by
          apply Array.ext'
          simpa using hfold
        obtain ⟨zs', r1, r2, r3⟩ := fillD_ok hS hm1 hput h3 hf (fun x hx => hfr x (by simp [hx]))
        refine ⟨zs', ?_, r2, by rw [r3, List.length_set]⟩
        simp only [Instr.fill]
        rw [if_neg (by simp; omega), e]
        exact r1
      · cases hf
    · cases hf
theorem ok_bsl (hm : Mem m hd w S X B) {t e : TypeId} {n k by_ : Nat} {ps : Array (Nat × Operand)} {z : List V} (ho : o.op = .buildSlice t n ps) (he : elemOf' P t = some (e, k, by_)) (hz : zcs P e = some z) (hk0 : 0 < k) (hnk : n * k ≤ 1000) (hz0 : z ≠ [])
    (hv : VRs m hd w S vs ((ps.toList.map (·.2)).map a.eval)) (hs : semBsl k z n (ps.toList.map (·.1)) d m vs = some (v, us)) : StepOK P X B o a m hd w S v us := by
  obtain ⟨inf, hu, hi, hsz, hby⟩ := elem_ok he
  obtain ⟨inf', zu, hi', hzero, hzok, hzl⟩ := zcs_ok hz
  rw [hi] at hi'
  cases hi'
  obtain ⟨y0, r0, rfl⟩ : ∃ y0 r0, z = y0 :: r0 := by cases z with | nil => exact absurd rfl hz0 | cons y0 r0 => exact ⟨y0, r0, rfl⟩
  simp only [semBsl] at hs
  split at hs
  · rename_i l hl
    cases hs
    obtain ⟨S1, o1⟩ := out_frzs hm (vs.flatMap V.cells)
    have hSS : ∀ b, S b → S1 b := fun b hb => (o1.keep b hb (hm.lt b hb)).1
    have hzd := zD_ok (w := w) (S := S1) hzok
    have hzdl : (zD (y0 :: r0)).length = k := by rw [← hsz, ← hzl]; simp [zD]
    have hcells : zu.cells.toList.length = k := by have := hzd.len; omega
    obtain ⟨zs', r1, r2, r3⟩ := fillD_ok hSS o1.mem (ps := ps.toList.map fun (i, x) => (i, a.eval x)) (rows_rep hzd hzdl n) (by simpa [Function.comp_def] using hv) (by simpa [Function.comp_def] using hl)
      (fun x hx i v k mu l' hmem hi => ups_frz_get hi _ _ (List.mem_flatMap.2 ⟨x, hx, hmem⟩))
    have hll : l.length = n := by rw [r3]; simp
    have hnn : n ≤ n * k := Nat.le_mul_of_pos_right _ hk0
    have hml := made_list zu.cells.toList (by omega) n
    rw [Array.toArray_toList, hcells] at hml
    have hmade : ((Array.range (n * k)).map fun j => (if n * k = 0 then (#[] : Array Value) else zu.cells)[j % (if n * k = 0 then (#[] : Array Value) else zu.cells).size]!) = ((List.replicate n zu.cells.toList).flatten).toArray := by
      rw [← hml]
      apply Array.ext'
      split
      · rename_i h0
        rw [h0]
        simp [madeCells]
      · rfl
    have hfill : Instr.fill (fun i => some (i * k, k)) ((List.replicate n zu.cells.toList).flatten).toArray (ps.map fun (i, x) => (i, a.eval x)).toList = some zs' := by simpa using r1
    have hrun : (execOp a.eval o).run P w = .ok (.value (.slice (some ⟨w.heap.size, 0, none⟩) n n)) (w.alloc (.cells zs'.toList.toArray e)) := by
      rw [Array.toArray_toList]
      have hbig : ¬ (n * k > 2 ^ 24) := by omega
      simp only [execOp, ho, Instr.buildSlice, Sem.run_bind, run_underlying hu, Result.andThen_ok, sizeOf, typeInfo, run_program, hi, Sem.run_pure, hsz, hbig, if_false]
      by_cases h0 : n * k = 0
      · simp only [h0, if_true, Sem.run_bind, Sem.run_pure, Result.andThen_ok] at hmade ⊢
        rw [hmade, hfill]
        simp [newRow]
      · simp only [h0, if_false, zeroValue, typeInfo, Sem.run_bind, run_program, hi, hzero, Sem.run_pure, Result.andThen_ok] at hmade ⊢
        rw [hmade, hfill]
        simp [newRow]
    have hzl' := r2.len
    exact StepOK.newArr o1 rfl (frz_ver m _ d) hrun hll.symm (by unfold maxLen; omega) r2 (by rw [hzl', hll])
  · cases hs

theorem fill1 : ∀ (us : List Value) (j : Nat) (zs : List Value), zs.length = j + us.length → (∀ u ∈ us, u.cells = #[u]) → Instr.fill (fun i => some (i * 1, 1)) zs.toArray ((List.range' j us.length).zip us) = some (zs.take j ++ us).toArray
  | [], j, zs, h, _ => by simp [Instr.fill, List.take_of_length_le (show zs.length ≤ j by simp at h; omega)]
  | u :: us, j, zs, h, h1 => by
    have hu := h1 u (by simp)
    simp only [List.length_cons, List.range'_succ, List.zip_cons_cons, Instr.fill, hu]
    rw [if_neg (by simp only [List.length_cons] at h; simp; omega)]
    have e : ((#[u] : Array Value).zipIdx.foldl (fun (cs : Array Value) (p : Value × Nat) => cs.setIfInBounds (j * 1 + p.2) p.1) zs.toArray) = (zs.set j u).toArray := by simp
    rw [e, fill1 us (j + 1) (zs.set j u) (by rw [List.length_set, h, List.length_cons]; omega) (fun x hx => h1 x (by simp [hx]))]
    congr 2
    rw [List.take_succ_eq_append_getElem (by rw [List.length_set, h, List.length_cons]; omega), List.take_set_of_le (Nat.le_refl _)]
    simp
theorem lone_one : ∀ {vs : List V} {us : List Value}, VRs m hd w S vs us → vs.all V.lone = true → ∀ u ∈ us, u.oneCell' = true ∧ u.cells = #[u]
  | [], us, h, _, u, hu => by simp only [VRs] at h; subst h; cases hu
  | x :: r, us, h, hl, u, hu => by
    simp only [VRs] at h
    obtain ⟨u0, r0, rfl, h1, h2⟩ := h
    simp only [List.all_cons, Bool.and_eq_true] at hl
    rcases List.mem_cons.1 hu with rfl | hu
    · have h3 : u.oneCell' = true := by
        cases x <;> simp only [V.lone, Bool.false_eq_true] at hl <;> try (exact absurd hl.1 id)
        · simp only [VR] at h1; exact D.one h1
        · simp only [VR] at h1; subst h1; rfl
        · simp only [VR] at h1; exact h1.1
      exact ⟨h3, by cases u <;> simp_all [Value.oneCell', Value.cells]⟩
    · exact lone_one h2 hl.2 u hu
theorem run_blt {t e : TypeId} {n by_ q : Nat} {ps : Array (Nat × Operand)} (ho : o.op = .buildSlice t n ps) (he : elemOf' P t = some (e, 1, by_)) (hz : zcs P e = some [.nl q]) (hnk : n * 1 ≤ 1000) (hps : ps.toList.map (·.1) = List.range n)
    (hv : VRs m hd w S vs ((ps.toList.map (·.2)).map a.eval)) (hc : vs.all V.lone = true ∧ vs.length = n) : (∀ u ∈ (ps.toList.map (·.2)).map a.eval, u.oneCell' = true) ∧ (execOp a.eval o).run P w = .ok (.value (.slice (some ⟨w.heap.size, 0, none⟩) n n)) (w.alloc (.cells ((ps.toList.map (·.2)).map a.eval).toArray e)) := by
  obtain ⟨inf, hu, hi, hsz, hby⟩ := elem_ok he
  obtain ⟨inf', zu, hi', hzero, hzok, hzl⟩ := zcs_ok hz
  rw [hi] at hi'
  cases hi'
  have hone := lone_one hv hc.1
  have hcl : zu.cells.toList = [.slice none 0 0] := zOks_nl hzok
  have hzu : zu.cells = #[.slice none 0 0] := by apply Array.ext'; simpa using hcl
  have hul : ((ps.toList.map (·.2)).map a.eval).length = n := by have g1 := hv.len; have g2 := hc.2; omega
  have hfill := fill1 ((ps.toList.map (·.2)).map a.eval) 0 (List.replicate n (.slice none 0 0)) (by simp [hul]; simpa using hul.symm) (fun u hu => (hone u hu).2)
  have hzip : (ps.map fun (i, x) => (i, a.eval x)).toList = (List.range' 0 ((ps.toList.map (·.2)).map a.eval).length).zip ((ps.toList.map (·.2)).map a.eval) := by
    have key : ∀ l : List (Nat × Operand), (l.map fun (i, x) => (i, a.eval x)) = (l.map (·.1)).zip ((l.map (·.2)).map a.eval) := fun l => by
      induction l with
      | nil => rfl
      | cons p l ih => simp only [List.map_cons, List.zip_cons_cons, ih]
    rw [hul, ← List.range_eq_range', ← hps, Array.toList_map]
    exact key _
  rw [← hzip] at hfill
  have hmade : ((Array.range n).map fun j => (if n = 0 then (#[] : Array Value) else zu.cells)[j % (if n = 0 then (#[] : Array Value) else zu.cells).size]!) = (List.replicate n (.slice none 0 0)).toArray := by
    rw [hzu]
    apply Array.ext'
    by_cases h0 : n = 0
    · subst h0; simp
    · simp only [h0, if_false, Array.toList_map, Array.toList_range, List.toList_toArray]
      rw [List.eq_replicate_iff]
      refine ⟨by simp, fun b hb => ?_⟩
      obtain ⟨j, _, rfl⟩ := List.mem_map.1 hb
      simp [Nat.mod_one]
  have hrun : (execOp a.eval o).run P w = .ok (.value (.slice (some ⟨w.heap.size, 0, none⟩) n n)) (w.alloc (.cells ((ps.toList.map (·.2)).map a.eval).toArray e)) := by
    have hbig : ¬ (n * 1 > 2 ^ 24) := by omega
    simp only [execOp, ho, Instr.buildSlice, Sem.run_bind, run_underlying hu, Result.andThen_ok, sizeOf, typeInfo, run_program, hi, Sem.run_pure, hsz, hbig, if_false]
    by_cases h0 : n = 0
    · simp only [h0, Nat.zero_mul, if_true, Sem.run_bind, Sem.run_pure, Result.andThen_ok] at hmade hfill ⊢
      rw [hmade, hfill]
      simp [newRow]
    · have h1 : ¬ (n * 1 = 0) := by omega
      simp only [h0, h1, if_false, Nat.mul_one, zeroValue, typeInfo, Sem.run_bind, run_program, hi, hzero, Sem.run_pure, Result.andThen_ok] at hmade hfill ⊢
      rw [hmade, hfill]
      simp [newRow]
  exact ⟨fun u hu => (hone u hu).1, hrun⟩
theorem ok_blt (hm : Mem m hd w S X B) {t e : TypeId} {n by_ q : Nat} {ps : Array (Nat × Operand)} (ho : o.op = .buildSlice t n ps) (he : elemOf' P t = some (e, 1, by_)) (hz : zcs P e = some [.nl q]) (hnk : n * 1 ≤ 1000) (hps : ps.toList.map (·.1) = List.range n)
    (hv : VRs m hd w S vs ((ps.toList.map (·.2)).map a.eval)) (hs : semBsl 1 [] n (List.range n) d m vs = some (v, us)) : StepOK P X B o a m hd w S v us := by
  simp only [semBsl] at hs
  split at hs
  · rename_i hc
    cases hs
    obtain ⟨hone, hrun⟩ := run_blt (P := P) (w := w) ho he hz hnk hps hv hc
    exact StepOK.newBoxS hm (o := o) (a := a) (P := P) (d := d) (n := n) (xs := (ps.toList.map (·.2)).map a.eval) (t := e) hrun hv hone
  · cases hs

/-! ### Parts of slices -/
theorem cut_ok {ad : Option Addr} {k n cap lo h mx : Nat} {l : List (List D)} (hd' : (D.sl k l).is w S (.slice ad n cap)) (h1 : lo ≤ h) (h2 : h ≤ l.length) (h3 : h ≤ mx) (h4 : mx ≤ cap) :
    (D.sl k ((l.take h).drop lo)).is w S (.slice (if mx = lo then ad else ad.map (·.add (lo * k))) (h - lo) (mx - lo)) := by
  simp only [D.is] at hd' ⊢
  obtain ⟨a', cap', xs, e, g1, g2, g3, g4⟩ := hd'
  cases e
  have hl : ((l.take h).drop lo).length = h - lo := by rw [List.length_drop, List.length_take]; omega
  refine ⟨_, mx - lo, _, by rw [hl], by omega, by omega, Rows.drop lo (Rows.take h g3), fun h0 => ?_⟩
  obtain ⟨g, off, rfl, hS, hr⟩ := g4 (by omega)
  refine ⟨g, off + lo * k, ?_, hS, fun j u hu => ?_⟩
  · rw [if_neg (by omega)]
    simp [Addr.add_mid]
  · rw [List.getElem?_drop, List.getElem?_take] at hu
    split at hu
    · have := hr _ u hu
      rwa [← Nat.add_assoc] at this
    · cases hu
/-- Of which form the bounds are. -/
theorem bnd_ok {x : V} {u : Value} {n : Int} (h : VR m hd w S x u) (hb : bnd x = some n) : ∃ kk, u = .int kk n := by
  unfold bnd at hb
  split at hb
  · rename_i kk n'
    cases hb
    exact ⟨kk, h.at_⟩
  · cases hb
/-- The values of the bounds. -/
inductive BV : Option Value → Option Int → Prop
  | none : BV none none
  | some (k : IntKind) (n : Int) : BV (some (.int k n)) (some n)
theorem bnds_ok {lo hi mx : Option Operand} {r : List V} {b : Option Int × Option Int × Option Int} (hv : VRs m hd w S r ((op3 [lo, hi, mx]).map a.eval)) (hb : bnds lo.isSome hi.isSome mx.isSome r = some b) :
    BV (lo.map a.eval) b.1 ∧ BV (hi.map a.eval) b.2.1 ∧ BV (mx.map a.eval) b.2.2 := by
  cases lo <;> cases hi <;> cases mx <;> simp only [op3, List.map_cons, List.map_nil, Option.isSome, bnds] at hv hb <;> try (cases hb; done)
  · obtain ⟨x, rfl, h1⟩ := hv.inv1
    simp only [Option.map_eq_some_iff] at hb
    obtain ⟨n, h2, rfl⟩ := hb
    obtain ⟨k, e⟩ := bnd_ok h1 h2
    simp only [Option.map, e]
    exact ⟨.none, .some _ _, .none⟩
  · obtain ⟨x, y, rfl, h1, h2⟩ := hv.inv2
    simp only at hb
    split at hb
    · rename_i n c h3 h4
      cases hb
      obtain ⟨k, e⟩ := bnd_ok h1 h3
      obtain ⟨k', e'⟩ := bnd_ok h2 h4
      simp only [Option.map, e, e']
      exact ⟨.none, .some _ _, .some _ _⟩
    · cases hb
  · obtain ⟨x, rfl, h1⟩ := hv.inv1
    simp only [Option.map_eq_some_iff] at hb
    obtain ⟨n, h2, rfl⟩ := hb
    obtain ⟨k, e⟩ := bnd_ok h1 h2
    simp only [Option.map, e]
    exact ⟨.some _ _, .none, .none⟩
  · obtain ⟨x, y, rfl, h1, h2⟩ := hv.inv2
    simp only at hb
    split at hb
    · rename_i n c h3 h4
      cases hb
      obtain ⟨k, e⟩ := bnd_ok h1 h3
      obtain ⟨k', e'⟩ := bnd_ok h2 h4
      simp only [Option.map, e, e']
      exact ⟨.some _ _, .some _ _, .none⟩
    · cases hb
  · obtain ⟨x, y, z, rfl, h1, h2, h3⟩ := hv.inv3
    simp only at hb
    split at hb
    · rename_i n c q h4 h5 h6
      cases hb
      obtain ⟨k, e⟩ := bnd_ok h1 h4
      obtain ⟨k', e'⟩ := bnd_ok h2 h5
      obtain ⟨k'', e''⟩ := bnd_ok h3 h6
      simp only [Option.map, e, e', e'']
      exact ⟨.some _ _, .some _ _, .some _ _⟩
    · cases hb
theorem sb_ok {k : IntKind} {i : Int} {y : Nat} {c : BoundsCode} (h : 0 ≤ i ∧ i ≤ y) : (Instr.sliceBound (.int k i) y c).run P w = .ok i.toNat w := by
  simp [Instr.sliceBound, asIntOf, h]
/-- What the bounds come to. -/
theorem bounds_run {lo hi mx : Option Value} {b : Option Int × Option Int × Option Int} {len cap : Nat} (is : Bool) (h1 : BV lo b.1) (h2 : BV hi b.2.1) (h3 : BV mx b.2.2) (hok : okB b len) (hc : len ≤ cap) :
    ∃ m', (Instr.sliceBounds is len cap lo hi mx).run P w = .ok (bl b, bh b len, m') w ∧ bl b ≤ bh b len ∧ bh b len ≤ len ∧ bh b len ≤ m' ∧ m' ≤ cap ∧ (isZ b = true → bl b = 0 ∧ bh b len = 0 ∧ m' = 0) ∧ (mx = none → m' = cap) ∧ (lo = none → bl b = 0) := by
  obtain ⟨x, y, z⟩ := b
  simp only at h1 h2 h3
  cases h1 <;> cases h2 <;> cases h3 <;> simp only [okB] at hok
  · rename_i k y
    refine ⟨cap, ?_, ?_⟩
    · have e : (0 : Int) ≤ y ∧ y ≤ cap := by omega
      simp [Instr.sliceBounds, sb_ok e, bl, bh]
    · simp [bl, bh, isZ]; omega
  · rename_i k y k' z
    refine ⟨z.toNat, ?_, ?_⟩
    · have e : (0 : Int) ≤ z ∧ z ≤ cap := by omega
      have e2 : (0 : Int) ≤ y ∧ y ≤ z.toNat := by omega
      simp [Instr.sliceBounds, sb_ok e, sb_ok e2, bl, bh]
    · simp [bl, bh, isZ]; omega
  · rename_i k x
    refine ⟨cap, ?_, ?_⟩
    · have e : (0 : Int) ≤ x ∧ x ≤ len := by omega
      simp [Instr.sliceBounds, sb_ok e, bl, bh]
    · simp [bl, bh, isZ]; omega
  · rename_i k x k' y
    refine ⟨cap, ?_, ?_⟩
    · have e : (0 : Int) ≤ y ∧ y ≤ cap := by omega
      have e2 : (0 : Int) ≤ x ∧ x ≤ y.toNat := by omega
      simp [Instr.sliceBounds, sb_ok e, sb_ok e2, bl, bh]
    · simp [bl, bh, isZ]; omega
  · rename_i k x k' y k'' z
    refine ⟨z.toNat, ?_, ?_⟩
    · have e : (0 : Int) ≤ z ∧ z ≤ cap := by omega
      have e2 : (0 : Int) ≤ y ∧ y ≤ z.toNat := by omega
      have e3 : (0 : Int) ≤ x ∧ x ≤ y.toNat := by omega
      simp [Instr.sliceBounds, sb_ok e, sb_ok e2, sb_ok e3, bl, bh]
    · simp [bl, bh, isZ]; omega
theorem cut_run {k k' : IntKind} {y z : Int} {len cap : Nat} (h0 : 0 ≤ y) (h1 : y = z) (h2 : y ≤ (len : Int)) (hc : len ≤ cap) : (Instr.sliceBounds true len cap none (some (.int k y)) (some (.int k' z))).run P w = .ok (0, y.toNat, y.toNat) w := by
  subst h1
  have e : (0 : Int) ≤ y ∧ y ≤ cap := by omega
  have e2 : (0 : Int) ≤ y ∧ y ≤ y.toNat := by omega
  simp [Instr.sliceBounds, sb_ok e, sb_ok e2]
end
end Go.Proofs.YthbhkkdaaipngaaGreatDoor.Sim
