/- The last operations: of no program. Conditions: none. -/
import Derived.Test.YthbhkkdaaipngaaGreatDoorMSimI
namespace Go.Proofs.YthbhkkdaaipngaaGreatDoor.Sim
open Go Go.RowKit Go.Deep
set_option linter.unusedVariables false

section
variable {P : Program} {X : Nat → Prop} {B : Nat} {o : Oper} {a : Act} {m m0 : M} {hd : H} {w : World} {S : Nat → Prop} {v : V} {us : U} {vs : List V} {d : Nat} {u1 u2 u3 : Value}

theorem ok_fad (hm : Mem m hd w S X B) {t : TypeId} {fs : Array Field} {j : Nat} {f : Field} {inf : TypeInfo} {x : Operand} (ho : o.op = .fieldAddr t x j) (hu : P.underlying t = some (.struct fs)) (hf : fs[j]? = some f) (hi : P.info? f.type = some inf) (h0 : 0 < inf.size)
    (hv : VRs m hd w S vs [a.eval x]) (hs : semFad f.offset m vs = some (v, us)) : StepOK P X B o a m hd w S v us := by
  obtain ⟨y, rfl, h⟩ := hv.inv1
  have key : ∀ g q, a.eval x = .pointer (some ⟨g, q, none⟩) → (execOp a.eval o).run P w = .ok (.value (.pointer (some ⟨g, q + f.offset, none⟩))) w := by
    intro g q e
    have hsz : ¬ inf.size = 0 := by omega
    simp [execOp, ho, e, Instr.fieldAt, run_underlying hu, hf, Instr.sureAddr, fieldPlace, sizeOf, typeInfo, hi, hsz, Addr.add_mid]
  unfold semFad at hs
  split at hs
  · rename_i i ver q e
    cases e
    split at hs
    · rename_i hc
      cases hs
      obtain ⟨b, e1, e⟩ := curB_ok h hc
      obtain ⟨cs, hcs⟩ := curB_get hc
      exact StepOK.pure hm (key _ _ e) (bp_mk hcs e1)
    · cases hs
  · rename_i i ver e' q e
    cases e
    split at hs
    · rename_i hc
      cases hs
      obtain ⟨k, mu, l, g, off, n, cap, e1, e2, e⟩ := curA_ep h hc
      have := ep_mk (w := w) (S := S) (e := e') (q := q + f.offset) e1 e2
      rw [← Nat.add_assoc] at this
      exact StepOK.pure hm (key _ _ e) this
    · cases hs
  · rename_i cs q e
    cases e
    cases hs
    simp only [VR] at h
    obtain ⟨g, off, xs, e, h1, h2, h3⟩ := h
    refine StepOK.pure hm (key _ _ e) ?_
    simp only [VR]
    exact ⟨g, off, xs, by rw [Nat.add_assoc], h1, h2, h3⟩
  · cases hs
theorem run_part_range {t : TypeId} {n : Nat} {g : Bool} (h : form P t = some (n, g)) {cs : List Value} {off : Nat} (hle : off + n ≤ cs.length) :
    (part t cs.toArray off).run P w = .ok (if g then .agg ((cs.drop off).take n).toArray else ((cs.drop off).take n).headD undef) w := by
  obtain ⟨i, dd, h1, h2, h3, h4, h5⟩ := form_ok h
  cases g with
  | true =>
    have hagg : (isAgg t).run P w = .ok true w := by
      unfold isAgg
      rw [Sem.run_bind, run_underlying h2 w]
      cases dd <;> simp_all
    simp [part, hagg, sizeOf, typeInfo, h1, h3]
  | false =>
    have hl := h5 rfl
    have hagg : (isAgg t).run P w = .ok false w := by
      unfold isAgg
      rw [Sem.run_bind, run_underlying h2 w]
      cases dd <;> simp_all
    have hlt : off < cs.length := by omega
    have e : ((cs.drop off).take n).headD undef = cs[off] := by
      rw [hl, List.drop_eq_getElem_cons hlt]
      rfl
    have e2 : (part t cs.toArray off).run P w = .ok cs[off] w := by simp [part, hagg, hlt]
    rw [e2, e]
    rfl
theorem ok_fld (hm : Mem m hd w S X B) {t : TypeId} {fs : Array Field} {j n : Nat} {g : Bool} {f : Field} {x : Operand} (ho : o.op = .field t x j) (hu : P.underlying t = some (.struct fs)) (hf : fs[j]? = some f) (hi : form P f.type = some (n, g))
    (hv : VRs m hd w S vs [a.eval x]) (hs : semFld f.offset n g vs = some (v, us)) : StepOK P X B o a m hd w S v us := by
  obtain ⟨y, rfl, h⟩ := hv.inv1
  unfold semFld at hs
  split at hs
  · rename_i l e
    cases e
    split at hs
    · rename_i hle
      cases hs
      simp only [VR] at h
      obtain ⟨xs, e, h1, h2⟩ := h
      have hl := h1.len
      refine StepOK.pure hm ?_ (VRs.mk ((h1.drop f.offset).take n) (n := n) (by simp; omega) (fun y hy => h2 y (List.mem_of_mem_drop (List.mem_of_mem_take hy))) (form_ok hi).choose_spec.choose_spec.2.2.2.2)
      simp [execOp, ho, e, Instr.field, run_underlying hu, hf, asAgg, run_part_range hi (cs := xs) (off := f.offset) (by omega)]
    · cases hs
  · cases hs
theorem ok_ixa (hm : Mem m hd w S X B) {t e : TypeId} {c k : Nat} {g : Bool} {x y : Operand} (ho : o.op = .index t x y) (hu : P.underlying t = some (.array c e)) (hi : form P e = some (k, g))
    (hv : VRs m hd w S vs [a.eval x, a.eval y]) (hs : semIxa c k g vs = some (v, us)) (hp : preIxa c vs) : StepOK P X B o a m hd w S v us := by
  obtain ⟨p, q, rfl, h, h'⟩ := hv.inv2
  unfold semIxa at hs
  split at hs
  · rename_i l kk n hh
    cases hh
    split at hs
    · rename_i hle
      cases hs
      simp only [preIxa] at hp
      have e2 := h'.at_
      simp only [VR] at h
      obtain ⟨xs, e1, h1, h2⟩ := h
      have hl := h1.len
      obtain ⟨i, dd, g1, g2, g3, g4, g5⟩ := form_ok hi
      have hmul : (n.toNat + 1) * k ≤ c * k := Nat.mul_le_mul_right _ hp.2
      rw [Nat.add_mul, Nat.one_mul] at hmul
      refine StepOK.pure hm ?_ (VRs.mk ((h1.drop (n.toNat * k)).take k) (n := k) (by simp; omega) (fun y hy => h2 y (List.mem_of_mem_drop (List.mem_of_mem_take hy))) g5)
      have hb : 0 ≤ n ∧ n < c := by omega
      simp [execOp, ho, e1, e2, Instr.index, asIntOf, run_underlying hu, hb, sizeOf, typeInfo, g1, g3, run_part_range hi (cs := xs) (off := n.toNat * k) (by omega)]
    · cases hs
  · cases hs
theorem ok_iad (hm : Mem m hd w S X B) {t e : TypeId} {inf : TypeInfo} {x y : Operand} (ho : o.op = .indexAddr t x y) (hu : P.underlying t = some (.slice e)) (hi : P.info? e = some inf)
    (hv : VRs m hd w S vs [a.eval x, a.eval y]) (hs : semIad inf.size m vs = some (v, us)) (hp : preIad inf.size m vs) : StepOK P X B o a m hd w S v us := by
  obtain ⟨p, q, rfl, h, h'⟩ := hv.inv2
  have key : ∀ g off len cap kk (n : Int), a.eval x = .slice (some ⟨g, off, none⟩) len cap → a.eval y = .int kk n → 0 ≤ n → n.toNat < len → (execOp a.eval o).run P w = .ok (.value (.pointer (some ⟨g, off + n.toNat * inf.size, none⟩))) w := by
    intro g off len cap kk n e1 e2 h0 hlt
    have hb : 0 ≤ n ∧ n < len := by omega
    simp [execOp, ho, e1, e2, Instr.indexAt, asIntOf, run_underlying hu, hb, sizeOf, typeInfo, hi, Addr.add_mid]
  unfold semIad at hs
  split at hs
  · rename_i k l kk n hh
    cases hh
    split at hs
    · rename_i hk
      subst hk
      cases hs
      simp only [preIad] at hp
      have e2 := h'.at_
      simp only [VR, D.is] at h
      obtain ⟨ad, cap, xs, e1, hle, hcap, hrow, hr⟩ := h
      obtain ⟨g, off, rfl, hS, hra⟩ := hr (by omega)
      obtain ⟨hl, cs, hcs, hsub⟩ := hrow.get hp.2
      refine StepOK.pure hm (key _ _ _ _ _ _ e1 e2 hp.1 hp.2) ?_
      simp only [VR]
      exact ⟨g, off + n.toNat * inf.size, cs, by simp, hS, fun j u hu => by have := hra _ u (hsub j u hu); rwa [← Nat.add_assoc] at this, hcs⟩
    · cases hs
  · rename_i i ver kk n hh
    cases hh
    cases hs
    simp only [preIad] at hp
    split at hp
    · rename_i v' k mu l hmi
      obtain ⟨rfl, rfl, h0, hlt⟩ := hp
      have e2 := h'.at_
      have e1 := og_ok h hmi
      obtain ⟨ad, cap, hh, hle, hcap, had, _⟩ := arr_head hm hmi
      obtain ⟨g, off, rfl⟩ := had (by omega)
      refine StepOK.pure hm (key _ _ _ _ _ _ (e1.trans hh) e2 h0 hlt) ?_
      have := ep_mk (w := w) (S := S) (e := n.toNat) (q := 0) hmi hh
      simpa using this
    · exact hp.elim
  · rename_i i ver e' o' kk n hh
    cases hh
    split at hs
    · rename_i hc
      obtain ⟨hc, hk⟩ := hc
      cases hs
      simp only [preIad] at hp
      have e2 := h'.at_
      obtain ⟨b, e1, e⟩ := curB_ep h hc
      obtain ⟨cs, hcs⟩ := curB_get hc
      refine StepOK.pure hm (key _ _ _ _ _ _ e e2 hp.1 hp.2) ?_
      have := bp_mk (w := w) (S := S) (q := n.toNat) hcs e1
      rw [hk]
      simpa using this
    · cases hs
  · rename_i i ver kk n hh
    cases hh
    split at hs
    · rename_i hk
      cases hs
      simp only [preIad] at hp
      split at hp
      · rename_i v' cs hmi
        obtain ⟨rfl, h0, hlt⟩ := hp
        have e2 := h'.at_
        have e1 := vg_ok h hmi
        have hob := hm.obj i _ hmi
        simp only [O.is] at hob
        obtain ⟨vs', hvs, _, ⟨_, _, h00⟩ | ⟨g, off, cap, hh, _⟩⟩ := hob
        · omega
        · refine StepOK.pure hm (key _ _ _ _ _ _ (e1.trans hh) e2 h0 hlt) ?_
          rw [hk, Nat.mul_one]
          simp only [VR]
          exact ⟨rfl, _, hmi, Nat.le_refl _, fun cs' _ => ⟨g, off, _, cap, hh, rfl⟩⟩
      · exact hp.elim
    · cases hs
  · rename_i i ver e' kk n hh
    cases hh
    cases hs
    simp only [preIad] at hp
    split at hp
    · rename_i v' k mu l hmi
      obtain ⟨rfl, rfl, h0, hlt⟩ := hp
      have e2 := h'.at_
      obtain ⟨_, y, hy, _, h⟩ := (by simpa only [VR] using h : (a.eval x).oneCell' = true ∧ ∃ y, m i = some y ∧ v' ≤ y.ver ∧ ∀ k mu l, y = .arr v' k mu l → ∃ g off n cap, hd i = .slice (some ⟨g, off, none⟩) n cap ∧ e' < n ∧ a.eval x = .slice (some ⟨g, off + e' * k, none⟩) (n - e') (cap - e'))
      rw [hmi] at hy
      cases hy
      obtain ⟨g, off, len, cap, hh, h1, h2⟩ := h _ _ _ rfl
      obtain ⟨ad, cap', hh', hle, hcap, had, _⟩ := arr_head hm hmi
      rw [hh] at hh'
      cases hh'
      refine StepOK.pure hm (key _ _ _ _ _ _ h2 e2 h0 (by omega)) ?_
      have := ep_mk (w := w) (S := S) (e := e' + n.toNat) (q := 0) hmi hh
      rw [Nat.add_zero, Nat.add_mul, ← Nat.add_assoc] at this
      exact this
    · exact hp.elim
  · cases hs
theorem ok_iada (hm : Mem m hd w S X B) {t e : TypeId} {c : Nat} {inf : TypeInfo} {x y : Operand} (ho : o.op = .indexAddr t x y) (hu : P.underlying t = some (.array c e)) (hi : P.info? e = some inf)
    (hv : VRs m hd w S vs [a.eval x, a.eval y]) (hs : semIada c inf.size m vs = some (v, us)) (hp : preIada c vs) : StepOK P X B o a m hd w S v us := by
  obtain ⟨p, q, rfl, h, h'⟩ := hv.inv2
  unfold semIada at hs
  split at hs
  · rename_i i ver q kk n hh
    cases hh
    split at hs
    · rename_i hc
      cases hs
      simp only [preIada] at hp
      have e2 := h'.at_
      obtain ⟨b, e1, e⟩ := curB_ok h hc
      obtain ⟨cs, hcs⟩ := curB_get hc
      have hb : 0 ≤ n ∧ n < c := by omega
      refine StepOK.pure hm (u := .pointer (some ⟨b, q + n.toNat * inf.size, none⟩)) ?_ (bp_mk hcs e1)
      simp [execOp, ho, e, e2, Instr.indexAt, asIntOf, run_underlying hu, hb, sizeOf, typeInfo, hi, Addr.add_mid, Instr.sureAddr]
    · cases hs
  · cases hs
theorem ok_ixs (hm : Mem m hd w S X B) {t : TypeId} {x y : Operand} (ho : o.op = .index t x y) (hu : P.underlying t = some .string)
    (hv : VRs m hd w S vs [a.eval x, a.eval y]) (hs : semIxs vs = some (v, us)) (hp : preIxs vs) : StepOK P X B o a m hd w S v us := by
  obtain ⟨p, q, rfl, h, h'⟩ := hv.inv2
  unfold semIxs at hs
  split at hs
  · rename_i s kk n hh
    cases hh
    cases hs
    simp only [preIxs] at hp
    have e1 := h.at_
    have e2 := h'.at_
    have hlt : n.toNat < s.size := by have := hp.2; simp at this; exact this
    refine StepOK.pure hm (u := .int .u8 ((s.data.toList.getD n.toNat 0).toNat : Int)) ?_ (VR.at_mk rfl)
    have hg : s[n.toNat]? = some (s.data.toList.getD n.toNat 0) := by
      rw [getElem?_pos s n.toNat hlt]
      congr 1
      rw [List.getD_eq_getElem?_getD, List.getElem?_eq_getElem hp.2]
      rfl
    simp [execOp, ho, e1, e2, Instr.index, asIntOf, run_underlying hu, hp.1, hg]
  · cases hs
theorem ok_ext (hm : Mem m hd w S X B) {j : Nat} {x : Operand} (ho : o.op = .extract x j) (hv : VRs m hd w S vs [a.eval x]) (hs : semExt j vs = some (v, us)) : StepOK P X B o a m hd w S v us := by
  obtain ⟨y, rfl, h⟩ := hv.inv1
  unfold semExt at hs
  split at hs
  · rename_i l e
    cases e
    split at hs
    · rename_i hlt
      cases hs
      simp only [VR] at h
      obtain ⟨xs, e, h1⟩ := h
      obtain ⟨u, h2, h3⟩ := h1.get j (l.getD j .un) (by rw [List.getD_eq_getElem?_getD, List.getElem?_eq_getElem hlt]; rfl)
      exact StepOK.pure hm (u := u) (by simp [execOp, ho, e, Instr.extract, h2]) h3
    · cases hs
  · cases hs
theorem ok_len (hm : Mem m hd w S X B) {x : Operand} {t e : TypeId} (ho : o.op = .call { callee := .builtin .len, args := #[x], argTypes := #[t] }) (hu : P.underlying t = some (.slice e)) (hv : VRs m hd w S vs [a.eval x]) (hs : semLen m vs = some (v, us)) : StepOK P X B o a m hd w S v us := by
  obtain ⟨y, rfl, h⟩ := hv.inv1
  have key : ∀ ad (n c : Nat), a.eval x = .slice ad n c → StepOK P X B o a m hd w S (I n) [] := fun ad n c e =>
    StepOK.pure hm (u := .int .i64 n) (by simp [execOp, ho, e, resolve, invoke, builtin, Builtin.len_, run_underlying hu, goInt]) (VR.at_mk rfl)
  unfold semLen at hs
  split at hs
  · rename_i k l e
    cases e
    cases hs
    simp only [VR, D.is] at h
    obtain ⟨ad, cap, xs, e1, _⟩ := h
    exact key _ _ _ e1
  · rename_i k e
    cases e
    cases hs
    simp only [VR] at h
    exact key _ _ _ h
  · rename_i i ver e
    cases e
    split at hs
    · rename_i v' k mu l hmi
      split at hs
      · rename_i hv
        subst hv
        cases hs
        obtain ⟨ad, cap, hh, _⟩ := arr_head hm hmi
        exact key _ _ _ ((og_ok h hmi).trans hh)
      · cases hs
    · cases hs
  · rename_i i ver e' o' e
    cases e
    split at hs
    · rename_i hc
      cases hs
      obtain ⟨b, e1, e⟩ := curB_ep h hc
      exact key _ _ _ e
    · cases hs
  · rename_i i ver e
    cases e
    split at hs
    · rename_i v' cs hmi
      split at hs
      · rename_i hv
        subst hv
        cases hs
        have hob := hm.obj i _ hmi
        simp only [O.is] at hob
        obtain ⟨vs', hvs, _, ⟨a', hh, h00⟩ | ⟨g, off, cap, hh, _⟩⟩ := hob
        · rw [h00]; exact key _ _ _ ((vg_ok h hmi).trans hh)
        · exact key _ _ _ ((vg_ok h hmi).trans hh)
      · cases hs
    · cases hs
  · rename_i i ver e' e
    cases e
    split at hs
    · rename_i v' k mu l hmi
      split at hs
      · rename_i hv
        subst hv
        cases hs
        obtain ⟨_, y, hy, _, h⟩ := (by simpa only [VR] using h : (a.eval x).oneCell' = true ∧ ∃ y, m i = some y ∧ v' ≤ y.ver ∧ ∀ k mu l, y = .arr v' k mu l → ∃ g off n cap, hd i = .slice (some ⟨g, off, none⟩) n cap ∧ e' < n ∧ a.eval x = .slice (some ⟨g, off + e' * k, none⟩) (n - e') (cap - e'))
        rw [hmi] at hy
        cases hy
        obtain ⟨g, off, len, cap, hh, h1, h2⟩ := h _ _ _ rfl
        obtain ⟨ad, cap', hh', hle, hcap, had, _⟩ := arr_head hm hmi
        rw [hh] at hh'
        cases hh'
        exact key _ _ _ h2
      · cases hs
    · cases hs
  · cases hs
theorem ok_lens (hm : Mem m hd w S X B) {x : Operand} {t : TypeId} (ho : o.op = .call { callee := .builtin .len, args := #[x], argTypes := #[t] }) (hu : P.underlying t = some .string) (hv : VRs m hd w S vs [a.eval x]) (hs : semLens vs = some (v, us)) : StepOK P X B o a m hd w S v us := by
  obtain ⟨y, rfl, h⟩ := hv.inv1
  unfold semLens at hs
  split at hs
  · rename_i s e
    cases e
    cases hs
    have e1 := h.at_
    exact StepOK.pure hm (u := .int .i64 s.size) (by simp [execOp, ho, e1, resolve, invoke, builtin, Builtin.len_, run_underlying hu, goInt]) (VR.at_mk rfl)
  · cases hs
/-- What is appended. -/
theorem news_ok (hm : Mem m hd w S X B) {k : Nat} {y : V} {u : Value} {ns : List (List D)} {tx e' : TypeId} (hk : P.underlying tx = some (.slice e')) (h : VR m hd w S y u) (hn : news k m y = some ns) : ∃ xs, Rows w S k ns xs ∧ Src P k tx u ns.length xs w ∧ ∃ ad cap, u = .slice ad ns.length cap ∧ (0 < ns.length → ∃ g off, ad = some ⟨g, off, none⟩ ∧ w.rangeAt g off xs) := by
  have key : ∀ {ad cap xs} {l : List (List D)} {T : Nat → Prop}, u = .slice ad l.length cap → Rows w T k l xs → (∀ b, T b → S b) → (0 < l.length → ∃ g off, ad = some ⟨g, off, none⟩ ∧ w.rangeAt g off xs) → ∃ xs, Rows w S k l xs ∧ Src P k tx u l.length xs w ∧ ∃ ad cap, u = .slice ad l.length cap ∧ (0 < l.length → ∃ g off, ad = some ⟨g, off, none⟩ ∧ w.rangeAt g off xs) := by
    intro ad cap xs l T e hrow hTS hr
    refine ⟨xs, Rows.keep (fun b hb _ => ⟨hTS b hb, rfl⟩) _ _ _ hrow, ?_, ad, cap, e, hr⟩
    subst e
    rcases Nat.eq_zero_or_pos l.length with h0 | h0
    · have hl : l = [] := List.eq_nil_of_length_eq_zero h0
      subst hl
      simp only [Rows] at hrow
      subst hrow
      cases ad with
      | none => exact Src.ofNil w hk cap
      | some ad => exact Src.ofSlice w hk ad 0 cap [] (by simp) (fun j u hu => by simp at hu) (by simp)
    · obtain ⟨g, off, rfl, hr'⟩ := hr h0
      exact Src.ofSlice w hk _ _ cap xs hrow.len (fun j u hu => by rw [Addr.add_lit]; exact hr' j u hu) hrow.one
  unfold news at hn
  split at hn
  · rename_i k' l
    split at hn
    · rename_i hk
      subst hk
      cases hn
      simp only [VR, D.is] at h
      obtain ⟨ad, cap, xs, e1, _, _, hrow, hr⟩ := h
      exact key e1 hrow (fun _ h => h) fun h0 => let ⟨g, off, e, _, hr'⟩ := hr h0; ⟨g, off, e, hr'⟩
    · cases hn
  · cases hn
    simp only [VR] at h
    exact key (xs := []) (T := S) h (by simp [Rows]) (fun _ h => h) (by simp)
  · rename_i i ver
    split at hn
    · rename_i v' k' mu l hmi
      split at hn
      · rename_i hc
        obtain ⟨rfl, rfl⟩ := hc
        cases hn
        obtain ⟨ad, cap, hh, _, _, _, xs, T, hrow, hr, hTS⟩ := arr_head hm hmi
        exact key ((og_ok h hmi).trans hh) hrow hTS hr
      · cases hn
    · cases hn
  · cases hn
theorem dall_ok : ∀ {cs : List V} {ds : List D} {us : List Value}, VRs m hd w S cs us → dall cs = some ds → Cells w S ds us
  | [], ds, us, h, hd => by
    simp only [dall, Option.some.injEq] at hd
    subst hd
    simp only [VRs] at h
    subst h
    simp [Cells]
  | x :: r, ds, us, h, hd => by
    simp only [VRs] at h
    obtain ⟨u, r', rfl, h1, h2⟩ := h
    cases x <;> simp only [dall] at hd <;> try (cases hd; done)
    split at hd
    · rename_i ds' hds
      cases hd
      simp only [VR] at h1
      simp only [Cells]
      exact ⟨u, r', rfl, h1, dall_ok h2 hds⟩
    · cases hd
theorem rows_lone : ∀ {ds : List D} {us : List Value}, Cells w S ds us → Rows w S 1 (ds.map fun x => [x]) us
  | [], us, h => by simp only [Cells] at h; subst h; simp [Rows]
  | d :: ds, us, h => by
    simp only [Cells] at h
    obtain ⟨x, r, rfl, h1, h2⟩ := h
    simp only [List.map_cons, Rows]
    exact ⟨[x], r, rfl, rfl, by simp only [Cells]; exact ⟨x, [], rfl, h1, rfl⟩, rows_lone h2⟩
theorem rows_at {T : Nat → Prop} : ∀ {xs : List Value}, (∀ u ∈ xs, u.oneCell' = true) → Rows w T 1 (xs.map fun u => [D.at u]) xs
  | [], _ => by simp [Rows]
  | u :: xs, h => by
    simp only [List.map_cons, Rows]
    exact ⟨[u], xs, rfl, rfl, by simp only [Cells, D.is]; exact ⟨u, [], rfl, ⟨rfl, h u (by simp)⟩, rfl⟩, rows_at fun u hu => h u (by simp [hu])⟩
theorem rows_at_inv {T : Nat → Prop} : ∀ {xs ys : List Value}, Rows w T 1 (xs.map fun u => [D.at u]) ys → ys = xs
  | [], ys, h => by simpa [Rows] using h
  | u :: xs, ys, h => by
    simp only [List.map_cons, Rows, Cells, D.is] at h
    obtain ⟨a, r, rfl, _, ⟨x, r', rfl, ⟨rfl, _⟩, rfl⟩, h2⟩ := h
    rw [rows_at_inv h2]
    rfl
theorem arrV_arr {T : Nat → Prop} {u : Value} {n : Nat} {xs : List Value} (h : ArrV w B X T u n xs) (hn : xs.length = n) (h1 : ∀ u ∈ xs, u.oneCell' = true) : Arr w B X T 1 u (xs.map fun u => [D.at u]) := by
  refine ⟨xs, rows_at h1, ?_⟩
  rcases h with ⟨a, e, h0⟩ | ⟨g, off, cap, e, h0, h1, h2, h3, h4, h5, h6, h7⟩
  · exact .inl ⟨a, e, by rw [List.eq_nil_of_length_eq_zero (hn.trans h0)]; rfl⟩
  · exact .inr ⟨g, off, cap, by rw [List.length_map, hn]; exact e, h0, h1, h2, h3, by rw [List.length_map, hn]; exact h4, h5, by rw [Nat.mul_one]; exact h6, h7⟩
theorem arr_arrV {T : Nat → Prop} {u : Value} {xs : List Value} (h : Arr w B X T 1 u (xs.map fun u => [D.at u])) : ArrV w B X T u xs.length xs := by
  obtain ⟨ys, hr, h⟩ := h
  have := rows_at_inv hr
  subst this
  rcases h with ⟨a, e, h0⟩ | ⟨g, off, cap, e, h0, h1, h2, h3, h4, h5, h6, h7⟩
  · exact .inl ⟨a, e, by simpa using congrArg List.length h0⟩
  · exact .inr ⟨g, off, cap, by rw [List.length_map] at e; exact e, h0, h1, h2, h3, by rw [List.length_map] at h4; exact h4, h5, by rw [Nat.mul_one] at h6; exact h6, h7⟩
/-- Where cells lie that are looked at one by one. -/
theorem arrV_src (hm : Mem m hd w S X B) {j u' : Nat} {cs : List V} {y : Value} {tx e' : TypeId} (hx : P.underlying tx = some (.slice e')) (hj : m j = some (.vec u' cs)) (h : y = hd j) : ∃ xs, VRs m hd w S cs xs ∧ (∀ u ∈ xs, u.oneCell' = true) ∧ Src P 1 tx y cs.length xs w := by
  have hob := hm.obj j _ hj
  simp only [O.is] at hob
  obtain ⟨xs, hvs, hone, hob⟩ := hob
  have hl := hvs.len
  refine ⟨xs, hvs, hone, ?_⟩
  subst h
  rcases hob with ⟨a, e, h0⟩ | ⟨g, off, cap, e, h0, h1, h2, h3, h4, h5, h6, h7⟩
  · rw [e, h0]
    have : xs = [] := List.eq_nil_of_length_eq_zero (hl.trans h0)
    subst this
    cases a with
    | none => exact Src.ofNil w hx 0
    | some a => exact Src.ofSlice w hx a 0 0 [] (by simp) (fun j u hu => by simp at hu) (by simp)
  · rw [e]
    exact Src.ofSlice w hx _ _ cap xs (by simpa using hl) (fun j u hu => by rw [Addr.add_lit]; exact h7 j u hu) hone
/-- .. are appended to such ones. -/
theorem StepOK.appVec (hm : Mem m hd w S X B) {i ver : Nat} {cs cs' : List V} {xs' : List Value} {x : Value} {t tx : TypeId} (hi : m i = some (.vec ver cs)) (e : TypeId) (inf : TypeInfo) (z : Value) (bytes : Nat) (ht : P.underlying t = some (.slice e)) (hinf : P.info? e = some inf) (hz : inf.zero = some z) (hsize : inf.size = 1) (hby : inf.bytes = bytes) (hzs : z.cells.size = 1)
    (hr : ∀ v' w', (Builtin.append_ #[t, tx] o.type #[hd i, x]).run P w = .ok v' w' → (execOp a.eval o).run P w = .ok (.value v') w')
    (hs : Src P 1 tx x cs'.length xs' w) (hx' : VRs m hd w S cs' xs') (h1 : ∀ u ∈ xs', u.oneCell' = true) (h63 : cs.length + cs'.length ≤ 140737488355328) (hbytes : (cs.length + cs'.length) * bytes ≤ 140737488355328) :
    StepOK P X B o a m hd w S (.vg i (ver + 1)) [(i, .vec (ver + 1) (cs ++ cs'))] := by
  have hoi := hm.obj i _ hi
  simp only [O.is] at hoi
  obtain ⟨xs, hvs, hone, hoi⟩ := hoi
  have hl := hvs.len
  have hl' := hx'.len
  obtain ⟨v', w', r1, r2, r3, r4⟩ := run_append_arr (P := P) t tx o.type e inf z bytes ht hinf hz hsize hby hzs (arrV_arr hoi hl hone) hm.base hm.lt x xs' (ns := xs'.map fun u => [D.at u]) (by simpa [hl'] using hs) (rows_at h1) (by simpa [hl, hl'] using h63) (by simpa [hl, hl'] using hbytes)
  rw [← List.map_append] at r2
  have r2 := arr_arrV r2
  have hlen : (xs ++ xs').length = (cs ++ cs').length := by simp [hl, hl']
  have ho := out_upd (w' := w') hm i (.vec (ver + 1) (cs ++ cs')) v' r3.size r3.os r3.tape r3.output (fun b hb hne => r3.block b hb (fun e => hne _ hi rfl e.symm))
    (fun oo hoo => by rw [hi] at hoo; cases hoo; exact ⟨Nat.le_succ _, fun e => by simp [O.ver] at e⟩) (fun b hb _ => (r4 b hb).elim (fun e => .inr ⟨_, hi, rfl, e⟩) (fun e => .inl (by omega)))
    (fun hl2 hk => by
      simp only [O.is]
      exact ⟨xs ++ xs', VRs.append (VRs.keep hl2 hk _ _ hvs) (VRs.keep hl2 hk _ _ hx'), fun u hu => (List.mem_append.1 hu).elim (hone u) (h1 u), by rw [← hlen]; exact r2⟩)
  refine ⟨_, w', up hd i v', S, hr _ _ r1, ho, .inl ⟨_, rfl, ?_⟩⟩
  simp only [VR, ups]
  refine ⟨?_, _, up_same _ _ _, Nat.le_refl _, fun cs' e => by rw [up_same]⟩
  rcases r2 with ⟨a, rfl, _⟩ | ⟨g, off, cap, rfl, _⟩ <;> rfl
theorem StepOK.appVecNil (hm : Mem m hd w S X B) {d : Nat} {cs' : List V} {xs' : List Value} {x : Value} {ad : Option Addr} {t tx : TypeId} (e : TypeId) (inf : TypeInfo) (z : Value) (bytes : Nat) (ht : P.underlying t = some (.slice e)) (hinf : P.info? e = some inf) (hz : inf.zero = some z) (hsize : inf.size = 1) (hby : inf.bytes = bytes) (hzs : z.cells.size = 1)
    (hr : ∀ v' w', (Builtin.append_ #[t, tx] o.type #[.slice ad 0 0, x]).run P w = .ok v' w' → (execOp a.eval o).run P w = .ok (.value v') w')
    (hs : Src P 1 tx x cs'.length xs' w) (hx' : VRs m hd w S cs' xs') (h1 : ∀ u ∈ xs', u.oneCell' = true) (h63 : cs'.length ≤ 140737488355328) (hbytes : cs'.length * bytes ≤ 140737488355328) :
    StepOK P X B o a m hd w S (.vg d (nv m d)) [(d, .vec (nv m d) cs')] := by
  have h0 : Arr w B X S 1 (.slice ad 0 0) [] := ⟨[], by simp [Rows], .inl ⟨ad, rfl, rfl⟩⟩
  have hb0 : blk (.slice ad 0 0) = none := by cases ad <;> rfl
  have hl' := hx'.len
  obtain ⟨v', w', r1, r2, r3, r4⟩ := run_append_arr (P := P) t tx o.type e inf z bytes ht hinf hz hsize hby hzs h0 hm.base hm.lt x xs' (ns := xs'.map fun u => [D.at u]) (by simpa [hl'] using hs) (rows_at h1) (by simpa [hl'] using h63) (by simpa [hl'] using hbytes)
  rw [hb0] at r3 r4
  have r2 := arr_arrV (xs := xs') (by simpa using r2)
  have ho := out_upd (w' := w') hm d (.vec (nv m d) cs') v' r3.size r3.os r3.tape r3.output (fun b hb hne => r3.block b hb (fun e => by cases e))
    (fun oo hoo => ⟨by simp [nv, hoo, O.ver], fun e => by simp [nv, hoo, O.ver] at e⟩) (fun b hb _ => (r4 b hb).elim (fun e => by cases e) (fun e => .inl (by omega)))
    (fun hl2 hk => by
      simp only [O.is]
      exact ⟨xs', VRs.keep hl2 hk _ _ hx', h1, by rw [← hl']; exact r2⟩)
  refine ⟨_, w', up hd d v', S, hr _ _ r1, ho, .inl ⟨_, rfl, ?_⟩⟩
  simp only [VR, ups]
  refine ⟨?_, _, up_same _ _ _, Nat.le_refl _, fun cs' e => by rw [up_same]⟩
  rcases r2 with ⟨a, rfl, _⟩ | ⟨g, off, cap, rfl, _⟩ <;> rfl
theorem ok_app (hm : Mem m hd w S X B) {x y : Operand} {t tx e e' : TypeId} {k by_ : Nat} {z : List V} (ho : o.op = .call { callee := .builtin .append, args := #[x, y], argTypes := #[t, tx] }) (he : elemOf' P t = some (e, k, by_)) (hz : zcs P e = some z) (hx : P.underlying tx = some (.slice e'))
    (hv : VRs m hd w S vs [a.eval x, a.eval y]) (hs : semApp k d m vs = some (v, us)) (hp : preApp k by_ m vs) : StepOK P X B o a m hd w S v us := by
  obtain ⟨p, q, rfl, h, h'⟩ := hv.inv2
  obtain ⟨inf, hu, hi, hsz, hby⟩ := elem_ok he
  obtain ⟨inf', zu, hi', hzero, hzok, hzl⟩ := zcs_ok hz
  rw [hi] at hi'
  cases hi'
  have hzs : zu.cells.size = k := by have := (zD_ok (w := w) (S := S) hzok).len; simp [zD, hzl, hsz] at this; exact this
  have run : ∀ u v' w', a.eval x = u → (Builtin.append_ #[t, tx] o.type #[u, a.eval y]).run P w = .ok v' w' → (execOp a.eval o).run P w = .ok (.value v') w' := by
    intro u v' w' e1 hr
    simp [execOp, ho, resolve, invoke, builtin, e1, hr]
  unfold semApp at hs
  split at hs
  · rename_i i ver y' hh
    cases hh
    split at hs
    · rename_i v' k' l ns hmi hns
      split at hs
      · rename_i hc
        obtain ⟨rfl, rfl, hnot⟩ := hc
        cases hs
        simp only [preApp, hmi, hns] at hp
        obtain ⟨xs, hrow, hsrc, _⟩ := news_ok hm hx h' hns
        exact StepOK.appArr hm hmi e inf zu by_ hu hi hzero hsz hby hzs (fun v' w' hr => run _ _ _ (og_ok h hmi) hr) hsrc hrow hp.2 hp.1
      · cases hs
    · cases hs
  · rename_i k0 j0 u0 hh
    cases hh
    split at hs
    · rename_i u' cs' hj
      split at hs
      · rename_i hc
        obtain ⟨rfl, hk1⟩ := hc
        subst hk1
        cases hs
        simp only [preApp, hj] at hp
        obtain ⟨xs, hvs, hone, hsrc⟩ := arrV_src (P := P) hm hx hj (vg_ok h' hj)
        simp only [VR] at h
        exact StepOK.appVecNil hm e inf zu by_ hu hi hzero hsz hby hzs (fun v' w' hr => run _ _ _ h hr) hsrc hvs hone hp.2 hp.1
      · cases hs
    · cases hs
  · rename_i k0 y' hne hh
    cases hh
    split at hs
    · rename_i ns hns
      cases hs
      have hp : ns.length * by_ ≤ 140737488355328 ∧ ns.length ≤ 140737488355328 := by
        cases q <;> first | (simpa only [preApp, hns] using hp) | exact absurd rfl (hne _ _)
      obtain ⟨xs, hrow, hsrc, _⟩ := news_ok hm hx h' hns
      simp only [VR] at h
      exact StepOK.appNil hm e inf zu by_ hu hi hzero hsz hby hzs (fun v' w' hr => run _ _ _ h hr) hsrc hrow hp.2 hp.1
    · cases hs
  · rename_i y' hh
    cases hh
    split at hs
    · rename_i ns hns
      cases hs
      simp only [preApp, hns] at hp
      obtain ⟨xs, hrow, hsrc, _⟩ := news_ok hm hx h' hns
      simp only [VR] at h
      obtain ⟨ad, h⟩ := h
      exact StepOK.appNil hm e inf zu by_ hu hi hzero hsz hby hzs (fun v' w' hr => run _ _ _ h hr) hsrc hrow hp.2 hp.1
    · cases hs
  · rename_i i' ver e' o' y' hh
    cases hh
    split at hs
    · rename_i v' cs ns hmi hns
      split at hs
      · rename_i ds hds
        split at hs
        · rename_i hc
          obtain ⟨rfl, rfl, rfl, hn0⟩ := hc
          cases hs
          simp only [preApp, hns] at hp
          obtain ⟨xs, hrow, hsrc, _⟩ := news_ok hm hx h' hns
          obtain ⟨b, g1, g2⟩ := curB_ep h (by simp [curB, hmi])
          have hob := hm.obj _ _ hmi
          simp only [O.is] at hob
          obtain ⟨b', us', e2, _, _, _, hvs, _, _, hra⟩ := hob
          rw [g1] at e2
          cases e2
          have hcells := dall_ok hvs hds
          have hdl : ds.length = cs.length := by rw [← hcells.len, hvs.len]
          have hrows := rows_lone hcells
          have hml : (ds.map fun x => [x]).length = cs.length := by rw [List.length_map, hdl]
          rw [← hml] at g2
          exact StepOK.appFull hm e inf zu by_ hu hi hzero hsz hby hzs (fun v' w' hr => run _ _ _ g2 hr) hrows hra hsrc hrow hn0 (by rw [hml]; exact hp.2) (by rw [hml]; exact hp.1)
        · cases hs
      · cases hs
    · cases hs
  · rename_i i' ver j' u' hh
    cases hh
    split at hs
    · rename_i v' cs u'' cs' hmi hmj
      split at hs
      · rename_i hc
        obtain ⟨rfl, rfl, hne, hk1⟩ := hc
        subst hk1
        cases hs
        simp only [preApp, hmi, hmj] at hp
        obtain ⟨xs, hvs, hone, hsrc⟩ := arrV_src (P := P) hm hx hmj (vg_ok h' hmj)
        exact StepOK.appVec hm hmi e inf zu by_ hu hi hzero hsz hby hzs (fun v' w' hr => run _ _ _ (vg_ok h hmi) hr) hsrc hvs hone hp.2 hp.1
      · cases hs
    · cases hs
  · rename_i k' l y' hh
    cases hh
    simp only [VR] at h
    obtain ⟨hdl, ad, e1⟩ := h
    split at hs
    · rename_i hns
      split at hs
      · rename_i hc
        subst hc
        cases hs
        obtain ⟨xs, hrow, hsrc, _⟩ := news_ok hm hx h' hns
        have hxs : xs = [] := by simpa [Rows] using hrow
        subst hxs
        have hr := run_append_nothing (P := P) w t tx o.type e inf hu hi ad l.length l.length (Nat.le_refl _) (a.eval y) (by rw [hsz]; exact hsrc)
        exact StepOK.pure hm (u := .slice ad l.length l.length) (run _ _ _ e1 hr) (by simp only [VR]; rw [← e1]; exact hdl)
      · cases hs
    · rename_i c ns hns
      split at hs
      · rename_i hc
        subst hc
        cases hs
        simp only [preApp, hns] at hp
        obtain ⟨xs, hrow, hsrc, _⟩ := news_ok hm hx h' hns
        simp only [D.is] at hdl
        obtain ⟨ad', cap', ys, e2, hle, hcm, hrows, hra⟩ := hdl
        rw [e1] at e2
        cases e2
        cases l with
        | nil =>
          have hys : ys = [] := by simpa [Rows] using hrows
          exact StepOK.appNil hm e inf zu by_ hu hi hzero hsz hby hzs (fun v' w' hr => run _ _ _ e1 hr) hsrc hrow (by simpa using hp.2) (by simpa using hp.1)
        | cons c0 l0 =>
          obtain ⟨g, off, rfl, _, hra⟩ := hra (by simp)
          exact StepOK.appFull hm e inf zu by_ hu hi hzero hsz hby hzs (fun v' w' hr => run _ _ _ e1 hr) hrows hra hsrc hrow (by simp) hp.2 hp.1
      · cases hs
    · cases hs
  · cases hs
theorem ok_mn (hm : Mem m hd w S X B) {x y : Operand} {ts : Array TypeId} (ho : o.op = .call { callee := .builtin .min, args := #[x, y], argTypes := ts }) (hv : VRs m hd w S vs [a.eval x, a.eval y]) (hs : semMn vs = some (v, us)) : StepOK P X B o a m hd w S v us := by
  obtain ⟨p, q, rfl, h, h'⟩ := hv.inv2
  unfold semMn at hs
  split at hs
  · rename_i k c k' e hh
    cases hh
    cases hs
    have e1 := h.at_
    have e2 := h'.at_
    refine StepOK.pure hm (u := .int k (min c e)) ?_ (VR.at_mk rfl)
    have : (if e < c then e else c) = min c e := by omega
    simp [execOp, ho, e1, e2, resolve, invoke, builtin, Builtin.min_, Builtin.min2, this]
  · cases hs
theorem ok_mx (hm : Mem m hd w S X B) {x y : Operand} {ts : Array TypeId} (ho : o.op = .call { callee := .builtin .max, args := #[x, y], argTypes := ts }) (hv : VRs m hd w S vs [a.eval x, a.eval y]) (hs : semMx vs = some (v, us)) : StepOK P X B o a m hd w S v us := by
  obtain ⟨p, q, rfl, h, h'⟩ := hv.inv2
  unfold semMx at hs
  split at hs
  · rename_i k c k' e hh
    cases hh
    cases hs
    have e1 := h.at_
    have e2 := h'.at_
    refine StepOK.pure hm (u := .int k (max c e)) ?_ (VR.at_mk rfl)
    have : (if e > c then e else c) = max c e := by omega
    simp [execOp, ho, e1, e2, resolve, invoke, builtin, Builtin.max_, Builtin.max2, this]
  · cases hs
end
end Go.Proofs.YthbhkkdaaipngaaGreatDoor.Sim
