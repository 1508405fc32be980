/- Every operation: of no program. Conditions: none. -/
import Derived.Test.YthbhkkdaaipngaaGreatDoorMSimK
import Derived.Carry
section
namespace Go.Proofs.YthbhkkdaaipngaaGreatDoor.Sim
open Go Go.RowKit Go.Deep
set_option linter.unusedVariables false

section
variable {P : Program} {X : Nat → Prop} {B : Nat} {o : Oper} {a : Act} {m m0 : M} {hd : H} {w : World} {S : Nat → Prop} {v : V} {us : U} {vs : List V} {d : Nat} {u1 u2 u3 : Value}

theorem ok_bslv (hm : Mem m hd w S X B) {t e : TypeId} {n by_ q : Nat} {ps : Array (Nat × Operand)} (ho : o.op = .buildSlice t n ps) (he : elemOf' P t = some (e, 1, by_)) (hz : zcs P e = some [.nl q]) (hnk : n ≤ 1000) (hps : ps.toList.map (·.1) = List.range n)
    (hv : VRs m hd w S vs ((ps.toList.map (·.2)).map a.eval)) (hs : semBslv n d m vs = some (v, us)) : StepOK P X B o a m hd w S v us := by
  simp only [semBslv] at hs
  split at hs
  · rename_i hc
    cases hs
    obtain ⟨hone, hrun⟩ := run_blt (P := P) (w := w) ho he hz (by omega) hps hv hc
    generalize hxs : (ps.toList.map (·.2)).map a.eval = xs at hone hrun hv
    have hl := hv.len
    have hn := hc.2
    have ho' := out_upd (w' := w.alloc (.cells xs.toArray e)) hm d (.vec (nv m d) vs) (.slice (some ⟨w.heap.size, 0, none⟩) n n) (by simp) rfl rfl rfl (fun b hb _ => Below.heap_alloc w _ b hb)
      (fun oo hoo => ⟨by simp [nv, hoo, O.ver], fun e => by simp [nv, hoo, O.ver] at e⟩) (fun b hb _ => .inl (by cases n <;> simp [Sim.blk] at hb; omega))
      (fun hle hk => by
        simp only [O.is]
        refine ⟨xs, VRs.keep hle hk _ _ hv, hone, ?_⟩
        rcases Nat.eq_zero_or_pos n with h0 | h0
        · exact .inl ⟨_, by rw [h0], by omega⟩
        · refine .inr ⟨w.heap.size, 0, n, by rw [hn], h0, .inl hm.base, by simp, fun hb => by have := hm.lt _ hb; omega, by omega, by unfold maxLen; omega, fun j hj => ?_, range_new w xs e⟩
          rw [Nat.zero_add, World.cell?_alloc_new, World.frozen?_alloc_new]
          exact ⟨by simp [hl, hn, hj], rfl⟩)
    refine ⟨_, _, _, S, hrun, ho', .inl ⟨_, rfl, ?_⟩⟩
    simp only [VR, ups]
    exact ⟨rfl, _, up_same _ _ _, Nat.le_refl _, fun cs' _ => (up_same _ _ _).symm⟩
  · cases hs
theorem ok_tail (hm : Mem m hd w S X B) {t e : TypeId} {inf : TypeInfo} {x lo : Operand} (ho : o.op = .slice t x (some lo) none none) (hu : P.underlying t = some (.slice e)) (hi' : P.info? e = some inf)
    (hv : VRs m hd w S vs [a.eval x, a.eval lo]) (hs : semTail inf.size m vs = some (v, us)) (hp : preTail m vs) : StepOK P X B o a m hd w S v us := by
  obtain ⟨p, q, rfl, h, h'⟩ := hv.inv2
  unfold semTail at hs
  split at hs
  · rename_i i ver kk n hh
    cases hh
    split at hs
    · rename_i v' k' l hmi
      split at hs
      · rename_i hc
        obtain ⟨rfl, rfl⟩ := hc
        cases hs
        simp only [preTail, hmi] at hp
        have e2 := h'.at_
        have e1 := og_ok h hmi
        obtain ⟨ad, cap, hh, hle, _, had, _⟩ := arr_head hm hmi
        obtain ⟨g, off, rfl⟩ := had (by omega)
        obtain ⟨m', hr, k1, k2, k3, k4, k5, k6, k7⟩ := bounds_run (P := P) (w := w) (lo := some (a.eval lo)) (hi := none) (mx := none) (b := (some n, none, none)) true (by rw [e2]; constructor) .none .none (by simp only [okB]; omega) hle
        have km := k6 rfl
        subst km
        simp only [bl, bh, Option.getD_some] at hr
        refine StepOK.pure hm (u := .slice (some ⟨g, off + n.toNat * inf.size, none⟩) (l.length - n.toNat) (m' - n.toNat)) ?_ ?_
        · have hne : ¬ m' = n.toNat := by omega
          simp [execOp, ho, e1, hh, Instr.sliceAt, Instr.slice, run_underlying hu, hr, sizeOf, typeInfo, hi', hne, Addr.add_mid]
        · simp only [VR]
          exact ⟨rfl, _, hmi, Nat.le_refl _, fun k mu l' e => by cases e; exact ⟨g, off, l.length, m', hh, by omega, rfl⟩⟩
      · cases hs
    · cases hs
  · cases hs
theorem ok_fxc (hm : Mem m hd w S X B) {t e : TypeId} {inf : TypeInfo} {x hi mx : Operand} (ho : o.op = .slice t x none (some hi) (some mx)) (hu : P.underlying t = some (.slice e)) (hi' : P.info? e = some inf)
    (hv : VRs m hd w S vs [a.eval x, a.eval hi, a.eval mx]) (hs : semFxc inf.size vs = some (v, us)) (hp : preFxc vs) : StepOK P X B o a m hd w S v us := by
  obtain ⟨p, q, r, rfl, h, h', h''⟩ := hv.inv3
  unfold semFxc at hs
  split at hs
  · rename_i k' l kk n kk' n' hh
    cases hh
    split at hs
    · rename_i hc
      subst hc
      cases hs
      simp only [preFxc] at hp
      obtain ⟨hp0, rfl, hp1⟩ := hp
      have e2 := h'.at_
      have e3 := h''.at_
      simp only [VR] at h
      have hdl := h
      simp only [D.is] at h
      obtain ⟨ad, cap, xs, e1, hle, hcm, hrow, hra⟩ := h
      have hr := cut_run (P := P) (w := w) (k := kk) (k' := kk') hp0 rfl hp1 hle
      have hadd : Option.map (fun x => x.add 0) ad = ad := by
        cases ad <;> simp [Addr.add]
      have hrun : (execOp a.eval o).run P w = .ok (.value (.slice ad n.toNat n.toNat)) w := by
        simp [execOp, ho, e1, e2, e3, Instr.sliceAt, Instr.slice, run_underlying hu, hr, sizeOf, typeInfo, hi', hadd]
      have hlen : (l.take n.toNat).length = n.toNat := by rw [List.length_take]; omega
      refine StepOK.pure hm (u := .slice ad n.toNat n.toNat) hrun ?_
      simp only [VR, D.is]
      rw [hlen]
      refine ⟨⟨ad, n.toNat, xs.take (n.toNat * inf.size), rfl, Nat.le_refl _, by omega, hrow.take n.toNat, fun h0 => ?_⟩, ad, rfl⟩
      obtain ⟨g, off, h1, h2, h3⟩ := hra (by omega)
      refine ⟨g, off, h1, h2, fun j u hu => h3 j u ?_⟩
      rw [List.getElem?_take] at hu
      split at hu
      · exact hu
      · cases hu
    · cases hs
  · cases hs
theorem ok_cutm (hm : Mem m hd w S X B) {t e : TypeId} {inf : TypeInfo} {x hi mx : Operand} (ho : o.op = .slice t x none (some hi) (some mx)) (hu : P.underlying t = some (.slice e)) (hi' : P.info? e = some inf)
    (hv : VRs m hd w S vs [a.eval x, a.eval hi, a.eval mx]) (hs : semCutm inf.size m vs = some (v, us)) (hp : preCutm m vs) : StepOK P X B o a m hd w S v us := by
  obtain ⟨p, q, r, rfl, h, h', h''⟩ := hv.inv3
  unfold semCutm at hs
  split at hs
  · rename_i i ver kk n kk' n' hh
    cases hh
    split at hs
    · rename_i v' k' l hmi
      split at hs
      · rename_i hc
        obtain ⟨rfl, rfl⟩ := hc
        cases hs
        simp only [preCutm, hmi] at hp
        have e2 := h'.at_
        have e3 := h''.at_
        have e1 := og_ok h hmi
        obtain ⟨ad, cap, hh, hle, _, had, _⟩ := arr_head hm hmi
        obtain ⟨m', hr, k1, k2, k3, k4, k5, k6, k7⟩ := bounds_run (P := P) (w := w) (lo := none) (hi := some (a.eval hi)) (mx := some (a.eval mx)) (b := (none, some n, some n')) true .none (by rw [e2]; constructor) (by rw [e3]; constructor) (by simp only [okB]; omega) hle
        simp only [bl, bh, Option.getD_none, Int.toNat_zero] at hr k1 k2 k3
        have hadd : (if m' = 0 then ad else Option.map (fun x => x.add (0 * inf.size)) ad) = ad := by
          split
          · rfl
          · cases ad <;> simp [Addr.add]
        have hrun : (execOp a.eval o).run P w = .ok (.value (.slice ad n.toNat m')) w := by
          have := hadd
          simp only [Nat.zero_mul] at this
          simp [execOp, ho, e1, hh, Instr.sliceAt, Instr.slice, run_underlying hu, hr, sizeOf, typeInfo, hi', this]
        have hoi := hm.obj i _ hmi
        simp only [O.is, if_true] at hoi
        obtain ⟨xs, hrow, hoi⟩ := hoi
        have harr : Arr w B X S inf.size (.slice ad n.toNat m') (l.take n.toNat) := by
          rcases Nat.eq_zero_or_pos m' with h0 | h0
          · have hn0 : n.toNat = 0 := by omega
            rw [hn0, h0]
            exact ⟨[], by simp [Rows], .inl ⟨ad, rfl, by simp⟩⟩
          · rcases hoi with ⟨ad', hg, rfl⟩ | ⟨g, off, cap', hg, hc0, hB, hlt, hT, hn', hcm, hth, hra⟩
            · rw [hh] at hg
              cases hg
              omega
            · rw [hh] at hg
              cases hg
              have hmk : m' * inf.size ≤ cap * inf.size := Nat.mul_le_mul_right _ k4
              exact ⟨_, Rows.take n.toNat hrow, .inr ⟨g, off, m', by rw [List.length_take, Nat.min_eq_left k2], h0, hB, hlt, hT, by rw [List.length_take]; omega, by omega, fun j hj => hth j (by omega), fun j u hu => hra j u (by
                rw [List.getElem?_take] at hu
                split at hu
                · exact hu
                · cases hu)⟩⟩
        have ho' := out_upd (w' := w) hm i (.arr (v' + 1) inf.size true (l.take n.toNat)) (.slice ad n.toNat m') (Nat.le_refl _) rfl rfl rfl (fun b hb hne => rfl)
          (fun oo hoo => by rw [hmi] at hoo; cases hoo; exact ⟨Nat.le_succ _, fun e => by simp [O.ver] at e⟩) (fun b hb _ => .inr ⟨_, hmi, rfl, by rw [hh]; cases ad <;> cases m' <;> cases cap <;> simp_all [blk]⟩)
          (fun hl hk => by simp only [O.is, if_true]; exact harr)
        refine ⟨_, w, up hd i (.slice ad n.toNat m'), S, hrun, ho', .inl ⟨_, rfl, ?_⟩⟩
        simp only [VR, ups]
        exact ⟨rfl, _, up_same _ _ _, Nat.le_refl _, fun k' mu' l' e => by rw [up_same]⟩
      · cases hs
    · cases hs
  · cases hs

/-! ### Maps from numbers to truths -/
theorem isMap_ok {t : TypeId} (h : isMap P t = true) : ∃ kt et i, P.underlying t = some (.map kt et) ∧ P.underlying kt = some (.int .i64) ∧ P.info? et = some i ∧ i.zero = some (.bool false) := by
  unfold isMap at h
  split at h
  · rename_i kt et h1
    simp only [Bool.and_eq_true] at h
    obtain ⟨h2, h3⟩ := h
    split at h2
    · rename_i h4
      split at h3
      · rename_i i h5
        split at h3
        · rename_i h6; exact ⟨kt, et, i, h1, h4, h5, h6⟩
        · cases h3
      · cases h3
    · cases h2
  · cases h
theorem ok_mkm (hm : Mem m hd w S X B) {t : TypeId} (ho : o.op = .makeMap t none) (hs : semMkm d m vs = some (v, us)) : StepOK P X B o a m hd w S v us := by
  unfold semMkm at hs
  split at hs
  · cases hs
    have hrun : (execOp a.eval o).run P w = .ok (.value (.map (some w.heap.size))) (w.alloc (.map #[] 0)) := by
      simp [execOp, ho, run_makeMap]
    have ho' := out_upd (w' := w.alloc (.map #[] 0)) hm d (.mp (nv m d) []) (.map (some w.heap.size)) (by simp) rfl rfl rfl (fun b hb _ => Below.heap_alloc w _ b hb)
      (fun oo hoo => ⟨by simp [nv, hoo, O.ver], fun e => by simp [nv, hoo, O.ver] at e⟩) (fun b hb _ => .inl (by simp [Sim.blk] at hb; omega))
      (fun hle hk => by
        simp only [O.is]
        exact ⟨w.heap.size, #[], 0, rfl, .inl hm.base, by simp, fun hb => by have := hm.lt _ hb; omega, by show (w.heap.push _)[w.heap.size]? = _; simp, rfl⟩)
    refine ⟨_, _, _, S, hrun, ho', .inl ⟨_, rfl, ?_⟩⟩
    simp only [VR, ups]
    exact ⟨rfl, _, up_same _ _ _, Nat.le_refl _, fun cs' _ => (up_same _ _ _).symm⟩
  · cases hs
theorem mh_ok {i ver : Nat} {ks : List Int} {u : Value} (h : VR m hd w S (.mh i ver) u) (hi : m i = some (.mp ver ks)) : u = hd i := by
  simp only [VR] at h
  obtain ⟨_, y, hy, _, h⟩ := h
  rw [hi] at hy; cases hy
  exact h ks rfl
theorem findNow_ok (n : Int) : ∀ {es : List MapEntry} {ks : List Int} (i : Nat), es.map (fun e => (e.key, e.val)) = (ks.map fun n => (.int .i64 n, .bool true)) → Instr.findNow (.int .i64) (.int .i64 n) es i = some (if n ∈ ks then some (i + ks.idxOf n, .bool true) else none)
  | [], [], i, _ => by simp [Instr.findNow]
  | [], _ :: _, i, h => by simp at h
  | _ :: _, [], i, h => by simp at h
  | e :: es, k :: ks, i, h => by
    simp only [List.map_cons, List.cons.injEq, Prod.mk.injEq] at h
    obtain ⟨⟨h1, h2⟩, h3⟩ := h
    have ih := findNow_ok n (i + 1) h3
    unfold Instr.findNow
    rw [h1]
    by_cases e : n = k
    · subst e
      simp [Instr.sameNow, h2]
    · have e' : (n == k) = false := by simpa using e
      have e2 : ¬ k = n := fun h => e h.symm
      simp only [Instr.sameNow, if_true, e', ih]
      by_cases hn : n ∈ ks
      · rw [if_pos hn, if_pos (List.mem_cons_of_mem _ hn), List.idxOf_cons, show (k == n) = false by simpa using e2]
        simp only [cond_false]
        rw [show i + 1 + List.idxOf n ks = i + (List.idxOf n ks + 1) by omega]
      · rw [if_neg hn, if_neg (by simp [e, hn])]
theorem checkKey_run {kt : TypeId} (hk : P.underlying kt = some (.int .i64)) (b : Bool) (n : Int) (f : Nat) : (Instr.checkKey b (f + 1) kt (.int .i64 n)).run P w = .ok () w := by
  simp [Instr.checkKey, run_underlying hk]
theorem findKey_run {kt : TypeId} (hk : P.underlying kt = some (.int .i64)) (n : Int) {es : List MapEntry} {ks : List Int} (h : es.map (fun e => (e.key, e.val)) = (ks.map fun n => (.int .i64 n, .bool true))) : (Instr.findKey kt (.int .i64 n) es).run P w = .ok (if n ∈ ks then some (0 + ks.idxOf n, .bool true) else none) w := by
  simp only [Instr.findKey, Sem.run_bind, run_underlying hk, Result.andThen_ok, findNow_ok n 0 h, Sem.run_pure]
theorem getObj_run {r : Nat} {es : Array MapEntry} {c : Nat} (h : w.heap[r]? = some (.map es c)) : (getObj r).run P w = .ok (.map es c) w := by
  simp [getObj, Sem.run, h]
theorem ok_lkp (hm : Mem m hd w S X B) {t : TypeId} {x y : Operand} (ho : o.op = .lookup t x y false) (ht : isMap P t = true) (hv : VRs m hd w S vs [a.eval x, a.eval y]) (hs : semLkp m vs = some (v, us)) : StepOK P X B o a m hd w S v us := by
  obtain ⟨p, q, rfl, h, h'⟩ := hv.inv2
  obtain ⟨kt, et, inf, h1, h2, h3, h4⟩ := isMap_ok ht
  unfold semLkp at hs
  split at hs
  · rename_i i ver n hh
    cases hh
    split at hs
    · rename_i v' ks hmi
      split at hs
      · rename_i hc
        subst hc
        cases hs
        have e1 := mh_ok h hmi
        have e2 := h'.at_
        have hob := hm.obj i _ hmi
        simp only [O.is] at hob
        obtain ⟨b, es, c, e3, _, _, _, e4, e5⟩ := hob
        refine StepOK.pure hm (u := .bool (ks.contains n)) ?_ (VR.at_mk rfl)
        have hck := checkKey_run (P := P) (w := w) h2 es.isEmpty n 9999
        have hfk := findKey_run (P := P) (w := w) h2 n e5
        by_cases hn : n ∈ ks
        · rw [if_pos hn] at hfk
          simp [execOp, ho, e1, e3, e2, Instr.lookup, run_underlying h1, getObj_run e4, hck, hfk, hn]
        · rw [if_neg hn] at hfk
          simp [execOp, ho, e1, e3, e2, Instr.lookup, run_underlying h1, getObj_run e4, hck, hfk, hn, zeroValue, typeInfo, h3, h4]
      · cases hs
    · cases hs
  · cases hs
theorem ok_mup (hm : Mem m hd w S X B) {t : TypeId} {x y z : Operand} (ho : o.op = .mapUpdate t x y z) (ht : isMap P t = true) (hz : a.eval z = .bool true) (hv : VRs m hd w S vs [a.eval x, a.eval y]) (hs : semMup m vs = some (v, us)) : StepOK P X B o a m hd w S v us := by
  obtain ⟨p, q, rfl, h, h'⟩ := hv.inv2
  obtain ⟨kt, et, inf, h1, h2, h3, h4⟩ := isMap_ok ht
  unfold semMup at hs
  split at hs
  · rename_i i ver n hh
    cases hh
    split at hs
    · rename_i v' ks hmi
      split at hs
      · rename_i hc
        obtain ⟨rfl, hn⟩ := hc
        cases hs
        have e1 := mh_ok h hmi
        have e2 := h'.at_
        have hob := hm.obj i _ hmi
        simp only [O.is] at hob
        obtain ⟨b, es, c, e3, g1, g2, g3, e4, e5⟩ := hob
        have hck := checkKey_run (P := P) (w := w) h2 false n 9999
        have hfk := findKey_run (P := P) (w := w) h2 n e5
        have hn' : ¬ n ∈ ks := by simpa using hn
        rw [if_neg hn'] at hfk
        have hrun : (execOp a.eval o).run P w = .ok .skip { w with heap := w.heap.setIfInBounds b (.map (es.push { key := .int .i64 n, val := .bool true, born := c }) (c + 1)) } := by
          simp only [execOp, ho, e1, e3, e2, hz, Instr.mapUpdate, Sem.run_bind, run_underlying h1, Result.andThen_ok, getObj_run e4, hck, hfk]
          simp [setObj, Sem.run, e4]
        have ho' := out_upd (w' := { w with heap := w.heap.setIfInBounds b (.map (es.push { key := .int .i64 n, val := .bool true, born := c }) (c + 1)) }) hm i (.mp v' (ks ++ [n])) (hd i) (by simp) rfl rfl rfl (fun k hk hne => by
            have : k ≠ b := fun e => hne _ hmi rfl (by rw [e3, e]; rfl)
            simp [Ne.symm this])
          (fun oo hoo => by rw [hmi] at hoo; cases hoo; exact ⟨Nat.le_refl _, fun _ => ⟨rfl, rfl⟩⟩) (fun k hk _ => .inr ⟨_, hmi, rfl, hk⟩)
          (fun hl hk => by
            simp only [O.is]
            exact ⟨b, es.push { key := .int .i64 n, val := .bool true, born := c }, c + 1, e3, g1, by simpa using g2, g3, by simp [g2], by simp [e5]⟩)
        rw [up_id] at ho'
        exact ⟨_, _, hd, S, hrun, ho', .inr ⟨rfl, rfl⟩⟩
      · cases hs
    · cases hs
  · cases hs
theorem ok_ldg (hm : Mem m hd w S X B) {t : TypeId} {g : Nat} (hG : ∀ g, GL.contains g = true → w.cell? ⟨g, 0, none⟩ = some GLV) (ho : o.op = .load t (.global g)) (hf : form P t = some (1, false)) (hs : semLdg g vs = some (v, us)) : StepOK P X B o a m hd w S v us := by
  unfold semLdg at hs
  split at hs
  · split at hs
    · rename_i hc
      cases hs
      have hu := hG g hc
      have hr := run_load_range (P := P) (w := w) hf (b := g) (q := 0) (cs := [GLV]) (fun j y hj => by
        cases j with
        | zero => simp only [List.getElem?_cons_zero, Option.some.injEq] at hj; subst hj; exact hu
        | succ j => simp at hj) rfl
      refine StepOK.pure hm (u := GLV) ?_ (by simp only [VR, D.is]; exact ⟨trivial, GLV_one⟩)
      have e : a.eval (.global g) = .pointer (some ⟨g, 0, none⟩) := rfl
      simp [execOp, ho, e, hr]
    · cases hs
  · cases hs
theorem ok_ifn (hm : Mem m hd w S X B) {ne : Bool} {t t' : TypeId} {fs : Array (String × TypeId)} {x y : Operand} (ho : o.op = .binOp (if ne then .neq else .eql) t x y t') (ht : P.underlying t = some (.interface fs)) (hy : isCN y = true) (hv : VRs m hd w S vs [a.eval x, a.eval y]) (hs : semIfn ne vs = some (v, us)) : StepOK P X B o a m hd w S v us := by
  obtain ⟨p, q, rfl, h, h'⟩ := hv.inv2
  have hy' : y = .const .nilIface := by
    unfold isCN at hy
    split at hy
    · rfl
    · cases hy
  subst hy'
  unfold semIfn at hs
  split at hs
  · rename_i hh
    cases hh
    have e1 := h.at_
    have e2 : a.eval (.const .nilIface) = .nilIface := rfl
    have he : (Op.equalIn Op.maxDepth t .nilIface .nilIface).run P w = .ok true w := by
      show (Op.equalIn (9999 + 1) t .nilIface .nilIface).run P w = .ok true w
      unfold Op.equalIn
      simp [run_underlying ht]
    cases ne
    · cases hs
      refine StepOK.pure hm (u := .bool true) ?_ (VR.at_mk rfl)
      simp [execOp, ho, e1, e2, eqGuard, binOp, Op.equal, he]
    · cases hs
      refine StepOK.pure hm (u := .bool false) ?_ (VR.at_mk rfl)
      simp [execOp, ho, e1, e2, eqGuard, binOp, Op.equal, he]
  · cases hs
end
end Go.Proofs.YthbhkkdaaipngaaGreatDoor.Sim
end
section
namespace Go.Proofs.YthbhkkdaaipngaaGreatDoor.Sim
open Go Go.RowKit Go.Deep
set_option linter.unusedVariables false

section
variable {P : Program} {X : Nat → Prop} {B : Nat} {o : Oper} {a : Act} {m m0 : M} {hd : H} {w : World} {S : Nat → Prop} {v : V} {us : U} {vs : List V} {d : Nat} {u1 u2 u3 : Value}

theorem op3_none (lo hi mx : Option Operand) (x : Operand) : op3 [some x, lo, hi, mx] = x :: op3 [lo, hi, mx] := rfl
theorem op3_two (lo hi : Option Operand) : op3 [lo, hi] = op3 [lo, hi, none] := by cases lo <;> cases hi <;> rfl
theorem ok_slcs (hm : Mem m hd w S X B) {t : TypeId} {x : Operand} {lo hi : Option Operand} (ho : o.op = .slice t x lo hi none) (hu : P.underlying t = some .string)
    (hv : VRs m hd w S vs ((op3 [some x, lo, hi]).map a.eval)) (hs : semSlc lo.isSome hi.isSome false 0 m vs = some (v, us)) (hp : preSlc lo.isSome hi.isSome false m vs) : StepOK P X B o a m hd w S v us := by
  rw [show op3 [some x, lo, hi] = x :: op3 [lo, hi] from rfl, op3_two, List.map_cons] at hv
  obtain ⟨y, r, rfl, h1, h2⟩ := hv.invc
  unfold semSlc at hs
  split at hs
  · rename_i s r' e
    cases e
    split at hs
    · rename_i b hb
      simp only [if_true, Option.some.injEq, Prod.mk.injEq] at hs
      obtain ⟨rfl, rfl⟩ := hs
      simp only [preSlc, hb] at hp
      obtain ⟨g1, g2, g3⟩ := bnds_ok (mx := none) h2 hb
      obtain ⟨m', hr, _⟩ := bounds_run (P := P) (w := w) false g1 g2 g3 hp (Nat.le_refl _)
      have e1 := h1.at_
      refine StepOK.pure hm (u := .string (s.extract (bl b) (bh b s.size))) ?_ (VR.at_mk rfl)
      simp only [Option.map_none] at hr
      simp [execOp, ho, e1, Instr.sliceAt, Instr.slice, run_underlying hu, hr]
    · cases hs
  · rename_i k' l r' e
    cases e
    split at hs
    · split at hs
      · rename_i hc; exact absurd hc.2 (Nat.lt_irrefl _)
      · cases hs
    · cases hs
  · rename_i i ver r' e
    cases e
    split at hs
    · split at hs
      · rename_i hc; exact absurd hc.2.2 (Nat.lt_irrefl _)
      · cases hs
    · cases hs
  · cases hs
theorem ok_slc (hm : Mem m hd w S X B) {t e : TypeId} {inf : TypeInfo} {x : Operand} {lo hi mx : Option Operand} (ho : o.op = .slice t x lo hi mx) (hu : P.underlying t = some (.slice e)) (hi' : P.info? e = some inf)
    (hv : VRs m hd w S vs ((op3 [some x, lo, hi, mx]).map a.eval)) (hs : semSlc lo.isSome hi.isSome mx.isSome inf.size m vs = some (v, us)) (hp : preSlc lo.isSome hi.isSome mx.isSome m vs) (h0 : 0 < inf.size) : StepOK P X B o a m hd w S v us := by
  rw [op3_none, List.map_cons] at hv
  obtain ⟨y, r, rfl, h1, h2⟩ := hv.invc
  have run : ∀ {b : Option Int × Option Int × Option Int} {ad : Option Addr} {len cap : Nat}, bnds lo.isSome hi.isSome mx.isSome r = some b → a.eval x = .slice ad len cap → okB b len → len ≤ cap →
      ∃ m', (execOp a.eval o).run P w = .ok (.value (.slice (if m' = bl b then ad else ad.map (·.add (bl b * inf.size))) (bh b len - bl b) (m' - bl b))) w ∧ bl b ≤ bh b len ∧ bh b len ≤ len ∧ bh b len ≤ m' ∧ m' ≤ cap ∧ (isZ b = true → bl b = 0 ∧ bh b len = 0 ∧ m' = 0) ∧ (mx = none → m' = cap) ∧ (lo = none → bl b = 0) := by
    intro b ad len cap hb e1 hok hle
    obtain ⟨g1, g2, g3⟩ := bnds_ok h2 hb
    obtain ⟨m', hr, k1, k2, k3, k4, k5, k6, k7⟩ := bounds_run (P := P) (w := w) true g1 g2 g3 hok hle
    refine ⟨m', ?_, k1, k2, k3, k4, k5, fun e => k6 (by rw [e]; rfl), fun e => k7 (by rw [e]; rfl)⟩
    simp [execOp, ho, e1, Instr.sliceAt, Instr.slice, run_underlying hu, hr, sizeOf, typeInfo, hi']
  unfold semSlc at hs
  split at hs
  · split at hs
    · split at hs
      · rename_i hc; omega
      · cases hs
    · cases hs
  · rename_i k' l r' e
    cases e
    split at hs
    · rename_i b hb
      split at hs
      · rename_i hc
        obtain ⟨rfl, _⟩ := hc
        simp only [preSlc, hb] at hp
        have h1' := h1
        simp only [VR, D.is] at h1'
        obtain ⟨ad, cap, xs, e1, hle, _⟩ := h1'
        obtain ⟨m', hr, k1, k2, k3, k4, k5, _⟩ := run hb e1 hp hle
        split at hs
        · rename_i hz
          cases hs
          obtain ⟨z1, z2, z3⟩ := k5 hz
          refine StepOK.pure hm hr ?_
          simp only [VR]
          exact ⟨_, by rw [z1, z2, z3]⟩
        · cases hs
          refine StepOK.pure hm hr ?_
          simp only [VR] at h1 ⊢
          rw [e1] at h1
          exact cut_ok h1 k1 k2 k3 k4
      · cases hs
    · cases hs
  · rename_i i ver r' e
    cases e
    split at hs
    · rename_i b v' k' mu l hb hmi
      split at hs
      · rename_i hc
        obtain ⟨rfl, rfl, _⟩ := hc
        simp only [preSlc, hb, hmi] at hp
        have e0 := og_ok h1 hmi
        obtain ⟨ad, cap, hh, hle, _⟩ := arr_head hm hmi
        obtain ⟨m', hr, k1, k2, k3, k4, k5, k6, k7⟩ := run hb (e0.trans hh) hp hle
        split at hs
        · rename_i hz
          cases hs
          obtain ⟨z1, z2, z3⟩ := k5 hz
          refine StepOK.pure hm hr ?_
          simp only [VR]
          exact ⟨_, by rw [z1, z2, z3]⟩
        · rename_i hlo hmx _
          cases hs
          have hl0 : lo = none := by cases lo <;> simp_all
          have hm0 : mx = none := by cases mx <;> simp_all
          have kl := k7 hl0
          have km := k6 hm0
          refine StepOK.cutArr hm hmi k2 fun ad' len' cap' e3 e4 e5 => ?_
          rw [hh] at e3
          cases e3
          rw [hr, kl, km]
          simp only [Nat.zero_mul, Nat.sub_zero]
          have : (if cap = 0 then ad else Option.map (fun x => x.add 0) ad) = ad := by
            split
            · rfl
            · cases ad <;> simp [Addr.add]
          rw [this]
        · cases hs
          obtain ⟨S1, o1⟩ := out_frz hm hmi
          refine ⟨_, w, hd, S1, hr, o1, .inl ⟨_, rfl, ?_⟩⟩
          have hob := o1.mem.obj i _ (up_same _ _ _)
          simp only [O.is, Bool.false_eq_true, if_false] at hob
          rw [hh] at hob
          simp only [VR]
          exact cut_ok hob k1 k2 k3 k4
      · cases hs
    · cases hs
  · cases hs
theorem rows1_take {T : Nat → Prop} {l : List (List D)} {xs : List Value} (h : Rows w T 1 l xs) (n : Nat) : Rows w T 1 (l.take n) (xs.take n) := by have := h.take n; rwa [Nat.mul_one] at this
theorem ok_cpy (hm : Mem m hd w S X B) {x y : Operand} {t tx e e' : TypeId} {by_ : Nat} (ho : o.op = .call { callee := .builtin .copy, args := #[x, y], argTypes := #[t, tx] }) (he : elemOf' P t = some (e, 1, by_)) (hx : P.underlying tx = some (.slice e'))
    (hv : VRs m hd w S vs [a.eval x, a.eval y]) (hs : semCpy 1 m vs = some (v, us)) : StepOK P X B o a m hd w S v us := by
  obtain ⟨p, q, rfl, h, h'⟩ := hv.inv2
  obtain ⟨inf, hu, hi, hsz, hby⟩ := elem_ok he
  unfold semCpy at hs
  split at hs
  · rename_i i ver y' hh
    cases hh
    split at hs
    · rename_i v' k' l ns hmi hns
      split at hs
      · rename_i hc
        obtain ⟨rfl, rfl, hnot⟩ := hc
        cases hs
        have e1 := og_ok h hmi
        have hmi' := hm.obj i _ hmi
        simp only [O.is, if_true] at hmi'
        obtain ⟨xs, hrow, hoi⟩ := hmi'
        obtain ⟨zs, hzrow, hsrc, ad, cap', ey, hy⟩ := news_ok hm hx h' hns
        have hsz1 : (P.info? e).map (·.size) = some 1 := by rw [hi]; simp [hsz]
        have hxl := hrow.len
        have hzl := hzrow.len
        simp only [Nat.mul_one] at hxl hzl
        have hlist : ns.take l.length ++ l.drop ns.length = ns.take (min ns.length l.length) ++ l.drop (min ns.length l.length) := by
          rcases Nat.le_total ns.length l.length with hle | hle
          · rw [Nat.min_eq_left hle, List.take_of_length_le hle, List.take_of_length_le (Nat.le_refl _)]
          · rw [Nat.min_eq_right hle, List.drop_of_length_le hle, List.drop_of_length_le (Nat.le_refl _)]
        rw [hlist]
        have none0 : min ns.length l.length = 0 → StepOK P X B o a m hd w S (I (min ns.length l.length : Nat)) [(i, .arr v' 1 true (ns.take (min ns.length l.length) ++ l.drop (min ns.length l.length)))] := by
          intro hn0
          obtain ⟨dd, dcap, hh, _⟩ := arr_head hm hmi
          have hr := run_copy_none (P := P) w t tx o.type e dd ad l.length dcap ns.length cap' hu hsz1 hn0
          have hup : up m i (some (.arr v' 1 true l)) = m := by funext j; by_cases e : j = i <;> simp [up, e, hmi]
          rw [hn0]
          simp only [List.take_zero, List.drop_zero, List.nil_append]
          refine ⟨.value (.int .i64 0), w, hd, S, ?_, ?_, .inl ⟨_, rfl, ?_⟩⟩
          · simp [execOp, ho, resolve, invoke, builtin, e1, hh, ey, hr, goInt]
          · simp only [ups]; rw [hup]; exact Out.refl hm
          · exact VR.at_mk rfl
        rcases Nat.eq_zero_or_pos (min ns.length l.length) with hn0 | hn0
        · exact none0 hn0
        · rcases hoi with ⟨_, _, rfl⟩ | ⟨g, off, cap, hg, hc0, hB, hlt, hT, hn', hcm, hth, hra⟩
          · simp at hn0
          · obtain ⟨g2, off2, rfl, hr2⟩ := hy (by omega)
            simp only [Nat.mul_one] at hth
            have hth' : w.there g (off + 0) (zs.take (min ns.length l.length)).length := fun j hj => by
              rw [List.length_take] at hj
              exact hth j (by omega)
            have htl : (zs.take (min ns.length l.length)).length = min ns.length l.length := by rw [List.length_take]; omega
            have hr := run_copy_cells (P := P) w t tx o.type e g off l.length cap ⟨g2, off2, none⟩ ns.length cap' (zs.take (min ns.length l.length)) hu hsz1 htl
              (fun j u hj => by
                rw [List.getElem?_take] at hj
                split at hj
                · rw [Addr.add_lit]; exact hr2 j u hj
                · cases hj) (fun j hj => (hth' j hj).1) (fun j hj => (hth' j hj).2) (fun u hu => hzrow.one u (List.mem_of_mem_take hu))
            have hbl : blk (hd i) = some g := by rw [hg]; cases cap with | zero => omega | succ c => rfl
            have hll : (ns.take (min ns.length l.length) ++ l.drop (min ns.length l.length)).length = l.length := by simp only [List.length_append, List.length_take, List.length_drop]; omega
            have ho' := out_upd (w' := w.setCells g off (zs.take (min ns.length l.length))) hm i (.arr v' 1 true (ns.take (min ns.length l.length) ++ l.drop (min ns.length l.length))) (hd i) (by rw [(size_setCells _ _ _ _).1]; exact Nat.le_refl _) (World.os_setCells _ _ _ _) (size_setCells _ _ _ _).2 (World.output_setCells _ _ _ _)
              (fun b hb hne => World.heap_setCells_other _ _ _ _ hb (fun e => hne _ hmi rfl (by rw [hbl, e])))
              (fun oo hoo => by rw [hmi] at hoo; cases hoo; exact ⟨Nat.le_refl _, fun _ => ⟨rfl, rfl⟩⟩) (fun b hb _ => .inr ⟨_, hmi, rfl, hb⟩)
              (fun hl hk => by
                simp only [O.is, if_true]
                have hrr := range_splice (o := 0) hra hth' (by omega)
                unfold splice at hrr
                simp only [List.take_zero, List.nil_append, Nat.zero_add, Nat.add_zero, htl] at hrr
                have r2 := (Rows.keep hk _ _ _ hrow).drop (min ns.length l.length)
                rw [Nat.mul_one] at r2
                refine ⟨_, (rows1_take (Rows.keep hk _ _ _ hzrow) _).append r2, .inr ⟨g, off, cap, by rw [hll]; exact hg, hc0, hB, by rw [(size_setCells _ _ _ _).1]; exact hlt, hT, by rw [hll]; exact hn', hcm, by rw [Nat.mul_one]; exact World.there_setCells hth _ _ _, hrr⟩⟩)
            rw [up_id] at ho'
            refine ⟨.value (.int .i64 (min ns.length l.length : Nat)), _, hd, S, ?_, ho', .inl ⟨_, rfl, VR.at_mk rfl⟩⟩
            simp [execOp, ho, resolve, invoke, builtin, e1, hg, ey, hr, goInt, htl]
      · cases hs
    · cases hs
  · cases hs
theorem call_eq {c : Call} {bi : Builtin} {xs : List Operand} {ts : List TypeId} (h1 : c.callee = .builtin bi) (h2 : c.args.toList = xs) (h3 : c.argTypes.toList = ts) : c = { callee := .builtin bi, args := xs.toArray, argTypes := ts.toArray } := by
  cases c
  simp only at h1 h2 h3
  subst h1 h2 h3
  simp
/-- EVERY OPERATION THAT IS NO CALL OF A FUNCTION. -/
theorem op_ok0 (hm : Mem m hd w S X B) {k : K} {xs : List Operand} {ts : List TypeId} (hk : opK0 P o = some (k, xs, ts)) (hv : VRs m hd w S vs (xs.map a.eval)) (hs : sem k d m vs = some (v, us)) (hp : pre k m vs) : StepOK P X B o a m hd w S v us := by
  unfold opK0 at hk
  split at hk
  · rename_i x ho; cases hk; exact ok_mov hm (.inl ho) hv hs
  · rename_i x ho; cases hk; exact ok_mov hm (.inr ho) hv hs
  · rename_i c x y ho; cases hk; exact ok_pick hm ho hv hs
  · rename_i t ho
    simp only [Option.map_eq_some_iff] at hk
    obtain ⟨z, hz, hk⟩ := hk
    cases hk
    simp only [sem, Option.some.injEq, Prod.mk.injEq] at hs
    obtain ⟨rfl, rfl⟩ := hs
    exact ok_alloc hm ho hz
  · rename_i t x ho; cases hk; exact ok_box hm ho hv hs
  · rename_i t ps ho
    split at hk
    · rename_i f z hf hz
      split at hk
      · rename_i os hos
        cases hk
        exact ok_build hm ho hf hz hos hv hs
      · cases hk
    · cases hk
  · rename_i t n ps ho
    split at hk
    · rename_i e k' by_ he
      split at hk
      · rename_i z hz
        split at hk
        · rename_i hc
          split at hk
          · rename_i hlt
            cases hk
            unfold isLt at hlt
            split at hlt
            · simp only [Bool.and_eq_true, beq_iff_eq] at hlt
              exact ok_blt hm ho he hz hc.1 hlt.1 hv hs
            · cases hlt
          · cases hk
            by_cases hz0 : z = []
            · subst hz0
              exact absurd (zcs_ok hz) (fun h => by
                obtain ⟨i', u', g1, g2, g3, g4⟩ := h
                obtain ⟨i2, g5, g6, g7, g8⟩ := elem_ok he
                rw [g6] at g1
                cases g1
                simp at g4
                omega)
            · exact ok_bsl hm ho he hz hc.2 hc.1 hz0 hv hs
        · cases hk
      · cases hk
    · cases hk
  · rename_i t x ho
    simp only [Option.map_eq_some_iff] at hk
    obtain ⟨⟨n, g⟩, hf, hk⟩ := hk
    cases hk
    exact ok_load hm ho hf hv hs
  · rename_i t x y ho
    simp only [Option.map_eq_some_iff] at hk
    obtain ⟨⟨n, g⟩, hf, hk⟩ := hk
    cases hk
    exact ok_store hm ho hf hv hs
  · rename_i x ho; cases hk; exact ok_nck hm ho hv hs
  · rename_i op t x y u ho
    split at hk
    · rename_i ht; cases hk; exact ok_beq (ne := false) hm ho ht hv hs
    · rename_i ht; cases hk; exact ok_beq (ne := true) hm ho ht hv hs
    · rename_i ht; cases hk; exact ok_isn (ne := false) hm ho ht hv hs
    · rename_i ht; cases hk; exact ok_isn (ne := true) hm ho ht hv hs
    · rename_i fs ht
      split at hk
      · rename_i hc
        simp only [Bool.and_eq_true, Bool.not_eq_true'] at hc
        cases hk
        exact ok_seq (ne := false) hm ho ht hc.1.1 hc.1.2 hc.2 hv hs
      · cases hk
    · rename_i fs ht
      split at hk
      · rename_i hc
        simp only [Bool.and_eq_true, Bool.not_eq_true'] at hc
        cases hk
        exact ok_seq (ne := true) hm ho ht hc.1.1 hc.1.2 hc.2 hv hs
      · cases hk
    · cases hk
      exact ok_bin hm ho hv hs hp
  · rename_i op t x ho; cases hk; exact ok_un hm ho hv hs
  · rename_i s t x ho
    split at hk
    · rename_i k' hk'
      split at hk
      · rename_i hc
        cases hk
        exact ok_conv hm ho hk' hc hv hs
      · cases hk
    · cases hk
  · rename_i f first cs ho
    split at hk
    · rename_i hc
      cases hk
      simp only [sem, Option.some.injEq, Prod.mk.injEq] at hs
      obtain ⟨rfl, rfl⟩ := hs
      exact ok_mkf hm ho (by simpa using hc) hv
    · cases hk
  · rename_i t l c ho
    split at hk
    · rename_i e k' by_ he
      split at hk
      · rename_i z hz
        split at hk
        · rename_i hc
          split at hk
          · rename_i hbx
            cases hk
            unfold isBx at hbx
            split at hbx
            · rename_i q' i' j'
              obtain rfl : i' = j' := by simpa using hbx
              exact ok_mkb hm ho he hz hv hs hp
            · cases hbx
          · cases hk
            by_cases hz0 : z = []
            · subst hz0
              exact absurd (zcs_ok hz) (fun h => by
                obtain ⟨i', u', g1, g2, g3, g4⟩ := h
                obtain ⟨i2, g5, g6, g7, g8⟩ := elem_ok he
                rw [g6] at g1
                cases g1
                simp at g4
                omega)
            · exact ok_mks hm ho he hz hc hz0 hv hs hp
        · cases hk
      · cases hk
    · cases hk
  · rename_i t x lo hi mx ho
    split at hk
    · rename_i hu
      split at hk
      · rename_i hc
        have : mx = none := by cases mx <;> simp_all
        subst this
        cases hk
        exact ok_slcs hm ho hu hv hs hp
      · cases hk
    · rename_i e hu
      split at hk
      · rename_i inf hi'
        split at hk
        · rename_i hc
          cases hk
          exact ok_slc hm ho hu hi' hv hs hp hc
        · cases hk
      · cases hk
    · cases hk
  · rename_i t x j ho
    split at hk
    · rename_i fs hu
      split at hk
      · rename_i f hf
        split at hk
        · rename_i inf hi
          split at hk
          · rename_i hc
            cases hk
            exact ok_fad hm ho hu hf hi hc hv hs
          · cases hk
        · cases hk
      · cases hk
    · cases hk
  · rename_i t x j ho
    split at hk
    · rename_i fs hu
      split at hk
      · rename_i f hf
        simp only [Option.map_eq_some_iff] at hk
        obtain ⟨⟨n, g⟩, hi, hk⟩ := hk
        cases hk
        exact ok_fld hm ho hu hf hi hv hs
      · cases hk
    · cases hk
  · rename_i t x y ho
    split at hk
    · rename_i e hu
      split at hk
      · rename_i inf hi
        split at hk
        · cases hk
          exact ok_iad hm ho hu hi hv hs hp
        · cases hk
      · cases hk
    · rename_i n e hu
      split at hk
      · rename_i inf hi
        split at hk
        · cases hk
          exact ok_iada hm ho hu hi hv hs hp
        · cases hk
      · cases hk
    · cases hk
  · rename_i t x y ho
    split at hk
    · rename_i hu
      cases hk
      exact ok_ixs hm ho hu hv hs hp
    · rename_i n e hu
      split at hk
      · rename_i k' g hi
        cases hk
        exact ok_ixa hm ho hu hi hv hs hp
      · cases hk
    · cases hk
  · rename_i x j ho; cases hk; exact ok_ext hm ho hv hs
  · rename_i c ho
    split at hk
    · split at hk
      · split at hk
        · cases hk; simp [sem] at hs
        · cases hk
      · cases hk
    · cases hk; simp [sem] at hs
    · rename_i hc
      split at hk
      · rename_i x t hxs hts
        have e := call_eq hc hxs hts
        rw [e] at ho
        split at hk
        · rename_i hu; cases hk; exact ok_lens hm ho hu hv hs
        · rename_i e hu; cases hk; exact ok_len hm ho hu hv hs
        · cases hk
      · cases hk
    · rename_i hc
      split at hk
      · rename_i x y t tx hxs hts
        have e := call_eq hc hxs hts
        rw [e] at ho
        split at hk
        · rename_i e k' by_ e' he hx
          split at hk
          · rename_i hz
            obtain ⟨z, hz⟩ := Option.isSome_iff_exists.1 hz
            cases hk
            exact ok_app hm ho he hz hx hv hs hp
          · cases hk
        · cases hk
      · cases hk
    · rename_i hc
      split at hk
      · rename_i x y t tx hxs hts
        have e := call_eq hc hxs hts
        rw [e] at ho
        split at hk
        · rename_i e k' by_ e' he hx
          split at hk
          · rename_i hk1
            subst hk1
            cases hk
            exact ok_cpy hm ho he hx hv hs
          · cases hk
        · cases hk
      · cases hk
    · rename_i hc
      split at hk
      · rename_i x y hxs
        have e := call_eq hc hxs rfl
        rw [e] at ho
        cases hk
        exact ok_mn hm ho hv hs
      · cases hk
    · rename_i hc
      split at hk
      · rename_i x y hxs
        have e := call_eq hc hxs rfl
        rw [e] at ho
        cases hk
        exact ok_mx hm ho hv hs
      · cases hk
    · cases hk
  · cases hk
theorem isCT_ok {z : Operand} (h : isCT z = true) : z = .const (.bool true) := by
  unfold isCT at h
  split at h
  · rfl
  · cases h
/-- .. and those that are looked at in their own way. -/
theorem op_ok (hG : ∀ g, GL.contains g = true → w.cell? ⟨g, 0, none⟩ = some GLV) (hm : Mem m hd w S X B) {f : List Nat} {k : K} {xs : List Operand} {ts : List TypeId} (hk : opK P f o = some (k, xs, ts)) (hv : VRs m hd w S vs (xs.map a.eval)) (hs : sem k d m vs = some (v, us)) (hp : pre k m vs) : StepOK P X B o a m hd w S v us := by
  unfold opK at hk
  split at hk
  · rename_i r hx
    cases hk
    unfold opX at hx
    split at hx
    · rename_i t n ps ho
      split at hx
      · split at hx
        · rename_i e _ he
          split at hx
          · rename_i q hz
            split at hx
            · rename_i hc
              cases hx
              exact ok_bslv hm ho he hz hc.2 (by simpa using hc.1) hv hs
            · cases hx
          · cases hx
        · cases hx
      · cases hx
    · rename_i t x lo ho
      split at hx
      · split at hx
        · rename_i e hu
          split at hx
          · rename_i inf hi
            split at hx
            · cases hx; exact ok_tail hm ho hu hi hv hs hp
            · cases hx
          · cases hx
        · cases hx
      · cases hx
    · rename_i t x hi mx ho
      split at hx
      · split at hx
        · rename_i e hu
          split at hx
          · rename_i inf hi'
            split at hx
            · cases hx; exact ok_cutm hm ho hu hi' hv hs hp
            · cases hx
          · cases hx
        · cases hx
      · split at hx
        · split at hx
          · rename_i e hu
            split at hx
            · rename_i inf hi'
              split at hx
              · cases hx; exact ok_fxc hm ho hu hi' hv hs hp
              · cases hx
            · cases hx
          · cases hx
        · cases hx
    · rename_i t ho
      split at hx
      · cases hx
        simp only [sem] at hs
        exact ok_mkm hm ho hs
      · cases hx
    · rename_i t x y ho
      split at hx
      · rename_i hc; cases hx; exact ok_lkp hm ho hc hv hs
      · cases hx
    · rename_i t x y z ho
      split at hx
      · rename_i hc
        simp only [Bool.and_eq_true] at hc
        cases hx
        exact ok_mup hm ho hc.1 (by rw [isCT_ok hc.2]; rfl) hv hs
      · cases hx
    · rename_i t g ho
      split at hx
      · rename_i hf
        cases hx
        exact ok_ldg hm hG ho hf hs
      · cases hx
    · rename_i t x y u ho
      split at hx
      · rename_i fs hu
        split at hx
        · rename_i hc; cases hx; exact ok_ifn (ne := false) hm ho hu hc hv hs
        · cases hx
      · cases hx
    · rename_i t x y u ho
      split at hx
      · rename_i fs hu
        split at hx
        · rename_i hc; cases hx; exact ok_ifn (ne := true) hm ho hu hc hv hs
        · cases hx
      · cases hx
    · cases hx
  · split at hk
    · rename_i r h0
      cases hk
      exact op_ok0 hm h0 hv hs hp
    · cases hk
      simp [sem] at hs
end
end Go.Proofs.YthbhkkdaaipngaaGreatDoor.Sim
end
