/- The rest of an array of the call's own is cleared: of no program. Conditions: none. -/
import Derived.Test.YtabfajhflaladaaKSimO
import Derived.Test.YtabfajhflaladaaKSimK
namespace Go.Proofs.Ytabfajhflaladaa.Sim
open Go Go.RowKit Go.Deep
set_option linter.unusedVariables false

section
variable {P : Program} {X : Nat → Prop} {B : Nat} {o : Oper} {a : Act} {m : M} {hd : H} {w : World} {S : Nat → Prop} {v : V} {us : U}
theorem run_clear {t e ty : TypeId} {inf : TypeInfo} {zu : Value} (hu : P.underlying t = some (.slice e)) (hi : P.info? e = some inf) (hz : inf.zero = some zu) (h0 : 0 < zu.cells.toList.length) (h1 : ∀ y ∈ zu.cells.toList, y.oneCell' = true) (b q n c : Nat) (hth : w.there b q (n * zu.cells.toList.length)) :
    (Builtin.clear_ #[t] ty #[.slice (some ⟨b, q, none⟩) n c]).run P w = .ok (.tuple #[]) (w.setCells b q (List.replicate n zu.cells.toList).flatten) := by
  have hml := made_list zu.cells.toList h0 n
  have hzc : (Builtin.zeroCells zu.cells n).toList = (List.replicate n zu.cells.toList).flatten := by
    rw [← hml]
    simp [Builtin.zeroCells, madeCells]
  have hlen : (List.replicate n zu.cells.toList).flatten.length = n * zu.cells.toList.length := by simp
  have hst := run_storeCells_cells (P := P) b q (List.replicate n zu.cells.toList).flatten 0 w (fun j hj => by simpa using (hth j (by omega)).1) (fun j hj => by simpa using (hth j (by omega)).2)
    (fun y hy => by
      obtain ⟨l, hl, hy⟩ := List.mem_flatten.1 hy
      rw [List.eq_of_mem_replicate hl] at hy
      exact h1 y hy)
  simp only [Nat.add_zero] at hst
  cases n with
  | zero => simp [Builtin.clear_, run_underlying hu, World.setCells]
  | succ n => simp [Builtin.clear_, run_underlying hu, zeroValue, typeInfo, hi, hz, hzc, hst]
theorem run_clear_none {t e ty : TypeId} (hu : P.underlying t = some (.slice e)) (ad : Option Addr) (c : Nat) : (Builtin.clear_ #[t] ty #[.slice ad 0 c]).run P w = .ok (.tuple #[]) w := by
  cases ad <;> simp [Builtin.clear_, run_underlying hu]
/-- What stands there afterwards. -/
def clrL (k : Nat) (z : List V) (l : List (List D)) (n : Nat) : List (List D) := l.take n ++ List.replicate (l.length - n) (zD z)
theorem clr_ok (hm : Mem m hd w S X B) {i ver k n by_ : Nat} {t e ty : TypeId} {z : List V} {l : List (List D)} (hi : m i = some (.arr ver k true l)) (hn : n ≤ l.length) (he : elemOf' P t = some (e, k, by_)) (hz : zcs P e = some z) (hk0 : 0 < k) :
    ∃ ad len cap, hd i = .slice ad len cap ∧ len = l.length ∧ len ≤ cap ∧ ∃ w', (Builtin.clear_ #[t] ty #[.slice (if cap = n then ad else ad.map (·.add (n * k))) (len - n) (cap - n)]).run P w = .ok (.tuple #[]) w' ∧ Out X B m hd w S (ups m [(i, .arr ver k true (clrL k z l n))]) hd w' S := by
  obtain ⟨inf, hu, hinf, hsz, hby⟩ := elem_ok he
  obtain ⟨inf', zu, hi', hzero, hzok, hzl⟩ := zcs_ok hz
  rw [hinf] at hi'
  cases hi'
  have hoi := hm.obj i _ hi
  simp only [O.is, if_true] at hoi
  obtain ⟨xs, hrow, hoi⟩ := hoi
  have hxl := hrow.len
  have hcz := zD_ok (w := w) (S := S) hzok
  have hzk : zu.cells.toList.length = k := by have := hcz.len; simp only [zD, List.length_map] at this; omega
  have hzdl : (zD z).length = k := by simp only [zD, List.length_map]; omega
  rcases hoi with ⟨ad, hg, rfl⟩ | ⟨g, off, cap, hg, hc0, hB, hlt, hT, hln, hcm, hth, hra⟩
  · have hn0 : n = 0 := by simpa using hn
    subst hn0
    refine ⟨ad, 0, 0, hg, rfl, Nat.le_refl _, w, run_clear_none hu _ _, ?_⟩
    have e1 : ups m [(i, O.arr ver k true (clrL k z [] 0))] = m := by
      simp only [ups, clrL, List.take_nil, List.length_nil, List.replicate, Nat.sub_self, List.append_nil]
      rw [← hi, up_id]
    rw [e1]
    exact Out.refl hm
  · refine ⟨_, _, cap, hg, rfl, hln, ?_⟩
    have hbl : blk (hd i) = some g := by rw [hg]; cases cap with | zero => omega | succ c => rfl
    by_cases hnl : n = l.length
    · subst hnl
      rw [Nat.sub_self]
      refine ⟨w, run_clear_none hu _ _, ?_⟩
      have e1 : ups m [(i, O.arr ver k true (clrL k z l l.length))] = m := by
        simp only [ups, clrL, List.take_length, Nat.sub_self, List.replicate, List.append_nil]
        rw [← hi, up_id]
      rw [e1]
      exact Out.refl hm
    · have hlt2 : n < l.length := by omega
      have hle2 : l.length * k ≤ cap * k := Nat.mul_le_mul_right _ hln
      have hnk : n * k + (l.length - n) * k = l.length * k := by rw [← Nat.add_mul]; congr 1; omega
      rw [if_neg (by omega)]
      have had : (some (⟨g, off, none⟩ : Addr)).map (·.add (n * k)) = some ⟨g, off + n * k, none⟩ := by simp [Addr.add_mid]
      rw [had]
      have hth' : w.there g (off + n * k) ((l.length - n) * zu.cells.toList.length) := fun j hj => by
        rw [hzk] at hj
        have := hth (n * k + j) (by omega)
        rwa [← Nat.add_assoc] at this
      refine ⟨_, run_clear hu hinf hzero (by omega) hcz.one _ _ _ _ hth', ?_⟩
      generalize hZ : (List.replicate (l.length - n) zu.cells.toList).flatten = Z
      have hZl : Z.length = (l.length - n) * k := by rw [← hZ]; simp [hzk]
      have ho := out_upd (w' := w.setCells g (off + n * k) Z) hm i (.arr ver k true (clrL k z l n)) (hd i) (by rw [(size_setCells _ _ _ _).1]; exact Nat.le_refl _) (World.os_setCells _ _ _ _) (size_setCells _ _ _ _).2 (World.output_setCells _ _ _ _)
        (fun b hb hne => World.heap_setCells_other _ _ _ _ hb (fun e => hne _ hi rfl (by rw [hbl, e])))
        (fun oo hoo => by rw [hi] at hoo; cases hoo; exact ⟨Nat.le_refl _, fun _ => ⟨rfl, rfl⟩⟩) (fun b hb _ => .inr ⟨_, hi, rfl, hb⟩)
        (fun hl hk => by
          have hll : (clrL k z l n).length = l.length := by simp [clrL]; omega
          simp only [O.is, if_true]
          have hr1 : Rows (w.setCells g (off + n * k) Z) S k (clrL k z l n) (xs.take (n * k) ++ Z) := by
            have := (Rows.keep hk _ _ _ (Rows.take n hrow)).append (rows_rep (w := w.setCells g (off + n * k) Z) (S := S) (zD_ok hzok) hzdl (l.length - n))
            rw [hZ] at this
            exact this
          have hsp : splice xs (n * k) Z = xs.take (n * k) ++ Z := by
            unfold splice
            rw [List.drop_of_length_le (by omega), List.append_nil]
          refine ⟨_, hr1, .inr ⟨g, off, cap, by rw [hll]; exact hg, hc0, hB, by rw [(size_setCells _ _ _ _).1]; exact hlt, hT, by rw [hll]; exact hln, hcm, World.there_setCells hth _ _ _, ?_⟩⟩
          rw [← hsp]
          exact range_splice hra (by rw [hzk] at hth'; rw [hZl]; exact hth') (by omega))
      rw [up_id] at ho
      exact ho
theorem clr_call_eq {c : Call} {f : Callee} {u : Operand} {t : TypeId} (h1 : c.callee = f) (h2 : c.args.toList = [u]) (h3 : c.argTypes.toList = [t]) : c = { callee := f, args := #[u], argTypes := #[t] } := by
  obtain ⟨ca, ⟨ar⟩, ⟨at'⟩⟩ := c
  simp only at h1 h2 h3
  rw [h1, h2, h3]
theorem clrOf_ok {N : Nat} {dr : Bool} {l : List Oper} {c : Clr} (h : clrOf P N dr l = some c) : dr = false ∧ ∃ o1 o2 o3 o4 t e by_, l = [o1, o2, o3, o4] ∧ (o1.op = .move (.tmp c.sl) ∧ o1.dst = some c.d1 ∧ o1.guard = none) ∧ (o2.op = .move (.tmp c.il) ∧ o2.dst = some c.d2 ∧ o2.guard = none) ∧
    (o3.op = .slice t (.tmp c.d1) (some (.tmp c.d2)) none none ∧ o3.dst = some c.d3 ∧ o3.guard = none) ∧ (o4.op = .call { callee := .builtin .clear, args := #[.tmp c.d3], argTypes := #[t] } ∧ o4.dst = none ∧ o4.guard = none) ∧ elemOf' P t = some (e, c.k, by_) ∧ zcs P e = some c.z ∧ c.d1 ≠ c.d2 ∧ c.il ≠ c.d1 ∧ c.d1 < N ∧ c.d2 < N ∧ c.d3 < N ∧ 0 < c.k := by
  unfold clrOf at h
  split at h
  · split at h
    · rename_i c' _ _ _ _ e k by_ h1 h2 h3 h4
      split at h
      · rename_i z h5
        split at h
        · rename_i h6
          obtain ⟨rfl, rfl, rfl, rfl, g1, g2, g3, g4, g5, g6⟩ := h6
          cases h
          refine ⟨rfl, _, _, _, _, _, e, by_, rfl, ⟨rfl, rfl, rfl⟩, ⟨rfl, rfl, rfl⟩, ⟨rfl, rfl, rfl⟩, ⟨?_, rfl, rfl⟩, h4, h5, g1, g2, g3, g4, g5, g6⟩
          exact congrArg Op.call (clr_call_eq h1 h2 h3)
        · cases h
      · cases h
    · cases h
  · cases h
theorem run_move {x : Operand} (ho : o.op = .move x) : (execOp a.eval o).run P w = .ok (.value (a.eval x)) w := by simp [execOp, ho]
theorem run_slice_lo {t e : TypeId} {inf : TypeInfo} {x y : Operand} {ad : Option Addr} {len cap n : Nat} {kk : IntKind} (ho : o.op = .slice t x (some y) none none) (hu : P.underlying t = some (.slice e)) (hi : P.info? e = some inf) (hx : a.eval x = .slice ad len cap) (hy : a.eval y = .int kk n) (hn : n ≤ len) (hc : len ≤ cap) :
    (execOp a.eval o).run P w = .ok (.value (.slice (if cap = n then ad else ad.map (·.add (n * inf.size))) (len - n) (cap - n))) w := by
  obtain ⟨m', hr, k1, k2, k3, k4, k5, k6, k7⟩ := bounds_run (P := P) (w := w) true (lo := some (.int kk n)) (hi := none) (mx := none) (b := (some (n : Int), none, none)) (len := len) (cap := cap) (.some kk n) .none .none (by simp only [okB]; omega) hc
  have := k6 rfl
  subst this
  simp only [bl, bh, Option.getD_some, Int.toNat_natCast] at hr
  simp [execOp, ho, hx, hy, Instr.sliceAt, Instr.slice, run_underlying hu, hr, sizeOf, typeInfo, hi]
theorem run_clear_op {t : TypeId} {d : Nat} {u : Value} {w' : World} (ho : o.op = .call { callee := .builtin .clear, args := #[.tmp d], argTypes := #[t] }) (hx : a.eval (.tmp d) = u) (hr : (Builtin.clear_ #[t] o.type #[u]).run P w = .ok (.tuple #[]) w') : (execOp a.eval o).run P w = .ok (.value (.tuple #[])) w' := by
  simp [execOp, ho, hx, resolve, invoke, builtin, hr]
end
section
variable {P : Program} {cx : Cx} {s : St} {a : Act} {w : World}
theorem eval_put {cxN : Nat} (hN : a.tmps.size = cxN) (d : Nat) (hd : d < cxN) (u : Value) (t : Nat) : (a.put (some d) u).eval (.tmp t) = if t = d then u else a.eval (.tmp t) := by
  have := tmps_put hN d hd u t
  simpa [Act.eval] using this
theorem put_size {cxN : Nat} (hN : a.tmps.size = cxN) (d : Option Nat) (u : Value) : (a.put d u).tmps.size = cxN := by cases d <;> simp [Act.put, hN]
/-- THE RULE. -/
theorem clr_wp {N : Nat} {ops : Array Oper} {c : Clr} {dr : Bool} {l : List Oper} (hc : clrOf P N dr l = some c) (hN : cx.N = N) (hR : Rel cx s a w) {i ver : Nat} {n : Nat} {kk : IntKind} {ll : List (List D)} (hT : s.T c.sl = .og i ver) (hI : s.T c.il = .d (.at (.int kk n))) (hm : s.m i = some (.arr ver c.k true ll)) (hn : n ≤ ll.length)
    {Q : Exit → Act → World → Prop} (hQ : ∀ a' w', Rel cx (((s.put (some c.d1) (.og i ver) []).put (some c.d2) (.d (.at (.int kk n))) []).put (some c.d3) .un [(i, .arr ver c.k true (clrL c.k c.z ll n))]) a' w' → Q .normal a' w') : dr = false ∧ wpList P ops Q l a w := by
  obtain ⟨hdr, o1, o2, o3, o4, t, e, by_, rfl, ⟨p1, p2, p3⟩, ⟨q1, q2, q3⟩, ⟨r1, r2, r3⟩, ⟨s1, s2, s3⟩, he, hz, g1, g2, g3, g4, g5, g6⟩ := clrOf_ok hc
  refine ⟨hdr, ?_⟩
  subst hN
  obtain ⟨hd, S, hmem, hv, hfr, hdef, hsz, hsub, hle⟩ := hR
  obtain ⟨ad, len, cap, e1, e2, e3, w', e4, e5⟩ := clr_ok (P := P) (ty := o4.type) hmem hm hn he hz g6
  obtain ⟨inf, hu, hinf, hsz', hby⟩ := elem_ok he
  have v1 : a.eval (.tmp c.sl) = .slice ad len cap := by
    have := hv c.sl
    rw [hT] at this
    simp only [VR] at this
    obtain ⟨_, y, hy, _, h⟩ := this
    rw [hm] at hy
    cases hy
    rw [← e1]
    exact h _ _ _ rfl
  have v2 : a.eval (.tmp c.il) = .int kk n := by
    have := hv c.il
    rw [hI] at this
    exact this.at_
  have w1 : Region.wanted o1 (yielded ops a.tmps) = true := by simp [Region.wanted, p3]
  rw [wpList, if_pos w1]
  refine .inl ?_
  unfold Oper.wp
  rw [run_move p1, v1]
  simp only [Oper.upon]
  rw [p2]
  have z1 := put_size hsz (some c.d1) (.slice ad len cap)
  rw [wpList, if_pos (by simp [Region.wanted, q3])]
  refine .inl ?_
  unfold Oper.wp
  rw [run_move q1, eval_put hsz _ g3, if_neg g2, v2]
  simp only [Oper.upon]
  rw [q2]
  have z2 := put_size z1 (some c.d2) (.int kk n)
  rw [wpList, if_pos (by simp [Region.wanted, r3])]
  refine .inl ?_
  unfold Oper.wp
  rw [run_slice_lo r1 hu hinf (by rw [eval_put z1 _ g4, if_neg g1, eval_put hsz _ g3, if_pos rfl]) (by rw [eval_put z1 _ g4, if_pos rfl]) (by omega) e3]
  simp only [Oper.upon]
  rw [r2, hsz']
  rw [wpList, if_pos (by simp [Region.wanted, s3])]
  refine .inl ?_
  unfold Oper.wp
  rw [run_clear_op s1 (eval_put z2 _ g5 _ _) (by rw [if_pos rfl]; exact e4)]
  simp only [Oper.upon]
  rw [s2]
  rw [wpList]
  refine hQ _ _ ⟨hd, S, e5.mem, fun t => ?_, hfr.trans e5.fr (fun i hi h => h.elim id fun h => by omega), hdef, put_size (put_size z2 _ _) _ _, fun b hb => (e5.more b hb).elim (hsub b) .inr, hle.trans e5.le⟩
  simp only [Act.put]
  have t3 := tmps_put z2 c.d3 g5 (.slice (if cap = n then ad else ad.map (·.add (n * c.k))) (len - n) (cap - n)) t
  have t2 := tmps_put z1 c.d2 g4 (.int kk n) t
  have t1 := tmps_put hsz c.d1 g3 (.slice ad len cap) t
  simp only [Act.put] at t1 t2 t3
  rw [t3]
  simp only [St.put, up]
  split
  · simp only [VR]
  · rw [t2]
    split
    · exact VR.at_mk rfl
    · rw [t1]
      split
      · refine e5.vr ?_
        simp only [VR]
        refine ⟨rfl, _, hm, Nat.le_refl _, fun k' mu' l' e => ?_⟩
        exact e1.symm
      · exact e5.vr (hv t)
end
end Go.Proofs.Ytabfajhflaladaa.Sim
