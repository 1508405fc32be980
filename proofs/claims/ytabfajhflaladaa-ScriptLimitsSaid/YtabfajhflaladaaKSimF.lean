/- Arrays as steps of a walk: of no program. Conditions: none. -/
import Derived.Test.YtabfajhflaladaaKSimE
namespace Go.Proofs.Ytabfajhflaladaa.Sim
open Go Go.RowKit Go.Deep
set_option linter.unusedVariables false

section
variable {P : Program} {X : Nat → Prop} {B : Nat} {o : Oper} {a : Act} {m : M} {hd : H} {w : World} {S : Nat → Prop} {v : V} {us : U}
theorem up_id {α : Type} (f : Nat → α) (i : Nat) : up f i (f i) = f := by funext j; by_cases e : j = i <;> simp [up, e]

/-- Cells of an element of an array are written. -/
theorem StepOK.wrArr {m1 : M} {us1 : U} {S1 : Nat → Prop} (h1 : Out X B m hd w S m1 hd w S1) (hus : ups m us1 = m1) {i ver k e q : Nat} {l : List (List D)} {ds : List D} {vs : List Value} (hi : m1 i = some (.arr ver k true l))
    (hr : ∀ g off n cap, hd i = .slice (some ⟨g, off, none⟩) n cap → w.there g (off + (e * k + q)) vs.length → (execOp a.eval o).run P w = .ok .skip (w.setCells g (off + (e * k + q)) vs))
    (hx : Cells w S1 ds vs) (he : e < l.length) (ho : q + ds.length ≤ k) : StepOK P X B o a m hd w S .un (us1 ++ [(i, .arr ver k true (l.set e (splice (l.getD e []) q ds)))]) := by
  have h := h1.mem
  have hoi := h.obj i _ hi
  simp only [O.is, if_true] at hoi
  obtain ⟨xs, hrow, hoi⟩ := hoi
  have hle : (e + 1) * k ≤ l.length * k := Nat.mul_le_mul_right _ he
  rw [Nat.add_mul, Nat.one_mul] at hle
  have hxl := hrow.len
  have hvl := hx.len
  rcases hoi with ⟨_, _, rfl⟩ | ⟨g, off, cap, hg, hc0, hB, hlt, hT, hn, hcm, hth, hra⟩
  · simp at he
  · have hle2 : l.length * k ≤ cap * k := Nat.mul_le_mul_right _ hn
    have hth' : w.there g (off + (e * k + q)) vs.length := fun j hj => by
      have := hth (e * k + q + j) (by omega)
      rwa [← Nat.add_assoc] at this
    have hbl : blk (hd i) = some g := by rw [hg]; cases cap with | zero => omega | succ c => rfl
    have ho := out_upd (w' := w.setCells g (off + (e * k + q)) vs) h i (.arr ver k true (l.set e (splice (l.getD e []) q ds))) (hd i) (by rw [(size_setCells _ _ _ _).1]; exact Nat.le_refl _) (World.os_setCells _ _ _ _) (size_setCells _ _ _ _).2 (World.output_setCells _ _ _ _)
      (fun b hb hne => World.heap_setCells_other _ _ _ _ hb (fun e => hne _ hi rfl (by rw [hbl, e])))
      (fun oo hoo => by rw [hi] at hoo; cases hoo; exact ⟨Nat.le_refl _, fun _ => ⟨rfl, rfl⟩⟩) (fun b hb _ => .inr ⟨_, hi, rfl, hb⟩)
      (fun hl hk => by
        simp only [O.is, if_true]
        refine ⟨_, (Rows.put (Cells.keep hk _ _ hx) ho (Rows.keep hk _ _ _ hrow) he), .inr ⟨g, off, cap, by rw [List.length_set]; exact hg, hc0, hB, by rw [(size_setCells _ _ _ _).1]; exact hlt, hT, by rw [List.length_set]; exact hn, hcm, World.there_setCells hth _ _ _, range_splice hra hth' (by omega)⟩⟩)
    rw [up_id] at ho
    refine ⟨_, _, hd, S1, hr _ _ _ _ hg hth', ?_, .inr ⟨rfl, rfl⟩⟩
    rw [ups_append, hus]
    exact h1.trans ho

/-- Elements are appended to an array. -/
theorem StepOK.appArr (h : Mem m hd w S X B) {i ver k : Nat} {l ns : List (List D)} {news : List Value} {x : Value} {t tx : TypeId} (hi : m i = some (.arr ver k true l)) (e : TypeId) (inf : TypeInfo) (z : Value) (bytes : Nat) (ht : P.underlying t = some (.slice e)) (hinf : P.info? e = some inf) (hz : inf.zero = some z) (hsize : inf.size = k) (hby : inf.bytes = bytes) (hzs : z.cells.size = k)
    (hr : ∀ v' w', (Builtin.append_ #[t, tx] o.type #[hd i, x]).run P w = .ok v' w' → (execOp a.eval o).run P w = .ok (.value v') w')
    (hs : Src P k tx x ns.length news w) (hn : Rows w S k ns news) (h63 : l.length + ns.length ≤ 140737488355328) (hbytes : (l.length + ns.length) * bytes ≤ 140737488355328) :
    StepOK P X B o a m hd w S (.og i (ver + 1)) [(i, .arr (ver + 1) k true (l ++ ns))] := by
  have hoi := h.obj i _ hi
  simp only [O.is, if_true] at hoi
  obtain ⟨v', w', r1, r2, r3, r4⟩ := run_append_arr (P := P) t tx o.type e inf z bytes ht hinf hz hsize hby hzs hoi h.base h.lt x news hs hn h63 hbytes
  have ho := out_upd (w' := w') h i (.arr (ver + 1) k true (l ++ ns)) v' r3.size r3.os r3.tape r3.output (fun b hb hne => r3.block b hb (fun e => hne _ hi rfl e.symm))
    (fun oo hoo => by rw [hi] at hoo; cases hoo; exact ⟨Nat.le_succ _, fun e => by simp [O.ver] at e⟩) (fun b hb _ => (r4 b hb).elim (fun e => .inr ⟨_, hi, rfl, e⟩) (fun e => .inl (by omega)))
    (fun hl hk => by simp only [O.is, if_true]; exact r2)
  refine ⟨_, w', up hd i v', S, hr _ _ r1, ho, .inl ⟨_, rfl, ?_⟩⟩
  simp only [VR, ups]
  refine ⟨?_, _, up_same _ _ _, Nat.le_refl _, fun k' mu' l' e => by rw [up_same]⟩
  obtain ⟨_, _, ⟨a, rfl, _⟩ | ⟨g, off, cap, rfl, _⟩⟩ := r2 <;> rfl
/-- .. to a nil slice, or one of no capacity. -/
theorem StepOK.appNil (h : Mem m hd w S X B) {d k : Nat} {ns : List (List D)} {news : List Value} {x : Value} {ad : Option Addr} {t tx : TypeId} (e : TypeId) (inf : TypeInfo) (z : Value) (bytes : Nat) (ht : P.underlying t = some (.slice e)) (hinf : P.info? e = some inf) (hz : inf.zero = some z) (hsize : inf.size = k) (hby : inf.bytes = bytes) (hzs : z.cells.size = k)
    (hr : ∀ v' w', (Builtin.append_ #[t, tx] o.type #[.slice ad 0 0, x]).run P w = .ok v' w' → (execOp a.eval o).run P w = .ok (.value v') w')
    (hs : Src P k tx x ns.length news w) (hn : Rows w S k ns news) (h63 : ns.length ≤ 140737488355328) (hbytes : ns.length * bytes ≤ 140737488355328) :
    StepOK P X B o a m hd w S (.og d (nv m d)) [(d, .arr (nv m d) k true ns)] := by
  have h0 : Arr w B X S k (.slice ad 0 0) [] := ⟨[], by simp [Rows], .inl ⟨ad, rfl, rfl⟩⟩
  have hb0 : blk (.slice ad 0 0) = none := by cases ad <;> rfl
  obtain ⟨v', w', r1, r2, r3, r4⟩ := run_append_arr (P := P) t tx o.type e inf z bytes ht hinf hz hsize hby hzs h0 h.base h.lt x news hs hn (by simpa using h63) (by simpa using hbytes)
  rw [hb0] at r3 r4
  have ho := out_upd (w' := w') h d (.arr (nv m d) k true ns) v' r3.size r3.os r3.tape r3.output (fun b hb hne => r3.block b hb (fun e => by cases e))
    (fun oo hoo => ⟨by simp [nv, hoo, O.ver], fun e => by simp [nv, hoo, O.ver] at e⟩) (fun b hb _ => (r4 b hb).elim (fun e => by cases e) (fun e => .inl (by omega)))
    (fun hl hk => by simp only [O.is, if_true]; simpa using r2)
  refine ⟨_, w', up hd d v', S, hr _ _ r1, ho, .inl ⟨_, rfl, ?_⟩⟩
  simp only [VR, ups]
  refine ⟨?_, _, up_same _ _ _, Nat.le_refl _, fun k' mu' l' e => by rw [up_same]⟩
  obtain ⟨_, _, ⟨a, rfl, _⟩ | ⟨g, off, cap, rfl, _⟩⟩ := r2 <;> rfl
/-- .. to a slice that has no room. -/
theorem StepOK.appFull (h : Mem m hd w S X B) {d k g off : Nat} {l ns : List (List D)} {xs news : List Value} {x : Value} {t tx : TypeId} (e : TypeId) (inf : TypeInfo) (z : Value) (bytes : Nat) (ht : P.underlying t = some (.slice e)) (hinf : P.info? e = some inf) (hz : inf.zero = some z) (hsize : inf.size = k) (hby : inf.bytes = bytes) (hzs : z.cells.size = k)
    (hr : ∀ v' w', (Builtin.append_ #[t, tx] o.type #[.slice (some ⟨g, off, none⟩) l.length l.length, x]).run P w = .ok v' w' → (execOp a.eval o).run P w = .ok (.value v') w')
    (hx : Rows w S k l xs) (hra : w.rangeAt g off xs) (hs : Src P k tx x ns.length news w) (hn : Rows w S k ns news) (hn0 : 0 < ns.length) (h63 : l.length + ns.length ≤ 140737488355328) (hbytes : (l.length + ns.length) * bytes ≤ 140737488355328) :
    StepOK P X B o a m hd w S (.og d (nv m d)) [(d, .arr (nv m d) k true (l ++ ns))] := by
  obtain ⟨v', w', r1, r2, r3, r4⟩ := run_append_full (P := P) (X := X) t tx o.type e inf z bytes ht hinf hz hsize hby hzs hx hra h.base h.lt x news hs hn hn0 h63 hbytes
  have ho := out_upd (w' := w') h d (.arr (nv m d) k true (l ++ ns)) v' r3.size r3.os r3.tape r3.output (fun b hb hne => r3.block b hb (fun e => by cases e))
    (fun oo hoo => ⟨by simp [nv, hoo, O.ver], fun e => by simp [nv, hoo, O.ver] at e⟩) (fun b hb _ => .inl (by have := r4 b hb; omega))
    (fun hl hk => by simp only [O.is, if_true]; exact r2)
  refine ⟨_, w', up hd d v', S, hr _ _ r1, ho, .inl ⟨_, rfl, ?_⟩⟩
  simp only [VR, ups]
  refine ⟨?_, _, up_same _ _ _, Nat.le_refl _, fun k' mu' l' e => by rw [up_same]⟩
  obtain ⟨_, _, ⟨a, rfl, _⟩ | ⟨g, off, cap, rfl, _⟩⟩ := r2 <;> rfl
/-- A prefix of an array. -/
theorem StepOK.cutArr (h : Mem m hd w S X B) {i ver k n : Nat} {l : List (List D)} (hi : m i = some (.arr ver k true l)) (hn : n ≤ l.length)
    (hr : ∀ ad len cap, hd i = .slice ad len cap → len = l.length → len ≤ cap → (execOp a.eval o).run P w = .ok (.value (.slice ad n cap)) w) :
    StepOK P X B o a m hd w S (.og i (ver + 1)) [(i, .arr (ver + 1) k true (l.take n))] := by
  have hoi := h.obj i _ hi
  simp only [O.is, if_true] at hoi
  obtain ⟨xs, hrow, hoi⟩ := hoi
  have go : ∀ ad len cap, hd i = .slice ad len cap → len = l.length → len ≤ cap → Arr w B X S k (.slice ad n cap) (l.take n) → StepOK P X B o a m hd w S (.og i (ver + 1)) [(i, .arr (ver + 1) k true (l.take n))] := by
    intro ad len cap e1 e2 e3 harr
    have ho := out_upd (w' := w) h i (.arr (ver + 1) k true (l.take n)) (.slice ad n cap) (Nat.le_refl _) rfl rfl rfl (fun b hb hne => rfl)
      (fun oo hoo => by rw [hi] at hoo; cases hoo; exact ⟨Nat.le_succ _, fun e => by simp [O.ver] at e⟩) (fun b hb _ => .inr ⟨_, hi, rfl, by rw [e1]; cases ad <;> cases cap <;> simp_all [blk]⟩)
      (fun hl hk => by simp only [O.is, if_true]; exact harr)
    refine ⟨_, w, up hd i (.slice ad n cap), S, hr _ _ _ e1 e2 e3, ho, .inl ⟨_, rfl, ?_⟩⟩
    simp only [VR, ups]
    exact ⟨rfl, _, up_same _ _ _, Nat.le_refl _, fun k' mu' l' e => by rw [up_same]⟩
  rcases hoi with ⟨ad, hg, rfl⟩ | ⟨g, off, cap, hg, hc0, hB, hlt, hT, hn', hcm, hth, hra⟩
  · have : n = 0 := by simpa using hn
    subst this
    exact go ad 0 0 hg rfl (Nat.le_refl _) ⟨[], by simp [Rows], .inl ⟨ad, rfl, rfl⟩⟩
  · refine go _ _ cap hg rfl hn' ⟨_, Rows.take n hrow, .inr ⟨g, off, cap, by rw [List.length_take, Nat.min_eq_left hn], hc0, hB, hlt, hT, by rw [List.length_take]; omega, hcm, hth, fun j u hu => hra j u ?_⟩⟩
    rw [List.getElem?_take] at hu
    split at hu
    · exact hu
    · cases hu
end

/-! ### Operands -/
def ev (T : Nat → V) : AV → V
  | .t n => T n
  | .c x => x
section
variable {P : Program} {m : M} {hd : H} {w : World} {S : Nat → Prop} {T : Nat → V} {a : Act}
theorem cv_ok {t : TypeId} {u : Value} {x : V} (h : cv P t u = some x) : VR m hd w S x u := by
  unfold cv at h
  split at h <;> try (cases h; simp [VR, D.is, Value.oneCell']; done)
  · split at h <;> (cases h; simp [VR])
  · cases h
theorem av_ok (hT : ∀ n, VR m hd w S (T n) (a.tmps.getD n undef)) {t : TypeId} {x : Operand} {y : AV} (h : av P t x = some y) : VR m hd w S (ev T y) (a.eval x) := by
  cases x with
  | tmp n => simp only [av, Option.some.injEq] at h; subst h; exact hT n
  | const u =>
    simp only [av, Option.map_eq_some_iff] at h
    obtain ⟨x, h1, rfl⟩ := h
    exact cv_ok h1
  | global g => simp [av] at h
  | func f =>
    simp only [av, Option.some.injEq] at h
    subst h
    simp only [ev, Act.eval, VR, VRs]
    exact ⟨[], rfl, rfl⟩
theorem avs_ok (hT : ∀ n, VR m hd w S (T n) (a.tmps.getD n undef)) : ∀ {xs : List Operand} {ts : List TypeId} {ys : List AV}, avs P ts xs = some ys → VRs m hd w S (ys.map (ev T)) (xs.map a.eval)
  | [], ts, ys, h => by simp only [avs, Option.some.injEq] at h; subst h; simp [VRs]
  | x :: xs, ts, ys, h => by
    unfold avs at h
    split at h
    · rename_i y ys' h1 h2
      cases h
      simp only [List.map_cons, VRs]
      exact ⟨_, _, rfl, av_ok hT h1, avs_ok hT h2⟩
    · cases h
theorem zOks_ok : ∀ {z : List V} {us : List Value}, zOks z us = true → VRs m hd w S z us ∧ ∀ y ∈ us, y.oneCell' = true
  | [], [], _ => by simp [VRs]
  | [], _ :: _, h => by simp [zOks] at h
  | _ :: _, [], h => by simp [zOks] at h
  | z :: zs, u :: us, h => by
    simp only [zOks, Bool.and_eq_true] at h
    obtain ⟨h1, h2⟩ := h
    have ih := zOks_ok h2
    have h3 : VR m hd w S z u ∧ u.oneCell' = true := by
      unfold zOk at h1
      split at h1 <;> simp_all [VR, D.is, Value.oneCell']
      rename_i s s'
      cases s; cases s'; simp_all
    refine ⟨⟨u, us, rfl, h3.1, ih.1⟩, fun y hy => ?_⟩
    rcases List.mem_cons.1 hy with rfl | hy
    · exact h3.2
    · exact ih.2 y hy
/-- Zeros as data. -/
theorem zD_ok : ∀ {z : List V} {us : List Value}, zOks z us = true → Cells w S (zD z) us
  | [], [], _ => by simp [zD, Cells]
  | [], _ :: _, h => by simp [zOks] at h
  | _ :: _, [], h => by simp [zOks] at h
  | z :: zs, u :: us, h => by
    simp only [zOks, Bool.and_eq_true] at h
    obtain ⟨h1, h2⟩ := h
    have ih := zD_ok h2
    refine ⟨u, us, rfl, ?_, ih⟩
    unfold zOk at h1
    split at h1 <;> simp_all [D.is, Value.oneCell', Rows]
    · rename_i s s'
      cases s; cases s'; simp_all
    · exact ⟨none, 0, ⟨rfl, rfl⟩, Nat.zero_le _⟩
theorem zcs_ok {t : TypeId} {z : List V} (h : zcs P t = some z) : ∃ i u, P.info? t = some i ∧ i.zero = some u ∧ zOks z u.cells.toList = true ∧ z.length = i.size := by
  unfold zcs at h
  split at h
  · rename_i i z' h1 h2
    split at h
    · rename_i u h3
      split at h
      · rename_i h4
        cases h
        simp only [Bool.and_eq_true, beq_iff_eq] at h4
        exact ⟨i, u, h1, h3, h4.1, h4.2⟩
      · cases h
    · cases h
  · cases h
end
end Go.Proofs.Ytabfajhflaladaa.Sim
