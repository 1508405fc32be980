/- Values without memory, and how they lie in memory: of no program. Conditions: none. -/
import Derived.Test.YtihjmnhjjpdenaaMRep
section
namespace Go.Proofs.Ytihjmnhjjpdenaa
open Go Go.RowKit Go.Deep
set_option linter.unusedVariables false

section
variable {P : Program} {ops : Array Oper} {Q : Exit → Act → World → Prop} {md : Region.Mode} {S : World → Prop} {k : Nat}

/-- Whatever order is picked from here on; S is owed behind every operation as long as number k has not come up. -/
def wpStage (P : Program) (md : Region.Mode) (ops : Array Oper) (Q : Exit → Act → World → Prop) (S : World → Prop) (k : Nat) : Nat → Array Bool → Act → World → Prop
  | 0, listed, a, w => Region.ready md ops listed = [] ∧ Q .normal a w
  | fuel + 1, listed, a, w =>
    (Region.ready md ops listed = [] → Q .normal a w) ∧
    ∀ i ∈ Region.ready md ops listed, wpOp P ops Q i (fun a' w' => ((listed.setIfInBounds i true).getD k true = false → S w') ∧ wpStage P md ops Q S k fuel (listed.setIfInBounds i true) a' w') a w

theorem wpAny_of_stage : ∀ (fuel : Nat) (listed : Array Bool) (a : Act) (w : World), wpStage P md ops Q S k fuel listed a w → wpAny P md ops Q fuel listed a w
  | 0, _, _, _, h => h
  | fuel + 1, _, _, _, h => ⟨h.1, fun i hi => wpOp_mono (fun a' w' h' => wpAny_of_stage fuel _ a' w' h'.2) (h.2 i hi)⟩

/-- Number k waits for number i. -/
def waitsFor (md : Region.Mode) (ops : Array Oper) (k i : Nat) : Bool := ((ops[k]?).map fun o => o.after.any fun e => Region.binds md e && e.on == i).getD false

theorem not_ready_before {i j : Nat} {listed : Array Bool} (hw : waitsFor md ops k i = true) (hi : listed.getD i true = false) (hj : j ∈ Region.ready md ops listed) : j ≠ k := by
  rintro rfl
  obtain ⟨_, o, ho, hall⟩ := mem_ready.1 hj
  simp only [waitsFor, ho, Option.map_some, Option.getD_some] at hw
  obtain ⟨e, he, hb⟩ := Array.any_eq_true'.1 hw
  simp only [Bool.and_eq_true, beq_iff_eq] at hb
  have := hall e he hb.1
  rw [hb.2] at this
  rcases Nat.lt_or_ge i listed.size with h | h
  · simp [h] at this hi; rw [hi] at this; cases this
  · simp [Array.getElem?_eq_none h] at this

/-- A read may be taken first, if the store waits for it. -/
theorem wpStage_first {i : Nat} {oi : Oper} {v : Value} (hi : ops[i]? = some oi) (hsel : ∀ (j : Nat) (o : Oper) cs b, ops[j]? = some o → o.op ≠ .select cs b)
    (hQ : ∀ c a w, Q (.panic c) (a.put oi.dst v) w → Q (.panic c) a w) (hw : waitsFor md ops k i = true) :
    ∀ (fuel : Nat) (listed : Array Bool) (a : Act) (w : World),
      (∀ j oj, ops[j]? = some oj → j ≠ i → listed.getD j true = false → (∀ e ∈ oj.after, Region.binds md e = true → e.on ≠ i) → oi.apart ops oj = true) →
      i ∈ Region.ready md ops listed → YieldsIf P ops S oi v a → listed.getD k true = false → S w →
      wpStage P md ops Q S k fuel (listed.setIfInBounds i true) (a.put oi.dst v) w → wpStage P md ops Q S k (fuel + 1) listed a w := by
  intro fuel
  induction fuel with
  | zero =>
    intro listed a w _ hr hy hkl hS H
    refine ⟨fun h => (by rw [h] at hr; cases hr), fun j hj => ?_⟩
    by_cases hji : j = i
    · subst hji; exact hy.wpOp hi hS ⟨fun _ => hS, H⟩
    · have := ready_mono hj hji
      rw [H.1] at this
      cases this
  | succ fuel ih =>
    intro listed a w hfree hr hy hkl hS H
    refine ⟨fun h => (by rw [h] at hr; cases hr), fun j hj => ?_⟩
    by_cases hji : j = i
    · subst hji; exact hy.wpOp hi hS ⟨fun _ => hS, H⟩
    · have h1 := H.2 j (ready_mono hj hji)
      have hjk := not_ready_before hw (mem_ready.1 hr).1 hj
      obtain ⟨hjun, oj, hoj, hall⟩ := mem_ready.1 hj
      have hnot : ∀ e ∈ oj.after, Region.binds md e = true → e.on ≠ i := fun e he hb heq => by
        have h1 := hall e he hb
        have h0 := (mem_ready.1 hr).1
        rw [heq] at h1
        rcases Nat.lt_or_ge i listed.size with h' | h'
        · simp [h'] at h0 h1; rw [h0] at h1; cases h1
        · simp [Array.getElem?_eq_none h'] at h1
      have h2 := wpOp_putIf hoj (hfree j oj hoj hji hjun hnot) (fun cs b => hsel i oi cs b hi) (fun cs b => hsel j oj cs b hoj) hQ hy h1
      have hik : i ≠ k := not_ready_before hw (mem_ready.1 hr).1 hr
      have hkl1 : (listed.setIfInBounds j true).getD k true = false := by rw [getD_set_ne true hjk]; exact hkl
      have hkl2 : ((listed.setIfInBounds i true).setIfInBounds j true).getD k true = false := by rw [getD_set_ne true hjk, getD_set_ne true hik]; exact hkl
      have hfree' : ∀ m om, ops[m]? = some om → m ≠ i → (listed.setIfInBounds j true).getD m true = false →
          (∀ e ∈ om.after, Region.binds md e = true → e.on ≠ i) → oi.apart ops om = true := fun m om hm hmi hun hno => by
        refine hfree m om hm hmi ?_ hno
        by_cases hjm : j = m
        · subst hjm; exact hjun
        · rw [getD_set_ne true hjm] at hun; exact hun
      refine wpOp_mono (fun a' w' h3 => ⟨fun _ => h3.2.1 hkl2, ih (listed.setIfInBounds j true) a' w' hfree' (ready_mono hr (Ne.symm hji)) h3.1 hkl1 (h3.2.1 hkl2) ?_⟩) h2
      rw [Array.setIfInBounds_comm _ _ hji]
      exact h3.2.2

/-! ### The moves -/
theorem wpStage_take {i : Nat} {oi : Oper} {v : Value} {fuel : Nat} {listed : Array Bool} {a : Act} {w : World} (hi : ops[i]? = some oi) (hg : oi.guard = none)
    (hs : (Region.noSelect ops && Region.free md ops listed i && (Region.ready md ops listed).contains i && waitsFor md ops k i && !listed.getD k true) = true)
    (hQ : ∀ c a w, Q (.panic c) (a.put oi.dst v) w → Q (.panic c) a w) (hy : ∀ w, S w → (execOp a.eval oi).run P w = .ok (.value v) w) (hS : S w)
    (h : wpStage P md ops Q S k fuel (listed.setIfInBounds i true) (a.put oi.dst v) w) : wpStage P md ops Q S k (fuel + 1) listed a w := by
  simp only [Bool.and_eq_true, Bool.not_eq_true'] at hs
  obtain ⟨⟨⟨⟨h1, h2⟩, h3⟩, h4⟩, h5⟩ := hs
  exact wpStage_first hi (Region.noSelect_spec h1) hQ h4 fuel listed a w (Region.free_spec hi h2) (by simpa using h3) (.inl ⟨by simp [Region.wanted, hg], hy⟩) h5 hS h
/-- One of those that may come up. -/
def StageOne (P : Program) (md : Region.Mode) (ops : Array Oper) (Q : Exit → Act → World → Prop) (S : World → Prop) (k fuel : Nat) (listed : Array Bool) (a : Act) (w : World) (rs : List Nat) : Prop :=
  ∀ i ∈ rs, wpOp P ops Q i (fun a' w' => ((listed.setIfInBounds i true).getD k true = false → S w') ∧ wpStage P md ops Q S k fuel (listed.setIfInBounds i true) a' w') a w
theorem StageOne.nil {fuel : Nat} {listed : Array Bool} {a : Act} {w : World} : StageOne P md ops Q S k fuel listed a w [] := fun _ h => by cases h
/-- Ahead of the store: S is owed. -/
theorem StageOne.cons {fuel : Nat} {listed : Array Bool} {a : Act} {w : World} {i : Nat} {o : Oper} {rs : List Nat} (ho : ops[i]? = some o) (hg : o.guard = none)
    (h : ∀ K' : Act → World → Prop, Shut (∀ a w, S w → (S w → wpStage P md ops Q S k fuel (listed.setIfInBounds i true) a w) → K' a w) → Oper.wp P o a w K' Q)
    (hs : StageOne P md ops Q S k fuel listed a w rs) : StageOne P md ops Q S k fuel listed a w (i :: rs) := fun j hj => by
  rcases List.mem_cons.1 hj with rfl | hj
  · refine wpOp_step ho fun K' hK => ?_
    rw [if_pos (by simp [Region.wanted, hg])]
    exact h K' (fun a w hS hW => hK a w ⟨fun _ => hS, hW hS⟩)
  · exact hs j hj
/-- From the store on: S is owed no more. -/
theorem StageOne.late {fuel : Nat} {listed : Array Bool} {a : Act} {w : World} {i : Nat} {o : Oper} {rs : List Nat} (ho : ops[i]? = some o) (hg : o.guard = none) (hl : (listed.setIfInBounds i true).getD k true = true)
    (h : ∀ K' : Act → World → Prop, Shut (∀ a w, wpStage P md ops Q S k fuel (listed.setIfInBounds i true) a w → K' a w) → Oper.wp P o a w K' Q)
    (hs : StageOne P md ops Q S k fuel listed a w rs) : StageOne P md ops Q S k fuel listed a w (i :: rs) := fun j hj => by
  rcases List.mem_cons.1 hj with rfl | hj
  · refine wpOp_step ho fun K' hK => ?_
    rw [if_pos (by simp [Region.wanted, hg])]
    exact h K' (fun a w hW => hK a w ⟨fun e => (by rw [hl] at e; cases e), hW⟩)
  · exact hs j hj
theorem wpStage_ready {rs : List Nat} {fuel : Nat} {listed : Array Bool} {a : Act} {w : World} (hr : Region.ready md ops listed = rs) (hne : rs ≠ [])
    (h : StageOne P md ops Q S k fuel listed a w rs) : wpStage P md ops Q S k (fuel + 1) listed a w := ⟨fun h0 => absurd (hr ▸ h0) hne, hr ▸ h⟩
theorem wpStage_done {listed : Array Bool} {a : Act} {w : World} (hr : Region.ready md ops listed = []) (h : Q .normal a w) : ∀ fuel, wpStage P md ops Q S k fuel listed a w
  | 0 => ⟨hr, h⟩
  | _ + 1 => ⟨fun _ => h, by rw [hr]; simp⟩
theorem wp_region_stage (S : World → Prop) (k : Nat) {id : Nat} {a : Act} {w : World} (hm : P.follows .mixedOrders = true) (hS : S w.drew)
    (h : S w.drew → wpStage P .any ops Q S k ops.size (Array.replicate ops.size false) a w.drew) : (Code.region id ops true).wp P Q a w :=
  wp_region_any hm (wpAny_of_stage _ _ _ _ (h hS))

/-- n ELEMENTS MORE onto a slice of the call's own, as a step of a region. -/
theorem wp_append_mine {o : Oper} {a : Act} {w : World} {K : Act → World → Prop} {B sz n : Nat} {v : Value} {xs : List Value} (so xo : Operand) (t tx : TypeId)
    (ho : o.op = .call { callee := .builtin .append, args := #[so, xo], argTypes := #[t, tx] })
    (e : TypeId) (i : TypeInfo) (z : Value) (bytes : Nat) (ht : P.underlying t = some (.slice e)) (hi : P.info? e = some i) (hz : i.zero = some z) (hsize : i.size = sz) (hby : i.bytes = bytes) (hzs : z.cells.size = sz)
    (hv : a.eval so = v) (h : Own w B sz v n xs) (hBw : B ≤ w.heap.size) (x : Value) (hx : a.eval xo = x) (m : Nat) (news : List Value) (hs : Src P sz tx x m news w) (h63 : n + m ≤ maxLen) (hbytes : (n + m) * bytes ≤ 140737488355328)
    (hK : ∀ ad c w', Own w' B sz (.slice ad (n + m) c) (n + m) (xs ++ news) → w.grownBy w' v.ownBlock → ((Value.slice ad (n + m) c).ownBlock = v.ownBlock ∨ (Value.slice ad (n + m) c).ownBlock = some w.heap.size) → K (a.put o.dst (.slice ad (n + m) c)) w') :
    o.wp P a w K Q := by
  obtain ⟨v', w', hrun, r1, r2, r3⟩ := run_append_mine (P := P) t tx o.type e i z bytes ht hi hz hsize hby hzs h hBw x m news hs h63 hbytes
  obtain ⟨ad, c, rfl⟩ := r1.form
  unfold Oper.wp
  simp [execOp, ho, resolve, invoke, builtin, hv, hx, hrun, Result.andThen]
  exact hK ad c w' r1 r2 r3

/-- .. read as a list. -/
theorem wp_append_own {α : Type} [Rep α] {o : Oper} {a : Act} {w : World} {K : Act → World → Prop} {B : Nat} {T : Nat → Prop} {v : Value} {l m : List α} (so xo : Operand) (t tx : TypeId)
    (ho : o.op = .call { callee := .builtin .append, args := #[so, xo], argTypes := #[t, tx] })
    (e : TypeId) (i : TypeInfo) (z : Value) (bytes : Nat) (ht : P.underlying t = some (.slice e)) (hi : P.info? e = some i) (hz : i.zero = some z) (hsize : i.size = Rep.sz α) (hby : i.bytes = bytes) (hzs : z.cells.size = Rep.sz α)
    (hv : a.eval so = v) (h : OwnT w B T v l) (hBw : B ≤ w.heap.size) (x : Value) (hx : a.eval xo = x) (news : List Value) (hs : Src P (Rep.sz α) tx x m.length news w) (hn : Chunks w (Off w v T) news m) (h63 : l.length + m.length ≤ maxLen) (hbytes : (l.length + m.length) * bytes ≤ 140737488355328)
    (hK : ∀ ad c w', OwnT w' B T (.slice ad (l.length + m.length) c) (l ++ m) → w.grownBy w' v.ownBlock → ((Value.slice ad (l.length + m.length) c).ownBlock = v.ownBlock ∨ (Value.slice ad (l.length + m.length) c).ownBlock = some w.heap.size) → K (a.put o.dst (.slice ad (l.length + m.length) c)) w') : o.wp P a w K Q := by
  obtain ⟨xs, ho', hx'⟩ := h
  refine wp_append_mine so xo t tx ho e i z bytes ht hi hz hsize hby hzs hv ho' hBw x hx m.length news hs h63 hbytes fun ad c w' r1 r2 r3 => hK ad c w' ?_ r2 r3
  exact OwnT.grown ⟨xs, hx', r1⟩ hn r2 r3
theorem wpList_append_own' {α : Type} [Rep α] {rest : List Oper} {o : Oper} {a : Act} {w : World} (hgd : o.guard = none) {B : Nat} {T : Nat → Prop} {v : Value} {l m : List α} (so xo : Operand) (t tx : TypeId)
    (ho : o.op = .call { callee := .builtin .append, args := #[so, xo], argTypes := #[t, tx] })
    (e : TypeId) (i : TypeInfo) (z : Value) (bytes : Nat) (ht : P.underlying t = some (.slice e)) (hi : P.info? e = some i) (hz : i.zero = some z) (hsize : i.size = Rep.sz α) (hby : i.bytes = bytes) (hzs : z.cells.size = Rep.sz α)
    (hv : a.eval so = v) (h : OwnT w B T v l) (hBw : B ≤ w.heap.size) (x : Value) (hx : a.eval xo = x) (news : List Value) (hs : Src P (Rep.sz α) tx x m.length news w) (hn : Chunks w (Off w v T) news m) (h63 : l.length + m.length ≤ maxLen) (hbytes : (l.length + m.length) * bytes ≤ 140737488355328)
    (hK : ∀ ad c w', OwnT w' B T (.slice ad (l.length + m.length) c) (l ++ m) → w.grownBy w' v.ownBlock → ((Value.slice ad (l.length + m.length) c).ownBlock = v.ownBlock ∨ (Value.slice ad (l.length + m.length) c).ownBlock = some w.heap.size) → wpList P ops Q rest (a.put o.dst (.slice ad (l.length + m.length) c)) w') : wpList P ops Q (o :: rest) a w :=
  wpList_plain hgd fun _ hK' => wp_append_own so xo t tx ho e i z bytes ht hi hz hsize hby hzs hv h hBw x hx news hs hn h63 hbytes fun ad c w' r1 r2 r3 => hK' _ _ (hK ad c w' r1 r2 r3)
/-- An element in a new block of its own, as 'append(x, e)' lays it: what is appended. -/
theorem Src.single {sz : Nat} {w : World} {tx e' : TypeId} (hk : P.underlying tx = some (.slice e')) {b : Nat} {cs : List Value} (hl : cs.length = sz) (hr : w.rangeAt b 0 cs) (h1 : ∀ u ∈ cs, u.oneCell' = true) : Src P sz tx (.slice (some ⟨b, 0, none⟩) 1 1) 1 cs w :=
  Src.ofSlice w hk _ 1 1 cs (by omega) (fun j u hu => by rw [Addr.add_lit]; exact hr j u hu) h1
theorem range_new (w : World) (cs : List Value) (t : TypeId) : (w.alloc (.cells cs.toArray t)).rangeAt w.heap.size 0 cs := fun j v hv => by
  rw [Nat.zero_add, World.cell?_alloc_new]
  simpa using hv
/-- There is room: the elements are laid behind, in place. -/
theorem wp_append_room {α : Type} [Rep α] {o : Oper} {a : Act} {w : World} {K : Act → World → Prop} {B : Nat} {T : Nat → Prop} {g off n cap : Nat} {l m : List α} (so xo : Operand) (t tx : TypeId)
    (ho : o.op = .call { callee := .builtin .append, args := #[so, xo], argTypes := #[t, tx] })
    (e : TypeId) (i : TypeInfo) (ht : P.underlying t = some (.slice e)) (hi : P.info? e = some i) (hsize : i.size = Rep.sz α)
    (hv : a.eval so = .slice (some ⟨g, off, none⟩) n cap) (h : OwnT w B T (.slice (some ⟨g, off, none⟩) n cap) l) (x : Value) (hx : a.eval xo = x) (news : List Value) (hs : Src P (Rep.sz α) tx x m.length news w) (hn : Chunks w (Off w (.slice (some ⟨g, off, none⟩) n cap) T) news m) (hroom : n + m.length ≤ cap)
    (hK : OwnT (w.setCells g (off + n * Rep.sz α) news) B T (.slice (some ⟨g, off, none⟩) (n + m.length) cap) (l ++ m) → K (a.put o.dst (.slice (some ⟨g, off, none⟩) (n + m.length) cap)) (w.setCells g (off + n * Rep.sz α) news)) : o.wp P a w K Q := by
  obtain ⟨xs, hw, hx'⟩ := h
  have hln : n = l.length := by
    rcases hw.2 with ⟨e, _⟩ | ⟨_, _, _, e, _⟩
    · cases e
    · injection e
  subst hln
  have hnl := hs.newsLen
  rcases hw.2 with ⟨e, _⟩ | ⟨g', off', cap', e, hB, hlt, hn', hc, ht', hr⟩
  · cases e
  · injection e with e1 e2 e3
    injection e1 with e1
    injection e1 with e4 e5 e6
    subst e4 e5 e3
    have hle : l.length * Rep.sz α + m.length * Rep.sz α ≤ cap * Rep.sz α := by rw [← Nat.add_mul]; exact Nat.mul_le_mul_right _ hroom
    have hth : w.there g (off + l.length * Rep.sz α) news.length := fun j hj => by
      have := ht' (l.length * Rep.sz α + j) (by omega)
      rwa [← Nat.add_assoc] at this
    have hs' : Src P i.size tx x m.length news w := by rw [hsize]; exact hs
    have hrun := run_append_room_src (P := P) w t tx o.type e i ht hi g off l.length cap x m.length news hs' hroom (fun j hj => by rw [hsize]; exact (hth j hj).1) (fun j hj => by rw [hsize]; exact (hth j hj).2)
    rw [hsize] at hrun
    have hkeep : ∀ b, Off w (.slice (some ⟨g, off, none⟩) l.length cap) T b → Off (w.setCells g (off + l.length * Rep.sz α) news) (.slice (some ⟨g, off, none⟩) (l.length + m.length) cap) T b ∧ (w.setCells g (off + l.length * Rep.sz α) news).heap[b]? = w.heap[b]? :=
      fun b hb => ⟨⟨⟨by rw [(size_setCells _ _ _ _).1]; exact hb.1.1, hb.1.2⟩, hb.2⟩, World.heap_setCells_other _ _ _ _ hb.1.1 (fun e => hb.1.2 (by rw [e]; rfl))⟩
    have hfin : OwnT (w.setCells g (off + l.length * Rep.sz α) news) B T (.slice (some ⟨g, off, none⟩) (l.length + m.length) cap) (l ++ m) := by
      refine ⟨xs ++ news, ⟨by rw [List.length_append, hw.1, hnl, List.length_append, Nat.add_mul], .inr ⟨g, off, cap, by rw [List.length_append], hB, by rw [(size_setCells _ _ _ _).1]; exact hlt, by rw [List.length_append]; exact hroom, hc, World.there_setCells ht' _ _ _, fun j u hu => ?_⟩⟩, (hx'.append hn).keep fun b hb _ => hkeep b hb⟩
      have hxl := hw.1
      rcases Nat.lt_or_ge j xs.length with hj | hj
      · rw [List.getElem?_append_left hj] at hu
        rw [World.cell?_setCells_out g news (off + l.length * Rep.sz α) w ⟨g, off + j, none⟩ (fun _ _ => .inl (by show off + j < _; omega))]
        exact hr j u hu
      · rw [List.getElem?_append_right hj] at hu
        have := World.rangeAt_setCells_same w g (off + l.length * Rep.sz α) news hth (j - xs.length) u hu
        rw [show off + l.length * Rep.sz α + (j - xs.length) = off + j by omega] at this
        exact this
    unfold Oper.wp
    simp [execOp, ho, resolve, invoke, builtin, hv, hx, hrun, Result.andThen]
    exact hK hfin
/-- A prefix of a slice of the call's own. -/
theorem OwnT.take {α : Type} [Rep α] {w : World} {B : Nat} {T : Nat → Prop} {g off n cap : Nat} {l : List α} (h : OwnT w B T (.slice (some ⟨g, off, none⟩) n cap) l) {i : Nat} (hi : i ≤ n) : OwnT w B T (.slice (some ⟨g, off, none⟩) i cap) (l.take i) := by
  obtain ⟨xs, hw, hx⟩ := h
  rcases hw.2 with ⟨e, _⟩ | ⟨g', off', cap', e, hB, hlt, hn', hc, ht', hr⟩
  · cases e
  · injection e with e1 e2 e3
    injection e1 with e1
    injection e1 with e4 e5 e6
    subst e4 e5 e3
    have hl : (l.take i).length = i := by rw [List.length_take]; omega
    have e : l = l.take i ++ l.drop i := (List.take_append_drop i l).symm
    rw [e] at hx
    obtain ⟨p, q, rfl, hp, hq⟩ := hx.split
    refine ⟨p, ⟨hp.len, .inr ⟨g, off, cap, by rw [hl], hB, hlt, by omega, hc, ht', fun j v hv => hr j v ?_⟩⟩, hp.keep fun b hb _ => ⟨⟨hb.1, hb.2⟩, rfl⟩⟩
    rw [List.getElem?_append_left ((List.getElem?_eq_some_iff.1 hv).1)]
    exact hv
/-- What lies from element j on, as it is appended. -/
theorem OwnT.rest {α : Type} [Rep α] {w : World} {B : Nat} {T : Nat → Prop} {g off n cap : Nat} {l : List α} (h : OwnT w B T (.slice (some ⟨g, off, none⟩) n cap) l) {tx e' : TypeId} (hk : P.underlying tx = some (.slice e')) {j : Nat} (hj : j ≤ n) (c : Nat) :
    ∃ news, Chunks w (Off w (.slice (some ⟨g, off, none⟩) n cap) T) news (l.drop j) ∧ ∀ a : Addr, (j < n → a = ⟨g, off + j * Rep.sz α, none⟩) → Src P (Rep.sz α) tx (.slice (some a) (n - j) c) (l.drop j).length news w := by
  obtain ⟨xs, hw, hx⟩ := h
  rcases hw.2 with ⟨e, _⟩ | ⟨g', off', cap', e, hB, hlt, hn', hc, ht', hr⟩
  · cases e
  · injection e with e1 e2 e3
    injection e1 with e1
    injection e1 with e4 e5 e6
    subst e4 e5 e3
    have e : l = l.take j ++ l.drop j := (List.take_append_drop j l).symm
    rw [e] at hx
    obtain ⟨p, q, rfl, hp, hq⟩ := hx.split
    have hpl := hp.len
    rw [List.length_take, Nat.min_eq_left (by omega)] at hpl
    have hdl : (l.drop j).length = n - j := by rw [List.length_drop]; omega
    refine ⟨q, hq, fun a ha => ?_⟩
    rw [hdl]
    refine Src.ofSlice w hk a (n - j) c q (by rw [hq.len, hdl]) (fun k u hu => ?_) hq.one
    have hk' : k < q.length := (List.getElem?_eq_some_iff.1 hu).1
    have hjn : j < n := by
      rcases Nat.lt_or_ge j n with h | h
      · exact h
      · have := hq.len; rw [hdl, Nat.sub_eq_zero_of_le h, Nat.zero_mul] at this; omega
    rw [ha hjn, Addr.add_lit, Nat.add_assoc]
    refine hr _ u ?_
    rw [← hpl, List.getElem?_append_right (by omega), Nat.add_sub_cancel_left]
    exact hu
/-- clear(x): whatever is laid into the cells. -/
theorem wpList_clear {rest : List Oper} {o : Oper} {a : Act} {w : World} (hgd : o.guard = none) (xo : Operand) (t e : TypeId) (ho : o.op = .call { callee := .builtin .clear, args := #[xo], argTypes := #[t] })
    (ht : P.underlying t = some (.slice e)) (z : Value) (hz : ∀ w, (zeroValue e).run P w = .ok z w) (h1 : ∀ v ∈ z.cells, v.oneCell' = true) (sz : Nat) (hsz : z.cells.size = sz) (b off n c : Nat) (hx : a.eval xo = .slice (some ⟨b, off, none⟩) n c) (hth : w.there b off (n * sz))
    (hK : ∀ cs : List Value, cs.length = n * sz → wpList P ops Q rest (a.put o.dst (.tuple #[])) (w.setCells b off cs)) : wpList P ops Q (o :: rest) a w := by
  refine wpList_plain hgd fun K hK' => ?_
  rcases Nat.eq_zero_or_pos n with h0 | h0
  · subst h0
    have hrun : (Builtin.clear_ #[t] o.type #[.slice (some ⟨b, off, none⟩) 0 c]).run P w = .ok (.tuple #[]) w := by simp [Builtin.clear_, run_underlying ht]
    unfold Oper.wp
    simp [execOp, ho, resolve, invoke, builtin, hx, hrun, Result.andThen]
    exact hK' _ _ (hK [] (by simp))
  · have hcl : (Builtin.zeroCells z.cells n).toList.length = n * sz := by rw [Array.length_toList, size_zeroCells, hsz]
    have hst := run_storeCells_cells (P := P) b off (Builtin.zeroCells z.cells n).toList 0 w (fun j hj => by have := (hth j (by omega)).1; simpa using this) (fun j hj => by have := (hth j (by omega)).2; simpa using this) (by
      intro v hv
      simp only [Builtin.zeroCells, Array.toList_map, List.mem_map] at hv
      obtain ⟨k, hk, rfl⟩ := hv
      have hlt : k % z.cells.size < z.cells.size := Nat.mod_lt _ (by
        rcases Nat.eq_zero_or_pos z.cells.size with hh | hh
        · rw [hh, Nat.mul_zero] at hk; simp at hk
        · exact hh)
      rw [getElem!_pos z.cells _ hlt]
      exact h1 _ (Array.getElem_mem hlt))
    simp only [Nat.add_zero] at hst
    obtain ⟨m, rfl⟩ : ∃ m, n = m + 1 := ⟨n - 1, by omega⟩
    have hrun : (Builtin.clear_ #[t] o.type #[.slice (some ⟨b, off, none⟩) (m + 1) c]).run P w = .ok (.tuple #[]) (w.setCells b off (Builtin.zeroCells z.cells (m + 1)).toList) := by
      simp [Builtin.clear_, run_underlying ht, hz, hst]
    unfold Oper.wp
    simp [execOp, ho, resolve, invoke, builtin, hx, hrun, Result.andThen]
    exact hK' _ _ (hK _ hcl)
theorem OwnT.there {α : Type} [Rep α] {w : World} {B : Nat} {T : Nat → Prop} {g off n cap : Nat} {l : List α} (h : OwnT w B T (.slice (some ⟨g, off, none⟩) n cap) l) : w.there g off (cap * Rep.sz α) ∧ B ≤ g ∧ g < w.heap.size ∧ n ≤ cap ∧ n = l.length := by
  obtain ⟨xs, hw, hx⟩ := h
  rcases hw.2 with ⟨e, _⟩ | ⟨g', off', cap', e, hB, hlt, hn', hc, ht', hr⟩
  · cases e
  · injection e with e1 e2 e3
    injection e1 with e1
    injection e1 with e4 e5 e6
    subst e4 e5 e3
    exact ⟨ht', hB, hlt, by omega, e2⟩
/-- Behind its last element its own row may be written. -/
theorem OwnT.beyond {α : Type} [Rep α] {w : World} {B : Nat} {T : Nat → Prop} {g off n cap : Nat} {l : List α} (h : OwnT w B T (.slice (some ⟨g, off, none⟩) n cap) l) {d : Nat} (hd : n * Rep.sz α ≤ d) (cs : List Value) : OwnT (w.setCells g (off + d) cs) B T (.slice (some ⟨g, off, none⟩) n cap) l := by
  obtain ⟨xs, hw, hx⟩ := h
  refine ⟨xs, ⟨hw.1, ?_⟩, hx.keep fun b hb _ => ⟨⟨⟨by rw [(size_setCells _ _ _ _).1]; exact hb.1.1, hb.1.2⟩, hb.2⟩, World.heap_setCells_other _ _ _ _ hb.1.1 (fun e => hb.1.2 (by rw [e]; rfl))⟩⟩
  rcases hw.2 with ⟨e, _⟩ | ⟨g', off', cap', e, hB, hlt, hn', hc, ht', hr⟩
  · cases e
  · injection e with e1 e2 e3
    injection e1 with e1
    injection e1 with e4 e5 e6
    subst e4 e5 e3
    refine .inr ⟨g, off, cap, by rw [e2], hB, by rw [(size_setCells _ _ _ _).1]; exact hlt, hn', hc, World.there_setCells ht' _ _ _, fun j u hu => ?_⟩
    have hj : j < xs.length := (List.getElem?_eq_some_iff.1 hu).1
    have hl := hw.1
    rw [← e2] at hl
    rw [World.cell?_setCells_out g cs (off + d) w ⟨g, off + j, none⟩ (fun _ _ => .inl (by show off + j < _; omega))]
    exact hr j u hu
theorem grown_setCells (w : World) (g o : Nat) (cs : List Value) : w.grownBy (w.setCells g o cs) (some g) :=
  ⟨World.os_setCells _ _ _ _, (size_setCells _ _ _ _).2, World.output_setCells _ _ _ _, by rw [(size_setCells _ _ _ _).1]; exact Nat.le_refl _, fun k hk hne => World.heap_setCells_other _ _ _ _ hk (fun e => hne (by rw [e]))⟩
end
end Go.Proofs.Ytihjmnhjjpdenaa
end
section
namespace Go.Proofs.Ytihjmnhjjpdenaa.Sim
open Go Go.RowKit Go.Deep
set_option linter.unusedVariables false

/-- Data that nobody writes: a cell is a scalar, or a slice of elements of k cells each. -/
inductive D where
  | at (v : Value)
  | sl (k : Nat) (l : List (List D))

mutual
def D.is (w : World) (S : Nat → Prop) : D → Value → Prop
  | .at v, u => u = v ∧ v.oneCell' = true
  | .sl k l, u => ∃ a cap xs, u = .slice a l.length cap ∧ l.length ≤ cap ∧ cap ≤ maxLen ∧ Rows w S k l xs ∧
      (0 < l.length → ∃ g off, a = some ⟨g, off, none⟩ ∧ (S g ∧ g < w.heap.size) ∧ w.rangeAt g off xs)
def Cells (w : World) (S : Nat → Prop) : List D → List Value → Prop
  | [], xs => xs = []
  | d :: l, xs => ∃ x r, xs = x :: r ∧ d.is w S x ∧ Cells w S l r
def Rows (w : World) (S : Nat → Prop) (k : Nat) : List (List D) → List Value → Prop
  | [], xs => xs = []
  | c :: l, xs => ∃ a r, xs = a ++ r ∧ c.length = k ∧ Cells w S c a ∧ Rows w S k l r
end

section
variable {w w' : World} {S S' : Nat → Prop}

mutual
theorem D.keep (hk : ∀ b, S b → b < w.heap.size → S' b ∧ w'.heap[b]? = w.heap[b]?) : ∀ (d : D) (u : Value), d.is w S u → d.is w' S' u
  | .at v, u, h => by simp only [D.is] at h ⊢; exact h
  | .sl k l, u, h => by
    simp only [D.is] at h ⊢
    obtain ⟨a, cap, xs, hu, h1, h2, h3, h4⟩ := h
    refine ⟨a, cap, xs, hu, h1, h2, Rows.keep hk k l xs h3, fun h0 => ?_⟩
    obtain ⟨g, off, ha, hS, hr⟩ := h4 h0
    exact ⟨g, off, ha, ⟨(hk g hS.1 hS.2).1, lt_of_same hS.2 (hk g hS.1 hS.2).2⟩, rangeAt_congr hr (hk g hS.1 hS.2).2⟩
theorem Cells.keep (hk : ∀ b, S b → b < w.heap.size → S' b ∧ w'.heap[b]? = w.heap[b]?) : ∀ (l : List D) (xs : List Value), Cells w S l xs → Cells w' S' l xs
  | [], xs, h => by simp only [Cells] at h ⊢; exact h
  | d :: l, xs, h => by
    simp only [Cells] at h ⊢
    obtain ⟨x, r, hx, h1, h2⟩ := h
    exact ⟨x, r, hx, D.keep hk d x h1, Cells.keep hk l r h2⟩
theorem Rows.keep (hk : ∀ b, S b → b < w.heap.size → S' b ∧ w'.heap[b]? = w.heap[b]?) (k : Nat) : ∀ (l : List (List D)) (xs : List Value), Rows w S k l xs → Rows w' S' k l xs
  | [], xs, h => by simp only [Rows] at h ⊢; exact h
  | c :: l, xs, h => by
    simp only [Rows] at h ⊢
    obtain ⟨a, r, hx, h0, h1, h2⟩ := h
    exact ⟨a, r, hx, h0, Cells.keep hk c a h1, Rows.keep hk k l r h2⟩
end

theorem D.one {d : D} {u : Value} (h : d.is w S u) : u.oneCell' = true := by
  cases d with
  | «at» v => simp only [D.is] at h; obtain ⟨rfl, h⟩ := h; exact h
  | sl k l => simp only [D.is] at h; obtain ⟨a, cap, xs, rfl, _⟩ := h; rfl
theorem Cells.len {l : List D} {xs : List Value} (h : Cells w S l xs) : xs.length = l.length := by
  induction l generalizing xs with
  | nil => simp only [Cells] at h; simp [h]
  | cons d l ih => simp only [Cells] at h; obtain ⟨x, r, rfl, h1, h2⟩ := h; simp [ih h2]
theorem Cells.one {l : List D} {xs : List Value} (h : Cells w S l xs) : ∀ u ∈ xs, u.oneCell' = true := by
  induction l generalizing xs with
  | nil => simp only [Cells] at h; simp [h]
  | cons d l ih =>
    simp only [Cells] at h
    obtain ⟨x, r, rfl, h1, h2⟩ := h
    intro u hu
    rcases List.mem_cons.1 hu with rfl | hu
    · exact D.one h1
    · exact ih h2 u hu

/-- An element of k cells, for the words of Rep. -/
structure E (k : Nat) where
  cs : List D
  h : cs.length = k
instance (k : Nat) : Rep (E k) where
  sz := k
  is w S xs e := Cells w S e.cs xs
  len := fun {w S cs x} h => h.len.trans x.h
  one := fun h => h.one
  keep := fun {w w' S S' cs x} h hk => Cells.keep hk x.cs cs h

/-- The elements, each with its length. -/
def es (k : Nat) (l : List (List D)) (h : ∀ c ∈ l, c.length = k) : List (E k) := l.attach.map fun c => ⟨c.1, h c.1 c.2⟩
theorem es_map {k : Nat} {l : List (List D)} (h : ∀ c ∈ l, c.length = k) : (es k l h).map E.cs = l := by
  simp [es]
theorem rows_iff {k : Nat} : ∀ {l : List (List D)} {xs : List Value}, Rows w S k l xs ↔ ∃ l' : List (E k), l'.map E.cs = l ∧ Chunks w S xs l'
  | [], xs => by
    simp only [Rows]
    constructor
    · intro h; exact ⟨[], rfl, h⟩
    · rintro ⟨l', h1, h2⟩; cases l' <;> simp_all [Chunks]
  | c :: l, xs => by
    simp only [Rows]
    constructor
    · rintro ⟨a, r, rfl, hl, h1, h2⟩
      obtain ⟨l', h3, h4⟩ := rows_iff.1 h2
      exact ⟨⟨c, hl⟩ :: l', by simp [h3], a, r, rfl, h1, h4⟩
    · rintro ⟨l', h1, h2⟩
      cases l' with
      | nil => simp at h1
      | cons e l' =>
        obtain ⟨h3, h4⟩ : e.cs = c ∧ l'.map E.cs = l := by simpa using h1
        obtain ⟨a, r, rfl, h5, h6⟩ := h2
        exact ⟨a, r, rfl, by rw [← h3]; exact e.h, by rw [← h3]; exact h5, rows_iff.2 ⟨l', h4, h6⟩⟩
theorem sl_iff {k : Nat} {l : List (List D)} {u : Value} : (D.sl k l).is w S u ↔ ∃ l' : List (E k), l'.map E.cs = l ∧ Lst w S u l' := by
  simp only [D.is]
  constructor
  · rintro ⟨a, cap, xs, hu, h1, h2, h3, h4⟩
    obtain ⟨l', h5, h6⟩ := rows_iff.1 h3
    have hl : l'.length = l.length := by rw [← h5, List.length_map]
    exact ⟨l', h5, xs, a, cap, by rw [hl]; exact hu, by omega, h2, h6, fun h0 => h4 (by omega)⟩
  · rintro ⟨l', h5, xs, a, cap, hu, h1, h2, h3, h4⟩
    have hl : l'.length = l.length := by rw [← h5, List.length_map]
    exact ⟨a, cap, xs, by rw [← hl]; exact hu, by omega, h2, rows_iff.2 ⟨l', h5, h3⟩, fun h0 => h4 (by omega)⟩
theorem Rows.all {k : Nat} {l : List (List D)} {xs : List Value} (h : Rows w S k l xs) : ∀ c ∈ l, c.length = k := by
  obtain ⟨l', rfl, _⟩ := rows_iff.1 h
  intro c hc
  obtain ⟨e, _, rfl⟩ := List.mem_map.1 hc
  exact e.h

/-- A slice of the call's own: its block is not of T, from B on. -/
def Arr (w : World) (B : Nat) (X T : Nat → Prop) (k : Nat) (v : Value) (l : List (List D)) : Prop :=
  ∃ xs, Rows w T k l xs ∧ ((∃ a, v = .slice a 0 0 ∧ l = []) ∨ ∃ g off cap, v = .slice (some ⟨g, off, none⟩) l.length cap ∧ 0 < cap ∧ (B ≤ g ∨ X g) ∧ g < w.heap.size ∧ ¬ T g ∧ l.length ≤ cap ∧ cap ≤ maxLen ∧ w.there g off (cap * k) ∧ w.rangeAt g off xs)
/-- The block that a slice or a pointer leads to. -/
def blk : Value → Option Nat
  | .slice (some a) _ (_ + 1) => some a.block
  | .pointer (some a) => some a.block
  | _ => none

/-! ### Values of a walk -/
inductive V where
  | un
  | d (x : D)
  | nl (k : Nat)
  | z0
  | ub
  | og (i v : Nat)
  | bp (i v o : Nat)
  | ep (i v e o : Nat)
  | fp (cs : List D) (o : Nat)
  | cl (f : FuncId) (l : List V)
  | ag (l : List V)
  | tu (l : List V)
/-- What lies in memory of its own: a variable, or an array that a slice leads to. -/
inductive O where
  | box (v : Nat) (cs : List V)
  | arr (v k : Nat) (mu : Bool) (l : List (List D))
def O.live : O → Bool
  | .box _ _ => true
  | .arr _ _ mu _ => mu
def O.ver : O → Nat
  | .box v _ => v
  | .arr v _ _ _ => v
/-- The kind: what an address into it leans on. -/
def O.kind : O → Option Nat
  | .box _ _ => none
  | .arr _ k _ _ => some k
abbrev M := Nat → Option O
abbrev H := Nat → Value

mutual
def VR (m : M) (hd : H) (w : World) (S : Nat → Prop) : V → Value → Prop
  | .un, _ => True
  | .d x, u => x.is w S u
  | .nl _, u => u = .slice none 0 0
  | .z0, u => ∃ a, u = .slice a 0 0
  | .ub, u => ∃ c, u = .bool c
  | .og i v, u => u.oneCell' = true ∧ ∃ y, m i = some y ∧ v ≤ y.ver ∧ ∀ k mu l, y = .arr v k mu l → u = hd i
  | .bp i v o, u => u.oneCell' = true ∧ ∃ y, m i = some y ∧ v ≤ y.ver ∧ ∀ cs, y = .box v cs → ∃ b, hd i = .pointer (some ⟨b, 0, none⟩) ∧ u = .pointer (some ⟨b, o, none⟩)
  | .ep i v e o, u => u.oneCell' = true ∧ ∃ y, m i = some y ∧ v ≤ y.ver ∧ (∀ k mu l, y = .arr v k mu l → ∃ g off n cap, hd i = .slice (some ⟨g, off, none⟩) n cap ∧ u = .pointer (some ⟨g, off + e * k + o, none⟩)) ∧ ∀ cs, y = .box v cs → ∃ b, hd i = .pointer (some ⟨b, 0, none⟩) ∧ u = .slice (some ⟨b, 0, none⟩) e e
  | .fp cs o, u => ∃ g off xs, u = .pointer (some ⟨g, off + o, none⟩) ∧ (S g ∧ g < w.heap.size) ∧ w.rangeAt g off xs ∧ Cells w S cs xs
  | .cl f l, u => ∃ vs, u = .func (.func f) #[] vs.toArray ∧ VRs m hd w S l vs
  | .ag l, u => ∃ vs, u = .agg vs.toArray ∧ VRs m hd w S l vs ∧ ∀ x ∈ vs, x.oneCell' = true
  | .tu l, u => ∃ vs, u = .tuple vs.toArray ∧ VRs m hd w S l vs
def VRs (m : M) (hd : H) (w : World) (S : Nat → Prop) : List V → List Value → Prop
  | [], xs => xs = []
  | x :: l, xs => ∃ u r, xs = u :: r ∧ VR m hd w S x u ∧ VRs m hd w S l r
end

/-- An object lies there. -/
def O.is (m : M) (hd : H) (w : World) (S X : Nat → Prop) (B : Nat) (h : Value) : O → Prop
  | .box v cs => ∃ b vs, h = .pointer (some ⟨b, 0, none⟩) ∧ (B ≤ b ∨ X b) ∧ b < w.heap.size ∧ ¬ S b ∧ VRs m hd w S cs vs ∧ (∀ x ∈ vs, x.oneCell' = true) ∧ w.there b 0 cs.length ∧ w.rangeAt b 0 vs
  | .arr v k mu l => if mu then Arr w B X S k h l else (D.sl k l).is w S h

/-- The memory of a walk lies there; nothing that D's lead to is written. -/
structure Mem (m : M) (hd : H) (w : World) (S X : Nat → Prop) (B : Nat) : Prop where
  obj : ∀ i o, m i = some o → o.is m hd w S X B (hd i)
  sep : ∀ i j oi oj b, i ≠ j → m i = some oi → m j = some oj → oi.live = true → oj.live = true → blk (hd i) = some b → blk (hd j) ≠ some b
  lt : ∀ b, S b → b < w.heap.size
  base : B ≤ w.heap.size
  sX : ∀ b, X b → b < B

/-- Nothing that was there turns, but for X. -/
structure Fr (w w' : World) (X : Nat → Prop) : Prop where
  os : w'.os = w.os
  tape : w'.tape = w.tape
  output : w'.output = w.output
  size : w.heap.size ≤ w'.heap.size
  block : ∀ k, k < w.heap.size → ¬ X k → w'.heap[k]? = w.heap[k]?
theorem Fr.refl (w : World) (X : Nat → Prop) : Fr w w X := ⟨rfl, rfl, rfl, Nat.le_refl _, fun _ _ _ => rfl⟩
theorem Fr.trans {a b c : World} {X Y : Nat → Prop} (h : Fr a b X) (k : Fr b c Y) (hY : ∀ i, i < a.heap.size → Y i → X i) : Fr a c X :=
  ⟨k.os.trans h.os, k.tape.trans h.tape, k.output.trans h.output, Nat.le_trans h.size k.size, fun i hi hx => (k.block i (Nat.lt_of_lt_of_le hi h.size) fun hy => hx (hY i hi hy)).trans (h.block i hi hx)⟩

/-- What is known of the objects is known still, or of a newer one. -/
structure Le (m : M) (hd : H) (m' : M) (hd' : H) : Prop where
  le : ∀ i o, m i = some o → ∃ o', m' i = some o' ∧ o.ver ≤ o'.ver ∧ (o'.ver = o.ver → hd' i = hd i ∧ o'.kind = o.kind)
theorem Le.refl (m : M) (hd : H) : Le m hd m hd := ⟨fun i o h => ⟨o, h, Nat.le_refl _, fun _ => ⟨rfl, rfl⟩⟩⟩

variable {m m' : M} {hd hd' : H} {X : Nat → Prop} {B : Nat}
mutual
theorem VR.keep (hl : Le m hd m' hd') (hk : ∀ b, S b → b < w.heap.size → S' b ∧ w'.heap[b]? = w.heap[b]?) : ∀ (x : V) (u : Value), VR m hd w S x u → VR m' hd' w' S' x u
  | .un, u, h => by simp only [VR]
  | .d x, u, h => by simp only [VR] at h ⊢; exact D.keep hk x u h
  | .nl _, u, h => by simp only [VR] at h ⊢; exact h
  | .z0, u, h => by simp only [VR] at h ⊢; exact h
  | .ub, u, h => by simp only [VR] at h ⊢; exact h
  | .og i v, u, h => by
    simp only [VR] at h ⊢
    obtain ⟨h0, y, h1, h2, h3⟩ := h
    obtain ⟨y', h4, h5, h6⟩ := hl.le i y h1
    refine ⟨h0, y', h4, by omega, fun k mu l e => ?_⟩
    subst e
    obtain ⟨h7, h8⟩ := h6 (by simp only [O.ver] at *; omega)
    rw [h7]
    cases y with
    | box v' cs => simp [O.kind] at h8
    | arr v' k' mu' l' =>
      simp only [O.ver] at *
      obtain rfl : v' = v := by omega
      exact h3 k' mu' l' rfl
  | .bp i v o, u, h => by
    simp only [VR] at h ⊢
    obtain ⟨h0, y, h1, h2, h3⟩ := h
    obtain ⟨y', h4, h5, h6⟩ := hl.le i y h1
    refine ⟨h0, y', h4, by omega, fun cs e => ?_⟩
    subst e
    obtain ⟨h7, h8⟩ := h6 (by simp only [O.ver] at *; omega)
    rw [h7]
    cases y with
    | arr v' k' mu' l' => simp [O.kind] at h8
    | box v' cs' =>
      simp only [O.ver] at *
      obtain rfl : v' = v := by omega
      exact h3 cs' rfl
  | .ep i v e o, u, h => by
    simp only [VR] at h ⊢
    obtain ⟨h0, y, h1, h2, h3⟩ := h
    obtain ⟨y', h4, h5, h6⟩ := hl.le i y h1
    refine ⟨h0, y', h4, by omega, fun k mu l e => ?_, fun cs e => ?_⟩
    · subst e
      obtain ⟨h7, h8⟩ := h6 (by simp only [O.ver] at *; omega)
      rw [h7]
      cases y with
      | box v' cs => simp [O.kind] at h8
      | arr v' k' mu' l' =>
        simp only [O.ver] at *
        obtain rfl : v' = v := by omega
        simp only [O.kind, Option.some.injEq] at h8
        subst h8
        exact h3.1 k mu' l' rfl
    · subst e
      obtain ⟨h7, h8⟩ := h6 (by simp only [O.ver] at *; omega)
      rw [h7]
      cases y with
      | arr v' k' mu' l' => simp [O.kind] at h8
      | box v' cs' =>
        simp only [O.ver] at *
        obtain rfl : v' = v := by omega
        exact h3.2 cs' rfl
  | .fp cs o, u, h => by
    simp only [VR] at h ⊢
    obtain ⟨g, off, xs, hu, hS, hr, hc⟩ := h
    exact ⟨g, off, xs, hu, ⟨(hk g hS.1 hS.2).1, lt_of_same hS.2 (hk g hS.1 hS.2).2⟩, rangeAt_congr hr (hk g hS.1 hS.2).2, Cells.keep hk cs xs hc⟩
  | .cl f l, u, h => by
    simp only [VR] at h ⊢
    obtain ⟨vs, hu, h⟩ := h
    exact ⟨vs, hu, VRs.keep hl hk l vs h⟩
  | .ag l, u, h => by
    simp only [VR] at h ⊢
    obtain ⟨vs, hu, h, h1⟩ := h
    exact ⟨vs, hu, VRs.keep hl hk l vs h, h1⟩
  | .tu l, u, h => by
    simp only [VR] at h ⊢
    obtain ⟨vs, hu, h⟩ := h
    exact ⟨vs, hu, VRs.keep hl hk l vs h⟩
theorem VRs.keep (hl : Le m hd m' hd') (hk : ∀ b, S b → b < w.heap.size → S' b ∧ w'.heap[b]? = w.heap[b]?) : ∀ (l : List V) (xs : List Value), VRs m hd w S l xs → VRs m' hd' w' S' l xs
  | [], xs, h => by simp only [VRs] at h ⊢; exact h
  | x :: l, xs, h => by
    simp only [VRs] at h ⊢
    obtain ⟨u, r, hx, h1, h2⟩ := h
    exact ⟨u, r, hx, VR.keep hl hk x u h1, VRs.keep hl hk l r h2⟩
end
theorem VRs.len {l : List V} {xs : List Value} (h : VRs m hd w S l xs) : xs.length = l.length := by
  induction l generalizing xs with
  | nil => simp only [VRs] at h; simp [h]
  | cons d l ih => simp only [VRs] at h; obtain ⟨x, r, rfl, h1, h2⟩ := h; simp [ih h2]
theorem VRs.get {l : List V} {xs : List Value} (h : VRs m hd w S l xs) : ∀ (i : Nat) (x : V), l[i]? = some x → ∃ u, xs[i]? = some u ∧ VR m hd w S x u := by
  induction l generalizing xs with
  | nil => intro i x h; simp at h
  | cons d l ih =>
    simp only [VRs] at h
    obtain ⟨u, r, rfl, h1, h2⟩ := h
    intro i x hx
    cases i with
    | zero => simp at hx; subst hx; exact ⟨u, rfl, h1⟩
    | succ i => exact ih h2 i x (by simpa using hx)
theorem VRs.append {l l' : List V} {xs xs' : List Value} (h : VRs m hd w S l xs) (h' : VRs m hd w S l' xs') : VRs m hd w S (l ++ l') (xs ++ xs') := by
  induction l generalizing xs with
  | nil => simp only [VRs] at h; subst h; exact h'
  | cons d l ih => simp only [VRs] at h; obtain ⟨x, r, rfl, h1, h2⟩ := h; exact ⟨x, r ++ xs', rfl, h1, ih h2⟩
theorem VRs.drop {l : List V} {xs : List Value} (h : VRs m hd w S l xs) : ∀ n, VRs m hd w S (l.drop n) (xs.drop n) := by
  induction l generalizing xs with
  | nil => simp only [VRs] at h; subst h; intro n; simp [VRs]
  | cons d l ih =>
    have h0 := h
    simp only [VRs] at h; obtain ⟨x, r, rfl, h1, h2⟩ := h
    intro n
    cases n with
    | zero => exact h0
    | succ n => exact ih h2 n
theorem VRs.take {l : List V} {xs : List Value} (h : VRs m hd w S l xs) : ∀ n, VRs m hd w S (l.take n) (xs.take n) := by
  induction l generalizing xs with
  | nil => simp only [VRs] at h; subst h; intro n; simp [VRs]
  | cons d l ih =>
    simp only [VRs] at h; obtain ⟨x, r, rfl, h1, h2⟩ := h
    intro n
    cases n with
    | zero => simp [VRs]
    | succ n => exact ⟨x, _, by simp, h1, ih h2 n⟩
theorem cells_VRs {l : List D} {xs : List Value} (h : Cells w S l xs) : VRs m hd w S (l.map V.d) xs := by
  induction l generalizing xs with
  | nil => simp only [Cells] at h; subst h; simp [VRs]
  | cons d l ih => simp only [Cells] at h; obtain ⟨x, r, rfl, h1, h2⟩ := h; exact ⟨x, r, rfl, by simp only [VR]; exact h1, ih h2⟩
theorem VRs_cells {l : List D} {xs : List Value} (h : VRs m hd w S (l.map V.d) xs) : Cells w S l xs := by
  induction l generalizing xs with
  | nil => simp only [VRs, List.map_nil] at h; subst h; simp [Cells]
  | cons d l ih => simp only [VRs, List.map_cons] at h; obtain ⟨x, r, rfl, h1, h2⟩ := h; exact ⟨x, r, rfl, by simpa only [VR] using h1, ih h2⟩

theorem Arr.keep {T T' : Nat → Prop} {k : Nat} {v : Value} {l : List (List D)} {Z : Nat → Prop} (h : Arr w B X T k v l) (hs : w.heap.size ≤ w'.heap.size) (hk : ∀ b, T b → b < w.heap.size → T' b ∧ w'.heap[b]? = w.heap[b]?)
    (hb : ∀ b, blk v = some b → w'.heap[b]? = w.heap[b]? ∧ ¬ T' b) : Arr w' B X T' k v l := by
  obtain ⟨xs, hx, h⟩ := h
  refine ⟨xs, Rows.keep hk k l xs hx, h.imp id fun ⟨g, off, cap, hv, h0, h1, h2, h3, h4, h5, h6, h7⟩ => ?_⟩
  obtain ⟨e1, e2⟩ := hb g (by subst hv; cases cap with | zero => omega | succ c => rfl)
  exact ⟨g, off, cap, hv, h0, h1, by omega, e2, h4, h5, there_congr h6 e1, rangeAt_congr h7 e1⟩

/-- THE NEXT MEMORY: what is not touched stays. -/
theorem Mem.next {Z : Nat → Prop} (h : Mem m hd w S X B) (hs : w.heap.size ≤ w'.heap.size) (hz : ∀ b, b < w.heap.size → ¬ Z b → w'.heap[b]? = w.heap[b]?)
    (hSZ : ∀ b, S b → ¬ Z b) (hSS : ∀ b, S b → S' b) (hlt : ∀ b, S' b → b < w'.heap.size) (hl : Le m hd m' hd')
    (hobj : ∀ i o, m' i = some o → (m i = some o ∧ hd' i = hd i ∧ ∀ b, o.live = true → blk (hd i) = some b → ¬ Z b ∧ ¬ S' b) ∨ o.is m' hd' w' S' X B (hd' i))
    (hsep : ∀ i j oi oj b, i ≠ j → m' i = some oi → m' j = some oj → oi.live = true → oj.live = true → blk (hd' i) = some b → blk (hd' j) ≠ some b) : Mem m' hd' w' S' X B := by
  have hkeep : ∀ b, S b → b < w.heap.size → S' b ∧ w'.heap[b]? = w.heap[b]? := fun b hb hlt => ⟨hSS b hb, hz b hlt (hSZ b hb)⟩
  refine ⟨fun i o ho => ?_, hsep, hlt, Nat.le_trans h.base hs, h.sX⟩
  rcases hobj i o ho with ⟨h1, h2, h3⟩ | h1
  · have hi := h.obj i o h1
    rw [h2]
    cases o with
    | box v cs =>
      simp only [O.is] at hi ⊢
      obtain ⟨b, vs, hb, h4, h5, h6, h7, h8, h9, h10⟩ := hi
      obtain ⟨hZ, hS⟩ := h3 b rfl (by rw [hb]; rfl)
      exact ⟨b, vs, hb, h4, by omega, hS, VRs.keep hl hkeep cs vs h7, h8, there_congr h9 (hz b h5 hZ), rangeAt_congr h10 (hz b h5 hZ)⟩
    | arr v k mu l =>
      simp only [O.is] at hi ⊢
      cases mu with
      | true =>
        simp only [if_true] at hi ⊢
        refine Arr.keep (Z := Z) hi hs hkeep fun b hb => ?_
        obtain ⟨hZ, hS⟩ := h3 b rfl hb
        refine ⟨hz b ?_ hZ, hS⟩
        obtain ⟨xs, _, hx⟩ := hi
        rcases hx with ⟨a, hv, _⟩ | ⟨g, off, cap, hv, h0, _, hlt, _⟩
        · rw [hv] at hb; cases a <;> simp [blk] at hb
        · rw [hv] at hb
          cases cap with
          | zero => omega
          | succ c => simp [blk] at hb; omega
      | false =>
        simp only [Bool.false_eq_true, if_false] at hi ⊢
        exact D.keep hkeep _ _ hi
  · exact h1
end
end Go.Proofs.Ytihjmnhjjpdenaa.Sim
end
