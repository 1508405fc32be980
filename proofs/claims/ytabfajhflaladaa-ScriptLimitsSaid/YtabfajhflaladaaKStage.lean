/- A region that draws its order: what is read holds its value till the first store. Of no program. Conditions: none. -/
import Derived.Test.YtabfajhflaladaaKRep
namespace Go.Proofs.Ytabfajhflaladaa
open Go Go.RowKit Go.Deep
set_option linter.unusedVariables false

section
variable {P : Program} {ops : Array Oper} {Q : Exit → Act → World → Prop} {md : Region.Mode} {S : World → Prop} {k : Nat}

/-- Whatever order is picked from here on; S is owed behind every operation as long as number k has not come up. -/
def wpStage (P : Program) (md : Region.Mode) (ops : Array Oper) (Q : Exit → Act → World → Prop) (S : World → Prop) (k : Nat) : Nat → Array Bool → Act → World → Prop
  | 0, listed, a, w => Region.ready md ops listed = [] ∧ Q .normal a w
  | fuel + 1, listed, a, w =>
    (Region.ready md ops listed = [] → Q .normal a w) ∧
    ∀ i ∈ Region.ready md ops listed, wpOp P ops Q i (fun a' w' => ((listed.setIfInBounds i true).getD k true = false → S w') ∧ wpStage P md ops Q S k fuel (listed.setIfInBounds i true) a' w') a w

theorem wpAny_of_stage : ∀ (fuel : Nat) (listed : Array Bool) (a : Act) (w : World), wpStage P md ops Q S k fuel listed a w → wpAny P md ops Q fuel listed a w
  | 0, _, _, _, h => h
  | fuel + 1, _, _, _, h => ⟨h.1, fun i hi => wpOp_mono (fun a' w' h' => wpAny_of_stage fuel _ a' w' h'.2) (h.2 i hi)⟩

/-- Number k waits for number i. -/
def waitsFor (md : Region.Mode) (ops : Array Oper) (k i : Nat) : Bool := ((ops[k]?).map fun o => o.after.any fun e => Region.binds md e && e.on == i).getD false

theorem not_ready_before {i j : Nat} {listed : Array Bool} (hw : waitsFor md ops k i = true) (hi : listed.getD i true = false) (hj : j ∈ Region.ready md ops listed) : j ≠ k := by
  rintro rfl
  obtain ⟨_, o, ho, hall⟩ := mem_ready.1 hj
  simp only [waitsFor, ho, Option.map_some, Option.getD_some] at hw
  obtain ⟨e, he, hb⟩ := Array.any_eq_true'.1 hw
  simp only [Bool.and_eq_true, beq_iff_eq] at hb
  have := hall e he hb.1
  rw [hb.2] at this
  rcases Nat.lt_or_ge i listed.size with h | h
  · simp [h] at this hi; rw [hi] at this; cases this
  · simp [Array.getElem?_eq_none h] at this

/-- A read may be taken first, if the store waits for it. -/
theorem wpStage_first {i : Nat} {oi : Oper} {v : Value} (hi : ops[i]? = some oi) (hsel : ∀ (j : Nat) (o : Oper) cs b, ops[j]? = some o → o.op ≠ .select cs b)
    (hQ : ∀ c a w, Q (.panic c) (a.put oi.dst v) w → Q (.panic c) a w) (hw : waitsFor md ops k i = true) :
    ∀ (fuel : Nat) (listed : Array Bool) (a : Act) (w : World),
      (∀ j oj, ops[j]? = some oj → j ≠ i → listed.getD j true = false → (∀ e ∈ oj.after, Region.binds md e = true → e.on ≠ i) → oi.apart ops oj = true) →
      i ∈ Region.ready md ops listed → YieldsIf P ops S oi v a → listed.getD k true = false → S w →
      wpStage P md ops Q S k fuel (listed.setIfInBounds i true) (a.put oi.dst v) w → wpStage P md ops Q S k (fuel + 1) listed a w := by
  intro fuel
  induction fuel with
  | zero =>
    intro listed a w _ hr hy hkl hS H
    refine ⟨fun h => (by rw [h] at hr; cases hr), fun j hj => ?_⟩
    by_cases hji : j = i
    · subst hji; exact hy.wpOp hi hS ⟨fun _ => hS, H⟩
    · have := ready_mono hj hji
      rw [H.1] at this
      cases this
  | succ fuel ih =>
    intro listed a w hfree hr hy hkl hS H
    refine ⟨fun h => (by rw [h] at hr; cases hr), fun j hj => ?_⟩
    by_cases hji : j = i
    · subst hji; exact hy.wpOp hi hS ⟨fun _ => hS, H⟩
    · have h1 := H.2 j (ready_mono hj hji)
      have hjk := not_ready_before hw (mem_ready.1 hr).1 hj
      obtain ⟨hjun, oj, hoj, hall⟩ := mem_ready.1 hj
      have hnot : ∀ e ∈ oj.after, Region.binds md e = true → e.on ≠ i := fun e he hb heq => by
        have h1 := hall e he hb
        have h0 := (mem_ready.1 hr).1
        rw [heq] at h1
        rcases Nat.lt_or_ge i listed.size with h' | h'
        · simp [h'] at h0 h1; rw [h0] at h1; cases h1
        · simp [Array.getElem?_eq_none h'] at h1
      have h2 := wpOp_putIf hoj (hfree j oj hoj hji hjun hnot) (fun cs b => hsel i oi cs b hi) (fun cs b => hsel j oj cs b hoj) hQ hy h1
      have hik : i ≠ k := not_ready_before hw (mem_ready.1 hr).1 hr
      have hkl1 : (listed.setIfInBounds j true).getD k true = false := by rw [getD_set_ne true hjk]; exact hkl
      have hkl2 : ((listed.setIfInBounds i true).setIfInBounds j true).getD k true = false := by rw [getD_set_ne true hjk, getD_set_ne true hik]; exact hkl
      have hfree' : ∀ m om, ops[m]? = some om → m ≠ i → (listed.setIfInBounds j true).getD m true = false →
          (∀ e ∈ om.after, Region.binds md e = true → e.on ≠ i) → oi.apart ops om = true := fun m om hm hmi hun hno => by
        refine hfree m om hm hmi ?_ hno
        by_cases hjm : j = m
        · subst hjm; exact hjun
        · rw [getD_set_ne true hjm] at hun; exact hun
      refine wpOp_mono (fun a' w' h3 => ⟨fun _ => h3.2.1 hkl2, ih (listed.setIfInBounds j true) a' w' hfree' (ready_mono hr (Ne.symm hji)) h3.1 hkl1 (h3.2.1 hkl2) ?_⟩) h2
      rw [Array.setIfInBounds_comm _ _ hji]
      exact h3.2.2

/-! ### The moves -/
theorem wpStage_take {i : Nat} {oi : Oper} {v : Value} {fuel : Nat} {listed : Array Bool} {a : Act} {w : World} (hi : ops[i]? = some oi) (hg : oi.guard = none)
    (hs : (Region.noSelect ops && Region.free md ops listed i && (Region.ready md ops listed).contains i && waitsFor md ops k i && !listed.getD k true) = true)
    (hQ : ∀ c a w, Q (.panic c) (a.put oi.dst v) w → Q (.panic c) a w) (hy : ∀ w, S w → (execOp a.eval oi).run P w = .ok (.value v) w) (hS : S w)
    (h : wpStage P md ops Q S k fuel (listed.setIfInBounds i true) (a.put oi.dst v) w) : wpStage P md ops Q S k (fuel + 1) listed a w := by
  simp only [Bool.and_eq_true, Bool.not_eq_true'] at hs
  obtain ⟨⟨⟨⟨h1, h2⟩, h3⟩, h4⟩, h5⟩ := hs
  exact wpStage_first hi (Region.noSelect_spec h1) hQ h4 fuel listed a w (Region.free_spec hi h2) (by simpa using h3) (.inl ⟨by simp [Region.wanted, hg], hy⟩) h5 hS h
/-- One of those that may come up. -/
def StageOne (P : Program) (md : Region.Mode) (ops : Array Oper) (Q : Exit → Act → World → Prop) (S : World → Prop) (k fuel : Nat) (listed : Array Bool) (a : Act) (w : World) (rs : List Nat) : Prop :=
  ∀ i ∈ rs, wpOp P ops Q i (fun a' w' => ((listed.setIfInBounds i true).getD k true = false → S w') ∧ wpStage P md ops Q S k fuel (listed.setIfInBounds i true) a' w') a w
theorem StageOne.nil {fuel : Nat} {listed : Array Bool} {a : Act} {w : World} : StageOne P md ops Q S k fuel listed a w [] := fun _ h => by cases h
/-- Ahead of the store: S is owed. -/
theorem StageOne.cons {fuel : Nat} {listed : Array Bool} {a : Act} {w : World} {i : Nat} {o : Oper} {rs : List Nat} (ho : ops[i]? = some o) (hg : o.guard = none)
    (h : ∀ K' : Act → World → Prop, Shut (∀ a w, S w → (S w → wpStage P md ops Q S k fuel (listed.setIfInBounds i true) a w) → K' a w) → Oper.wp P o a w K' Q)
    (hs : StageOne P md ops Q S k fuel listed a w rs) : StageOne P md ops Q S k fuel listed a w (i :: rs) := fun j hj => by
  rcases List.mem_cons.1 hj with rfl | hj
  · refine wpOp_step ho fun K' hK => ?_
    rw [if_pos (by simp [Region.wanted, hg])]
    exact h K' (fun a w hS hW => hK a w ⟨fun _ => hS, hW hS⟩)
  · exact hs j hj
/-- From the store on: S is owed no more. -/
theorem StageOne.late {fuel : Nat} {listed : Array Bool} {a : Act} {w : World} {i : Nat} {o : Oper} {rs : List Nat} (ho : ops[i]? = some o) (hg : o.guard = none) (hl : (listed.setIfInBounds i true).getD k true = true)
    (h : ∀ K' : Act → World → Prop, Shut (∀ a w, wpStage P md ops Q S k fuel (listed.setIfInBounds i true) a w → K' a w) → Oper.wp P o a w K' Q)
    (hs : StageOne P md ops Q S k fuel listed a w rs) : StageOne P md ops Q S k fuel listed a w (i :: rs) := fun j hj => by
  rcases List.mem_cons.1 hj with rfl | hj
  · refine wpOp_step ho fun K' hK => ?_
    rw [if_pos (by simp [Region.wanted, hg])]
    exact h K' (fun a w hW => hK a w ⟨fun e => (by rw [hl] at e; cases e), hW⟩)
  · exact hs j hj
theorem wpStage_ready {rs : List Nat} {fuel : Nat} {listed : Array Bool} {a : Act} {w : World} (hr : Region.ready md ops listed = rs) (hne : rs ≠ [])
    (h : StageOne P md ops Q S k fuel listed a w rs) : wpStage P md ops Q S k (fuel + 1) listed a w := ⟨fun h0 => absurd (hr ▸ h0) hne, hr ▸ h⟩
theorem wpStage_done {listed : Array Bool} {a : Act} {w : World} (hr : Region.ready md ops listed = []) (h : Q .normal a w) : ∀ fuel, wpStage P md ops Q S k fuel listed a w
  | 0 => ⟨hr, h⟩
  | _ + 1 => ⟨fun _ => h, by rw [hr]; simp⟩
theorem wp_region_stage (S : World → Prop) (k : Nat) {id : Nat} {a : Act} {w : World} (hm : P.follows .mixedOrders = true) (hS : S w.drew)
    (h : S w.drew → wpStage P .any ops Q S k ops.size (Array.replicate ops.size false) a w.drew) : (Code.region id ops true).wp P Q a w :=
  wp_region_any hm (wpAny_of_stage _ _ _ _ (h hS))

/-- n ELEMENTS MORE onto a slice of the call's own, as a step of a region. -/
theorem wp_append_mine {o : Oper} {a : Act} {w : World} {K : Act → World → Prop} {B sz n : Nat} {v : Value} {xs : List Value} (so xo : Operand) (t tx : TypeId)
    (ho : o.op = .call { callee := .builtin .append, args := #[so, xo], argTypes := #[t, tx] })
    (e : TypeId) (i : TypeInfo) (z : Value) (bytes : Nat) (ht : P.underlying t = some (.slice e)) (hi : P.info? e = some i) (hz : i.zero = some z) (hsize : i.size = sz) (hby : i.bytes = bytes) (hzs : z.cells.size = sz)
    (hv : a.eval so = v) (h : Own w B sz v n xs) (hBw : B ≤ w.heap.size) (x : Value) (hx : a.eval xo = x) (m : Nat) (news : List Value) (hs : Src P sz tx x m news w) (h63 : n + m ≤ maxLen) (hbytes : (n + m) * bytes ≤ 140737488355328)
    (hK : ∀ ad c w', Own w' B sz (.slice ad (n + m) c) (n + m) (xs ++ news) → w.grownBy w' v.ownBlock → ((Value.slice ad (n + m) c).ownBlock = v.ownBlock ∨ (Value.slice ad (n + m) c).ownBlock = some w.heap.size) → K (a.put o.dst (.slice ad (n + m) c)) w') :
    o.wp P a w K Q := by
  obtain ⟨v', w', hrun, r1, r2, r3⟩ := run_append_mine (P := P) t tx o.type e i z bytes ht hi hz hsize hby hzs h hBw x m news hs h63 hbytes
  obtain ⟨ad, c, rfl⟩ := r1.form
  unfold Oper.wp
  simp [execOp, ho, resolve, invoke, builtin, hv, hx, hrun, Result.andThen]
  exact hK ad c w' r1 r2 r3

/-- .. read as a list. -/
theorem wp_append_own {α : Type} [Rep α] {o : Oper} {a : Act} {w : World} {K : Act → World → Prop} {B : Nat} {T : Nat → Prop} {v : Value} {l m : List α} (so xo : Operand) (t tx : TypeId)
    (ho : o.op = .call { callee := .builtin .append, args := #[so, xo], argTypes := #[t, tx] })
    (e : TypeId) (i : TypeInfo) (z : Value) (bytes : Nat) (ht : P.underlying t = some (.slice e)) (hi : P.info? e = some i) (hz : i.zero = some z) (hsize : i.size = Rep.sz α) (hby : i.bytes = bytes) (hzs : z.cells.size = Rep.sz α)
    (hv : a.eval so = v) (h : OwnT w B T v l) (hBw : B ≤ w.heap.size) (x : Value) (hx : a.eval xo = x) (news : List Value) (hs : Src P (Rep.sz α) tx x m.length news w) (hn : Chunks w (Off w v T) news m) (h63 : l.length + m.length ≤ maxLen) (hbytes : (l.length + m.length) * bytes ≤ 140737488355328)
    (hK : ∀ ad c w', OwnT w' B T (.slice ad (l.length + m.length) c) (l ++ m) → w.grownBy w' v.ownBlock → ((Value.slice ad (l.length + m.length) c).ownBlock = v.ownBlock ∨ (Value.slice ad (l.length + m.length) c).ownBlock = some w.heap.size) → K (a.put o.dst (.slice ad (l.length + m.length) c)) w') : o.wp P a w K Q := by
  obtain ⟨xs, ho', hx'⟩ := h
  refine wp_append_mine so xo t tx ho e i z bytes ht hi hz hsize hby hzs hv ho' hBw x hx m.length news hs h63 hbytes fun ad c w' r1 r2 r3 => hK ad c w' ?_ r2 r3
  exact OwnT.grown ⟨xs, hx', r1⟩ hn r2 r3
theorem wpList_append_own' {α : Type} [Rep α] {rest : List Oper} {o : Oper} {a : Act} {w : World} (hgd : o.guard = none) {B : Nat} {T : Nat → Prop} {v : Value} {l m : List α} (so xo : Operand) (t tx : TypeId)
    (ho : o.op = .call { callee := .builtin .append, args := #[so, xo], argTypes := #[t, tx] })
    (e : TypeId) (i : TypeInfo) (z : Value) (bytes : Nat) (ht : P.underlying t = some (.slice e)) (hi : P.info? e = some i) (hz : i.zero = some z) (hsize : i.size = Rep.sz α) (hby : i.bytes = bytes) (hzs : z.cells.size = Rep.sz α)
    (hv : a.eval so = v) (h : OwnT w B T v l) (hBw : B ≤ w.heap.size) (x : Value) (hx : a.eval xo = x) (news : List Value) (hs : Src P (Rep.sz α) tx x m.length news w) (hn : Chunks w (Off w v T) news m) (h63 : l.length + m.length ≤ maxLen) (hbytes : (l.length + m.length) * bytes ≤ 140737488355328)
    (hK : ∀ ad c w', OwnT w' B T (.slice ad (l.length + m.length) c) (l ++ m) → w.grownBy w' v.ownBlock → ((Value.slice ad (l.length + m.length) c).ownBlock = v.ownBlock ∨ (Value.slice ad (l.length + m.length) c).ownBlock = some w.heap.size) → wpList P ops Q rest (a.put o.dst (.slice ad (l.length + m.length) c)) w') : wpList P ops Q (o :: rest) a w :=
  wpList_plain hgd fun _ hK' => wp_append_own so xo t tx ho e i z bytes ht hi hz hsize hby hzs hv h hBw x hx news hs hn h63 hbytes fun ad c w' r1 r2 r3 => hK' _ _ (hK ad c w' r1 r2 r3)
/-- An element in a new block of its own, as 'append(x, e)' lays it: what is appended. -/
theorem Src.single {sz : Nat} {w : World} {tx e' : TypeId} (hk : P.underlying tx = some (.slice e')) {b : Nat} {cs : List Value} (hl : cs.length = sz) (hr : w.rangeAt b 0 cs) (h1 : ∀ u ∈ cs, u.oneCell' = true) : Src P sz tx (.slice (some ⟨b, 0, none⟩) 1 1) 1 cs w :=
  Src.ofSlice w hk _ 1 1 cs (by omega) (fun j u hu => by rw [Addr.add_lit]; exact hr j u hu) h1
theorem range_new (w : World) (cs : List Value) (t : TypeId) : (w.alloc (.cells cs.toArray t)).rangeAt w.heap.size 0 cs := fun j v hv => by
  rw [Nat.zero_add, World.cell?_alloc_new]
  simpa using hv
/-- There is room: the elements are laid behind, in place. -/
theorem wp_append_room {α : Type} [Rep α] {o : Oper} {a : Act} {w : World} {K : Act → World → Prop} {B : Nat} {T : Nat → Prop} {g off n cap : Nat} {l m : List α} (so xo : Operand) (t tx : TypeId)
    (ho : o.op = .call { callee := .builtin .append, args := #[so, xo], argTypes := #[t, tx] })
    (e : TypeId) (i : TypeInfo) (ht : P.underlying t = some (.slice e)) (hi : P.info? e = some i) (hsize : i.size = Rep.sz α)
    (hv : a.eval so = .slice (some ⟨g, off, none⟩) n cap) (h : OwnT w B T (.slice (some ⟨g, off, none⟩) n cap) l) (x : Value) (hx : a.eval xo = x) (news : List Value) (hs : Src P (Rep.sz α) tx x m.length news w) (hn : Chunks w (Off w (.slice (some ⟨g, off, none⟩) n cap) T) news m) (hroom : n + m.length ≤ cap)
    (hK : OwnT (w.setCells g (off + n * Rep.sz α) news) B T (.slice (some ⟨g, off, none⟩) (n + m.length) cap) (l ++ m) → K (a.put o.dst (.slice (some ⟨g, off, none⟩) (n + m.length) cap)) (w.setCells g (off + n * Rep.sz α) news)) : o.wp P a w K Q := by
  obtain ⟨xs, hw, hx'⟩ := h
  have hln : n = l.length := by
    rcases hw.2 with ⟨e, _⟩ | ⟨_, _, _, e, _⟩
    · cases e
    · injection e
  subst hln
  have hnl := hs.newsLen
  rcases hw.2 with ⟨e, _⟩ | ⟨g', off', cap', e, hB, hlt, hn', hc, ht', hr⟩
  · cases e
  · injection e with e1 e2 e3
    injection e1 with e1
    injection e1 with e4 e5 e6
    subst e4 e5 e3
    have hle : l.length * Rep.sz α + m.length * Rep.sz α ≤ cap * Rep.sz α := by rw [← Nat.add_mul]; exact Nat.mul_le_mul_right _ hroom
    have hth : w.there g (off + l.length * Rep.sz α) news.length := fun j hj => by
      have := ht' (l.length * Rep.sz α + j) (by omega)
      rwa [← Nat.add_assoc] at this
    have hs' : Src P i.size tx x m.length news w := by rw [hsize]; exact hs
    have hrun := run_append_room_src (P := P) w t tx o.type e i ht hi g off l.length cap x m.length news hs' hroom (fun j hj => by rw [hsize]; exact (hth j hj).1) (fun j hj => by rw [hsize]; exact (hth j hj).2)
    rw [hsize] at hrun
    have hkeep : ∀ b, Off w (.slice (some ⟨g, off, none⟩) l.length cap) T b → Off (w.setCells g (off + l.length * Rep.sz α) news) (.slice (some ⟨g, off, none⟩) (l.length + m.length) cap) T b ∧ (w.setCells g (off + l.length * Rep.sz α) news).heap[b]? = w.heap[b]? :=
      fun b hb => ⟨⟨⟨by rw [(size_setCells _ _ _ _).1]; exact hb.1.1, hb.1.2⟩, hb.2⟩, World.heap_setCells_other _ _ _ _ hb.1.1 (fun e => hb.1.2 (by rw [e]; rfl))⟩
    have hfin : OwnT (w.setCells g (off + l.length * Rep.sz α) news) B T (.slice (some ⟨g, off, none⟩) (l.length + m.length) cap) (l ++ m) := by
      refine ⟨xs ++ news, ⟨by rw [List.length_append, hw.1, hnl, List.length_append, Nat.add_mul], .inr ⟨g, off, cap, by rw [List.length_append], hB, by rw [(size_setCells _ _ _ _).1]; exact hlt, by rw [List.length_append]; exact hroom, hc, World.there_setCells ht' _ _ _, fun j u hu => ?_⟩⟩, (hx'.append hn).keep fun b hb _ => hkeep b hb⟩
      have hxl := hw.1
      rcases Nat.lt_or_ge j xs.length with hj | hj
      · rw [List.getElem?_append_left hj] at hu
        rw [World.cell?_setCells_out g news (off + l.length * Rep.sz α) w ⟨g, off + j, none⟩ (fun _ _ => .inl (by show off + j < _; omega))]
        exact hr j u hu
      · rw [List.getElem?_append_right hj] at hu
        have := World.rangeAt_setCells_same w g (off + l.length * Rep.sz α) news hth (j - xs.length) u hu
        rw [show off + l.length * Rep.sz α + (j - xs.length) = off + j by omega] at this
        exact this
    unfold Oper.wp
    simp [execOp, ho, resolve, invoke, builtin, hv, hx, hrun, Result.andThen]
    exact hK hfin
/-- A prefix of a slice of the call's own. -/
theorem OwnT.take {α : Type} [Rep α] {w : World} {B : Nat} {T : Nat → Prop} {g off n cap : Nat} {l : List α} (h : OwnT w B T (.slice (some ⟨g, off, none⟩) n cap) l) {i : Nat} (hi : i ≤ n) : OwnT w B T (.slice (some ⟨g, off, none⟩) i cap) (l.take i) := by
  obtain ⟨xs, hw, hx⟩ := h
  rcases hw.2 with ⟨e, _⟩ | ⟨g', off', cap', e, hB, hlt, hn', hc, ht', hr⟩
  · cases e
  · injection e with e1 e2 e3
    injection e1 with e1
    injection e1 with e4 e5 e6
    subst e4 e5 e3
    have hl : (l.take i).length = i := by rw [List.length_take]; omega
    have e : l = l.take i ++ l.drop i := (List.take_append_drop i l).symm
    rw [e] at hx
    obtain ⟨p, q, rfl, hp, hq⟩ := hx.split
    refine ⟨p, ⟨hp.len, .inr ⟨g, off, cap, by rw [hl], hB, hlt, by omega, hc, ht', fun j v hv => hr j v ?_⟩⟩, hp.keep fun b hb _ => ⟨⟨hb.1, hb.2⟩, rfl⟩⟩
    rw [List.getElem?_append_left ((List.getElem?_eq_some_iff.1 hv).1)]
    exact hv
/-- What lies from element j on, as it is appended. -/
theorem OwnT.rest {α : Type} [Rep α] {w : World} {B : Nat} {T : Nat → Prop} {g off n cap : Nat} {l : List α} (h : OwnT w B T (.slice (some ⟨g, off, none⟩) n cap) l) {tx e' : TypeId} (hk : P.underlying tx = some (.slice e')) {j : Nat} (hj : j ≤ n) (c : Nat) :
    ∃ news, Chunks w (Off w (.slice (some ⟨g, off, none⟩) n cap) T) news (l.drop j) ∧ ∀ a : Addr, (j < n → a = ⟨g, off + j * Rep.sz α, none⟩) → Src P (Rep.sz α) tx (.slice (some a) (n - j) c) (l.drop j).length news w := by
  obtain ⟨xs, hw, hx⟩ := h
  rcases hw.2 with ⟨e, _⟩ | ⟨g', off', cap', e, hB, hlt, hn', hc, ht', hr⟩
  · cases e
  · injection e with e1 e2 e3
    injection e1 with e1
    injection e1 with e4 e5 e6
    subst e4 e5 e3
    have e : l = l.take j ++ l.drop j := (List.take_append_drop j l).symm
    rw [e] at hx
    obtain ⟨p, q, rfl, hp, hq⟩ := hx.split
    have hpl := hp.len
    rw [List.length_take, Nat.min_eq_left (by omega)] at hpl
    have hdl : (l.drop j).length = n - j := by rw [List.length_drop]; omega
    refine ⟨q, hq, fun a ha => ?_⟩
    rw [hdl]
    refine Src.ofSlice w hk a (n - j) c q (by rw [hq.len, hdl]) (fun k u hu => ?_) hq.one
    have hk' : k < q.length := (List.getElem?_eq_some_iff.1 hu).1
    have hjn : j < n := by
      rcases Nat.lt_or_ge j n with h | h
      · exact h
      · have := hq.len; rw [hdl, Nat.sub_eq_zero_of_le h, Nat.zero_mul] at this; omega
    rw [ha hjn, Addr.add_lit, Nat.add_assoc]
    refine hr _ u ?_
    rw [← hpl, List.getElem?_append_right (by omega), Nat.add_sub_cancel_left]
    exact hu
/-- clear(x): whatever is laid into the cells. -/
theorem wpList_clear {rest : List Oper} {o : Oper} {a : Act} {w : World} (hgd : o.guard = none) (xo : Operand) (t e : TypeId) (ho : o.op = .call { callee := .builtin .clear, args := #[xo], argTypes := #[t] })
    (ht : P.underlying t = some (.slice e)) (z : Value) (hz : ∀ w, (zeroValue e).run P w = .ok z w) (h1 : ∀ v ∈ z.cells, v.oneCell' = true) (sz : Nat) (hsz : z.cells.size = sz) (b off n c : Nat) (hx : a.eval xo = .slice (some ⟨b, off, none⟩) n c) (hth : w.there b off (n * sz))
    (hK : ∀ cs : List Value, cs.length = n * sz → wpList P ops Q rest (a.put o.dst (.tuple #[])) (w.setCells b off cs)) : wpList P ops Q (o :: rest) a w := by
  refine wpList_plain hgd fun K hK' => ?_
  rcases Nat.eq_zero_or_pos n with h0 | h0
  · subst h0
    have hrun : (Builtin.clear_ #[t] o.type #[.slice (some ⟨b, off, none⟩) 0 c]).run P w = .ok (.tuple #[]) w := by simp [Builtin.clear_, run_underlying ht]
    unfold Oper.wp
    simp [execOp, ho, resolve, invoke, builtin, hx, hrun, Result.andThen]
    exact hK' _ _ (hK [] (by simp))
  · have hcl : (Builtin.zeroCells z.cells n).toList.length = n * sz := by rw [Array.length_toList, size_zeroCells, hsz]
    have hst := run_storeCells_cells (P := P) b off (Builtin.zeroCells z.cells n).toList 0 w (fun j hj => by have := (hth j (by omega)).1; simpa using this) (fun j hj => by have := (hth j (by omega)).2; simpa using this) (by
      intro v hv
      simp only [Builtin.zeroCells, Array.toList_map, List.mem_map] at hv
      obtain ⟨k, hk, rfl⟩ := hv
      have hlt : k % z.cells.size < z.cells.size := Nat.mod_lt _ (by
        rcases Nat.eq_zero_or_pos z.cells.size with hh | hh
        · rw [hh, Nat.mul_zero] at hk; simp at hk
        · exact hh)
      rw [getElem!_pos z.cells _ hlt]
      exact h1 _ (Array.getElem_mem hlt))
    simp only [Nat.add_zero] at hst
    obtain ⟨m, rfl⟩ : ∃ m, n = m + 1 := ⟨n - 1, by omega⟩
    have hrun : (Builtin.clear_ #[t] o.type #[.slice (some ⟨b, off, none⟩) (m + 1) c]).run P w = .ok (.tuple #[]) (w.setCells b off (Builtin.zeroCells z.cells (m + 1)).toList) := by
      simp [Builtin.clear_, run_underlying ht, hz, hst]
    unfold Oper.wp
    simp [execOp, ho, resolve, invoke, builtin, hx, hrun, Result.andThen]
    exact hK' _ _ (hK _ hcl)
theorem OwnT.there {α : Type} [Rep α] {w : World} {B : Nat} {T : Nat → Prop} {g off n cap : Nat} {l : List α} (h : OwnT w B T (.slice (some ⟨g, off, none⟩) n cap) l) : w.there g off (cap * Rep.sz α) ∧ B ≤ g ∧ g < w.heap.size ∧ n ≤ cap ∧ n = l.length := by
  obtain ⟨xs, hw, hx⟩ := h
  rcases hw.2 with ⟨e, _⟩ | ⟨g', off', cap', e, hB, hlt, hn', hc, ht', hr⟩
  · cases e
  · injection e with e1 e2 e3
    injection e1 with e1
    injection e1 with e4 e5 e6
    subst e4 e5 e3
    exact ⟨ht', hB, hlt, by omega, e2⟩
/-- Behind its last element its own row may be written. -/
theorem OwnT.beyond {α : Type} [Rep α] {w : World} {B : Nat} {T : Nat → Prop} {g off n cap : Nat} {l : List α} (h : OwnT w B T (.slice (some ⟨g, off, none⟩) n cap) l) {d : Nat} (hd : n * Rep.sz α ≤ d) (cs : List Value) : OwnT (w.setCells g (off + d) cs) B T (.slice (some ⟨g, off, none⟩) n cap) l := by
  obtain ⟨xs, hw, hx⟩ := h
  refine ⟨xs, ⟨hw.1, ?_⟩, hx.keep fun b hb _ => ⟨⟨⟨by rw [(size_setCells _ _ _ _).1]; exact hb.1.1, hb.1.2⟩, hb.2⟩, World.heap_setCells_other _ _ _ _ hb.1.1 (fun e => hb.1.2 (by rw [e]; rfl))⟩⟩
  rcases hw.2 with ⟨e, _⟩ | ⟨g', off', cap', e, hB, hlt, hn', hc, ht', hr⟩
  · cases e
  · injection e with e1 e2 e3
    injection e1 with e1
    injection e1 with e4 e5 e6
    subst e4 e5 e3
    refine .inr ⟨g, off, cap, by rw [e2], hB, by rw [(size_setCells _ _ _ _).1]; exact hlt, hn', hc, World.there_setCells ht' _ _ _, fun j u hu => ?_⟩
    have hj : j < xs.length := (List.getElem?_eq_some_iff.1 hu).1
    have hl := hw.1
    rw [← e2] at hl
    rw [World.cell?_setCells_out g cs (off + d) w ⟨g, off + j, none⟩ (fun _ _ => .inl (by show off + j < _; omega))]
    exact hr j u hu
theorem grown_setCells (w : World) (g o : Nat) (cs : List Value) : w.grownBy (w.setCells g o cs) (some g) :=
  ⟨World.os_setCells _ _ _ _, (size_setCells _ _ _ _).2, World.output_setCells _ _ _ _, by rw [(size_setCells _ _ _ _).1]; exact Nat.le_refl _, fun k hk hne => World.heap_setCells_other _ _ _ _ hk (fun e => hne (by rw [e]))⟩
end
end Go.Proofs.Ytabfajhflaladaa
