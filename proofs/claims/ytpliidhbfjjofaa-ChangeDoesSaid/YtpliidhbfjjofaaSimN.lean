/- A call as a step of a walk: of no program. Conditions: none. -/
import Derived.Test.YtpliidhbfjjofaaSimM
namespace Go.Proofs.Ytpliidhbfjjofaa.Sim
open Go Go.RowKit Go.Deep
set_option linter.unusedVariables false

/-- What is owed at a call, of names and forms. -/
structure CallForm (m : M) (b : Nat) (bx : U) (r : V) (bx' : U) (as : List O) : Prop where
  names : bx'.map (·.1) = bx.map (·.1)
  vers : bx'.map (·.2.ver) = bx.map (·.2.ver)
  nd : (bx.map (·.1)).Nodup
  low : ∀ x ∈ bx, x.1 < 1000000 ∧ (x.1 < b ∨ b + as.length ≤ x.1)
  box : ∀ x ∈ bx, x.2.wfB = true ∧ m x.1 = some x.2
  box' : ∀ x ∈ bx', x.2.wfB = true
  wf : as.all O.wf = true
  res : r.wfR as.length = true

section
variable {m mb : M} {hd hd' : H} {w w' : World} {S Sb S' S2 X Xc : Nat → Prop} {B b : Nat} {bx bx' : U} {r : V} {as : List O}
/-- The heads behind a call. -/
def hdC (b n : Nat) (hd hd' : H) : H := fun i => if b ≤ i ∧ i < b + n then hd' (1000000 + (i - b)) else hd i
theorem hdC_new {n j : Nat} (h : j < n) : hdC b n hd hd' (b + j) = hd' (1000000 + j) := by
  unfold hdC
  rw [if_pos (by omega), Nat.add_sub_cancel_left]
theorem hdC_old {n i : Nat} (h : i < b ∨ b + n ≤ i) : hdC b n hd hd' i = hd i := by
  unfold hdC
  rw [if_neg (by omega)]
theorem setv_live (o : O) (v : Nat) : (o.setv v).live = o.live := by cases o <;> rfl
theorem setv_ver (o : O) (v : Nat) : (o.setv v).ver = v := by cases o <;> rfl

theorem CallForm.find {m : M} (hF : CallForm m b bx r bx' as) {i : Nat} {o : O} (h : (i, o) ∈ bx') : ∃ o0, (i, o0) ∈ bx ∧ o.ver = o0.ver := by
  have h1 := hF.names
  have h2 := hF.vers
  obtain ⟨j, hj, e⟩ := List.getElem_of_mem h
  have hl : bx'.length = bx.length := by have := congrArg List.length h1; simpa using this
  have e1 : (bx'.map (·.1))[j]'(by simpa using hj) = (bx.map (·.1))[j]'(by simp; omega) := by simp only [h1]
  have e2 : (bx'.map (·.2.ver))[j]'(by simpa using hj) = (bx.map (·.2.ver))[j]'(by simp; omega) := by simp only [h2]
  simp only [List.getElem_map, e] at e1 e2
  exact ⟨(bx[j]'(by omega)).2, by rw [e1]; exact List.getElem_mem _, e2⟩
theorem CallForm.find' {m : M} (hF : CallForm m b bx r bx' as) {i : Nat} {o0 : O} (h : (i, o0) ∈ bx) : ∃ o, (i, o) ∈ bx' := by
  have h1 := hF.names
  have : i ∈ bx'.map (·.1) := by rw [h1]; exact List.mem_map.2 ⟨_, h, rfl⟩
  obtain ⟨x, hx, rfl⟩ := List.mem_map.1 this
  exact ⟨x.2, hx⟩
theorem CallForm.nd' {m : M} (hF : CallForm m b bx r bx' as) : (bx'.map (·.1)).Nodup := by rw [hF.names]; exact hF.nd

/-- The memory behind a call, object by object. -/
theorem call_cases {m : M} (hF : CallForm m b bx r bx' as) (mb : M) (i : Nat) :
    (∃ j o, i = b + j ∧ as[j]? = some o ∧ ups mb (bx' ++ freshIn b m as) i = some (o.setv (nv m i)) ∧ ups M0 (bx' ++ fresh as) (1000000 + j) = some o) ∨
    (∃ o o0, (i, o) ∈ bx' ∧ (i, o0) ∈ bx ∧ o.ver = o0.ver ∧ (i < b ∨ b + as.length ≤ i) ∧ ups mb (bx' ++ freshIn b m as) i = some o ∧ ups M0 (bx' ++ fresh as) i = some o) ∨
    ((i < b ∨ b + as.length ≤ i) ∧ (∀ x ∈ bx, x.1 ≠ i) ∧ ups mb (bx' ++ freshIn b m as) i = mb i) := by
  have hfr : ∀ j o, as[j]? = some o → ups M0 (bx' ++ fresh as) (1000000 + j) = some o := fun j o h => by
    rw [ups_append]; exact ups_mem nodup_fresh (fresh_mem h)
  have hjl : ∀ {j : Nat} {o : O}, as[j]? = some o → j < as.length := fun h => (List.getElem?_eq_some_iff.1 h).1
  by_cases hi : b ≤ i ∧ i < b + as.length
  · left
    have hj : i - b < as.length := by omega
    refine ⟨i - b, as[i - b], by omega, List.getElem?_eq_getElem hj, ?_, hfr _ _ (List.getElem?_eq_getElem hj)⟩
    have := freshIn_mem (m := m) (b := b) (List.getElem?_eq_getElem hj)
    rw [show b + (i - b) = i by omega] at this
    rw [ups_append]
    exact ups_mem nodup_freshIn this
  · right
    have hno : ∀ x ∈ freshIn b m as, x.1 ≠ i := by
      rintro ⟨i', o⟩ hx e
      obtain ⟨j, o', h1, h2, _⟩ := mem_freshIn hx
      have := hjl h2
      simp only at e
      omega
    rcases ups_or i bx' mb with ⟨h1, h2⟩ | ⟨o, h1, h2⟩
    · right
      refine ⟨by omega, fun x hx e => ?_, by rw [ups_append, ups_not hno, h1]⟩
      subst e
      obtain ⟨o, ho⟩ := hF.find' (i := x.1) (o0 := x.2) hx
      exact h2 _ ho rfl
    · left
      obtain ⟨o0, h3, h4⟩ := hF.find h1
      refine ⟨o, o0, h1, h3, h4, by omega, by rw [ups_append, ups_not hno, h2], ?_⟩
      rw [ups_append, ups_not]
      · exact ups_mem hF.nd' h1
      · rintro ⟨i', o'⟩ hx e
        obtain ⟨j, e', _⟩ := mem_fresh hx
        have := (hF.low _ h3).1
        simp only at e this
        omega

theorem call_out {m : M} (hF : CallForm m b bx r bx' as) (hmb : Mem mb hd w Sb X B) (hbox : ∀ x ∈ bx, mb x.1 = some x.2) (hver : ∀ i, b ≤ i → i < b + as.length → (mb i).map O.ver = (m i).map O.ver) (hfr : Fr w w' (fun k => ∃ x ∈ bx, blk (hd x.1) = some k)) (hmem : Mem (ups M0 (bx' ++ fresh as)) hd' w' S' (fun k => ∃ x ∈ bx, blk (hd x.1) = some k) w.heap.size) (hhd : ∀ x ∈ bx, hd' x.1 = hd x.1)
    (hS : ∀ k, Sb k → S2 k) (hS2 : ∀ k, S2 k → k < w'.heap.size) (hS3 : ∀ k, S2 k → Sb k ∨ w.heap.size ≤ k)
    (hnew : ∀ (j : Nat) (o : O), as[j]? = some o → (o.setv (nv m (b + j))).is (ups mb (bx' ++ freshIn b m as)) (hdC b as.length hd hd') w' S2 X B (hd' (1000000 + j)))
    (hold : ∀ i o, (i, o) ∈ bx' → o.is (ups mb (bx' ++ freshIn b m as)) (hdC b as.length hd hd') w' S2 X B (hd i)) :
    Out X B mb hd w Sb (ups mb (bx' ++ freshIn b m as)) (hdC b as.length hd hd') w' S2 := by
  have hjl : ∀ {j : Nat} {o : O}, as[j]? = some o → j < as.length := fun h => (List.getElem?_eq_some_iff.1 h).1
  have hblive : ∀ x ∈ bx, x.2.live = true := fun x hx => by
    have := (hF.box x hx).1
    cases h : x.2 <;> simp_all [O.wfB, O.live]
  have hbl' : ∀ {i o}, (i, o) ∈ bx' → o.live = true := fun {i o} hx => by
    have := hF.box' _ hx
    cases h : o <;> simp_all [O.wfB, O.live]
  have hXblk : ∀ k, (∃ x ∈ bx, blk (hd x.1) = some k) → k < w.heap.size ∧ ¬ Sb k ∧ (X k ∨ B ≤ k) := by
    rintro k ⟨x, hx, e⟩
    exact hmb.blk (hbox x hx) (hblive x hx) e
  have hkind : ∀ {i o o0}, (i, o) ∈ bx' → (i, o0) ∈ bx → o.kind = o0.kind := fun {i o o0} h1 h2 => by
    have e1 := hF.box' _ h1
    have e2 := (hF.box _ h2).1
    cases o <;> cases o0 <;> simp_all [O.wfB, O.kind]
  have hle : Le mb hd (ups mb (bx' ++ freshIn b m as)) (hdC b as.length hd hd') := ⟨fun i o ho => by
    rcases call_cases hF mb i with ⟨j, o', e, h1, h2, h3⟩ | ⟨o', o0, h1, h2, h3, h4, h5, h6⟩ | ⟨h1, h2, h3⟩
    · have := hver i (by omega) (by have := hjl h1; omega)
      have hnv : nv m i = o.ver + 1 := by
        rw [← nv_congr this]
        simp [nv, ho]
      exact ⟨_, h2, by rw [setv_ver]; omega, fun e => by rw [setv_ver] at e; omega⟩
    · have := hbox _ h2
      simp only at this
      rw [this] at ho
      cases ho
      exact ⟨o', h5, by omega, fun _ => ⟨hdC_old h4, hkind h1 h2⟩⟩
    · exact ⟨o, by rw [h3]; exact ho, Nat.le_refl _, fun _ => ⟨hdC_old h1, rfl⟩⟩⟩
  have hnblk : ∀ {j o k}, as[j]? = some o → blk (hd' (1000000 + j)) = some k → o.live = true → w.heap.size ≤ k := by
    intro j o k h1 h2 h3
    have ho : ups M0 (bx' ++ fresh as) (1000000 + j) = some o := by rw [ups_append]; exact ups_mem nodup_fresh (fresh_mem h1)
    rcases (hmem.blk ho h3 h2).2.2 with ⟨x, hx, e⟩ | h
    · exfalso
      obtain ⟨o', ho'⟩ := hF.find' (i := x.1) (o0 := x.2) hx
      have hlow := (hF.low x hx).1
      rcases call_cases hF mb x.1 with ⟨j', o2, e', h4, h5, h6⟩ | ⟨o2, o0, h4, h5, h6, h7, h8, h9⟩ | ⟨h4, h5, h6⟩
      · have := (hF.low x hx).2; have := hjl h4; omega
      · exact hmem.sep (1000000 + j) x.1 o o2 k (by omega) ho h9 h3 (hbl' h4) h2 (by rw [hhd x hx]; exact e)
      · exact h5 x hx rfl
    · exact h
  refine ⟨?_, hle, fun k hk hlt => ⟨hS k hk, hfr.block k hlt fun h => (hXblk k h).2.1 hk⟩, ⟨hfr.os, hfr.tape, hfr.output, hfr.size, fun k hk hn => hfr.block k hk fun h => hn (hXblk k h).2.2⟩, fun k hk => (hS3 k hk).elim .inl fun h => .inr (Nat.le_trans hmb.base h)⟩
  refine Mem.next (Z := fun k => ∃ x ∈ bx, blk (hd x.1) = some k) hmb hfr.size hfr.block (fun k hk h => (hXblk k h).2.1 hk) hS hS2 hle (fun i o ho => ?_) (fun i i' oi oi' k hne hi hi' li li' bi bi' => ?_)
  · rcases call_cases hF mb i with ⟨j, o', e, h1, h2, h3⟩ | ⟨o', o0, h1, h2, h3, h4, h5, h6⟩ | ⟨h1, h2, h3⟩
    · right
      rw [h2] at ho
      cases ho
      subst e
      rw [hdC_new (hjl h1)]
      exact hnew j o' h1
    · right
      rw [h5] at ho
      cases ho
      rw [hdC_old h4]
      exact hold i _ h1
    · left
      rw [h3] at ho
      refine ⟨ho, hdC_old h1, fun k hl hb => ⟨?_, fun h => ?_⟩⟩
      · rintro ⟨x, hx, e⟩
        exact hmb.sep i x.1 o x.2 k (fun e => h2 x hx e.symm) ho (hbox x hx) hl (hblive x hx) hb e
      · have hb' := hmb.blk ho hl hb
        rcases hS3 k h with h | h
        · exact hb'.2.1 h
        · omega
  · -- apart
    have hold' : ∀ {i oi}, ups mb (bx' ++ freshIn b m as) i = some oi → oi.live = true → (i < b ∨ b + as.length ≤ i) → ∃ o, mb i = some o ∧ o.live = true := by
      intro i oi h1 h2 h3
      rcases call_cases hF mb i with ⟨j, o', e, k1, k2, k3⟩ | ⟨o', o0, k1, k2, k3, k4, k5, k6⟩ | ⟨k1, k2, k3⟩
      · have := hjl k1; omega
      · exact ⟨_, hbox _ k2, hblive _ k2⟩
      · rw [k3] at h1; exact ⟨oi, h1, h2⟩
    rcases call_cases hF mb i with ⟨j, o', e, k1, k2, k3⟩ | hno
    · subst e
      rw [hdC_new (hjl k1)] at bi
      rw [k2] at hi
      cases hi
      rw [setv_live] at li
      have hge := hnblk k1 bi li
      rcases call_cases hF mb i' with ⟨j', o2, e, q1, q2, q3⟩ | hno'
      · subst e
        rw [hdC_new (hjl q1)] at bi'
        rw [q2] at hi'
        cases hi'
        rw [setv_live] at li'
        exact hmem.sep _ _ o' o2 k (by omega) k3 q3 li li' bi bi'
      · have hr : i' < b ∨ b + as.length ≤ i' := by rcases hno' with ⟨_, _, _, _, _, h, _⟩ | ⟨h, _⟩ <;> exact h
        rw [hdC_old hr] at bi'
        obtain ⟨o2, q1, q2⟩ := hold' hi' li' hr
        have := (hmb.blk q1 q2 bi').1
        omega
    · have hr : i < b ∨ b + as.length ≤ i := by rcases hno with ⟨_, _, _, _, _, h, _⟩ | ⟨h, _⟩ <;> exact h
      rw [hdC_old hr] at bi
      obtain ⟨o1, p1, p2⟩ := hold' hi li hr
      rcases call_cases hF mb i' with ⟨j', o2, e, q1, q2, q3⟩ | hno'
      · subst e
        rw [hdC_new (hjl q1)] at bi'
        rw [q2] at hi'
        cases hi'
        rw [setv_live] at li'
        have h1 := hnblk q1 bi' li'
        have h2 := (hmb.blk p1 p2 bi).1
        omega
      · have hr' : i' < b ∨ b + as.length ≤ i' := by rcases hno' with ⟨_, _, _, _, _, h, _⟩ | ⟨h, _⟩ <;> exact h
        rw [hdC_old hr'] at bi'
        obtain ⟨o2, q1, q2⟩ := hold' hi' li' hr'
        exact hmb.sep i i' o1 o2 k hne p1 q1 p2 q2 bi bi'
/-- The variables that are handed on lie there. -/
theorem call_mem {m : M} (hF : CallForm m b bx r bx' as) (hmb : Mem mb hd w Sb X B) (hbox : ∀ x ∈ bx, mb x.1 = some x.2) : Mem (ups M0 bx) hd w Sb (fun k => ∃ x ∈ bx, blk (hd x.1) = some k) w.heap.size := by
  have hget : ∀ i o, ups M0 bx i = some o → (i, o) ∈ bx := fun i o h => by
    rcases ups_or i bx M0 with ⟨h1, _⟩ | ⟨o', h1, h2⟩
    · rw [h1] at h; cases h
    · rw [h2] at h; cases h; exact h1
  refine ⟨fun i o h => ?_, fun i j oi oj k hne hi hj li lj bi => ?_, hmb.lt, Nat.le_refl _, ?_⟩
  · have hx := hget i o h
    have hmi := hbox _ hx
    have hw := (hF.box _ hx).1
    simp only at hmi hw
    have ho := hmb.obj i o hmi
    cases o with
    | arr v k mu l => simp [O.wfB] at hw
    | box v cs =>
      simp only [O.wfB] at hw
      simp only [O.is] at ho ⊢
      obtain ⟨k, vs, e, h1, h2, h3, h4, h5⟩ := ho
      exact ⟨k, vs, e, .inr ⟨_, hx, by rw [e]; rfl⟩, h2, h3, closed_ok (fun _ h _ => ⟨h, rfl⟩) hw h4, h5⟩
  · exact hmb.sep i j oi oj k hne (hbox _ (hget i oi hi)) (hbox _ (hget j oj hj)) li lj bi
  · rintro k ⟨x, hx, e⟩
    have hw := (hF.box x hx).1
    refine (hmb.blk (hbox x hx) ?_ e).1
    cases h : x.2 <;> simp_all [O.wfB, O.live]
theorem frz_box {l : List V} {i v : Nat} {cs : List V} (h : m i = some (.box v cs)) : ups m (frz m l) i = some (.box v cs) := by
  rcases ups_or i (frz m l) m with ⟨h1, _⟩ | ⟨o, h1, _⟩
  · rw [h1, h]
  · obtain ⟨v', k, mu, l', h2, _⟩ := frz_ok m l _ h1
    simp only at h2
    rw [h] at h2
    cases h2
/-- What is new lies there for the caller too. -/
theorem is_new {m2 os : M} {hd2 : H} {o : O} {h : Value} {v : Nat} {w0 : World} (hw : o.wf = true) (ho : o.is os hd' w' S' Xc w0.heap.size h) (hX : ∀ k, blk h = some k → ¬ Xc k) (hB : B ≤ w0.heap.size)
    (hS : ∀ k, S' k → k < w'.heap.size → S2 k ∧ w'.heap[k]? = w'.heap[k]?) (hS2 : ∀ k, w0.heap.size ≤ k → ¬ S' k → ¬ S2 k) : (o.setv v).is m2 hd2 w' S2 X B h := by
  cases o with
  | box v' cs =>
    simp only [O.wf, Bool.and_eq_true] at hw
    simp only [O.is, O.setv] at ho ⊢
    obtain ⟨k, vs, e, h1, h2, h3, h4, h5, h6, h7⟩ := ho
    have h8 : w0.heap.size ≤ k := h1.resolve_right (hX k (by rw [e]; rfl))
    exact ⟨k, vs, e, .inl (Nat.le_trans hB h8), h2, hS2 k h8 h3, closed_ok hS hw.2 h4, h5, h6, h7⟩
  | arr v' k mu l =>
    simp only [O.wf, Bool.and_eq_true] at hw
    obtain ⟨_, rfl⟩ := hw
    simp only [O.is, O.setv, if_true] at ho ⊢
    obtain ⟨xs, hrow, h⟩ := ho
    exact ⟨xs, Rows.keep hS _ _ _ hrow, h.imp id fun ⟨g, off, cap, e, h0, h1, h2, h3, h4, h5⟩ => ⟨g, off, cap, e, h0, Nat.le_trans hB h1, h2, hS2 g h1 h3, h4, h5⟩⟩

/-- A CALL, AS A STEP OF A WALK: what was handed on is data from now on. -/
theorem call_step {P : Program} {f : FuncId} {xs ys : List V} {us : List Value} (hD : Does P f ys bx r bx' as) (hF : CallForm m b bx r bx' as) (hm : Mem m hd w S X B) (hv : VRs m hd w S xs us) (ha : Args m bx xs ys) :
    Calls P f us.toArray w fun e w' => ∃ u hd2 S2, e = .returned u ∧ Out X B m hd w S (ups m (frz m (V.flats xs) ++ (bx' ++ freshIn b m as))) hd2 w' S2 ∧ VR (ups m (frz m (V.flats xs) ++ (bx' ++ freshIn b m as))) hd2 w' S2 (r.ren b m) u := by
  obtain ⟨S1, o1⟩ := out_frzs hm (V.flats xs)
  have hbox : ∀ x ∈ bx, ups m (frz m (V.flats xs)) x.1 = some x.2 := fun x hx => by
    obtain ⟨h1, h2⟩ := hF.box x hx
    cases h : x.2 with
    | arr v k mu l => rw [h] at h1; simp [O.wfB] at h1
    | box v cs => rw [h] at h2; exact frz_box h2
  have hmem0 := call_mem hF o1.mem hbox
  have hys := args_ok o1.mem ha (o1.vrs hv) (fun i v k mu l hmem hi => ups_frz_get hi _ _ hmem) hbox hF.nd
  refine (hD w hd S1 _ us hmem0 hys).mono ?_
  rintro e w' ⟨u, hd', S', rfl, hfr, hmem, hvr, hsub, hhd⟩
  have hjl : ∀ {j : Nat} {o : O}, as[j]? = some o → j < as.length := fun h => (List.getElem?_eq_some_iff.1 h).1
  have hos : ∀ {j : Nat} {o : O}, as[j]? = some o → ups M0 (bx' ++ fresh as) (1000000 + j) = some o := fun h => by rw [ups_append]; exact ups_mem nodup_fresh (fresh_mem h)
  have hwf : ∀ {j : Nat} {o : O}, as[j]? = some o → o.wf = true := fun h => List.all_eq_true.1 hF.wf _ (List.mem_of_getElem? h)
  have hlive : ∀ {o : O}, o.wf = true → o.live = true := fun {o} h => by cases o <;> simp_all [O.wf, O.live]
  have hS2 : ∀ k, (S1 k ∨ S' k) → k < w'.heap.size := fun k h => h.elim (fun h => Nat.lt_of_lt_of_le (o1.mem.lt k h) hfr.size) (hmem.lt k)
  have hout := call_out (S2 := fun k => S1 k ∨ S' k) hF o1.mem hbox (fun i _ _ => frz_ver m _ i) hfr hmem hhd (fun k h => .inl h) hS2 (fun k h => h.elim .inl (hsub k))
    (fun j o hj => by
      refine is_new (hwf hj) (hmem.obj _ _ (hos hj)) (fun k hk hX => ?_) o1.mem.base (fun k h _ => ⟨.inr h, rfl⟩) (fun k h1 h2 h => h.elim (fun h => by have := o1.mem.lt k h; omega) h2)
      obtain ⟨x, hx, e⟩ := hX
      obtain ⟨o', ho'⟩ := hF.find' (i := x.1) (o0 := x.2) hx
      have hlow := (hF.low x hx).1
      have ho2 : ups M0 (bx' ++ fresh as) x.1 = some o' := by
        rw [ups_append, ups_not]
        · exact ups_mem hF.nd' ho'
        · rintro ⟨i', o2⟩ hx2 e2
          obtain ⟨j', e', _⟩ := mem_fresh hx2
          simp only at e2
          omega
      have hl' : o'.live = true := by have := hF.box' _ ho'; cases o' <;> simp_all [O.wfB, O.live]
      exact hmem.sep (1000000 + j) x.1 o o' k (by omega) (hos hj) ho2 (hlive (hwf hj)) hl' hk (by rw [hhd x hx]; exact e))
    (fun i o hi => by
      obtain ⟨o0, h0, _⟩ := hF.find hi
      have hlow := (hF.low _ h0).1
      simp only at hlow
      have ho2 : ups M0 (bx' ++ fresh as) i = some o := by
        rw [ups_append, ups_not]
        · exact ups_mem hF.nd' hi
        · rintro ⟨i', o2⟩ hx2 e2
          obtain ⟨j', e', _⟩ := mem_fresh hx2
          simp only at e2
          omega
      have hw' := hF.box' _ hi
      have hob := hmem.obj i o ho2
      rw [hhd _ h0] at hob
      cases o with
      | arr v k mu l => simp [O.wfB] at hw'
      | box v cs =>
        simp only [O.wfB] at hw'
        simp only [O.is] at hob ⊢
        obtain ⟨k, vs, e, h1, h2, h3, h4, h5, h6, h7⟩ := hob
        have hblk : (X k ∨ B ≤ k) ∧ ¬ S1 k := by
          have hb0 := hbox _ h0
          simp only at hb0
          have hl0 : o0.live = true := by have := (hF.box _ h0).1; cases o0 <;> simp_all [O.wfB, O.live]
          have := o1.mem.blk hb0 hl0 (b := k) (by rw [e]; rfl)
          exact ⟨this.2.2, this.2.1⟩
        exact ⟨k, vs, e, hblk.1.symm, h2, fun h => h.elim hblk.2 h3, closed_ok (fun k h _ => ⟨.inr h, rfl⟩) hw' h4, h5, h6, h7⟩)
  refine ⟨u, hdC b as.length hd hd', fun k => S1 k ∨ S' k, rfl, by rw [ups_append]; exact o1.trans hout, ?_⟩
  rw [ups_append]
  refine ren_ok (fun k h => .inr h) (fun j hj => ?_) r u hF.res hvr
  have hj' := List.getElem?_eq_getElem hj
  refine ⟨as[j], hos hj', ?_, ?_, hdC_new hj⟩
  · have := hwf hj'
    cases h : as[j] <;> simp_all [O.wf, O.ver]
  · rw [ups_append]
    exact ups_mem nodup_freshIn (freshIn_mem hj')
end
end Go.Proofs.Ytpliidhbfjjofaa.Sim
