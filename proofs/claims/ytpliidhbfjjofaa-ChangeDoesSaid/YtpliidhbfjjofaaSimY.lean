/- A call with one variable behind a pointer, under the caller's name: of no program. Conditions: none. -/
import Derived.Test.YtpliidhbfjjofaaSimX
namespace Go.Proofs.Ytpliidhbfjjofaa.Sim
open Go Go.RowKit Go.Deep
set_option linter.unusedVariables false

mutual
/-- The variable of a call, under the caller's name. -/
def V.nm (i v : Nat) : V → V
  | .bp j u o => if j = 900000 then .bp i v o else .bp j u o
  | .ag l => .ag (V.nms i v l)
  | .cl f l => .cl f (V.nms i v l)
  | x => x
def V.nms (i v : Nat) : List V → List V
  | [] => []
  | x :: l => V.nm i v x :: V.nms i v l
end
mutual
def V.okP : V → Bool
  | .d _ => true
  | .nl _ => true
  | .bp j u _ => j == 900000 && u == 0
  | .ag l => V.okPs l
  | .cl _ l => V.okPs l
  | _ => false
def V.okPs : List V → Bool
  | [] => true
  | x :: l => x.okP && V.okPs l
end
section
variable {hd : H} {w : World} {S X : Nat → Prop} {i v : Nat} {cs : List V}
theorem ups_one (i : Nat) (o : O) : ups M0 [(i, o)] i = some o := by simp [ups, up]
mutual
theorem nm_ok : ∀ (x : V) (u : Value), x.okP = true → VR (ups M0 [(i, .box v cs)]) hd w S (x.nm i v) u → VR (ups M0 [(900000, .box 0 cs)]) (fun k => if k = 900000 then hd i else hd k) w S x u
  | .d x, u, _, h => by simp only [V.nm, VR] at h ⊢; exact h
  | .nl k, u, _, h => by simp only [V.nm, VR] at h ⊢; exact h
  | .bp j u' o, u, hx, h => by
    simp only [V.okP, Bool.and_eq_true, beq_iff_eq] at hx
    obtain ⟨rfl, rfl⟩ := hx
    simp only [V.nm, if_true] at h
    simp only [VR] at h ⊢
    obtain ⟨h0, y, hy, hv, h⟩ := h
    rw [ups_one] at hy
    cases hy
    exact ⟨h0, _, ups_one _ _, Nat.le_refl _, fun cs' e => by simpa using h cs rfl⟩
  | .ag l, u, hx, h => by
    simp only [V.nm, VR] at h
    simp only [VR]
    obtain ⟨vs, e, h1, h2⟩ := h
    exact ⟨vs, e, nms_ok l vs (by simpa only [V.okP] using hx) h1, h2⟩
  | .cl f l, u, hx, h => by
    simp only [V.nm, VR] at h
    simp only [VR]
    obtain ⟨vs, e, h1⟩ := h
    exact ⟨vs, e, nms_ok l vs (by simpa only [V.okP] using hx) h1⟩
  | .un, u, hx, _ | .z0, u, hx, _ | .ub, u, hx, _ | .og _ _, u, hx, _ | .ep _ _ _ _, u, hx, _ | .fp _ _, u, hx, _ | .tu _, u, hx, _ => by simp [V.okP] at hx
theorem nms_ok : ∀ (l : List V) (us : List Value), V.okPs l = true → VRs (ups M0 [(i, .box v cs)]) hd w S (V.nms i v l) us → VRs (ups M0 [(900000, .box 0 cs)]) (fun k => if k = 900000 then hd i else hd k) w S l us
  | [], us, _, h => by simp only [V.nms, VRs] at h ⊢; exact h
  | x :: l, us, hx, h => by
    simp only [V.okPs, Bool.and_eq_true] at hx
    simp only [V.nms, VRs] at h
    simp only [VRs]
    obtain ⟨u, r, e, h1, h2⟩ := h
    exact ⟨u, r, e, nm_ok x u hx.1 h1, nms_ok l r hx.2 h2⟩
end
end
mutual
theorem ren_same {n : Nat} : ∀ (r : V), r.wfR n = true → r.ren 1000000 M0 = r
  | .og i v, h => by
    simp only [V.wfR, Bool.and_eq_true, decide_eq_true_eq, beq_iff_eq] at h
    obtain ⟨⟨h1, h2⟩, rfl⟩ := h
    simp only [V.ren, nv]
    rw [show 1000000 + (i - 1000000) = i by omega]
  | .bp i v o, h => by
    simp only [V.wfR, Bool.and_eq_true, decide_eq_true_eq, beq_iff_eq] at h
    obtain ⟨⟨h1, h2⟩, rfl⟩ := h
    simp only [V.ren, nv]
    rw [show 1000000 + (i - 1000000) = i by omega]
  | .ag l, h => by simp only [V.ren]; rw [rens_same l (by simpa only [V.wfR] using h)]
  | .tu l, h => by simp only [V.ren]; rw [rens_same l (by simpa only [V.wfR] using h)]
  | .un, _ | .d _, _ | .nl _, _ | .z0, _ | .ub, _ | .ep _ _ _ _, _ | .fp _ _, _ | .cl _ _, _ => by simp only [V.ren]
theorem rens_same {n : Nat} : ∀ (l : List V), V.wfRs n l = true → V.rens 1000000 M0 l = l
  | [], _ => rfl
  | x :: l, h => by
    simp only [V.wfRs, Bool.and_eq_true] at h
    simp only [V.rens, ren_same x h.1, rens_same l h.2]
end
theorem setv_same {o : O} (h : o.wf = true) : o.setv 0 = o := by
  cases o with
  | box v cs => simp only [O.wf, Bool.and_eq_true, beq_iff_eq] at h; obtain ⟨rfl, _⟩ := h; rfl
  | arr v k mu l => simp only [O.wf, Bool.and_eq_true, beq_iff_eq] at h; obtain ⟨rfl, _⟩ := h; rfl

/-- THE CALL, UNDER THE CALLER's NAME OF THE VARIABLE. -/
theorem Does.nm {P : Program} {f : FuncId} {xs : List V} {cs cs' : List V} {r : V} {as : List O} (h : Does P f xs [(900000, .box 0 cs)] r [(900000, .box 0 cs')] as) (i v : Nat) (hi : i < 1000000) (hx : V.okPs xs = true) (hc : cs.all closed = true) (hc' : cs'.all closed = true) (has : as.all O.wf = true) (hr : r.wfR as.length = true) :
    Does P f (V.nms i v xs) [(i, .box v cs)] r [(i, .box v cs')] as := by
  intro w hd S X us hm hv
  have hb := hm.obj i _ (ups_one _ _)
  have hg : ∀ j o, ups M0 [(900000, O.box 0 cs)] j = some o → j = 900000 ∧ o = .box 0 cs := by
    intro j o h
    simp only [ups, up] at h
    split at h
    · rename_i e; cases h; exact ⟨e, rfl⟩
    · cases h
  have hm' : Mem (ups M0 [(900000, O.box 0 cs)]) (fun k => if k = 900000 then hd i else hd k) w S X w.heap.size := by
    refine ⟨fun j o hj => ?_, fun j k oj ok b hne hj hk => ?_, hm.lt, hm.base, hm.sX⟩
    · obtain ⟨rfl, rfl⟩ := hg j o hj
      simp only [O.is, if_true] at hb ⊢
      obtain ⟨b, vs, e, h1, h2, h3, h4, h5⟩ := hb
      exact ⟨b, vs, e, h1, h2, h3, closed_ok (fun _ h _ => ⟨h, rfl⟩) hc h4, h5⟩
    · obtain ⟨rfl, _⟩ := hg j oj hj
      obtain ⟨rfl, _⟩ := hg k ok hk
      exact absurd rfl hne
  refine (h w _ S X us hm' (nms_ok xs us hx hv)).mono ?_
  rintro e w' ⟨u, hd', S', he, hfr, hmem, hvr, hsub, hhd⟩
  have hos : ∀ {j : Nat} {o : O}, as[j]? = some o → ups M0 ([(900000, O.box 0 cs')] ++ fresh as) (1000000 + j) = some o := fun h => by rw [ups_append]; exact ups_mem nodup_fresh (fresh_mem h)
  have hos2 : ∀ {j : Nat} {o : O}, as[j]? = some o → ups M0 ([(i, O.box v cs')] ++ fresh as) (1000000 + j) = some o := fun h => by rw [ups_append]; exact ups_mem nodup_fresh (fresh_mem h)
  have h9 : ups M0 ([(900000, O.box 0 cs')] ++ fresh as) 900000 = some (.box 0 cs') := by
    rw [ups_append, ups_not]
    · exact ups_one _ _
    · rintro ⟨j, o⟩ hj e
      obtain ⟨j', e', _⟩ := mem_fresh hj
      simp only at e
      omega
  have hcases : ∀ j o, ups M0 ([(i, O.box v cs')] ++ fresh as) j = some o → (j = i ∧ o = .box v cs') ∨ ∃ q, j = 1000000 + q ∧ as[q]? = some o := by
    intro j o hj
    rcases ups_or j ([(i, O.box v cs')] ++ fresh as) M0 with ⟨h1, _⟩ | ⟨o', h1, h2⟩
    · rw [h1] at hj; cases hj
    · rw [h2] at hj
      cases hj
      rcases List.mem_append.1 h1 with h1 | h1
      · simp only [List.mem_singleton, Prod.mk.injEq] at h1; exact .inl h1
      · exact .inr (mem_fresh h1)
  let hd2 : H := fun k => if k = i then hd' 900000 else hd' k
  have hd2n : ∀ q, hd2 (1000000 + q) = hd' (1000000 + q) := fun q => if_neg (by omega)
  have hd2i : hd2 i = hd' 900000 := if_pos rfl
  have hwf : ∀ {j : Nat} {o : O}, as[j]? = some o → o.wf = true := fun h => List.all_eq_true.1 has _ (List.mem_of_getElem? h)
  refine ⟨u, hd2, S', he, hfr, ⟨fun j o hj => ?_, fun j k oj ok b hne hj hk lj lk bj bk => ?_, hmem.lt, hmem.base, hmem.sX⟩, ?_, hsub, fun x hx => ?_⟩
  · rcases hcases j o hj with ⟨rfl, rfl⟩ | ⟨q, rfl, hq⟩
    · rw [hd2i]
      have hob := hmem.obj 900000 _ h9
      simp only [O.is] at hob ⊢
      obtain ⟨b, vs, e, h1, h2, h3, h4, h5⟩ := hob
      exact ⟨b, vs, e, h1, h2, h3, closed_ok (fun _ h _ => ⟨h, rfl⟩) hc' h4, h5⟩
    · rw [hd2n]
      have hob := hmem.obj _ _ (hos hq)
      have hw := hwf hq
      cases o with
      | box v' cs2 =>
        simp only [O.wf, Bool.and_eq_true] at hw
        simp only [O.is] at hob ⊢
        obtain ⟨b, vs, e, h1, h2, h3, h4, h5⟩ := hob
        exact ⟨b, vs, e, h1, h2, h3, closed_ok (fun _ h _ => ⟨h, rfl⟩) hw.2 h4, h5⟩
      | arr v' k mu l =>
        simp only [O.is] at hob ⊢
        exact hob
  · have back : ∀ j o, ups M0 ([(i, O.box v cs')] ++ fresh as) j = some o → ∃ j' o', ups M0 ([(900000, O.box 0 cs')] ++ fresh as) j' = some o' ∧ o'.live = o.live ∧ hd2 j = hd' j' ∧ ((j = i ∧ j' = 900000) ∨ (j = j' ∧ 1000000 ≤ j)) := by
      intro j o hj
      rcases hcases j o hj with ⟨rfl, rfl⟩ | ⟨q, rfl, hq⟩
      · exact ⟨_, _, h9, rfl, hd2i, .inl ⟨rfl, rfl⟩⟩
      · exact ⟨_, _, hos hq, rfl, hd2n q, .inr ⟨rfl, by omega⟩⟩
    obtain ⟨j', oj', q1, q2, q3, q4⟩ := back j oj hj
    obtain ⟨k', ok', p1, p2, p3, p4⟩ := back k ok hk
    rw [q3] at bj
    rw [p3] at bk
    refine hmem.sep j' k' oj' ok' b (fun e => hne ?_) q1 p1 (by rw [q2]; exact lj) (by rw [p2]; exact lk) bj bk
    rcases q4 with ⟨e1, e2⟩ | ⟨e1, e2⟩ <;> rcases p4 with ⟨e3, e4⟩ | ⟨e3, e4⟩ <;> omega
  · have := ren_ok (m2 := ups M0 ([(i, O.box v cs')] ++ fresh as)) (hd2 := hd2) (S2 := S') (b := 1000000) (n := as.length) (m := M0) (fun k h => h) (fun j hj => by
      have hj' := List.getElem?_eq_getElem hj
      refine ⟨as[j], hos hj', ?_, ?_, hd2n j⟩
      · have := hwf hj'; cases h : as[j] <;> simp_all [O.wf, O.ver]
      · simp only [nv]
        rw [setv_same (hwf hj')]
        exact hos2 hj') r u hr hvr
    rwa [ren_same r hr] at this
  · simp only [List.mem_singleton] at hx
    subst hx
    simp only
    rw [hd2i]
    have := hhd (900000, .box 0 cs) (by simp)
    simpa using this
end Go.Proofs.Ytpliidhbfjjofaa.Sim
