/- What an operation looks at: of no program. Conditions: none. -/
import Derived.Test.YtabfajhflaladaaKSimU
namespace Go.Proofs.Ytabfajhflaladaa.Sim
open Go Go.RowKit Go.Deep
set_option linter.unusedVariables false

mutual
def V.ids : V → List Nat
  | .og i _ => [i]
  | .bp i _ _ => [i]
  | .ep i _ _ _ => [i]
  | .cl _ l => V.idss l
  | .ag l => V.idss l
  | .tu l => V.idss l
  | _ => []
def V.idss : List V → List Nat
  | [] => []
  | x :: l => x.ids ++ V.idss l
end
section
variable {m m' : M}
theorem idss_append (l l' : List V) : V.idss (l ++ l') = V.idss l ++ V.idss l' := by
  induction l with
  | nil => rfl
  | cons x l ih => simp [V.idss, ih]
theorem ids_cells (x : V) : ∀ i ∈ V.idss x.cells, i ∈ x.ids := by
  intro i hi
  cases x <;> simp_all [V.cells, V.ids, V.idss]
theorem dcells_congr : ∀ {l : List V}, (∀ i ∈ V.idss l, m' i = m i) → dcells m' l = dcells m l
  | [], _ => rfl
  | x :: l, h => by
    simp only [V.idss, List.mem_append] at h
    have ih := dcells_congr (l := l) fun i hi => h i (.inr hi)
    have h0 : dcell m' x = dcell m x := by
      unfold dcell
      split
      · rfl
      · rfl
      · rename_i i v
        rw [h i (.inl (by simp [V.ids]))]
      · rfl
    simp only [dcells, ih, h0]
theorem frz_congr : ∀ {l : List V}, (∀ i ∈ V.idss l, m' i = m i) → frz m' l = frz m l
  | [], _ => rfl
  | x :: l, h => by
    simp only [V.idss, List.mem_append] at h
    have ih := frz_congr (l := l) fun i hi => h i (.inr hi)
    cases x <;> simp only [frz, ih]
    rename_i i v
    rw [h i (.inl (by simp [V.ids]))]
theorem fillD_congr {k : Nat} : ∀ {ps : List (Nat × V)} {l : List (List D)}, (∀ p ∈ ps, ∀ i ∈ p.2.ids, m' i = m i) → fillD m' k l ps = fillD m k l ps
  | [], l, _ => rfl
  | (j, x) :: ps, l, h => by
    have h0 : dcells m' x.cells = dcells m x.cells := dcells_congr fun i hi => h (j, x) (by simp) i (ids_cells x i hi)
    unfold fillD
    rw [h0]
    split
    · split
      · exact fillD_congr fun p hp => h p (by simp [hp])
      · rfl
    · rfl
theorem nv_congr' {d : Nat} (h : m' d = m d) : nv m' d = nv m d := by unfold nv; rw [h]
theorem mem_idss {x : V} {l : List V} (h : x ∈ l) {i : Nat} (hi : i ∈ x.ids) : i ∈ V.idss l := by
  induction l with
  | nil => cases h
  | cons y l ih =>
    simp only [V.idss, List.mem_append]
    rcases List.mem_cons.1 h with rfl | h
    · exact .inl hi
    · exact .inr (ih h)
theorem news_congr {k : Nat} {y : V} (h : ∀ i ∈ y.ids, m' i = m i) : news k m' y = news k m y := by
  unfold news
  split
  · rfl
  · rfl
  · rename_i i v; rw [h i (by simp [V.ids])]
  · rfl
theorem curB_congr {i v : Nat} (h : m' i = m i) : curB m' i v = curB m i v := by unfold curB; rw [h]
theorem curA_congr {i v : Nat} (h : m' i = m i) : curA m' i v = curA m i v := by unfold curA; rw [h]
/-- What an operation does hangs on the objects that it names. -/
theorem sem_congr {k : K} {d : Nat} {xs : List V} (h : ∀ i ∈ V.idss xs, m' i = m i) (hd : m' d = m d) : sem k d m' xs = sem k d m xs := by
  have hn := nv_congr' hd
  cases k <;> simp only [sem]
  case alloc z => rw [hn]
  case box =>
    unfold semBox
    split
    · rw [hn]
    · rfl
  case bsl k z n fs =>
    unfold semBsl
    cases z with
    | nil => simp only [hn]
    | cons y0 r0 =>
    have h0 : fillD m' k (List.replicate n (zD (y0 :: r0))) (fs.zip xs) = fillD m k (List.replicate n (zD (y0 :: r0))) (fs.zip xs) := fillD_congr fun p hp i hi => h i (mem_idss (List.of_mem_zip hp).2 hi)
    have h1 : frz m' (xs.flatMap V.cells) = frz m (xs.flatMap V.cells) := frz_congr fun i hi => by
      have : ∀ (xs : List V), i ∈ V.idss (xs.flatMap V.cells) → i ∈ V.idss xs := by
        intro xs
        induction xs with
        | nil => intro h; simpa using h
        | cons x xs ih =>
          intro h
          rw [List.flatMap_cons, idss_append] at h
          simp only [V.idss, List.mem_append]
          rcases List.mem_append.1 h with h | h
          · exact .inl (ids_cells x i h)
          · exact .inr (ih h)
      exact h i (this xs hi)
    dsimp only
    rw [h0, h1, hn]
  case load n g =>
    unfold semLoad
    split
    · rename_i i v o; rw [h i (by simp [V.idss, V.ids])]
    · rfl
    · rename_i i v e o; rw [h i (by simp [V.idss, V.ids])]
    · rfl
  case store n =>
    unfold semStore
    split
    · rename_i i v o x; rw [h i (by simp [V.idss, V.ids])]
    · rename_i i v e o x
      rw [h i (by simp [V.idss, V.ids]), dcells_congr (l := x.cells) fun j hj => h j (by simp only [V.idss, List.append_nil, List.mem_append]; exact .inr (ids_cells x j hj)), frz_congr (l := x.cells) fun j hj => h j (by simp only [V.idss, List.append_nil, List.mem_append]; exact .inr (ids_cells x j hj))]
    · rfl
  case nck =>
    unfold semNck
    split
    · rename_i i v o; rw [curB_congr (h i (by simp [V.idss, V.ids]))]
    · rename_i i v e o; rw [curA_congr (h i (by simp [V.idss, V.ids]))]
    · rfl
    · rfl
  case isn ne =>
    unfold semIsn
    split
    · rfl
    · rfl
    · rename_i i v k; rw [h i (by simp [V.idss, V.ids])]
    · rfl
  case mks k z b =>
    unfold semMks
    split
    · rw [hn]
    · rfl
  case iad k =>
    unfold semIad
    split
    · rfl
    · rfl
    · rename_i i v e o kk n; rw [curB_congr (h i (by simp [V.idss, V.ids]))]
    · rfl
  case slc lo hi mx k =>
    unfold semSlc
    split
    · rfl
    · rfl
    · rename_i i v r; rw [h i (by simp [V.idss, V.ids])]
    · rfl
  case fad o =>
    unfold semFad
    split
    · rename_i i v o; rw [curB_congr (h i (by simp [V.idss, V.ids]))]
    · rename_i i v e o; rw [curA_congr (h i (by simp [V.idss, V.ids]))]
    · rfl
    · rfl
  case iada c k =>
    unfold semIada
    split
    · rename_i i v o kk n; rw [curB_congr (h i (by simp [V.idss, V.ids]))]
    · rfl
  case len =>
    unfold semLen
    split
    · rfl
    · rfl
    · rename_i i v; rw [h i (by simp [V.idss, V.ids])]
    · rename_i i v e o; rw [curB_congr (h i (by simp [V.idss, V.ids]))]
    · rfl
  case app k b =>
    unfold semApp
    split
    · rename_i i v y; rw [h i (by simp [V.idss, V.ids]), news_congr (y := y) fun j hj => h j (by simp [V.idss, hj])]
    · rename_i k' y; rw [news_congr (y := y) fun j hj => h j (by simp [V.idss, V.ids, hj]), hn]
    · rename_i y; rw [news_congr (y := y) fun j hj => h j (by simp [V.idss, V.ids, hj]), hn]
    · rename_i i v e o y; rw [h i (by simp [V.idss, V.ids]), news_congr (y := y) fun j hj => h j (by simp [V.idss, hj]), hn]
    · rfl
  case cpy k =>
    unfold semCpy
    split
    · rename_i i v y; rw [h i (by simp [V.idss, V.ids]), news_congr (y := y) fun j hj => h j (by simp [V.idss, hj])]
    · rfl
theorem pre_congr {k : K} {xs : List V} (h : ∀ i ∈ V.idss xs, m' i = m i) : pre k m' xs = pre k m xs := by
  cases k <;> simp only [pre]
  case slc lo hi mx k =>
    unfold preSlc
    split
    · rfl
    · rfl
    · rename_i i v r; rw [h i (by simp [V.idss, V.ids])]
    · rfl
  case iad k =>
    unfold preIad
    split
    · rfl
    · rename_i i v kk n; rw [h i (by simp [V.idss, V.ids])]
    · rfl
    · rfl
  case app k b =>
    unfold preApp
    split
    · rename_i i v y; rw [h i (by simp [V.idss, V.ids]), news_congr (y := y) fun j hj => h j (by simp [V.idss, hj])]
    · rename_i i v e o y; rw [news_congr (y := y) fun j hj => h j (by simp [V.idss, hj])]
    · rename_i x y hne hne2; rw [news_congr (y := y) fun j hj => h j (by simp [V.idss, hj])]
    · rfl
/-- .. a call too. -/
theorem arg_congr {bx : U} {x y : V} (h : Arg m bx x y) : (∀ i ∈ x.ids, m' i = m i) → Arg m' bx x y := by
  induction h with
  | d x => intro _; exact .d x
  | nl k k' => intro _; exact .nl k k'
  | nd k k' => intro _; exact .nd k k'
  | og i v k mu l hi hn => intro h; exact .og i v k mu l (by rw [h i (by simp [V.ids])]; exact hi) hn
  | ogl i v k l hi h2 => intro h; exact .ogl i v k l (by rw [h i (by simp [V.ids])]; exact hi) h2
  | bp i v o cs hi h2 => intro h; exact .bp i v o cs (by rw [h i (by simp [V.ids])]; exact hi) h2
  | agn => intro _; exact .agn
  | agc h1 h2 ih1 ih2 => intro h; exact .agc (ih1 fun i hi => h i (by simp only [V.ids, V.idss, List.mem_append]; exact .inl hi)) (ih2 fun i hi => h i (by simp only [V.ids, V.idss, List.mem_append] at hi ⊢; exact .inr hi))
  | cln f => intro _; exact .cln f
  | clc h1 h2 ih1 ih2 => intro h; exact .clc (ih1 fun i hi => h i (by simp only [V.ids, V.idss, List.mem_append]; exact .inl hi)) (ih2 fun i hi => h i (by simp only [V.ids, V.idss, List.mem_append] at hi ⊢; exact .inr hi))
theorem args_congr {bx : U} {xs ys : List V} (h : Args m bx xs ys) : (∀ i ∈ V.idss xs, m' i = m i) → Args m' bx xs ys := by
  induction h with
  | nil => intro _; exact .nil
  | cons h1 h2 ih => intro h; exact .cons (arg_congr h1 fun i hi => h i (by simp only [V.idss, List.mem_append]; exact .inl hi)) (ih fun i hi => h i (by simp only [V.idss, List.mem_append]; exact .inr hi))
mutual
theorem flat_ids : ∀ (x : V) (i : Nat), i ∈ V.idss x.flat → i ∈ x.ids
  | .ag l, i, h => by simp only [V.flat] at h; simp only [V.ids]; exact flats_ids l i h
  | .cl _ l, i, h => by simp only [V.flat] at h; simp only [V.ids]; exact flats_ids l i h
  | .tu l, i, h => by simp only [V.flat] at h; simp only [V.ids]; exact flats_ids l i h
  | .un, i, h | .d _, i, h | .nl _, i, h | .z0, i, h | .ub, i, h | .og _ _, i, h | .bp _ _ _, i, h | .ep _ _ _ _, i, h | .fp _ _, i, h => by simpa [V.flat, V.idss] using h
theorem flats_ids : ∀ (l : List V) (i : Nat), i ∈ V.idss (V.flats l) → i ∈ V.idss l
  | [], i, h => by simpa [V.flats] using h
  | x :: l, i, h => by
    simp only [V.flats, idss_append, List.mem_append] at h
    simp only [V.idss, List.mem_append]
    exact h.imp (flat_ids x i) (flats_ids l i)
end
mutual
theorem ren_congr {us : U} {b n : Nat} (h : ∀ j, j < n → m' (b + j) = m (b + j)) : ∀ (r : V), r.wfR us n = true → r.ren b m' = r.ren b m
  | .og i v, hr => by
    simp only [V.wfR] at hr
    by_cases hi : i < 1000000
    · simp only [V.ren, if_pos hi]
    rw [if_neg hi] at hr
    simp only [Bool.and_eq_true, decide_eq_true_eq] at hr
    simp only [V.ren, nv_congr' (h (i - 1000000) (by omega))]
  | .bp i v o, hr => by
    simp only [V.wfR] at hr
    by_cases hi : i < 1000000
    · simp only [V.ren, if_pos hi]
    rw [if_neg hi] at hr
    simp only [Bool.and_eq_true, decide_eq_true_eq] at hr
    simp only [V.ren, nv_congr' (h (i - 1000000) (by omega))]
  | .ag l, hr => by simp only [V.ren]; rw [rens_congr h l (by simpa only [V.wfR] using hr)]
  | .tu l, hr => by simp only [V.ren]; rw [rens_congr h l (by simpa only [V.wfR] using hr)]
  | .un, _ | .d _, _ | .nl _, _ | .z0, _ | .ub, _ | .ep _ _ _ _, _ | .fp _ _, _ | .cl _ _, _ => by simp only [V.ren]
theorem rens_congr {us : U} {b n : Nat} (h : ∀ j, j < n → m' (b + j) = m (b + j)) : ∀ (r : List V), V.wfRs us n r = true → V.rens b m' r = V.rens b m r
  | [], _ => rfl
  | x :: l, hr => by
    simp only [V.wfRs, Bool.and_eq_true] at hr
    simp only [V.rens, ren_congr h x hr.1, rens_congr h l hr.2]
end
theorem freshIn_congr {b : Nat} {as : List O} (h : ∀ j, j < as.length → m' (b + j) = m (b + j)) : freshIn b m' as = freshIn b m as := by
  unfold freshIn
  apply List.map_congr_left
  rintro ⟨o, j⟩ hj
  have := List.mk_mem_zipIdx_iff_getElem?.1 hj
  have hlt : j < as.length := (List.getElem?_eq_some_iff.1 this).1
  simp only [nv_congr' (h j hlt)]
theorem lentOut_ids {bx : U} {i : Nat} : ∀ {l : List V}, i ∈ V.idss (lentOut bx l) → i ∈ V.idss l
  | [], h => by simpa [lentOut] using h
  | x :: l, h => by
    have ih := lentOut_ids (bx := bx) (i := i) (l := l)
    cases x with
    | og j u =>
      simp only [lentOut] at h
      simp only [V.idss, List.mem_append]
      split at h
      · exact .inr (ih h)
      · simp only [V.idss, List.mem_append] at h; exact h.imp id ih
    | _ => simp only [lentOut, V.idss, List.mem_append] at h ⊢; exact h.imp id ih
theorem call_congr {P : Program} {f : FuncId} {xs : List V} {d : Nat} {v : V} {us : U} (hc : CallR P f xs m d v us) (h : ∀ i ∈ V.idss xs, m' i = m i) (hu : ∀ x ∈ us, m' x.1 = m x.1) : CallR P f xs m' d v us := by
  obtain ⟨ys, bx, r, bx', as, hD, hF, hA, rfl, rfl⟩ := hc
  have hnew : ∀ j, j < as.length → m' (1000 * (d + 2) + j) = m (1000 * (d + 2) + j) := fun j hj =>
    hu (_, (as[j]).setv (nv m (1000 * (d + 2) + j))) (by
      simp only [List.mem_append]
      exact .inr (.inr (freshIn_mem (List.getElem?_eq_getElem hj))))
  have hbox : ∀ x ∈ bx, m' x.1 = m x.1 := fun x hx => by
    obtain ⟨o, ho⟩ := hF.find' (i := x.1) (o0 := x.2) hx
    exact hu (x.1, o) (by simp only [List.mem_append]; exact .inr (.inl ho))
  refine ⟨ys, bx, r, bx', as, hD, ⟨hF.names, hF.kinds, hF.nd, hF.low, fun x hx => ⟨(hF.box x hx).1, by rw [hbox x hx]; exact (hF.box x hx).2⟩, hF.box', hF.wf, hF.res⟩, args_congr hA h, (ren_congr hnew r hF.res).symm, ?_⟩
  rw [frz_congr fun i hi => h i (flats_ids xs i (lentOut_ids hi)), freshIn_congr hnew]
/-- Does it look at the memory of what it is given? -/
def looks : K → Bool
  | .mov => false
  | .pick => false
  | .box => false
  | .build _ _ => false
  | .bin _ => false
  | .beq _ => false
  | .seq _ _ => false
  | .un _ => false
  | .conv _ => false
  | .mkf _ => false
  | .fld _ _ _ => false
  | .ixs => false
  | .ixa _ _ _ => false
  | .ext _ => false
  | .lens => false
  | .mn => false
  | .mx => false
  | _ => true
theorem sem_congr' {k : K} {d : Nat} {xs : List V} (h : looks k = true → ∀ i ∈ V.idss xs, m' i = m i) (hd : m' d = m d) : sem k d m' xs = sem k d m xs := by
  by_cases hk : looks k = true
  · exact sem_congr (h hk) hd
  · cases k <;> simp only [looks, not_true_eq_false] at hk <;> simp only [sem]
    unfold semBox
    rw [nv_congr' hd]
theorem pre_congr' {k : K} {xs : List V} (h : looks k = true → ∀ i ∈ V.idss xs, m' i = m i) : pre k m' xs = pre k m xs := by
  by_cases hk : looks k = true
  · exact pre_congr (h hk)
  · cases k <;> simp only [looks, not_true_eq_false] at hk <;> simp only [pre]
theorem stepA_congr {P : Program} {k : K} {d : Nat} {xs : List V} {v : V} {us : U} (hs : StepA P k d xs m v us) (h : looks k = true → ∀ i ∈ V.idss xs, m' i = m i) (hd : m' d = m d) (hu : ∀ x ∈ us, m' x.1 = m x.1) : StepA P k d xs m' v us := by
  unfold StepA at hs ⊢
  split at hs
  · exact call_congr hs (h rfl) hu
  · obtain ⟨f, caps, ys, e, hfn, hc⟩ := hs
    refine ⟨f, caps, ys, e, hfn, call_congr hc (fun i hi => h rfl i ?_) hu⟩
    subst e
    simp only [V.idss, V.ids, idss_append, List.mem_append] at hi ⊢
    exact hi.symm
  · exact ⟨by rw [sem_congr' h hd]; exact hs.1, by rw [pre_congr' h]; exact hs.2⟩
end
end Go.Proofs.Ytabfajhflaladaa.Sim
