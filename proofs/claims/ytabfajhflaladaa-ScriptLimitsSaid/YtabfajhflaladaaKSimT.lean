/- From a function's body to what a call does: of no program. Conditions: none. -/
import Derived.Test.YtabfajhflaladaaKSimS
namespace Go.Proofs.Ytabfajhflaladaa.Sim
open Go Go.RowKit Go.Deep
set_option linter.unusedVariables false

def idx : Nat → List V → List (Nat × V)
  | _, [] => []
  | k, x :: l => (k, x) :: idx (k + 1) l
section
variable {P : Program} {m : M} {hd : H} {w : World} {S X : Nat → Prop} {B : Nat}
theorem tl_idx (n : Nat) : ∀ (l : List V) (k t : Nat), tl (idx k l) t = if k ≤ t ∧ t < k + l.length then l.getD (t - k) .un else .un
  | [], k, t => by simp [idx, tl]
  | x :: l, k, t => by
    simp only [idx, tl, up]
    by_cases e : t = k
    · subst e
      simp
    · rw [if_neg e, tl_idx n l (k + 1) t]
      by_cases h : k + 1 ≤ t ∧ t < k + 1 + l.length
      · rw [if_pos h, if_pos (by simp; omega), show t - k = (t - (k + 1)) + 1 by omega]
        rfl
      · rw [if_neg h, if_neg (by simp; omega)]
/-- The results, read. -/
theorem res1_ok (hm : Mem m hd w S X B) {T : Nat → V} {tmps : Array Value} (hv : ∀ t, VR m hd w S (T t) (tmps.getD t undef)) {x : ResultVar} {rv : RV} (h : rvOf P x = some rv) {v : V} (hs : res1 ⟨T, m⟩ rv = some v) :
    ∃ u, (match x with | .tmp t => pure (tmps.getD t undef) | .cell a t => do loadVar t (← asAddr (tmps.getD a undef)) : Sem Value).run P w = .ok u w ∧ VR m hd w S v u := by
  cases x with
  | tmp t =>
    simp only [rvOf, Option.some.injEq] at h
    subst h
    simp only [res1, Option.some.injEq] at hs
    subst hs
    exact ⟨_, rfl, hv t⟩
  | cell t ty =>
    simp only [rvOf, Option.map_eq_some_iff] at h
    obtain ⟨⟨n, g⟩, hf, rfl⟩ := h
    simp only [res1] at hs
    split at hs
    · rename_i i ver q hT
      have h1 := hv t
      rw [hT] at h1
      split at hs
      · rename_i v' cs hi
        split at hs
        · rename_i hc
          obtain ⟨rfl, hc⟩ := hc
          cases hs
          simp only [VR] at h1
          obtain ⟨_, y, hy, _, h1⟩ := h1
          rw [hi] at hy
          cases hy
          obtain ⟨b, e1, e2⟩ := h1 cs rfl
          have hob := hm.obj i _ hi
          simp only [O.is] at hob
          obtain ⟨b', xs, e3, _, _, _, hx, hone, _, hra⟩ := hob
          rw [e1] at e3
          cases e3
          have hxl := hx.len
          have hra' := range_sub hra q n
          rw [Nat.zero_add] at hra'
          have hrun := run_load_range (P := P) hf hra' (by simp; omega)
          refine ⟨_, ?_, ((hx.drop q).take n).mk (n := n) (by simp; omega) (fun y hy => hone y (List.mem_of_mem_drop (List.mem_of_mem_take hy))) (form_ok hf).choose_spec.choose_spec.2.2.2.2⟩
          simp only [Instr.loadAt, Instr.sureAddr, Sem.run_bind, Sem.run_pure, Result.andThen_ok] at hrun
          simp only [e2, asAddr, Sem.run_bind, Sem.run_pure, Result.andThen_ok]
          exact hrun
        · cases hs
      · cases hs
    · cases hs
theorem ress_ok (hm : Mem m hd w S X B) {T : Nat → V} {tmps : Array Value} (hv : ∀ t, VR m hd w S (T t) (tmps.getD t undef)) : ∀ {xs : List ResultVar} {rs : List RV}, rvsOf P xs = some rs → ∀ {vs : List V}, ress ⟨T, m⟩ rs = some vs →
    ∃ us : List Value, (xs.mapM fun x => (match x with | .tmp t => pure (tmps.getD t undef) | .cell a t => do loadVar t (← asAddr (tmps.getD a undef)) : Sem Value)).run P w = .ok us w ∧ VRs m hd w S vs us
  | [], rs, h, vs, hs => by
    simp only [rvsOf, Option.some.injEq] at h
    subst h
    simp only [ress, Option.some.injEq] at hs
    subst hs
    exact ⟨[], by simp, by simp [VRs]⟩
  | x :: xs, rs, h, vs, hs => by
    unfold rvsOf at h
    split at h
    · rename_i y ys h1 h2
      cases h
      unfold ress at hs
      split at hs
      · rename_i v vs' h3 h4
        cases hs
        obtain ⟨u, r1, r2⟩ := res1_ok hm hv h1 h3
        obtain ⟨us, r3, r4⟩ := ress_ok hm hv h2 h4
        refine ⟨u :: us, ?_, u, us, rfl, r2, r4⟩
        rw [List.mapM_cons]
        simp only [Sem.run_bind, r1, r3, Result.andThen_ok, Sem.run_pure]
      · cases hs
    · cases h
theorem resV_ok (hm : Mem m hd w S X B) {T : Nat → V} {tmps : Array Value} (hv : ∀ t, VR m hd w S (T t) (tmps.getD t undef)) {fn : Func} {rs : List RV} (h : rvsOf P fn.results.toList = some rs) {v : V} (hs : resV ⟨T, m⟩ rs = some v) : ∃ u, (results fn tmps).run P w = .ok u w ∧ VR m hd w S v u := by
  have key : ∀ {vs : List V}, ress ⟨T, m⟩ rs = some vs → ∃ us : List Value, (results fn tmps).run P w = .ok (if h : us.toArray.size = 1 then us.toArray[0] else .tuple us.toArray) w ∧ VRs m hd w S vs us := by
    intro vs hvs
    obtain ⟨us, r1, r2⟩ := ress_ok hm hv h hvs
    refine ⟨us, ?_, r2⟩
    unfold results
    rw [Sem.run_bind, Array.mapM_eq_mapM_toList, Sem.run_map]
    erw [r1]
    simp only [Result.andThen_ok, Sem.run_pure]
  unfold resV at hs
  split at hs
  · rename_i x hx
    cases hs
    obtain ⟨us, r1, r2⟩ := key hx
    obtain ⟨u, r, rfl, h1, h2⟩ := r2
    simp only [VRs] at h2
    subst h2
    exact ⟨u, by rw [r1]; simp, h1⟩
  · rename_i l hne hl
    cases hs
    obtain ⟨us, r1, r2⟩ := key hl
    have hlen := r2.len
    have : ¬ us.toArray.size = 1 := by
      intro e
      have : l.length = 1 := by simpa [hlen] using e
      match l, this with
      | [x], _ => exact hne x rfl
    refine ⟨.tuple us.toArray, by rw [r1, dif_neg this], ?_⟩
    simp only [VR]
    exact ⟨us, rfl, r2⟩
  · cases hs
end

/-- What is owed of variables that pointers lead to. -/
structure BxOK (bx bx' : U) : Prop where
  names : bx'.map (·.1) = bx.map (·.1)
  nd : (bx.map (·.1)).Nodup
theorem BxOK.nil : BxOK [] [] := ⟨rfl, by simp⟩

/-- FROM THE BODY. -/
theorem does_of {P : Program} {f : FuncId} {fn : Func} {code : Code} {N : Nat} {ac : AC} {rs : List RV} {xs : List V} {bx bx' : U} {r : V} {as : List O} (hf : P.funcs[f]? = some fn) (hb : fn.body = some code) (hn : fn.ntmps = N) (hc : compile P N code = some ac) (hr : rvsOf P fn.results.toList = some rs) (hxs : xs.length ≤ N) (hbx : BxOK bx bx')
    (h : ∀ cx : Cx, cx.N = N → cx.m0 = ups M0 bx → Awp P cx ac (RetE rs r bx' as) ⟨tl (idx 0 xs), ups M0 bx⟩) : Does P f xs bx r bx' as := by
  intro w hd S X us hm hv
  have hul := hv.len
  let cx : Cx := { w0 := w, X := X, S0 := S, N := N, m0 := ups M0 bx, hd0 := hd }
  refine calls_of_wp hf hb ?_
  have hR : Rel cx ⟨tl (idx 0 xs), ups M0 bx⟩ { tmps := us.toArray ++ Array.replicate (fn.ntmps - us.toArray.size) undef, defers := [] } w := by
    refine ⟨hd, S, hm, fun t => ?_, Fr.refl _ _, rfl, by simp [hn]; show us.length + (N - us.length) = N; omega, fun b hb => .inl hb, Le.refl _ _⟩
    simp only
    rw [tl_idx 0]
    simp only [Nat.zero_le, Nat.zero_add, true_and, Nat.sub_zero]
    split
    · rename_i ht
      have hx : xs[t]? = some (xs.getD t .un) := by rw [List.getD_eq_getElem?_getD, List.getElem?_eq_getElem ht]; rfl
      obtain ⟨u, h1, h2⟩ := hv.get t _ hx
      have : (us.toArray ++ Array.replicate (fn.ntmps - us.toArray.size) undef).getD t undef = u := by
        rw [Array.getD_eq_getD_getElem?, Array.getElem?_append_left (by simp; omega)]
        simp [h1]
      rw [this]
      exact h2
    · simp only [VR]
  refine wp_mono (h cx rfl rfl code hc _ _ hR) ?_
  rintro e a' w' ⟨s', hq, hR'⟩
  have fin : RetOK s' rs r bx' as → a'.defers = [] ∧ ∃ v, (results fn a'.tmps).run P w' = .ok v w' ∧ ∃ u hd' S', Ending.returned v = .returned u ∧ Fr w w' X ∧ Mem (ups M0 (bx' ++ fresh as)) hd' w' S' X w.heap.size ∧ VR (ups M0 (bx' ++ fresh as)) hd' w' S' r u ∧ (∀ b, S' b → S b ∨ w.heap.size ≤ b ∨ X b) ∧ Le (ups M0 bx) hd (ups M0 (bx' ++ fresh as)) hd' := by
    rintro ⟨r', ids, h1, h2, h3, h4, h5⟩
    obtain ⟨hd1, S1, hm1, hv1, hfr, hdef, hsz, hsub, hle⟩ := hR'
    obtain ⟨u, hu1, hu2⟩ := resV_ok hm1 hv1 hr h1
    refine ⟨hdef, u, hu1, u, ?_⟩
    have hnm : (bx'.map (·.1)).Nodup := by rw [hbx.names]; exact hbx.nd
    obtain ⟨hd', S', g1, g2, g3, g4⟩ := ret_ok hm1 hu2 hsub hle (fun x hx => by
      have : x.1 ∈ bx'.map (·.1) := by rw [hbx.names]; exact List.mem_map.2 ⟨x, hx, rfl⟩
      obtain ⟨y, hy, e⟩ := List.mem_map.1 this
      exact ⟨y.2, by rw [← e]; exact hy⟩) hnm h2 h3 h4 h5
    exact ⟨hd', S', rfl, hfr, g1, g2, g3, g4⟩
  cases e with
  | normal => exact fin hq
  | ret => exact fin hq
  | _ => exact hq.elim
end Go.Proofs.Ytabfajhflaladaa.Sim
