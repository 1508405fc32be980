/- Steps, one after the other: of no program. Conditions: none. -/
import Derived.Test.YtabfajhflaladaaKSimN
namespace Go.Proofs.Ytabfajhflaladaa.Sim
open Go Go.RowKit Go.Deep
set_option linter.unusedVariables false

/-- Where a walk stands: its values, its memory. -/
structure St where
  T : Nat → V
  m : M
structure Cx where
  w0 : World
  X : Nat → Prop
  S0 : Nat → Prop
  N : Nat
  m0 : M
  hd0 : H
/-- A state of the walk is that of the machine. -/
def Rel (cx : Cx) (s : St) (a : Act) (w : World) : Prop :=
  ∃ hd S, Mem s.m hd w S cx.X cx.w0.heap.size ∧ (∀ t, VR s.m hd w S (s.T t) (a.tmps.getD t undef)) ∧ Fr cx.w0 w cx.X ∧ a.defers = [] ∧ a.tmps.size = cx.N ∧ (∀ b, S b → cx.S0 b ∨ cx.w0.heap.size ≤ b ∨ cx.X b) ∧ Le cx.m0 cx.hd0 s.m hd
def St.put (s : St) (dst : Option Nat) (v : V) (us : U) : St := ⟨match dst with
  | some d => up s.T d v
  | none => s.T, ups s.m us⟩
def fnOK (P : Program) (f : FuncId) : Bool := match P.funcs[f]? with
  | some fn => fn.body.isSome && !(fn.name == "runtime.NumGoroutine")
  | none => false
/-- What a call comes to. -/
def CallR (P : Program) (f : FuncId) (xs : List V) (m : M) (d : Nat) (v : V) (us : U) : Prop :=
  ∃ ys bx r bx' as, Does P f ys bx r bx' as ∧ CallForm m (1000 * (d + 2)) bx r bx' as ∧ Args m bx xs ys ∧ v = r.ren (1000 * (d + 2)) m ∧ us = frz m (lentOut bx (V.flats xs)) ++ (bx' ++ freshIn (1000 * (d + 2)) m as)
def StepA (P : Program) (k : K) (d : Nat) (xs : List V) (m : M) (v : V) (us : U) : Prop :=
  match k with
  | .call f => CallR P f xs m d v us
  | .callv => ∃ f caps ys, xs = .cl f caps :: ys ∧ fnOK P f = true ∧ CallR P f (ys ++ caps) m d v us
  | k => sem k d m xs = some (v, us) ∧ pre k m xs
/-- What a guard finds there, where that is known: .tu [] is where an operation did not run. -/
def gv : V → Option (Option Bool)
  | .d (.at (.bool c)) => some (some c)
  | .tu [] => some none
  | _ => none
/-- The operations of a region, in the order of the text. -/
def awpOps (P : Program) : List AO → St → (St → Prop) → Prop
  | [], s, K => K s
  | o :: r, s, K => match o.guard with
    | none => ∃ v us, StepA P o.k (o.dst.getD 0) (o.xs.map (ev s.T)) s.m v us ∧ awpOps P r (s.put o.dst v us) K
    | some (_, t, b) => ∃ c, gv (s.T t) = some c ∧ (c = some b → ∃ v us, StepA P o.k (o.dst.getD 0) (o.xs.map (ev s.T)) s.m v us ∧ awpOps P r (s.put o.dst v us) K) ∧ (c ≠ some b → awpOps P r (s.put o.dst (.tu []) []) K)

section
variable {P : Program} {cx : Cx} {s : St} {a : Act} {w : World}
theorem tmps_put {N : Nat} (hN : a.tmps.size = N) (d : Nat) (hd : d < N) (u : Value) (t : Nat) : (a.put (some d) u).tmps.getD t undef = if t = d then u else a.tmps.getD t undef := by
  simp only [Act.put, Array.getD_eq_getD_getElem?, Array.getElem?_setIfInBounds]
  by_cases e : d = t
  · subst e
    simp [hN, hd]
  · rw [if_neg e, if_neg (fun h => e h.symm)]
theorem Rel.put {hd hd2 : H} {S S2 : Nat → Prop} {w' : World} {dst : Option Nat} {v : V} {u : Value} {us : U} (hv : ∀ t, VR s.m hd w S (s.T t) (a.tmps.getD t undef)) (hfr : Fr cx.w0 w cx.X) (hdef : a.defers = []) (hN : a.tmps.size = cx.N) (hsub : ∀ b, S b → cx.S0 b ∨ cx.w0.heap.size ≤ b ∨ cx.X b) (hle : Le cx.m0 cx.hd0 s.m hd) (ho : Out cx.X cx.w0.heap.size s.m hd w S (ups s.m us) hd2 w' S2)
    (hd' : ∀ d, dst = some d → d < cx.N) (hu : VR (ups s.m us) hd2 w' S2 v u) : Rel cx (s.put dst v us) (a.put dst u) w' := by
  refine ⟨hd2, S2, ho.mem, fun t => ?_, hfr.trans ho.fr (fun i hi h => h.elim id fun h => by omega), ?_, ?_, fun b hb => (ho.more b hb).elim (hsub b) .inr, hle.trans ho.le⟩
  · cases dst with
    | none => exact ho.vr (hv t)
    | some d =>
      rw [tmps_put hN d (hd' d rfl)]
      simp only [St.put, up]
      split
      · exact hu
      · exact ho.vr (hv t)
  · cases dst <;> exact hdef
  · cases dst <;> simp [Act.put, hN]

theorem opA_ok {N : Nat} {ops : Array Oper} {o : Oper} {ao : AO} (h : opA P N ops o = some ao) : ∃ xs ts, opK P o = some (ao.k, xs, ts) ∧ avs P ts xs = some ao.xs ∧ ao.dst = o.dst ∧ (∀ d, o.dst = some d → d < N) ∧ ao.after = befores o ∧
    (match o.guard with
      | none => ao.guard = none
      | some (j, b) => ∃ d, (ops[j]?).bind (·.dst) = some d ∧ ao.guard = some (j, d, b)) := by
  unfold opA at h
  split at h
  · rename_i k xs ts h1
    split at h
    · rename_i ys h2
      split at h
      · rename_i h3
        have hd : ∀ d, o.dst = some d → d < N := by
          intro d e
          rw [e] at h3
          simpa [dstOK] using h3
        split at h
        · rename_i hg
          cases h
          exact ⟨xs, ts, h1, h2, rfl, hd, rfl, by rw [hg]⟩
        · rename_i j b hg
          split at h
          · rename_i d hd'
            cases h
            exact ⟨xs, ts, h1, h2, rfl, hd, rfl, by rw [hg]; exact ⟨d, hd', rfl⟩⟩
          · cases h
      · cases h
    · cases h
  · cases h

theorem run_call {o : Oper} {c : Call} {f : FuncId} (ho : o.op = .call c) {callee : Operand} (hc : c.callee = .value callee) {caps : Array Value} (hf : a.eval callee = .func (.func f) #[] caps) (hfn : fnOK P f = true) :
    (execOp a.eval o).run P w = .ok (.enter f (c.args.map a.eval ++ caps)) w := by
  unfold fnOK at hfn
  split at hfn
  · rename_i fn hfn'
    simp only [Bool.and_eq_true, Bool.not_eq_true', beq_eq_false_iff_ne, ne_eq] at hfn
    obtain ⟨c, hb⟩ := Option.isSome_iff_exists.1 hfn.1
    simp [execOp, ho, resolve, hc, hf, Deferred.ofValue, invoke, callFunc, hfn', hfn.2, hb]
  · cases hfn

theorem opK_call {o : Oper} {f : FuncId} {xs : List Operand} {ts : List TypeId} (h : opK P o = some (.call f, xs, ts)) : ∃ c, o.op = .call c ∧ c.callee = .value (.func f) ∧ xs = c.args.toList ∧ fnOK P f = true := by
  unfold opK at h
  split at h
  case h_22 c ho =>
    split at h
    case h_1 f' hc =>
      split at h
      · rename_i fn hfn
        split at h
        · rename_i hb
          cases h
          exact ⟨c, ho, hc, rfl, by unfold fnOK; rw [hfn]; exact hb⟩
        · cases h
      · cases h
    all_goals (first | (cases h; done) | ((repeat' split at h) <;> first | (cases h; done) | (simp at h; done)))
  all_goals (first | (cases h; done) | (simp at h; done) | ((repeat' split at h) <;> first | (cases h; done) | (simp at h; done)))
theorem opK_callv {o : Oper} {xs : List Operand} {ts : List TypeId} (h : opK P o = some (.callv, xs, ts)) : ∃ c t, o.op = .call c ∧ c.callee = .value (.tmp t) ∧ xs = .tmp t :: c.args.toList := by
  unfold opK at h
  split at h
  case h_22 c ho =>
    split at h
    case h_2 t hc => cases h; exact ⟨c, t, ho, hc, rfl⟩
    all_goals (first | (cases h; done) | ((repeat' split at h) <;> first | (cases h; done) | (simp at h; done)))
  all_goals (first | (cases h; done) | (simp at h; done) | ((repeat' split at h) <;> first | (cases h; done) | (simp at h; done)))
/-- ONE OPERATION. -/
theorem step_ok {N : Nat} {ops : Array Oper} {o : Oper} {ao : AO} (hN : cx.N = N) (h : opA P N ops o = some ao) (hR : Rel cx s a w) {v : V} {us : U} (hs : StepA P ao.k (ao.dst.getD 0) (ao.xs.map (ev s.T)) s.m v us) {K : Act → World → Prop} {Q : Exit → Act → World → Prop}
    (hK : ∀ a' w', Rel cx (s.put ao.dst v us) a' w' → K a' w') : o.wp P a w K Q := by
  obtain ⟨xs, ts, h1, h2, h3, h4, _, _⟩ := opA_ok h
  obtain ⟨hd, S, hm, hv, hfr, hdef, hsz, hsub, hle⟩ := hR
  have hd4 : ∀ d, ao.dst = some d → d < cx.N := by rw [hN, h3]; exact h4
  have hxs := avs_ok (a := a) hv h2
  have plain : sem ao.k (ao.dst.getD 0) s.m (ao.xs.map (ev s.T)) = some (v, us) ∧ pre ao.k s.m (ao.xs.map (ev s.T)) → o.wp P a w K Q := by
    rintro ⟨hsem, hpre⟩
    obtain ⟨nx, w', hd2, S2, hrun, ho, hnx⟩ := op_ok hm h1 hxs hsem hpre
    unfold Oper.wp
    rw [hrun]
    rcases hnx with ⟨u, rfl, hu⟩ | ⟨rfl, rfl⟩
    · exact hK _ _ (by rw [← h3]; exact Rel.put hv hfr hdef hsz hsub hle ho hd4 hu)
    · exact hK _ _ (by rw [← h3]; exact Rel.put hv hfr hdef hsz hsub hle ho hd4 (by simp only [VR]))
  have call : ∀ {f : FuncId} {ys : List V} {vs : List Value}, VRs s.m hd w S ys vs → (execOp a.eval o).run P w = .ok (.enter f vs.toArray) w → CallR P f ys s.m (ao.dst.getD 0) v us → o.wp P a w K Q := by
    rintro f ys vs hvs hrun ⟨zs, bx, r, bx', as, hD, hF, hA, rfl, rfl⟩
    unfold Oper.wp
    rw [hrun, Oper.upon_enter]
    refine (call_step hD hF hm hvs hA).mono ?_
    rintro e w' ⟨u, hd2, S2, rfl, ho, hu⟩
    exact hK _ _ (by rw [← h3]; exact Rel.put hv hfr hdef hsz hsub hle ho hd4 hu)
  unfold StepA at hs
  split at hs
  · rename_i f hk
    rw [hk] at h1
    -- a static call
    obtain ⟨c, ho, hc, rfl, hfn⟩ := opK_call h1
    have hrun := run_call (a := a) (w := w) ho hc (caps := #[]) rfl hfn
    refine call (vs := c.args.toList.map a.eval) hxs ?_ hs
    rw [hrun]
    congr 2
    apply Array.ext'
    simp
  · rename_i hk
    rw [hk] at h1
    obtain ⟨f, caps, ys, e, hfn, hs⟩ := hs
    obtain ⟨c, t, ho, hc, rfl⟩ := opK_callv h1
    rw [e, List.map_cons] at hxs
    obtain ⟨x, l, e2, g1, g2⟩ := hxs.invc
    cases e2
    simp only [VR] at g1
    obtain ⟨vs, e1, g3⟩ := g1
    have hrun := run_call (a := a) (w := w) ho hc e1 hfn
    refine call (vs := c.args.toList.map a.eval ++ vs) (g2.append g3) ?_ hs
    rw [hrun]
    congr 2
    apply Array.ext'
    simp
  · exact plain hs
end
end Go.Proofs.Ytabfajhflaladaa.Sim
