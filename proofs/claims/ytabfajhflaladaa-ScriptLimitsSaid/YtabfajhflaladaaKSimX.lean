/- Steps of a region that draws its order: of no program. Conditions: none. -/
import Derived.Test.YtabfajhflaladaaKSimW
namespace Go.Proofs.Ytabfajhflaladaa.Sim
open Go Go.RowKit Go.Deep
set_option linter.unusedVariables false

/-- The operations of a region that draws, in the order of the text, each kept with what it came to. -/
def awpDs (P : Program) : List AO → List Ent → St → (List Ent → St → Prop) → Prop
  | [], acc, s, K => K acc.reverse s
  | o :: r, acc, s, K => ∃ v us xs, OpR P s ⟨o, v, us, xs⟩ ∧ awpDs P r (⟨o, v, us, xs⟩ :: acc) (s.put o.dst v us) K
section
variable {P : Program} {cx : Cx}
theorem awpDs_ok {K : List Ent → St → Prop} : ∀ {ops : List AO} {acc : List Ent} {s : St}, awpDs P ops acc s K → ∃ L s', L.map (·.o) = ops ∧ TextR P L s s' ∧ K (acc.reverse ++ L) s'
  | [], acc, s, h => ⟨[], s, rfl, rfl, by simpa [awpDs] using h⟩
  | o :: r, acc, s, h => by
    obtain ⟨v, us, xs, h1, h2⟩ := h
    obtain ⟨L, s', h3, h4, h5⟩ := awpDs_ok h2
    exact ⟨⟨o, v, us, xs⟩ :: L, s', by simp [h3], ⟨h1, h4⟩, by simpa using h5⟩
theorem Awp.regionD {ops : List AO} {Q : Exit → St → Prop} {s : St} (hm : P.follows .mixedOrders = true) (hw : wfAfter 0 ops = true) (h : awpDs P ops [] s fun L s' => indepAll (ancL ops []) L 0 L = true ∧ Q .normal s') : Awp P cx (.region ops true) Q s := by
  intro code hc a w hR
  cases code <;> try (simp [compile] at hc; done)
  case region id ops' draw =>
    unfold compile at hc
    split at hc
    · cases hc
    simp only [Option.map_eq_some_iff] at hc
    obtain ⟨l, h1, h2⟩ := hc
    cases h2
    obtain ⟨L, s', h3, h4, h5, h6⟩ := awpDs_ok h
    refine wp_region_any hm ?_
    refine draw_ok (cx := cx) (Q := fun e a' w' => ∃ s', Q e s' ∧ Rel cx s' a' w') rfl h1 h3 h4 hw (by simpa using h5) (fun a w hR => ⟨s', h6, hR⟩) _ _ _ _ (by simp) (by simp) (fun j o _ hp => by simp [Array.getElem?_replicate] at hp; split at hp <;> simp at hp) ?_
    rw [runE_none fun j _ => by simp [Array.getElem?_replicate]; split <;> simp]
    exact hR.drew
  all_goals ((try unfold compile at hc); first | (split at hc <;> (first | (cases hc; done) | (simp at hc; done))) | (simp at hc; done))
end
section
variable {P : Program} {cx : Cx} {T : Nat → V} {m : M} {K0 : List Ent → St → Prop} {acc : List Ent} {d : Nat} {k : K} {xs : List AV} {af : List Nat} {r : List AO} {v : V} {us : U} {j t : Nat} {b c : Bool}
theorem dstep1 (hk : k.plain = true) (h : sem k d m (xs.map (ev T)) = some (v, us)) (hp : pre k m (xs.map (ev T))) (hr : awpDs P r (⟨⟨some d, k, xs, af, none⟩, v, us, xs.map (ev T)⟩ :: acc) ⟨up T d v, ups m us⟩ K0) : awpDs P (⟨some d, k, xs, af, none⟩ :: r) acc ⟨T, m⟩ K0 :=
  ⟨v, us, _, ⟨rfl, stepA_plain hk h hp⟩, hr⟩
theorem dstep1n (hk : k.plain = true) (h : sem k d m (xs.map (ev T)) = some (v, [])) (hp : pre k m (xs.map (ev T))) (hr : awpDs P r (⟨⟨some d, k, xs, af, none⟩, v, [], xs.map (ev T)⟩ :: acc) ⟨up T d v, m⟩ K0) : awpDs P (⟨some d, k, xs, af, none⟩ :: r) acc ⟨T, m⟩ K0 :=
  ⟨v, [], _, ⟨rfl, stepA_plain hk h hp⟩, hr⟩
theorem dstep0 (hk : k.plain = true) (h : sem k 0 m (xs.map (ev T)) = some (v, us)) (hp : pre k m (xs.map (ev T))) (hr : awpDs P r (⟨⟨none, k, xs, af, none⟩, v, us, xs.map (ev T)⟩ :: acc) ⟨T, ups m us⟩ K0) : awpDs P (⟨none, k, xs, af, none⟩ :: r) acc ⟨T, m⟩ K0 :=
  ⟨v, us, _, ⟨rfl, stepA_plain hk h hp⟩, hr⟩
theorem dstepE {s : St} (h : K0 acc.reverse s) : awpDs P [] acc s K0 := h
theorem dstepC {f : FuncId} {zs ys : List V} {bx bx' : U} {q : V} {as : List O} (hD : Does P f ys bx q bx' as) (hx : xs.map (ev T) = zs) (hA : argFs m bx zs ys) (hF : CallForm m (1000 * (d + 2)) bx q bx' as)
    (hv : q.ren (1000 * (d + 2)) m = v) (hu : frz m (lentOut bx (V.flats zs)) ++ (bx' ++ freshIn (1000 * (d + 2)) m as) = us) (hr : awpDs P r (⟨⟨some d, .call f, xs, af, none⟩, v, us, zs⟩ :: acc) ⟨up T d v, ups m us⟩ K0) : awpDs P (⟨some d, .call f, xs, af, none⟩ :: r) acc ⟨T, m⟩ K0 :=
  ⟨v, us, zs, ⟨hx.symm, by simp only [StepA]; exact ⟨ys, bx, q, bx', as, hD, hF, (ags_of zs ys hA).2.2, hv.symm, hu.symm⟩⟩, hr⟩
end
end Go.Proofs.Ytabfajhflaladaa.Sim
