/- Steps for proofs: of no program. Conditions: none. -/
import Derived.Test.YtabfajhflaladaaKSimT
namespace Go.Proofs.Ytabfajhflaladaa.Sim
open Go Go.RowKit Go.Deep
set_option linter.unusedVariables false

abbrev ci (n : Int) : AV := .c (I n)
abbrev cb (b : Bool) : AV := .c (B b)
def K.plain : K → Bool
  | .call _ => false
  | .callv => false
  | _ => true
mutual
def argF (m : M) (bx : U) : V → V → Prop
  | .d x, .d y => x = y
  | .nl _, .nl _ => True
  | .nl _, .d y => ∃ k, y = .sl k []
  | .og i v, .d y => inU bx i = false ∧ ∃ k mu l, m i = some (.arr v k mu l) ∧ y = .sl k l
  | .og i v, .og j u => i = j ∧ v = u ∧ ∃ k l, m i = some (.arr v k true l) ∧ (i, O.arr v k true l) ∈ bx
  | .bp i v o, .bp j u q => i = j ∧ v = u ∧ o = q ∧ ∃ cs, m i = some (.box v cs) ∧ (i, O.box v cs) ∈ bx
  | .ag l, .ag l' => argFs m bx l l'
  | .cl f l, .cl g l' => f = g ∧ argFs m bx l l'
  | _, _ => False
def argFs (m : M) (bx : U) : List V → List V → Prop
  | [], [] => True
  | x :: l, y :: l' => argF m bx x y ∧ argFs m bx l l'
  | _, _ => False
end
mutual
theorem arg_of {m : M} {bx : U} : ∀ (x y : V), argF m bx x y → Arg m bx x y
  | .d x, y, h => by
    cases y with
    | d y => simp only [argF] at h; subst h; exact .d x
    | _ => simp [argF] at h
  | .nl k, y, h => by
    cases y with
    | d y => simp only [argF] at h; obtain ⟨k', rfl⟩ := h; exact .nd k k'
    | nl k' => exact .nl k k'
    | _ => simp [argF] at h
  | .og i v, y, h => by
    cases y with
    | d y => simp only [argF] at h; obtain ⟨hn, k, mu, l, h1, rfl⟩ := h; exact .og i v k mu l h1 hn
    | og j u => simp only [argF] at h; obtain ⟨rfl, rfl, k, l, h1, h2⟩ := h; exact .ogl _ _ k l h1 h2
    | _ => simp [argF] at h
  | .bp i v o, y, h => by
    cases y with
    | bp j u q => simp only [argF] at h; obtain ⟨rfl, rfl, rfl, cs, h1, h2⟩ := h; exact .bp _ _ _ cs h1 h2
    | _ => simp [argF] at h
  | .ag l, y, h => by
    cases y with
    | ag l' => exact (ags_of l l' (by simpa only [argF] using h)).1
    | _ => simp [argF] at h
  | .cl f l, y, h => by
    cases y with
    | cl g l' => simp only [argF] at h; obtain ⟨rfl, h⟩ := h; exact (ags_of l l' h).2.1 f
    | _ => simp [argF] at h
  | .un, y, h => by simp [argF] at h
  | .z0, y, h => by simp [argF] at h
  | .ub, y, h => by simp [argF] at h
  | .ep _ _ _ _, y, h => by simp [argF] at h
  | .fp _ _, y, h => by simp [argF] at h
  | .tu _, y, h => by simp [argF] at h
theorem ags_of {m : M} {bx : U} : ∀ (l l' : List V), argFs m bx l l' → Arg m bx (.ag l) (.ag l') ∧ (∀ f, Arg m bx (.cl f l) (.cl f l')) ∧ Args m bx l l'
  | [], [], _ => ⟨.agn, fun f => .cln f, .nil⟩
  | x :: l, y :: l', h => by
    simp only [argFs] at h
    have h1 := arg_of x y h.1
    have h2 := ags_of l l' h.2
    exact ⟨.agc h1 h2.1, fun f => .clc h1 (h2.2.1 f), .cons h1 h2.2.2⟩
  | [], _ :: _, h => by simp [argFs] at h
  | _ :: _, [], h => by simp [argFs] at h
end
theorem args_of {m : M} {bx : U} {xs ys : List V} (h : argFs m bx xs ys) : Args m bx xs ys := (ags_of xs ys h).2.2
section
variable {P : Program} {cx : Cx} {T : Nat → V} {m m' : M} {K0 : St → Prop} {d : Nat} {k : K} {xs : List AV} {af : List Nat} {r : List AO} {v : V} {us : U} {j t : Nat} {b c : Bool}
theorem stepA_plain (hk : k.plain = true) {d : Nat} {ys : List V} {m : M} (h : sem k d m ys = some (v, us)) (hp : pre k m ys) : StepA P k d ys m v us := by
  unfold StepA
  split
  · cases hk
  · cases hk
  · exact ⟨h, hp⟩
/-- An operation with a result. -/
theorem step1 (hk : k.plain = true) (h : sem k d m (xs.map (ev T)) = some (v, us)) (hp : pre k m (xs.map (ev T))) (hr : awpOps P r ⟨up T d v, ups m us⟩ K0) : awpOps P (⟨some d, k, xs, af, none⟩ :: r) ⟨T, m⟩ K0 := by
  simp only [awpOps]
  exact ⟨v, us, stepA_plain hk h hp, hr⟩
/-- .. that leaves memory as it is. -/
theorem step1n (hk : k.plain = true) (h : sem k d m (xs.map (ev T)) = some (v, [])) (hp : pre k m (xs.map (ev T))) (hr : awpOps P r ⟨up T d v, m⟩ K0) : awpOps P (⟨some d, k, xs, af, none⟩ :: r) ⟨T, m⟩ K0 := step1 hk h hp hr
/-- .. without one. -/
theorem step0 (hk : k.plain = true) (h : sem k 0 m (xs.map (ev T)) = some (v, us)) (hp : pre k m (xs.map (ev T))) (hr : awpOps P r ⟨T, ups m us⟩ K0) : awpOps P (⟨none, k, xs, af, none⟩ :: r) ⟨T, m⟩ K0 := by
  simp only [awpOps]
  exact ⟨v, us, stepA_plain hk h hp, hr⟩
theorem up_self {x : V} (h : T t = x) : up T t x = T := by rw [← h]; exact up_id T t
theorem stepE {s : St} (h : K0 s) : awpOps P [] s K0 := h
/-- A call. -/
theorem stepC {f : FuncId} {zs ys : List V} {bx bx' : U} {q : V} {as : List O} (hD : Does P f ys bx q bx' as) (hx : xs.map (ev T) = zs) (hA : argFs m bx zs ys) (hF : CallForm m (1000 * (d + 2)) bx q bx' as)
    (hv : q.ren (1000 * (d + 2)) m = v) (hu : frz m (lentOut bx (V.flats zs)) ++ (bx' ++ freshIn (1000 * (d + 2)) m as) = us) (hr : awpOps P r ⟨up T d v, ups m us⟩ K0) : awpOps P (⟨some d, .call f, xs, af, none⟩ :: r) ⟨T, m⟩ K0 := by
  simp only [awpOps]
  refine ⟨v, _, ?_, hr⟩
  simp only [StepA, hx]
  exact ⟨ys, bx, q, bx', as, hD, hF, (ags_of zs ys hA).2.2, hv.symm, hu.symm⟩
/-- A call without variables and without new objects. -/
theorem CallForm.plain {m : M} {b : Nat} {q : V} (h : q.wfR [] 0 = true) : CallForm m b [] q [] [] := ⟨rfl, rfl, by simp, by simp, by simp, by simp, rfl, h⟩
/-- .. with new objects. -/
theorem CallForm.news {m : M} {b : Nat} {q : V} {as : List O} (h : as.all O.wf = true) (h2 : q.wfR [] as.length = true) : CallForm m b [] q [] as := ⟨rfl, rfl, by simp, by simp, by simp, by simp, h, h2⟩
end
theorem ret_mk {T : Nat → V} {m : M} {rs : List RV} {r' r : V} {bx' : U} {as : List O} (ids : List (Option Nat)) (h : resV ⟨T, m⟩ rs = some r') (h1 : exF m bx' ids r' r) (h2 : asF m ids as) (h3 : (ids.filterMap id).Nodup) (h4 : bxF m ids bx') : RetE rs r bx' as .ret ⟨T, m⟩ := ⟨r', ids, h, h1, h2, h3, h4⟩
theorem end_mk {T : Nat → V} {m : M} {rs : List RV} {r' r : V} {bx' : U} {as : List O} (ids : List (Option Nat)) (h : resV ⟨T, m⟩ rs = some r') (h1 : exF m bx' ids r' r) (h2 : asF m ids as) (h3 : (ids.filterMap id).Nodup) (h4 : bxF m ids bx') : RetE rs r bx' as .normal ⟨T, m⟩ := ⟨r', ids, h, h1, h2, h3, h4⟩
end Go.Proofs.Ytabfajhflaladaa.Sim
