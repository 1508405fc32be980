/- ViewSteps: at every input the law returns true, and each argument reads afterwards as it read before. -/
import Derived.Test.YtihjmnhjjpdenaaMSimBr
import Derived.SizedLaws
import Derived.Test.YtihjmnhjjpdenaaMVwW
import Derived.Test.YtihjmnhjjpdenaaRows
import Derived.ProofKit
import Derived.OpenShut
import Derived.ShutString
import Derived.ChangeOld
import Derived.Below
section
namespace Go.Proofs.Ytihjmnhjjpdenaa.Sim
open Go Go.RowKit Go.Deep Go.ChangeShapes Go.WideShapes
set_option linter.unusedVariables false
/-- All that it holds has room. -/
def Sized {H : Type} (P : Program) (t : TypeId) (d : DataW H) : Prop := ∀ n ∈ d.weights P t, n ≤ reachBytes
/-- What is read at type t is a datum of α, which is ok where all has room. -/
def OpensD (P : Program) (t : TypeId) {α : Type} (f : α → List D) (ok : α → Prop) : Prop :=
  ∀ (H : Type) (enc : TypeId × Value → H) (w : World) (base : Nat) (spare : Nat → Bool) (held : Bool) (fuel : Nat) (cs : List Value) (x : DataW H × List MemPlace),
    DataW.trod enc P w base spare held fuel t cs = some x → ∃ a : α, Cells w (Lo w.heap.size) (f a) cs ∧ (Sized P t x.1 → ok a)
theorem OpensD.mono {P : Program} {t : TypeId} {α : Type} {f : α → List D} {ok ok' : α → Prop} (h : OpensD P t f ok) (hk : ∀ a, ok a → ok' a) : OpensD P t f ok' := by
  intro H enc w base spare held fuel cs x hx
  obtain ⟨a, h1, h2⟩ := h _ _ _ _ _ _ _ _ _ hx
  exact ⟨a, h1, fun h3 => hk a (h2 h3)⟩
theorem OpensD.map {P : Program} {t : TypeId} {α β : Type} {f : α → List D} {ok : α → Prop} (h : OpensD P t f ok) (g : α → β) {f' : β → List D} {ok' : β → Prop} (hf : ∀ a, f' (g a) = f a) (hk : ∀ a, ok a → ok' (g a)) : OpensD P t f' ok' := by
  intro H enc w base spare held fuel cs x hx
  obtain ⟨a, h1, h2⟩ := h _ _ _ _ _ _ _ _ _ hx
  exact ⟨g a, by rw [hf]; exact h1, fun h3 => hk a (h2 h3)⟩
theorem OpensD.int {P : Program} {t : TypeId} (ht : P.underlying t = some (.int .i64)) : OpensD P t (fun x : Int => [D.at (.int .i64 x)]) (fun x => -9223372036854775808 ≤ x ∧ x ≤ 9223372036854775807) := by
  intro H enc w base spare held fuel cs x h
  obtain ⟨n, rfl, rfl, hw⟩ := DataW.trod_int ht h
  refine ⟨n, by simp only [Cells, D.is]; exact ⟨_, _, rfl, ⟨rfl, rfl⟩, rfl⟩, fun _ => ?_⟩
  have := i64_of_wf hw
  exact this
theorem OpensD.u8 {P : Program} {t : TypeId} (ht : P.underlying t = some (.int .u8)) : OpensD P t (fun x : UInt8 => [D.at (.int .u8 x.toNat)]) (fun _ => True) := by
  intro H enc w base spare held fuel cs x h
  obtain ⟨n, rfl, rfl, hw⟩ := DataW.trod_int ht h
  have hn : 0 ≤ n ∧ n ≤ 255 := by simpa [Lit.wf, IntKind.min, IntKind.max, IntKind.signed, IntKind.bits] using hw
  obtain ⟨m, rfl⟩ := Int.eq_ofNat_of_zero_le hn.1
  refine ⟨UInt8.ofNat m, ?_, fun _ => trivial⟩
  simp only [Cells, D.is]
  refine ⟨_, _, rfl, ⟨?_, rfl⟩, rfl⟩
  rw [UInt8.toNat_ofNat', Nat.mod_eq_of_lt (by omega)]
theorem sized_all {H : Type} {P : Program} {e : TypeId} : ∀ {l : List (DataW H)} {i : Nat} (h : i < l.length), ∀ n ∈ l[i].weights P e, n ∈ DataW.weightsAll P e l
  | d :: l, 0, h, n, hn => by simp only [DataW.weightsAll, List.mem_append]; exact .inl hn
  | d :: l, i + 1, h, n, hn => by simp only [DataW.weightsAll, List.mem_append]; exact .inr (sized_all (by simpa using h) n hn)
/-- A SLICE. -/
theorem OpensD.slice {P : Program} {t e : TypeId} {k : Nat} {α : Type} {f : α → List D} {ok : α → Prop} (ht : P.underlying t = some (.slice e)) (hC : P.cellsOf e = k) (hpos : 0 < k) (hk : ∀ a, (f a).length = k) (he : OpensD P e f ok) : OpensD P t (fun l : List α => [D.sl k (l.map f)]) (fun l => l.length * P.bytesOf e ≤ reachBytes ∧ ∀ a ∈ l, ok a) := by
  intro H enc w base spare held fuel cs x h
  have hO : Opens P e (E k) (fun d e' => ∃ a, e'.cs = f a ∧ (Sized P e d → ok a)) := by
    intro H enc w base spare held fuel cs x h
    obtain ⟨a, h1, h2⟩ := he _ _ _ _ _ _ _ _ _ h
    exact ⟨⟨f a, hk a⟩, h1, a, rfl, h2⟩
  obtain ⟨l', ⟨v, rfl, hl⟩, hb⟩ := Opens.slice (α := E k) ht hC hpos hO _ _ _ _ _ _ _ _ _ h
  have key : ∃ la : List α, l'.map E.cs = la.map f ∧ (Sized P t x.1 → la.length * P.bytesOf e ≤ reachBytes ∧ ∀ a ∈ la, ok a) := by
    rcases hb with ⟨_, rfl⟩ | ⟨elems, spare, hx, hle, hi⟩
    · exact ⟨[], rfl, fun _ => ⟨by simp, fun a h => by cases h⟩⟩
    · obtain ⟨la, hlen, hla⟩ := list_of (fun i (a : α) => ∀ (h : i < l'.length) (h' : i < elems.length), l'[i].cs = f a ∧ (Sized P e elems[i] → ok a)) l'.length fun i hi' => by
        obtain ⟨a, h1, h2⟩ := hi i hi' (by omega)
        exact ⟨a, fun _ _ => ⟨h1, h2⟩⟩
      refine ⟨la, ?_, fun hs => ?_⟩
      · apply List.ext_getElem
        · simp [hlen]
        · intro i h1 h2
          simp only [List.length_map] at h1 h2
          rw [List.getElem_map, List.getElem_map]
          exact (hla i h2 h1 (by omega)).1
      · rw [hx] at hs
        have hw : ∀ n, n = (elems.length + spare.length) * P.bytesOf e ∨ n ∈ DataW.weightsAll P e elems → n ≤ reachBytes := fun n hn => hs n (by
          simp only [DataW.weights, ht, List.mem_cons, List.mem_append]
          exact hn.elim .inl fun h => .inr (.inl h))
        refine ⟨?_, fun a ha => ?_⟩
        · have h1 := hw _ (.inl rfl)
          have h2 : la.length * P.bytesOf e ≤ (elems.length + spare.length) * P.bytesOf e := Nat.mul_le_mul_right _ (by omega)
          omega
        · obtain ⟨i, hi', rfl⟩ := List.getElem_of_mem ha
          exact (hla i hi' (by omega) (by omega)).2 fun n hn => hw n (.inr (sized_all (by omega) n hn))
  obtain ⟨la, h1, h2⟩ := key
  refine ⟨la, ?_, h2⟩
  simp only [Cells]
  exact ⟨_, _, rfl, sl_iff.2 ⟨l', h1, hl⟩, rfl⟩
theorem cells_append {w : World} {S : Nat → Prop} : ∀ {c1 c2 : List D} {a b : List Value}, Cells w S c1 a → Cells w S c2 b → Cells w S (c1 ++ c2) (a ++ b)
  | [], c2, a, b, h, k => by simp only [Cells] at h; subst h; exact k
  | d :: c1, c2, a, b, h, k => by
    simp only [Cells] at h
    obtain ⟨x, r, rfl, h1, h2⟩ := h
    simp only [List.cons_append, Cells]
    exact ⟨x, r ++ b, rfl, h1, cells_append h2 k⟩
/-- A field of a struct. -/
theorem part_ok {P : Program} {t : TypeId} {fs : Array Field} (ht : P.underlying t = some (.struct fs)) {H : Type} {enc : TypeId × Value → H} {w : World} {base : Nat} {spare : Nat → Bool} {held : Bool} {n : Nat} {cs : List Value} {d : DataW H} {xs : List (DataW H × List MemPlace)} (hx : d = .agg (xs.map (·.1)))
    (hf : ∀ (j : Nat) (f : Field), fs[j]? = some f → DataW.trod enc P w base spare held n f.type ((cs.drop f.offset).take (P.cellsOf f.type)) = xs[j]?) {j : Nat} {f : Field} (hj : fs[j]? = some f) (hl : j < xs.length) {α : Type} {g : α → List D} {ok : α → Prop} (ho : OpensD P f.type g ok) :
    ∃ a : α, Cells w (Lo w.heap.size) (g a) ((cs.drop f.offset).take (P.cellsOf f.type)) ∧ (Sized P t d → ok a) := by
  have h1 := hf j f hj
  rw [List.getElem?_eq_getElem hl] at h1
  obtain ⟨a, h2, h3⟩ := ho _ _ _ _ _ _ _ _ _ h1
  refine ⟨a, h2, fun hs => h3 fun m hm => hs m ?_⟩
  rw [hx]
  simp only [DataW.weights, ht]
  refine DataW.weights_mem_each (j := j) (t := f.type) (d := xs[j].1) ?_ ?_ m hm
  · rw [List.getElem?_map, Array.getElem?_toList, hj]; rfl
  · rw [List.getElem?_map, List.getElem?_eq_getElem hl]; rfl
theorem sized_of {H : Type} {P : Program} {ts : List TypeId} {ds : List (DataW H)} (h : (DataW.weightsEach P ts ds).all (· ≤ reachBytes) = true) {j : Nat} {t : TypeId} {d : DataW H} (ht : ts[j]? = some t) (hd : ds[j]? = some d) : Sized P t d := fun n hn => by
  simpa using List.all_eq_true.1 h n (DataW.weights_mem_each ht hd n hn)
end Go.Proofs.Ytihjmnhjjpdenaa.Sim
end
section
namespace Go.Proofs.Ytihjmnhjjpdenaa.Sim
open Go Go.RowKit Go.ChangeShapes Go.WideShapes
set_option linter.unusedVariables false
set_option linter.unusedSimpArgs false
set_option maxRecDepth 100000
theorem cells_one {w : World} {S : Nat → Prop} {d : D} {v : Value} (h : Cells w S [d] [v]) : d.is w S v := by
  simp only [Cells] at h
  obtain ⟨x, r, e, h1, _⟩ := h
  cases e
  exact h1
def ok_ints (l : List Int) : Prop := ∀ x ∈ l, I64 x
def ok_bytes (l : List UInt8) : Prop := l.length ≤ 140737488355328
def ok_view (x : List Int × List (List (List Int))) : Prop := ok_ints x.1 ∧ inQ x.2
theorem bytes_tU8 : Try.prog.bytesOf 5 = 1 := by kernel_rfl
theorem opens_bytes : OpensD Try.prog 22 (fun l : List UInt8 => [dBytes l]) ok_bytes :=
  (OpensD.slice (f := eB) Try.underlying22 (by kernel_rfl) (by decide) (fun _ => rfl) (OpensD.u8 Try.underlying5)).mono fun l h => by
    have := h.1
    simp only [bytes_tU8, reachBytes] at this
    show l.length ≤ 140737488355328
    omega
theorem opens_ints : OpensD Try.prog 29 (fun l : List Int => [dInts l]) ok_ints :=
  (OpensD.slice (f := eI) Try.underlying29 (by kernel_rfl) (by decide) (fun _ => rfl) (OpensD.int Try.underlying3)).mono fun l h x hx => h.2 x hx
theorem opens_rows : OpensD Try.prog 28 (fun l : List (List Int) => [dRows l]) (fun l => ∀ x ∈ l, ok_ints x) :=
  (OpensD.slice (f := eR) Try.underlying28 (by kernel_rfl) (by decide) (fun _ => rfl) opens_ints).mono fun l h x hx => h.2 x hx
theorem opens_qs : OpensD Try.prog 26 (fun l : List (List (List Int)) => [dQs l]) inQ :=
  (OpensD.slice (f := eQ) Try.underlying26 (by kernel_rfl) (by decide) (fun _ => rfl) opens_rows).mono fun l h q hq x hx n hn => h.2 q hq x hx n hn
theorem opens_view : OpensD Try.prog 32 eV ok_view := by
  intro H enc w base spare held fuel cs x h
  obtain ⟨n, xs, hl, hxl, hx, hf⟩ := Opens.parts Try.underlying32 h
  have hl' : cs.length = 2 := hl.trans (by kernel_rfl)
  have hxl' : xs.length = 2 := hxl
  have e_tInts : Try.prog.cellsOf 29 = 1 := by kernel_rfl
  have e_tQs : Try.prog.cellsOf 26 = 1 := by kernel_rfl
  obtain ⟨a0, c0, k0⟩ := part_ok Try.underlying32 hx hf (j := 0) rfl (by omega) (opens_ints)
  obtain ⟨a1, c1, k1⟩ := part_ok Try.underlying32 hx hf (j := 1) rfl (by omega) (opens_qs)
  match cs, hl', c0, c1 with
  | [u0, u1], _, c0, c1 =>
    simp only [List.getElem_toArray, List.getElem_cons_zero, List.getElem_cons_succ, e_tInts, e_tQs, List.drop_succ_cons, List.drop_zero, List.take_succ_cons, List.take_zero] at c0 c1
    refine ⟨(a0, a1), cells_append c0 (c1), fun hs => ?_⟩
    have k0 := k0 hs
    have k1 := k1 hs
    exact ⟨k0, k1⟩
section
variable {m : M} {hd : H} {w : World} {S : Nat → Prop}
theorem vrs_nil : VRs m hd w S [] [] := by simp only [VRs]
theorem vrs_cons {x : V} {l : List V} {u : Value} {r : List Value} (h : VR m hd w S x u) (h2 : VRs m hd w S l r) : VRs m hd w S (x :: l) (u :: r) := by
  simp only [VRs]
  exact ⟨_, _, rfl, h, h2⟩
theorem vr_d {d : D} {u : Value} (h : d.is w S u) : VR m hd w S (.d d) u := by
  simp only [VR]
  exact h
theorem vr_int {k : IntKind} {n : Int} : VR m hd w S (.d (.at (.int k n))) (.int k n) := by
  simp [VR, D.is, Value.oneCell']
theorem vr_cells {c : List D} {cs : Array Value} (h : Cells w S c cs.toList) : VR m hd w S (.ag (c.map V.d)) (.agg cs) := by
  simp only [VR]
  exact ⟨cs.toList, by simp, cells_VRs h, h.one⟩
end
end Go.Proofs.Ytihjmnhjjpdenaa.Sim
end
section
namespace Go.Proofs.Ytihjmnhjjpdenaa.viewSteps
open Go Go.RowKit Go.Deep Go.ChangeShapes Go.WideShapes Go.ChangeAt
open Go.ChangeMaps (open_string shut_string)
set_option linter.unusedVariables false

theorem own : ownKnob Try.prog.godebug = none := by kernel_rfl
theorem laidOut : laidOutB Try.prog = true := by kernel_rfl
theorem args (w : World) (v0 : Value) (x0 : List UInt8) (h0 : (Sim.dBytes x0).is w (Lo w.heap.size) v0) (k0 : Sim.ok_bytes x0)
    (cs1 : Array Value) (x1 : (List Int × List (List (List Int)))) (h1 : Sim.Cells w (Lo w.heap.size) (Sim.eV x1) cs1.toList) (k1 : Sim.ok_view x1)
    (v2 : Value) (x2 : List Int) (h2 : (Sim.dInts x2).is w (Lo w.heap.size) v2) (k2 : Sim.ok_ints x2)
    (v3 : Value) (x3 : List Int) (h3 : (Sim.dInts x3).is w (Lo w.heap.size) v3) (k3 : Sim.ok_ints x3) : Calls Try.prog 5 #[v0, .agg cs1, v2, v3] w (Sim.IsTrueS w) := by
  have := Sim.calls_true (us := [v0, .agg cs1, v2, v3]) (hd := fun _ => .bool true) ((fun (s : List UInt8) (hs : Sim.ok_bytes s) (raw : List Int × List (List (List Int))) (hr : Sim.ok_view raw) (servers : List Int) (h1 : Sim.ok_ints servers) (part : List Int) (h2 : Sim.ok_ints part) => Sim.lawSteps25 s hs raw hr.1 hr.2 servers part h1 h2) x0 k0 x1 k1 x2 k2 x3 k3) (Sim.vrs_cons (Sim.vr_d h0) (Sim.vrs_cons (Sim.vr_cells h1) (Sim.vrs_cons (Sim.vr_d h2) (Sim.vrs_cons (Sim.vr_d h3) (Sim.vrs_nil)))))
  simpa using this

set_option maxRecDepth 100000 in
theorem lifted (os : Os) (started : os.Started) (H : Type) (enc : TypeId × Value → H) :
    ReturnsInHanded {} Try.checked os 5 .any (Rows.viewStepsSpec.pre6 enc Try.prog Try.f5 Rows.viewStepsRow.domain false) (Rows.viewStepsSpec.post enc Try.prog Try.f5 false true false false) := by
  refine returnsInHanded_of_change_sized (C := Try.checked) own started (by kernel_rfl) Try.func5
    (ChangeSpec.witness6 (enc := enc) (C := Try.checked) false ⟨#[], #[.slice none 0 0, .agg #[.slice none 0 0, .slice none 0 0], .slice none 0 0, .slice none 0 0], []⟩ 8 (by kernel_rfl) (by kernel_rfl) (by kernel_rfl) (by kernel_rfl)) ?_
  intro W base args ds gs before hval0 hW hcnd hsz0 _
  have hsz : (DataW.weightsEach Try.prog (Try.f5.params.toList ++ Rows.viewStepsSpec.plain.varTypes Try.prog) (ds ++ gs)).all (· ≤ reachBytes) = true := hsz0
  have hval : ∀ (j : Nat) t v, Try.f5.params[j]? = some t → args[j]? = some v → Value.okWide Try.prog W .any base t v := hval0
  have hW' := hW
  obtain ⟨p, q, hA0, hV, rfl, hfz, hnd⟩ := hW
  have hA : DataW.TrodAll enc Try.prog W 0 (fun _ => true) true Try.f5.params.toList args.toList ds p := hA0
  rw [Try.params5] at hA hval hsz
  obtain ⟨v0, vs0, d0, ds0, p0, q0, hargs, rfl, rfl, h0, r0⟩ := trodAll_cons hA
  obtain ⟨v1, vs1, d1, ds1, p1, q1, rfl, rfl, rfl, h1, r1⟩ := trodAll_cons r0
  obtain ⟨v2, vs2, d2, ds2, p2, q2, rfl, rfl, rfl, h2, r2⟩ := trodAll_cons r1
  obtain ⟨v3, vs3, d3, ds3, p3, q3, rfl, rfl, rfl, h3, r3⟩ := trodAll_cons r2
  obtain ⟨rfl, rfl, rfl⟩ := trodAll_nil r3
  obtain rfl : args = #[v0, v1, v2, v3] := by cases args; simp_all
  obtain ⟨rfl, rfl⟩ := trodVars_none hV
  obtain ⟨a0, len0, cap0, rfl⟩ := okWide_slice Try.underlying22 (hval 0 22 v0 rfl rfl)
  have k0 := h0
  have lt0 : ∀ x ∈ p0, x.block < W.heap.size := by obtain ⟨m, hm⟩ := k0; exact DataW.trod_lt m _ _ _ hm
  obtain ⟨fuel0, hf0⟩ := h0
  obtain ⟨x0, hx0, hk0⟩ := Sim.opens_bytes _ _ _ _ _ _ _ _ _ hf0
  simp only [Value.cells] at hx0
  have ok0 := hk0 (Sim.sized_of hsz (j := 0) rfl rfl)
  obtain ⟨cs1, rfl, hsz1⟩ := okWide_struct Try.underlying32 (hval 1 32 v1 rfl rfl)
  have k1 := h1
  have lt1 : ∀ x ∈ p1, x.block < W.heap.size := by obtain ⟨m, hm⟩ := k1; exact DataW.trod_lt m _ _ _ hm
  obtain ⟨fuel1, hf1⟩ := h1
  obtain ⟨x1, hx1, hk1⟩ := Sim.opens_view _ _ _ _ _ _ _ _ _ hf1
  simp only [Value.cells] at hx1
  have ok1 := hk1 (Sim.sized_of hsz (j := 1) rfl rfl)
  obtain ⟨a2, len2, cap2, rfl⟩ := okWide_slice Try.underlying29 (hval 2 29 v2 rfl rfl)
  have k2 := h2
  have lt2 : ∀ x ∈ p2, x.block < W.heap.size := by obtain ⟨m, hm⟩ := k2; exact DataW.trod_lt m _ _ _ hm
  obtain ⟨fuel2, hf2⟩ := h2
  obtain ⟨x2, hx2, hk2⟩ := Sim.opens_ints _ _ _ _ _ _ _ _ _ hf2
  simp only [Value.cells] at hx2
  have ok2 := hk2 (Sim.sized_of hsz (j := 2) rfl rfl)
  obtain ⟨a3, len3, cap3, rfl⟩ := okWide_slice Try.underlying29 (hval 3 29 v3 rfl rfl)
  have k3 := h3
  have lt3 : ∀ x ∈ p3, x.block < W.heap.size := by obtain ⟨m, hm⟩ := k3; exact DataW.trod_lt m _ _ _ hm
  obtain ⟨fuel3, hf3⟩ := h3
  obtain ⟨x3, hx3, hk3⟩ := Sim.opens_ints _ _ _ _ _ _ _ _ _ hf3
  simp only [Value.cells] at hx3
  have ok3 := hk3 (Sim.sized_of hsz (j := 3) rfl rfl)
  clear hA0 hval0
  have hw := args W (.slice a0 len0 cap0) x0 (Sim.cells_one (by simpa using hx0)) ok0 cs1 x1 hx1 ok1 (.slice a2 len2 cap2) x2 (Sim.cells_one (by simpa using hx2)) ok2 (.slice a3 len3 cap3) x3 (Sim.cells_one (by simpa using hx3)) ok3
  refine hw.mono fun e W' ⟨he, bel⟩ => ?_
  subst he
  exact ⟨_, rfl, _, _, _, [], _, [], hW', trodAll_mk1 (shut_bool Try.underlying4 _), (trodAll_cons_mk (Below.trod laidOut (by kernel_rfl) (of_decide_eq_true (by kernel_rfl)) k0 bel lt0) (trodAll_cons_mk (Below.trod laidOut (by kernel_rfl) (of_decide_eq_true (by kernel_rfl)) k1 bel lt1) (trodAll_cons_mk (Below.trod laidOut (by kernel_rfl) (of_decide_eq_true (by kernel_rfl)) k2 bel lt2) (trodAll_cons_mk (Below.trod laidOut (by kernel_rfl) (of_decide_eq_true (by kernel_rfl)) k3 bel lt3) trodAll_mk0)))), rfl, bel.frame _, fun h => by cases h⟩

theorem over : Rows.viewStepsRow.holds Try.pinned (OpenSpec.ofChange Rows.viewStepsSpec) :=
  OpenClaim.holds_of_wide 5 Try.f5 rfl rfl rfl rfl rfl rfl rfl ⟨rfl, rfl, rfl, rfl, rfl⟩ rfl rfl rfl rfl rfl (by kernel_rfl) Try.func5 (by kernel_rfl)
    (of_decide_eq_true (by kernel_rfl)) (by unfold Func.isWrapper; first | (rw [if_pos (by decide +kernel)]; kernel_rfl) | (rw [if_neg (by decide +kernel)]; exact ⟨rfl, rfl⟩))
    (fun os started H enc _ => lifted os started H enc)

theorem proved : Rows.ViewStepsSaid := over
#print axioms proved
end Go.Proofs.Ytihjmnhjjpdenaa.viewSteps
end
