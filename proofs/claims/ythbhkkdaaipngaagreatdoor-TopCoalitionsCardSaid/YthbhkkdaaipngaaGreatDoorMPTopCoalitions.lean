/- topCoalitions: at every input the law returns true, and each argument reads afterwards as it read before. -/
import Derived.Test.YthbhkkdaaipngaaGreatDoorMRep
import Derived.ProofKit
import Derived.Deep.Slices
import Derived.Lib.SmallJoins
import Derived.Test.YthbhkkdaaipngaaGreatDoorMSimZ
import Derived.Below
import Derived.Test.YthbhkkdaaipngaaGreatDoorRows
import Derived.Look8
import Derived.LaidLaws
import Derived.Lay
import Derived.MakeChecks
import Derived.FnData
import Derived.LaidHandle
import Derived.ChangeSame
import Derived.WideShapes
import Derived.Test.YthbhkkdaaipngaaGreatDoorMTpFc
import Derived.Test.YthbhkkdaaipngaaGreatDoorTie
import Derived.Test.YthbhkkdaaipngaaGreatDoorCards
import Derived.LaidMore
import Derived.Stop.Joined
import Derived.SevenTiedAt
import Derived.OpenShut
import Derived.ShutString
import Derived.ChangeOld
import Derived.SizedLaws
section
namespace Go.Proofs.YthbhkkdaaipngaaGreatDoor
open Go Go.RowKit Go.Deep Go.ChangeShapes Go.WideShapes
set_option linter.unusedVariables false

/-- What is read at type t is a datum of α, of a measure that what was read bounds. -/
def Opens (P : Program) (t : TypeId) (α : Type) [Rep α] (bulk : {H : Type} → DataW H → α → Prop) : Prop :=
  ∀ (H : Type) (enc : TypeId × Value → H) (w : World) (base : Nat) (spare : Nat → Bool) (held : Bool) (fuel : Nat) (cs : List Value) (x : DataW H × List MemPlace),
    DataW.trod enc P w base spare held fuel t cs = some x → ∃ a : α, Rep.is w (Lo w.heap.size) cs a ∧ bulk x.1 a

theorem i64_of_wf {x : Int} (h : (Lit.int .i64 x).wf = true) : I64 x := by simpa [Lit.wf, IntKind.min, IntKind.max, IntKind.signed, IntKind.bits] using h
theorem Opens.int {P : Program} {t : TypeId} (ht : P.underlying t = some (.int .i64)) : Opens P t Int (fun _ _ => True) := by
  intro H enc w base spare held fuel cs x h
  obtain ⟨n, rfl, rfl, hw⟩ := DataW.trod_int ht h
  exact ⟨n, ⟨rfl, i64_of_wf hw⟩, trivial⟩

/-- The measure of a slice: its elements', one by one. -/
def sliceBulk {α : Type} (bulk : {H : Type} → DataW H → α → Prop) {H : Type} (d : DataW H) (l : List α) : Prop :=
  (d = .nil ∧ l = []) ∨ ∃ elems spare, d = .slice elems spare ∧ elems.length = l.length ∧ ∀ i (h : i < l.length) (h' : i < elems.length), bulk elems[i] l[i]

theorem chunks_of {α : Type} [Rep α] {w : World} {S : Nat → Prop} : ∀ (l : List α) (f : Nat → List Value), (∀ i (h : i < l.length), Rep.is w S (f i) l[i]) → Chunks w S ((List.range l.length).flatMap f) l
  | [], f, _ => rfl
  | a :: l, f, h => by
    refine ⟨f 0, (List.range l.length).flatMap (fun i => f (i + 1)), ?_, h 0 (by simp), chunks_of l _ fun i hi => h (i + 1) (by simpa using hi)⟩
    rw [List.length_cons, List.range_succ_eq_map, List.flatMap_cons, List.flatMap_map]

theorem list_of {β : Type} (p : Nat → β → Prop) : ∀ n : Nat, (∀ i, i < n → ∃ y, p i y) → ∃ l : List β, l.length = n ∧ ∀ i (h : i < l.length), p i l[i]
  | 0, _ => ⟨[], rfl, fun i h => absurd h (Nat.not_lt_zero _)⟩
  | n + 1, h => by
    obtain ⟨l, hl, hp⟩ := list_of p n fun i hi => h i (by omega)
    obtain ⟨y, hy⟩ := h n (Nat.lt_succ_self n)
    refine ⟨l ++ [y], by simp [hl], fun i hi => ?_⟩
    rcases Nat.lt_or_ge i l.length with h1 | h1
    · rw [List.getElem_append_left h1]; exact hp i h1
    · have e : i = l.length := by simp at hi; omega
      subst e
      rw [List.getElem_append_right (Nat.le_refl _)]
      simp only [Nat.sub_self, List.getElem_cons_zero]
      rw [hl]; exact hy
/-- The cells of elements that lie one behind the other. -/
theorem range_of {w : World} {g off sz : Nat} : ∀ (l : List (List Value)), (∀ i (h : i < l.length), (l[i]).length = sz ∧ w.rangeAt g (off + i * sz) l[i]) → w.rangeAt g off l.flatten
  | [], _ => fun j v hv => by simp at hv
  | c :: l, h => by
    have h0 := h 0 (by simp)
    have ih := range_of (w := w) (g := g) (off := off + sz) (sz := sz) l fun i hi => by
      have := h (i + 1) (by simpa using hi)
      rw [List.getElem_cons_succ] at this
      refine ⟨this.1, ?_⟩
      have e : off + sz + i * sz = off + (i + 1) * sz := by rw [Nat.add_mul, Nat.one_mul]; omega
      rw [e]; exact this.2
    intro j v hv
    rw [List.flatten_cons] at hv
    have hl : c.length = sz := h0.1
    rcases Nat.lt_or_ge j c.length with hj | hj
    · rw [List.getElem?_append_left hj] at hv
      have := h0.2 j v hv
      simpa using this
    · rw [List.getElem?_append_right hj] at hv
      have := ih (j - c.length) v hv
      rw [show off + sz + (j - c.length) = off + j by omega] at this
      exact this
theorem chunks_flat {α : Type} [Rep α] {w : World} {S : Nat → Prop} : ∀ (l : List (List Value × α)), (∀ i (h : i < l.length), Rep.is w S (l[i]).1 (l[i]).2) → Chunks w S (l.map (·.1)).flatten (l.map (·.2))
  | [], _ => rfl
  | a :: l, h => ⟨a.1, _, rfl, h 0 (by simp), chunks_flat l fun i hi => h (i + 1) (by simpa using hi)⟩

theorem Opens.slice {P : Program} {t e : TypeId} {α : Type} [Rep α] {bulk : {H : Type} → DataW H → α → Prop} (ht : P.underlying t = some (.slice e)) (hC : P.cellsOf e = Rep.sz α) (hpos : 0 < Rep.sz α) (he : Opens P e α bulk) : Opens P t (List α) (sliceBulk bulk) := by
  intro H enc w base spare held fuel cs x h
  rcases open_slice ht h with ⟨rfl, rfl⟩ | ⟨a, len, cap, m, n, D, Pl, rfl, hb, hl, hm, hmm, rfl, hi⟩
  · exact ⟨[], ⟨_, rfl, Lst.nil _ _ _ (Nat.zero_le _)⟩, .inl ⟨rfl, rfl⟩⟩
  · have hlm : len ≤ m := by rw [hmm]; split <;> omega
    obtain ⟨ys, hlen, hy⟩ := list_of (fun i (y : List Value × α) => w.cells? base (a.add (i * P.cellsOf e)) (P.cellsOf e) = some y.1 ∧ Rep.is w (Lo w.heap.size) y.1 y.2 ∧ bulk (D i) y.2) len fun i hil => by
      obtain ⟨cs', h1, h2⟩ := hi i (by omega)
      obtain ⟨y, h3, h4⟩ := he _ _ _ _ _ _ _ _ _ h2
      exact ⟨(cs', y), h1, h3, h4⟩
    rw [hC] at hy
    refine ⟨ys.map (·.2), ⟨_, rfl, (ys.map (·.1)).flatten, some a, cap, by rw [List.length_map, hlen], by rw [List.length_map, hlen]; exact hl, hm, chunks_flat ys fun i h => (hy i h).2.1, fun h0 => ?_⟩, ?_⟩
    · rw [List.length_map] at h0
      obtain ⟨b, off, spot⟩ := a
      have h1 := (hy 0 h0).1
      obtain ⟨_, hcl, hat⟩ := World.cells?_some h1
      have hc0 := hat 0 hpos
      rw [List.getElem?_eq_getElem (by omega)] at hc0
      have hspot : spot = none := by
        have := World.cell?_spot hc0
        simpa [Addr.add] using this
      subst hspot
      refine ⟨b, off, rfl, ?_, range_of (sz := Rep.sz α) _ fun i hi => ?_⟩
      · have := block_lt_of_cell hc0
        simpa [Addr.add] using this
      · have hi' : i < ys.length := by simpa using hi
        obtain ⟨_, hcl, hat⟩ := World.cells?_some (hy i hi').1
        rw [List.getElem_map]
        refine ⟨hcl, fun j v hv => ?_⟩
        have hj : j < Rep.sz α := by have := (List.getElem?_eq_some_iff.1 hv).1; omega
        have := hat j hj
        rw [hv, Addr.add_lit, Addr.add_lit] at this
        exact this
    · refine .inr ⟨_, _, rfl, by simp [hlen], fun i h h' => ?_⟩
      have hi' : i < ys.length := by simpa using h
      have := (hy i hi').2.2
      simpa using this

/-- A struct's cells, field by field. -/
theorem Opens.parts {P : Program} {t : TypeId} {fs : Array Field} (ht : P.underlying t = some (.struct fs)) {H : Type} {enc : TypeId × Value → H} {w : World} {base : Nat} {spare : Nat → Bool} {held : Bool} {fuel : Nat} {cs : List Value} {x : DataW H × List MemPlace}
    (h : DataW.trod enc P w base spare held fuel t cs = some x) :
    ∃ (n : Nat) (xs : List (DataW H × List MemPlace)), cs.length = P.cellsOf t ∧ xs.length = fs.size ∧ x.1 = .agg (xs.map (·.1)) ∧ ∀ (j : Nat) (f : Field), fs[j]? = some f → DataW.trod enc P w base spare held n f.type ((cs.drop f.offset).take (P.cellsOf f.type)) = xs[j]? := by
  obtain ⟨xs, n, _, hx, hl, hxl, hf⟩ := DataW.trod_struct ht h
  exact ⟨n, xs, hl, hxl, by rw [hx], hf⟩
/-- A struct of one number. -/
theorem Opens.one {P : Program} {t e : TypeId} {f : Field} (ht : P.underlying t = some (.struct #[f])) (hf : f.type = e) (he : P.underlying e = some (.int .i64)) (ho : f.offset = 0) (hC : P.cellsOf t = 1) (hC2 : P.cellsOf e = 1) : Opens P t Int (fun _ _ => True) := by
  intro H enc w base spare held fuel cs x h
  obtain ⟨n, xs, hl, hxl, hx, hff⟩ := Opens.parts ht h
  have h0 := hff 0 f rfl
  subst hf
  rw [ho, hC2, List.drop_zero, List.take_of_length_le (by omega)] at h0
  match xs, hxl with
  | [y], _ => exact Opens.int he _ _ _ _ _ _ _ _ _ h0
end Go.Proofs.YthbhkkdaaipngaaGreatDoor
end
section
namespace Go.Proofs.YthbhkkdaaipngaaGreatDoor.Sim
open Go Go.RowKit Go.Deep
/-- It returns true, and nothing that was there turns. -/
def IsTrueS (w : World) (e : Ending) (w' : World) : Prop := e = .returned (.bool true) ∧ Below w.heap.size w w'
set_option linter.unusedVariables false
theorem rows_of {α : Type} [Rep α] (f : α → List D) (hf : ∀ w S cs x, Rep.is w S cs x → Cells w S (f x) cs) {w : World} {S : Nat → Prop} : ∀ (l : List α) (xs : List Value), Chunks w S xs l → Rows w S (Rep.sz α) (l.map f) xs
  | [], xs, h => by simp only [Rows, List.map_nil]; exact h
  | a :: l, xs, h => by
    obtain ⟨x, r, rfl, h1, h2⟩ := h
    simp only [Rows, List.map_cons]
    have hc := hf _ _ _ _ h1
    exact ⟨x, r, rfl, by rw [← hc.len]; exact Rep.len h1, hc, rows_of f hf l r h2⟩
/-- A list that lies in memory is data. -/
theorem lst_sl {α : Type} [Rep α] (f : α → List D) (hf : ∀ w S cs x, Rep.is w S cs x → Cells w S (f x) cs) {w : World} {S : Nat → Prop} {v : Value} {l : List α} (h : Lst w S v l) : (D.sl (Rep.sz α) (l.map f)).is w S v := by
  obtain ⟨xs, a, cap, rfl, h1, h2, h3, h4⟩ := h
  simp only [D.is]
  exact ⟨a, cap, xs, by rw [List.length_map], by rw [List.length_map]; exact h1, h2, rows_of f hf l xs h3, fun h0 => h4 (by rw [List.length_map] at h0; exact h0)⟩
theorem int_cells : ∀ (w : World) (S : Nat → Prop) (cs : List Value) (x : Int), Rep.is w S cs x → Cells w S [.at (.int .i64 x)] cs := by
  rintro w S cs x ⟨rfl, _⟩
  simp only [Cells, D.is]
  exact ⟨_, _, rfl, ⟨rfl, rfl⟩, rfl⟩
theorem u8_cells : ∀ (w : World) (S : Nat → Prop) (cs : List Value) (x : UInt8), Rep.is w S cs x → Cells w S [.at (.int .u8 x.toNat)] cs := by
  rintro w S cs x rfl
  simp only [Cells, D.is]
  exact ⟨_, _, rfl, ⟨rfl, rfl⟩, rfl⟩
theorem list_cells {α : Type} [Rep α] (f : α → List D) (hf : ∀ w S cs x, Rep.is w S cs x → Cells w S (f x) cs) : ∀ (w : World) (S : Nat → Prop) (cs : List Value) (l : List α), Rep.is w S cs l → Cells w S [.sl (Rep.sz α) (l.map f)] cs := by
  rintro w S cs l ⟨v, rfl, h⟩
  simp only [Cells]
  exact ⟨_, _, rfl, lst_sl f hf h, rfl⟩
/-- WHAT A STATEMENT ASKS. -/
theorem calls_true {P : Program} {f : FuncId} {xs : List V} {us : List Value} {w : World} {hd : H} (hgk : Gk w (fun _ => False) := by intro g hg; simp [GL] at hg) (h : Does P f xs [] (B true) [] []) (hv : VRs M0 hd w (Lo w.heap.size) xs us) : Calls P f us.toArray w (IsTrueS w) := by
  have hm : Mem (ups M0 []) hd w (Lo w.heap.size) (fun _ => False) w.heap.size :=
    ⟨fun i o h => (by simp only [ups] at h; cases h), fun i j oi oj b _ h => (by simp only [ups] at h; cases h), fun b h => h, Nat.le_refl _, fun b h => h.elim⟩
  refine (h w hd _ _ us hgk hm hv).mono ?_
  rintro e w' ⟨u, hd', S', rfl, hfr, _, hu, _⟩
  have : u = .bool true := by simp only [B, VR, D.is] at hu; exact hu.1
  subst this
  exact ⟨rfl, ⟨hfr.os, hfr.tape, hfr.output, hfr.size, fun k hk => hfr.block k hk fun h => h⟩⟩
end Go.Proofs.YthbhkkdaaipngaaGreatDoor.Sim
end
section
namespace Go.Proofs.YthbhkkdaaipngaaGreatDoor.Sim
open Go Go.RowKit Go.ChangeShapes Go.WideShapes
set_option maxRecDepth 100000
set_option linter.unusedVariables false
theorem failName {u : TypeId} (h : Tryz.prog.typeName? 3 u = some "privatefetch/unique.failure") : u = 152 := by
  have hu : u < Tryz.prog.types.size := by
    rcases Nat.lt_or_ge u Tryz.prog.types.size with hu | hu
    · exact hu
    · exfalso
      unfold Program.typeName? at h
      cases hi : Tryz.prog.info? u with
      | none => simp [hi] at h
      | some i =>
        have hb := Tables.info?_beyond (Nat.not_lt.2 hu) hi
        simp only [hi] at h
        cases hd : i.desc <;> simp only [hd, TypeDesc.tableOnly] at h hb <;> try cases hb
        all_goals try cases h
        simp only [Option.map_eq_some_iff] at h
        obtain ⟨n', hn', hs⟩ := h
        have := congrArg String.toList hs
        simp only [String.toList_append] at this
        have h0 := congrArg List.head? this
        rw [List.head?_append] at h0
        revert h0
        rw [show "*".toList.head? = some '*' by decide, show "privatefetch/unique.failure".toList.head? = some 'p' by decide]
        simp
  exact Program.typeNamed8_inj (by kernel_rfl) hu h
theorem gkOf {W : World} (h : laidMetH Tryz.prog [("privatefetch/unique.errWrong", Rows.laid_privatefetch_unique_errWrong)] W) : Gk W (fun _ => False) := by
  rw [MakeChecks.laidMetH_plain _ _ _ (by kernel_rfl)] at h
  obtain ⟨ps, ⟨g0, t0, cs0, f0, p0, q0, hg0, ht0, hv0, hd0, hq, hps⟩, hnd, hcells⟩ := h
  have hgn : Tryz.prog.globalNamed "privatefetch/unique.errWrong" = some 0 := by kernel_rfl
  have htn : (Tryz.prog.globals[0]?).map (·.type) = some 114 := by kernel_rfl
  obtain rfl := Option.some.inj (hgn.symm.trans hg0)
  obtain rfl := Option.some.inj (htn.symm.trans ht0)
  obtain ⟨f1, u, v, hcs, hn, hd1⟩ := iface_of_trod Tryz.underlying114 hd0
  have hu := failName hn
  subst hu
  have hc1 : cs0 = #[.iface 152 v] := Array.eq_one_of_toList hcs
  subst hc1
  have hcell := World.var?_cell hg0 hv0 0
  simp only [List.getElem?_toArray, List.getElem?_cons_zero] at hcell
  have hmem : MemPlace.cell 0 0 ∈ ps := by
    rw [hps]; simp [MemPlace.row]
  obtain ⟨⟨c, t, hb⟩, hok⟩ := hcells _ _ hmem
  obtain ⟨cs, rfl, hsz⟩ := okWide_struct Tryz.underlying152 (hok _ _ hcell)
  have hz : Value.agg cs = .agg #[.int .i64 12] := by
    have h2 := trod_struct1 Tryz.underlying152 hd1
    obtain ⟨y0, n, he, hl, hy⟩ := h2
    have c1 : Tryz.prog.cellsOf 32 = 1 := by kernel_rfl
    have c2 : Tryz.prog.cellsOf 152 = 1 := by kernel_rfl
    obtain ⟨l⟩ := cs
    simp only [Value.cells] at hy hl
    rw [c2] at hl
    rw [c1, List.drop_zero, List.take_of_length_le (by omega)] at hy
    obtain ⟨k, e1, e2, _⟩ := DataW.trod_int Tryz.underlying32 hy
    subst e2
    simp only [Prod.mk.injEq, DataW.agg.injEq, List.cons.injEq, DataW.lit.injEq, Lit.int.injEq, true_and, and_true] at he
    obtain ⟨rfl, -⟩ := he
    rw [show l = [Value.int .i64 12] from e1]
  rw [hz] at hcell
  intro g hg
  have hgl : GL = [0] := rfl
  rw [hgl] at hg
  obtain rfl : g = 0 := by simpa using hg
  exact ⟨(Array.getElem?_eq_some_iff.1 hb).1, fun h => h, hcell⟩
end Go.Proofs.YthbhkkdaaipngaaGreatDoor.Sim
end
section
namespace Go.Proofs.YthbhkkdaaipngaaGreatDoor
open Go Go.RowKit Go.ChangeShapes Go.WideShapes
set_option linter.unusedVariables false
theorem opens_ints : Opens Tryz.prog 22 (List Int) (sliceBulk fun _ _ => True) := Opens.slice Tryz.underlying22 (by kernel_rfl) (by decide) (Opens.int Tryz.underlying3)
theorem topCoalitions_args (w : World) (hg : Sim.Gk w (fun _ => False)) (v0 : Value) (l0 : List Int) (h0 : Lst w (Lo w.heap.size) v0 l0) (hb0 : l0.length * 8 ≤ 140737488351232)
    (x1 : Int) (ha1 : 0 ≤ x1) (hc1 : x1 ≤ 255)
    (x2 : Int) (ha2 : 0 ≤ x2) (hc2 : x2 ≤ 255) : Calls Tryz.prog 4 #[v0, .int .u8 x1, .int .u8 x2] w (Sim.IsTrueS w) := by
  have := Sim.calls_true (hgk := hg) (us := [v0, .int .u8 x1, .int .u8 x2]) (hd := fun _ => .bool true) ((fun (l : List Int) (hl : l.length ≤ 17592186044416) (x1 : Int) (a1 : 0 ≤ x1) (c1 : x1 ≤ 255) (x2 : Int) (a2 : 0 ≤ x2) (c2 : x2 ≤ 255) => Sim.topCoal l x1 x2 hl ⟨a1, c1⟩ ⟨a2, c2⟩) l0 (by omega) x1 ha1 hc1 x2 ha2 hc2) (by
    simp only [Sim.VRs, Sim.VR, Sim.D.is]
    exact ⟨_, _, rfl, Sim.lst_sl (α := Int) Sim.eI Sim.int_cells h0, ⟨_, _, rfl, ⟨rfl, rfl⟩, ⟨_, _, rfl, ⟨rfl, rfl⟩, rfl⟩⟩⟩)
  simpa using this
end Go.Proofs.YthbhkkdaaipngaaGreatDoor
namespace Go.Proofs.YthbhkkdaaipngaaGreatDoor.topCoalitions
open Go.ChangeShapes Go.WideShapes Go.ChangeAt Go.RowKit
open Go.ChangeMaps (open_string shut_string)
set_option linter.unusedVariables false

theorem own : ownKnob Tryz.prog.godebug = none := by kernel_rfl
theorem laidOut : laidOutB Tryz.prog = true := by kernel_rfl
theorem wf_u8 {x : Int} (h : (Lit.int .u8 x).wf = true) : 0 ≤ x ∧ x ≤ 255 := by simpa [Lit.wf, IntKind.min, IntKind.max, IntKind.signed, IntKind.bits] using h
theorem bytesOf_ints : Tryz.prog.bytesOf 3 = 8 := by kernel_rfl

/-- What the row lays. -/
abbrev laid : List (String × DataW Unit) := [("privatefetch/unique.errWrong", Rows.laid_privatefetch_unique_errWrong)]
/-- A world that meets it. -/
theorem met (os : Os) (args : Array Value) : laidMetH Tryz.prog laid ((World.laidAll Tryz.prog os laid).forCall (fun _ _ => 0) ⟨#[], args, []⟩).memory := by
  rw [MakeChecks.laidMetH_plain _ _ _ (by kernel_rfl)]
  exact laidMet_laidAll _ (by kernel_rfl) (by kernel_rfl)

set_option maxRecDepth 100000 in
theorem lifted (os : Os) (started : os.Started) (H : Type) (enc : TypeId × Value → H) :
    ReturnsInHanded {} Tryz.checked os 4 .any (fun w args => (Rows.topCoalitionsSpec.pre enc Tryz.prog Tryz.f4 [] false w args ∧ laidMetH Tryz.prog laid w) ∧ sizedMet enc Tryz.prog Tryz.f4 (OpenSpec.ofChange Rows.topCoalitionsSpec) false w args) (Rows.topCoalitionsSpec.post enc Tryz.prog Tryz.f4 false true false false) := by
  refine returnsInHanded_of_change_and (C := Tryz.checked) (X := fun w _ => laidMetH Tryz.prog laid w) (fun _ _ _ hh h => h.of_heap hh) own started (by kernel_rfl) Tryz.func4
    (ChangeSpec.witness_shaped (enc := enc) (C := Tryz.checked) (os := os) (X := fun w _ => laidMetH Tryz.prog laid w) false (World.laidAll Tryz.prog os laid) #[.slice none 0 0, .int .u8 0, .int .u8 0] 8 (World.laidAll_os _ _ _) (World.shaped_of_ZipB (by kernel_rfl) (by kernel_rfl)) (by kernel_rfl) (by kernel_rfl) (by kernel_rfl) (met os _)) ?_
  intro W base args ds gs before hval0 hW hcnd hsz0 hL _
  have hsz : (DataW.weightsEach Tryz.prog (Tryz.f4.params.toList ++ Rows.topCoalitionsSpec.plain.varTypes Tryz.prog) (ds ++ gs)).all (· ≤ reachBytes) = true := hsz0
  have hval : ∀ (j : Nat) t v, Tryz.f4.params[j]? = some t → args[j]? = some v → Value.okWide Tryz.prog W .any base t v := hval0
  have hW' := hW
  obtain ⟨p, q, hA0, hV, rfl, hfz, hnd⟩ := hW
  have hA : DataW.TrodAll enc Tryz.prog W 0 (fun _ => true) true Tryz.f4.params.toList args.toList ds p := hA0
  rw [Tryz.params4] at hA hval hsz
  obtain ⟨v0, vs0, d0, ds0, p0, q0, hargs, rfl, rfl, h0, r0⟩ := trodAll_cons hA
  obtain ⟨v1, vs1, d1, ds1, p1, q1, rfl, rfl, rfl, h1, r1⟩ := trodAll_cons r0
  obtain ⟨v2, vs2, d2, ds2, p2, q2, rfl, rfl, rfl, h2, r2⟩ := trodAll_cons r1
  obtain ⟨rfl, rfl, rfl⟩ := trodAll_nil r2
  obtain rfl : args = #[v0, v1, v2] := by cases args; simp_all
  obtain ⟨rfl, rfl⟩ := trodVars_none hV
  obtain ⟨a0, len0, cap0, rfl⟩ := okWide_slice Tryz.underlying22 (hval 0 22 v0 rfl rfl)
  have k0 := h0
  have lt0 : ∀ x ∈ p0, x.block < W.heap.size := by obtain ⟨m, hm⟩ := k0; exact DataW.trod_lt m _ _ _ hm
  obtain ⟨fuel0, hf0⟩ := h0
  obtain ⟨x0, ⟨u0, hu0, hx0⟩, hbk0⟩ := opens_ints _ _ _ _ _ _ _ _ _ hf0
  simp [Value.cells] at hu0
  subst hu0
  have bz0 : x0.length * 8 ≤ 140737488351232 := by
    rcases hbk0 with ⟨_, h0⟩ | ⟨elems, spare, hd, hle, _⟩
    · rw [h0]; simp
    · have hd' : d0 = .slice elems spare := hd
      subst hd'
      have hs := sized_slice hsz (j := 0) (t := 22) (e := 3) rfl rfl Tryz.underlying22
      rw [bytesOf_ints] at hs
      simp only [reachBytes] at hs
      have hm : elems.length * 8 ≤ (elems.length + spare.length) * 8 := Nat.mul_le_mul_right _ (Nat.le_add_right _ _)
      rw [← hle]
      omega
  obtain ⟨x1, rfl, rfl, rfl, w1⟩ := open_int Tryz.underlying5 (hval 1 5 v1 rfl rfl) h1
  have b1 := wf_u8 w1
  obtain ⟨x2, rfl, rfl, rfl, w2⟩ := open_int Tryz.underlying5 (hval 2 5 v2 rfl rfl) h2
  have b2 := wf_u8 w2
  clear hA0 hval0
  have hw := topCoalitions_args W (Sim.gkOf hL) (.slice a0 len0 cap0) x0 hx0 bz0 x1 b1.1 b1.2 x2 b2.1 b2.2
  refine hw.mono fun e W' ⟨he, bel⟩ => ?_
  subst he
  exact ⟨_, rfl, _, _, _, [], _, [], hW', trodAll_mk1 (shut_bool Tryz.underlying4 _), (trodAll_cons_mk (Below.trod laidOut (by kernel_rfl) (of_decide_eq_true (by kernel_rfl)) k0 bel lt0) (trodAll_cons_mk (shut_int Tryz.underlying5 w1) (trodAll_cons_mk (shut_int Tryz.underlying5 w2) trodAll_mk0))), rfl, bel.frame _, fun h => by cases h⟩

theorem over : Rows.topCoalitionsRow.holds Tryz.pinned (OpenSpec.ofChange Rows.topCoalitionsSpec) :=
  OpenClaim.holds_of_wide 4 Tryz.f4 rfl rfl rfl rfl rfl rfl rfl ⟨rfl, rfl, rfl, rfl, rfl⟩ rfl rfl rfl rfl rfl (by kernel_rfl) Tryz.func4 (by kernel_rfl)
    (of_decide_eq_true (by kernel_rfl)) (by unfold Func.isWrapper; first | (rw [if_pos (by decide +kernel)]; kernel_rfl) | (rw [if_neg (by decide +kernel)]; exact ⟨rfl, rfl⟩))
    (fun os started H enc _ => lifted os started H enc)

theorem proved : Rows.TopCoalitionsCardSaid :=
  Claim7.holds_tied_plain_at .later [] [.wider] true _ true
    over (fun _ h => by cases h) (by kernel_rfl) (fun _ h => by cases h) topCoalitions_row_tie rfl ⟨rfl, rfl⟩ (by kernel_rfl) rfl
    (fun f fn hf hfn => by
      obtain rfl : f = 4 := Option.some.inj ((show Tryz.prog.funcNamed Rows.topCoalitionsRow.func = some 4 by kernel_rfl).symm.trans hf) |>.symm
      obtain rfl : fn = Tryz.f4 := (Option.some.inj (Tryz.func4.symm.trans hfn)).symm
      exact ⟨by kernel_rfl, fun j t ht => by
        rw [Tryz.params4] at ht
        have hw : ∀ u ∈ [22, 5, 5], Tryz.prog.wantsStandIn u = false := by
          have h : ([22, 5, 5].all fun u => !Tryz.prog.wantsStandIn u) = true := by kernel_rfl
          intro u hu
          have := List.all_eq_true.1 h u hu
          simpa using this
        exact hw t (List.mem_of_getElem? (by simpa using ht))⟩)
    (by kernel_rfl)
#print axioms proved
end Go.Proofs.YthbhkkdaaipngaaGreatDoor.topCoalitions
end
