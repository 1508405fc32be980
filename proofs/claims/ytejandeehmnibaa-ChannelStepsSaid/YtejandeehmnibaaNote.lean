/- Notes and channels as they lie in memory. -/
import Derived.Test.YtejandeehmnibaaSlices
namespace Go.Proofs.Ytejandeehmnibaa
open Go Go.RowKit Go.Deep
set_option linter.unusedVariables false

structure Note where
  kind : Int
  read : Int
  probe : Int
  server : Int
  version : Int
  query : List Int
  values : List Int
  mark : Int
  deriving DecidableEq

/-- The cells of a note whose lists are the slices q and v. -/
def Note.cells (x : Note) (q v : Value) : List Value := [.int .i64 x.kind, .int .i64 x.read, .int .i64 x.probe, .int .i64 x.server, .int .i64 x.version, q, v, .int .i64 x.mark]
structure Note.In (x : Note) : Prop where
  kind : I64 x.kind
  read : I64 x.read
  probe : I64 x.probe
  server : I64 x.server
  version : I64 x.version
  mark : I64 x.mark
instance : Rep Note where
  sz := 8
  is w S cs x := ∃ q v, cs = x.cells q v ∧ Lst w S q x.query ∧ Lst w S v x.values ∧ x.In
  len := by rintro w S cs x ⟨q, v, rfl, _⟩; rfl
  one := by
    rintro w S cs x ⟨q, v, rfl, hq, hv, _⟩ u hu
    obtain ⟨_, _, rfl, _⟩ := hq.form
    obtain ⟨_, _, rfl, _⟩ := hv.form
    simp only [Note.cells, List.mem_cons, List.not_mem_nil, or_false] at hu
    rcases hu with rfl | rfl | rfl | rfl | rfl | rfl | rfl | rfl <;> rfl
  keep := fun ⟨q, v, hc, hq, hv, hi⟩ hk => ⟨q, v, hc, hq.keep hk, hv.keep hk, hi⟩
/-- Lists that are not too long. -/
def Note.Small (x : Note) : Prop := x.query.length ≤ 1000000 ∧ x.values.length ≤ 1000000

theorem infoNote : (Try.prog.info? 34).map (fun i => (i.zero, i.size, i.bytes)) = some (some (.agg #[.int .i64 0, .int .i64 0, .int .i64 0, .int .i64 0, .int .i64 0, .slice none 0 0, .slice none 0 0, .int .i64 0]), 8, 96) := by kernel_rfl

/-- The cells of a note that lies at an address. -/
theorem Note.at_ {w : World} {S : Nat → Prop} {cs : List Value} {x : Note} (h : Rep.is w S cs x) {g o : Nat} (hr : w.rangeAt g o cs) :
    ∃ a c a2 c2, cs = x.cells (.slice a x.query.length c) (.slice a2 x.values.length c2) ∧ Lst w S (.slice a x.query.length c) x.query ∧ Lst w S (.slice a2 x.values.length c2) x.values ∧ x.In ∧
      w.cell? ⟨g, o, none⟩ = some (.int .i64 x.kind) ∧ w.cell? ⟨g, o + 1, none⟩ = some (.int .i64 x.read) ∧ w.cell? ⟨g, o + 2, none⟩ = some (.int .i64 x.probe) ∧ w.cell? ⟨g, o + 3, none⟩ = some (.int .i64 x.server) ∧ w.cell? ⟨g, o + 4, none⟩ = some (.int .i64 x.version) ∧ w.cell? ⟨g, o + 5, none⟩ = some (.slice a x.query.length c) ∧ w.cell? ⟨g, o + 6, none⟩ = some (.slice a2 x.values.length c2) ∧ w.cell? ⟨g, o + 7, none⟩ = some (.int .i64 x.mark) := by
  obtain ⟨q, v, rfl, hq, hv, hi⟩ := h
  obtain ⟨a, c, rfl, _⟩ := hq.form
  obtain ⟨a2, c2, rfl, _⟩ := hv.form
  exact ⟨a, c, a2, c2, rfl, hq, hv, hi, hr 0 _ rfl, hr 1 _ rfl, hr 2 _ rfl, hr 3 _ rfl, hr 4 _ rfl, hr 5 _ rfl, hr 6 _ rfl, hr 7 _ rfl⟩
end Go.Proofs.Ytejandeehmnibaa
