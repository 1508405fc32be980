/- FieldDoes: the walk at arguments as they are read. -/
import Derived.Test.YtihhncejiahdcacFieldDoesW
import Derived.Test.YtihhncejiahdcacOpens
namespace Go.Proofs.Ytihhncejiahdcac
open Go Go.RowKit
set_option linter.unusedVariables false
theorem opens_ints : Opens Try.prog 29 (List Int) (sliceBulk fun _ _ => True) := Opens.slice Try.underlying29 (by kernel_rfl) (by decide) (Opens.int Try.underlying3)
theorem opens_field : Opens Try.prog 27 Int (fun _ _ => True) := Opens.one Try.underlying27 rfl Try.underlying3 rfl (by kernel_rfl) (by kernel_rfl)

theorem does_args (w : World) (v1 : Value) (t : List Int) (h1 : Lst w (Lo w.heap.size) v1 t) (b1 : t.length * 8 ≤ 140737488351232) (cs : Array Value) (P : Int) (h2 : Rep.is w (Lo w.heap.size) cs.toList P)
    (a : Int) (a0 : -9223372036854775808 ≤ a) (a1 : a ≤ 9223372036854775807) (b : Int) (b0 : -9223372036854775808 ≤ b) (b2 : b ≤ 9223372036854775807) (n : Int) (n0 : -9223372036854775808 ≤ n) (n1 : n ≤ 9223372036854775807)
    (v2 : Value) (l : List Int) (h3 : Lst w (Lo w.heap.size) v2 l) (b3 : l.length * 8 ≤ 140737488351232) :
    Calls Try.prog 6 #[v1, .agg cs, .int .i64 a, .int .i64 b, .int .i64 n, v2] w (Field.IsTrue w) := by
  obtain ⟨p1, c1, rfl, _, _⟩ := h1.form
  obtain ⟨p2, c2, rfl, _, _⟩ := h3.form
  obtain ⟨hc, hP⟩ := h2
  obtain ⟨cs⟩ := cs
  obtain rfl : cs = [.int .i64 P] := hc
  exact Field.does_walk w p1 t.length c1 t h1.rd h1.i64 b1 P hP.1 hP.2 a a0 a1 b b0 b2 n n0 n1 p2 l.length c2 l h3.rd h3.i64 b3
end Go.Proofs.Ytihhncejiahdcac
