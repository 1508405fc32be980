/- Functions of the program, as the walk has them. -/
import Derived.Test.YtilkjcobkdjlkaaSimZ
import Derived.Test.YtilkjcobkdjlkaaProg
import Derived.ProofKit
namespace Go.Proofs.Ytilkjcobkdjlkaa.Sim
open Go
set_option maxRecDepth 100000
def ac_slices_EqualFunc_LLint_LLint_int_int : AC :=
  (AC.region [⟨some 6, .mov, [cb false], [], none⟩] false).seq
  (((AC.region [⟨some 10, .mov, [.t 0], [], none⟩, ⟨some 11, .len, [.t 10], [0], none⟩, ⟨some 12, .mov, [.t 1], [], none⟩, ⟨some 13, .len, [.t 12], [2], none⟩, ⟨some 14, .bin .neq, [.t 11, .t 13], [1, 3], none⟩] false).seq
  (AC.cond (.t 14) ((AC.region [⟨some 6, .mov, [cb false], [], none⟩] false).seq AC.ret) AC.skip)).seq
  (((AC.region [⟨some 15, .mov, [.t 0], [], none⟩, ⟨some 16, .len, [.t 15], [0], none⟩, ⟨some 17, .mov, [ci 0], [], none⟩] false).seq
  (AC.block 0 ((AC.region [⟨some 18, .bin .lss, [.t 17, .t 16], [], none⟩] false).seq
  ((AC.cond (.t 18) AC.skip (AC.exit 0)).seq
  ((AC.block 1 ((AC.region [⟨some 19, .mov, [.t 17], [], none⟩, ⟨some 20, .iad 1, [.t 15, .t 17], [], none⟩, ⟨some 21, .load 1 false, [.t 20], [1], none⟩, ⟨some 7, .mov, [.t 19], [0, 0, 1, 2], none⟩, ⟨some 8, .mov, [.t 21], [2, 3, 0, 1, 2, 3], none⟩] false).seq
  ((AC.region [⟨some 22, .mov, [.t 1], [], none⟩, ⟨some 23, .mov, [.t 7], [], none⟩, ⟨some 24, .iad 1, [.t 22, .t 23], [0, 1], none⟩, ⟨some 25, .load 1 false, [.t 24], [2], none⟩, ⟨some 9, .mov, [.t 25], [3, 0, 1, 2, 3], none⟩] false).seq
  ((AC.region [⟨some 26, .mov, [.t 2], [], none⟩, ⟨some 27, .mov, [.t 8], [], none⟩, ⟨some 28, .mov, [.t 9], [], none⟩, ⟨some 29, .callv, [.t 26, .t 27, .t 28], [0, 1, 2], none⟩, ⟨some 30, .un .not, [.t 29], [3], none⟩] false).seq
  (AC.cond (.t 30) ((AC.region [⟨some 6, .mov, [cb false], [], none⟩] false).seq AC.ret) AC.skip))))).seq
  (AC.region [⟨some 31, .bin .add, [.t 17, ci 1], [], none⟩, ⟨some 17, .mov, [.t 31], [0], none⟩] false)))).loop)).seq
  ((AC.region [⟨some 6, .mov, [cb true], [], none⟩] false).seq AC.ret)))
def rs_slices_EqualFunc_LLint_LLint_int_int : List RV := [.t 6]
theorem c_slices_EqualFunc_LLint_LLint_int_int : compile Try.prog (Go.Func.ntmps Try.f108) (Try.f108.body.getD .skip) = some ac_slices_EqualFunc_LLint_LLint_int_int := by kernel_rfl
theorem go_slices_EqualFunc_LLint_LLint_int_int {xs : List V} {bx bx' : U} {r : V} {ns : List O} (hxs : decide (xs.length ≤ Go.Func.ntmps Try.f108) = true) (hbx : BxOK bx bx') (h : ∀ cx : Cx, cx.m0 = ups M0 bx → Awp Try.prog cx ac_slices_EqualFunc_LLint_LLint_int_int (RetE rs_slices_EqualFunc_LLint_LLint_int_int r bx' ns) ⟨tl (idx 0 xs), ups M0 bx⟩) : Does Try.prog 108 xs bx r bx' ns :=
  does_of Try.func108 (by kernel_rfl : Try.f108.body = some (Try.f108.body.getD .skip)) rfl c_slices_EqualFunc_LLint_LLint_int_int (by kernel_rfl) (of_decide_eq_true hxs) hbx fun cx _ hm => h cx hm
end Go.Proofs.Ytilkjcobkdjlkaa.Sim
