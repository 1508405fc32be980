/- Functions of the program, as the walk has them. -/
import Derived.Test.YtilkjcobkdjlkaaSimZ
import Derived.Test.YtilkjcobkdjlkaaProg
import Derived.ProofKit
namespace Go.Proofs.Ytilkjcobkdjlkaa.Sim
open Go
set_option maxRecDepth 100000
def ac_slices_DeleteFunc_api_Table_api_Table : AC :=
  (AC.region [⟨some 4, .mov, [AV.c (V.nl 4)], [], none⟩] false).seq
  ((AC.region [⟨some 8, .mov, [.t 0], [], none⟩, ⟨some 9, .mov, [.t 1], [], none⟩, ⟨some 10, .call 102, [.t 8, .t 9], [0, 1], none⟩, ⟨some 5, .mov, [.t 10], [2, 2, 0, 1, 2], none⟩] false).seq
  (((AC.region [⟨some 11, .mov, [.t 5], [], none⟩, ⟨some 12, .bin .eql, [.t 11, ci (-1)], [0], none⟩] false).seq
  (AC.cond (.t 12) ((AC.region [⟨some 13, .mov, [.t 0], [], none⟩, ⟨some 4, .mov, [.t 13], [0, 0], none⟩] false).seq AC.ret) AC.skip)).seq
  (((AC.region [⟨some 14, .mov, [.t 5], [], none⟩, ⟨some 15, .bin .add, [.t 14, ci 1], [0], none⟩, ⟨some 6, .mov, [.t 15], [1, 0, 1], none⟩] false).seq
  (AC.block 0 (((AC.region [⟨some 16, .mov, [.t 6], [], none⟩, ⟨some 17, .mov, [.t 0], [], none⟩, ⟨some 18, .len, [.t 17], [1], none⟩, ⟨some 19, .bin .lss, [.t 16, .t 18], [0, 2], none⟩] false).seq
  (AC.cond (.t 19) AC.skip (AC.exit 0))).seq
  ((AC.block 1 ((AC.region [⟨some 22, .mov, [.t 0], [], none⟩, ⟨some 23, .mov, [.t 6], [], none⟩, ⟨some 24, .iad 4, [.t 22, .t 23], [0, 1], none⟩, ⟨some 25, .load 4 true, [.t 24], [2], none⟩, ⟨some 7, .alloc [I 0, I 0, I 0, V.nl 1], [], [], none⟩, ⟨none, .store 4, [.t 7, .t 25], [4, 3, 0, 1, 2, 3, 4], none⟩] false).seq
  ((AC.region [⟨some 26, .mov, [.t 1], [], none⟩, ⟨some 27, .load 4 true, [.t 7], [], none⟩, ⟨some 28, .callv, [.t 26, .t 27], [0, 1], none⟩, ⟨some 29, .un .not, [.t 28], [2], none⟩] false).seq
  (AC.cond (.t 29) ((AC.region [⟨some 30, .mov, [.t 0], [], none⟩, ⟨some 31, .mov, [.t 5], [], none⟩, ⟨some 32, .load 4 true, [.t 7], [], none⟩, ⟨some 33, .iad 4, [.t 30, .t 31], [0, 1, 0, 1, 2], none⟩, ⟨none, .store 4, [.t 33, .t 32], [3, 2, 0, 1, 2], none⟩] false).seq
  (AC.region [⟨some 34, .mov, [.t 5], [], none⟩, ⟨some 35, .bin .add, [.t 34, ci 1], [0], none⟩, ⟨some 5, .mov, [.t 35], [1, 0, 1], none⟩] false)) AC.skip)))).seq
  (AC.region [⟨some 20, .mov, [.t 6], [], none⟩, ⟨some 21, .bin .add, [.t 20, ci 1], [0], none⟩, ⟨some 6, .mov, [.t 21], [1, 0, 1], none⟩] false))).loop)).seq
  ((AC.clr { sl := 0, il := 5, d1 := 36, d2 := 37, d3 := 38, k := 4, z := [I 0, I 0, I 0, V.nl 1] }).seq
  ((AC.region [⟨some 39, .mov, [.t 0], [], none⟩, ⟨some 40, .mov, [.t 5], [], none⟩, ⟨some 41, .slc false true false 4, [.t 39, .t 40], [0, 1], none⟩, ⟨some 4, .mov, [.t 41], [2, 0, 1, 2], none⟩] false).seq AC.ret)))))
def rs_slices_DeleteFunc_api_Table_api_Table : List RV := [.t 4]
theorem c_slices_DeleteFunc_api_Table_api_Table : compile Try.prog (Go.Func.ntmps Try.f79) (Try.f79.body.getD .skip) = some ac_slices_DeleteFunc_api_Table_api_Table := by kernel_rfl
theorem go_slices_DeleteFunc_api_Table_api_Table {xs : List V} {bx bx' : U} {r : V} {ns : List O} (hxs : decide (xs.length ≤ Go.Func.ntmps Try.f79) = true) (hbx : BxOK bx bx') (h : ∀ cx : Cx, cx.m0 = ups M0 bx → Awp Try.prog cx ac_slices_DeleteFunc_api_Table_api_Table (RetE rs_slices_DeleteFunc_api_Table_api_Table r bx' ns) ⟨tl (idx 0 xs), ups M0 bx⟩) : Does Try.prog 79 xs bx r bx' ns :=
  does_of Try.func79 (by kernel_rfl : Try.f79.body = some (Try.f79.body.getD .skip)) rfl c_slices_DeleteFunc_api_Table_api_Table (by kernel_rfl) (of_decide_eq_true hxs) hbx fun cx _ hm => h cx hm
end Go.Proofs.Ytilkjcobkdjlkaa.Sim
