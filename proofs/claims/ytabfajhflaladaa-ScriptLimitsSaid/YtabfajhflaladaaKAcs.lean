/- Functions of the program, as the walk has them. -/
import Derived.Test.YtabfajhflaladaaKSimZ
import Derived.Test.YtabfajhflaladaaProg
import Derived.ProofKit
namespace Go.Proofs.Ytabfajhflaladaa.Sim
open Go
set_option maxRecDepth 100000
def ac_law41_ScriptLimits : AC :=
  (AC.region [⟨some 2, .mov, [cb false], [], none⟩] false).seq
  (((AC.region [⟨some 16, .call 4, [], [], none⟩, ⟨some 17, .un .not, [.t 16], [0], none⟩] false).seq
  (AC.cond (.t 17) ((AC.region [⟨some 2, .mov, [cb false], [], none⟩] false).seq AC.ret) AC.skip)).seq
  ((AC.region [⟨some 18, .mov, [.t 0], [], none⟩, ⟨some 19, .conv .i64, [.t 18], [0], none⟩, ⟨some 20, .bin .rem, [.t 19, ci 3], [1], none⟩, ⟨some 3, .mov, [.t 20], [2, 0, 1, 2], none⟩] false).seq
  ((AC.region [⟨some 21, .mov, [.t 3], [], none⟩, ⟨some 22, .bin .add, [ci 15, .t 21], [0], none⟩, ⟨some 23, .mks 1 [I 0] 8, [.t 22, .t 22], [1, 1], none⟩, ⟨some 24, .build [I 0, I 0, V.nl 1, I 0, I 0, I 0, V.nl 2] [(2, 1)], [.t 23], [2], none⟩, ⟨some 4, .alloc [I 0, I 0, V.nl 1, I 0, I 0, I 0, V.nl 2], [], [], none⟩, ⟨none, .store 7, [.t 4, .t 24], [4, 3, 0, 1, 2, 3, 4], none⟩] false).seq
  ((AC.region [⟨some 25, .mov, [.t 3], [], none⟩, ⟨some 26, .bin .add, [ci 1023, .t 25], [0], none⟩, ⟨some 27, .mks 2 [I 0, V.nl 1] 32, [.t 26, .t 26], [1, 1], none⟩, ⟨some 28, .build [I 0, I 0, I 0, V.nl 2] [(3, 1)], [.t 27], [2], none⟩, ⟨some 29, .build [I 0, I 0, V.nl 1, I 0, I 0, I 0, V.nl 2] [(3, 4)], [.t 28], [3], none⟩, ⟨some 5, .alloc [I 0, I 0, V.nl 1, I 0, I 0, I 0, V.nl 2], [], [], none⟩, ⟨none, .store 7, [.t 5, .t 29], [5, 4, 0, 1, 2, 3, 4, 5], none⟩] false).seq
  ((AC.region [⟨some 30, .mov, [.t 3], [], none⟩, ⟨some 31, .bin .add, [ci 63, .t 30], [0], none⟩, ⟨some 32, .mks 1 [I 0] 8, [.t 31, .t 31], [1, 1], none⟩, ⟨some 33, .build [I 0, V.nl 1] [(1, 1)], [.t 32], [2], none⟩, ⟨some 34, .bsl 2 [I 0, V.nl 1] 1 [0], [.t 33], [3], none⟩, ⟨some 35, .build [I 0, I 0, I 0, V.nl 2] [(3, 1)], [.t 34], [4], none⟩, ⟨some 36, .build [I 0, I 0, V.nl 1, I 0, I 0, I 0, V.nl 2] [(3, 4)], [.t 35], [5], none⟩, ⟨some 6, .alloc [I 0, I 0, V.nl 1, I 0, I 0, I 0, V.nl 2], [], [], none⟩, ⟨none, .store 7, [.t 6, .t 36], [7, 6, 0, 1, 2, 3, 4, 5, 6, 7], none⟩] false).seq
  ((AC.region [⟨some 37, .mov, [.t 3], [], none⟩, ⟨some 38, .bin .add, [ci 511, .t 37], [0], none⟩, ⟨some 39, .mks 7 [I 0, I 0, V.nl 1, I 0, I 0, I 0, V.nl 2] 88, [.t 38, .t 38], [1, 1], none⟩, ⟨some 7, .mov, [.t 39], [2, 0, 1, 2], none⟩] false).seq
  (((AC.region [⟨some 40, .load 7 true, [.t 4], [], none⟩, ⟨some 41, .bsl 7 [I 0, I 0, V.nl 1, I 0, I 0, I 0, V.nl 2] 1 [0], [.t 40], [0], none⟩, ⟨some 42, .load 7 true, [.t 5], [], none⟩, ⟨some 43, .bsl 7 [I 0, I 0, V.nl 1, I 0, I 0, I 0, V.nl 2] 1 [0], [.t 42], [2], none⟩, ⟨some 44, .load 7 true, [.t 6], [], none⟩, ⟨some 45, .bsl 7 [I 0, I 0, V.nl 1, I 0, I 0, I 0, V.nl 2] 1 [0], [.t 44], [4], none⟩, ⟨some 46, .mov, [.t 7], [], none⟩, ⟨some 47, .bsl 1 [V.nl 7] 4 [0, 1, 2, 3], [.t 41, .t 43, .t 45, .t 46], [1, 3, 5, 6], none⟩, ⟨some 48, .len, [.t 47], [7], none⟩, ⟨some 49, .mov, [ci 0], [], none⟩] false).seq
  (AC.block 0 ((AC.region [⟨some 50, .bin .lss, [.t 49, .t 48], [], none⟩] false).seq
  ((AC.cond (.t 50) AC.skip (AC.exit 0)).seq
  ((AC.block 1 ((AC.region [⟨some 51, .iad 1, [.t 47, .t 49], [], none⟩, ⟨some 52, .load 1 false, [.t 51], [0], none⟩, ⟨some 9, .mov, [.t 52], [1, 0, 1], none⟩] false).seq
  ((AC.region [⟨some 54, .mov, [.t 9], [], none⟩, ⟨some 55, .call 5, [.t 54], [0], none⟩, ⟨some 53, .mov, [.t 55], [1], none⟩, ⟨some 56, .ext 0, [.t 53], [2], none⟩, ⟨some 57, .ext 1, [.t 53], [2], none⟩, ⟨some 10, .mov, [.t 56], [3, 1, 0, 1, 2, 3], none⟩, ⟨some 11, .mov, [.t 57], [4, 5, 0, 1, 2, 3, 4, 5], none⟩] false).seq
  ((AC.region [⟨some 59, .mov, [.t 9], [], none⟩, ⟨some 60, .call 6, [.t 59], [0], none⟩, ⟨some 58, .mov, [.t 60], [1], none⟩, ⟨some 61, .ext 0, [.t 58], [2], none⟩, ⟨some 62, .ext 1, [.t 58], [2], none⟩, ⟨some 12, .mov, [.t 61], [3, 1, 0, 1, 2, 3], none⟩, ⟨some 13, .mov, [.t 62], [4, 5, 0, 1, 2, 3, 4, 5], none⟩] false).seq
  (((AC.region [⟨some 63, .mov, [.t 11], [], none⟩, ⟨some 64, .mov, [.t 13], [], none⟩, ⟨some 65, .bin .neq, [.t 63, .t 64], [0, 1], none⟩, ⟨some 66, .mov, [.t 65], [2], none⟩, ⟨some 67, .mov, [.t 10], [3], some (3, 66, false)⟩, ⟨some 68, .mov, [.t 12], [3], some (3, 66, false)⟩, ⟨some 69, .bin .neq, [.t 67, .t 68], [4, 5, 3], some (3, 66, false)⟩, ⟨some 70, .pick, [.t 66, cb true, .t 69], [3, 6], none⟩, ⟨some 71, .mov, [.t 70], [7, 3], none⟩, ⟨some 72, .mov, [.t 11], [8], some (8, 71, false)⟩, ⟨some 73, .bin .eql, [.t 72, ci 0], [9, 8], some (8, 71, false)⟩, ⟨some 74, .mov, [.t 3], [8], some (8, 71, false)⟩, ⟨some 75, .bin .lss, [.t 74, ci 2], [11, 8], some (8, 71, false)⟩, ⟨some 76, .beq true, [.t 73, .t 75], [10, 12, 8], some (8, 71, false)⟩, ⟨some 77, .pick, [.t 71, cb true, .t 76], [8, 13], none⟩] false).seq
  (AC.cond (.t 77) ((AC.region [⟨some 2, .mov, [cb false], [], none⟩] false).seq AC.ret) AC.skip)).seq
  ((AC.region [⟨some 78, .mov, [.t 11], [], none⟩, ⟨some 79, .bin .eql, [.t 78, ci 0], [0], none⟩] false).seq
  (AC.cond (.t 79) ((AC.region [⟨some 81, .mov, [.t 10], [], none⟩, ⟨some 82, .call 7, [.t 81], [0], none⟩, ⟨some 80, .mov, [.t 82], [1], none⟩, ⟨some 83, .ext 0, [.t 80], [2], none⟩, ⟨some 84, .ext 1, [.t 80], [2], none⟩, ⟨some 14, .mov, [.t 83], [3, 1, 0, 1, 2, 3], none⟩, ⟨some 15, .mov, [.t 84], [4, 5, 0, 1, 2, 3, 4, 5], none⟩] false).seq
  ((AC.region [⟨some 85, .mov, [.t 15], [], none⟩, ⟨some 86, .bin .neq, [.t 85, ci 0], [0], none⟩, ⟨some 87, .mov, [.t 86], [1], none⟩, ⟨some 88, .mov, [.t 14], [2], some (2, 87, false)⟩, ⟨some 89, .mov, [.t 9], [2], some (2, 87, false)⟩, ⟨some 90, .call 8, [.t 88, .t 89], [3, 4, 2, 2], some (2, 87, false)⟩, ⟨some 91, .un .not, [.t 90], [5, 2], some (2, 87, false)⟩, ⟨some 92, .pick, [.t 87, cb true, .t 91], [2, 6], none⟩] false).seq
  (AC.cond (.t 92) ((AC.region [⟨some 2, .mov, [cb false], [], none⟩] false).seq AC.ret) AC.skip))) AC.skip))))))).seq
  (AC.region [⟨some 93, .bin .add, [.t 49, ci 1], [], none⟩, ⟨some 49, .mov, [.t 93], [0], none⟩] false)))).loop)).seq
  ((AC.region [⟨some 2, .mov, [cb true], [], none⟩] false).seq AC.ret))))))))
def rs_law41_ScriptLimits : List RV := [.t 2]
theorem c_law41_ScriptLimits : compile Try.prog (Go.Func.ntmps Try.f3) (Try.f3.body.getD .skip) = some ac_law41_ScriptLimits := by kernel_rfl
theorem go_law41_ScriptLimits {xs : List V} {bx bx' : U} {r : V} {ns : List O} (hxs : decide (xs.length ≤ Go.Func.ntmps Try.f3) = true) (hbx : BxOK bx bx') (h : ∀ cx : Cx, cx.m0 = ups M0 bx → Awp Try.prog cx ac_law41_ScriptLimits (RetE rs_law41_ScriptLimits r bx' ns) ⟨tl (idx 0 xs), ups M0 bx⟩) : Does Try.prog 3 xs bx r bx' ns :=
  does_of Try.func3 (by kernel_rfl : Try.f3.body = some (Try.f3.body.getD .skip)) rfl c_law41_ScriptLimits (by kernel_rfl) (of_decide_eq_true hxs) hbx fun cx _ hm => h cx hm
def ac_law41_sane : AC :=
  (AC.region [⟨some 0, .mov, [cb false], [], none⟩] false).seq
  ((AC.region [⟨some 6, .call 5, [AV.c (V.nl 7)], [], none⟩, ⟨some 5, .mov, [.t 6], [0], none⟩, ⟨some 7, .ext 0, [.t 5], [1], none⟩, ⟨some 8, .ext 1, [.t 5], [1], none⟩, ⟨some 1, .mov, [.t 7], [2, 0, 0, 1, 2], none⟩, ⟨some 2, .mov, [.t 8], [3, 4, 0, 1, 2, 3, 4], none⟩] false).seq
  ((AC.region [⟨some 10, .call 7, [AV.c (V.d (D.at (Value.string ⟨⟨[0]⟩⟩)))], [], none⟩, ⟨some 9, .mov, [.t 10], [0], none⟩, ⟨some 11, .ext 0, [.t 9], [1], none⟩, ⟨some 12, .ext 1, [.t 9], [1], none⟩, ⟨some 3, .mov, [.t 11], [2, 0, 0, 1, 2], none⟩, ⟨some 4, .mov, [.t 12], [3, 4, 0, 1, 2, 3, 4], none⟩] false).seq
  ((AC.region [⟨some 13, .mov, [.t 2], [], none⟩, ⟨some 14, .bin .eql, [.t 13, ci 0], [0], none⟩, ⟨some 15, .mov, [.t 14], [1], none⟩, ⟨some 16, .mov, [.t 1], [2], some (2, 15, true)⟩, ⟨some 17, .bin .eql, [.t 16, AV.c (V.d (D.at (Value.string ⟨⟨[0]⟩⟩)))], [3, 2], some (2, 15, true)⟩, ⟨some 18, .pick, [.t 15, .t 17, cb false], [2, 4], none⟩, ⟨some 19, .mov, [.t 18], [5, 2], none⟩, ⟨some 20, .mov, [.t 4], [6], some (6, 19, true)⟩, ⟨some 21, .bin .eql, [.t 20, ci 0], [7, 6], some (6, 19, true)⟩, ⟨some 22, .pick, [.t 19, .t 21, cb false], [6, 8], none⟩, ⟨some 23, .mov, [.t 22], [9, 6], none⟩, ⟨some 24, .mov, [.t 3], [10], some (10, 23, true)⟩, ⟨some 25, .len, [.t 24], [11, 10], some (10, 23, true)⟩, ⟨some 26, .bin .eql, [.t 25, ci 0], [12, 10], some (10, 23, true)⟩, ⟨some 27, .pick, [.t 23, .t 26, cb false], [10, 13], none⟩, ⟨some 0, .mov, [.t 27], [14, 10, 0, 1, 2, 3, 4, 5, 6, 7, 8, 9, 10, 11, 12, 13, 14], none⟩] false).seq AC.ret)))
def rs_law41_sane : List RV := [.t 0]
theorem c_law41_sane : compile Try.prog (Go.Func.ntmps Try.f4) (Try.f4.body.getD .skip) = some ac_law41_sane := by kernel_rfl
theorem go_law41_sane {xs : List V} {bx bx' : U} {r : V} {ns : List O} (hxs : decide (xs.length ≤ Go.Func.ntmps Try.f4) = true) (hbx : BxOK bx bx') (h : ∀ cx : Cx, cx.m0 = ups M0 bx → Awp Try.prog cx ac_law41_sane (RetE rs_law41_sane r bx' ns) ⟨tl (idx 0 xs), ups M0 bx⟩) : Does Try.prog 4 xs bx r bx' ns :=
  does_of Try.func4 (by kernel_rfl : Try.f4.body = some (Try.f4.body.getD .skip)) rfl c_law41_sane (by kernel_rfl) (of_decide_eq_true hxs) hbx fun cx _ hm => h cx hm
def ac_script_Encode : AC :=
  (AC.region [⟨some 2, .mov, [AV.c (V.d (D.at (Value.string { data := { toList := [] } })))], [], none⟩, ⟨some 3, .mov, [ci 0], [0], none⟩] false).seq
  (((AC.region [⟨some 9, .mov, [.t 0], [], none⟩, ⟨some 10, .len, [.t 9], [0], none⟩, ⟨some 11, .bin .gtr, [.t 10, ci 512], [1], none⟩] false).seq
  (AC.cond (.t 11) ((AC.region [⟨some 2, .mov, [AV.c (V.d (D.at (Value.string { data := { toList := [] } })))], [], none⟩, ⟨some 3, .mov, [ci 4], [0, 0], none⟩] false).seq AC.ret) AC.skip)).seq
  ((AC.region [⟨some 12, .mov, [.t 0], [], none⟩, ⟨some 13, .len, [.t 12], [0], none⟩, ⟨some 14, .call 9, [AV.c (V.d (D.at (Value.string { data := { toList := [] } }))), .t 13], [1], none⟩, ⟨some 4, .mov, [.t 14], [2, 2, 0, 1, 2], none⟩] false).seq
  (((AC.region [⟨some 15, .mov, [.t 0], [], none⟩, ⟨some 16, .len, [.t 15], [0], none⟩, ⟨some 17, .mov, [ci 0], [], none⟩] false).seq
  (AC.block 0 ((AC.region [⟨some 18, .bin .lss, [.t 17, .t 16], [], none⟩] false).seq
  ((AC.cond (.t 18) AC.skip (AC.exit 0)).seq
  ((AC.block 1 ((AC.region [⟨some 19, .iad 7, [.t 15, .t 17], [], none⟩, ⟨some 20, .load 7 true, [.t 19], [0], none⟩, ⟨some 6, .alloc [I 0, I 0, V.nl 1, I 0, I 0, I 0, V.nl 2], [], [], none⟩, ⟨none, .store 7, [.t 6, .t 20], [2, 1, 0, 1, 2], none⟩] false).seq
  ((AC.region [⟨some 22, .mov, [.t 4], [], none⟩, ⟨some 23, .load 7 true, [.t 6], [], none⟩, ⟨some 24, .call 10, [.t 22, .t 23], [0, 1], none⟩, ⟨some 21, .mov, [.t 24], [2], none⟩, ⟨some 25, .ext 0, [.t 21], [3], none⟩, ⟨some 26, .ext 1, [.t 21], [3], none⟩, ⟨some 7, .mov, [.t 25], [4, 2, 0, 1, 2, 3, 4], none⟩, ⟨some 8, .mov, [.t 26], [5, 6, 0, 1, 2, 3, 4, 5, 6], none⟩] false).seq
  (((AC.region [⟨some 27, .mov, [.t 8], [], none⟩, ⟨some 28, .bin .neq, [.t 27, ci 0], [0], none⟩] false).seq
  (AC.cond (.t 28) ((AC.region [⟨some 29, .mov, [.t 8], [], none⟩, ⟨some 2, .mov, [AV.c (V.d (D.at (Value.string { data := { toList := [] } })))], [], none⟩, ⟨some 3, .mov, [.t 29], [0, 1, 0, 1], none⟩] false).seq AC.ret) AC.skip)).seq
  (AC.region [⟨some 30, .mov, [.t 7], [], none⟩, ⟨some 4, .mov, [.t 30], [0, 0], none⟩] false))))).seq
  (AC.region [⟨some 31, .bin .add, [.t 17, ci 1], [], none⟩, ⟨some 17, .mov, [.t 31], [0], none⟩] false)))).loop)).seq
  ((AC.region [⟨some 32, .mov, [.t 4], [], none⟩, ⟨some 2, .mov, [.t 32], [0, 0], none⟩, ⟨some 3, .mov, [ci 0], [1, 0, 1], none⟩] false).seq AC.ret))))
def rs_script_Encode : List RV := [.t 2, .t 3]
theorem c_script_Encode : compile Try.prog (Go.Func.ntmps Try.f5) (Try.f5.body.getD .skip) = some ac_script_Encode := by kernel_rfl
theorem go_script_Encode {xs : List V} {bx bx' : U} {r : V} {ns : List O} (hxs : decide (xs.length ≤ Go.Func.ntmps Try.f5) = true) (hbx : BxOK bx bx') (h : ∀ cx : Cx, cx.m0 = ups M0 bx → Awp Try.prog cx ac_script_Encode (RetE rs_script_Encode r bx' ns) ⟨tl (idx 0 xs), ups M0 bx⟩) : Does Try.prog 5 xs bx r bx' ns :=
  does_of Try.func5 (by kernel_rfl : Try.f5.body = some (Try.f5.body.getD .skip)) rfl c_script_Encode (by kernel_rfl) (of_decide_eq_true hxs) hbx fun cx _ hm => h cx hm
def ac_ref41_Encode : AC :=
  (AC.region [⟨some 2, .mov, [AV.c (V.d (D.at (Value.string { data := { toList := [] } })))], [], none⟩, ⟨some 3, .mov, [ci 0], [0], none⟩] false).seq
  (((AC.region [⟨some 8, .mov, [.t 0], [], none⟩, ⟨some 9, .len, [.t 8], [0], none⟩, ⟨some 10, .bin .gtr, [.t 9, ci 512], [1], none⟩] false).seq
  (AC.cond (.t 10) ((AC.region [⟨some 2, .mov, [AV.c (V.d (D.at (Value.string { data := { toList := [] } })))], [], none⟩, ⟨some 3, .mov, [ci 4], [0, 0], none⟩] false).seq AC.ret) AC.skip)).seq
  ((AC.region [⟨some 11, .mov, [.t 0], [], none⟩, ⟨some 12, .len, [.t 11], [0], none⟩, ⟨some 13, .call 11, [AV.c (V.d (D.at (Value.string { data := { toList := [] } }))), .t 12], [1], none⟩, ⟨some 4, .mov, [.t 13], [2, 2, 0, 1, 2], none⟩] false).seq
  (((AC.region [⟨some 5, .mov, [ci 0], [], none⟩] false).seq
  (AC.block 0 (((AC.region [⟨some 14, .mov, [.t 5], [], none⟩, ⟨some 15, .mov, [.t 0], [], none⟩, ⟨some 16, .len, [.t 15], [1], none⟩, ⟨some 17, .bin .lss, [.t 14, .t 16], [0, 2], none⟩] false).seq
  (AC.cond (.t 17) AC.skip (AC.exit 0))).seq
  ((AC.block 1 ((AC.region [⟨some 21, .mov, [.t 4], [], none⟩, ⟨some 22, .mov, [.t 0], [], none⟩, ⟨some 23, .mov, [.t 5], [], none⟩, ⟨some 24, .iad 7, [.t 22, .t 23], [1, 2], none⟩, ⟨some 25, .load 7 true, [.t 24], [3], none⟩, ⟨some 26, .call 12, [.t 21, .t 25], [0, 4], none⟩, ⟨some 20, .mov, [.t 26], [5], none⟩, ⟨some 27, .ext 0, [.t 20], [6], none⟩, ⟨some 28, .ext 1, [.t 20], [6], none⟩, ⟨some 6, .mov, [.t 27], [7, 5, 0, 1, 2, 3, 4, 5, 6, 7], none⟩, ⟨some 7, .mov, [.t 28], [8, 9, 0, 1, 2, 3, 4, 5, 6, 7, 8, 9], none⟩] false).seq
  (((AC.region [⟨some 29, .mov, [.t 7], [], none⟩, ⟨some 30, .bin .neq, [.t 29, ci 0], [0], none⟩] false).seq
  (AC.cond (.t 30) ((AC.region [⟨some 31, .mov, [.t 7], [], none⟩, ⟨some 2, .mov, [AV.c (V.d (D.at (Value.string { data := { toList := [] } })))], [], none⟩, ⟨some 3, .mov, [.t 31], [0, 1, 0, 1], none⟩] false).seq AC.ret) AC.skip)).seq
  (AC.region [⟨some 32, .mov, [.t 6], [], none⟩, ⟨some 4, .mov, [.t 32], [0, 0], none⟩] false)))).seq
  (AC.region [⟨some 18, .mov, [.t 5], [], none⟩, ⟨some 19, .bin .add, [.t 18, ci 1], [0], none⟩, ⟨some 5, .mov, [.t 19], [1, 0, 1], none⟩] false))).loop)).seq
  ((AC.region [⟨some 33, .mov, [.t 4], [], none⟩, ⟨some 2, .mov, [.t 33], [0, 0], none⟩, ⟨some 3, .mov, [ci 0], [1, 0, 1], none⟩] false).seq AC.ret))))
def rs_ref41_Encode : List RV := [.t 2, .t 3]
theorem c_ref41_Encode : compile Try.prog (Go.Func.ntmps Try.f6) (Try.f6.body.getD .skip) = some ac_ref41_Encode := by kernel_rfl
theorem go_ref41_Encode {xs : List V} {bx bx' : U} {r : V} {ns : List O} (hxs : decide (xs.length ≤ Go.Func.ntmps Try.f6) = true) (hbx : BxOK bx bx') (h : ∀ cx : Cx, cx.m0 = ups M0 bx → Awp Try.prog cx ac_ref41_Encode (RetE rs_ref41_Encode r bx' ns) ⟨tl (idx 0 xs), ups M0 bx⟩) : Does Try.prog 6 xs bx r bx' ns :=
  does_of Try.func6 (by kernel_rfl : Try.f6.body = some (Try.f6.body.getD .skip)) rfl c_ref41_Encode (by kernel_rfl) (of_decide_eq_true hxs) hbx fun cx _ hm => h cx hm
def ac_script_Decode : AC :=
  (AC.region [⟨some 2, .mov, [AV.c (V.nl 7)], [], none⟩, ⟨some 3, .mov, [ci 0], [0], none⟩] false).seq
  ((AC.region [⟨some 7, .mov, [.t 0], [], none⟩, ⟨some 8, .build [V.d (D.at (Value.string { data := { toList := [] } })), I 0, I 0] [(0, 1)], [.t 7], [0], none⟩, ⟨some 9, .box, [.t 8], [1], none⟩, ⟨some 4, .mov, [.t 9], [2, 0, 1, 2], none⟩] false).seq
  ((AC.region [⟨some 5, .mov, [AV.c (V.nl 7)], [], none⟩] false).seq
  (((AC.region [⟨some 10, .mov, [.t 4], [], none⟩, ⟨some 11, .call 13, [.t 10, ci 512], [0], none⟩, ⟨some 6, .mov, [.t 11], [1, 1, 0, 1], none⟩] false).seq
  (AC.block 0 (((AC.region [⟨some 12, .mov, [.t 6], [], none⟩, ⟨some 13, .bin .gtr, [.t 12, ci 0], [0], none⟩, ⟨some 14, .mov, [.t 13], [1], none⟩, ⟨some 15, .mov, [.t 4], [2], some (2, 14, true)⟩, ⟨some 16, .nck, [.t 15], [3, 2], some (2, 14, true)⟩, ⟨some 17, .fad 2, [.t 16], [4, 2], some (2, 14, true)⟩, ⟨some 18, .load 1 false, [.t 17], [5, 2], some (2, 14, true)⟩, ⟨some 19, .bin .eql, [.t 18, ci 0], [6, 2], some (2, 14, true)⟩, ⟨some 20, .pick, [.t 14, .t 19, cb false], [2, 7], none⟩] false).seq
  (AC.cond (.t 20) AC.skip (AC.exit 0))).seq
  ((AC.block 1 (AC.region [⟨some 23, .mov, [.t 5], [], none⟩, ⟨some 24, .mov, [.t 4], [], none⟩, ⟨some 25, .call 14, [.t 24], [1], none⟩, ⟨some 26, .bsl 7 [I 0, I 0, V.nl 1, I 0, I 0, I 0, V.nl 2] 1 [0], [.t 25], [2], none⟩, ⟨some 27, .app 7 88, [.t 23, .t 26], [0, 3, 2], none⟩, ⟨some 5, .mov, [.t 27], [4, 4, 0, 1, 2, 3, 4], none⟩] false)).seq
  (AC.region [⟨some 21, .mov, [.t 6], [], none⟩, ⟨some 22, .bin .sub, [.t 21, ci 1], [0], none⟩, ⟨some 6, .mov, [.t 22], [1, 0, 1], none⟩] false))).loop)).seq
  (((AC.region [⟨some 28, .mov, [.t 4], [], none⟩, ⟨some 29, .nck, [.t 28], [0], none⟩, ⟨some 30, .fad 2, [.t 29], [1], none⟩, ⟨some 31, .load 1 false, [.t 30], [2], none⟩, ⟨some 32, .bin .eql, [.t 31, ci 0], [3], none⟩, ⟨some 33, .mov, [.t 32], [4], none⟩, ⟨some 34, .mov, [.t 4], [5], some (5, 33, true)⟩, ⟨some 35, .nck, [.t 34], [6, 5], some (5, 33, true)⟩, ⟨some 36, .fad 1, [.t 35], [7, 5], some (5, 33, true)⟩, ⟨some 37, .load 1 false, [.t 36], [8, 5], some (5, 33, true)⟩, ⟨some 38, .mov, [.t 0], [5], some (5, 33, true)⟩, ⟨some 39, .lens, [.t 38], [10, 5], some (5, 33, true)⟩, ⟨some 40, .bin .neq, [.t 37, .t 39], [9, 11, 5], some (5, 33, true)⟩, ⟨some 41, .pick, [.t 33, .t 40, cb false], [5, 12], none⟩] false).seq
  (AC.cond (.t 41) (AC.region [⟨some 42, .mov, [.t 4], [], none⟩, ⟨some 43, .nck, [.t 42], [0, 0], none⟩, ⟨some 44, .fad 2, [.t 43], [1, 0], none⟩, ⟨none, .store 1, [.t 44, ci 2], [2, 0], none⟩] false) AC.skip)).seq
  (((AC.region [⟨some 45, .mov, [.t 4], [], none⟩, ⟨some 46, .nck, [.t 45], [0], none⟩, ⟨some 47, .fad 2, [.t 46], [1], none⟩, ⟨some 48, .load 1 false, [.t 47], [2], none⟩, ⟨some 49, .bin .neq, [.t 48, ci 0], [3], none⟩] false).seq
  (AC.cond (.t 49) ((AC.region [⟨some 50, .mov, [.t 4], [], none⟩, ⟨some 51, .nck, [.t 50], [0], none⟩, ⟨some 52, .fad 2, [.t 51], [1], none⟩, ⟨some 53, .load 1 false, [.t 52], [2], none⟩, ⟨some 2, .mov, [AV.c (V.nl 7)], [], none⟩, ⟨some 3, .mov, [.t 53], [3, 4, 0, 1, 2, 3, 4], none⟩] true).seq AC.ret) AC.skip)).seq
  ((AC.region [⟨some 54, .mov, [.t 5], [], none⟩, ⟨some 2, .mov, [.t 54], [0, 0], none⟩, ⟨some 3, .mov, [ci 0], [1, 0, 1], none⟩] false).seq AC.ret))))))
def rs_script_Decode : List RV := [.t 2, .t 3]
theorem c_script_Decode : compile Try.prog (Go.Func.ntmps Try.f7) (Try.f7.body.getD .skip) = some ac_script_Decode := by kernel_rfl
theorem go_script_Decode {xs : List V} {bx bx' : U} {r : V} {ns : List O} (hxs : decide (xs.length ≤ Go.Func.ntmps Try.f7) = true) (hbx : BxOK bx bx') (h : ∀ cx : Cx, cx.m0 = ups M0 bx → Awp Try.prog cx ac_script_Decode (RetE rs_script_Decode r bx' ns) ⟨tl (idx 0 xs), ups M0 bx⟩) : Does Try.prog 7 xs bx r bx' ns :=
  does_of Try.func7 (by kernel_rfl : Try.f7.body = some (Try.f7.body.getD .skip)) rfl c_script_Decode (by kernel_rfl) (of_decide_eq_true hxs) hbx fun cx _ hm => h cx hm
def ac_ref41_Same : AC :=
  (AC.region [⟨some 4, .mov, [cb false], [], none⟩] false).seq
  (((AC.region [⟨some 6, .mov, [.t 0], [], none⟩, ⟨some 7, .len, [.t 6], [0], none⟩, ⟨some 8, .mov, [.t 1], [], none⟩, ⟨some 9, .len, [.t 8], [2], none⟩, ⟨some 10, .bin .neq, [.t 7, .t 9], [1, 3], none⟩] false).seq
  (AC.cond (.t 10) ((AC.region [⟨some 4, .mov, [cb false], [], none⟩] false).seq AC.ret) AC.skip)).seq
  (((AC.region [⟨some 5, .mov, [ci 0], [], none⟩] false).seq
  (AC.block 0 (((AC.region [⟨some 11, .mov, [.t 5], [], none⟩, ⟨some 12, .mov, [.t 0], [], none⟩, ⟨some 13, .len, [.t 12], [1], none⟩, ⟨some 14, .bin .lss, [.t 11, .t 13], [0, 2], none⟩] false).seq
  (AC.cond (.t 14) AC.skip (AC.exit 0))).seq
  ((AC.block 1 ((AC.region [⟨some 17, .mov, [.t 0], [], none⟩, ⟨some 18, .mov, [.t 5], [], none⟩, ⟨some 19, .iad 7, [.t 17, .t 18], [0, 1], none⟩, ⟨some 20, .load 7 true, [.t 19], [2], none⟩, ⟨some 21, .mov, [.t 1], [], none⟩, ⟨some 22, .mov, [.t 5], [], none⟩, ⟨some 23, .iad 7, [.t 21, .t 22], [4, 5], none⟩, ⟨some 24, .load 7 true, [.t 23], [6], none⟩, ⟨some 25, .call 15, [.t 20, .t 24], [3, 7], none⟩, ⟨some 26, .un .not, [.t 25], [8], none⟩] true).seq
  (AC.cond (.t 26) ((AC.region [⟨some 4, .mov, [cb false], [], none⟩] false).seq AC.ret) AC.skip))).seq
  (AC.region [⟨some 15, .mov, [.t 5], [], none⟩, ⟨some 16, .bin .add, [.t 15, ci 1], [0], none⟩, ⟨some 5, .mov, [.t 16], [1, 0, 1], none⟩] false))).loop)).seq
  ((AC.region [⟨some 4, .mov, [cb true], [], none⟩] false).seq AC.ret)))
def rs_ref41_Same : List RV := [.t 4]
theorem c_ref41_Same : compile Try.prog (Go.Func.ntmps Try.f8) (Try.f8.body.getD .skip) = some ac_ref41_Same := by kernel_rfl
theorem go_ref41_Same {xs : List V} {bx bx' : U} {r : V} {ns : List O} (hxs : decide (xs.length ≤ Go.Func.ntmps Try.f8) = true) (hbx : BxOK bx bx') (h : ∀ cx : Cx, cx.m0 = ups M0 bx → Awp Try.prog cx ac_ref41_Same (RetE rs_ref41_Same r bx' ns) ⟨tl (idx 0 xs), ups M0 bx⟩) : Does Try.prog 8 xs bx r bx' ns :=
  does_of Try.func8 (by kernel_rfl : Try.f8.body = some (Try.f8.body.getD .skip)) rfl c_ref41_Same (by kernel_rfl) (of_decide_eq_true hxs) hbx fun cx _ hm => h cx hm
def ac_script_Put : AC :=
  (AC.region [⟨some 3, .box, [.t 1], [], none⟩, ⟨some 4, .mov, [AV.c (V.d (D.at (Value.string { data := { toList := [] } })))], [], none⟩, ⟨some 5, .mov, [ci 0], [1], none⟩] false).seq
  (((AC.region [⟨some 11, .load 7 true, [.t 3], [], none⟩, ⟨some 12, .call 17, [.t 11], [0], none⟩, ⟨some 6, .mov, [.t 12], [1, 1, 0, 1], none⟩] false).seq
  ((AC.region [⟨some 13, .mov, [.t 6], [], none⟩, ⟨some 14, .bin .neq, [.t 13, ci 0], [0], none⟩] false).seq
  (AC.cond (.t 14) ((AC.region [⟨some 15, .mov, [.t 6], [], none⟩, ⟨some 4, .mov, [AV.c (V.d (D.at (Value.string { data := { toList := [] } })))], [], none⟩, ⟨some 5, .mov, [.t 15], [0, 1, 0, 1], none⟩] false).seq AC.ret) AC.skip))).seq
  ((AC.region [⟨some 16, .mov, [.t 0], [], none⟩, ⟨some 17, .fad 0, [.t 3], [], none⟩, ⟨some 18, .load 1 false, [.t 17], [1], none⟩, ⟨some 19, .call 9, [.t 16, .t 18], [0, 2], none⟩, ⟨some 20, .fad 1, [.t 3], [], none⟩, ⟨some 21, .load 1 false, [.t 20], [4], none⟩, ⟨some 22, .call 9, [.t 19, .t 21], [3, 5, 3], none⟩, ⟨some 0, .mov, [.t 22], [6, 6, 0, 1, 2, 3, 4, 5, 6], none⟩] true).seq
  ((AC.region [⟨some 23, .mov, [.t 0], [], none⟩, ⟨some 24, .fad 2, [.t 3], [], none⟩, ⟨some 25, .load 1 false, [.t 24], [1], none⟩, ⟨some 26, .call 18, [.t 23, .t 25], [0, 2], none⟩, ⟨some 0, .mov, [.t 26], [3, 3, 0, 1, 2, 3], none⟩] false).seq
  (((AC.region [⟨some 27, .fad 3, [.t 3], [], none⟩, ⟨some 28, .fad 0, [.t 27], [0], none⟩, ⟨some 29, .load 1 false, [.t 28], [1], none⟩, ⟨some 30, .fad 3, [.t 3], [], none⟩, ⟨some 31, .fad 1, [.t 30], [3], none⟩, ⟨some 32, .load 1 false, [.t 31], [4], none⟩, ⟨some 33, .fad 3, [.t 3], [], none⟩, ⟨some 34, .fad 2, [.t 33], [6], none⟩, ⟨some 35, .load 1 false, [.t 34], [7], none⟩, ⟨some 36, .fad 3, [.t 3], [], none⟩, ⟨some 37, .fad 3, [.t 36], [9], none⟩, ⟨some 38, .load 1 false, [.t 37], [10], none⟩, ⟨some 39, .len, [.t 38], [11], none⟩, ⟨some 40, .build [I 0, I 0, I 0, I 0] [(0, 1), (1, 1), (2, 1), (3, 1)], [.t 29, .t 32, .t 35, .t 39], [2, 5, 8, 12], none⟩, ⟨some 41, .mov, [ci 0], [], none⟩] false).seq
  (AC.block 0 ((AC.region [⟨some 42, .bin .lss, [.t 41, ci 4], [], none⟩] false).seq
  ((AC.cond (.t 42) AC.skip (AC.exit 0)).seq
  ((AC.block 1 ((AC.region [⟨some 43, .ixa 4 1 false, [.t 40, .t 41], [], none⟩, ⟨some 8, .mov, [.t 43], [0, 0], none⟩] false).seq
  (AC.region [⟨some 44, .mov, [.t 0], [], none⟩, ⟨some 45, .mov, [.t 8], [], none⟩, ⟨some 46, .call 9, [.t 44, .t 45], [0, 1], none⟩, ⟨some 0, .mov, [.t 46], [2, 2, 0, 1, 2], none⟩] false))).seq
  (AC.region [⟨some 47, .bin .add, [.t 41, ci 1], [], none⟩, ⟨some 41, .mov, [.t 47], [0], none⟩] false)))).loop)).seq
  (((AC.region [⟨some 48, .fad 3, [.t 3], [], none⟩, ⟨some 49, .fad 3, [.t 48], [0], none⟩, ⟨some 50, .load 1 false, [.t 49], [1], none⟩, ⟨some 51, .len, [.t 50], [2], none⟩, ⟨some 52, .mov, [ci 0], [], none⟩] false).seq
  (AC.block 2 ((AC.region [⟨some 53, .bin .lss, [.t 52, .t 51], [], none⟩] false).seq
  ((AC.cond (.t 53) AC.skip (AC.exit 2)).seq
  ((AC.block 3 ((AC.region [⟨some 54, .iad 2, [.t 50, .t 52], [], none⟩, ⟨some 55, .load 2 true, [.t 54], [0], none⟩, ⟨some 10, .alloc [I 0, V.nl 1], [], [], none⟩, ⟨none, .store 2, [.t 10, .t 55], [2, 1, 0, 1, 2], none⟩] false).seq
  (AC.region [⟨some 56, .mov, [.t 0], [], none⟩, ⟨some 57, .fad 0, [.t 10], [], none⟩, ⟨some 58, .load 1 false, [.t 57], [1], none⟩, ⟨some 59, .call 9, [.t 56, .t 58], [0, 2], none⟩, ⟨some 60, .fad 1, [.t 10], [], none⟩, ⟨some 61, .load 1 false, [.t 60], [4], none⟩, ⟨some 62, .call 18, [.t 59, .t 61], [3, 5, 3], none⟩, ⟨some 0, .mov, [.t 62], [6, 6, 0, 1, 2, 3, 4, 5, 6], none⟩] true))).seq
  (AC.region [⟨some 63, .bin .add, [.t 52, ci 1], [], none⟩, ⟨some 52, .mov, [.t 63], [0], none⟩] false)))).loop)).seq
  ((AC.region [⟨some 64, .mov, [.t 0], [], none⟩, ⟨some 4, .mov, [.t 64], [0, 0], none⟩, ⟨some 5, .mov, [ci 0], [1, 0, 1], none⟩] false).seq AC.ret))))))
def rs_script_Put : List RV := [.t 4, .t 5]
theorem c_script_Put : compile Try.prog (Go.Func.ntmps Try.f10) (Try.f10.body.getD .skip) = some ac_script_Put := by kernel_rfl
theorem go_script_Put {xs : List V} {bx bx' : U} {r : V} {ns : List O} (hxs : decide (xs.length ≤ Go.Func.ntmps Try.f10) = true) (hbx : BxOK bx bx') (h : ∀ cx : Cx, cx.m0 = ups M0 bx → Awp Try.prog cx ac_script_Put (RetE rs_script_Put r bx' ns) ⟨tl (idx 0 xs), ups M0 bx⟩) : Does Try.prog 10 xs bx r bx' ns :=
  does_of Try.func10 (by kernel_rfl : Try.f10.body = some (Try.f10.body.getD .skip)) rfl c_script_Put (by kernel_rfl) (of_decide_eq_true hxs) hbx fun cx _ hm => h cx hm
def ac_ref41_Put : AC :=
  (AC.region [⟨some 3, .box, [.t 1], [], none⟩, ⟨some 4, .mov, [AV.c (V.d (D.at (Value.string { data := { toList := [] } })))], [], none⟩, ⟨some 5, .mov, [ci 0], [1], none⟩] false).seq
  (((AC.region [⟨some 9, .load 7 true, [.t 3], [], none⟩, ⟨some 10, .call 19, [.t 9], [0], none⟩, ⟨some 6, .mov, [.t 10], [1, 1, 0, 1], none⟩] false).seq
  ((AC.region [⟨some 11, .mov, [.t 6], [], none⟩, ⟨some 12, .bin .neq, [.t 11, ci 0], [0], none⟩] false).seq
  (AC.cond (.t 12) ((AC.region [⟨some 13, .mov, [.t 6], [], none⟩, ⟨some 4, .mov, [AV.c (V.d (D.at (Value.string { data := { toList := [] } })))], [], none⟩, ⟨some 5, .mov, [.t 13], [0, 1, 0, 1], none⟩] false).seq AC.ret) AC.skip))).seq
  ((AC.region [⟨some 14, .fad 3, [.t 3], [], none⟩, ⟨some 15, .load 4 true, [.t 14], [0], none⟩, ⟨some 7, .alloc [I 0, I 0, I 0, V.nl 2], [], [], none⟩, ⟨none, .store 4, [.t 7, .t 15], [2, 1, 0, 1, 2], none⟩] false).seq
  ((AC.region [⟨some 16, .mov, [.t 0], [], none⟩, ⟨some 17, .fad 0, [.t 3], [], none⟩, ⟨some 18, .load 1 false, [.t 17], [1], none⟩, ⟨some 19, .call 11, [.t 16, .t 18], [0, 2], none⟩, ⟨some 20, .fad 1, [.t 3], [], none⟩, ⟨some 21, .load 1 false, [.t 20], [4], none⟩, ⟨some 22, .call 11, [.t 19, .t 21], [3, 5, 3], none⟩, ⟨some 23, .fad 2, [.t 3], [], none⟩, ⟨some 24, .load 1 false, [.t 23], [7], none⟩, ⟨some 25, .call 20, [.t 22, .t 24], [6, 8, 6], none⟩, ⟨some 0, .mov, [.t 25], [9, 9, 0, 1, 2, 3, 4, 5, 6, 7, 8, 9], none⟩] true).seq
  ((AC.region [⟨some 26, .mov, [.t 0], [], none⟩, ⟨some 27, .fad 0, [.t 7], [], none⟩, ⟨some 28, .load 1 false, [.t 27], [1], none⟩, ⟨some 29, .call 11, [.t 26, .t 28], [0, 2], none⟩, ⟨some 30, .fad 1, [.t 7], [], none⟩, ⟨some 31, .load 1 false, [.t 30], [4], none⟩, ⟨some 32, .call 11, [.t 29, .t 31], [3, 5, 3], none⟩, ⟨some 33, .fad 2, [.t 7], [], none⟩, ⟨some 34, .load 1 false, [.t 33], [7], none⟩, ⟨some 35, .call 11, [.t 32, .t 34], [6, 8, 6], none⟩, ⟨some 36, .fad 3, [.t 7], [], none⟩, ⟨some 37, .load 1 false, [.t 36], [10], none⟩, ⟨some 38, .len, [.t 37], [11], none⟩, ⟨some 39, .call 11, [.t 35, .t 38], [9, 12, 9], none⟩, ⟨some 0, .mov, [.t 39], [13, 13, 0, 1, 2, 3, 4, 5, 6, 7, 8, 9, 10, 11, 12, 13], none⟩] true).seq
  (((AC.region [⟨some 8, .mov, [ci 0], [], none⟩] false).seq
  (AC.block 0 (((AC.region [⟨some 40, .mov, [.t 8], [], none⟩, ⟨some 41, .fad 3, [.t 7], [], none⟩, ⟨some 42, .load 1 false, [.t 41], [1], none⟩, ⟨some 43, .len, [.t 42], [2], none⟩, ⟨some 44, .bin .lss, [.t 40, .t 43], [0, 3], none⟩] false).seq
  (AC.cond (.t 44) AC.skip (AC.exit 0))).seq
  ((AC.block 1 (AC.region [⟨some 47, .mov, [.t 0], [], none⟩, ⟨some 48, .fad 3, [.t 7], [], none⟩, ⟨some 49, .load 1 false, [.t 48], [1], none⟩, ⟨some 50, .mov, [.t 8], [], none⟩, ⟨some 51, .iad 2, [.t 49, .t 50], [2, 3], none⟩, ⟨some 52, .fad 0, [.t 51], [4], none⟩, ⟨some 53, .load 1 false, [.t 52], [5], none⟩, ⟨some 54, .call 11, [.t 47, .t 53], [0, 6], none⟩, ⟨some 55, .fad 3, [.t 7], [], none⟩, ⟨some 56, .load 1 false, [.t 55], [8], none⟩, ⟨some 57, .mov, [.t 8], [], none⟩, ⟨some 58, .iad 2, [.t 56, .t 57], [9, 10], none⟩, ⟨some 59, .fad 1, [.t 58], [11], none⟩, ⟨some 60, .load 1 false, [.t 59], [12], none⟩, ⟨some 61, .call 20, [.t 54, .t 60], [7, 13, 7], none⟩, ⟨some 0, .mov, [.t 61], [14, 14, 0, 1, 2, 3, 4, 5, 6, 7, 8, 9, 10, 11, 12, 13, 14], none⟩] true)).seq
  (AC.region [⟨some 45, .mov, [.t 8], [], none⟩, ⟨some 46, .bin .add, [.t 45, ci 1], [0], none⟩, ⟨some 8, .mov, [.t 46], [1, 0, 1], none⟩] false))).loop)).seq
  ((AC.region [⟨some 62, .mov, [.t 0], [], none⟩, ⟨some 4, .mov, [.t 62], [0, 0], none⟩, ⟨some 5, .mov, [ci 0], [1, 0, 1], none⟩] false).seq AC.ret))))))
def rs_ref41_Put : List RV := [.t 4, .t 5]
theorem c_ref41_Put : compile Try.prog (Go.Func.ntmps Try.f12) (Try.f12.body.getD .skip) = some ac_ref41_Put := by kernel_rfl
theorem go_ref41_Put {xs : List V} {bx bx' : U} {r : V} {ns : List O} (hxs : decide (xs.length ≤ Go.Func.ntmps Try.f12) = true) (hbx : BxOK bx bx') (h : ∀ cx : Cx, cx.m0 = ups M0 bx → Awp Try.prog cx ac_ref41_Put (RetE rs_ref41_Put r bx' ns) ⟨tl (idx 0 xs), ups M0 bx⟩) : Does Try.prog 12 xs bx r bx' ns :=
  does_of Try.func12 (by kernel_rfl : Try.f12.body = some (Try.f12.body.getD .skip)) rfl c_ref41_Put (by kernel_rfl) (of_decide_eq_true hxs) hbx fun cx _ hm => h cx hm
def ac_script_reader_count : AC :=
  (AC.region [⟨some 4, .mov, [ci 0], [], none⟩] false).seq
  ((AC.region [⟨some 6, .mov, [.t 0], [], none⟩, ⟨some 7, .call 21, [.t 6], [0], none⟩, ⟨some 5, .mov, [.t 7], [1, 1, 0, 1], none⟩] false).seq
  (((AC.region [⟨some 8, .mov, [.t 0], [], none⟩, ⟨some 9, .nck, [.t 8], [0], none⟩, ⟨some 10, .fad 2, [.t 9], [1], none⟩, ⟨some 11, .load 1 false, [.t 10], [2], none⟩, ⟨some 12, .bin .eql, [.t 11, ci 0], [3], none⟩, ⟨some 13, .mov, [.t 12], [4], none⟩, ⟨some 14, .mov, [.t 5], [5], some (5, 13, true)⟩, ⟨some 15, .bin .lss, [.t 14, ci 0], [6, 5], some (5, 13, true)⟩, ⟨some 16, .mov, [.t 15], [7, 5, 5], some (5, 13, true)⟩, ⟨some 17, .mov, [.t 5], [8], some (8, 16, false)⟩, ⟨some 18, .mov, [.t 1], [8], some (8, 16, false)⟩, ⟨some 19, .bin .gtr, [.t 17, .t 18], [9, 10, 8], some (8, 16, false)⟩, ⟨some 20, .pick, [.t 16, cb true, .t 19], [8, 11, 5], some (5, 13, true)⟩, ⟨some 21, .pick, [.t 13, .t 20, cb false], [5, 12], none⟩] false).seq
  (AC.cond (.t 21) ((AC.region [⟨some 22, .mov, [.t 0], [], none⟩, ⟨some 23, .nck, [.t 22], [0, 0], none⟩, ⟨some 24, .fad 2, [.t 23], [1, 0], none⟩, ⟨none, .store 1, [.t 24, ci 4], [2, 0], none⟩] false).seq
  ((AC.region [⟨some 4, .mov, [ci 0], [], none⟩] false).seq AC.ret)) AC.skip)).seq
  ((AC.region [⟨some 25, .mov, [.t 5], [], none⟩, ⟨some 4, .mov, [.t 25], [0, 0], none⟩] false).seq AC.ret)))
def rs_script_reader_count : List RV := [.t 4]
theorem c_script_reader_count : compile Try.prog (Go.Func.ntmps Try.f13) (Try.f13.body.getD .skip) = some ac_script_reader_count := by kernel_rfl
theorem go_script_reader_count {xs : List V} {bx bx' : U} {r : V} {ns : List O} (hxs : decide (xs.length ≤ Go.Func.ntmps Try.f13) = true) (hbx : BxOK bx bx') (h : ∀ cx : Cx, cx.m0 = ups M0 bx → Awp Try.prog cx ac_script_reader_count (RetE rs_script_reader_count r bx' ns) ⟨tl (idx 0 xs), ups M0 bx⟩) : Does Try.prog 13 xs bx r bx' ns :=
  does_of Try.func13 (by kernel_rfl : Try.f13.body = some (Try.f13.body.getD .skip)) rfl c_script_reader_count (by kernel_rfl) (of_decide_eq_true hxs) hbx fun cx _ hm => h cx hm
def ac_script_reader_step : AC :=
  (AC.region [⟨some 2, .alloc [I 0, I 0, V.nl 1, I 0, I 0, I 0, V.nl 2], [], [], none⟩] false).seq
  ((AC.region [⟨some 9, .mov, [.t 0], [], none⟩, ⟨some 10, .call 21, [.t 9], [0], none⟩, ⟨some 11, .mov, [.t 0], [], none⟩, ⟨some 12, .call 21, [.t 11], [2, 1], none⟩, ⟨some 13, .build [I 0, I 0, V.nl 1, I 0, I 0, I 0, V.nl 2] [(0, 1), (1, 1)], [.t 10, .t 12], [1, 3], none⟩, ⟨some 3, .alloc [I 0, I 0, V.nl 1, I 0, I 0, I 0, V.nl 2], [], [], none⟩, ⟨none, .store 7, [.t 3, .t 13], [5, 4, 3, 0, 1, 2, 3, 4, 5], none⟩] false).seq
  ((AC.region [⟨some 14, .mov, [.t 0], [], none⟩, ⟨some 15, .call 22, [.t 14, ci 16], [0], none⟩, ⟨some 16, .fad 2, [.t 3], [0, 1], none⟩, ⟨none, .store 1, [.t 16, .t 15], [2, 1, 1, 0, 1], none⟩] false).seq
  ((AC.region [⟨some 17, .fad 3, [.t 3], [], none⟩, ⟨some 4, .mov, [.t 17], [0, 0], none⟩] false).seq
  (((AC.region [⟨some 18, .mov, [.t 4], [], none⟩, ⟨some 19, .nck, [.t 18], [0], none⟩, ⟨some 20, .fad 0, [.t 19], [1], none⟩, ⟨some 21, .mov, [.t 4], [], none⟩, ⟨some 22, .nck, [.t 21], [3], none⟩, ⟨some 23, .fad 1, [.t 22], [4], none⟩, ⟨some 24, .mov, [.t 4], [], none⟩, ⟨some 25, .nck, [.t 24], [6], none⟩, ⟨some 26, .fad 2, [.t 25], [7], none⟩, ⟨some 27, .build [V.d (D.at (Value.pointer none)), V.d (D.at (Value.pointer none)), V.d (D.at (Value.pointer none))] [(0, 1), (1, 1), (2, 1)], [.t 20, .t 23, .t 26], [2, 5, 8], none⟩, ⟨some 28, .mov, [ci 0], [], none⟩] true).seq
  (AC.block 0 ((AC.region [⟨some 29, .bin .lss, [.t 28, ci 3], [], none⟩] false).seq
  ((AC.cond (.t 29) AC.skip (AC.exit 0)).seq
  ((AC.block 1 ((AC.region [⟨some 30, .ixa 3 1 false, [.t 27, .t 28], [], none⟩, ⟨some 6, .mov, [.t 30], [0, 0], none⟩] false).seq
  (AC.region [⟨some 31, .mov, [.t 6], [], none⟩, ⟨some 32, .mov, [.t 0], [], none⟩, ⟨some 33, .call 21, [.t 32], [1], none⟩, ⟨some 34, .nck, [.t 31], [0, 0, 1, 2], none⟩, ⟨none, .store 1, [.t 34, .t 33], [3, 2, 2, 0, 1, 2], none⟩] false))).seq
  (AC.region [⟨some 35, .bin .add, [.t 28, ci 1], [], none⟩, ⟨some 28, .mov, [.t 35], [0], none⟩] false)))).loop)).seq
  (((AC.region [⟨some 36, .mov, [.t 0], [], none⟩, ⟨some 37, .call 13, [.t 36, ci 1024], [0], none⟩, ⟨some 7, .mov, [.t 37], [1, 1, 0, 1], none⟩] false).seq
  (AC.block 2 (((AC.region [⟨some 38, .mov, [.t 7], [], none⟩, ⟨some 39, .bin .gtr, [.t 38, ci 0], [0], none⟩, ⟨some 40, .mov, [.t 39], [1], none⟩, ⟨some 41, .mov, [.t 0], [2], some (2, 40, true)⟩, ⟨some 42, .nck, [.t 41], [3, 2], some (2, 40, true)⟩, ⟨some 43, .fad 2, [.t 42], [4, 2], some (2, 40, true)⟩, ⟨some 44, .load 1 false, [.t 43], [5, 2], some (2, 40, true)⟩, ⟨some 45, .bin .eql, [.t 44, ci 0], [6, 2], some (2, 40, true)⟩, ⟨some 46, .pick, [.t 40, .t 45, cb false], [2, 7], none⟩] false).seq
  (AC.cond (.t 46) AC.skip (AC.exit 2))).seq
  ((AC.block 3 ((AC.region [⟨some 49, .mov, [.t 0], [], none⟩, ⟨some 50, .call 21, [.t 49], [0], none⟩, ⟨some 8, .mov, [.t 50], [1, 1, 0, 1], none⟩] false).seq
  (AC.region [⟨some 51, .mov, [.t 4], [], none⟩, ⟨some 52, .mov, [.t 4], [], none⟩, ⟨some 53, .nck, [.t 52], [1], none⟩, ⟨some 54, .fad 3, [.t 53], [2], none⟩, ⟨some 55, .load 1 false, [.t 54], [3], none⟩, ⟨some 56, .mov, [.t 8], [], none⟩, ⟨some 57, .mov, [.t 0], [], none⟩, ⟨some 58, .call 22, [.t 57, ci 64], [6], none⟩, ⟨some 59, .build [I 0, V.nl 1] [(0, 1), (1, 1)], [.t 56, .t 58], [5, 7], none⟩, ⟨some 60, .bsl 2 [I 0, V.nl 1] 1 [0], [.t 59], [8], none⟩, ⟨some 61, .app 2 32, [.t 55, .t 60], [4, 9, 7], none⟩, ⟨some 62, .nck, [.t 51], [0, 0, 1, 2, 3, 4, 5, 6, 7, 8, 9, 10], none⟩, ⟨some 63, .fad 3, [.t 62], [11, 0, 1, 2, 3, 4, 5, 6, 7, 8, 9, 10], none⟩, ⟨none, .store 1, [.t 63, .t 61], [12, 10, 10, 0, 1, 2, 3, 4, 5, 6, 7, 8, 9, 10], none⟩] true))).seq
  (AC.region [⟨some 47, .mov, [.t 7], [], none⟩, ⟨some 48, .bin .sub, [.t 47, ci 1], [0], none⟩, ⟨some 7, .mov, [.t 48], [1, 0, 1], none⟩] false))).loop)).seq
  ((AC.region [⟨some 64, .load 7 true, [.t 3], [], none⟩, ⟨none, .store 7, [.t 2, .t 64], [0, 0], none⟩] false).seq AC.ret))))))
def rs_script_reader_step : List RV := [.c 2 7 true]
theorem c_script_reader_step : compile Try.prog (Go.Func.ntmps Try.f14) (Try.f14.body.getD .skip) = some ac_script_reader_step := by kernel_rfl
theorem go_script_reader_step {xs : List V} {bx bx' : U} {r : V} {ns : List O} (hxs : decide (xs.length ≤ Go.Func.ntmps Try.f14) = true) (hbx : BxOK bx bx') (h : ∀ cx : Cx, cx.m0 = ups M0 bx → Awp Try.prog cx ac_script_reader_step (RetE rs_script_reader_step r bx' ns) ⟨tl (idx 0 xs), ups M0 bx⟩) : Does Try.prog 14 xs bx r bx' ns :=
  does_of Try.func14 (by kernel_rfl : Try.f14.body = some (Try.f14.body.getD .skip)) rfl c_script_reader_step (by kernel_rfl) (of_decide_eq_true hxs) hbx fun cx _ hm => h cx hm
def ac_ref41_One : AC :=
  (AC.region [⟨some 2, .box, [.t 0], [], none⟩, ⟨some 3, .box, [.t 1], [], none⟩, ⟨some 4, .mov, [cb false], [], none⟩] false).seq
  ((AC.region [⟨some 5, .fad 0, [.t 2], [], none⟩, ⟨some 6, .load 1 false, [.t 5], [0], none⟩, ⟨some 7, .fad 0, [.t 3], [], none⟩, ⟨some 8, .load 1 false, [.t 7], [2], none⟩, ⟨some 9, .bin .eql, [.t 6, .t 8], [1, 3], none⟩, ⟨some 10, .mov, [.t 9], [4], none⟩, ⟨some 11, .fad 1, [.t 2], [5], some (5, 10, true)⟩, ⟨some 12, .load 1 false, [.t 11], [6, 5], some (5, 10, true)⟩, ⟨some 13, .fad 1, [.t 3], [5], some (5, 10, true)⟩, ⟨some 14, .load 1 false, [.t 13], [8, 5], some (5, 10, true)⟩, ⟨some 15, .bin .eql, [.t 12, .t 14], [7, 9, 5], some (5, 10, true)⟩, ⟨some 16, .pick, [.t 10, .t 15, cb false], [5, 10], none⟩, ⟨some 17, .mov, [.t 16], [11, 5], none⟩, ⟨some 18, .fad 2, [.t 2], [12], some (12, 17, true)⟩, ⟨some 19, .load 1 false, [.t 18], [13, 12], some (12, 17, true)⟩, ⟨some 20, .fad 2, [.t 3], [12], some (12, 17, true)⟩, ⟨some 21, .load 1 false, [.t 20], [15, 12], some (12, 17, true)⟩, ⟨some 22, .call 23, [.t 19, .t 21], [14, 16, 12, 12], some (12, 17, true)⟩, ⟨some 23, .pick, [.t 17, .t 22, cb false], [12, 17], none⟩, ⟨some 24, .mov, [.t 23], [18, 17], none⟩, ⟨some 25, .fad 3, [.t 2], [19], some (19, 24, true)⟩, ⟨some 26, .load 4 true, [.t 25], [20, 19], some (19, 24, true)⟩, ⟨some 27, .fad 3, [.t 3], [19], some (19, 24, true)⟩, ⟨some 28, .load 4 true, [.t 27], [22, 19], some (19, 24, true)⟩, ⟨some 29, .call 24, [.t 26, .t 28], [21, 23, 19, 19], some (19, 24, true)⟩, ⟨some 30, .pick, [.t 24, .t 29, cb false], [19, 24], none⟩, ⟨some 4, .mov, [.t 30], [25, 24, 0, 1, 2, 3, 4, 5, 6, 7, 8, 9, 10, 11, 12, 13, 14, 15, 16, 17, 18, 19, 20, 21, 22, 23, 24, 25], none⟩] false).seq AC.ret)
def rs_ref41_One : List RV := [.t 4]
theorem c_ref41_One : compile Try.prog (Go.Func.ntmps Try.f15) (Try.f15.body.getD .skip) = some ac_ref41_One := by kernel_rfl
theorem go_ref41_One {xs : List V} {bx bx' : U} {r : V} {ns : List O} (hxs : decide (xs.length ≤ Go.Func.ntmps Try.f15) = true) (hbx : BxOK bx bx') (h : ∀ cx : Cx, cx.m0 = ups M0 bx → Awp Try.prog cx ac_ref41_One (RetE rs_ref41_One r bx' ns) ⟨tl (idx 0 xs), ups M0 bx⟩) : Does Try.prog 15 xs bx r bx' ns :=
  does_of Try.func15 (by kernel_rfl : Try.f15.body = some (Try.f15.body.getD .skip)) rfl c_ref41_One (by kernel_rfl) (of_decide_eq_true hxs) hbx fun cx _ hm => h cx hm
def ac_script_Check : AC :=
  (AC.region [⟨some 1, .box, [.t 0], [], none⟩, ⟨some 2, .mov, [ci 0], [], none⟩] false).seq
  (((AC.region [⟨some 3, .fad 2, [.t 1], [], none⟩, ⟨some 4, .load 1 false, [.t 3], [0], none⟩, ⟨some 5, .len, [.t 4], [1], none⟩, ⟨some 6, .bin .gtr, [.t 5, ci 16], [2], none⟩, ⟨some 7, .mov, [.t 6], [3], none⟩, ⟨some 8, .fad 3, [.t 1], [4], some (4, 7, false)⟩, ⟨some 9, .fad 3, [.t 8], [5, 4], some (4, 7, false)⟩, ⟨some 10, .load 1 false, [.t 9], [6, 4], some (4, 7, false)⟩, ⟨some 11, .len, [.t 10], [7, 4], some (4, 7, false)⟩, ⟨some 12, .bin .gtr, [.t 11, ci 1024], [8, 4], some (4, 7, false)⟩, ⟨some 13, .pick, [.t 7, cb true, .t 12], [4, 9], none⟩, ⟨some 14, .mov, [.t 13], [10, 4], none⟩, ⟨some 15, .fad 3, [.t 1], [11], some (11, 14, false)⟩, ⟨some 16, .fad 3, [.t 15], [12, 11], some (11, 14, false)⟩, ⟨some 17, .load 1 false, [.t 16], [13, 11], some (11, 14, false)⟩, ⟨some 18, .call 26, [.t 17, AV.c (V.cl 27 [])], [14, 11, 11], some (11, 14, false)⟩, ⟨some 19, .pick, [.t 14, cb true, .t 18], [11, 15], none⟩] false).seq
  (AC.cond (.t 19) ((AC.region [⟨some 2, .mov, [ci 4], [], none⟩] false).seq AC.ret) AC.skip)).seq
  ((AC.region [⟨some 2, .mov, [ci 0], [], none⟩] false).seq AC.ret))
def rs_script_Check : List RV := [.t 2]
theorem c_script_Check : compile Try.prog (Go.Func.ntmps Try.f17) (Try.f17.body.getD .skip) = some ac_script_Check := by kernel_rfl
theorem go_script_Check {xs : List V} {bx bx' : U} {r : V} {ns : List O} (hxs : decide (xs.length ≤ Go.Func.ntmps Try.f17) = true) (hbx : BxOK bx bx') (h : ∀ cx : Cx, cx.m0 = ups M0 bx → Awp Try.prog cx ac_script_Check (RetE rs_script_Check r bx' ns) ⟨tl (idx 0 xs), ups M0 bx⟩) : Does Try.prog 17 xs bx r bx' ns :=
  does_of Try.func17 (by kernel_rfl : Try.f17.body = some (Try.f17.body.getD .skip)) rfl c_script_Check (by kernel_rfl) (of_decide_eq_true hxs) hbx fun cx _ hm => h cx hm
def ac_ref41_Check : AC :=
  (AC.region [⟨some 1, .box, [.t 0], [], none⟩, ⟨some 2, .mov, [ci 0], [], none⟩] false).seq
  (((AC.region [⟨some 4, .fad 2, [.t 1], [], none⟩, ⟨some 5, .load 1 false, [.t 4], [0], none⟩, ⟨some 6, .len, [.t 5], [1], none⟩, ⟨some 7, .bin .gtr, [.t 6, ci 16], [2], none⟩, ⟨some 8, .mov, [.t 7], [3], none⟩, ⟨some 9, .fad 3, [.t 1], [4], some (4, 8, false)⟩, ⟨some 10, .fad 3, [.t 9], [5, 4], some (4, 8, false)⟩, ⟨some 11, .load 1 false, [.t 10], [6, 4], some (4, 8, false)⟩, ⟨some 12, .len, [.t 11], [7, 4], some (4, 8, false)⟩, ⟨some 13, .bin .gtr, [.t 12, ci 1024], [8, 4], some (4, 8, false)⟩, ⟨some 14, .pick, [.t 8, cb true, .t 13], [4, 9], none⟩] false).seq
  (AC.cond (.t 14) ((AC.region [⟨some 2, .mov, [ci 4], [], none⟩] false).seq AC.ret) AC.skip)).seq
  (((AC.region [⟨some 3, .mov, [ci 0], [], none⟩] false).seq
  (AC.block 0 (((AC.region [⟨some 15, .mov, [.t 3], [], none⟩, ⟨some 16, .fad 3, [.t 1], [], none⟩, ⟨some 17, .fad 3, [.t 16], [1], none⟩, ⟨some 18, .load 1 false, [.t 17], [2], none⟩, ⟨some 19, .len, [.t 18], [3], none⟩, ⟨some 20, .bin .lss, [.t 15, .t 19], [0, 4], none⟩] false).seq
  (AC.cond (.t 20) AC.skip (AC.exit 0))).seq
  ((AC.block 1 ((AC.region [⟨some 23, .fad 3, [.t 1], [], none⟩, ⟨some 24, .fad 3, [.t 23], [0], none⟩, ⟨some 25, .load 1 false, [.t 24], [1], none⟩, ⟨some 26, .mov, [.t 3], [], none⟩, ⟨some 27, .iad 2, [.t 25, .t 26], [2, 3], none⟩, ⟨some 28, .fad 1, [.t 27], [4], none⟩, ⟨some 29, .load 1 false, [.t 28], [5], none⟩, ⟨some 30, .len, [.t 29], [6], none⟩, ⟨some 31, .bin .gtr, [.t 30, ci 64], [7], none⟩] false).seq
  (AC.cond (.t 31) ((AC.region [⟨some 2, .mov, [ci 4], [], none⟩] false).seq AC.ret) AC.skip))).seq
  (AC.region [⟨some 21, .mov, [.t 3], [], none⟩, ⟨some 22, .bin .add, [.t 21, ci 1], [0], none⟩, ⟨some 3, .mov, [.t 22], [1, 0, 1], none⟩] false))).loop)).seq
  ((AC.region [⟨some 2, .mov, [ci 0], [], none⟩] false).seq AC.ret)))
def rs_ref41_Check : List RV := [.t 2]
theorem c_ref41_Check : compile Try.prog (Go.Func.ntmps Try.f19) (Try.f19.body.getD .skip) = some ac_ref41_Check := by kernel_rfl
theorem go_ref41_Check {xs : List V} {bx bx' : U} {r : V} {ns : List O} (hxs : decide (xs.length ≤ Go.Func.ntmps Try.f19) = true) (hbx : BxOK bx bx') (h : ∀ cx : Cx, cx.m0 = ups M0 bx → Awp Try.prog cx ac_ref41_Check (RetE rs_ref41_Check r bx' ns) ⟨tl (idx 0 xs), ups M0 bx⟩) : Does Try.prog 19 xs bx r bx' ns :=
  does_of Try.func19 (by kernel_rfl : Try.f19.body = some (Try.f19.body.getD .skip)) rfl c_ref41_Check (by kernel_rfl) (of_decide_eq_true hxs) hbx fun cx _ hm => h cx hm
def ac_script_reader_int : AC :=
  (AC.region [⟨some 2, .mov, [ci 0], [], none⟩] false).seq
  ((AC.region [⟨some 3, .mov, [.t 0], [], none⟩, ⟨some 4, .call 28, [.t 3, AV.c (V.cl 29 [])], [0], none⟩, ⟨some 2, .mov, [.t 4], [1, 1, 0, 1], none⟩] false).seq AC.ret)
def rs_script_reader_int : List RV := [.t 2]
theorem c_script_reader_int : compile Try.prog (Go.Func.ntmps Try.f21) (Try.f21.body.getD .skip) = some ac_script_reader_int := by kernel_rfl
theorem go_script_reader_int {xs : List V} {bx bx' : U} {r : V} {ns : List O} (hxs : decide (xs.length ≤ Go.Func.ntmps Try.f21) = true) (hbx : BxOK bx bx') (h : ∀ cx : Cx, cx.m0 = ups M0 bx → Awp Try.prog cx ac_script_reader_int (RetE rs_script_reader_int r bx' ns) ⟨tl (idx 0 xs), ups M0 bx⟩) : Does Try.prog 21 xs bx r bx' ns :=
  does_of Try.func21 (by kernel_rfl : Try.f21.body = some (Try.f21.body.getD .skip)) rfl c_script_reader_int (by kernel_rfl) (of_decide_eq_true hxs) hbx fun cx _ hm => h cx hm
def ac_script_reader_list : AC :=
  (AC.region [⟨some 3, .box, [.t 1], [], none⟩, ⟨some 4, .mov, [AV.c (V.nl 1)], [], none⟩] false).seq
  ((AC.region [⟨some 5, .mov, [.t 0], [], none⟩, ⟨some 6, .mkf 31, [.t 3], [], none⟩, ⟨some 7, .call 30, [.t 5, .t 6], [0, 1], none⟩, ⟨some 4, .mov, [.t 7], [2, 2, 0, 1, 2], none⟩] false).seq AC.ret)
def rs_script_reader_list : List RV := [.t 4]
theorem c_script_reader_list : compile Try.prog (Go.Func.ntmps Try.f22) (Try.f22.body.getD .skip) = some ac_script_reader_list := by kernel_rfl
theorem go_script_reader_list {xs : List V} {bx bx' : U} {r : V} {ns : List O} (hxs : decide (xs.length ≤ Go.Func.ntmps Try.f22) = true) (hbx : BxOK bx bx') (h : ∀ cx : Cx, cx.m0 = ups M0 bx → Awp Try.prog cx ac_script_reader_list (RetE rs_script_reader_list r bx' ns) ⟨tl (idx 0 xs), ups M0 bx⟩) : Does Try.prog 22 xs bx r bx' ns :=
  does_of Try.func22 (by kernel_rfl : Try.f22.body = some (Try.f22.body.getD .skip)) rfl c_script_reader_list (by kernel_rfl) (of_decide_eq_true hxs) hbx fun cx _ hm => h cx hm
def ac_ref31_Ints : AC :=
  (AC.region [⟨some 4, .mov, [cb false], [], none⟩] false).seq
  (((AC.region [⟨some 6, .mov, [.t 0], [], none⟩, ⟨some 7, .len, [.t 6], [0], none⟩, ⟨some 8, .mov, [.t 1], [], none⟩, ⟨some 9, .len, [.t 8], [2], none⟩, ⟨some 10, .bin .neq, [.t 7, .t 9], [1, 3], none⟩] false).seq
  (AC.cond (.t 10) ((AC.region [⟨some 4, .mov, [cb false], [], none⟩] false).seq AC.ret) AC.skip)).seq
  (((AC.region [⟨some 5, .mov, [ci 0], [], none⟩] false).seq
  (AC.block 0 (((AC.region [⟨some 11, .mov, [.t 5], [], none⟩, ⟨some 12, .mov, [.t 0], [], none⟩, ⟨some 13, .len, [.t 12], [1], none⟩, ⟨some 14, .bin .lss, [.t 11, .t 13], [0, 2], none⟩] false).seq
  (AC.cond (.t 14) AC.skip (AC.exit 0))).seq
  ((AC.block 1 ((AC.region [⟨some 17, .mov, [.t 0], [], none⟩, ⟨some 18, .mov, [.t 5], [], none⟩, ⟨some 19, .iad 1, [.t 17, .t 18], [0, 1], none⟩, ⟨some 20, .load 1 false, [.t 19], [2], none⟩, ⟨some 21, .mov, [.t 1], [], none⟩, ⟨some 22, .mov, [.t 5], [], none⟩, ⟨some 23, .iad 1, [.t 21, .t 22], [4, 5], none⟩, ⟨some 24, .load 1 false, [.t 23], [6], none⟩, ⟨some 25, .bin .neq, [.t 20, .t 24], [3, 7], none⟩] true).seq
  (AC.cond (.t 25) ((AC.region [⟨some 4, .mov, [cb false], [], none⟩] false).seq AC.ret) AC.skip))).seq
  (AC.region [⟨some 15, .mov, [.t 5], [], none⟩, ⟨some 16, .bin .add, [.t 15, ci 1], [0], none⟩, ⟨some 5, .mov, [.t 16], [1, 0, 1], none⟩] false))).loop)).seq
  ((AC.region [⟨some 4, .mov, [cb true], [], none⟩] false).seq AC.ret)))
def rs_ref31_Ints : List RV := [.t 4]
theorem c_ref31_Ints : compile Try.prog (Go.Func.ntmps Try.f23) (Try.f23.body.getD .skip) = some ac_ref31_Ints := by kernel_rfl
theorem go_ref31_Ints {xs : List V} {bx bx' : U} {r : V} {ns : List O} (hxs : decide (xs.length ≤ Go.Func.ntmps Try.f23) = true) (hbx : BxOK bx bx') (h : ∀ cx : Cx, cx.m0 = ups M0 bx → Awp Try.prog cx ac_ref31_Ints (RetE rs_ref31_Ints r bx' ns) ⟨tl (idx 0 xs), ups M0 bx⟩) : Does Try.prog 23 xs bx r bx' ns :=
  does_of Try.func23 (by kernel_rfl : Try.f23.body = some (Try.f23.body.getD .skip)) rfl c_ref31_Ints (by kernel_rfl) (of_decide_eq_true hxs) hbx fun cx _ hm => h cx hm
def ac_ref15_Same : AC :=
  (AC.region [⟨some 2, .box, [.t 0], [], none⟩, ⟨some 3, .box, [.t 1], [], none⟩, ⟨some 4, .mov, [cb false], [], none⟩] false).seq
  (((AC.region [⟨some 6, .fad 0, [.t 2], [], none⟩, ⟨some 7, .load 1 false, [.t 6], [0], none⟩, ⟨some 8, .fad 0, [.t 3], [], none⟩, ⟨some 9, .load 1 false, [.t 8], [2], none⟩, ⟨some 10, .bin .neq, [.t 7, .t 9], [1, 3], none⟩, ⟨some 11, .mov, [.t 10], [4], none⟩, ⟨some 12, .fad 1, [.t 2], [5], some (5, 11, false)⟩, ⟨some 13, .load 1 false, [.t 12], [6, 5], some (5, 11, false)⟩, ⟨some 14, .fad 1, [.t 3], [5], some (5, 11, false)⟩, ⟨some 15, .load 1 false, [.t 14], [8, 5], some (5, 11, false)⟩, ⟨some 16, .bin .neq, [.t 13, .t 15], [7, 9, 5], some (5, 11, false)⟩, ⟨some 17, .pick, [.t 11, cb true, .t 16], [5, 10], none⟩, ⟨some 18, .mov, [.t 17], [11, 5], none⟩, ⟨some 19, .fad 2, [.t 2], [12], some (12, 18, false)⟩, ⟨some 20, .load 1 false, [.t 19], [13, 12], some (12, 18, false)⟩, ⟨some 21, .fad 2, [.t 3], [12], some (12, 18, false)⟩, ⟨some 22, .load 1 false, [.t 21], [15, 12], some (12, 18, false)⟩, ⟨some 23, .bin .neq, [.t 20, .t 22], [14, 16, 12], some (12, 18, false)⟩, ⟨some 24, .pick, [.t 18, cb true, .t 23], [12, 17], none⟩, ⟨some 25, .mov, [.t 24], [18, 12], none⟩, ⟨some 26, .fad 3, [.t 2], [19], some (19, 25, false)⟩, ⟨some 27, .load 1 false, [.t 26], [20, 19], some (19, 25, false)⟩, ⟨some 28, .len, [.t 27], [21, 19], some (19, 25, false)⟩, ⟨some 29, .fad 3, [.t 3], [19], some (19, 25, false)⟩, ⟨some 30, .load 1 false, [.t 29], [23, 19], some (19, 25, false)⟩, ⟨some 31, .len, [.t 30], [24, 19], some (19, 25, false)⟩, ⟨some 32, .bin .neq, [.t 28, .t 31], [22, 25, 19], some (19, 25, false)⟩, ⟨some 33, .pick, [.t 25, cb true, .t 32], [19, 26], none⟩] false).seq
  (AC.cond (.t 33) ((AC.region [⟨some 4, .mov, [cb false], [], none⟩] false).seq AC.ret) AC.skip)).seq
  (((AC.region [⟨some 34, .fad 3, [.t 2], [], none⟩, ⟨some 35, .load 1 false, [.t 34], [0], none⟩, ⟨some 36, .len, [.t 35], [1], none⟩, ⟨some 37, .mov, [ci 0], [], none⟩] false).seq
  (AC.block 0 ((AC.region [⟨some 38, .bin .lss, [.t 37, .t 36], [], none⟩] false).seq
  ((AC.cond (.t 38) AC.skip (AC.exit 0)).seq
  ((AC.block 1 ((AC.region [⟨some 39, .mov, [.t 37], [], none⟩, ⟨some 5, .mov, [.t 39], [0, 0], none⟩] false).seq
  ((AC.region [⟨some 40, .fad 3, [.t 2], [], none⟩, ⟨some 41, .load 1 false, [.t 40], [0], none⟩, ⟨some 42, .mov, [.t 5], [], none⟩, ⟨some 43, .iad 2, [.t 41, .t 42], [1, 2], none⟩, ⟨some 44, .fad 0, [.t 43], [3], none⟩, ⟨some 45, .load 1 false, [.t 44], [4], none⟩, ⟨some 46, .fad 3, [.t 3], [], none⟩, ⟨some 47, .load 1 false, [.t 46], [6], none⟩, ⟨some 48, .mov, [.t 5], [], none⟩, ⟨some 49, .iad 2, [.t 47, .t 48], [7, 8], none⟩, ⟨some 50, .fad 0, [.t 49], [9], none⟩, ⟨some 51, .load 1 false, [.t 50], [10], none⟩, ⟨some 52, .bin .neq, [.t 45, .t 51], [5, 11], none⟩, ⟨some 53, .mov, [.t 52], [12], none⟩, ⟨some 54, .fad 3, [.t 2], [13], some (13, 53, false)⟩, ⟨some 55, .load 1 false, [.t 54], [14, 13], some (13, 53, false)⟩, ⟨some 56, .mov, [.t 5], [13], some (13, 53, false)⟩, ⟨some 57, .iad 2, [.t 55, .t 56], [15, 16, 13], some (13, 53, false)⟩, ⟨some 58, .fad 1, [.t 57], [17, 13], some (13, 53, false)⟩, ⟨some 59, .load 1 false, [.t 58], [18, 13], some (13, 53, false)⟩, ⟨some 60, .fad 3, [.t 3], [13], some (13, 53, false)⟩, ⟨some 61, .load 1 false, [.t 60], [20, 13], some (13, 53, false)⟩, ⟨some 62, .mov, [.t 5], [13], some (13, 53, false)⟩, ⟨some 63, .iad 2, [.t 61, .t 62], [21, 22, 13], some (13, 53, false)⟩, ⟨some 64, .fad 1, [.t 63], [23, 13], some (13, 53, false)⟩, ⟨some 65, .load 1 false, [.t 64], [24, 13], some (13, 53, false)⟩, ⟨some 66, .call 33, [.t 59, .t 65], [19, 25, 13, 13], some (13, 53, false)⟩, ⟨some 67, .un .not, [.t 66], [26, 13], some (13, 53, false)⟩, ⟨some 68, .pick, [.t 53, cb true, .t 67], [13, 27], none⟩] true).seq
  (AC.cond (.t 68) ((AC.region [⟨some 4, .mov, [cb false], [], none⟩] false).seq AC.ret) AC.skip)))).seq
  (AC.region [⟨some 69, .bin .add, [.t 37, ci 1], [], none⟩, ⟨some 37, .mov, [.t 69], [0], none⟩] false)))).loop)).seq
  ((AC.region [⟨some 4, .mov, [cb true], [], none⟩] false).seq AC.ret)))
def rs_ref15_Same : List RV := [.t 4]
theorem c_ref15_Same : compile Try.prog (Go.Func.ntmps Try.f24) (Try.f24.body.getD .skip) = some ac_ref15_Same := by kernel_rfl
theorem go_ref15_Same {xs : List V} {bx bx' : U} {r : V} {ns : List O} (hxs : decide (xs.length ≤ Go.Func.ntmps Try.f24) = true) (hbx : BxOK bx bx') (h : ∀ cx : Cx, cx.m0 = ups M0 bx → Awp Try.prog cx ac_ref15_Same (RetE rs_ref15_Same r bx' ns) ⟨tl (idx 0 xs), ups M0 bx⟩) : Does Try.prog 24 xs bx r bx' ns :=
  does_of Try.func24 (by kernel_rfl : Try.f24.body = some (Try.f24.body.getD .skip)) rfl c_ref15_Same (by kernel_rfl) (of_decide_eq_true hxs) hbx fun cx _ hm => h cx hm
def ac_slices_ContainsFunc_api_Set_api_Set : AC :=
  (AC.region [⟨some 4, .mov, [cb false], [], none⟩] false).seq
  ((AC.region [⟨some 5, .mov, [.t 0], [], none⟩, ⟨some 6, .mov, [.t 1], [], none⟩, ⟨some 7, .call 35, [.t 5, .t 6], [0, 1], none⟩, ⟨some 8, .bin .geq, [.t 7, ci 0], [2], none⟩, ⟨some 4, .mov, [.t 8], [3, 2, 0, 1, 2, 3], none⟩] false).seq AC.ret)
def rs_slices_ContainsFunc_api_Set_api_Set : List RV := [.t 4]
theorem c_slices_ContainsFunc_api_Set_api_Set : compile Try.prog (Go.Func.ntmps Try.f26) (Try.f26.body.getD .skip) = some ac_slices_ContainsFunc_api_Set_api_Set := by kernel_rfl
theorem go_slices_ContainsFunc_api_Set_api_Set {xs : List V} {bx bx' : U} {r : V} {ns : List O} (hxs : decide (xs.length ≤ Go.Func.ntmps Try.f26) = true) (hbx : BxOK bx bx') (h : ∀ cx : Cx, cx.m0 = ups M0 bx → Awp Try.prog cx ac_slices_ContainsFunc_api_Set_api_Set (RetE rs_slices_ContainsFunc_api_Set_api_Set r bx' ns) ⟨tl (idx 0 xs), ups M0 bx⟩) : Does Try.prog 26 xs bx r bx' ns :=
  does_of Try.func26 (by kernel_rfl : Try.f26.body = some (Try.f26.body.getD .skip)) rfl c_slices_ContainsFunc_api_Set_api_Set (by kernel_rfl) (of_decide_eq_true hxs) hbx fun cx _ hm => h cx hm
def ac_script_Check_1 : AC :=
  (AC.region [⟨some 1, .box, [.t 0], [], none⟩, ⟨some 2, .mov, [cb false], [], none⟩] false).seq
  ((AC.region [⟨some 3, .fad 1, [.t 1], [], none⟩, ⟨some 4, .load 1 false, [.t 3], [0], none⟩, ⟨some 5, .len, [.t 4], [1], none⟩, ⟨some 6, .bin .gtr, [.t 5, ci 64], [2], none⟩, ⟨some 2, .mov, [.t 6], [3, 0, 1, 2, 3], none⟩] false).seq AC.ret)
def rs_script_Check_1 : List RV := [.t 2]
theorem c_script_Check_1 : compile Try.prog (Go.Func.ntmps Try.f27) (Try.f27.body.getD .skip) = some ac_script_Check_1 := by kernel_rfl
theorem go_script_Check_1 {xs : List V} {bx bx' : U} {r : V} {ns : List O} (hxs : decide (xs.length ≤ Go.Func.ntmps Try.f27) = true) (hbx : BxOK bx bx') (h : ∀ cx : Cx, cx.m0 = ups M0 bx → Awp Try.prog cx ac_script_Check_1 (RetE rs_script_Check_1 r bx' ns) ⟨tl (idx 0 xs), ups M0 bx⟩) : Does Try.prog 27 xs bx r bx' ns :=
  does_of Try.func27 (by kernel_rfl : Try.f27.body = some (Try.f27.body.getD .skip)) rfl c_script_Check_1 (by kernel_rfl) (of_decide_eq_true hxs) hbx fun cx _ hm => h cx hm
def ac_script_then_int : AC :=
  (AC.region [⟨some 4, .mov, [ci 0], [], none⟩] false).seq
  ((AC.region [⟨some 5, .mov, [ci 0], [], none⟩] false).seq
  (((AC.region [⟨some 9, .mov, [.t 0], [], none⟩, ⟨some 10, .nck, [.t 9], [0], none⟩, ⟨some 11, .fad 2, [.t 10], [1], none⟩, ⟨some 12, .load 1 false, [.t 11], [2], none⟩, ⟨some 13, .bin .neq, [.t 12, ci 0], [3], none⟩] false).seq
  (AC.cond (.t 13) ((AC.region [⟨some 14, .mov, [.t 5], [], none⟩, ⟨some 4, .mov, [.t 14], [0, 0], none⟩] false).seq AC.ret) AC.skip)).seq
  ((AC.region [⟨some 16, .mov, [.t 1], [], none⟩, ⟨some 17, .mov, [.t 0], [], none⟩, ⟨some 18, .nck, [.t 17], [1], none⟩, ⟨some 19, .fad 0, [.t 18], [2], none⟩, ⟨some 20, .load 1 false, [.t 19], [3], none⟩, ⟨some 21, .mov, [.t 0], [], none⟩, ⟨some 22, .nck, [.t 21], [5], none⟩, ⟨some 23, .fad 1, [.t 22], [6], none⟩, ⟨some 24, .load 1 false, [.t 23], [7], none⟩, ⟨some 25, .callv, [.t 16, .t 20, .t 24], [0, 4, 8], none⟩, ⟨some 15, .mov, [.t 25], [9], none⟩, ⟨some 26, .ext 0, [.t 15], [10], none⟩, ⟨some 27, .ext 1, [.t 15], [10], none⟩, ⟨some 28, .ext 2, [.t 15], [10], none⟩, ⟨some 6, .mov, [.t 26], [11, 9, 0, 1, 2, 3, 4, 5, 6, 7, 8, 9, 10, 11], none⟩, ⟨some 7, .mov, [.t 27], [12, 14, 0, 1, 2, 3, 4, 5, 6, 7, 8, 9, 10, 11, 12, 14], none⟩, ⟨some 8, .mov, [.t 28], [13, 15, 0, 1, 2, 3, 4, 5, 6, 7, 8, 9, 10, 11, 12, 13, 14, 15], none⟩] true).seq
  (((AC.region [⟨some 29, .mov, [.t 8], [], none⟩, ⟨some 30, .bin .neq, [.t 29, ci 0], [0], none⟩] false).seq
  (AC.cond (.t 30) ((AC.region [⟨some 31, .mov, [.t 0], [], none⟩, ⟨some 32, .mov, [.t 8], [], none⟩, ⟨some 33, .nck, [.t 31], [0, 0, 1], none⟩, ⟨some 34, .fad 2, [.t 33], [2, 0, 1], none⟩, ⟨none, .store 1, [.t 34, .t 32], [3, 1, 0, 1], none⟩] false).seq
  ((AC.region [⟨some 35, .mov, [.t 5], [], none⟩, ⟨some 4, .mov, [.t 35], [0, 0], none⟩] false).seq AC.ret)) AC.skip)).seq
  ((AC.region [⟨some 36, .mov, [.t 0], [], none⟩, ⟨some 37, .mov, [.t 7], [], none⟩, ⟨some 38, .nck, [.t 36], [0, 0, 1], none⟩, ⟨some 39, .fad 1, [.t 38], [2, 0, 1], none⟩, ⟨none, .store 1, [.t 39, .t 37], [3, 1, 0, 1], none⟩] false).seq
  ((AC.region [⟨some 40, .mov, [.t 6], [], none⟩, ⟨some 4, .mov, [.t 40], [0, 0], none⟩] false).seq AC.ret))))))
def rs_script_then_int : List RV := [.t 4]
theorem c_script_then_int : compile Try.prog (Go.Func.ntmps Try.f28) (Try.f28.body.getD .skip) = some ac_script_then_int := by kernel_rfl
theorem go_script_then_int {xs : List V} {bx bx' : U} {r : V} {ns : List O} (hxs : decide (xs.length ≤ Go.Func.ntmps Try.f28) = true) (hbx : BxOK bx bx') (h : ∀ cx : Cx, cx.m0 = ups M0 bx → Awp Try.prog cx ac_script_then_int (RetE rs_script_then_int r bx' ns) ⟨tl (idx 0 xs), ups M0 bx⟩) : Does Try.prog 28 xs bx r bx' ns :=
  does_of Try.func28 (by kernel_rfl : Try.f28.body = some (Try.f28.body.getD .skip)) rfl c_script_then_int (by kernel_rfl) (of_decide_eq_true hxs) hbx fun cx _ hm => h cx hm
def ac_script_then_Lint : AC :=
  (AC.region [⟨some 4, .mov, [AV.c (V.nl 1)], [], none⟩] false).seq
  ((AC.region [⟨some 5, .mov, [AV.c (V.nl 1)], [], none⟩] false).seq
  (((AC.region [⟨some 9, .mov, [.t 0], [], none⟩, ⟨some 10, .nck, [.t 9], [0], none⟩, ⟨some 11, .fad 2, [.t 10], [1], none⟩, ⟨some 12, .load 1 false, [.t 11], [2], none⟩, ⟨some 13, .bin .neq, [.t 12, ci 0], [3], none⟩] false).seq
  (AC.cond (.t 13) ((AC.region [⟨some 14, .mov, [.t 5], [], none⟩, ⟨some 4, .mov, [.t 14], [0, 0], none⟩] false).seq AC.ret) AC.skip)).seq
  ((AC.region [⟨some 16, .mov, [.t 1], [], none⟩, ⟨some 17, .mov, [.t 0], [], none⟩, ⟨some 18, .nck, [.t 17], [1], none⟩, ⟨some 19, .fad 0, [.t 18], [2], none⟩, ⟨some 20, .load 1 false, [.t 19], [3], none⟩, ⟨some 21, .mov, [.t 0], [], none⟩, ⟨some 22, .nck, [.t 21], [5], none⟩, ⟨some 23, .fad 1, [.t 22], [6], none⟩, ⟨some 24, .load 1 false, [.t 23], [7], none⟩, ⟨some 25, .callv, [.t 16, .t 20, .t 24], [0, 4, 8], none⟩, ⟨some 15, .mov, [.t 25], [9], none⟩, ⟨some 26, .ext 0, [.t 15], [10], none⟩, ⟨some 27, .ext 1, [.t 15], [10], none⟩, ⟨some 28, .ext 2, [.t 15], [10], none⟩, ⟨some 6, .mov, [.t 26], [11, 9, 0, 1, 2, 3, 4, 5, 6, 7, 8, 9, 10, 11], none⟩, ⟨some 7, .mov, [.t 27], [12, 14, 0, 1, 2, 3, 4, 5, 6, 7, 8, 9, 10, 11, 12, 14], none⟩, ⟨some 8, .mov, [.t 28], [13, 15, 0, 1, 2, 3, 4, 5, 6, 7, 8, 9, 10, 11, 12, 13, 14, 15], none⟩] true).seq
  (((AC.region [⟨some 29, .mov, [.t 8], [], none⟩, ⟨some 30, .bin .neq, [.t 29, ci 0], [0], none⟩] false).seq
  (AC.cond (.t 30) ((AC.region [⟨some 31, .mov, [.t 0], [], none⟩, ⟨some 32, .mov, [.t 8], [], none⟩, ⟨some 33, .nck, [.t 31], [0, 0, 1], none⟩, ⟨some 34, .fad 2, [.t 33], [2, 0, 1], none⟩, ⟨none, .store 1, [.t 34, .t 32], [3, 1, 0, 1], none⟩] false).seq
  ((AC.region [⟨some 35, .mov, [.t 5], [], none⟩, ⟨some 4, .mov, [.t 35], [0, 0], none⟩] false).seq AC.ret)) AC.skip)).seq
  ((AC.region [⟨some 36, .mov, [.t 0], [], none⟩, ⟨some 37, .mov, [.t 7], [], none⟩, ⟨some 38, .nck, [.t 36], [0, 0, 1], none⟩, ⟨some 39, .fad 1, [.t 38], [2, 0, 1], none⟩, ⟨none, .store 1, [.t 39, .t 37], [3, 1, 0, 1], none⟩] false).seq
  ((AC.region [⟨some 40, .mov, [.t 6], [], none⟩, ⟨some 4, .mov, [.t 40], [0, 0], none⟩] false).seq AC.ret))))))
def rs_script_then_Lint : List RV := [.t 4]
theorem c_script_then_Lint : compile Try.prog (Go.Func.ntmps Try.f30) (Try.f30.body.getD .skip) = some ac_script_then_Lint := by kernel_rfl
theorem go_script_then_Lint {xs : List V} {bx bx' : U} {r : V} {ns : List O} (hxs : decide (xs.length ≤ Go.Func.ntmps Try.f30) = true) (hbx : BxOK bx bx') (h : ∀ cx : Cx, cx.m0 = ups M0 bx → Awp Try.prog cx ac_script_then_Lint (RetE rs_script_then_Lint r bx' ns) ⟨tl (idx 0 xs), ups M0 bx⟩) : Does Try.prog 30 xs bx r bx' ns :=
  does_of Try.func30 (by kernel_rfl : Try.f30.body = some (Try.f30.body.getD .skip)) rfl c_script_then_Lint (by kernel_rfl) (of_decide_eq_true hxs) hbx fun cx _ hm => h cx hm
def ac_script_reader_list_1 : AC :=
  (AC.region [⟨some 5, .mov, [AV.c (V.nl 1)], [], none⟩, ⟨some 6, .mov, [ci 0], [0], none⟩, ⟨some 7, .mov, [ci 0], [1], none⟩] false).seq
  ((AC.region [⟨some 8, .mov, [.t 0], [], none⟩, ⟨some 9, .mov, [.t 1], [], none⟩, ⟨some 10, .load 1 false, [.t 2], [], none⟩, ⟨some 11, .call 32, [.t 8, .t 9, .t 10], [0, 1, 2], none⟩, ⟨some 12, .ext 0, [.t 11], [3], none⟩, ⟨some 13, .ext 1, [.t 11], [3], none⟩, ⟨some 14, .ext 2, [.t 11], [3], none⟩, ⟨some 5, .mov, [.t 12], [4, 3, 0, 1, 2, 3, 4, 5, 6], none⟩, ⟨some 6, .mov, [.t 13], [5, 7, 0, 1, 2, 3, 4, 5, 6, 7], none⟩, ⟨some 7, .mov, [.t 14], [6, 8, 0, 1, 2, 3, 4, 5, 6, 7, 8], none⟩] false).seq AC.ret)
def rs_script_reader_list_1 : List RV := [.t 5, .t 6, .t 7]
theorem c_script_reader_list_1 : compile Try.prog (Go.Func.ntmps Try.f31) (Try.f31.body.getD .skip) = some ac_script_reader_list_1 := by kernel_rfl
theorem go_script_reader_list_1 {xs : List V} {bx bx' : U} {r : V} {ns : List O} (hxs : decide (xs.length ≤ Go.Func.ntmps Try.f31) = true) (hbx : BxOK bx bx') (h : ∀ cx : Cx, cx.m0 = ups M0 bx → Awp Try.prog cx ac_script_reader_list_1 (RetE rs_script_reader_list_1 r bx' ns) ⟨tl (idx 0 xs), ups M0 bx⟩) : Does Try.prog 31 xs bx r bx' ns :=
  does_of Try.func31 (by kernel_rfl : Try.f31.body = some (Try.f31.body.getD .skip)) rfl c_script_reader_list_1 (by kernel_rfl) (of_decide_eq_true hxs) hbx fun cx _ hm => h cx hm
def ac_ref04_Same : AC :=
  (AC.region [⟨some 4, .mov, [cb false], [], none⟩] false).seq
  (((AC.region [⟨some 6, .mov, [.t 0], [], none⟩, ⟨some 7, .len, [.t 6], [0], none⟩, ⟨some 8, .mov, [.t 1], [], none⟩, ⟨some 9, .len, [.t 8], [2], none⟩, ⟨some 10, .bin .neq, [.t 7, .t 9], [1, 3], none⟩] false).seq
  (AC.cond (.t 10) ((AC.region [⟨some 4, .mov, [cb false], [], none⟩] false).seq AC.ret) AC.skip)).seq
  (((AC.region [⟨some 11, .mov, [.t 0], [], none⟩, ⟨some 12, .len, [.t 11], [0], none⟩, ⟨some 13, .mov, [ci 0], [], none⟩] false).seq
  (AC.block 0 ((AC.region [⟨some 14, .bin .lss, [.t 13, .t 12], [], none⟩] false).seq
  ((AC.cond (.t 14) AC.skip (AC.exit 0)).seq
  ((AC.block 1 ((AC.region [⟨some 15, .mov, [.t 13], [], none⟩, ⟨some 5, .mov, [.t 15], [0, 0], none⟩] false).seq
  ((AC.region [⟨some 16, .mov, [.t 0], [], none⟩, ⟨some 17, .mov, [.t 5], [], none⟩, ⟨some 18, .iad 1, [.t 16, .t 17], [0, 1], none⟩, ⟨some 19, .load 1 false, [.t 18], [2], none⟩, ⟨some 20, .mov, [.t 1], [], none⟩, ⟨some 21, .mov, [.t 5], [], none⟩, ⟨some 22, .iad 1, [.t 20, .t 21], [4, 5], none⟩, ⟨some 23, .load 1 false, [.t 22], [6], none⟩, ⟨some 24, .bin .neq, [.t 19, .t 23], [3, 7], none⟩] true).seq
  (AC.cond (.t 24) ((AC.region [⟨some 4, .mov, [cb false], [], none⟩] false).seq AC.ret) AC.skip)))).seq
  (AC.region [⟨some 25, .bin .add, [.t 13, ci 1], [], none⟩, ⟨some 13, .mov, [.t 25], [0], none⟩] false)))).loop)).seq
  ((AC.region [⟨some 4, .mov, [cb true], [], none⟩] false).seq AC.ret)))
def rs_ref04_Same : List RV := [.t 4]
theorem c_ref04_Same : compile Try.prog (Go.Func.ntmps Try.f33) (Try.f33.body.getD .skip) = some ac_ref04_Same := by kernel_rfl
theorem go_ref04_Same {xs : List V} {bx bx' : U} {r : V} {ns : List O} (hxs : decide (xs.length ≤ Go.Func.ntmps Try.f33) = true) (hbx : BxOK bx bx') (h : ∀ cx : Cx, cx.m0 = ups M0 bx → Awp Try.prog cx ac_ref04_Same (RetE rs_ref04_Same r bx' ns) ⟨tl (idx 0 xs), ups M0 bx⟩) : Does Try.prog 33 xs bx r bx' ns :=
  does_of Try.func33 (by kernel_rfl : Try.f33.body = some (Try.f33.body.getD .skip)) rfl c_ref04_Same (by kernel_rfl) (of_decide_eq_true hxs) hbx fun cx _ hm => h cx hm
def ac_slices_IndexFunc_api_Set_api_Set : AC :=
  (AC.region [⟨some 4, .mov, [ci 0], [], none⟩] false).seq
  (((AC.region [⟨some 6, .mov, [.t 0], [], none⟩, ⟨some 7, .len, [.t 6], [0], none⟩, ⟨some 8, .mov, [ci 0], [], none⟩] false).seq
  (AC.block 0 ((AC.region [⟨some 9, .bin .lss, [.t 8, .t 7], [], none⟩] false).seq
  ((AC.cond (.t 9) AC.skip (AC.exit 0)).seq
  ((AC.block 1 ((AC.region [⟨some 10, .mov, [.t 8], [], none⟩, ⟨some 5, .mov, [.t 10], [0, 0], none⟩] false).seq
  ((AC.region [⟨some 11, .mov, [.t 1], [], none⟩, ⟨some 12, .mov, [.t 0], [], none⟩, ⟨some 13, .mov, [.t 5], [], none⟩, ⟨some 14, .iad 2, [.t 12, .t 13], [1, 2], none⟩, ⟨some 15, .load 2 true, [.t 14], [3], none⟩, ⟨some 16, .callv, [.t 11, .t 15], [0, 4], none⟩] false).seq
  (AC.cond (.t 16) ((AC.region [⟨some 17, .mov, [.t 5], [], none⟩, ⟨some 4, .mov, [.t 17], [0, 0], none⟩] false).seq AC.ret) AC.skip)))).seq
  (AC.region [⟨some 18, .bin .add, [.t 8, ci 1], [], none⟩, ⟨some 8, .mov, [.t 18], [0], none⟩] false)))).loop)).seq
  ((AC.region [⟨some 4, .mov, [ci (-1)], [], none⟩] false).seq AC.ret))
def rs_slices_IndexFunc_api_Set_api_Set : List RV := [.t 4]
theorem c_slices_IndexFunc_api_Set_api_Set : compile Try.prog (Go.Func.ntmps Try.f35) (Try.f35.body.getD .skip) = some ac_slices_IndexFunc_api_Set_api_Set := by kernel_rfl
theorem go_slices_IndexFunc_api_Set_api_Set {xs : List V} {bx bx' : U} {r : V} {ns : List O} (hxs : decide (xs.length ≤ Go.Func.ntmps Try.f35) = true) (hbx : BxOK bx bx') (h : ∀ cx : Cx, cx.m0 = ups M0 bx → Awp Try.prog cx ac_slices_IndexFunc_api_Set_api_Set (RetE rs_slices_IndexFunc_api_Set_api_Set r bx' ns) ⟨tl (idx 0 xs), ups M0 bx⟩) : Does Try.prog 35 xs bx r bx' ns :=
  does_of Try.func35 (by kernel_rfl : Try.f35.body = some (Try.f35.body.getD .skip)) rfl c_slices_IndexFunc_api_Set_api_Set (by kernel_rfl) (of_decide_eq_true hxs) hbx fun cx _ hm => h cx hm
end Go.Proofs.Ytabfajhflaladaa.Sim
