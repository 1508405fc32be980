/- Functions of the program, as the walk has them. -/
import Derived.Test.YtilkjcobkdjlkaaSimZ
import Derived.Test.YtilkjcobkdjlkaaProg
import Derived.ProofKit
namespace Go.Proofs.Ytilkjcobkdjlkaa.Sim
open Go
set_option maxRecDepth 100000
def ac_play_New : AC :=
  (AC.region [⟨some 2, .mov, [AV.c (V.d (D.at (Value.pointer none)))], [], none⟩] false).seq
  (((AC.region [⟨some 3, .mov, [.t 0], [], none⟩, ⟨some 4, .len, [.t 3], [0], none⟩, ⟨some 5, .bin .gtr, [.t 4, ci 300], [1], none⟩] false).seq
  (AC.cond (.t 5) (AC.region [⟨some 6, .mov, [.t 0], [], none⟩, ⟨some 7, .slc false true false 1, [.t 6, ci 300], [0], none⟩, ⟨some 0, .mov, [.t 7], [1, 0, 1], none⟩] false) AC.skip)).seq
  ((AC.region [⟨some 8, .mov, [.t 0], [], none⟩, ⟨some 9, .build [V.nl 1, I 0] [(0, 1)], [.t 8], [0], none⟩, ⟨some 10, .box, [.t 9], [1], none⟩, ⟨some 2, .mov, [.t 10], [2, 0, 1, 2], none⟩] false).seq AC.ret))
def rs_play_New : List RV := [.t 2]
theorem c_play_New : compile Try.prog (Go.Func.ntmps Try.f13) (Try.f13.body.getD .skip) = some ac_play_New := by kernel_rfl
theorem go_play_New {xs : List V} {bx bx' : U} {r : V} {ns : List O} (hxs : decide (xs.length ≤ Go.Func.ntmps Try.f13) = true) (hbx : BxOK bx bx') (h : ∀ cx : Cx, cx.m0 = ups M0 bx → Awp Try.prog cx ac_play_New (RetE rs_play_New r bx' ns) ⟨tl (idx 0 xs), ups M0 bx⟩) : Does Try.prog 13 xs bx r bx' ns :=
  does_of Try.func13 (by kernel_rfl : Try.f13.body = some (Try.f13.body.getD .skip)) rfl c_play_New (by kernel_rfl) (of_decide_eq_true hxs) hbx fun cx _ hm => h cx hm
def ac_play_Dice_Table : AC :=
  (AC.region [⟨some 3, .box, [.t 1], [], none⟩, ⟨some 4, .alloc [I 0, I 0, I 0, V.nl 1], [], [], none⟩] false).seq
  ((AC.region [⟨some 6, .mov, [.t 0], [], none⟩, ⟨some 7, .call 26, [.t 6, ci 3], [0], none⟩, ⟨some 8, .bin .add, [ci 1, .t 7], [1], none⟩, ⟨some 5, .mov, [.t 8], [2, 1, 0, 1, 2], none⟩] false).seq
  ((AC.region [⟨some 9, .mov, [.t 0], [], none⟩, ⟨some 10, .call 26, [.t 9, ci 3], [0], none⟩, ⟨some 11, .bin .add, [ci 1, .t 10], [1], none⟩, ⟨some 12, .load 1 true, [.t 3], [], none⟩, ⟨some 13, .mov, [.t 5], [], none⟩, ⟨some 14, .mov, [.t 0], [], none⟩, ⟨some 15, .load 1 true, [.t 3], [], none⟩, ⟨some 16, .mov, [.t 0], [], none⟩, ⟨some 17, .call 26, [.t 16, ci 5], [7, 1], none⟩, ⟨some 18, .bin .add, [ci 1, .t 17], [8], none⟩, ⟨some 19, .mov, [.t 5], [], none⟩, ⟨some 20, .call 60, [.t 14, .t 15, .t 18, .t 19], [5, 6, 9, 10, 8], none⟩, ⟨some 21, .build [I 0, I 0, I 0, V.nl 1] [(0, 1), (1, 1), (2, 1), (3, 1)], [.t 11, .t 12, .t 13, .t 20], [2, 3, 4, 11], none⟩, ⟨none, .store 4, [.t 4, .t 21], [12, 11, 0, 1, 2, 3, 4, 5, 6, 7, 8, 9, 10, 11, 12], none⟩] true).seq AC.ret))
def rs_play_Dice_Table : List RV := [.c 4 4 true]
theorem c_play_Dice_Table : compile Try.prog (Go.Func.ntmps Try.f14) (Try.f14.body.getD .skip) = some ac_play_Dice_Table := by kernel_rfl
theorem go_play_Dice_Table {xs : List V} {bx bx' : U} {r : V} {ns : List O} (hxs : decide (xs.length ≤ Go.Func.ntmps Try.f14) = true) (hbx : BxOK bx bx') (h : ∀ cx : Cx, cx.m0 = ups M0 bx → Awp Try.prog cx ac_play_Dice_Table (RetE rs_play_Dice_Table r bx' ns) ⟨tl (idx 0 xs), ups M0 bx⟩) : Does Try.prog 14 xs bx r bx' ns :=
  does_of Try.func14 (by kernel_rfl : Try.f14.body = some (Try.f14.body.getD .skip)) rfl c_play_Dice_Table (by kernel_rfl) (of_decide_eq_true hxs) hbx fun cx _ hm => h cx hm
def ac_play_Dice_Field : AC :=
  (AC.region [⟨some 2, .alloc [I 0], [], [], none⟩] false).seq
  ((AC.region [⟨some 3, .bsl 1 [I 0] 4 [0, 1, 2, 3], [ci 7, ci 11, ci 13, ci 257], [], none⟩, ⟨some 4, .mov, [.t 0], [], none⟩, ⟨some 5, .call 26, [.t 4, ci 4], [1], none⟩, ⟨some 6, .iad 1, [.t 3, .t 5], [0, 2], none⟩, ⟨some 7, .load 1 false, [.t 6], [3], none⟩, ⟨some 8, .build [I 0] [(0, 1)], [.t 7], [4], none⟩, ⟨none, .store 1, [.t 2, .t 8], [5, 2, 0, 1, 2, 3, 4, 5], none⟩] false).seq AC.ret)
def rs_play_Dice_Field : List RV := [.c 2 1 true]
theorem c_play_Dice_Field : compile Try.prog (Go.Func.ntmps Try.f15) (Try.f15.body.getD .skip) = some ac_play_Dice_Field := by kernel_rfl
theorem go_play_Dice_Field {xs : List V} {bx bx' : U} {r : V} {ns : List O} (hxs : decide (xs.length ≤ Go.Func.ntmps Try.f15) = true) (hbx : BxOK bx bx') (h : ∀ cx : Cx, cx.m0 = ups M0 bx → Awp Try.prog cx ac_play_Dice_Field (RetE rs_play_Dice_Field r bx' ns) ⟨tl (idx 0 xs), ups M0 bx⟩) : Does Try.prog 15 xs bx r bx' ns :=
  does_of Try.func15 (by kernel_rfl : Try.f15.body = some (Try.f15.body.getD .skip)) rfl c_play_Dice_Field (by kernel_rfl) (of_decide_eq_true hxs) hbx fun cx _ hm => h cx hm
def ac_play_Dice_Elements : AC :=
  (AC.region [⟨some 4, .box, [.t 1], [], none⟩, ⟨some 6, .mov, [AV.c (V.nl 1)], [], none⟩] false).seq
  ((AC.region [⟨some 7, .mov, [AV.c (V.nl 1)], [], none⟩] false).seq
  (((AC.region [⟨some 8, .mov, [ci 0], [], none⟩] false).seq
  (AC.block 0 (((AC.region [⟨some 9, .mov, [.t 8], [], none⟩, ⟨some 10, .mov, [.t 2], [], none⟩, ⟨some 11, .bin .lss, [.t 9, .t 10], [0, 1], none⟩] false).seq
  (AC.cond (.t 11) AC.skip (AC.exit 0))).seq
  ((AC.block 1 (AC.region [⟨some 14, .mov, [.t 7], [], none⟩, ⟨some 15, .mov, [.t 0], [], none⟩, ⟨some 16, .call 26, [.t 15, ci 256], [1], none⟩, ⟨some 17, .mov, [.t 0], [], none⟩, ⟨some 18, .call 26, [.t 17, ci 2], [3, 2], none⟩, ⟨some 19, .bin .mul, [.t 18, ci 128], [4], none⟩, ⟨some 20, .bin .add, [.t 16, .t 19], [2, 5], none⟩, ⟨some 21, .fad 0, [.t 4], [], none⟩, ⟨some 22, .load 1 false, [.t 21], [7], none⟩, ⟨some 23, .bin .rem, [.t 20, .t 22], [6, 8], none⟩, ⟨some 24, .bsl 1 [I 0] 1 [0], [.t 23], [9], none⟩, ⟨some 25, .app 1 8, [.t 14, .t 24], [0, 10, 4], none⟩, ⟨some 7, .mov, [.t 25], [11, 11, 0, 1, 2, 3, 4, 5, 6, 7, 8, 9, 10, 11], none⟩] true)).seq
  (AC.region [⟨some 12, .mov, [.t 8], [], none⟩, ⟨some 13, .bin .add, [.t 12, ci 1], [0], none⟩, ⟨some 8, .mov, [.t 13], [1, 0, 1], none⟩] false))).loop)).seq
  ((AC.region [⟨some 26, .mov, [.t 7], [], none⟩, ⟨some 6, .mov, [.t 26], [0, 0], none⟩] false).seq AC.ret)))
def rs_play_Dice_Elements : List RV := [.t 6]
theorem c_play_Dice_Elements : compile Try.prog (Go.Func.ntmps Try.f16) (Try.f16.body.getD .skip) = some ac_play_Dice_Elements := by kernel_rfl
theorem go_play_Dice_Elements {xs : List V} {bx bx' : U} {r : V} {ns : List O} (hxs : decide (xs.length ≤ Go.Func.ntmps Try.f16) = true) (hbx : BxOK bx bx') (h : ∀ cx : Cx, cx.m0 = ups M0 bx → Awp Try.prog cx ac_play_Dice_Elements (RetE rs_play_Dice_Elements r bx' ns) ⟨tl (idx 0 xs), ups M0 bx⟩) : Does Try.prog 16 xs bx r bx' ns :=
  does_of Try.func16 (by kernel_rfl : Try.f16.body = some (Try.f16.body.getD .skip)) rfl c_play_Dice_Elements (by kernel_rfl) (of_decide_eq_true hxs) hbx fun cx _ hm => h cx hm
def ac_ref31_Ints : AC :=
  (AC.region [⟨some 4, .mov, [cb false], [], none⟩] false).seq
  (((AC.region [⟨some 6, .mov, [.t 0], [], none⟩, ⟨some 7, .len, [.t 6], [0], none⟩, ⟨some 8, .mov, [.t 1], [], none⟩, ⟨some 9, .len, [.t 8], [2], none⟩, ⟨some 10, .bin .neq, [.t 7, .t 9], [1, 3], none⟩] false).seq
  (AC.cond (.t 10) ((AC.region [⟨some 4, .mov, [cb false], [], none⟩] false).seq AC.ret) AC.skip)).seq
  (((AC.region [⟨some 5, .mov, [ci 0], [], none⟩] false).seq
  (AC.block 0 (((AC.region [⟨some 11, .mov, [.t 5], [], none⟩, ⟨some 12, .mov, [.t 0], [], none⟩, ⟨some 13, .len, [.t 12], [1], none⟩, ⟨some 14, .bin .lss, [.t 11, .t 13], [0, 2], none⟩] false).seq
  (AC.cond (.t 14) AC.skip (AC.exit 0))).seq
  ((AC.block 1 ((AC.region [⟨some 17, .mov, [.t 0], [], none⟩, ⟨some 18, .mov, [.t 5], [], none⟩, ⟨some 19, .iad 1, [.t 17, .t 18], [0, 1], none⟩, ⟨some 20, .load 1 false, [.t 19], [2], none⟩, ⟨some 21, .mov, [.t 1], [], none⟩, ⟨some 22, .mov, [.t 5], [], none⟩, ⟨some 23, .iad 1, [.t 21, .t 22], [4, 5], none⟩, ⟨some 24, .load 1 false, [.t 23], [6], none⟩, ⟨some 25, .bin .neq, [.t 20, .t 24], [3, 7], none⟩] true).seq
  (AC.cond (.t 25) ((AC.region [⟨some 4, .mov, [cb false], [], none⟩] false).seq AC.ret) AC.skip))).seq
  (AC.region [⟨some 15, .mov, [.t 5], [], none⟩, ⟨some 16, .bin .add, [.t 15, ci 1], [0], none⟩, ⟨some 5, .mov, [.t 16], [1, 0, 1], none⟩] false))).loop)).seq
  ((AC.region [⟨some 4, .mov, [cb true], [], none⟩] false).seq AC.ret)))
def rs_ref31_Ints : List RV := [.t 4]
theorem c_ref31_Ints : compile Try.prog (Go.Func.ntmps Try.f21) (Try.f21.body.getD .skip) = some ac_ref31_Ints := by kernel_rfl
theorem go_ref31_Ints {xs : List V} {bx bx' : U} {r : V} {ns : List O} (hxs : decide (xs.length ≤ Go.Func.ntmps Try.f21) = true) (hbx : BxOK bx bx') (h : ∀ cx : Cx, cx.m0 = ups M0 bx → Awp Try.prog cx ac_ref31_Ints (RetE rs_ref31_Ints r bx' ns) ⟨tl (idx 0 xs), ups M0 bx⟩) : Does Try.prog 21 xs bx r bx' ns :=
  does_of Try.func21 (by kernel_rfl : Try.f21.body = some (Try.f21.body.getD .skip)) rfl c_ref31_Ints (by kernel_rfl) (of_decide_eq_true hxs) hbx fun cx _ hm => h cx hm
def ac_play_Dice_Pick : AC :=
  (AC.region [⟨some 4, .mov, [ci 0], [], none⟩] false).seq
  (((AC.region [⟨some 5, .mov, [.t 0], [], none⟩, ⟨some 6, .nck, [.t 5], [0], none⟩, ⟨some 7, .fad 1, [.t 6], [1], none⟩, ⟨some 8, .load 1 false, [.t 7], [2], none⟩, ⟨some 9, .mov, [.t 0], [], none⟩, ⟨some 10, .nck, [.t 9], [4], none⟩, ⟨some 11, .fad 0, [.t 10], [5], none⟩, ⟨some 12, .load 1 false, [.t 11], [6], none⟩, ⟨some 13, .len, [.t 12], [7], none⟩, ⟨some 14, .bin .geq, [.t 8, .t 13], [3, 8], none⟩] true).seq
  (AC.cond (.t 14) ((AC.region [⟨some 4, .mov, [ci 0], [], none⟩] false).seq AC.ret) AC.skip)).seq
  ((AC.region [⟨some 15, .mov, [.t 0], [], none⟩, ⟨some 16, .nck, [.t 15], [0], none⟩, ⟨some 17, .fad 1, [.t 16], [1], none⟩, ⟨some 18, .load 1 false, [.t 17], [2], none⟩, ⟨some 19, .bin .add, [.t 18, ci 1], [3], none⟩, ⟨some 20, .nck, [.t 15], [0, 0, 1, 2, 3, 4], none⟩, ⟨some 21, .fad 1, [.t 20], [5, 0, 1, 2, 3, 4], none⟩, ⟨none, .store 1, [.t 21, .t 19], [6, 4, 0, 1, 2, 3, 4], none⟩] false).seq
  ((AC.region [⟨some 22, .mov, [.t 0], [], none⟩, ⟨some 23, .nck, [.t 22], [0], none⟩, ⟨some 24, .fad 0, [.t 23], [1], none⟩, ⟨some 25, .load 1 false, [.t 24], [2], none⟩, ⟨some 26, .mov, [.t 0], [], none⟩, ⟨some 27, .nck, [.t 26], [4], none⟩, ⟨some 28, .fad 1, [.t 27], [5], none⟩, ⟨some 29, .load 1 false, [.t 28], [6], none⟩, ⟨some 30, .bin .sub, [.t 29, ci 1], [7], none⟩, ⟨some 31, .iad 1, [.t 25, .t 30], [3, 8], none⟩, ⟨some 32, .load 1 false, [.t 31], [9], none⟩, ⟨some 33, .conv .i64, [.t 32], [10], none⟩, ⟨some 34, .mov, [.t 1], [], none⟩, ⟨some 35, .bin .rem, [.t 33, .t 34], [11, 12], none⟩, ⟨some 4, .mov, [.t 35], [13, 0, 1, 2, 3, 4, 5, 6, 7, 8, 9, 10, 11, 12, 13], none⟩] true).seq AC.ret)))
def rs_play_Dice_Pick : List RV := [.t 4]
theorem c_play_Dice_Pick : compile Try.prog (Go.Func.ntmps Try.f26) (Try.f26.body.getD .skip) = some ac_play_Dice_Pick := by kernel_rfl
theorem go_play_Dice_Pick {xs : List V} {bx bx' : U} {r : V} {ns : List O} (hxs : decide (xs.length ≤ Go.Func.ntmps Try.f26) = true) (hbx : BxOK bx bx') (h : ∀ cx : Cx, cx.m0 = ups M0 bx → Awp Try.prog cx ac_play_Dice_Pick (RetE rs_play_Dice_Pick r bx' ns) ⟨tl (idx 0 xs), ups M0 bx⟩) : Does Try.prog 26 xs bx r bx' ns :=
  does_of Try.func26 (by kernel_rfl : Try.f26.body = some (Try.f26.body.getD .skip)) rfl c_play_Dice_Pick (by kernel_rfl) (of_decide_eq_true hxs) hbx fun cx _ hm => h cx hm
def ac_play_Dice_Change : AC :=
  (AC.region [⟨some 3, .box, [.t 1], [], none⟩, ⟨some 4, .alloc [I 0, I 0, I 0, V.nl 2], [], [], none⟩] false).seq
  ((AC.region [⟨some 9, .fad 0, [.t 3], [], none⟩, ⟨some 10, .load 1 false, [.t 9], [0], none⟩, ⟨some 11, .bin .add, [.t 10, ci 1], [1], none⟩, ⟨some 12, .mov, [.t 0], [], none⟩, ⟨some 13, .call 26, [.t 12, ci 2], [3], none⟩, ⟨some 14, .bin .add, [.t 11, .t 13], [2, 4], none⟩, ⟨some 15, .fad 1, [.t 3], [], none⟩, ⟨some 16, .load 1 true, [.t 15], [6], none⟩, ⟨some 17, .fad 2, [.t 3], [], none⟩, ⟨some 18, .load 1 false, [.t 17], [8], none⟩, ⟨some 19, .build [I 0, I 0, I 0, V.nl 1] [(0, 1), (1, 1), (2, 1)], [.t 14, .t 16, .t 18], [5, 7, 9], none⟩, ⟨some 5, .alloc [I 0, I 0, I 0, V.nl 1], [], [], none⟩, ⟨none, .store 4, [.t 5, .t 19], [11, 10, 4, 0, 1, 2, 3, 4, 5, 6, 7, 8, 9, 10, 11], none⟩] true).seq
  (((AC.region [⟨some 6, .mov, [ci 0], [], none⟩] false).seq
  (AC.block 0 (((AC.region [⟨some 20, .mov, [.t 6], [], none⟩, ⟨some 21, .fad 3, [.t 3], [], none⟩, ⟨some 22, .load 1 false, [.t 21], [1], none⟩, ⟨some 23, .len, [.t 22], [2], none⟩, ⟨some 24, .bin .lss, [.t 20, .t 23], [0, 3], none⟩] false).seq
  (AC.cond (.t 24) AC.skip (AC.exit 0))).seq
  ((AC.block 1 ((AC.region [⟨some 27, .mov, [.t 0], [], none⟩, ⟨some 28, .call 26, [.t 27, ci 3], [0], none⟩, ⟨some 29, .bin .gtr, [.t 28, ci 0], [1], none⟩] false).seq
  (AC.cond (.t 29) (AC.region [⟨some 30, .fad 3, [.t 5], [], none⟩, ⟨some 31, .load 1 false, [.t 30], [0], none⟩, ⟨some 32, .fad 3, [.t 3], [], none⟩, ⟨some 33, .load 1 false, [.t 32], [2], none⟩, ⟨some 34, .mov, [.t 6], [], none⟩, ⟨some 35, .iad 1, [.t 33, .t 34], [3, 4], none⟩, ⟨some 36, .load 1 false, [.t 35], [5], none⟩, ⟨some 37, .bsl 1 [V.nl 1] 1 [0], [.t 36], [6], none⟩, ⟨some 38, .app 1 24, [.t 31, .t 37], [1, 7], none⟩, ⟨some 39, .fad 3, [.t 5], [0, 1, 2, 3, 4, 5, 6, 7, 8], none⟩, ⟨none, .store 1, [.t 39, .t 38], [9, 8, 8, 0, 1, 2, 3, 4, 5, 6, 7, 8], none⟩] true) (AC.region [⟨some 40, .fad 3, [.t 5], [], none⟩, ⟨some 41, .load 1 false, [.t 40], [0], none⟩, ⟨some 42, .mov, [.t 0], [], none⟩, ⟨some 43, .fad 1, [.t 3], [], none⟩, ⟨some 44, .load 1 true, [.t 43], [3], none⟩, ⟨some 45, .fad 2, [.t 3], [], none⟩, ⟨some 46, .load 1 false, [.t 45], [5], none⟩, ⟨some 47, .call 16, [.t 42, .t 44, .t 46], [2, 4, 6], none⟩, ⟨some 48, .bsl 1 [V.nl 1] 1 [0], [.t 47], [7], none⟩, ⟨some 49, .app 1 24, [.t 41, .t 48], [1, 8, 7], none⟩, ⟨some 50, .fad 3, [.t 5], [0, 1, 2, 3, 4, 5, 6, 7, 8, 9], none⟩, ⟨none, .store 1, [.t 50, .t 49], [10, 9, 9, 0, 1, 2, 3, 4, 5, 6, 7, 8, 9], none⟩] true)))).seq
  (AC.region [⟨some 25, .mov, [.t 6], [], none⟩, ⟨some 26, .bin .add, [.t 25, ci 1], [0], none⟩, ⟨some 6, .mov, [.t 26], [1, 0, 1], none⟩] false))).loop)).seq
  (((AC.region [⟨some 51, .mov, [.t 0], [], none⟩, ⟨some 52, .call 26, [.t 51, ci 4], [0], none⟩] false).seq
  (AC.block 2 ((AC.region [⟨some 54, .bin .eql, [.t 52, ci 0], [], none⟩, ⟨some 53, .mov, [.t 54], [0], none⟩] false).seq
  (AC.cond (.t 53) (AC.region [⟨some 55, .fad 3, [.t 5], [], none⟩, ⟨some 56, .load 1 false, [.t 55], [0], none⟩, ⟨some 57, .mov, [.t 0], [], none⟩, ⟨some 58, .fad 1, [.t 3], [], none⟩, ⟨some 59, .load 1 true, [.t 58], [3], none⟩, ⟨some 60, .fad 2, [.t 3], [], none⟩, ⟨some 61, .load 1 false, [.t 60], [5], none⟩, ⟨some 62, .call 16, [.t 57, .t 59, .t 61], [2, 4, 6], none⟩, ⟨some 63, .bsl 1 [V.nl 1] 1 [0], [.t 62], [7], none⟩, ⟨some 64, .app 1 24, [.t 56, .t 63], [1, 8, 7], none⟩, ⟨some 65, .fad 3, [.t 5], [0, 1, 2, 3, 4, 5, 6, 7, 8, 9], none⟩, ⟨none, .store 1, [.t 65, .t 64], [10, 9, 9, 0, 1, 2, 3, 4, 5, 6, 7, 8, 9], none⟩] true) ((AC.region [⟨some 67, .bin .eql, [.t 52, ci 1], [], none⟩, ⟨some 66, .mov, [.t 67], [0], none⟩] false).seq
  (AC.cond (.t 66) (AC.region [⟨some 68, .fad 3, [.t 5], [], none⟩, ⟨some 69, .load 1 false, [.t 68], [0], none⟩, ⟨some 70, .fad 3, [.t 5], [], none⟩, ⟨some 71, .load 1 false, [.t 70], [2], none⟩, ⟨some 72, .len, [.t 71], [3], none⟩, ⟨some 73, .bin .sub, [.t 72, ci 1], [4], none⟩, ⟨some 74, .mx, [ci 1, .t 73], [5], none⟩, ⟨some 75, .slc false true false 1, [.t 69, .t 74], [1, 6], none⟩, ⟨some 76, .fad 3, [.t 5], [0, 1, 2, 3, 4, 5, 6, 7], none⟩, ⟨none, .store 1, [.t 76, .t 75], [8, 7, 0, 1, 2, 3, 4, 5, 6, 7], none⟩] false) AC.skip)))))).seq
  ((AC.region [⟨some 78, .load 4 true, [.t 3], [], none⟩, ⟨some 79, .load 4 true, [.t 5], [], none⟩, ⟨some 80, .call 76, [.t 78, .t 79], [0, 1], none⟩, ⟨some 77, .mov, [.t 80], [2], none⟩, ⟨some 81, .ext 0, [.t 77], [3], none⟩, ⟨some 82, .ext 1, [.t 77], [3], none⟩, ⟨some 7, .alloc [I 0, I 0, I 0, V.nl 2], [], [], none⟩, ⟨none, .store 4, [.t 7, .t 81], [6, 4, 2, 0, 1, 2, 3, 4, 6], none⟩, ⟨some 8, .mov, [.t 82], [5, 7, 0, 1, 2, 3, 4, 5, 6, 7], none⟩] false).seq
  ((AC.region [⟨some 83, .load 4 true, [.t 7], [], none⟩, ⟨none, .store 4, [.t 4, .t 83], [0, 0], none⟩] false).seq AC.ret)))))
def rs_play_Dice_Change : List RV := [.c 4 4 true]
theorem c_play_Dice_Change : compile Try.prog (Go.Func.ntmps Try.f27) (Try.f27.body.getD .skip) = some ac_play_Dice_Change := by kernel_rfl
theorem go_play_Dice_Change {xs : List V} {bx bx' : U} {r : V} {ns : List O} (hxs : decide (xs.length ≤ Go.Func.ntmps Try.f27) = true) (hbx : BxOK bx bx') (h : ∀ cx : Cx, cx.m0 = ups M0 bx → Awp Try.prog cx ac_play_Dice_Change (RetE rs_play_Dice_Change r bx' ns) ⟨tl (idx 0 xs), ups M0 bx⟩) : Does Try.prog 27 xs bx r bx' ns :=
  does_of Try.func27 (by kernel_rfl : Try.f27.body = some (Try.f27.body.getD .skip)) rfl c_play_Dice_Change (by kernel_rfl) (of_decide_eq_true hxs) hbx fun cx _ hm => h cx hm
def ac_ref15_Apply : AC :=
  (AC.region [⟨some 2, .box, [.t 0], [], none⟩, ⟨some 3, .box, [.t 1], [], none⟩, ⟨some 4, .alloc [I 0, I 0, I 0, V.nl 1], [], [], none⟩, ⟨some 5, .mov, [ci 0], [], none⟩] false).seq
  (((AC.region [⟨some 11, .load 4 true, [.t 2], [], none⟩, ⟨some 12, .load 4 true, [.t 3], [], none⟩, ⟨some 13, .call 77, [.t 11, .t 12], [0, 1], none⟩, ⟨some 6, .mov, [.t 13], [2, 2, 0, 1, 2], none⟩] false).seq
  ((AC.region [⟨some 14, .mov, [.t 6], [], none⟩, ⟨some 15, .bin .neq, [.t 14, ci 0], [0], none⟩] false).seq
  (AC.cond (.t 15) ((AC.region [⟨some 16, .build [I 0, I 0, I 0, V.nl 1] [], [], [], none⟩, ⟨some 17, .mov, [.t 6], [], none⟩, ⟨none, .store 4, [.t 4, .t 16], [0, 0], none⟩, ⟨some 5, .mov, [.t 17], [1, 2, 0, 1, 2], none⟩] false).seq AC.ret) AC.skip))).seq
  ((AC.region [⟨some 18, .fad 1, [.t 3], [], none⟩, ⟨some 19, .load 1 false, [.t 18], [0], none⟩, ⟨some 20, .fad 1, [.t 2], [], none⟩, ⟨some 21, .load 1 true, [.t 20], [2], none⟩, ⟨some 22, .fad 2, [.t 2], [], none⟩, ⟨some 23, .load 1 false, [.t 22], [4], none⟩, ⟨some 24, .build [I 0, I 0, I 0, V.nl 1] [(0, 1), (1, 1), (2, 1)], [.t 19, .t 21, .t 23], [1, 3, 5], none⟩, ⟨some 7, .alloc [I 0, I 0, I 0, V.nl 1], [], [], none⟩, ⟨none, .store 4, [.t 7, .t 24], [7, 6, 0, 1, 2, 3, 4, 5, 6, 7], none⟩] false).seq
  (((AC.region [⟨some 8, .mov, [ci 0], [], none⟩] false).seq
  (AC.block 0 (((AC.region [⟨some 25, .mov, [.t 8], [], none⟩, ⟨some 26, .fad 2, [.t 3], [], none⟩, ⟨some 27, .load 1 false, [.t 26], [1], none⟩, ⟨some 28, .bin .lss, [.t 25, .t 27], [0, 2], none⟩] false).seq
  (AC.cond (.t 28) AC.skip (AC.exit 0))).seq
  ((AC.block 1 ((AC.region [⟨some 32, .load 4 true, [.t 3], [], none⟩, ⟨some 33, .mov, [.t 8], [], none⟩, ⟨some 34, .call 78, [.t 32, .t 33], [0, 1], none⟩, ⟨some 31, .mov, [.t 34], [2], none⟩, ⟨some 35, .ext 0, [.t 31], [3], none⟩, ⟨some 36, .ext 1, [.t 31], [3], none⟩, ⟨some 9, .mov, [.t 35], [4, 2, 0, 1, 2, 3, 4], none⟩, ⟨some 10, .mov, [.t 36], [5, 6, 0, 1, 2, 3, 4, 5, 6], none⟩] false).seq
  (((AC.region [⟨some 37, .mov, [.t 10], [], none⟩, ⟨some 38, .un .not, [.t 37], [0], none⟩] false).seq
  (AC.cond (.t 38) (AC.region [⟨some 39, .fad 3, [.t 2], [], none⟩, ⟨some 40, .load 1 false, [.t 39], [0], none⟩, ⟨some 41, .mov, [.t 8], [], none⟩, ⟨some 42, .iad 1, [.t 40, .t 41], [1, 2], none⟩, ⟨some 43, .load 1 false, [.t 42], [3], none⟩, ⟨some 9, .mov, [.t 43], [4, 0, 1, 2, 3, 4], none⟩] false) AC.skip)).seq
  (AC.region [⟨some 44, .fad 3, [.t 7], [], none⟩, ⟨some 45, .load 1 false, [.t 44], [0], none⟩, ⟨some 46, .mov, [.t 9], [], none⟩, ⟨some 47, .app 1 8, [AV.c (V.nl 1), .t 46], [2], none⟩, ⟨some 48, .bsl 1 [V.nl 1] 1 [0], [.t 47], [3], none⟩, ⟨some 49, .app 1 24, [.t 45, .t 48], [1, 4, 3], none⟩, ⟨some 50, .fad 3, [.t 7], [0, 1, 2, 3, 4, 5], none⟩, ⟨none, .store 1, [.t 50, .t 49], [6, 5, 5, 0, 1, 2, 3, 4, 5], none⟩] true)))).seq
  (AC.region [⟨some 29, .mov, [.t 8], [], none⟩, ⟨some 30, .bin .add, [.t 29, ci 1], [0], none⟩, ⟨some 8, .mov, [.t 30], [1, 0, 1], none⟩] false))).loop)).seq
  ((AC.region [⟨some 51, .load 4 true, [.t 7], [], none⟩, ⟨none, .store 4, [.t 4, .t 51], [0, 0], none⟩, ⟨some 5, .mov, [ci 0], [1, 0, 1], none⟩] false).seq AC.ret))))
def rs_ref15_Apply : List RV := [.c 4 4 true, .t 5]
theorem c_ref15_Apply : compile Try.prog (Go.Func.ntmps Try.f28) (Try.f28.body.getD .skip) = some ac_ref15_Apply := by kernel_rfl
theorem go_ref15_Apply {xs : List V} {bx bx' : U} {r : V} {ns : List O} (hxs : decide (xs.length ≤ Go.Func.ntmps Try.f28) = true) (hbx : BxOK bx bx') (h : ∀ cx : Cx, cx.m0 = ups M0 bx → Awp Try.prog cx ac_ref15_Apply (RetE rs_ref15_Apply r bx' ns) ⟨tl (idx 0 xs), ups M0 bx⟩) : Does Try.prog 28 xs bx r bx' ns :=
  does_of Try.func28 (by kernel_rfl : Try.f28.body = some (Try.f28.body.getD .skip)) rfl c_ref15_Apply (by kernel_rfl) (of_decide_eq_true hxs) hbx fun cx _ hm => h cx hm
def ac_ref14_Same : AC :=
  (AC.region [⟨some 2, .box, [.t 0], [], none⟩, ⟨some 3, .box, [.t 1], [], none⟩, ⟨some 4, .mov, [cb false], [], none⟩] false).seq
  ((AC.region [⟨some 5, .fad 0, [.t 2], [], none⟩, ⟨some 6, .load 1 false, [.t 5], [0], none⟩, ⟨some 7, .fad 0, [.t 3], [], none⟩, ⟨some 8, .load 1 false, [.t 7], [2], none⟩, ⟨some 9, .bin .eql, [.t 6, .t 8], [1, 3], none⟩, ⟨some 10, .mov, [.t 9], [4], none⟩, ⟨some 11, .fad 1, [.t 2], [5], some (5, 10, true)⟩, ⟨some 12, .load 1 true, [.t 11], [6, 5], some (5, 10, true)⟩, ⟨some 13, .fad 1, [.t 3], [5], some (5, 10, true)⟩, ⟨some 14, .load 1 true, [.t 13], [8, 5], some (5, 10, true)⟩, ⟨some 15, .seq 1 false, [.t 12, .t 14], [7, 9, 5], some (5, 10, true)⟩, ⟨some 16, .pick, [.t 10, .t 15, cb false], [5, 10], none⟩, ⟨some 17, .mov, [.t 16], [11, 5], none⟩, ⟨some 18, .fad 2, [.t 2], [12], some (12, 17, true)⟩, ⟨some 19, .load 1 false, [.t 18], [13, 12], some (12, 17, true)⟩, ⟨some 20, .fad 2, [.t 3], [12], some (12, 17, true)⟩, ⟨some 21, .load 1 false, [.t 20], [15, 12], some (12, 17, true)⟩, ⟨some 22, .bin .eql, [.t 19, .t 21], [14, 16, 12], some (12, 17, true)⟩, ⟨some 23, .pick, [.t 17, .t 22, cb false], [12, 17], none⟩, ⟨some 24, .mov, [.t 23], [18, 12], none⟩, ⟨some 25, .fad 3, [.t 2], [19], some (19, 24, true)⟩, ⟨some 26, .load 1 false, [.t 25], [20, 19], some (19, 24, true)⟩, ⟨some 27, .fad 3, [.t 3], [19], some (19, 24, true)⟩, ⟨some 28, .load 1 false, [.t 27], [22, 19], some (19, 24, true)⟩, ⟨some 29, .call 82, [.t 26, .t 28], [21, 23, 19, 19], some (19, 24, true)⟩, ⟨some 30, .pick, [.t 24, .t 29, cb false], [19, 24], none⟩, ⟨some 4, .mov, [.t 30], [25, 24, 0, 1, 2, 3, 4, 5, 6, 7, 8, 9, 10, 11, 12, 13, 14, 15, 16, 17, 18, 19, 20, 21, 22, 23, 24, 25], none⟩] false).seq AC.ret)
def rs_ref14_Same : List RV := [.t 4]
theorem c_ref14_Same : compile Try.prog (Go.Func.ntmps Try.f32) (Try.f32.body.getD .skip) = some ac_ref14_Same := by kernel_rfl
theorem go_ref14_Same {xs : List V} {bx bx' : U} {r : V} {ns : List O} (hxs : decide (xs.length ≤ Go.Func.ntmps Try.f32) = true) (hbx : BxOK bx bx') (h : ∀ cx : Cx, cx.m0 = ups M0 bx → Awp Try.prog cx ac_ref14_Same (RetE rs_ref14_Same r bx' ns) ⟨tl (idx 0 xs), ups M0 bx⟩) : Does Try.prog 32 xs bx r bx' ns :=
  does_of Try.func32 (by kernel_rfl : Try.f32.body = some (Try.f32.body.getD .skip)) rfl c_ref14_Same (by kernel_rfl) (of_decide_eq_true hxs) hbx fun cx _ hm => h cx hm
def ac_ref14_Digests : AC :=
  (AC.region [⟨some 1, .box, [.t 0], [], none⟩, ⟨some 2, .mov, [AV.c (V.nl 1)], [], none⟩, ⟨some 3, .mov, [ci 0], [1], none⟩] false).seq
  (((AC.region [⟨some 8, .load 4 true, [.t 1], [], none⟩, ⟨some 9, .call 53, [.t 8], [0], none⟩, ⟨some 4, .mov, [.t 9], [1, 1, 0, 1], none⟩] false).seq
  ((AC.region [⟨some 10, .mov, [.t 4], [], none⟩, ⟨some 11, .bin .neq, [.t 10, ci 0], [0], none⟩] false).seq
  (AC.cond (.t 11) ((AC.region [⟨some 12, .mov, [.t 4], [], none⟩, ⟨some 2, .mov, [AV.c (V.nl 1)], [], none⟩, ⟨some 3, .mov, [.t 12], [0, 1, 0, 1], none⟩] false).seq AC.ret) AC.skip))).seq
  ((AC.region [⟨some 5, .mov, [AV.c (V.nl 1)], [], none⟩] false).seq
  (((AC.region [⟨some 13, .fad 3, [.t 1], [], none⟩, ⟨some 14, .load 1 false, [.t 13], [0], none⟩, ⟨some 15, .len, [.t 14], [1], none⟩, ⟨some 16, .mov, [ci 0], [], none⟩] false).seq
  (AC.block 0 ((AC.region [⟨some 17, .bin .lss, [.t 16, .t 15], [], none⟩] false).seq
  ((AC.cond (.t 17) AC.skip (AC.exit 0)).seq
  ((AC.block 1 ((AC.region [⟨some 18, .iad 1, [.t 14, .t 16], [], none⟩, ⟨some 19, .load 1 false, [.t 18], [0], none⟩, ⟨some 7, .mov, [.t 19], [1, 0, 1], none⟩] false).seq
  (AC.region [⟨some 20, .mov, [.t 5], [], none⟩, ⟨some 21, .mov, [.t 7], [], none⟩, ⟨some 22, .call 84, [.t 21], [1], none⟩, ⟨some 23, .bsl 1 [I 0] 1 [0], [.t 22], [2], none⟩, ⟨some 24, .app 1 8, [.t 20, .t 23], [0, 3, 2], none⟩, ⟨some 5, .mov, [.t 24], [4, 4, 0, 1, 2, 3, 4], none⟩] false))).seq
  (AC.region [⟨some 25, .bin .add, [.t 16, ci 1], [], none⟩, ⟨some 16, .mov, [.t 25], [0], none⟩] false)))).loop)).seq
  ((AC.region [⟨some 26, .mov, [.t 5], [], none⟩, ⟨some 2, .mov, [.t 26], [0, 0], none⟩, ⟨some 3, .mov, [ci 0], [1, 0, 1], none⟩] false).seq AC.ret))))
def rs_ref14_Digests : List RV := [.t 2, .t 3]
theorem c_ref14_Digests : compile Try.prog (Go.Func.ntmps Try.f36) (Try.f36.body.getD .skip) = some ac_ref14_Digests := by kernel_rfl
theorem go_ref14_Digests {xs : List V} {bx bx' : U} {r : V} {ns : List O} (hxs : decide (xs.length ≤ Go.Func.ntmps Try.f36) = true) (hbx : BxOK bx bx') (h : ∀ cx : Cx, cx.m0 = ups M0 bx → Awp Try.prog cx ac_ref14_Digests (RetE rs_ref14_Digests r bx' ns) ⟨tl (idx 0 xs), ups M0 bx⟩) : Does Try.prog 36 xs bx r bx' ns :=
  does_of Try.func36 (by kernel_rfl : Try.f36.body = some (Try.f36.body.getD .skip)) rfl c_ref14_Digests (by kernel_rfl) (of_decide_eq_true hxs) hbx fun cx _ hm => h cx hm
def ac_ref15_Digests : AC :=
  (AC.region [⟨some 3, .box, [.t 1], [], none⟩, ⟨some 4, .mov, [AV.c (V.nl 1)], [], none⟩, ⟨some 5, .mov, [ci 0], [1], none⟩] false).seq
  (((AC.region [⟨some 10, .load 4 true, [.t 3], [], none⟩, ⟨some 11, .call 85, [.t 10], [0], none⟩, ⟨some 12, .un .not, [.t 11], [1], none⟩, ⟨some 13, .mov, [.t 12], [2, 1], none⟩, ⟨some 14, .mov, [.t 0], [3], some (3, 13, false)⟩, ⟨some 15, .len, [.t 14], [4, 3], some (3, 13, false)⟩, ⟨some 16, .bin .gtr, [.t 15, ci 1024], [5, 3], some (3, 13, false)⟩, ⟨some 17, .pick, [.t 13, cb true, .t 16], [3, 6], none⟩] false).seq
  (AC.cond (.t 17) ((AC.region [⟨some 4, .mov, [AV.c (V.nl 1)], [], none⟩, ⟨some 5, .mov, [ci 2], [0, 0], none⟩] false).seq AC.ret) AC.skip)).seq
  ((AC.region [⟨some 6, .mov, [AV.c (V.nl 1)], [], none⟩] false).seq
  (((AC.region [⟨some 7, .mov, [ci 0], [], none⟩] false).seq
  (AC.block 0 (((AC.region [⟨some 18, .mov, [.t 7], [], none⟩, ⟨some 19, .fad 2, [.t 3], [], none⟩, ⟨some 20, .load 1 false, [.t 19], [1], none⟩, ⟨some 21, .bin .lss, [.t 18, .t 20], [0, 2], none⟩] false).seq
  (AC.cond (.t 21) AC.skip (AC.exit 0))).seq
  ((AC.block 1 ((AC.region [⟨some 25, .load 4 true, [.t 3], [], none⟩, ⟨some 26, .mov, [.t 7], [], none⟩, ⟨some 27, .call 78, [.t 25, .t 26], [0, 1], none⟩, ⟨some 24, .mov, [.t 27], [2], none⟩, ⟨some 28, .ext 0, [.t 24], [3], none⟩, ⟨some 29, .ext 1, [.t 24], [3], none⟩, ⟨some 8, .mov, [.t 28], [4, 2, 0, 1, 2, 3, 4], none⟩, ⟨some 9, .mov, [.t 29], [5, 6, 0, 1, 2, 3, 4, 5, 6], none⟩] false).seq
  ((AC.region [⟨some 30, .mov, [.t 9], [], none⟩] false).seq
  (AC.cond (.t 30) (AC.region [⟨some 31, .mov, [.t 6], [], none⟩, ⟨some 32, .mov, [.t 8], [], none⟩, ⟨some 33, .call 84, [.t 32], [1], none⟩, ⟨some 34, .bsl 1 [I 0] 1 [0], [.t 33], [2], none⟩, ⟨some 35, .app 1 8, [.t 31, .t 34], [0, 3, 2], none⟩, ⟨some 6, .mov, [.t 35], [4, 4, 0, 1, 2, 3, 4], none⟩] false) ((AC.region [⟨some 36, .mov, [.t 7], [], none⟩, ⟨some 37, .mov, [.t 0], [], none⟩, ⟨some 38, .len, [.t 37], [1], none⟩, ⟨some 39, .bin .lss, [.t 36, .t 38], [0, 2], none⟩] false).seq
  (AC.cond (.t 39) (AC.region [⟨some 40, .mov, [.t 6], [], none⟩, ⟨some 41, .mov, [.t 0], [], none⟩, ⟨some 42, .mov, [.t 7], [], none⟩, ⟨some 43, .iad 1, [.t 41, .t 42], [1, 2], none⟩, ⟨some 44, .load 1 false, [.t 43], [3], none⟩, ⟨some 45, .bsl 1 [I 0] 1 [0], [.t 44], [4], none⟩, ⟨some 46, .app 1 8, [.t 40, .t 45], [0, 5], none⟩, ⟨some 6, .mov, [.t 46], [6, 6, 0, 1, 2, 3, 4, 5, 6], none⟩] false) ((AC.region [⟨some 4, .mov, [AV.c (V.nl 1)], [], none⟩, ⟨some 5, .mov, [ci 2], [0, 0], none⟩] false).seq AC.ret))))))).seq
  (AC.region [⟨some 22, .mov, [.t 7], [], none⟩, ⟨some 23, .bin .add, [.t 22, ci 1], [0], none⟩, ⟨some 7, .mov, [.t 23], [1, 0, 1], none⟩] false))).loop)).seq
  ((AC.region [⟨some 47, .mov, [.t 6], [], none⟩, ⟨some 4, .mov, [.t 47], [0, 0], none⟩, ⟨some 5, .mov, [ci 0], [1, 0, 1], none⟩] false).seq AC.ret))))
def rs_ref15_Digests : List RV := [.t 4, .t 5]
theorem c_ref15_Digests : compile Try.prog (Go.Func.ntmps Try.f37) (Try.f37.body.getD .skip) = some ac_ref15_Digests := by kernel_rfl
theorem go_ref15_Digests {xs : List V} {bx bx' : U} {r : V} {ns : List O} (hxs : decide (xs.length ≤ Go.Func.ntmps Try.f37) = true) (hbx : BxOK bx bx') (h : ∀ cx : Cx, cx.m0 = ups M0 bx → Awp Try.prog cx ac_ref15_Digests (RetE rs_ref15_Digests r bx' ns) ⟨tl (idx 0 xs), ups M0 bx⟩) : Does Try.prog 37 xs bx r bx' ns :=
  does_of Try.func37 (by kernel_rfl : Try.f37.body = some (Try.f37.body.getD .skip)) rfl c_ref15_Digests (by kernel_rfl) (of_decide_eq_true hxs) hbx fun cx _ hm => h cx hm
def ac_ref14_Head : AC :=
  (AC.region [⟨some 1, .box, [.t 0], [], none⟩, ⟨some 2, .alloc [I 0, I 0, I 0, I 0, I 0], [], [], none⟩, ⟨some 3, .mov, [ci 0], [], none⟩] false).seq
  ((AC.region [⟨some 9, .load 4 true, [.t 1], [], none⟩, ⟨some 10, .call 36, [.t 9], [0], none⟩, ⟨some 8, .mov, [.t 10], [1], none⟩, ⟨some 11, .ext 0, [.t 8], [2], none⟩, ⟨some 12, .ext 1, [.t 8], [2], none⟩, ⟨some 4, .mov, [.t 11], [3, 1, 0, 1, 2, 3], none⟩, ⟨some 5, .mov, [.t 12], [4, 5, 0, 1, 2, 3, 4, 5], none⟩] false).seq
  (((AC.region [⟨some 13, .mov, [.t 5], [], none⟩, ⟨some 14, .bin .neq, [.t 13, ci 0], [0], none⟩] false).seq
  (AC.cond (.t 14) ((AC.region [⟨some 15, .build [I 0, I 0, I 0, I 0, I 0] [], [], [], none⟩, ⟨some 16, .mov, [.t 5], [], none⟩, ⟨none, .store 5, [.t 2, .t 15], [0, 0], none⟩, ⟨some 3, .mov, [.t 16], [1, 2, 0, 1, 2], none⟩] false).seq AC.ret) AC.skip)).seq
  ((AC.region [⟨some 18, .mov, [.t 4], [], none⟩, ⟨some 19, .call 86, [.t 18], [0], none⟩, ⟨some 17, .mov, [.t 19], [1], none⟩, ⟨some 20, .ext 0, [.t 17], [2], none⟩, ⟨some 21, .ext 1, [.t 17], [2], none⟩, ⟨some 6, .mov, [.t 20], [3, 1, 0, 1, 2, 3], none⟩, ⟨some 7, .mov, [.t 21], [4, 5, 0, 1, 2, 3, 4, 5], none⟩] false).seq
  ((AC.region [⟨some 22, .fad 0, [.t 1], [], none⟩, ⟨some 23, .load 1 false, [.t 22], [0], none⟩, ⟨some 24, .fad 1, [.t 1], [], none⟩, ⟨some 25, .fad 0, [.t 24], [2], none⟩, ⟨some 26, .load 1 false, [.t 25], [3], none⟩, ⟨some 27, .fad 3, [.t 1], [], none⟩, ⟨some 28, .load 1 false, [.t 27], [5], none⟩, ⟨some 29, .len, [.t 28], [6], none⟩, ⟨some 30, .fad 2, [.t 1], [], none⟩, ⟨some 31, .load 1 false, [.t 30], [8], none⟩, ⟨some 32, .mov, [.t 6], [], none⟩, ⟨some 33, .build [I 0, I 0, I 0, I 0, I 0] [(0, 1), (1, 1), (2, 1), (3, 1), (4, 1)], [.t 23, .t 26, .t 29, .t 31, .t 32], [1, 4, 7, 9, 10], none⟩, ⟨none, .store 5, [.t 2, .t 33], [11, 0, 1, 2, 3, 4, 5, 6, 7, 8, 9, 10, 11], none⟩, ⟨some 3, .mov, [ci 0], [12, 0, 1, 2, 3, 4, 5, 6, 7, 8, 9, 10, 11, 12], none⟩] false).seq AC.ret))))
def rs_ref14_Head : List RV := [.c 2 5 true, .t 3]
theorem c_ref14_Head : compile Try.prog (Go.Func.ntmps Try.f38) (Try.f38.body.getD .skip) = some ac_ref14_Head := by kernel_rfl
theorem go_ref14_Head {xs : List V} {bx bx' : U} {r : V} {ns : List O} (hxs : decide (xs.length ≤ Go.Func.ntmps Try.f38) = true) (hbx : BxOK bx bx') (h : ∀ cx : Cx, cx.m0 = ups M0 bx → Awp Try.prog cx ac_ref14_Head (RetE rs_ref14_Head r bx' ns) ⟨tl (idx 0 xs), ups M0 bx⟩) : Does Try.prog 38 xs bx r bx' ns :=
  does_of Try.func38 (by kernel_rfl : Try.f38.body = some (Try.f38.body.getD .skip)) rfl c_ref14_Head (by kernel_rfl) (of_decide_eq_true hxs) hbx fun cx _ hm => h cx hm
def ac_ref14_Holds : AC :=
  (AC.region [⟨some 2, .box, [.t 0], [], none⟩, ⟨some 4, .mov, [ci 0], [], none⟩] false).seq
  (((AC.region [⟨some 7, .mov, [.t 1], [], none⟩, ⟨some 8, .len, [.t 7], [0], none⟩, ⟨some 9, .fad 2, [.t 2], [], none⟩, ⟨some 10, .load 1 false, [.t 9], [2], none⟩, ⟨some 11, .bin .neq, [.t 8, .t 10], [1, 3], none⟩] false).seq
  (AC.cond (.t 11) ((AC.region [⟨some 4, .mov, [ci 2], [], none⟩] false).seq AC.ret) AC.skip)).seq
  ((AC.region [⟨some 13, .mov, [.t 1], [], none⟩, ⟨some 14, .call 86, [.t 13], [0], none⟩, ⟨some 12, .mov, [.t 14], [1], none⟩, ⟨some 15, .ext 0, [.t 12], [2], none⟩, ⟨some 16, .ext 1, [.t 12], [2], none⟩, ⟨some 5, .mov, [.t 15], [3, 1, 0, 1, 2, 3], none⟩, ⟨some 6, .mov, [.t 16], [4, 5, 0, 1, 2, 3, 4, 5], none⟩] false).seq
  (((AC.region [⟨some 17, .mov, [.t 6], [], none⟩, ⟨some 18, .bin .neq, [.t 17, ci 0], [0], none⟩] false).seq
  (AC.cond (.t 18) ((AC.region [⟨some 19, .mov, [.t 6], [], none⟩, ⟨some 4, .mov, [.t 19], [0, 0], none⟩] false).seq AC.ret) AC.skip)).seq
  (((AC.region [⟨some 20, .mov, [.t 5], [], none⟩, ⟨some 21, .fad 4, [.t 2], [], none⟩, ⟨some 22, .load 1 false, [.t 21], [1], none⟩, ⟨some 23, .bin .neq, [.t 20, .t 22], [0, 2], none⟩] false).seq
  (AC.cond (.t 23) ((AC.region [⟨some 4, .mov, [ci 13], [], none⟩] false).seq AC.ret) AC.skip)).seq
  ((AC.region [⟨some 4, .mov, [ci 0], [], none⟩] false).seq AC.ret)))))
def rs_ref14_Holds : List RV := [.t 4]
theorem c_ref14_Holds : compile Try.prog (Go.Func.ntmps Try.f39) (Try.f39.body.getD .skip) = some ac_ref14_Holds := by kernel_rfl
theorem go_ref14_Holds {xs : List V} {bx bx' : U} {r : V} {ns : List O} (hxs : decide (xs.length ≤ Go.Func.ntmps Try.f39) = true) (hbx : BxOK bx bx') (h : ∀ cx : Cx, cx.m0 = ups M0 bx → Awp Try.prog cx ac_ref14_Holds (RetE rs_ref14_Holds r bx' ns) ⟨tl (idx 0 xs), ups M0 bx⟩) : Does Try.prog 39 xs bx r bx' ns :=
  does_of Try.func39 (by kernel_rfl : Try.f39.body = some (Try.f39.body.getD .skip)) rfl c_ref14_Holds (by kernel_rfl) (of_decide_eq_true hxs) hbx fun cx _ hm => h cx hm
def ac_ref15_Same : AC :=
  (AC.region [⟨some 2, .box, [.t 0], [], none⟩, ⟨some 3, .box, [.t 1], [], none⟩, ⟨some 4, .mov, [cb false], [], none⟩] false).seq
  (((AC.region [⟨some 6, .fad 0, [.t 2], [], none⟩, ⟨some 7, .load 1 false, [.t 6], [0], none⟩, ⟨some 8, .fad 0, [.t 3], [], none⟩, ⟨some 9, .load 1 false, [.t 8], [2], none⟩, ⟨some 10, .bin .neq, [.t 7, .t 9], [1, 3], none⟩, ⟨some 11, .mov, [.t 10], [4], none⟩, ⟨some 12, .fad 1, [.t 2], [5], some (5, 11, false)⟩, ⟨some 13, .load 1 false, [.t 12], [6, 5], some (5, 11, false)⟩, ⟨some 14, .fad 1, [.t 3], [5], some (5, 11, false)⟩, ⟨some 15, .load 1 false, [.t 14], [8, 5], some (5, 11, false)⟩, ⟨some 16, .bin .neq, [.t 13, .t 15], [7, 9, 5], some (5, 11, false)⟩, ⟨some 17, .pick, [.t 11, cb true, .t 16], [5, 10], none⟩, ⟨some 18, .mov, [.t 17], [11, 5], none⟩, ⟨some 19, .fad 2, [.t 2], [12], some (12, 18, false)⟩, ⟨some 20, .load 1 false, [.t 19], [13, 12], some (12, 18, false)⟩, ⟨some 21, .fad 2, [.t 3], [12], some (12, 18, false)⟩, ⟨some 22, .load 1 false, [.t 21], [15, 12], some (12, 18, false)⟩, ⟨some 23, .bin .neq, [.t 20, .t 22], [14, 16, 12], some (12, 18, false)⟩, ⟨some 24, .pick, [.t 18, cb true, .t 23], [12, 17], none⟩, ⟨some 25, .mov, [.t 24], [18, 12], none⟩, ⟨some 26, .fad 3, [.t 2], [19], some (19, 25, false)⟩, ⟨some 27, .load 1 false, [.t 26], [20, 19], some (19, 25, false)⟩, ⟨some 28, .len, [.t 27], [21, 19], some (19, 25, false)⟩, ⟨some 29, .fad 3, [.t 3], [19], some (19, 25, false)⟩, ⟨some 30, .load 1 false, [.t 29], [23, 19], some (19, 25, false)⟩, ⟨some 31, .len, [.t 30], [24, 19], some (19, 25, false)⟩, ⟨some 32, .bin .neq, [.t 28, .t 31], [22, 25, 19], some (19, 25, false)⟩, ⟨some 33, .pick, [.t 25, cb true, .t 32], [19, 26], none⟩] false).seq
  (AC.cond (.t 33) ((AC.region [⟨some 4, .mov, [cb false], [], none⟩] false).seq AC.ret) AC.skip)).seq
  (((AC.region [⟨some 34, .fad 3, [.t 2], [], none⟩, ⟨some 35, .load 1 false, [.t 34], [0], none⟩, ⟨some 36, .len, [.t 35], [1], none⟩, ⟨some 37, .mov, [ci 0], [], none⟩] false).seq
  (AC.block 0 ((AC.region [⟨some 38, .bin .lss, [.t 37, .t 36], [], none⟩] false).seq
  ((AC.cond (.t 38) AC.skip (AC.exit 0)).seq
  ((AC.block 1 ((AC.region [⟨some 39, .mov, [.t 37], [], none⟩, ⟨some 5, .mov, [.t 39], [0, 0], none⟩] false).seq
  ((AC.region [⟨some 40, .fad 3, [.t 2], [], none⟩, ⟨some 41, .load 1 false, [.t 40], [0], none⟩, ⟨some 42, .mov, [.t 5], [], none⟩, ⟨some 43, .iad 2, [.t 41, .t 42], [1, 2], none⟩, ⟨some 44, .fad 0, [.t 43], [3], none⟩, ⟨some 45, .load 1 false, [.t 44], [4], none⟩, ⟨some 46, .fad 3, [.t 3], [], none⟩, ⟨some 47, .load 1 false, [.t 46], [6], none⟩, ⟨some 48, .mov, [.t 5], [], none⟩, ⟨some 49, .iad 2, [.t 47, .t 48], [7, 8], none⟩, ⟨some 50, .fad 0, [.t 49], [9], none⟩, ⟨some 51, .load 1 false, [.t 50], [10], none⟩, ⟨some 52, .bin .neq, [.t 45, .t 51], [5, 11], none⟩, ⟨some 53, .mov, [.t 52], [12], none⟩, ⟨some 54, .fad 3, [.t 2], [13], some (13, 53, false)⟩, ⟨some 55, .load 1 false, [.t 54], [14, 13], some (13, 53, false)⟩, ⟨some 56, .mov, [.t 5], [13], some (13, 53, false)⟩, ⟨some 57, .iad 2, [.t 55, .t 56], [15, 16, 13], some (13, 53, false)⟩, ⟨some 58, .fad 1, [.t 57], [17, 13], some (13, 53, false)⟩, ⟨some 59, .load 1 false, [.t 58], [18, 13], some (13, 53, false)⟩, ⟨some 60, .fad 3, [.t 3], [13], some (13, 53, false)⟩, ⟨some 61, .load 1 false, [.t 60], [20, 13], some (13, 53, false)⟩, ⟨some 62, .mov, [.t 5], [13], some (13, 53, false)⟩, ⟨some 63, .iad 2, [.t 61, .t 62], [21, 22, 13], some (13, 53, false)⟩, ⟨some 64, .fad 1, [.t 63], [23, 13], some (13, 53, false)⟩, ⟨some 65, .load 1 false, [.t 64], [24, 13], some (13, 53, false)⟩, ⟨some 66, .call 89, [.t 59, .t 65], [19, 25, 13, 13], some (13, 53, false)⟩, ⟨some 67, .un .not, [.t 66], [26, 13], some (13, 53, false)⟩, ⟨some 68, .pick, [.t 53, cb true, .t 67], [13, 27], none⟩] true).seq
  (AC.cond (.t 68) ((AC.region [⟨some 4, .mov, [cb false], [], none⟩] false).seq AC.ret) AC.skip)))).seq
  (AC.region [⟨some 69, .bin .add, [.t 37, ci 1], [], none⟩, ⟨some 37, .mov, [.t 69], [0], none⟩] false)))).loop)).seq
  ((AC.region [⟨some 4, .mov, [cb true], [], none⟩] false).seq AC.ret)))
def rs_ref15_Same : List RV := [.t 4]
theorem c_ref15_Same : compile Try.prog (Go.Func.ntmps Try.f48) (Try.f48.body.getD .skip) = some ac_ref15_Same := by kernel_rfl
theorem go_ref15_Same {xs : List V} {bx bx' : U} {r : V} {ns : List O} (hxs : decide (xs.length ≤ Go.Func.ntmps Try.f48) = true) (hbx : BxOK bx bx') (h : ∀ cx : Cx, cx.m0 = ups M0 bx → Awp Try.prog cx ac_ref15_Same (RetE rs_ref15_Same r bx' ns) ⟨tl (idx 0 xs), ups M0 bx⟩) : Does Try.prog 48 xs bx r bx' ns :=
  does_of Try.func48 (by kernel_rfl : Try.f48.body = some (Try.f48.body.getD .skip)) rfl c_ref15_Same (by kernel_rfl) (of_decide_eq_true hxs) hbx fun cx _ hm => h cx hm
def ac_ref14_Check : AC :=
  (AC.region [⟨some 1, .box, [.t 0], [], none⟩, ⟨some 2, .mov, [ci 0], [], none⟩] false).seq
  (((AC.region [⟨some 6, .fad 0, [.t 1], [], none⟩, ⟨some 7, .load 1 false, [.t 6], [0], none⟩, ⟨some 8, .bin .lss, [.t 7, ci 1], [1], none⟩, ⟨some 9, .mov, [.t 8], [2], none⟩, ⟨some 10, .fad 0, [.t 1], [3], some (3, 9, false)⟩, ⟨some 11, .load 1 false, [.t 10], [4, 3], some (3, 9, false)⟩, ⟨some 12, .bin .geq, [.t 11, ci 2147483647], [5, 3], some (3, 9, false)⟩, ⟨some 13, .pick, [.t 9, cb true, .t 12], [3, 6], none⟩] false).seq
  (AC.cond (.t 13) ((AC.region [⟨some 2, .mov, [ci 1], [], none⟩] false).seq AC.ret) AC.skip)).seq
  (((AC.region [⟨some 14, .fad 1, [.t 1], [], none⟩, ⟨some 15, .load 1 true, [.t 14], [0], none⟩, ⟨some 16, .call 66, [.t 15], [1], none⟩, ⟨some 3, .mov, [.t 16], [2, 2, 0, 1, 2], none⟩] false).seq
  ((AC.region [⟨some 17, .mov, [.t 3], [], none⟩, ⟨some 18, .bin .neq, [.t 17, ci 0], [0], none⟩] false).seq
  (AC.cond (.t 18) ((AC.region [⟨some 19, .mov, [.t 3], [], none⟩, ⟨some 2, .mov, [.t 19], [0, 0], none⟩] false).seq AC.ret) AC.skip))).seq
  (((AC.region [⟨some 20, .fad 2, [.t 1], [], none⟩, ⟨some 21, .load 1 false, [.t 20], [0], none⟩, ⟨some 22, .bin .lss, [.t 21, ci 1], [1], none⟩, ⟨some 23, .mov, [.t 22], [2], none⟩, ⟨some 24, .fad 2, [.t 1], [3], some (3, 23, false)⟩, ⟨some 25, .load 1 false, [.t 24], [4, 3], some (3, 23, false)⟩, ⟨some 26, .bin .gtr, [.t 25, ci 64], [5, 3], some (3, 23, false)⟩, ⟨some 27, .pick, [.t 23, cb true, .t 26], [3, 6], none⟩] false).seq
  (AC.cond (.t 27) ((AC.region [⟨some 2, .mov, [ci 1], [], none⟩] false).seq AC.ret) AC.skip)).seq
  (((AC.region [⟨some 28, .fad 3, [.t 1], [], none⟩, ⟨some 29, .load 1 false, [.t 28], [0], none⟩, ⟨some 30, .len, [.t 29], [1], none⟩, ⟨some 31, .bin .gtr, [.t 30, ci 1024], [2], none⟩] false).seq
  (AC.cond (.t 31) ((AC.region [⟨some 2, .mov, [ci 4], [], none⟩] false).seq AC.ret) AC.skip)).seq
  (((AC.region [⟨some 32, .fad 3, [.t 1], [], none⟩, ⟨some 33, .load 1 false, [.t 32], [0], none⟩, ⟨some 34, .len, [.t 33], [1], none⟩, ⟨some 35, .mov, [ci 0], [], none⟩] false).seq
  (AC.block 0 ((AC.region [⟨some 36, .bin .lss, [.t 35, .t 34], [], none⟩] false).seq
  ((AC.cond (.t 36) AC.skip (AC.exit 0)).seq
  ((AC.block 1 ((AC.region [⟨some 37, .iad 1, [.t 33, .t 35], [], none⟩, ⟨some 38, .load 1 false, [.t 37], [0], none⟩, ⟨some 5, .mov, [.t 38], [1, 0, 1], none⟩] false).seq
  (((AC.region [⟨some 39, .mov, [.t 5], [], none⟩, ⟨some 40, .len, [.t 39], [0], none⟩, ⟨some 41, .fad 2, [.t 1], [], none⟩, ⟨some 42, .load 1 false, [.t 41], [2], none⟩, ⟨some 43, .bin .neq, [.t 40, .t 42], [1, 3], none⟩] false).seq
  (AC.cond (.t 43) ((AC.region [⟨some 2, .mov, [ci 2], [], none⟩] false).seq AC.ret) AC.skip)).seq
  ((AC.region [⟨some 44, .fad 1, [.t 1], [], none⟩, ⟨some 45, .load 1 true, [.t 44], [0], none⟩, ⟨some 46, .mov, [.t 5], [], none⟩, ⟨some 47, .call 67, [.t 45, .t 46], [1, 2], none⟩, ⟨some 48, .un .not, [.t 47], [3], none⟩] false).seq
  (AC.cond (.t 48) ((AC.region [⟨some 2, .mov, [ci 9], [], none⟩] false).seq AC.ret) AC.skip))))).seq
  (AC.region [⟨some 49, .bin .add, [.t 35, ci 1], [], none⟩, ⟨some 35, .mov, [.t 49], [0], none⟩] false)))).loop)).seq
  ((AC.region [⟨some 2, .mov, [ci 0], [], none⟩] false).seq AC.ret))))))
def rs_ref14_Check : List RV := [.t 2]
theorem c_ref14_Check : compile Try.prog (Go.Func.ntmps Try.f53) (Try.f53.body.getD .skip) = some ac_ref14_Check := by kernel_rfl
theorem go_ref14_Check {xs : List V} {bx bx' : U} {r : V} {ns : List O} (hxs : decide (xs.length ≤ Go.Func.ntmps Try.f53) = true) (hbx : BxOK bx bx') (h : ∀ cx : Cx, cx.m0 = ups M0 bx → Awp Try.prog cx ac_ref14_Check (RetE rs_ref14_Check r bx' ns) ⟨tl (idx 0 xs), ups M0 bx⟩) : Does Try.prog 53 xs bx r bx' ns :=
  does_of Try.func53 (by kernel_rfl : Try.f53.body = some (Try.f53.body.getD .skip)) rfl c_ref14_Check (by kernel_rfl) (of_decide_eq_true hxs) hbx fun cx _ hm => h cx hm
def ac_play_Dice_Rows : AC :=
  (AC.region [⟨some 5, .box, [.t 1], [], none⟩, ⟨some 8, .mov, [AV.c (V.nl 1)], [], none⟩] false).seq
  ((AC.region [⟨some 9, .mov, [AV.c (V.nl 1)], [], none⟩] false).seq
  (((AC.region [⟨some 10, .mov, [ci 0], [], none⟩] false).seq
  (AC.block 0 (((AC.region [⟨some 11, .mov, [.t 10], [], none⟩, ⟨some 12, .mov, [.t 2], [], none⟩, ⟨some 13, .bin .lss, [.t 11, .t 12], [0, 1], none⟩] false).seq
  (AC.cond (.t 13) AC.skip (AC.exit 0))).seq
  ((AC.block 1 (AC.region [⟨some 16, .mov, [.t 9], [], none⟩, ⟨some 17, .mov, [.t 0], [], none⟩, ⟨some 18, .load 1 true, [.t 5], [], none⟩, ⟨some 19, .mov, [.t 3], [], none⟩, ⟨some 20, .call 16, [.t 17, .t 18, .t 19], [1, 2, 3], none⟩, ⟨some 21, .bsl 1 [V.nl 1] 1 [0], [.t 20], [4], none⟩, ⟨some 22, .app 1 24, [.t 16, .t 21], [0, 5, 4], none⟩, ⟨some 9, .mov, [.t 22], [6, 6, 0, 1, 2, 3, 4, 5, 6], none⟩] false)).seq
  (AC.region [⟨some 14, .mov, [.t 10], [], none⟩, ⟨some 15, .bin .add, [.t 14, ci 1], [0], none⟩, ⟨some 10, .mov, [.t 15], [1, 0, 1], none⟩] false))).loop)).seq
  ((AC.region [⟨some 23, .mov, [.t 9], [], none⟩, ⟨some 8, .mov, [.t 23], [0, 0], none⟩] false).seq AC.ret)))
def rs_play_Dice_Rows : List RV := [.t 8]
theorem c_play_Dice_Rows : compile Try.prog (Go.Func.ntmps Try.f60) (Try.f60.body.getD .skip) = some ac_play_Dice_Rows := by kernel_rfl
theorem go_play_Dice_Rows {xs : List V} {bx bx' : U} {r : V} {ns : List O} (hxs : decide (xs.length ≤ Go.Func.ntmps Try.f60) = true) (hbx : BxOK bx bx') (h : ∀ cx : Cx, cx.m0 = ups M0 bx → Awp Try.prog cx ac_play_Dice_Rows (RetE rs_play_Dice_Rows r bx' ns) ⟨tl (idx 0 xs), ups M0 bx⟩) : Does Try.prog 60 xs bx r bx' ns :=
  does_of Try.func60 (by kernel_rfl : Try.f60.body = some (Try.f60.body.getD .skip)) rfl c_play_Dice_Rows (by kernel_rfl) (of_decide_eq_true hxs) hbx fun cx _ hm => h cx hm
def ac_table_Check : AC :=
  (AC.region [⟨some 1, .box, [.t 0], [], none⟩, ⟨some 2, .mov, [ci 0], [], none⟩] false).seq
  ((AC.region [⟨some 8, .fad 1, [.t 1], [], none⟩, ⟨some 9, .load 1 true, [.t 8], [0], none⟩, ⟨some 10, .call 94, [.t 9], [1], none⟩, ⟨some 7, .mov, [.t 10], [2], none⟩, ⟨some 11, .ext 0, [.t 7], [3], none⟩, ⟨some 12, .ext 1, [.t 7], [3], none⟩, ⟨some 3, .mov, [.t 11], [4, 2, 0, 1, 2, 3, 4], none⟩, ⟨some 4, .mov, [.t 12], [5, 6, 0, 1, 2, 3, 4, 5, 6], none⟩] false).seq
  ((AC.block 0 ((AC.region [⟨some 14, .fad 0, [.t 1], [], none⟩, ⟨some 15, .load 1 false, [.t 14], [0], none⟩, ⟨some 16, .bin .lss, [.t 15, ci 1], [1], none⟩, ⟨some 17, .mov, [.t 16], [2], none⟩, ⟨some 18, .fad 0, [.t 1], [3], some (3, 17, false)⟩, ⟨some 19, .load 1 false, [.t 18], [4, 3], some (3, 17, false)⟩, ⟨some 20, .bin .geq, [.t 19, ci 2147483647], [5, 3], some (3, 17, false)⟩, ⟨some 21, .pick, [.t 17, cb true, .t 20], [3, 6], none⟩, ⟨some 13, .mov, [.t 21], [7, 3], none⟩] false).seq
  (AC.cond (.t 13) ((AC.region [⟨some 2, .mov, [ci 1], [], none⟩] false).seq AC.ret) ((AC.region [⟨some 23, .mov, [.t 4], [], none⟩, ⟨some 24, .un .not, [.t 23], [0], none⟩, ⟨some 22, .mov, [.t 24], [1], none⟩] false).seq
  (AC.cond (.t 22) ((AC.region [⟨some 2, .mov, [ci 9], [], none⟩] false).seq AC.ret) ((AC.region [⟨some 26, .fad 2, [.t 1], [], none⟩, ⟨some 27, .load 1 false, [.t 26], [0], none⟩, ⟨some 28, .bin .lss, [.t 27, ci 1], [1], none⟩, ⟨some 29, .mov, [.t 28], [2], none⟩, ⟨some 30, .fad 2, [.t 1], [3], some (3, 29, false)⟩, ⟨some 31, .load 1 false, [.t 30], [4, 3], some (3, 29, false)⟩, ⟨some 32, .bin .gtr, [.t 31, ci 64], [5, 3], some (3, 29, false)⟩, ⟨some 33, .pick, [.t 29, cb true, .t 32], [3, 6], none⟩, ⟨some 25, .mov, [.t 33], [7, 3], none⟩] false).seq
  (AC.cond (.t 25) ((AC.region [⟨some 2, .mov, [ci 1], [], none⟩] false).seq AC.ret) ((AC.region [⟨some 35, .fad 3, [.t 1], [], none⟩, ⟨some 36, .load 1 false, [.t 35], [0], none⟩, ⟨some 37, .len, [.t 36], [1], none⟩, ⟨some 38, .bin .gtr, [.t 37, ci 1024], [2], none⟩, ⟨some 34, .mov, [.t 38], [3], none⟩] false).seq
  (AC.cond (.t 34) ((AC.region [⟨some 2, .mov, [ci 4], [], none⟩] false).seq AC.ret) AC.skip))))))))).seq
  (((AC.region [⟨some 39, .fad 3, [.t 1], [], none⟩, ⟨some 40, .load 1 false, [.t 39], [0], none⟩, ⟨some 41, .len, [.t 40], [1], none⟩, ⟨some 42, .mov, [ci 0], [], none⟩] false).seq
  (AC.block 1 ((AC.region [⟨some 43, .bin .lss, [.t 42, .t 41], [], none⟩] false).seq
  ((AC.cond (.t 43) AC.skip (AC.exit 1)).seq
  ((AC.block 2 ((AC.region [⟨some 44, .iad 1, [.t 40, .t 42], [], none⟩, ⟨some 45, .load 1 false, [.t 44], [0], none⟩, ⟨some 6, .mov, [.t 45], [1, 0, 1], none⟩] false).seq
  (((AC.region [⟨some 46, .mov, [.t 6], [], none⟩, ⟨some 47, .len, [.t 46], [0], none⟩, ⟨some 48, .fad 2, [.t 1], [], none⟩, ⟨some 49, .load 1 false, [.t 48], [2], none⟩, ⟨some 50, .bin .neq, [.t 47, .t 49], [1, 3], none⟩] false).seq
  (AC.cond (.t 50) ((AC.region [⟨some 2, .mov, [ci 2], [], none⟩] false).seq AC.ret) AC.skip)).seq
  ((AC.region [⟨some 51, .mov, [.t 3], [], none⟩, ⟨some 52, .mov, [.t 6], [], none⟩, ⟨some 53, .call 95, [.t 51, .t 52], [0, 1], none⟩, ⟨some 54, .un .not, [.t 53], [2], none⟩] false).seq
  (AC.cond (.t 54) ((AC.region [⟨some 2, .mov, [ci 9], [], none⟩] false).seq AC.ret) AC.skip))))).seq
  (AC.region [⟨some 55, .bin .add, [.t 42, ci 1], [], none⟩, ⟨some 42, .mov, [.t 55], [0], none⟩] false)))).loop)).seq
  ((AC.region [⟨some 2, .mov, [ci 0], [], none⟩] false).seq AC.ret))))
def rs_table_Check : List RV := [.t 2]
theorem c_table_Check : compile Try.prog (Go.Func.ntmps Try.f61) (Try.f61.body.getD .skip) = some ac_table_Check := by kernel_rfl
theorem go_table_Check {xs : List V} {bx bx' : U} {r : V} {ns : List O} (hxs : decide (xs.length ≤ Go.Func.ntmps Try.f61) = true) (hbx : BxOK bx bx') (h : ∀ cx : Cx, cx.m0 = ups M0 bx → Awp Try.prog cx ac_table_Check (RetE rs_table_Check r bx' ns) ⟨tl (idx 0 xs), ups M0 bx⟩) : Does Try.prog 61 xs bx r bx' ns :=
  does_of Try.func61 (by kernel_rfl : Try.f61.body = some (Try.f61.body.getD .skip)) rfl c_table_Check (by kernel_rfl) (of_decide_eq_true hxs) hbx fun cx _ hm => h cx hm
def ac_slices_Clone_int_int : AC :=
  (AC.region [⟨some 2, .mov, [AV.c (V.nl 1)], [], none⟩] false).seq
  (((AC.region [⟨some 3, .mov, [.t 0], [], none⟩, ⟨some 4, .isn false, [.t 3, AV.c (V.nl 1)], [0], none⟩] false).seq
  (AC.cond (.t 4) ((AC.region [⟨some 2, .mov, [AV.c (V.nl 1)], [], none⟩] false).seq AC.ret) AC.skip)).seq
  ((AC.region [⟨some 5, .bsl 1 [I 0] 0 [], [], [], none⟩, ⟨some 6, .mov, [.t 0], [], none⟩, ⟨some 7, .app 1 8, [.t 5, .t 6], [0, 1], none⟩, ⟨some 2, .mov, [.t 7], [2, 2, 0, 1, 2], none⟩] false).seq AC.ret))
def rs_slices_Clone_int_int : List RV := [.t 2]
theorem c_slices_Clone_int_int : compile Try.prog (Go.Func.ntmps Try.f64) (Try.f64.body.getD .skip) = some ac_slices_Clone_int_int := by kernel_rfl
theorem go_slices_Clone_int_int {xs : List V} {bx bx' : U} {r : V} {ns : List O} (hxs : decide (xs.length ≤ Go.Func.ntmps Try.f64) = true) (hbx : BxOK bx bx') (h : ∀ cx : Cx, cx.m0 = ups M0 bx → Awp Try.prog cx ac_slices_Clone_int_int (RetE rs_slices_Clone_int_int r bx' ns) ⟨tl (idx 0 xs), ups M0 bx⟩) : Does Try.prog 64 xs bx r bx' ns :=
  does_of Try.func64 (by kernel_rfl : Try.f64.body = some (Try.f64.body.getD .skip)) rfl c_slices_Clone_int_int (by kernel_rfl) (of_decide_eq_true hxs) hbx fun cx _ hm => h cx hm
def ac_ref03_Check : AC :=
  (AC.region [⟨some 1, .box, [.t 0], [], none⟩, ⟨some 2, .mov, [ci 0], [], none⟩] false).seq
  (((AC.region [⟨some 4, .fad 0, [.t 1], [], none⟩, ⟨some 5, .load 1 false, [.t 4], [0], none⟩, ⟨some 6, .bin .lss, [.t 5, ci 2], [1], none⟩, ⟨some 7, .mov, [.t 6], [2], none⟩, ⟨some 8, .fad 0, [.t 1], [3], some (3, 7, false)⟩, ⟨some 9, .load 1 false, [.t 8], [4, 3], some (3, 7, false)⟩, ⟨some 10, .bin .gtr, [.t 9, ci 65521], [5, 3], some (3, 7, false)⟩, ⟨some 11, .pick, [.t 7, cb true, .t 10], [3, 6], none⟩] false).seq
  (AC.cond (.t 11) ((AC.region [⟨some 2, .mov, [ci 9], [], none⟩] false).seq AC.ret) AC.skip)).seq
  (((AC.region [⟨some 3, .mov, [ci 2], [], none⟩] false).seq
  (AC.block 0 (((AC.region [⟨some 12, .mov, [.t 3], [], none⟩, ⟨some 13, .mov, [.t 3], [], none⟩, ⟨some 14, .bin .mul, [.t 12, .t 13], [0, 1], none⟩, ⟨some 15, .fad 0, [.t 1], [], none⟩, ⟨some 16, .load 1 false, [.t 15], [3], none⟩, ⟨some 17, .bin .leq, [.t 14, .t 16], [2, 4], none⟩] false).seq
  (AC.cond (.t 17) AC.skip (AC.exit 0))).seq
  ((AC.block 1 ((AC.region [⟨some 20, .fad 0, [.t 1], [], none⟩, ⟨some 21, .load 1 false, [.t 20], [0], none⟩, ⟨some 22, .mov, [.t 3], [], none⟩, ⟨some 23, .bin .rem, [.t 21, .t 22], [1, 2], none⟩, ⟨some 24, .bin .eql, [.t 23, ci 0], [3], none⟩] false).seq
  (AC.cond (.t 24) ((AC.region [⟨some 2, .mov, [ci 9], [], none⟩] false).seq AC.ret) AC.skip))).seq
  (AC.region [⟨some 18, .mov, [.t 3], [], none⟩, ⟨some 19, .bin .add, [.t 18, ci 1], [0], none⟩, ⟨some 3, .mov, [.t 19], [1, 0, 1], none⟩] false))).loop)).seq
  ((AC.region [⟨some 2, .mov, [ci 0], [], none⟩] false).seq AC.ret)))
def rs_ref03_Check : List RV := [.t 2]
theorem c_ref03_Check : compile Try.prog (Go.Func.ntmps Try.f66) (Try.f66.body.getD .skip) = some ac_ref03_Check := by kernel_rfl
theorem go_ref03_Check {xs : List V} {bx bx' : U} {r : V} {ns : List O} (hxs : decide (xs.length ≤ Go.Func.ntmps Try.f66) = true) (hbx : BxOK bx bx') (h : ∀ cx : Cx, cx.m0 = ups M0 bx → Awp Try.prog cx ac_ref03_Check (RetE rs_ref03_Check r bx' ns) ⟨tl (idx 0 xs), ups M0 bx⟩) : Does Try.prog 66 xs bx r bx' ns :=
  does_of Try.func66 (by kernel_rfl : Try.f66.body = some (Try.f66.body.getD .skip)) rfl c_ref03_Check (by kernel_rfl) (of_decide_eq_true hxs) hbx fun cx _ hm => h cx hm
def ac_ref03_In : AC :=
  (AC.region [⟨some 2, .box, [.t 0], [], none⟩, ⟨some 4, .mov, [cb false], [], none⟩] false).seq
  (((AC.region [⟨some 7, .load 1 true, [.t 2], [], none⟩, ⟨some 8, .call 66, [.t 7], [0], none⟩, ⟨some 9, .bin .neq, [.t 8, ci 0], [1], none⟩] false).seq
  (AC.cond (.t 9) ((AC.region [⟨some 4, .mov, [cb false], [], none⟩] false).seq AC.ret) AC.skip)).seq
  (((AC.region [⟨some 10, .mov, [.t 1], [], none⟩, ⟨some 11, .len, [.t 10], [0], none⟩, ⟨some 12, .mov, [ci 0], [], none⟩] false).seq
  (AC.block 0 ((AC.region [⟨some 13, .bin .lss, [.t 12, .t 11], [], none⟩] false).seq
  ((AC.cond (.t 13) AC.skip (AC.exit 0)).seq
  ((AC.block 1 ((AC.region [⟨some 14, .iad 1, [.t 10, .t 12], [], none⟩, ⟨some 15, .load 1 false, [.t 14], [0], none⟩, ⟨some 6, .mov, [.t 15], [1, 0, 1], none⟩] false).seq
  ((AC.region [⟨some 16, .mov, [.t 6], [], none⟩, ⟨some 17, .bin .lss, [.t 16, ci 0], [0], none⟩, ⟨some 18, .mov, [.t 17], [1], none⟩, ⟨some 19, .mov, [.t 6], [2], some (2, 18, false)⟩, ⟨some 20, .fad 0, [.t 2], [2], some (2, 18, false)⟩, ⟨some 21, .load 1 false, [.t 20], [4, 2], some (2, 18, false)⟩, ⟨some 22, .bin .geq, [.t 19, .t 21], [3, 5, 2], some (2, 18, false)⟩, ⟨some 23, .pick, [.t 18, cb true, .t 22], [2, 6], none⟩] false).seq
  (AC.cond (.t 23) ((AC.region [⟨some 4, .mov, [cb false], [], none⟩] false).seq AC.ret) AC.skip)))).seq
  (AC.region [⟨some 24, .bin .add, [.t 12, ci 1], [], none⟩, ⟨some 12, .mov, [.t 24], [0], none⟩] false)))).loop)).seq
  ((AC.region [⟨some 4, .mov, [cb true], [], none⟩] false).seq AC.ret)))
def rs_ref03_In : List RV := [.t 4]
theorem c_ref03_In : compile Try.prog (Go.Func.ntmps Try.f67) (Try.f67.body.getD .skip) = some ac_ref03_In := by kernel_rfl
theorem go_ref03_In {xs : List V} {bx bx' : U} {r : V} {ns : List O} (hxs : decide (xs.length ≤ Go.Func.ntmps Try.f67) = true) (hbx : BxOK bx bx') (h : ∀ cx : Cx, cx.m0 = ups M0 bx → Awp Try.prog cx ac_ref03_In (RetE rs_ref03_In r bx' ns) ⟨tl (idx 0 xs), ups M0 bx⟩) : Does Try.prog 67 xs bx r bx' ns :=
  does_of Try.func67 (by kernel_rfl : Try.f67.body = some (Try.f67.body.getD .skip)) rfl c_ref03_In (by kernel_rfl) (of_decide_eq_true hxs) hbx fun cx _ hm => h cx hm
def ac_change_Apply : AC :=
  (AC.region [⟨some 2, .box, [.t 0], [], none⟩, ⟨some 3, .box, [.t 1], [], none⟩, ⟨some 4, .alloc [I 0, I 0, I 0, V.nl 1], [], [], none⟩, ⟨some 5, .mov, [ci 0], [], none⟩] false).seq
  (((AC.region [⟨some 12, .load 4 true, [.t 2], [], none⟩, ⟨some 13, .load 4 true, [.t 3], [], none⟩, ⟨some 14, .call 90, [.t 12, .t 13], [0, 1], none⟩, ⟨some 6, .mov, [.t 14], [2, 2, 0, 1, 2], none⟩] false).seq
  ((AC.region [⟨some 15, .mov, [.t 6], [], none⟩, ⟨some 16, .bin .neq, [.t 15, ci 0], [0], none⟩] false).seq
  (AC.cond (.t 16) ((AC.region [⟨some 17, .build [I 0, I 0, I 0, V.nl 1] [], [], [], none⟩, ⟨some 18, .mov, [.t 6], [], none⟩, ⟨none, .store 4, [.t 4, .t 17], [0, 0], none⟩, ⟨some 5, .mov, [.t 18], [1, 2, 0, 1, 2], none⟩] false).seq AC.ret) AC.skip))).seq
  ((AC.region [⟨some 19, .fad 1, [.t 3], [], none⟩, ⟨some 20, .load 1 false, [.t 19], [0], none⟩, ⟨some 21, .fad 1, [.t 2], [], none⟩, ⟨some 22, .load 1 true, [.t 21], [2], none⟩, ⟨some 23, .fad 2, [.t 2], [], none⟩, ⟨some 24, .load 1 false, [.t 23], [4], none⟩, ⟨some 25, .fad 2, [.t 3], [], none⟩, ⟨some 26, .load 1 false, [.t 25], [6], none⟩, ⟨some 27, .mks 1 [V.nl 1] 24, [.t 26, .t 26], [7, 7], none⟩, ⟨some 28, .build [I 0, I 0, I 0, V.nl 1] [(0, 1), (1, 1), (2, 1), (3, 1)], [.t 20, .t 22, .t 24, .t 27], [1, 3, 5, 8], none⟩, ⟨some 7, .alloc [I 0, I 0, I 0, V.nl 1], [], [], none⟩, ⟨none, .store 4, [.t 7, .t 28], [10, 9, 0, 1, 2, 3, 4, 5, 6, 7, 8, 9, 10], none⟩] true).seq
  (((AC.region [⟨some 29, .fad 3, [.t 2], [], none⟩, ⟨some 30, .load 1 false, [.t 29], [0], none⟩, ⟨some 31, .fad 2, [.t 3], [], none⟩, ⟨some 32, .load 1 false, [.t 31], [2], none⟩, ⟨some 33, .fad 3, [.t 2], [], none⟩, ⟨some 34, .load 1 false, [.t 33], [4], none⟩, ⟨some 35, .len, [.t 34], [5], none⟩, ⟨some 36, .mn, [.t 32, .t 35], [3, 6], none⟩, ⟨some 37, .slc false true false 1, [.t 30, .t 36], [1, 7], none⟩, ⟨some 38, .len, [.t 37], [8], none⟩, ⟨some 39, .mov, [ci 0], [], none⟩] false).seq
  (AC.block 0 ((AC.region [⟨some 40, .bin .lss, [.t 39, .t 38], [], none⟩] false).seq
  ((AC.cond (.t 40) AC.skip (AC.exit 0)).seq
  ((AC.block 1 ((AC.region [⟨some 41, .mov, [.t 39], [], none⟩, ⟨some 42, .iad 1, [.t 37, .t 39], [], none⟩, ⟨some 43, .load 1 false, [.t 42], [1], none⟩, ⟨some 8, .mov, [.t 41], [0, 0, 1, 2], none⟩, ⟨some 9, .mov, [.t 43], [2, 3, 0, 1, 2, 3], none⟩] false).seq
  (AC.region [⟨some 44, .fad 3, [.t 7], [], none⟩, ⟨some 45, .load 1 false, [.t 44], [0], none⟩, ⟨some 46, .mov, [.t 8], [], none⟩, ⟨some 47, .mov, [.t 9], [], none⟩, ⟨some 48, .call 64, [.t 47], [3], none⟩, ⟨some 49, .iad 1, [.t 45, .t 46], [1, 2, 0, 1, 2, 3, 4], none⟩, ⟨none, .store 1, [.t 49, .t 48], [5, 4, 4, 0, 1, 2, 3, 4], none⟩] true))).seq
  (AC.region [⟨some 50, .bin .add, [.t 39, ci 1], [], none⟩, ⟨some 39, .mov, [.t 50], [0], none⟩] false)))).loop)).seq
  (((AC.region [⟨some 51, .fad 3, [.t 3], [], none⟩, ⟨some 52, .load 1 false, [.t 51], [0], none⟩, ⟨some 53, .len, [.t 52], [1], none⟩, ⟨some 54, .mov, [ci 0], [], none⟩] false).seq
  (AC.block 2 ((AC.region [⟨some 55, .bin .lss, [.t 54, .t 53], [], none⟩] false).seq
  ((AC.cond (.t 55) AC.skip (AC.exit 2)).seq
  ((AC.block 3 ((AC.region [⟨some 56, .iad 2, [.t 52, .t 54], [], none⟩, ⟨some 57, .load 2 true, [.t 56], [0], none⟩, ⟨some 11, .alloc [I 0, V.nl 1], [], [], none⟩, ⟨none, .store 2, [.t 11, .t 57], [2, 1, 0, 1, 2], none⟩] false).seq
  (AC.region [⟨some 58, .fad 3, [.t 7], [], none⟩, ⟨some 59, .load 1 false, [.t 58], [0], none⟩, ⟨some 60, .fad 0, [.t 11], [], none⟩, ⟨some 61, .load 1 false, [.t 60], [2], none⟩, ⟨some 62, .fad 1, [.t 11], [], none⟩, ⟨some 63, .load 1 false, [.t 62], [4], none⟩, ⟨some 64, .call 64, [.t 63], [5], none⟩, ⟨some 65, .iad 1, [.t 59, .t 61], [1, 3, 0, 1, 2, 3, 4, 5, 6], none⟩, ⟨none, .store 1, [.t 65, .t 64], [7, 6, 6, 0, 1, 2, 3, 4, 5, 6], none⟩] true))).seq
  (AC.region [⟨some 66, .bin .add, [.t 54, ci 1], [], none⟩, ⟨some 54, .mov, [.t 66], [0], none⟩] false)))).loop)).seq
  ((AC.region [⟨some 67, .load 4 true, [.t 7], [], none⟩, ⟨none, .store 4, [.t 4, .t 67], [0, 0], none⟩, ⟨some 5, .mov, [ci 0], [1, 0, 1], none⟩] false).seq AC.ret)))))
def rs_change_Apply : List RV := [.c 4 4 true, .t 5]
theorem c_change_Apply : compile Try.prog (Go.Func.ntmps Try.f74) (Try.f74.body.getD .skip) = some ac_change_Apply := by kernel_rfl
theorem go_change_Apply {xs : List V} {bx bx' : U} {r : V} {ns : List O} (hxs : decide (xs.length ≤ Go.Func.ntmps Try.f74) = true) (hbx : BxOK bx bx') (h : ∀ cx : Cx, cx.m0 = ups M0 bx → Awp Try.prog cx ac_change_Apply (RetE rs_change_Apply r bx' ns) ⟨tl (idx 0 xs), ups M0 bx⟩) : Does Try.prog 74 xs bx r bx' ns :=
  does_of Try.func74 (by kernel_rfl : Try.f74.body = some (Try.f74.body.getD .skip)) rfl c_change_Apply (by kernel_rfl) (of_decide_eq_true hxs) hbx fun cx _ hm => h cx hm
def ac_ref15_Between : AC :=
  (AC.region [⟨some 2, .box, [.t 0], [], none⟩, ⟨some 3, .box, [.t 1], [], none⟩, ⟨some 4, .alloc [I 0, I 0, I 0, V.nl 2], [], [], none⟩, ⟨some 5, .mov, [ci 0], [], none⟩] false).seq
  (((AC.region [⟨some 11, .load 4 true, [.t 2], [], none⟩, ⟨some 12, .call 53, [.t 11], [0], none⟩, ⟨some 6, .mov, [.t 12], [1, 1, 0, 1], none⟩] false).seq
  ((AC.region [⟨some 13, .mov, [.t 6], [], none⟩, ⟨some 14, .bin .neq, [.t 13, ci 0], [0], none⟩] false).seq
  (AC.cond (.t 14) ((AC.region [⟨some 15, .build [I 0, I 0, I 0, V.nl 2] [], [], [], none⟩, ⟨some 16, .mov, [.t 6], [], none⟩, ⟨none, .store 4, [.t 4, .t 15], [0, 0], none⟩, ⟨some 5, .mov, [.t 16], [1, 2, 0, 1, 2], none⟩] false).seq AC.ret) AC.skip))).seq
  (((AC.region [⟨some 17, .load 4 true, [.t 3], [], none⟩, ⟨some 18, .call 53, [.t 17], [0], none⟩, ⟨some 7, .mov, [.t 18], [1, 1, 0, 1], none⟩] false).seq
  ((AC.region [⟨some 19, .mov, [.t 7], [], none⟩, ⟨some 20, .bin .neq, [.t 19, ci 0], [0], none⟩] false).seq
  (AC.cond (.t 20) ((AC.region [⟨some 21, .build [I 0, I 0, I 0, V.nl 2] [], [], [], none⟩, ⟨some 22, .mov, [.t 7], [], none⟩, ⟨none, .store 4, [.t 4, .t 21], [0, 0], none⟩, ⟨some 5, .mov, [.t 22], [1, 2, 0, 1, 2], none⟩] false).seq AC.ret) AC.skip))).seq
  (((AC.region [⟨some 23, .fad 1, [.t 2], [], none⟩, ⟨some 24, .load 1 true, [.t 23], [0], none⟩, ⟨some 25, .fad 1, [.t 3], [], none⟩, ⟨some 26, .load 1 true, [.t 25], [2], none⟩, ⟨some 27, .seq 1 true, [.t 24, .t 26], [1, 3], none⟩, ⟨some 28, .mov, [.t 27], [4], none⟩, ⟨some 29, .fad 2, [.t 2], [5], some (5, 28, false)⟩, ⟨some 30, .load 1 false, [.t 29], [6, 5], some (5, 28, false)⟩, ⟨some 31, .fad 2, [.t 3], [5], some (5, 28, false)⟩, ⟨some 32, .load 1 false, [.t 31], [8, 5], some (5, 28, false)⟩, ⟨some 33, .bin .neq, [.t 30, .t 32], [7, 9, 5], some (5, 28, false)⟩, ⟨some 34, .pick, [.t 28, cb true, .t 33], [5, 10], none⟩] false).seq
  (AC.cond (.t 34) ((AC.region [⟨some 35, .build [I 0, I 0, I 0, V.nl 2] [], [], [], none⟩, ⟨none, .store 4, [.t 4, .t 35], [0, 0], none⟩, ⟨some 5, .mov, [ci 2], [1, 0, 1], none⟩] false).seq AC.ret) AC.skip)).seq
  (((AC.region [⟨some 36, .fad 0, [.t 3], [], none⟩, ⟨some 37, .load 1 false, [.t 36], [0], none⟩, ⟨some 38, .fad 0, [.t 2], [], none⟩, ⟨some 39, .load 1 false, [.t 38], [2], none⟩, ⟨some 40, .bin .leq, [.t 37, .t 39], [1, 3], none⟩] false).seq
  (AC.cond (.t 40) ((AC.region [⟨some 41, .build [I 0, I 0, I 0, V.nl 2] [], [], [], none⟩, ⟨none, .store 4, [.t 4, .t 41], [0, 0], none⟩, ⟨some 5, .mov, [ci 17], [1, 0, 1], none⟩] false).seq AC.ret) AC.skip)).seq
  ((AC.region [⟨some 42, .fad 0, [.t 2], [], none⟩, ⟨some 43, .load 1 false, [.t 42], [0], none⟩, ⟨some 44, .fad 0, [.t 3], [], none⟩, ⟨some 45, .load 1 false, [.t 44], [2], none⟩, ⟨some 46, .fad 3, [.t 3], [], none⟩, ⟨some 47, .load 1 false, [.t 46], [4], none⟩, ⟨some 48, .len, [.t 47], [5], none⟩, ⟨some 49, .build [I 0, I 0, I 0, V.nl 2] [(0, 1), (1, 1), (2, 1)], [.t 43, .t 45, .t 48], [1, 3, 6], none⟩, ⟨some 8, .alloc [I 0, I 0, I 0, V.nl 2], [], [], none⟩, ⟨none, .store 4, [.t 8, .t 49], [8, 7, 0, 1, 2, 3, 4, 5, 6, 7, 8], none⟩] false).seq
  (((AC.region [⟨some 50, .fad 3, [.t 3], [], none⟩, ⟨some 51, .load 1 false, [.t 50], [0], none⟩, ⟨some 52, .len, [.t 51], [1], none⟩, ⟨some 53, .mov, [ci 0], [], none⟩] false).seq
  (AC.block 0 ((AC.region [⟨some 54, .bin .lss, [.t 53, .t 52], [], none⟩] false).seq
  ((AC.cond (.t 54) AC.skip (AC.exit 0)).seq
  ((AC.block 1 ((AC.region [⟨some 55, .mov, [.t 53], [], none⟩, ⟨some 56, .iad 1, [.t 51, .t 53], [], none⟩, ⟨some 57, .load 1 false, [.t 56], [1], none⟩, ⟨some 9, .mov, [.t 55], [0, 0, 1, 2], none⟩, ⟨some 10, .mov, [.t 57], [2, 3, 0, 1, 2, 3], none⟩] false).seq
  ((AC.region [⟨some 58, .mov, [.t 9], [], none⟩, ⟨some 59, .fad 3, [.t 2], [], none⟩, ⟨some 60, .load 1 false, [.t 59], [1], none⟩, ⟨some 61, .len, [.t 60], [2], none⟩, ⟨some 62, .bin .geq, [.t 58, .t 61], [0, 3], none⟩, ⟨some 63, .mov, [.t 62], [4], none⟩, ⟨some 64, .mov, [.t 10], [5], some (5, 63, false)⟩, ⟨some 65, .fad 3, [.t 2], [5], some (5, 63, false)⟩, ⟨some 66, .load 1 false, [.t 65], [7, 5], some (5, 63, false)⟩, ⟨some 67, .mov, [.t 9], [5], some (5, 63, false)⟩, ⟨some 68, .iad 1, [.t 66, .t 67], [8, 9, 5], some (5, 63, false)⟩, ⟨some 69, .load 1 false, [.t 68], [10, 5], some (5, 63, false)⟩, ⟨some 70, .call 89, [.t 64, .t 69], [6, 11, 5, 5], some (5, 63, false)⟩, ⟨some 71, .un .not, [.t 70], [12, 5], some (5, 63, false)⟩, ⟨some 72, .pick, [.t 63, cb true, .t 71], [5, 13], none⟩] false).seq
  (AC.cond (.t 72) (AC.region [⟨some 73, .fad 3, [.t 8], [], none⟩, ⟨some 74, .load 1 false, [.t 73], [0], none⟩, ⟨some 75, .mov, [.t 9], [], none⟩, ⟨some 76, .mov, [.t 10], [], none⟩, ⟨some 77, .app 1 8, [AV.c (V.nl 1), .t 76], [3], none⟩, ⟨some 78, .build [I 0, V.nl 1] [(0, 1), (1, 1)], [.t 75, .t 77], [2, 4], none⟩, ⟨some 79, .bsl 2 [I 0, V.nl 1] 1 [0], [.t 78], [5], none⟩, ⟨some 80, .app 2 32, [.t 74, .t 79], [1, 6, 4], none⟩, ⟨some 81, .fad 3, [.t 8], [0, 1, 2, 3, 4, 5, 6, 7], none⟩, ⟨none, .store 1, [.t 81, .t 80], [8, 7, 7, 0, 1, 2, 3, 4, 5, 6, 7], none⟩] true) AC.skip)))).seq
  (AC.region [⟨some 82, .bin .add, [.t 53, ci 1], [], none⟩, ⟨some 53, .mov, [.t 82], [0], none⟩] false)))).loop)).seq
  ((AC.region [⟨some 83, .load 4 true, [.t 8], [], none⟩, ⟨none, .store 4, [.t 4, .t 83], [0, 0], none⟩, ⟨some 5, .mov, [ci 0], [1, 0, 1], none⟩] false).seq AC.ret)))))))
def rs_ref15_Between : List RV := [.c 4 4 true, .t 5]
theorem c_ref15_Between : compile Try.prog (Go.Func.ntmps Try.f76) (Try.f76.body.getD .skip) = some ac_ref15_Between := by kernel_rfl
theorem go_ref15_Between {xs : List V} {bx bx' : U} {r : V} {ns : List O} (hxs : decide (xs.length ≤ Go.Func.ntmps Try.f76) = true) (hbx : BxOK bx bx') (h : ∀ cx : Cx, cx.m0 = ups M0 bx → Awp Try.prog cx ac_ref15_Between (RetE rs_ref15_Between r bx' ns) ⟨tl (idx 0 xs), ups M0 bx⟩) : Does Try.prog 76 xs bx r bx' ns :=
  does_of Try.func76 (by kernel_rfl : Try.f76.body = some (Try.f76.body.getD .skip)) rfl c_ref15_Between (by kernel_rfl) (of_decide_eq_true hxs) hbx fun cx _ hm => h cx hm
def ac_ref15_Check : AC :=
  (AC.region [⟨some 2, .box, [.t 0], [], none⟩, ⟨some 3, .box, [.t 1], [], none⟩, ⟨some 4, .mov, [ci 0], [], none⟩] false).seq
  (((AC.region [⟨some 11, .load 4 true, [.t 2], [], none⟩, ⟨some 12, .call 53, [.t 11], [0], none⟩, ⟨some 5, .mov, [.t 12], [1, 1, 0, 1], none⟩] false).seq
  ((AC.region [⟨some 13, .mov, [.t 5], [], none⟩, ⟨some 14, .bin .neq, [.t 13, ci 0], [0], none⟩] false).seq
  (AC.cond (.t 14) ((AC.region [⟨some 15, .mov, [.t 5], [], none⟩, ⟨some 4, .mov, [.t 15], [0, 0], none⟩] false).seq AC.ret) AC.skip))).seq
  (((AC.region [⟨some 16, .load 4 true, [.t 3], [], none⟩, ⟨some 17, .call 85, [.t 16], [0], none⟩, ⟨some 18, .un .not, [.t 17], [1], none⟩] false).seq
  (AC.cond (.t 18) ((AC.region [⟨some 4, .mov, [ci 2], [], none⟩] false).seq AC.ret) AC.skip)).seq
  (((AC.region [⟨some 19, .fad 0, [.t 3], [], none⟩, ⟨some 20, .load 1 false, [.t 19], [0], none⟩, ⟨some 21, .fad 0, [.t 2], [], none⟩, ⟨some 22, .load 1 false, [.t 21], [2], none⟩, ⟨some 23, .bin .neq, [.t 20, .t 22], [1, 3], none⟩] false).seq
  (AC.cond (.t 23) ((AC.region [⟨some 4, .mov, [ci 17], [], none⟩] false).seq AC.ret) AC.skip)).seq
  (((AC.region [⟨some 24, .fad 3, [.t 3], [], none⟩, ⟨some 25, .load 1 false, [.t 24], [0], none⟩, ⟨some 26, .len, [.t 25], [1], none⟩, ⟨some 27, .mov, [ci 0], [], none⟩] false).seq
  (AC.block 0 ((AC.region [⟨some 28, .bin .lss, [.t 27, .t 26], [], none⟩] false).seq
  ((AC.cond (.t 28) AC.skip (AC.exit 0)).seq
  ((AC.block 1 ((AC.region [⟨some 29, .iad 2, [.t 25, .t 27], [], none⟩, ⟨some 30, .load 2 true, [.t 29], [0], none⟩, ⟨some 7, .alloc [I 0, V.nl 1], [], [], none⟩, ⟨none, .store 2, [.t 7, .t 30], [2, 1, 0, 1, 2], none⟩] false).seq
  (((AC.region [⟨some 31, .fad 1, [.t 7], [], none⟩, ⟨some 32, .load 1 false, [.t 31], [0], none⟩, ⟨some 33, .len, [.t 32], [1], none⟩, ⟨some 34, .fad 2, [.t 2], [], none⟩, ⟨some 35, .load 1 false, [.t 34], [3], none⟩, ⟨some 36, .bin .neq, [.t 33, .t 35], [2, 4], none⟩] false).seq
  (AC.cond (.t 36) ((AC.region [⟨some 4, .mov, [ci 2], [], none⟩] false).seq AC.ret) AC.skip)).seq
  ((AC.region [⟨some 37, .fad 1, [.t 2], [], none⟩, ⟨some 38, .load 1 true, [.t 37], [0], none⟩, ⟨some 39, .fad 1, [.t 7], [], none⟩, ⟨some 40, .load 1 false, [.t 39], [2], none⟩, ⟨some 41, .call 67, [.t 38, .t 40], [1, 3], none⟩, ⟨some 42, .un .not, [.t 41], [4], none⟩] false).seq
  (AC.cond (.t 42) ((AC.region [⟨some 4, .mov, [ci 9], [], none⟩] false).seq AC.ret) AC.skip))))).seq
  (AC.region [⟨some 43, .bin .add, [.t 27, ci 1], [], none⟩, ⟨some 27, .mov, [.t 43], [0], none⟩] false)))).loop)).seq
  (((AC.region [⟨some 44, .fad 3, [.t 2], [], none⟩, ⟨some 45, .load 1 false, [.t 44], [0], none⟩, ⟨some 46, .len, [.t 45], [1], none⟩, ⟨some 8, .mov, [.t 46], [2, 0, 1, 2], none⟩] false).seq
  (AC.block 2 (((AC.region [⟨some 47, .mov, [.t 8], [], none⟩, ⟨some 48, .fad 2, [.t 3], [], none⟩, ⟨some 49, .load 1 false, [.t 48], [1], none⟩, ⟨some 50, .bin .lss, [.t 47, .t 49], [0, 2], none⟩] false).seq
  (AC.cond (.t 50) AC.skip (AC.exit 2))).seq
  ((AC.block 3 ((AC.region [⟨some 54, .load 4 true, [.t 3], [], none⟩, ⟨some 55, .mov, [.t 8], [], none⟩, ⟨some 56, .call 78, [.t 54, .t 55], [0, 1], none⟩, ⟨some 53, .mov, [.t 56], [2], none⟩, ⟨some 57, .ext 0, [.t 53], [3], none⟩, ⟨some 58, .ext 1, [.t 53], [3], none⟩, ⟨some 9, .mov, [.t 57], [4, 2, 0, 1, 2, 3, 4], none⟩, ⟨some 10, .mov, [.t 58], [5, 6, 0, 1, 2, 3, 4, 5, 6], none⟩] false).seq
  ((AC.region [⟨some 59, .mov, [.t 10], [], none⟩, ⟨some 60, .un .not, [.t 59], [0], none⟩] false).seq
  (AC.cond (.t 60) ((AC.region [⟨some 4, .mov, [ci 2], [], none⟩] false).seq AC.ret) AC.skip)))).seq
  (AC.region [⟨some 51, .mov, [.t 8], [], none⟩, ⟨some 52, .bin .add, [.t 51, ci 1], [0], none⟩, ⟨some 8, .mov, [.t 52], [1, 0, 1], none⟩] false))).loop)).seq
  ((AC.region [⟨some 4, .mov, [ci 0], [], none⟩] false).seq AC.ret))))))
def rs_ref15_Check : List RV := [.t 4]
theorem c_ref15_Check : compile Try.prog (Go.Func.ntmps Try.f77) (Try.f77.body.getD .skip) = some ac_ref15_Check := by kernel_rfl
theorem go_ref15_Check {xs : List V} {bx bx' : U} {r : V} {ns : List O} (hxs : decide (xs.length ≤ Go.Func.ntmps Try.f77) = true) (hbx : BxOK bx bx') (h : ∀ cx : Cx, cx.m0 = ups M0 bx → Awp Try.prog cx ac_ref15_Check (RetE rs_ref15_Check r bx' ns) ⟨tl (idx 0 xs), ups M0 bx⟩) : Does Try.prog 77 xs bx r bx' ns :=
  does_of Try.func77 (by kernel_rfl : Try.f77.body = some (Try.f77.body.getD .skip)) rfl c_ref15_Check (by kernel_rfl) (of_decide_eq_true hxs) hbx fun cx _ hm => h cx hm
def ac_ref15_find : AC :=
  (AC.region [⟨some 2, .box, [.t 0], [], none⟩, ⟨some 4, .mov, [AV.c (V.nl 1)], [], none⟩, ⟨some 5, .mov, [cb false], [1], none⟩] false).seq
  (((AC.region [⟨some 8, .fad 3, [.t 2], [], none⟩, ⟨some 9, .load 1 false, [.t 8], [0], none⟩, ⟨some 10, .len, [.t 9], [1], none⟩, ⟨some 11, .mov, [ci 0], [], none⟩] false).seq
  (AC.block 0 ((AC.region [⟨some 12, .bin .lss, [.t 11, .t 10], [], none⟩] false).seq
  ((AC.cond (.t 12) AC.skip (AC.exit 0)).seq
  ((AC.block 1 ((AC.region [⟨some 13, .iad 2, [.t 9, .t 11], [], none⟩, ⟨some 14, .load 2 true, [.t 13], [0], none⟩, ⟨some 7, .alloc [I 0, V.nl 1], [], [], none⟩, ⟨none, .store 2, [.t 7, .t 14], [2, 1, 0, 1, 2], none⟩] false).seq
  ((AC.region [⟨some 15, .fad 0, [.t 7], [], none⟩, ⟨some 16, .load 1 false, [.t 15], [0], none⟩, ⟨some 17, .mov, [.t 1], [], none⟩, ⟨some 18, .bin .eql, [.t 16, .t 17], [1, 2], none⟩] false).seq
  (AC.cond (.t 18) ((AC.region [⟨some 19, .fad 1, [.t 7], [], none⟩, ⟨some 20, .load 1 false, [.t 19], [0], none⟩, ⟨some 4, .mov, [.t 20], [1, 0, 1], none⟩, ⟨some 5, .mov, [cb true], [2, 0, 1, 2], none⟩] false).seq AC.ret) AC.skip)))).seq
  (AC.region [⟨some 21, .bin .add, [.t 11, ci 1], [], none⟩, ⟨some 11, .mov, [.t 21], [0], none⟩] false)))).loop)).seq
  ((AC.region [⟨some 4, .mov, [AV.c (V.nl 1)], [], none⟩, ⟨some 5, .mov, [cb false], [0, 0], none⟩] false).seq AC.ret))
def rs_ref15_find : List RV := [.t 4, .t 5]
theorem c_ref15_find : compile Try.prog (Go.Func.ntmps Try.f78) (Try.f78.body.getD .skip) = some ac_ref15_find := by kernel_rfl
theorem go_ref15_find {xs : List V} {bx bx' : U} {r : V} {ns : List O} (hxs : decide (xs.length ≤ Go.Func.ntmps Try.f78) = true) (hbx : BxOK bx bx') (h : ∀ cx : Cx, cx.m0 = ups M0 bx → Awp Try.prog cx ac_ref15_find (RetE rs_ref15_find r bx' ns) ⟨tl (idx 0 xs), ups M0 bx⟩) : Does Try.prog 78 xs bx r bx' ns :=
  does_of Try.func78 (by kernel_rfl : Try.f78.body = some (Try.f78.body.getD .skip)) rfl c_ref15_find (by kernel_rfl) (of_decide_eq_true hxs) hbx fun cx _ hm => h cx hm
def ac_slices_Contains_int_int : AC :=
  (AC.region [⟨some 4, .mov, [cb false], [], none⟩] false).seq
  ((AC.region [⟨some 5, .mov, [.t 0], [], none⟩, ⟨some 6, .mov, [.t 1], [], none⟩, ⟨some 7, .call 103, [.t 5, .t 6], [0, 1], none⟩, ⟨some 8, .bin .geq, [.t 7, ci 0], [2], none⟩, ⟨some 4, .mov, [.t 8], [3, 2, 0, 1, 2, 3], none⟩] false).seq AC.ret)
def rs_slices_Contains_int_int : List RV := [.t 4]
theorem c_slices_Contains_int_int : compile Try.prog (Go.Func.ntmps Try.f81) (Try.f81.body.getD .skip) = some ac_slices_Contains_int_int := by kernel_rfl
theorem go_slices_Contains_int_int {xs : List V} {bx bx' : U} {r : V} {ns : List O} (hxs : decide (xs.length ≤ Go.Func.ntmps Try.f81) = true) (hbx : BxOK bx bx') (h : ∀ cx : Cx, cx.m0 = ups M0 bx → Awp Try.prog cx ac_slices_Contains_int_int (RetE rs_slices_Contains_int_int r bx' ns) ⟨tl (idx 0 xs), ups M0 bx⟩) : Does Try.prog 81 xs bx r bx' ns :=
  does_of Try.func81 (by kernel_rfl : Try.f81.body = some (Try.f81.body.getD .skip)) rfl c_slices_Contains_int_int (by kernel_rfl) (of_decide_eq_true hxs) hbx fun cx _ hm => h cx hm
def ac_ref04_SameRows : AC :=
  (AC.region [⟨some 4, .mov, [cb false], [], none⟩] false).seq
  (((AC.region [⟨some 6, .mov, [.t 0], [], none⟩, ⟨some 7, .len, [.t 6], [0], none⟩, ⟨some 8, .mov, [.t 1], [], none⟩, ⟨some 9, .len, [.t 8], [2], none⟩, ⟨some 10, .bin .neq, [.t 7, .t 9], [1, 3], none⟩] false).seq
  (AC.cond (.t 10) ((AC.region [⟨some 4, .mov, [cb false], [], none⟩] false).seq AC.ret) AC.skip)).seq
  (((AC.region [⟨some 11, .mov, [.t 0], [], none⟩, ⟨some 12, .len, [.t 11], [0], none⟩, ⟨some 13, .mov, [ci 0], [], none⟩] false).seq
  (AC.block 0 ((AC.region [⟨some 14, .bin .lss, [.t 13, .t 12], [], none⟩] false).seq
  ((AC.cond (.t 14) AC.skip (AC.exit 0)).seq
  ((AC.block 1 ((AC.region [⟨some 15, .mov, [.t 13], [], none⟩, ⟨some 5, .mov, [.t 15], [0, 0], none⟩] false).seq
  ((AC.region [⟨some 16, .mov, [.t 0], [], none⟩, ⟨some 17, .mov, [.t 5], [], none⟩, ⟨some 18, .iad 1, [.t 16, .t 17], [0, 1], none⟩, ⟨some 19, .load 1 false, [.t 18], [2], none⟩, ⟨some 20, .mov, [.t 1], [], none⟩, ⟨some 21, .mov, [.t 5], [], none⟩, ⟨some 22, .iad 1, [.t 20, .t 21], [4, 5], none⟩, ⟨some 23, .load 1 false, [.t 22], [6], none⟩, ⟨some 24, .call 89, [.t 19, .t 23], [3, 7], none⟩, ⟨some 25, .un .not, [.t 24], [8], none⟩] true).seq
  (AC.cond (.t 25) ((AC.region [⟨some 4, .mov, [cb false], [], none⟩] false).seq AC.ret) AC.skip)))).seq
  (AC.region [⟨some 26, .bin .add, [.t 13, ci 1], [], none⟩, ⟨some 13, .mov, [.t 26], [0], none⟩] false)))).loop)).seq
  ((AC.region [⟨some 4, .mov, [cb true], [], none⟩] false).seq AC.ret)))
def rs_ref04_SameRows : List RV := [.t 4]
theorem c_ref04_SameRows : compile Try.prog (Go.Func.ntmps Try.f82) (Try.f82.body.getD .skip) = some ac_ref04_SameRows := by kernel_rfl
theorem go_ref04_SameRows {xs : List V} {bx bx' : U} {r : V} {ns : List O} (hxs : decide (xs.length ≤ Go.Func.ntmps Try.f82) = true) (hbx : BxOK bx bx') (h : ∀ cx : Cx, cx.m0 = ups M0 bx → Awp Try.prog cx ac_ref04_SameRows (RetE rs_ref04_SameRows r bx' ns) ⟨tl (idx 0 xs), ups M0 bx⟩) : Does Try.prog 82 xs bx r bx' ns :=
  does_of Try.func82 (by kernel_rfl : Try.f82.body = some (Try.f82.body.getD .skip)) rfl c_ref04_SameRows (by kernel_rfl) (of_decide_eq_true hxs) hbx fun cx _ hm => h cx hm
def ac_change_Between : AC :=
  (AC.region [⟨some 2, .box, [.t 0], [], none⟩, ⟨some 3, .box, [.t 1], [], none⟩, ⟨some 4, .alloc [I 0, I 0, I 0, V.nl 2], [], [], none⟩, ⟨some 5, .mov, [ci 0], [], none⟩] false).seq
  (((AC.region [⟨some 11, .load 4 true, [.t 2], [], none⟩, ⟨some 12, .call 61, [.t 11], [0], none⟩, ⟨some 6, .mov, [.t 12], [1, 1, 0, 1], none⟩] false).seq
  ((AC.region [⟨some 13, .mov, [.t 6], [], none⟩, ⟨some 14, .bin .neq, [.t 13, ci 0], [0], none⟩] false).seq
  (AC.cond (.t 14) ((AC.region [⟨some 15, .build [I 0, I 0, I 0, V.nl 2] [], [], [], none⟩, ⟨some 16, .mov, [.t 6], [], none⟩, ⟨none, .store 4, [.t 4, .t 15], [0, 0], none⟩, ⟨some 5, .mov, [.t 16], [1, 2, 0, 1, 2], none⟩] false).seq AC.ret) AC.skip))).seq
  (((AC.region [⟨some 17, .load 4 true, [.t 3], [], none⟩, ⟨some 18, .call 61, [.t 17], [0], none⟩, ⟨some 7, .mov, [.t 18], [1, 1, 0, 1], none⟩] false).seq
  ((AC.region [⟨some 19, .mov, [.t 7], [], none⟩, ⟨some 20, .bin .neq, [.t 19, ci 0], [0], none⟩] false).seq
  (AC.cond (.t 20) ((AC.region [⟨some 21, .build [I 0, I 0, I 0, V.nl 2] [], [], [], none⟩, ⟨some 22, .mov, [.t 7], [], none⟩, ⟨none, .store 4, [.t 4, .t 21], [0, 0], none⟩, ⟨some 5, .mov, [.t 22], [1, 2, 0, 1, 2], none⟩] false).seq AC.ret) AC.skip))).seq
  (((AC.region [⟨some 23, .fad 1, [.t 2], [], none⟩, ⟨some 24, .load 1 true, [.t 23], [0], none⟩, ⟨some 25, .fad 1, [.t 3], [], none⟩, ⟨some 26, .load 1 true, [.t 25], [2], none⟩, ⟨some 27, .seq 1 true, [.t 24, .t 26], [1, 3], none⟩, ⟨some 28, .mov, [.t 27], [4], none⟩, ⟨some 29, .fad 2, [.t 2], [5], some (5, 28, false)⟩, ⟨some 30, .load 1 false, [.t 29], [6, 5], some (5, 28, false)⟩, ⟨some 31, .fad 2, [.t 3], [5], some (5, 28, false)⟩, ⟨some 32, .load 1 false, [.t 31], [8, 5], some (5, 28, false)⟩, ⟨some 33, .bin .neq, [.t 30, .t 32], [7, 9, 5], some (5, 28, false)⟩, ⟨some 34, .pick, [.t 28, cb true, .t 33], [5, 10], none⟩] false).seq
  (AC.cond (.t 34) ((AC.region [⟨some 35, .build [I 0, I 0, I 0, V.nl 2] [], [], [], none⟩, ⟨none, .store 4, [.t 4, .t 35], [0, 0], none⟩, ⟨some 5, .mov, [ci 2], [1, 0, 1], none⟩] false).seq AC.ret) AC.skip)).seq
  (((AC.region [⟨some 36, .fad 0, [.t 3], [], none⟩, ⟨some 37, .load 1 false, [.t 36], [0], none⟩, ⟨some 38, .fad 0, [.t 2], [], none⟩, ⟨some 39, .load 1 false, [.t 38], [2], none⟩, ⟨some 40, .bin .leq, [.t 37, .t 39], [1, 3], none⟩] false).seq
  (AC.cond (.t 40) ((AC.region [⟨some 41, .build [I 0, I 0, I 0, V.nl 2] [], [], [], none⟩, ⟨none, .store 4, [.t 4, .t 41], [0, 0], none⟩, ⟨some 5, .mov, [ci 17], [1, 0, 1], none⟩] false).seq AC.ret) AC.skip)).seq
  ((AC.region [⟨some 42, .fad 0, [.t 2], [], none⟩, ⟨some 43, .load 1 false, [.t 42], [0], none⟩, ⟨some 44, .fad 0, [.t 3], [], none⟩, ⟨some 45, .load 1 false, [.t 44], [2], none⟩, ⟨some 46, .fad 3, [.t 3], [], none⟩, ⟨some 47, .load 1 false, [.t 46], [4], none⟩, ⟨some 48, .len, [.t 47], [5], none⟩, ⟨some 49, .build [I 0, I 0, I 0, V.nl 2] [(0, 1), (1, 1), (2, 1)], [.t 43, .t 45, .t 48], [1, 3, 6], none⟩, ⟨some 8, .alloc [I 0, I 0, I 0, V.nl 2], [], [], none⟩, ⟨none, .store 4, [.t 8, .t 49], [8, 7, 0, 1, 2, 3, 4, 5, 6, 7, 8], none⟩] false).seq
  (((AC.region [⟨some 50, .fad 3, [.t 3], [], none⟩, ⟨some 51, .load 1 false, [.t 50], [0], none⟩, ⟨some 52, .len, [.t 51], [1], none⟩, ⟨some 53, .mov, [ci 0], [], none⟩] false).seq
  (AC.block 0 ((AC.region [⟨some 54, .bin .lss, [.t 53, .t 52], [], none⟩] false).seq
  ((AC.cond (.t 54) AC.skip (AC.exit 0)).seq
  ((AC.block 1 ((AC.region [⟨some 55, .mov, [.t 53], [], none⟩, ⟨some 56, .iad 1, [.t 51, .t 53], [], none⟩, ⟨some 57, .load 1 false, [.t 56], [1], none⟩, ⟨some 9, .mov, [.t 55], [0, 0, 1, 2], none⟩, ⟨some 10, .mov, [.t 57], [2, 3, 0, 1, 2, 3], none⟩] false).seq
  ((AC.region [⟨some 58, .mov, [.t 9], [], none⟩, ⟨some 59, .fad 3, [.t 2], [], none⟩, ⟨some 60, .load 1 false, [.t 59], [1], none⟩, ⟨some 61, .len, [.t 60], [2], none⟩, ⟨some 62, .bin .geq, [.t 58, .t 61], [0, 3], none⟩, ⟨some 63, .mov, [.t 62], [4], none⟩, ⟨some 64, .mov, [.t 10], [5], some (5, 63, false)⟩, ⟨some 65, .fad 3, [.t 2], [5], some (5, 63, false)⟩, ⟨some 66, .load 1 false, [.t 65], [7, 5], some (5, 63, false)⟩, ⟨some 67, .mov, [.t 9], [5], some (5, 63, false)⟩, ⟨some 68, .iad 1, [.t 66, .t 67], [8, 9, 5], some (5, 63, false)⟩, ⟨some 69, .load 1 false, [.t 68], [10, 5], some (5, 63, false)⟩, ⟨some 70, .call 91, [.t 64, .t 69], [6, 11, 5, 5], some (5, 63, false)⟩, ⟨some 71, .un .not, [.t 70], [12, 5], some (5, 63, false)⟩, ⟨some 72, .pick, [.t 63, cb true, .t 71], [5, 13], none⟩] false).seq
  (AC.cond (.t 72) (AC.region [⟨some 73, .fad 3, [.t 8], [], none⟩, ⟨some 74, .load 1 false, [.t 73], [0], none⟩, ⟨some 75, .mov, [.t 9], [], none⟩, ⟨some 76, .mov, [.t 10], [], none⟩, ⟨some 77, .build [I 0, V.nl 1] [(0, 1), (1, 1)], [.t 75, .t 76], [2, 3], none⟩, ⟨some 78, .call 104, [.t 77], [4], none⟩, ⟨some 79, .bsl 2 [I 0, V.nl 1] 1 [0], [.t 78], [5], none⟩, ⟨some 80, .app 2 32, [.t 74, .t 79], [1, 6, 5], none⟩, ⟨some 81, .fad 3, [.t 8], [0, 1, 2, 3, 4, 5, 6, 7], none⟩, ⟨none, .store 1, [.t 81, .t 80], [8, 7, 7, 0, 1, 2, 3, 4, 5, 6, 7], none⟩] true) AC.skip)))).seq
  (AC.region [⟨some 82, .bin .add, [.t 53, ci 1], [], none⟩, ⟨some 53, .mov, [.t 82], [0], none⟩] false)))).loop)).seq
  ((AC.region [⟨some 83, .load 4 true, [.t 8], [], none⟩, ⟨none, .store 4, [.t 4, .t 83], [0, 0], none⟩, ⟨some 5, .mov, [ci 0], [1, 0, 1], none⟩] false).seq AC.ret)))))))
def rs_change_Between : List RV := [.c 4 4 true, .t 5]
theorem c_change_Between : compile Try.prog (Go.Func.ntmps Try.f83) (Try.f83.body.getD .skip) = some ac_change_Between := by kernel_rfl
theorem go_change_Between {xs : List V} {bx bx' : U} {r : V} {ns : List O} (hxs : decide (xs.length ≤ Go.Func.ntmps Try.f83) = true) (hbx : BxOK bx bx') (h : ∀ cx : Cx, cx.m0 = ups M0 bx → Awp Try.prog cx ac_change_Between (RetE rs_change_Between r bx' ns) ⟨tl (idx 0 xs), ups M0 bx⟩) : Does Try.prog 83 xs bx r bx' ns :=
  does_of Try.func83 (by kernel_rfl : Try.f83.body = some (Try.f83.body.getD .skip)) rfl c_change_Between (by kernel_rfl) (of_decide_eq_true hxs) hbx fun cx _ hm => h cx hm
def ac_ref11_Row : AC :=
  (AC.region [⟨some 2, .mov, [ci 0], [], none⟩] false).seq
  ((AC.region [⟨some 3, .mov, [ci 2], [], none⟩] false).seq
  (((AC.region [⟨some 6, .mov, [.t 0], [], none⟩, ⟨some 7, .len, [.t 6], [0], none⟩, ⟨some 8, .mov, [ci 0], [], none⟩] false).seq
  (AC.block 0 ((AC.region [⟨some 9, .bin .lss, [.t 8, .t 7], [], none⟩] false).seq
  ((AC.cond (.t 9) AC.skip (AC.exit 0)).seq
  ((AC.block 1 ((AC.region [⟨some 10, .iad 1, [.t 6, .t 8], [], none⟩, ⟨some 11, .load 1 false, [.t 10], [0], none⟩, ⟨some 5, .mov, [.t 11], [1, 0, 1], none⟩] false).seq
  (AC.region [⟨some 12, .mov, [.t 3], [], none⟩, ⟨some 13, .bin .mul, [.t 12, ci 1000003], [0], none⟩, ⟨some 14, .mov, [.t 5], [], none⟩, ⟨some 15, .call 105, [.t 14], [2], none⟩, ⟨some 16, .bin .add, [.t 13, .t 15], [1, 3], none⟩, ⟨some 17, .bin .add, [.t 16, ci 1], [4], none⟩, ⟨some 18, .bin .rem, [.t 17, ci 2147483647], [5], none⟩, ⟨some 3, .mov, [.t 18], [6, 3, 0, 1, 2, 3, 4, 5, 6], none⟩] false))).seq
  (AC.region [⟨some 19, .bin .add, [.t 8, ci 1], [], none⟩, ⟨some 8, .mov, [.t 19], [0], none⟩] false)))).loop)).seq
  ((AC.region [⟨some 20, .mov, [.t 3], [], none⟩, ⟨some 2, .mov, [.t 20], [0, 0], none⟩] false).seq AC.ret)))
def rs_ref11_Row : List RV := [.t 2]
theorem c_ref11_Row : compile Try.prog (Go.Func.ntmps Try.f84) (Try.f84.body.getD .skip) = some ac_ref11_Row := by kernel_rfl
theorem go_ref11_Row {xs : List V} {bx bx' : U} {r : V} {ns : List O} (hxs : decide (xs.length ≤ Go.Func.ntmps Try.f84) = true) (hbx : BxOK bx bx') (h : ∀ cx : Cx, cx.m0 = ups M0 bx → Awp Try.prog cx ac_ref11_Row (RetE rs_ref11_Row r bx' ns) ⟨tl (idx 0 xs), ups M0 bx⟩) : Does Try.prog 84 xs bx r bx' ns :=
  does_of Try.func84 (by kernel_rfl : Try.f84.body = some (Try.f84.body.getD .skip)) rfl c_ref11_Row (by kernel_rfl) (of_decide_eq_true hxs) hbx fun cx _ hm => h cx hm
def ac_ref15_form : AC :=
  (AC.region [⟨some 1, .box, [.t 0], [], none⟩, ⟨some 2, .mov, [cb false], [], none⟩] false).seq
  (((AC.region [⟨some 5, .fad 0, [.t 1], [], none⟩, ⟨some 6, .load 1 false, [.t 5], [0], none⟩, ⟨some 7, .bin .lss, [.t 6, ci 1], [1], none⟩, ⟨some 8, .mov, [.t 7], [2], none⟩, ⟨some 9, .fad 1, [.t 1], [3], some (3, 8, false)⟩, ⟨some 10, .load 1 false, [.t 9], [4, 3], some (3, 8, false)⟩, ⟨some 11, .bin .geq, [.t 10, ci 2147483647], [5, 3], some (3, 8, false)⟩, ⟨some 12, .pick, [.t 8, cb true, .t 11], [3, 6], none⟩, ⟨some 13, .mov, [.t 12], [7, 3], none⟩, ⟨some 14, .fad 0, [.t 1], [8], some (8, 13, false)⟩, ⟨some 15, .load 1 false, [.t 14], [9, 8], some (8, 13, false)⟩, ⟨some 16, .fad 1, [.t 1], [8], some (8, 13, false)⟩, ⟨some 17, .load 1 false, [.t 16], [11, 8], some (8, 13, false)⟩, ⟨some 18, .bin .geq, [.t 15, .t 17], [10, 12, 8], some (8, 13, false)⟩, ⟨some 19, .pick, [.t 13, cb true, .t 18], [8, 13], none⟩, ⟨some 20, .mov, [.t 19], [14, 8], none⟩, ⟨some 21, .fad 2, [.t 1], [15], some (15, 20, false)⟩, ⟨some 22, .load 1 false, [.t 21], [16, 15], some (15, 20, false)⟩, ⟨some 23, .bin .lss, [.t 22, ci 0], [17, 15], some (15, 20, false)⟩, ⟨some 24, .pick, [.t 20, cb true, .t 23], [15, 18], none⟩, ⟨some 25, .mov, [.t 24], [19, 15], none⟩, ⟨some 26, .fad 2, [.t 1], [20], some (20, 25, false)⟩, ⟨some 27, .load 1 false, [.t 26], [21, 20], some (20, 25, false)⟩, ⟨some 28, .bin .gtr, [.t 27, ci 1024], [22, 20], some (20, 25, false)⟩, ⟨some 29, .pick, [.t 25, cb true, .t 28], [20, 23], none⟩] false).seq
  (AC.cond (.t 29) ((AC.region [⟨some 2, .mov, [cb false], [], none⟩] false).seq AC.ret) AC.skip)).seq
  (((AC.region [⟨some 30, .fad 3, [.t 1], [], none⟩, ⟨some 31, .load 1 false, [.t 30], [0], none⟩, ⟨some 32, .len, [.t 31], [1], none⟩, ⟨some 33, .mov, [ci 0], [], none⟩] false).seq
  (AC.block 0 ((AC.region [⟨some 34, .bin .lss, [.t 33, .t 32], [], none⟩] false).seq
  ((AC.cond (.t 34) AC.skip (AC.exit 0)).seq
  ((AC.block 1 ((AC.region [⟨some 35, .mov, [.t 33], [], none⟩, ⟨some 36, .iad 2, [.t 31, .t 33], [], none⟩, ⟨some 37, .load 2 true, [.t 36], [1], none⟩, ⟨some 4, .alloc [I 0, V.nl 1], [], [], none⟩, ⟨some 3, .mov, [.t 35], [0, 0, 1, 2, 3], none⟩, ⟨none, .store 2, [.t 4, .t 37], [3, 2, 4, 0, 1, 2, 3, 4], none⟩] false).seq
  ((AC.region [⟨some 38, .fad 0, [.t 4], [], none⟩, ⟨some 39, .load 1 false, [.t 38], [0], none⟩, ⟨some 40, .bin .lss, [.t 39, ci 0], [1], none⟩, ⟨some 41, .mov, [.t 40], [2], none⟩, ⟨some 42, .fad 0, [.t 4], [3], some (3, 41, false)⟩, ⟨some 43, .load 1 false, [.t 42], [4, 3], some (3, 41, false)⟩, ⟨some 44, .fad 2, [.t 1], [3], some (3, 41, false)⟩, ⟨some 45, .load 1 false, [.t 44], [6, 3], some (3, 41, false)⟩, ⟨some 46, .bin .geq, [.t 43, .t 45], [5, 7, 3], some (3, 41, false)⟩, ⟨some 47, .pick, [.t 41, cb true, .t 46], [3, 8], none⟩, ⟨some 48, .mov, [.t 47], [9, 3], none⟩, ⟨some 49, .mov, [.t 3], [10], some (10, 48, false)⟩, ⟨some 50, .bin .gtr, [.t 49, ci 0], [11, 10], some (10, 48, false)⟩, ⟨some 51, .mov, [.t 50], [12, 10, 10], some (10, 48, false)⟩, ⟨some 52, .fad 0, [.t 4], [13], some (13, 51, true)⟩, ⟨some 53, .load 1 false, [.t 52], [14, 13], some (13, 51, true)⟩, ⟨some 54, .fad 3, [.t 1], [13], some (13, 51, true)⟩, ⟨some 55, .load 1 false, [.t 54], [16, 13], some (13, 51, true)⟩, ⟨some 56, .mov, [.t 3], [13], some (13, 51, true)⟩, ⟨some 57, .bin .sub, [.t 56, ci 1], [18, 13], some (13, 51, true)⟩, ⟨some 58, .iad 2, [.t 55, .t 57], [17, 19, 13], some (13, 51, true)⟩, ⟨some 59, .fad 0, [.t 58], [20, 13], some (13, 51, true)⟩, ⟨some 60, .load 1 false, [.t 59], [21, 13], some (13, 51, true)⟩, ⟨some 61, .bin .leq, [.t 53, .t 60], [15, 22, 13], some (13, 51, true)⟩, ⟨some 62, .pick, [.t 51, .t 61, cb false], [13, 23, 10], some (10, 48, false)⟩, ⟨some 63, .pick, [.t 48, cb true, .t 62], [10, 24], none⟩] true).seq
  (AC.cond (.t 63) ((AC.region [⟨some 2, .mov, [cb false], [], none⟩] false).seq AC.ret) AC.skip)))).seq
  (AC.region [⟨some 64, .bin .add, [.t 33, ci 1], [], none⟩, ⟨some 33, .mov, [.t 64], [0], none⟩] false)))).loop)).seq
  ((AC.region [⟨some 2, .mov, [cb true], [], none⟩] false).seq AC.ret)))
def rs_ref15_form : List RV := [.t 2]
theorem c_ref15_form : compile Try.prog (Go.Func.ntmps Try.f85) (Try.f85.body.getD .skip) = some ac_ref15_form := by kernel_rfl
theorem go_ref15_form {xs : List V} {bx bx' : U} {r : V} {ns : List O} (hxs : decide (xs.length ≤ Go.Func.ntmps Try.f85) = true) (hbx : BxOK bx bx') (h : ∀ cx : Cx, cx.m0 = ups M0 bx → Awp Try.prog cx ac_ref15_form (RetE rs_ref15_form r bx' ns) ⟨tl (idx 0 xs), ups M0 bx⟩) : Does Try.prog 85 xs bx r bx' ns :=
  does_of Try.func85 (by kernel_rfl : Try.f85.body = some (Try.f85.body.getD .skip)) rfl c_ref15_form (by kernel_rfl) (of_decide_eq_true hxs) hbx fun cx _ hm => h cx hm
def ac_ref12_Root : AC :=
  (AC.region [⟨some 2, .mov, [ci 0], [], none⟩, ⟨some 3, .mov, [ci 0], [0], none⟩] false).seq
  (((AC.region [⟨some 5, .mov, [.t 0], [], none⟩, ⟨some 6, .call 106, [.t 5], [0], none⟩, ⟨some 4, .mov, [.t 6], [1, 1, 0, 1], none⟩] false).seq
  ((AC.region [⟨some 7, .mov, [.t 4], [], none⟩, ⟨some 8, .bin .neq, [.t 7, ci 0], [0], none⟩] false).seq
  (AC.cond (.t 8) ((AC.region [⟨some 9, .mov, [.t 4], [], none⟩, ⟨some 2, .mov, [ci 0], [], none⟩, ⟨some 3, .mov, [.t 9], [0, 1, 0, 1], none⟩] false).seq AC.ret) AC.skip))).seq
  (((AC.region [⟨some 10, .mov, [.t 0], [], none⟩, ⟨some 11, .len, [.t 10], [0], none⟩, ⟨some 12, .bin .eql, [.t 11, ci 0], [1], none⟩] false).seq
  (AC.cond (.t 12) ((AC.region [⟨some 2, .mov, [ci 0], [], none⟩, ⟨some 3, .mov, [ci 0], [0, 0], none⟩] false).seq AC.ret) AC.skip)).seq
  ((AC.block 0 (((AC.region [⟨some 13, .mov, [.t 0], [], none⟩, ⟨some 14, .len, [.t 13], [0], none⟩, ⟨some 15, .bin .gtr, [.t 14, ci 1], [1], none⟩] false).seq
  (AC.cond (.t 15) AC.skip (AC.exit 0))).seq
  (AC.block 1 (AC.region [⟨some 16, .mov, [.t 0], [], none⟩, ⟨some 17, .call 107, [.t 16], [0], none⟩, ⟨some 0, .mov, [.t 17], [1, 1, 0, 1], none⟩] false))).loop).seq
  ((AC.region [⟨some 18, .mov, [.t 0], [], none⟩, ⟨some 19, .iad 1, [.t 18, ci 0], [0], none⟩, ⟨some 20, .load 1 false, [.t 19], [1], none⟩, ⟨some 2, .mov, [.t 20], [2, 0, 1, 2], none⟩, ⟨some 3, .mov, [ci 0], [3, 0, 1, 2, 3], none⟩] false).seq AC.ret))))
def rs_ref12_Root : List RV := [.t 2, .t 3]
theorem c_ref12_Root : compile Try.prog (Go.Func.ntmps Try.f86) (Try.f86.body.getD .skip) = some ac_ref12_Root := by kernel_rfl
theorem go_ref12_Root {xs : List V} {bx bx' : U} {r : V} {ns : List O} (hxs : decide (xs.length ≤ Go.Func.ntmps Try.f86) = true) (hbx : BxOK bx bx') (h : ∀ cx : Cx, cx.m0 = ups M0 bx → Awp Try.prog cx ac_ref12_Root (RetE rs_ref12_Root r bx' ns) ⟨tl (idx 0 xs), ups M0 bx⟩) : Does Try.prog 86 xs bx r bx' ns :=
  does_of Try.func86 (by kernel_rfl : Try.f86.body = some (Try.f86.body.getD .skip)) rfl c_ref12_Root (by kernel_rfl) (of_decide_eq_true hxs) hbx fun cx _ hm => h cx hm
def ac_ref04_Same : AC :=
  (AC.region [⟨some 4, .mov, [cb false], [], none⟩] false).seq
  (((AC.region [⟨some 6, .mov, [.t 0], [], none⟩, ⟨some 7, .len, [.t 6], [0], none⟩, ⟨some 8, .mov, [.t 1], [], none⟩, ⟨some 9, .len, [.t 8], [2], none⟩, ⟨some 10, .bin .neq, [.t 7, .t 9], [1, 3], none⟩] false).seq
  (AC.cond (.t 10) ((AC.region [⟨some 4, .mov, [cb false], [], none⟩] false).seq AC.ret) AC.skip)).seq
  (((AC.region [⟨some 11, .mov, [.t 0], [], none⟩, ⟨some 12, .len, [.t 11], [0], none⟩, ⟨some 13, .mov, [ci 0], [], none⟩] false).seq
  (AC.block 0 ((AC.region [⟨some 14, .bin .lss, [.t 13, .t 12], [], none⟩] false).seq
  ((AC.cond (.t 14) AC.skip (AC.exit 0)).seq
  ((AC.block 1 ((AC.region [⟨some 15, .mov, [.t 13], [], none⟩, ⟨some 5, .mov, [.t 15], [0, 0], none⟩] false).seq
  ((AC.region [⟨some 16, .mov, [.t 0], [], none⟩, ⟨some 17, .mov, [.t 5], [], none⟩, ⟨some 18, .iad 1, [.t 16, .t 17], [0, 1], none⟩, ⟨some 19, .load 1 false, [.t 18], [2], none⟩, ⟨some 20, .mov, [.t 1], [], none⟩, ⟨some 21, .mov, [.t 5], [], none⟩, ⟨some 22, .iad 1, [.t 20, .t 21], [4, 5], none⟩, ⟨some 23, .load 1 false, [.t 22], [6], none⟩, ⟨some 24, .bin .neq, [.t 19, .t 23], [3, 7], none⟩] true).seq
  (AC.cond (.t 24) ((AC.region [⟨some 4, .mov, [cb false], [], none⟩] false).seq AC.ret) AC.skip)))).seq
  (AC.region [⟨some 25, .bin .add, [.t 13, ci 1], [], none⟩, ⟨some 13, .mov, [.t 25], [0], none⟩] false)))).loop)).seq
  ((AC.region [⟨some 4, .mov, [cb true], [], none⟩] false).seq AC.ret)))
def rs_ref04_Same : List RV := [.t 4]
theorem c_ref04_Same : compile Try.prog (Go.Func.ntmps Try.f89) (Try.f89.body.getD .skip) = some ac_ref04_Same := by kernel_rfl
theorem go_ref04_Same {xs : List V} {bx bx' : U} {r : V} {ns : List O} (hxs : decide (xs.length ≤ Go.Func.ntmps Try.f89) = true) (hbx : BxOK bx bx') (h : ∀ cx : Cx, cx.m0 = ups M0 bx → Awp Try.prog cx ac_ref04_Same (RetE rs_ref04_Same r bx' ns) ⟨tl (idx 0 xs), ups M0 bx⟩) : Does Try.prog 89 xs bx r bx' ns :=
  does_of Try.func89 (by kernel_rfl : Try.f89.body = some (Try.f89.body.getD .skip)) rfl c_ref04_Same (by kernel_rfl) (of_decide_eq_true hxs) hbx fun cx _ hm => h cx hm
def ac_change_Check : AC :=
  (AC.region [⟨some 2, .box, [.t 0], [], none⟩, ⟨some 3, .box, [.t 1], [], none⟩, ⟨some 4, .mov, [ci 0], [], none⟩] false).seq
  (((AC.region [⟨some 8, .load 4 true, [.t 2], [], none⟩, ⟨some 9, .call 61, [.t 8], [0], none⟩, ⟨some 5, .mov, [.t 9], [1, 1, 0, 1], none⟩] false).seq
  ((AC.region [⟨some 10, .mov, [.t 5], [], none⟩, ⟨some 11, .bin .neq, [.t 10, ci 0], [0], none⟩] false).seq
  (AC.cond (.t 11) ((AC.region [⟨some 12, .mov, [.t 5], [], none⟩, ⟨some 4, .mov, [.t 12], [0, 0], none⟩] false).seq AC.ret) AC.skip))).seq
  (((AC.region [⟨some 13, .load 4 true, [.t 3], [], none⟩, ⟨some 14, .call 109, [.t 13], [0], none⟩, ⟨some 15, .un .not, [.t 14], [1], none⟩] false).seq
  (AC.cond (.t 15) ((AC.region [⟨some 4, .mov, [ci 2], [], none⟩] false).seq AC.ret) AC.skip)).seq
  (((AC.region [⟨some 16, .fad 0, [.t 3], [], none⟩, ⟨some 17, .load 1 false, [.t 16], [0], none⟩, ⟨some 18, .fad 0, [.t 2], [], none⟩, ⟨some 19, .load 1 false, [.t 18], [2], none⟩, ⟨some 20, .bin .neq, [.t 17, .t 19], [1, 3], none⟩] false).seq
  (AC.cond (.t 20) ((AC.region [⟨some 4, .mov, [ci 17], [], none⟩] false).seq AC.ret) AC.skip)).seq
  (((AC.region [⟨some 21, .fad 3, [.t 3], [], none⟩, ⟨some 22, .load 1 false, [.t 21], [0], none⟩, ⟨some 23, .len, [.t 22], [1], none⟩, ⟨some 24, .mov, [ci 0], [], none⟩] false).seq
  (AC.block 0 ((AC.region [⟨some 25, .bin .lss, [.t 24, .t 23], [], none⟩] false).seq
  ((AC.cond (.t 25) AC.skip (AC.exit 0)).seq
  ((AC.block 1 ((AC.region [⟨some 26, .iad 2, [.t 22, .t 24], [], none⟩, ⟨some 27, .load 2 true, [.t 26], [0], none⟩, ⟨some 7, .alloc [I 0, V.nl 1], [], [], none⟩, ⟨none, .store 2, [.t 7, .t 27], [2, 1, 0, 1, 2], none⟩] false).seq
  (((AC.region [⟨some 28, .fad 1, [.t 7], [], none⟩, ⟨some 29, .load 1 false, [.t 28], [0], none⟩, ⟨some 30, .len, [.t 29], [1], none⟩, ⟨some 31, .fad 2, [.t 2], [], none⟩, ⟨some 32, .load 1 false, [.t 31], [3], none⟩, ⟨some 33, .bin .neq, [.t 30, .t 32], [2, 4], none⟩] false).seq
  (AC.cond (.t 33) ((AC.region [⟨some 4, .mov, [ci 2], [], none⟩] false).seq AC.ret) AC.skip)).seq
  ((AC.region [⟨some 34, .fad 1, [.t 2], [], none⟩, ⟨some 35, .fad 0, [.t 34], [0], none⟩, ⟨some 36, .load 1 false, [.t 35], [1], none⟩, ⟨some 37, .fad 1, [.t 7], [], none⟩, ⟨some 38, .load 1 false, [.t 37], [3], none⟩, ⟨some 39, .call 95, [.t 36, .t 38], [2, 4], none⟩, ⟨some 40, .un .not, [.t 39], [5], none⟩] false).seq
  (AC.cond (.t 40) ((AC.region [⟨some 4, .mov, [ci 9], [], none⟩] false).seq AC.ret) AC.skip))))).seq
  (AC.region [⟨some 41, .bin .add, [.t 24, ci 1], [], none⟩, ⟨some 24, .mov, [.t 41], [0], none⟩] false)))).loop)).seq
  (((AC.region [⟨some 42, .load 4 true, [.t 3], [], none⟩, ⟨some 43, .fad 3, [.t 2], [], none⟩, ⟨some 44, .load 1 false, [.t 43], [1], none⟩, ⟨some 45, .len, [.t 44], [2], none⟩, ⟨some 46, .call 110, [.t 42, .t 45], [0, 3], none⟩, ⟨some 47, .fad 2, [.t 3], [], none⟩, ⟨some 48, .load 1 false, [.t 47], [5], none⟩, ⟨some 49, .fad 3, [.t 2], [], none⟩, ⟨some 50, .load 1 false, [.t 49], [7], none⟩, ⟨some 51, .len, [.t 50], [8], none⟩, ⟨some 52, .bin .sub, [.t 48, .t 51], [6, 9], none⟩, ⟨some 53, .mx, [ci 0, .t 52], [10], none⟩, ⟨some 54, .bin .neq, [.t 46, .t 53], [4, 11], none⟩] true).seq
  (AC.cond (.t 54) ((AC.region [⟨some 4, .mov, [ci 2], [], none⟩] false).seq AC.ret) AC.skip)).seq
  ((AC.region [⟨some 4, .mov, [ci 0], [], none⟩] false).seq AC.ret))))))
def rs_change_Check : List RV := [.t 4]
theorem c_change_Check : compile Try.prog (Go.Func.ntmps Try.f90) (Try.f90.body.getD .skip) = some ac_change_Check := by kernel_rfl
theorem go_change_Check {xs : List V} {bx bx' : U} {r : V} {ns : List O} (hxs : decide (xs.length ≤ Go.Func.ntmps Try.f90) = true) (hbx : BxOK bx bx') (h : ∀ cx : Cx, cx.m0 = ups M0 bx → Awp Try.prog cx ac_change_Check (RetE rs_change_Check r bx' ns) ⟨tl (idx 0 xs), ups M0 bx⟩) : Does Try.prog 90 xs bx r bx' ns :=
  does_of Try.func90 (by kernel_rfl : Try.f90.body = some (Try.f90.body.getD .skip)) rfl c_change_Check (by kernel_rfl) (of_decide_eq_true hxs) hbx fun cx _ hm => h cx hm
def ac_slices_Equal_int_int : AC :=
  (AC.region [⟨some 4, .mov, [cb false], [], none⟩] false).seq
  (((AC.region [⟨some 6, .mov, [.t 0], [], none⟩, ⟨some 7, .len, [.t 6], [0], none⟩, ⟨some 8, .mov, [.t 1], [], none⟩, ⟨some 9, .len, [.t 8], [2], none⟩, ⟨some 10, .bin .neq, [.t 7, .t 9], [1, 3], none⟩] false).seq
  (AC.cond (.t 10) ((AC.region [⟨some 4, .mov, [cb false], [], none⟩] false).seq AC.ret) AC.skip)).seq
  (((AC.region [⟨some 11, .mov, [.t 0], [], none⟩, ⟨some 12, .len, [.t 11], [0], none⟩, ⟨some 13, .mov, [ci 0], [], none⟩] false).seq
  (AC.block 0 ((AC.region [⟨some 14, .bin .lss, [.t 13, .t 12], [], none⟩] false).seq
  ((AC.cond (.t 14) AC.skip (AC.exit 0)).seq
  ((AC.block 1 ((AC.region [⟨some 15, .mov, [.t 13], [], none⟩, ⟨some 5, .mov, [.t 15], [0, 0], none⟩] false).seq
  ((AC.region [⟨some 16, .mov, [.t 0], [], none⟩, ⟨some 17, .mov, [.t 5], [], none⟩, ⟨some 18, .iad 1, [.t 16, .t 17], [0, 1], none⟩, ⟨some 19, .load 1 false, [.t 18], [2], none⟩, ⟨some 20, .mov, [.t 1], [], none⟩, ⟨some 21, .mov, [.t 5], [], none⟩, ⟨some 22, .iad 1, [.t 20, .t 21], [4, 5], none⟩, ⟨some 23, .load 1 false, [.t 22], [6], none⟩, ⟨some 24, .bin .neq, [.t 19, .t 23], [3, 7], none⟩] true).seq
  (AC.cond (.t 24) ((AC.region [⟨some 4, .mov, [cb false], [], none⟩] false).seq AC.ret) AC.skip)))).seq
  (AC.region [⟨some 25, .bin .add, [.t 13, ci 1], [], none⟩, ⟨some 13, .mov, [.t 25], [0], none⟩] false)))).loop)).seq
  ((AC.region [⟨some 4, .mov, [cb true], [], none⟩] false).seq AC.ret)))
def rs_slices_Equal_int_int : List RV := [.t 4]
theorem c_slices_Equal_int_int : compile Try.prog (Go.Func.ntmps Try.f91) (Try.f91.body.getD .skip) = some ac_slices_Equal_int_int := by kernel_rfl
theorem go_slices_Equal_int_int {xs : List V} {bx bx' : U} {r : V} {ns : List O} (hxs : decide (xs.length ≤ Go.Func.ntmps Try.f91) = true) (hbx : BxOK bx bx') (h : ∀ cx : Cx, cx.m0 = ups M0 bx → Awp Try.prog cx ac_slices_Equal_int_int (RetE rs_slices_Equal_int_int r bx' ns) ⟨tl (idx 0 xs), ups M0 bx⟩) : Does Try.prog 91 xs bx r bx' ns :=
  does_of Try.func91 (by kernel_rfl : Try.f91.body = some (Try.f91.body.getD .skip)) rfl c_slices_Equal_int_int (by kernel_rfl) (of_decide_eq_true hxs) hbx fun cx _ hm => h cx hm
def ac_residue_Of : AC :=
  (AC.region [⟨some 1, .box, [.t 0], [], none⟩, ⟨some 2, .mov, [ci 0], [], none⟩, ⟨some 3, .mov, [cb false], [1], none⟩] false).seq
  (((AC.region [⟨some 5, .fad 0, [.t 1], [], none⟩, ⟨some 6, .load 1 false, [.t 5], [0], none⟩, ⟨some 7, .bin .lss, [.t 6, ci 2], [1], none⟩, ⟨some 8, .mov, [.t 7], [2], none⟩, ⟨some 9, .fad 0, [.t 1], [3], some (3, 8, false)⟩, ⟨some 10, .load 1 false, [.t 9], [4, 3], some (3, 8, false)⟩, ⟨some 11, .bin .gtr, [.t 10, ci 65521], [5, 3], some (3, 8, false)⟩, ⟨some 12, .pick, [.t 8, cb true, .t 11], [3, 6], none⟩] false).seq
  (AC.cond (.t 12) ((AC.region [⟨some 2, .mov, [ci 0], [], none⟩, ⟨some 3, .mov, [cb false], [0, 0], none⟩] false).seq AC.ret) AC.skip)).seq
  (((AC.region [⟨some 4, .mov, [ci 2], [], none⟩] false).seq
  (AC.block 0 (((AC.region [⟨some 13, .mov, [.t 4], [], none⟩, ⟨some 14, .mov, [.t 4], [], none⟩, ⟨some 15, .bin .mul, [.t 13, .t 14], [0, 1], none⟩, ⟨some 16, .fad 0, [.t 1], [], none⟩, ⟨some 17, .load 1 false, [.t 16], [3], none⟩, ⟨some 18, .bin .leq, [.t 15, .t 17], [2, 4], none⟩] false).seq
  (AC.cond (.t 18) AC.skip (AC.exit 0))).seq
  ((AC.block 1 ((AC.region [⟨some 21, .fad 0, [.t 1], [], none⟩, ⟨some 22, .load 1 false, [.t 21], [0], none⟩, ⟨some 23, .mov, [.t 4], [], none⟩, ⟨some 24, .bin .rem, [.t 22, .t 23], [1, 2], none⟩, ⟨some 25, .bin .eql, [.t 24, ci 0], [3], none⟩] false).seq
  (AC.cond (.t 25) ((AC.region [⟨some 2, .mov, [ci 0], [], none⟩, ⟨some 3, .mov, [cb false], [0, 0], none⟩] false).seq AC.ret) AC.skip))).seq
  (AC.region [⟨some 19, .mov, [.t 4], [], none⟩, ⟨some 20, .bin .add, [.t 19, ci 1], [0], none⟩, ⟨some 4, .mov, [.t 20], [1, 0, 1], none⟩] false))).loop)).seq
  ((AC.region [⟨some 26, .fad 0, [.t 1], [], none⟩, ⟨some 27, .load 1 false, [.t 26], [0], none⟩, ⟨some 2, .mov, [.t 27], [1, 0, 1], none⟩, ⟨some 3, .mov, [cb true], [2, 0, 1, 2], none⟩] false).seq AC.ret)))
def rs_residue_Of : List RV := [.t 2, .t 3]
theorem c_residue_Of : compile Try.prog (Go.Func.ntmps Try.f94) (Try.f94.body.getD .skip) = some ac_residue_Of := by kernel_rfl
theorem go_residue_Of {xs : List V} {bx bx' : U} {r : V} {ns : List O} (hxs : decide (xs.length ≤ Go.Func.ntmps Try.f94) = true) (hbx : BxOK bx bx') (h : ∀ cx : Cx, cx.m0 = ups M0 bx → Awp Try.prog cx ac_residue_Of (RetE rs_residue_Of r bx' ns) ⟨tl (idx 0 xs), ups M0 bx⟩) : Does Try.prog 94 xs bx r bx' ns :=
  does_of Try.func94 (by kernel_rfl : Try.f94.body = some (Try.f94.body.getD .skip)) rfl c_residue_Of (by kernel_rfl) (of_decide_eq_true hxs) hbx fun cx _ hm => h cx hm
def ac_residue_Field_All : AC :=
  (AC.region [⟨some 2, .box, [.t 0], [], none⟩, ⟨some 4, .mov, [cb false], [], none⟩] false).seq
  ((AC.region [⟨some 5, .mov, [.t 1], [], none⟩, ⟨some 6, .mkf 113, [.t 2], [], none⟩, ⟨some 7, .call 112, [.t 5, .t 6], [0, 1], none⟩, ⟨some 8, .un .not, [.t 7], [2], none⟩, ⟨some 4, .mov, [.t 8], [3, 2, 0, 1, 2, 3], none⟩] false).seq AC.ret)
def rs_residue_Field_All : List RV := [.t 4]
theorem c_residue_Field_All : compile Try.prog (Go.Func.ntmps Try.f95) (Try.f95.body.getD .skip) = some ac_residue_Field_All := by kernel_rfl
theorem go_residue_Field_All {xs : List V} {bx bx' : U} {r : V} {ns : List O} (hxs : decide (xs.length ≤ Go.Func.ntmps Try.f95) = true) (hbx : BxOK bx bx') (h : ∀ cx : Cx, cx.m0 = ups M0 bx → Awp Try.prog cx ac_residue_Field_All (RetE rs_residue_Field_All r bx' ns) ⟨tl (idx 0 xs), ups M0 bx⟩) : Does Try.prog 95 xs bx r bx' ns :=
  does_of Try.func95 (by kernel_rfl : Try.f95.body = some (Try.f95.body.getD .skip)) rfl c_residue_Field_All (by kernel_rfl) (of_decide_eq_true hxs) hbx fun cx _ hm => h cx hm
def ac_residue_Field_Has : AC :=
  (AC.region [⟨some 4, .mov, [cb false], [], none⟩] false).seq
  ((AC.region [⟨some 5, .mov, [.t 1], [], none⟩, ⟨some 6, .bin .geq, [.t 5, ci 0], [0], none⟩, ⟨some 7, .mov, [.t 6], [1], none⟩, ⟨some 8, .mov, [.t 1], [2], some (2, 7, true)⟩, ⟨some 9, .mov, [.t 0], [2], some (2, 7, true)⟩, ⟨some 10, .bin .lss, [.t 8, .t 9], [3, 4, 2], some (2, 7, true)⟩, ⟨some 11, .pick, [.t 7, .t 10, cb false], [2, 5], none⟩, ⟨some 4, .mov, [.t 11], [6, 2, 0, 1, 2, 3, 4, 5, 6], none⟩] false).seq AC.ret)
def rs_residue_Field_Has : List RV := [.t 4]
theorem c_residue_Field_Has : compile Try.prog (Go.Func.ntmps Try.f98) (Try.f98.body.getD .skip) = some ac_residue_Field_Has := by kernel_rfl
theorem go_residue_Field_Has {xs : List V} {bx bx' : U} {r : V} {ns : List O} (hxs : decide (xs.length ≤ Go.Func.ntmps Try.f98) = true) (hbx : BxOK bx bx') (h : ∀ cx : Cx, cx.m0 = ups M0 bx → Awp Try.prog cx ac_residue_Field_Has (RetE rs_residue_Field_Has r bx' ns) ⟨tl (idx 0 xs), ups M0 bx⟩) : Does Try.prog 98 xs bx r bx' ns :=
  does_of Try.func98 (by kernel_rfl : Try.f98.body = some (Try.f98.body.getD .skip)) rfl c_residue_Field_Has (by kernel_rfl) (of_decide_eq_true hxs) hbx fun cx _ hm => h cx hm
def ac_slices_Index_int_int : AC :=
  (AC.region [⟨some 4, .mov, [ci 0], [], none⟩] false).seq
  (((AC.region [⟨some 6, .mov, [.t 0], [], none⟩, ⟨some 7, .len, [.t 6], [0], none⟩, ⟨some 8, .mov, [ci 0], [], none⟩] false).seq
  (AC.block 0 ((AC.region [⟨some 9, .bin .lss, [.t 8, .t 7], [], none⟩] false).seq
  ((AC.cond (.t 9) AC.skip (AC.exit 0)).seq
  ((AC.block 1 ((AC.region [⟨some 10, .mov, [.t 8], [], none⟩, ⟨some 5, .mov, [.t 10], [0, 0], none⟩] false).seq
  ((AC.region [⟨some 11, .mov, [.t 1], [], none⟩, ⟨some 12, .mov, [.t 0], [], none⟩, ⟨some 13, .mov, [.t 5], [], none⟩, ⟨some 14, .iad 1, [.t 12, .t 13], [1, 2], none⟩, ⟨some 15, .load 1 false, [.t 14], [3], none⟩, ⟨some 16, .bin .eql, [.t 11, .t 15], [0, 4], none⟩] false).seq
  (AC.cond (.t 16) ((AC.region [⟨some 17, .mov, [.t 5], [], none⟩, ⟨some 4, .mov, [.t 17], [0, 0], none⟩] false).seq AC.ret) AC.skip)))).seq
  (AC.region [⟨some 18, .bin .add, [.t 8, ci 1], [], none⟩, ⟨some 8, .mov, [.t 18], [0], none⟩] false)))).loop)).seq
  ((AC.region [⟨some 4, .mov, [ci (-1)], [], none⟩] false).seq AC.ret))
def rs_slices_Index_int_int : List RV := [.t 4]
theorem c_slices_Index_int_int : compile Try.prog (Go.Func.ntmps Try.f103) (Try.f103.body.getD .skip) = some ac_slices_Index_int_int := by kernel_rfl
theorem go_slices_Index_int_int {xs : List V} {bx bx' : U} {r : V} {ns : List O} (hxs : decide (xs.length ≤ Go.Func.ntmps Try.f103) = true) (hbx : BxOK bx bx') (h : ∀ cx : Cx, cx.m0 = ups M0 bx → Awp Try.prog cx ac_slices_Index_int_int (RetE rs_slices_Index_int_int r bx' ns) ⟨tl (idx 0 xs), ups M0 bx⟩) : Does Try.prog 103 xs bx r bx' ns :=
  does_of Try.func103 (by kernel_rfl : Try.f103.body = some (Try.f103.body.getD .skip)) rfl c_slices_Index_int_int (by kernel_rfl) (of_decide_eq_true hxs) hbx fun cx _ hm => h cx hm
def ac_change_own : AC :=
  (AC.region [⟨some 1, .box, [.t 0], [], none⟩, ⟨some 2, .alloc [I 0, V.nl 1], [], [], none⟩] false).seq
  ((AC.region [⟨some 3, .fad 0, [.t 1], [], none⟩, ⟨some 4, .load 1 false, [.t 3], [0], none⟩, ⟨some 5, .fad 1, [.t 1], [], none⟩, ⟨some 6, .load 1 false, [.t 5], [2], none⟩, ⟨some 7, .call 64, [.t 6], [3], none⟩, ⟨some 8, .build [I 0, V.nl 1] [(0, 1), (1, 1)], [.t 4, .t 7], [1, 4], none⟩, ⟨none, .store 2, [.t 2, .t 8], [5, 4, 0, 1, 2, 3, 4, 5], none⟩] true).seq AC.ret)
def rs_change_own : List RV := [.c 2 2 true]
theorem c_change_own : compile Try.prog (Go.Func.ntmps Try.f104) (Try.f104.body.getD .skip) = some ac_change_own := by kernel_rfl
theorem go_change_own {xs : List V} {bx bx' : U} {r : V} {ns : List O} (hxs : decide (xs.length ≤ Go.Func.ntmps Try.f104) = true) (hbx : BxOK bx bx') (h : ∀ cx : Cx, cx.m0 = ups M0 bx → Awp Try.prog cx ac_change_own (RetE rs_change_own r bx' ns) ⟨tl (idx 0 xs), ups M0 bx⟩) : Does Try.prog 104 xs bx r bx' ns :=
  does_of Try.func104 (by kernel_rfl : Try.f104.body = some (Try.f104.body.getD .skip)) rfl c_change_own (by kernel_rfl) (of_decide_eq_true hxs) hbx fun cx _ hm => h cx hm
def ac_ref11_mod : AC :=
  (AC.region [⟨some 2, .mov, [ci 0], [], none⟩] false).seq
  ((AC.region [⟨some 3, .mov, [.t 0], [], none⟩, ⟨some 4, .bin .rem, [.t 3, ci 2147483647], [0], none⟩, ⟨some 5, .bin .add, [.t 4, ci 2147483647], [1], none⟩, ⟨some 6, .bin .rem, [.t 5, ci 2147483647], [2], none⟩, ⟨some 2, .mov, [.t 6], [3, 0, 1, 2, 3], none⟩] false).seq AC.ret)
def rs_ref11_mod : List RV := [.t 2]
theorem c_ref11_mod : compile Try.prog (Go.Func.ntmps Try.f105) (Try.f105.body.getD .skip) = some ac_ref11_mod := by kernel_rfl
theorem go_ref11_mod {xs : List V} {bx bx' : U} {r : V} {ns : List O} (hxs : decide (xs.length ≤ Go.Func.ntmps Try.f105) = true) (hbx : BxOK bx bx') (h : ∀ cx : Cx, cx.m0 = ups M0 bx → Awp Try.prog cx ac_ref11_mod (RetE rs_ref11_mod r bx' ns) ⟨tl (idx 0 xs), ups M0 bx⟩) : Does Try.prog 105 xs bx r bx' ns :=
  does_of Try.func105 (by kernel_rfl : Try.f105.body = some (Try.f105.body.getD .skip)) rfl c_ref11_mod (by kernel_rfl) (of_decide_eq_true hxs) hbx fun cx _ hm => h cx hm
def ac_ref12_list : AC :=
  (AC.region [⟨some 2, .mov, [ci 0], [], none⟩] false).seq
  (((AC.region [⟨some 5, .mov, [.t 0], [], none⟩, ⟨some 6, .len, [.t 5], [0], none⟩, ⟨some 7, .bin .gtr, [.t 6, ci 1024], [1], none⟩] false).seq
  (AC.cond (.t 7) ((AC.region [⟨some 2, .mov, [ci 4], [], none⟩] false).seq AC.ret) AC.skip)).seq
  (((AC.region [⟨some 8, .mov, [.t 0], [], none⟩, ⟨some 9, .len, [.t 8], [0], none⟩, ⟨some 10, .mov, [ci 0], [], none⟩] false).seq
  (AC.block 0 ((AC.region [⟨some 11, .bin .lss, [.t 10, .t 9], [], none⟩] false).seq
  ((AC.cond (.t 11) AC.skip (AC.exit 0)).seq
  ((AC.block 1 ((AC.region [⟨some 12, .iad 1, [.t 8, .t 10], [], none⟩, ⟨some 13, .load 1 false, [.t 12], [0], none⟩, ⟨some 4, .mov, [.t 13], [1, 0, 1], none⟩] false).seq
  ((AC.region [⟨some 14, .mov, [.t 4], [], none⟩, ⟨some 15, .bin .lss, [.t 14, ci 0], [0], none⟩, ⟨some 16, .mov, [.t 15], [1], none⟩, ⟨some 17, .mov, [.t 4], [2], some (2, 16, false)⟩, ⟨some 18, .bin .geq, [.t 17, ci 2147483647], [3, 2], some (2, 16, false)⟩, ⟨some 19, .pick, [.t 16, cb true, .t 18], [2, 4], none⟩] false).seq
  (AC.cond (.t 19) ((AC.region [⟨some 2, .mov, [ci 1], [], none⟩] false).seq AC.ret) AC.skip)))).seq
  (AC.region [⟨some 20, .bin .add, [.t 10, ci 1], [], none⟩, ⟨some 10, .mov, [.t 20], [0], none⟩] false)))).loop)).seq
  ((AC.region [⟨some 2, .mov, [ci 0], [], none⟩] false).seq AC.ret)))
def rs_ref12_list : List RV := [.t 2]
theorem c_ref12_list : compile Try.prog (Go.Func.ntmps Try.f106) (Try.f106.body.getD .skip) = some ac_ref12_list := by kernel_rfl
theorem go_ref12_list {xs : List V} {bx bx' : U} {r : V} {ns : List O} (hxs : decide (xs.length ≤ Go.Func.ntmps Try.f106) = true) (hbx : BxOK bx bx') (h : ∀ cx : Cx, cx.m0 = ups M0 bx → Awp Try.prog cx ac_ref12_list (RetE rs_ref12_list r bx' ns) ⟨tl (idx 0 xs), ups M0 bx⟩) : Does Try.prog 106 xs bx r bx' ns :=
  does_of Try.func106 (by kernel_rfl : Try.f106.body = some (Try.f106.body.getD .skip)) rfl c_ref12_list (by kernel_rfl) (of_decide_eq_true hxs) hbx fun cx _ hm => h cx hm
def ac_ref12_up : AC :=
  (AC.region [⟨some 2, .mov, [AV.c (V.nl 1)], [], none⟩] false).seq
  ((AC.region [⟨some 3, .mov, [AV.c (V.nl 1)], [], none⟩] false).seq
  (((AC.region [⟨some 4, .mov, [ci 0], [], none⟩] false).seq
  (AC.block 0 (((AC.region [⟨some 5, .mov, [.t 4], [], none⟩, ⟨some 6, .mov, [.t 0], [], none⟩, ⟨some 7, .len, [.t 6], [1], none⟩, ⟨some 8, .bin .lss, [.t 5, .t 7], [0, 2], none⟩] false).seq
  (AC.cond (.t 8) AC.skip (AC.exit 0))).seq
  ((AC.block 1 ((AC.region [⟨some 11, .mov, [.t 4], [], none⟩, ⟨some 12, .bin .add, [.t 11, ci 1], [0], none⟩, ⟨some 13, .mov, [.t 0], [], none⟩, ⟨some 14, .len, [.t 13], [2], none⟩, ⟨some 15, .bin .lss, [.t 12, .t 14], [1, 3], none⟩] false).seq
  (AC.cond (.t 15) (AC.region [⟨some 16, .mov, [.t 3], [], none⟩, ⟨some 17, .mov, [.t 0], [], none⟩, ⟨some 18, .mov, [.t 4], [], none⟩, ⟨some 19, .iad 1, [.t 17, .t 18], [1, 2], none⟩, ⟨some 20, .load 1 false, [.t 19], [3], none⟩, ⟨some 21, .mov, [.t 0], [], none⟩, ⟨some 22, .mov, [.t 4], [], none⟩, ⟨some 23, .bin .add, [.t 22, ci 1], [6], none⟩, ⟨some 24, .iad 1, [.t 21, .t 23], [5, 7], none⟩, ⟨some 25, .load 1 false, [.t 24], [8], none⟩, ⟨some 26, .call 118, [.t 20, .t 25], [4, 9], none⟩, ⟨some 27, .bsl 1 [I 0] 1 [0], [.t 26], [10], none⟩, ⟨some 28, .app 1 8, [.t 16, .t 27], [0, 11, 10], none⟩, ⟨some 3, .mov, [.t 28], [12, 12, 0, 1, 2, 3, 4, 5, 6, 7, 8, 9, 10, 11, 12], none⟩] true) (AC.region [⟨some 29, .mov, [.t 3], [], none⟩, ⟨some 30, .mov, [.t 0], [], none⟩, ⟨some 31, .mov, [.t 4], [], none⟩, ⟨some 32, .iad 1, [.t 30, .t 31], [1, 2], none⟩, ⟨some 33, .load 1 false, [.t 32], [3], none⟩, ⟨some 34, .bsl 1 [I 0] 1 [0], [.t 33], [4], none⟩, ⟨some 35, .app 1 8, [.t 29, .t 34], [0, 5], none⟩, ⟨some 3, .mov, [.t 35], [6, 6, 0, 1, 2, 3, 4, 5, 6], none⟩] false)))).seq
  (AC.region [⟨some 9, .mov, [.t 4], [], none⟩, ⟨some 10, .bin .add, [.t 9, ci 2], [0], none⟩, ⟨some 4, .mov, [.t 10], [1, 0, 1], none⟩] false))).loop)).seq
  ((AC.region [⟨some 36, .mov, [.t 3], [], none⟩, ⟨some 2, .mov, [.t 36], [0, 0], none⟩] false).seq AC.ret)))
def rs_ref12_up : List RV := [.t 2]
theorem c_ref12_up : compile Try.prog (Go.Func.ntmps Try.f107) (Try.f107.body.getD .skip) = some ac_ref12_up := by kernel_rfl
theorem go_ref12_up {xs : List V} {bx bx' : U} {r : V} {ns : List O} (hxs : decide (xs.length ≤ Go.Func.ntmps Try.f107) = true) (hbx : BxOK bx bx') (h : ∀ cx : Cx, cx.m0 = ups M0 bx → Awp Try.prog cx ac_ref12_up (RetE rs_ref12_up r bx' ns) ⟨tl (idx 0 xs), ups M0 bx⟩) : Does Try.prog 107 xs bx r bx' ns :=
  does_of Try.func107 (by kernel_rfl : Try.f107.body = some (Try.f107.body.getD .skip)) rfl c_ref12_up (by kernel_rfl) (of_decide_eq_true hxs) hbx fun cx _ hm => h cx hm
def ac_change_formed : AC :=
  (AC.region [⟨some 1, .box, [.t 0], [], none⟩, ⟨some 2, .mov, [cb false], [], none⟩] false).seq
  (((AC.region [⟨some 6, .fad 0, [.t 1], [], none⟩, ⟨some 7, .load 1 false, [.t 6], [0], none⟩, ⟨some 8, .call 119, [.t 7], [1], none⟩, ⟨some 9, .un .not, [.t 8], [2], none⟩, ⟨some 10, .mov, [.t 9], [3, 2], none⟩, ⟨some 11, .fad 1, [.t 1], [4], some (4, 10, false)⟩, ⟨some 12, .load 1 false, [.t 11], [5, 4], some (4, 10, false)⟩, ⟨some 13, .call 119, [.t 12], [6, 4, 4], some (4, 10, false)⟩, ⟨some 14, .un .not, [.t 13], [7, 4], some (4, 10, false)⟩, ⟨some 15, .pick, [.t 10, cb true, .t 14], [4, 8], none⟩, ⟨some 16, .mov, [.t 15], [9, 7], none⟩, ⟨some 17, .fad 0, [.t 1], [10], some (10, 16, false)⟩, ⟨some 18, .load 1 false, [.t 17], [11, 10], some (10, 16, false)⟩, ⟨some 19, .fad 1, [.t 1], [10], some (10, 16, false)⟩, ⟨some 20, .load 1 false, [.t 19], [13, 10], some (10, 16, false)⟩, ⟨some 21, .bin .geq, [.t 18, .t 20], [12, 14, 10], some (10, 16, false)⟩, ⟨some 22, .pick, [.t 16, cb true, .t 21], [10, 15], none⟩, ⟨some 23, .mov, [.t 22], [16, 10], none⟩, ⟨some 24, .fad 2, [.t 1], [17], some (17, 23, false)⟩, ⟨some 25, .load 1 false, [.t 24], [18, 17], some (17, 23, false)⟩, ⟨some 26, .bin .lss, [.t 25, ci 0], [19, 17], some (17, 23, false)⟩, ⟨some 27, .pick, [.t 23, cb true, .t 26], [17, 20], none⟩, ⟨some 28, .mov, [.t 27], [21, 17], none⟩, ⟨some 29, .fad 2, [.t 1], [22], some (22, 28, false)⟩, ⟨some 30, .load 1 false, [.t 29], [23, 22], some (22, 28, false)⟩, ⟨some 31, .bin .gtr, [.t 30, ci 1024], [24, 22], some (22, 28, false)⟩, ⟨some 32, .pick, [.t 28, cb true, .t 31], [22, 25], none⟩] false).seq
  (AC.cond (.t 32) ((AC.region [⟨some 2, .mov, [cb false], [], none⟩] false).seq AC.ret) AC.skip)).seq
  ((AC.region [⟨some 3, .mov, [ci (-1)], [], none⟩] false).seq
  (((AC.region [⟨some 33, .fad 3, [.t 1], [], none⟩, ⟨some 34, .load 1 false, [.t 33], [0], none⟩, ⟨some 35, .len, [.t 34], [1], none⟩, ⟨some 36, .mov, [ci 0], [], none⟩] false).seq
  (AC.block 0 ((AC.region [⟨some 37, .bin .lss, [.t 36, .t 35], [], none⟩] false).seq
  ((AC.cond (.t 37) AC.skip (AC.exit 0)).seq
  ((AC.block 1 ((AC.region [⟨some 38, .iad 2, [.t 34, .t 36], [], none⟩, ⟨some 39, .load 2 true, [.t 38], [0], none⟩, ⟨some 5, .alloc [I 0, V.nl 1], [], [], none⟩, ⟨none, .store 2, [.t 5, .t 39], [2, 1, 0, 1, 2], none⟩] false).seq
  (((AC.region [⟨some 40, .fad 0, [.t 5], [], none⟩, ⟨some 41, .load 1 false, [.t 40], [0], none⟩, ⟨some 42, .mov, [.t 3], [], none⟩, ⟨some 43, .bin .leq, [.t 41, .t 42], [1, 2], none⟩, ⟨some 44, .mov, [.t 43], [3], none⟩, ⟨some 45, .fad 0, [.t 5], [4], some (4, 44, false)⟩, ⟨some 46, .load 1 false, [.t 45], [5, 4], some (4, 44, false)⟩, ⟨some 47, .fad 2, [.t 1], [4], some (4, 44, false)⟩, ⟨some 48, .load 1 false, [.t 47], [7, 4], some (4, 44, false)⟩, ⟨some 49, .bin .geq, [.t 46, .t 48], [6, 8, 4], some (4, 44, false)⟩, ⟨some 50, .pick, [.t 44, cb true, .t 49], [4, 9], none⟩] false).seq
  (AC.cond (.t 50) ((AC.region [⟨some 2, .mov, [cb false], [], none⟩] false).seq AC.ret) AC.skip)).seq
  (AC.region [⟨some 51, .fad 0, [.t 5], [], none⟩, ⟨some 52, .load 1 false, [.t 51], [0], none⟩, ⟨some 3, .mov, [.t 52], [1, 0, 1], none⟩] false)))).seq
  (AC.region [⟨some 53, .bin .add, [.t 36, ci 1], [], none⟩, ⟨some 36, .mov, [.t 53], [0], none⟩] false)))).loop)).seq
  ((AC.region [⟨some 2, .mov, [cb true], [], none⟩] false).seq AC.ret))))
def rs_change_formed : List RV := [.t 2]
theorem c_change_formed : compile Try.prog (Go.Func.ntmps Try.f109) (Try.f109.body.getD .skip) = some ac_change_formed := by kernel_rfl
theorem go_change_formed {xs : List V} {bx bx' : U} {r : V} {ns : List O} (hxs : decide (xs.length ≤ Go.Func.ntmps Try.f109) = true) (hbx : BxOK bx bx') (h : ∀ cx : Cx, cx.m0 = ups M0 bx → Awp Try.prog cx ac_change_formed (RetE rs_change_formed r bx' ns) ⟨tl (idx 0 xs), ups M0 bx⟩) : Does Try.prog 109 xs bx r bx' ns :=
  does_of Try.func109 (by kernel_rfl : Try.f109.body = some (Try.f109.body.getD .skip)) rfl c_change_formed (by kernel_rfl) (of_decide_eq_true hxs) hbx fun cx _ hm => h cx hm
def ac_change_behind : AC :=
  (AC.region [⟨some 2, .box, [.t 0], [], none⟩, ⟨some 4, .mov, [ci 0], [], none⟩] false).seq
  ((AC.region [⟨some 5, .mov, [ci 0], [], none⟩] false).seq
  (((AC.region [⟨some 8, .fad 3, [.t 2], [], none⟩, ⟨some 9, .load 1 false, [.t 8], [0], none⟩, ⟨some 10, .len, [.t 9], [1], none⟩, ⟨some 11, .mov, [ci 0], [], none⟩] false).seq
  (AC.block 0 ((AC.region [⟨some 12, .bin .lss, [.t 11, .t 10], [], none⟩] false).seq
  ((AC.cond (.t 12) AC.skip (AC.exit 0)).seq
  ((AC.block 1 ((AC.region [⟨some 13, .iad 2, [.t 9, .t 11], [], none⟩, ⟨some 14, .load 2 true, [.t 13], [0], none⟩, ⟨some 7, .alloc [I 0, V.nl 1], [], [], none⟩, ⟨none, .store 2, [.t 7, .t 14], [2, 1, 0, 1, 2], none⟩] false).seq
  ((AC.region [⟨some 15, .fad 0, [.t 7], [], none⟩, ⟨some 16, .load 1 false, [.t 15], [0], none⟩, ⟨some 17, .mov, [.t 1], [], none⟩, ⟨some 18, .bin .geq, [.t 16, .t 17], [1, 2], none⟩] false).seq
  (AC.cond (.t 18) (AC.region [⟨some 19, .mov, [.t 5], [], none⟩, ⟨some 20, .bin .add, [.t 19, ci 1], [0], none⟩, ⟨some 5, .mov, [.t 20], [1, 0, 1], none⟩] false) AC.skip)))).seq
  (AC.region [⟨some 21, .bin .add, [.t 11, ci 1], [], none⟩, ⟨some 11, .mov, [.t 21], [0], none⟩] false)))).loop)).seq
  ((AC.region [⟨some 22, .mov, [.t 5], [], none⟩, ⟨some 4, .mov, [.t 22], [0, 0], none⟩] false).seq AC.ret)))
def rs_change_behind : List RV := [.t 4]
theorem c_change_behind : compile Try.prog (Go.Func.ntmps Try.f110) (Try.f110.body.getD .skip) = some ac_change_behind := by kernel_rfl
theorem go_change_behind {xs : List V} {bx bx' : U} {r : V} {ns : List O} (hxs : decide (xs.length ≤ Go.Func.ntmps Try.f110) = true) (hbx : BxOK bx bx') (h : ∀ cx : Cx, cx.m0 = ups M0 bx → Awp Try.prog cx ac_change_behind (RetE rs_change_behind r bx' ns) ⟨tl (idx 0 xs), ups M0 bx⟩) : Does Try.prog 110 xs bx r bx' ns :=
  does_of Try.func110 (by kernel_rfl : Try.f110.body = some (Try.f110.body.getD .skip)) rfl c_change_behind (by kernel_rfl) (of_decide_eq_true hxs) hbx fun cx _ hm => h cx hm
def ac_slices_ContainsFunc_int_int : AC :=
  (AC.region [⟨some 4, .mov, [cb false], [], none⟩] false).seq
  ((AC.region [⟨some 5, .mov, [.t 0], [], none⟩, ⟨some 6, .mov, [.t 1], [], none⟩, ⟨some 7, .call 121, [.t 5, .t 6], [0, 1], none⟩, ⟨some 8, .bin .geq, [.t 7, ci 0], [2], none⟩, ⟨some 4, .mov, [.t 8], [3, 2, 0, 1, 2, 3], none⟩] false).seq AC.ret)
def rs_slices_ContainsFunc_int_int : List RV := [.t 4]
theorem c_slices_ContainsFunc_int_int : compile Try.prog (Go.Func.ntmps Try.f112) (Try.f112.body.getD .skip) = some ac_slices_ContainsFunc_int_int := by kernel_rfl
theorem go_slices_ContainsFunc_int_int {xs : List V} {bx bx' : U} {r : V} {ns : List O} (hxs : decide (xs.length ≤ Go.Func.ntmps Try.f112) = true) (hbx : BxOK bx bx') (h : ∀ cx : Cx, cx.m0 = ups M0 bx → Awp Try.prog cx ac_slices_ContainsFunc_int_int (RetE rs_slices_ContainsFunc_int_int r bx' ns) ⟨tl (idx 0 xs), ups M0 bx⟩) : Does Try.prog 112 xs bx r bx' ns :=
  does_of Try.func112 (by kernel_rfl : Try.f112.body = some (Try.f112.body.getD .skip)) rfl c_slices_ContainsFunc_int_int (by kernel_rfl) (of_decide_eq_true hxs) hbx fun cx _ hm => h cx hm
def ac_residue_Field_All_1 : AC :=
  (AC.region [⟨some 3, .mov, [cb false], [], none⟩] false).seq
  ((AC.region [⟨some 4, .load 1 false, [.t 1], [], none⟩, ⟨some 5, .mov, [.t 0], [], none⟩, ⟨some 6, .call 98, [.t 4, .t 5], [0, 1], none⟩, ⟨some 7, .un .not, [.t 6], [2], none⟩, ⟨some 3, .mov, [.t 7], [3, 2, 0, 1, 2, 3], none⟩] false).seq AC.ret)
def rs_residue_Field_All_1 : List RV := [.t 3]
theorem c_residue_Field_All_1 : compile Try.prog (Go.Func.ntmps Try.f113) (Try.f113.body.getD .skip) = some ac_residue_Field_All_1 := by kernel_rfl
theorem go_residue_Field_All_1 {xs : List V} {bx bx' : U} {r : V} {ns : List O} (hxs : decide (xs.length ≤ Go.Func.ntmps Try.f113) = true) (hbx : BxOK bx bx') (h : ∀ cx : Cx, cx.m0 = ups M0 bx → Awp Try.prog cx ac_residue_Field_All_1 (RetE rs_residue_Field_All_1 r bx' ns) ⟨tl (idx 0 xs), ups M0 bx⟩) : Does Try.prog 113 xs bx r bx' ns :=
  does_of Try.func113 (by kernel_rfl : Try.f113.body = some (Try.f113.body.getD .skip)) rfl c_residue_Field_All_1 (by kernel_rfl) (of_decide_eq_true hxs) hbx fun cx _ hm => h cx hm
def ac_ref11_Node : AC :=
  (AC.region [⟨some 4, .mov, [ci 0], [], none⟩] false).seq
  ((AC.region [⟨some 5, .mov, [.t 0], [], none⟩, ⟨some 6, .call 105, [.t 5], [0], none⟩, ⟨some 7, .bin .mul, [.t 6, ci 1000003], [1], none⟩, ⟨some 8, .mov, [.t 1], [], none⟩, ⟨some 9, .call 105, [.t 8], [3, 1], none⟩, ⟨some 10, .bin .add, [.t 7, .t 9], [2, 4], none⟩, ⟨some 11, .bin .add, [.t 10, ci 3], [5], none⟩, ⟨some 12, .bin .rem, [.t 11, ci 2147483647], [6], none⟩, ⟨some 4, .mov, [.t 12], [7, 4, 0, 1, 2, 3, 4, 5, 6, 7], none⟩] false).seq AC.ret)
def rs_ref11_Node : List RV := [.t 4]
theorem c_ref11_Node : compile Try.prog (Go.Func.ntmps Try.f118) (Try.f118.body.getD .skip) = some ac_ref11_Node := by kernel_rfl
theorem go_ref11_Node {xs : List V} {bx bx' : U} {r : V} {ns : List O} (hxs : decide (xs.length ≤ Go.Func.ntmps Try.f118) = true) (hbx : BxOK bx bx') (h : ∀ cx : Cx, cx.m0 = ups M0 bx → Awp Try.prog cx ac_ref11_Node (RetE rs_ref11_Node r bx' ns) ⟨tl (idx 0 xs), ups M0 bx⟩) : Does Try.prog 118 xs bx r bx' ns :=
  does_of Try.func118 (by kernel_rfl : Try.f118.body = some (Try.f118.body.getD .skip)) rfl c_ref11_Node (by kernel_rfl) (of_decide_eq_true hxs) hbx fun cx _ hm => h cx hm
def ac_change_numbered : AC :=
  (AC.region [⟨some 2, .mov, [cb false], [], none⟩] false).seq
  ((AC.region [⟨some 3, .mov, [.t 0], [], none⟩, ⟨some 4, .bin .geq, [.t 3, ci 1], [0], none⟩, ⟨some 5, .mov, [.t 4], [1], none⟩, ⟨some 6, .mov, [.t 0], [2], some (2, 5, true)⟩, ⟨some 7, .bin .lss, [.t 6, ci 2147483647], [3, 2], some (2, 5, true)⟩, ⟨some 8, .pick, [.t 5, .t 7, cb false], [2, 4], none⟩, ⟨some 2, .mov, [.t 8], [5, 2, 0, 1, 2, 3, 4, 5], none⟩] false).seq AC.ret)
def rs_change_numbered : List RV := [.t 2]
theorem c_change_numbered : compile Try.prog (Go.Func.ntmps Try.f119) (Try.f119.body.getD .skip) = some ac_change_numbered := by kernel_rfl
theorem go_change_numbered {xs : List V} {bx bx' : U} {r : V} {ns : List O} (hxs : decide (xs.length ≤ Go.Func.ntmps Try.f119) = true) (hbx : BxOK bx bx') (h : ∀ cx : Cx, cx.m0 = ups M0 bx → Awp Try.prog cx ac_change_numbered (RetE rs_change_numbered r bx' ns) ⟨tl (idx 0 xs), ups M0 bx⟩) : Does Try.prog 119 xs bx r bx' ns :=
  does_of Try.func119 (by kernel_rfl : Try.f119.body = some (Try.f119.body.getD .skip)) rfl c_change_numbered (by kernel_rfl) (of_decide_eq_true hxs) hbx fun cx _ hm => h cx hm
def ac_slices_IndexFunc_int_int : AC :=
  (AC.region [⟨some 4, .mov, [ci 0], [], none⟩] false).seq
  (((AC.region [⟨some 6, .mov, [.t 0], [], none⟩, ⟨some 7, .len, [.t 6], [0], none⟩, ⟨some 8, .mov, [ci 0], [], none⟩] false).seq
  (AC.block 0 ((AC.region [⟨some 9, .bin .lss, [.t 8, .t 7], [], none⟩] false).seq
  ((AC.cond (.t 9) AC.skip (AC.exit 0)).seq
  ((AC.block 1 ((AC.region [⟨some 10, .mov, [.t 8], [], none⟩, ⟨some 5, .mov, [.t 10], [0, 0], none⟩] false).seq
  ((AC.region [⟨some 11, .mov, [.t 1], [], none⟩, ⟨some 12, .mov, [.t 0], [], none⟩, ⟨some 13, .mov, [.t 5], [], none⟩, ⟨some 14, .iad 1, [.t 12, .t 13], [1, 2], none⟩, ⟨some 15, .load 1 false, [.t 14], [3], none⟩, ⟨some 16, .callv, [.t 11, .t 15], [0, 4], none⟩] false).seq
  (AC.cond (.t 16) ((AC.region [⟨some 17, .mov, [.t 5], [], none⟩, ⟨some 4, .mov, [.t 17], [0, 0], none⟩] false).seq AC.ret) AC.skip)))).seq
  (AC.region [⟨some 18, .bin .add, [.t 8, ci 1], [], none⟩, ⟨some 8, .mov, [.t 18], [0], none⟩] false)))).loop)).seq
  ((AC.region [⟨some 4, .mov, [ci (-1)], [], none⟩] false).seq AC.ret))
def rs_slices_IndexFunc_int_int : List RV := [.t 4]
theorem c_slices_IndexFunc_int_int : compile Try.prog (Go.Func.ntmps Try.f121) (Try.f121.body.getD .skip) = some ac_slices_IndexFunc_int_int := by kernel_rfl
theorem go_slices_IndexFunc_int_int {xs : List V} {bx bx' : U} {r : V} {ns : List O} (hxs : decide (xs.length ≤ Go.Func.ntmps Try.f121) = true) (hbx : BxOK bx bx') (h : ∀ cx : Cx, cx.m0 = ups M0 bx → Awp Try.prog cx ac_slices_IndexFunc_int_int (RetE rs_slices_IndexFunc_int_int r bx' ns) ⟨tl (idx 0 xs), ups M0 bx⟩) : Does Try.prog 121 xs bx r bx' ns :=
  does_of Try.func121 (by kernel_rfl : Try.f121.body = some (Try.f121.body.getD .skip)) rfl c_slices_IndexFunc_int_int (by kernel_rfl) (of_decide_eq_true hxs) hbx fun cx _ hm => h cx hm
end Go.Proofs.Ytilkjcobkdjlkaa.Sim
