/- Functions of the program, as the walk has them. -/
import Derived.Test.YtihjmnhjjpdenaaMSimZ
import Derived.Test.YtihjmnhjjpdenaaProg
import Derived.ProofKit
namespace Go.Proofs.Ytihjmnhjjpdenaa.Sim
open Go
set_option maxRecDepth 100000
def ac_play_New : AC :=
  (AC.region [⟨some 2, .mov, [AV.c (V.d (D.at (Value.pointer none)))], [], none⟩] false).seq
  (((AC.region [⟨some 3, .mov, [.t 0], [], none⟩, ⟨some 4, .len, [.t 3], [0], none⟩, ⟨some 5, .bin .gtr, [.t 4, ci 300], [1], none⟩] false).seq
  (AC.cond (.t 5) (AC.region [⟨some 6, .mov, [.t 0], [], none⟩, ⟨some 7, .slc false true false 1, [.t 6, ci 300], [0], none⟩, ⟨some 0, .mov, [.t 7], [1, 0, 1], none⟩] false) AC.skip)).seq
  ((AC.region [⟨some 8, .mov, [.t 0], [], none⟩, ⟨some 9, .build [V.nl 1, I 0] [(0, 1)], [.t 8], [0], none⟩, ⟨some 10, .box, [.t 9], [1], none⟩, ⟨some 2, .mov, [.t 10], [2, 0, 1, 2], none⟩] false).seq AC.ret))
def rs_play_New : List RV := [.t 2]
theorem c_play_New : compile Try.prog (Go.Func.ntmps Try.f7) (Try.f7.body.getD .skip) = some ac_play_New := by kernel_rfl
theorem go_play_New {xs : List V} {bx bx' : U} {r : V} {ns : List O} (hxs : decide (xs.length ≤ Go.Func.ntmps Try.f7) = true) (hbx : BxOK bx bx') (h : ∀ cx : Cx, cx.m0 = ups M0 bx → Awp Try.prog cx ac_play_New (RetE rs_play_New r bx' ns) ⟨tl (idx 0 xs), ups M0 bx⟩) : Does Try.prog 7 xs bx r bx' ns :=
  does_of Try.func7 (by kernel_rfl : Try.f7.body = some (Try.f7.body.getD .skip)) rfl c_play_New (by kernel_rfl) (of_decide_eq_true hxs) hbx fun cx _ hm => h cx hm
def ac_play_Dice_Pick : AC :=
  (AC.region [⟨some 4, .mov, [ci 0], [], none⟩] false).seq
  (((AC.region [⟨some 5, .mov, [.t 0], [], none⟩, ⟨some 6, .nck, [.t 5], [0], none⟩, ⟨some 7, .fad 1, [.t 6], [1], none⟩, ⟨some 8, .load 1 false, [.t 7], [2], none⟩, ⟨some 9, .mov, [.t 0], [], none⟩, ⟨some 10, .nck, [.t 9], [4], none⟩, ⟨some 11, .fad 0, [.t 10], [5], none⟩, ⟨some 12, .load 1 false, [.t 11], [6], none⟩, ⟨some 13, .len, [.t 12], [7], none⟩, ⟨some 14, .bin .geq, [.t 8, .t 13], [3, 8], none⟩] true).seq
  (AC.cond (.t 14) ((AC.region [⟨some 4, .mov, [ci 0], [], none⟩] false).seq AC.ret) AC.skip)).seq
  ((AC.region [⟨some 15, .mov, [.t 0], [], none⟩, ⟨some 16, .nck, [.t 15], [0], none⟩, ⟨some 17, .fad 1, [.t 16], [1], none⟩, ⟨some 18, .load 1 false, [.t 17], [2], none⟩, ⟨some 19, .bin .add, [.t 18, ci 1], [3], none⟩, ⟨some 20, .nck, [.t 15], [0, 0, 1, 2, 3, 4], none⟩, ⟨some 21, .fad 1, [.t 20], [5, 0, 1, 2, 3, 4], none⟩, ⟨none, .store 1, [.t 21, .t 19], [6, 4, 0, 1, 2, 3, 4], none⟩] false).seq
  ((AC.region [⟨some 22, .mov, [.t 0], [], none⟩, ⟨some 23, .nck, [.t 22], [0], none⟩, ⟨some 24, .fad 0, [.t 23], [1], none⟩, ⟨some 25, .load 1 false, [.t 24], [2], none⟩, ⟨some 26, .mov, [.t 0], [], none⟩, ⟨some 27, .nck, [.t 26], [4], none⟩, ⟨some 28, .fad 1, [.t 27], [5], none⟩, ⟨some 29, .load 1 false, [.t 28], [6], none⟩, ⟨some 30, .bin .sub, [.t 29, ci 1], [7], none⟩, ⟨some 31, .iad 1, [.t 25, .t 30], [3, 8], none⟩, ⟨some 32, .load 1 false, [.t 31], [9], none⟩, ⟨some 33, .conv .i64, [.t 32], [10], none⟩, ⟨some 34, .mov, [.t 1], [], none⟩, ⟨some 35, .bin .rem, [.t 33, .t 34], [11, 12], none⟩, ⟨some 4, .mov, [.t 35], [13, 0, 1, 2, 3, 4, 5, 6, 7, 8, 9, 10, 11, 12, 13], none⟩] true).seq AC.ret)))
def rs_play_Dice_Pick : List RV := [.t 4]
theorem c_play_Dice_Pick : compile Try.prog (Go.Func.ntmps Try.f9) (Try.f9.body.getD .skip) = some ac_play_Dice_Pick := by kernel_rfl
theorem go_play_Dice_Pick {xs : List V} {bx bx' : U} {r : V} {ns : List O} (hxs : decide (xs.length ≤ Go.Func.ntmps Try.f9) = true) (hbx : BxOK bx bx') (h : ∀ cx : Cx, cx.m0 = ups M0 bx → Awp Try.prog cx ac_play_Dice_Pick (RetE rs_play_Dice_Pick r bx' ns) ⟨tl (idx 0 xs), ups M0 bx⟩) : Does Try.prog 9 xs bx r bx' ns :=
  does_of Try.func9 (by kernel_rfl : Try.f9.body = some (Try.f9.body.getD .skip)) rfl c_play_Dice_Pick (by kernel_rfl) (of_decide_eq_true hxs) hbx fun cx _ hm => h cx hm
def ac_play_Dice_Scheme : AC :=
  (AC.region [⟨some 2, .alloc [I 0, I 0, I 0, I 0], [], [], none⟩] false).seq
  ((AC.region [⟨some 4, .mov, [.t 0], [], none⟩, ⟨some 5, .call 9, [.t 4, ci 4], [0], none⟩, ⟨some 6, .bin .add, [ci 3, .t 5], [1], none⟩, ⟨some 3, .mov, [.t 6], [2, 1, 0, 1, 2], none⟩] false).seq
  (((AC.region [⟨some 7, .mov, [.t 0], [], none⟩, ⟨some 8, .call 9, [.t 7, ci 3], [0], none⟩] false).seq
  (AC.block 0 ((AC.region [⟨some 10, .bin .eql, [.t 8, ci 0], [], none⟩, ⟨some 9, .mov, [.t 10], [0], none⟩] false).seq
  (AC.cond (.t 9) ((AC.region [⟨some 11, .mov, [.t 3], [], none⟩, ⟨some 12, .build [I 0, I 0, I 0, I 0] [(0, 1), (1, 1)], [ci 1, .t 11], [0], none⟩, ⟨none, .store 4, [.t 2, .t 12], [1, 0, 1], none⟩] false).seq AC.ret) ((AC.region [⟨some 14, .bin .eql, [.t 8, ci 1], [], none⟩, ⟨some 13, .mov, [.t 14], [0], none⟩] false).seq
  (AC.cond (.t 13) ((AC.region [⟨some 15, .mov, [.t 3], [], none⟩, ⟨some 16, .mov, [.t 0], [], none⟩, ⟨some 17, .call 9, [.t 16, ci 2], [1], none⟩, ⟨some 18, .bin .add, [ci 1, .t 17], [2], none⟩, ⟨some 19, .build [I 0, I 0, I 0, I 0] [(0, 1), (1, 1), (2, 1)], [ci 2, .t 15, .t 18], [0, 3], none⟩, ⟨none, .store 4, [.t 2, .t 19], [4, 2, 0, 1, 2, 3, 4], none⟩] false).seq AC.ret) AC.skip)))))).seq
  (((AC.region [⟨some 20, .mov, [.t 3], [], none⟩, ⟨some 21, .bin .lss, [.t 20, ci 4], [0], none⟩, ⟨some 22, .mov, [.t 21], [1], none⟩, ⟨some 23, .mov, [.t 0], [2], some (2, 22, false)⟩, ⟨some 24, .call 9, [.t 23, ci 2], [3, 2, 2], some (2, 22, false)⟩, ⟨some 25, .bin .eql, [.t 24, ci 0], [4, 2], some (2, 22, false)⟩, ⟨some 26, .pick, [.t 22, cb true, .t 25], [2, 5], none⟩] false).seq
  (AC.cond (.t 26) ((AC.region [⟨some 27, .mov, [.t 3], [], none⟩, ⟨some 28, .mov, [.t 0], [], none⟩, ⟨some 29, .call 9, [.t 28, ci 2], [1], none⟩, ⟨some 30, .bin .add, [ci 1, .t 29], [2], none⟩, ⟨some 31, .build [I 0, I 0, I 0, I 0] [(0, 1), (1, 1), (2, 1), (3, 1)], [ci 3, .t 27, .t 30, ci 1], [0, 3], none⟩, ⟨none, .store 4, [.t 2, .t 31], [4, 2, 0, 1, 2, 3, 4], none⟩] false).seq AC.ret) AC.skip)).seq
  ((AC.region [⟨some 32, .mov, [.t 3], [], none⟩, ⟨some 33, .build [I 0, I 0, I 0, I 0] [(0, 1), (1, 1), (2, 1), (3, 1)], [ci 3, .t 32, ci 1, ci 2], [0], none⟩, ⟨none, .store 4, [.t 2, .t 33], [1, 0, 1], none⟩] false).seq AC.ret))))
def rs_play_Dice_Scheme : List RV := [.c 2 4 true]
theorem c_play_Dice_Scheme : compile Try.prog (Go.Func.ntmps Try.f21) (Try.f21.body.getD .skip) = some ac_play_Dice_Scheme := by kernel_rfl
theorem go_play_Dice_Scheme {xs : List V} {bx bx' : U} {r : V} {ns : List O} (hxs : decide (xs.length ≤ Go.Func.ntmps Try.f21) = true) (hbx : BxOK bx bx') (h : ∀ cx : Cx, cx.m0 = ups M0 bx → Awp Try.prog cx ac_play_Dice_Scheme (RetE rs_play_Dice_Scheme r bx' ns) ⟨tl (idx 0 xs), ups M0 bx⟩) : Does Try.prog 21 xs bx r bx' ns :=
  does_of Try.func21 (by kernel_rfl : Try.f21.body = some (Try.f21.body.getD .skip)) rfl c_play_Dice_Scheme (by kernel_rfl) (of_decide_eq_true hxs) hbx fun cx _ hm => h cx hm
def ac_play_Dice_Field : AC :=
  (AC.region [⟨some 2, .alloc [I 0], [], [], none⟩] false).seq
  ((AC.region [⟨some 3, .bsl 1 [I 0] 4 [0, 1, 2, 3], [ci 7, ci 11, ci 13, ci 257], [], none⟩, ⟨some 4, .mov, [.t 0], [], none⟩, ⟨some 5, .call 9, [.t 4, ci 4], [1], none⟩, ⟨some 6, .iad 1, [.t 3, .t 5], [0, 2], none⟩, ⟨some 7, .load 1 false, [.t 6], [3], none⟩, ⟨some 8, .build [I 0] [(0, 1)], [.t 7], [4], none⟩, ⟨none, .store 1, [.t 2, .t 8], [5, 2, 0, 1, 2, 3, 4, 5], none⟩] false).seq AC.ret)
def rs_play_Dice_Field : List RV := [.c 2 1 true]
theorem c_play_Dice_Field : compile Try.prog (Go.Func.ntmps Try.f22) (Try.f22.body.getD .skip) = some ac_play_Dice_Field := by kernel_rfl
theorem go_play_Dice_Field {xs : List V} {bx bx' : U} {r : V} {ns : List O} (hxs : decide (xs.length ≤ Go.Func.ntmps Try.f22) = true) (hbx : BxOK bx bx') (h : ∀ cx : Cx, cx.m0 = ups M0 bx → Awp Try.prog cx ac_play_Dice_Field (RetE rs_play_Dice_Field r bx' ns) ⟨tl (idx 0 xs), ups M0 bx⟩) : Does Try.prog 22 xs bx r bx' ns :=
  does_of Try.func22 (by kernel_rfl : Try.f22.body = some (Try.f22.body.getD .skip)) rfl c_play_Dice_Field (by kernel_rfl) (of_decide_eq_true hxs) hbx fun cx _ hm => h cx hm
def ac_play_Dice_Wish : AC :=
  (AC.region [⟨some 4, .mov, [AV.c (V.nl 1)], [], none⟩] false).seq
  ((AC.region [⟨some 5, .mov, [AV.c (V.nl 1)], [], none⟩] false).seq
  (((AC.region [⟨some 7, .mov, [.t 0], [], none⟩, ⟨some 8, .call 9, [.t 7, ci 3], [0], none⟩, ⟨some 9, .bin .add, [ci 1, .t 8], [1], none⟩, ⟨some 6, .mov, [.t 9], [2, 1, 0, 1, 2], none⟩] false).seq
  (AC.block 0 (((AC.region [⟨some 10, .mov, [.t 6], [], none⟩, ⟨some 11, .bin .gtr, [.t 10, ci 0], [0], none⟩] false).seq
  (AC.cond (.t 11) AC.skip (AC.exit 0))).seq
  ((AC.block 1 (AC.region [⟨some 14, .mov, [.t 5], [], none⟩, ⟨some 15, .mov, [.t 0], [], none⟩, ⟨some 16, .mov, [.t 1], [], none⟩, ⟨some 17, .bin .add, [.t 16, ci 1], [2], none⟩, ⟨some 18, .call 9, [.t 15, .t 17], [1, 3], none⟩, ⟨some 19, .bin .sub, [.t 18, ci 1], [4], none⟩, ⟨some 20, .bsl 1 [I 0] 1 [0], [.t 19], [5], none⟩, ⟨some 21, .app 1 8, [.t 14, .t 20], [0, 6, 4], none⟩, ⟨some 5, .mov, [.t 21], [7, 7, 0, 1, 2, 3, 4, 5, 6, 7], none⟩] false)).seq
  (AC.region [⟨some 12, .mov, [.t 6], [], none⟩, ⟨some 13, .bin .sub, [.t 12, ci 1], [0], none⟩, ⟨some 6, .mov, [.t 13], [1, 0, 1], none⟩] false))).loop)).seq
  ((AC.region [⟨some 22, .mov, [.t 5], [], none⟩, ⟨some 4, .mov, [.t 22], [0, 0], none⟩] false).seq AC.ret)))
def rs_play_Dice_Wish : List RV := [.t 4]
theorem c_play_Dice_Wish : compile Try.prog (Go.Func.ntmps Try.f23) (Try.f23.body.getD .skip) = some ac_play_Dice_Wish := by kernel_rfl
theorem go_play_Dice_Wish {xs : List V} {bx bx' : U} {r : V} {ns : List O} (hxs : decide (xs.length ≤ Go.Func.ntmps Try.f23) = true) (hbx : BxOK bx bx') (h : ∀ cx : Cx, cx.m0 = ups M0 bx → Awp Try.prog cx ac_play_Dice_Wish (RetE rs_play_Dice_Wish r bx' ns) ⟨tl (idx 0 xs), ups M0 bx⟩) : Does Try.prog 23 xs bx r bx' ns :=
  does_of Try.func23 (by kernel_rfl : Try.f23.body = some (Try.f23.body.getD .skip)) rfl c_play_Dice_Wish (by kernel_rfl) (of_decide_eq_true hxs) hbx fun cx _ hm => h cx hm
def ac_play_Dice_Tape : AC :=
  (AC.region [⟨some 4, .alloc [V.nl 1, I 0], [], [], none⟩] false).seq
  ((AC.region [⟨some 5, .alloc [V.nl 1, I 0], [], [], none⟩] false).seq
  (((AC.region [⟨some 6, .mov, [ci 0], [], none⟩] false).seq
  (AC.block 0 (((AC.region [⟨some 7, .mov, [.t 6], [], none⟩, ⟨some 8, .mov, [.t 1], [], none⟩, ⟨some 9, .len, [.t 8], [1], none⟩, ⟨some 10, .bin .lss, [.t 7, .t 9], [0, 2], none⟩] false).seq
  (AC.cond (.t 10) AC.skip (AC.exit 0))).seq
  ((AC.block 1 (AC.region [⟨some 13, .fad 0, [.t 5], [], none⟩, ⟨some 14, .load 1 false, [.t 13], [0], none⟩, ⟨some 15, .mov, [.t 0], [], none⟩, ⟨some 16, .call 9, [.t 15, ci 256], [2], none⟩, ⟨some 17, .mov, [.t 6], [], none⟩, ⟨some 18, .bin .mul, [ci 7, .t 17], [4], none⟩, ⟨some 19, .mov, [.t 0], [], none⟩, ⟨some 20, .call 9, [.t 19, ci 5], [6, 3], none⟩, ⟨some 21, .bin .mul, [.t 18, .t 20], [5, 7], none⟩, ⟨some 22, .bin .add, [.t 16, .t 21], [3, 8], none⟩, ⟨some 23, .mov, [.t 1], [], none⟩, ⟨some 24, .mov, [.t 6], [], none⟩, ⟨some 25, .iad 1, [.t 23, .t 24], [10, 11], none⟩, ⟨some 26, .load 1 false, [.t 25], [12], none⟩, ⟨some 27, .bin .rem, [.t 22, .t 26], [9, 13], none⟩, ⟨some 28, .bsl 1 [I 0] 1 [0], [.t 27], [14], none⟩, ⟨some 29, .app 1 8, [.t 14, .t 28], [1, 15, 7], none⟩, ⟨some 30, .fad 0, [.t 5], [0, 1, 2, 3, 4, 5, 6, 7, 8, 9, 10, 11, 12, 13, 14, 15, 16], none⟩, ⟨none, .store 1, [.t 30, .t 29], [17, 16, 16, 0, 1, 2, 3, 4, 5, 6, 7, 8, 9, 10, 11, 12, 13, 14, 15, 16], none⟩] true)).seq
  (AC.region [⟨some 11, .mov, [.t 6], [], none⟩, ⟨some 12, .bin .add, [.t 11, ci 1], [0], none⟩, ⟨some 6, .mov, [.t 12], [1, 0, 1], none⟩] false))).loop)).seq
  ((AC.region [⟨some 31, .load 2 true, [.t 5], [], none⟩, ⟨none, .store 2, [.t 4, .t 31], [0, 0], none⟩] false).seq AC.ret)))
def rs_play_Dice_Tape : List RV := [.c 4 2 true]
theorem c_play_Dice_Tape : compile Try.prog (Go.Func.ntmps Try.f26) (Try.f26.body.getD .skip) = some ac_play_Dice_Tape := by kernel_rfl
theorem go_play_Dice_Tape {xs : List V} {bx bx' : U} {r : V} {ns : List O} (hxs : decide (xs.length ≤ Go.Func.ntmps Try.f26) = true) (hbx : BxOK bx bx') (h : ∀ cx : Cx, cx.m0 = ups M0 bx → Awp Try.prog cx ac_play_Dice_Tape (RetE rs_play_Dice_Tape r bx' ns) ⟨tl (idx 0 xs), ups M0 bx⟩) : Does Try.prog 26 xs bx r bx' ns :=
  does_of Try.func26 (by kernel_rfl : Try.f26.body = some (Try.f26.body.getD .skip)) rfl c_play_Dice_Tape (by kernel_rfl) (of_decide_eq_true hxs) hbx fun cx _ hm => h cx hm
def ac_ref24_Limits : AC :=
  (AC.region [⟨some 4, .box, [.t 0], [], none⟩, ⟨some 5, .box, [.t 1], [], none⟩, ⟨some 8, .mov, [AV.c (V.nl 1)], [], none⟩, ⟨some 9, .mov, [ci 0], [2], none⟩] false).seq
  (((AC.region [⟨some 14, .load 4 true, [.t 4], [], none⟩, ⟨some 15, .load 1 true, [.t 5], [], none⟩, ⟨some 16, .call 43, [.t 14, .t 15], [0, 1], none⟩, ⟨some 17, .un .not, [.t 16], [2], none⟩] false).seq
  (AC.cond (.t 17) ((AC.region [⟨some 8, .mov, [AV.c (V.nl 1)], [], none⟩, ⟨some 9, .mov, [ci 40], [0, 0], none⟩] false).seq AC.ret) AC.skip)).seq
  (((AC.region [⟨some 18, .mov, [.t 3], [], none⟩, ⟨some 19, .bin .lss, [.t 18, ci 1], [0], none⟩, ⟨some 20, .mov, [.t 19], [1], none⟩, ⟨some 21, .mov, [.t 3], [2], some (2, 20, false)⟩, ⟨some 22, .bin .gtr, [.t 21, ci 16], [3, 2], some (2, 20, false)⟩, ⟨some 23, .pick, [.t 20, cb true, .t 22], [2, 4], none⟩, ⟨some 24, .mov, [.t 23], [5, 2], none⟩, ⟨some 25, .mov, [.t 2], [6], some (6, 24, false)⟩, ⟨some 26, .bin .lss, [.t 25, ci 1], [7, 6], some (6, 24, false)⟩, ⟨some 27, .pick, [.t 24, cb true, .t 26], [6, 8], none⟩, ⟨some 28, .mov, [.t 27], [9, 6], none⟩, ⟨some 29, .mov, [.t 2], [10], some (10, 28, false)⟩, ⟨some 30, .bin .gtr, [.t 29, ci 1024], [11, 10], some (10, 28, false)⟩, ⟨some 31, .pick, [.t 28, cb true, .t 30], [10, 12], none⟩] false).seq
  (AC.cond (.t 31) ((AC.region [⟨some 8, .mov, [AV.c (V.nl 1)], [], none⟩, ⟨some 9, .mov, [ci 41], [0, 0], none⟩] false).seq AC.ret) AC.skip)).seq
  ((AC.region [⟨some 10, .mov, [AV.c (V.nl 1)], [], none⟩] false).seq
  (((AC.region [⟨some 11, .mov, [ci 0], [], none⟩] false).seq
  (AC.block 0 (((AC.region [⟨some 32, .mov, [.t 11], [], none⟩, ⟨some 33, .mov, [.t 3], [], none⟩, ⟨some 34, .bin .lss, [.t 32, .t 33], [0, 1], none⟩] false).seq
  (AC.cond (.t 34) AC.skip (AC.exit 0))).seq
  ((AC.block 1 ((AC.region [⟨some 38, .load 4 true, [.t 4], [], none⟩, ⟨some 39, .load 1 true, [.t 5], [], none⟩, ⟨some 40, .mov, [.t 2], [], none⟩, ⟨some 41, .call 44, [.t 38, .t 39, .t 40], [0, 1, 2], none⟩, ⟨some 37, .mov, [.t 41], [3], none⟩, ⟨some 42, .ext 0, [.t 37], [4], none⟩, ⟨some 43, .ext 1, [.t 37], [4], none⟩, ⟨some 12, .mov, [.t 42], [5, 3, 0, 1, 2, 3, 4, 5], none⟩, ⟨some 13, .mov, [.t 43], [6, 7, 0, 1, 2, 3, 4, 5, 6, 7], none⟩] false).seq
  (((AC.region [⟨some 44, .mov, [.t 13], [], none⟩, ⟨some 45, .bin .neq, [.t 44, ci 0], [0], none⟩] false).seq
  (AC.cond (.t 45) ((AC.region [⟨some 46, .mov, [.t 13], [], none⟩, ⟨some 8, .mov, [AV.c (V.nl 1)], [], none⟩, ⟨some 9, .mov, [.t 46], [0, 1, 0, 1], none⟩] false).seq AC.ret) AC.skip)).seq
  (AC.region [⟨some 47, .mov, [.t 10], [], none⟩, ⟨some 48, .mov, [.t 12], [], none⟩, ⟨some 49, .app 1 8, [.t 47, .t 48], [0, 1], none⟩, ⟨some 10, .mov, [.t 49], [2, 2, 0, 1, 2], none⟩] false)))).seq
  (AC.region [⟨some 35, .mov, [.t 11], [], none⟩, ⟨some 36, .bin .add, [.t 35, ci 1], [0], none⟩, ⟨some 11, .mov, [.t 36], [1, 0, 1], none⟩] false))).loop)).seq
  ((AC.region [⟨some 50, .mov, [.t 10], [], none⟩, ⟨some 8, .mov, [.t 50], [0, 0], none⟩, ⟨some 9, .mov, [ci 0], [1, 0, 1], none⟩] false).seq AC.ret)))))
def rs_ref24_Limits : List RV := [.t 8, .t 9]
theorem c_ref24_Limits : compile Try.prog (Go.Func.ntmps Try.f24) (Try.f24.body.getD .skip) = some ac_ref24_Limits := by kernel_rfl
theorem go_ref24_Limits {xs : List V} {bx bx' : U} {r : V} {ns : List O} (hxs : decide (xs.length ≤ Go.Func.ntmps Try.f24) = true) (hbx : BxOK bx bx') (h : ∀ cx : Cx, cx.m0 = ups M0 bx → Awp Try.prog cx ac_ref24_Limits (RetE rs_ref24_Limits r bx' ns) ⟨tl (idx 0 xs), ups M0 bx⟩) : Does Try.prog 24 xs bx r bx' ns :=
  does_of Try.func24 (by kernel_rfl : Try.f24.body = some (Try.f24.body.getD .skip)) rfl c_ref24_Limits (by kernel_rfl) (of_decide_eq_true hxs) hbx fun cx _ hm => h cx hm
def ac_ref24_Queries : AC :=
  (AC.region [⟨some 5, .box, [.t 0], [], none⟩, ⟨some 6, .box, [.t 1], [], none⟩, ⟨some 9, .box, [.t 4], [], none⟩, ⟨some 10, .mov, [AV.c (V.nl 1)], [], none⟩, ⟨some 11, .alloc [V.nl 1, I 0], [], [], none⟩, ⟨some 12, .mov, [ci 0], [3], none⟩] false).seq
  (((AC.region [⟨some 18, .load 4 true, [.t 5], [], none⟩, ⟨some 19, .load 1 true, [.t 6], [], none⟩, ⟨some 20, .call 43, [.t 18, .t 19], [0, 1], none⟩, ⟨some 21, .un .not, [.t 20], [2], none⟩] false).seq
  (AC.cond (.t 21) ((AC.region [⟨some 22, .build [V.nl 1, I 0] [], [], [], none⟩, ⟨some 10, .mov, [AV.c (V.nl 1)], [], none⟩, ⟨none, .store 2, [.t 11, .t 22], [0, 1, 0, 1], none⟩, ⟨some 12, .mov, [ci 40], [2, 0, 1, 2], none⟩] false).seq AC.ret) AC.skip)).seq
  (((AC.region [⟨some 23, .mov, [.t 3], [], none⟩, ⟨some 24, .mov, [.t 2], [], none⟩, ⟨some 25, .call 45, [.t 23, .t 24], [0, 1], none⟩, ⟨some 26, .un .not, [.t 25], [2], none⟩] false).seq
  (AC.cond (.t 26) ((AC.region [⟨some 27, .build [V.nl 1, I 0] [], [], [], none⟩, ⟨some 10, .mov, [AV.c (V.nl 1)], [], none⟩, ⟨none, .store 2, [.t 11, .t 27], [0, 1, 0, 1], none⟩, ⟨some 12, .mov, [ci 41], [2, 0, 1, 2], none⟩] false).seq AC.ret) AC.skip)).seq
  ((AC.region [⟨some 13, .mov, [AV.c (V.nl 1)], [], none⟩] false).seq
  (((AC.region [⟨some 14, .mov, [ci 0], [], none⟩] false).seq
  (AC.block 0 (((AC.region [⟨some 28, .mov, [.t 14], [], none⟩, ⟨some 29, .mov, [.t 3], [], none⟩, ⟨some 30, .len, [.t 29], [1], none⟩, ⟨some 31, .bin .lss, [.t 28, .t 30], [0, 2], none⟩] false).seq
  (AC.cond (.t 31) AC.skip (AC.exit 0))).seq
  ((AC.block 1 ((AC.region [⟨some 35, .load 4 true, [.t 5], [], none⟩, ⟨some 36, .load 1 true, [.t 6], [], none⟩, ⟨some 37, .mov, [.t 2], [], none⟩, ⟨some 38, .mov, [.t 3], [], none⟩, ⟨some 39, .mov, [.t 14], [], none⟩, ⟨some 40, .iad 1, [.t 38, .t 39], [3, 4], none⟩, ⟨some 41, .load 1 false, [.t 40], [5], none⟩, ⟨some 42, .mx, [.t 41, ci 0], [6], none⟩, ⟨some 43, .load 2 true, [.t 9], [], none⟩, ⟨some 44, .call 46, [.t 35, .t 36, .t 37, .t 42, .t 43], [0, 1, 2, 7, 8], none⟩, ⟨some 34, .mov, [.t 44], [9], none⟩, ⟨some 45, .ext 0, [.t 34], [10], none⟩, ⟨some 46, .ext 1, [.t 34], [10], none⟩, ⟨some 47, .ext 2, [.t 34], [10], none⟩, ⟨some 16, .alloc [V.nl 1, I 0], [], [], none⟩, ⟨some 15, .mov, [.t 45], [11, 9, 0, 1, 2, 3, 4, 5, 6, 7, 8, 9, 10, 11, 14], none⟩, ⟨none, .store 2, [.t 16, .t 46], [14, 12, 15, 0, 1, 2, 3, 4, 5, 6, 7, 8, 9, 10, 11, 12, 14, 15], none⟩, ⟨some 17, .mov, [.t 47], [13, 16, 0, 1, 2, 3, 4, 5, 6, 7, 8, 9, 10, 11, 12, 13, 14, 15, 16], none⟩] true).seq
  (((AC.region [⟨some 48, .mov, [.t 17], [], none⟩, ⟨some 49, .bin .neq, [.t 48, ci 0], [0], none⟩] false).seq
  (AC.cond (.t 49) ((AC.region [⟨some 50, .build [V.nl 1, I 0] [], [], [], none⟩, ⟨some 51, .mov, [.t 17], [], none⟩, ⟨some 10, .mov, [AV.c (V.nl 1)], [], none⟩, ⟨none, .store 2, [.t 11, .t 50], [0, 2, 0, 2], none⟩, ⟨some 12, .mov, [.t 51], [1, 3, 0, 1, 2, 3], none⟩] false).seq AC.ret) AC.skip)).seq
  (AC.region [⟨some 52, .mov, [.t 13], [], none⟩, ⟨some 53, .mov, [.t 15], [], none⟩, ⟨some 54, .bsl 1 [V.nl 1] 1 [0], [.t 53], [1], none⟩, ⟨some 55, .app 1 24, [.t 52, .t 54], [0, 2], none⟩, ⟨some 56, .load 2 true, [.t 16], [], none⟩, ⟨some 13, .mov, [.t 55], [3, 3, 0, 1, 2, 3], none⟩, ⟨none, .store 2, [.t 9, .t 56], [4, 5, 0, 1, 2, 3, 4, 5], none⟩] true)))).seq
  (AC.region [⟨some 32, .mov, [.t 14], [], none⟩, ⟨some 33, .bin .add, [.t 32, ci 1], [0], none⟩, ⟨some 14, .mov, [.t 33], [1, 0, 1], none⟩] false))).loop)).seq
  ((AC.region [⟨some 57, .mov, [.t 13], [], none⟩, ⟨some 58, .load 2 true, [.t 9], [], none⟩, ⟨some 10, .mov, [.t 57], [0, 0], none⟩, ⟨none, .store 2, [.t 11, .t 58], [1, 2, 0, 1, 2], none⟩, ⟨some 12, .mov, [ci 0], [3, 0, 1, 2, 3], none⟩] true).seq AC.ret)))))
def rs_ref24_Queries : List RV := [.t 10, .c 11 2 true, .t 12]
theorem c_ref24_Queries : compile Try.prog (Go.Func.ntmps Try.f25) (Try.f25.body.getD .skip) = some ac_ref24_Queries := by kernel_rfl
theorem go_ref24_Queries {xs : List V} {bx bx' : U} {r : V} {ns : List O} (hxs : decide (xs.length ≤ Go.Func.ntmps Try.f25) = true) (hbx : BxOK bx bx') (h : ∀ cx : Cx, cx.m0 = ups M0 bx → Awp Try.prog cx ac_ref24_Queries (RetE rs_ref24_Queries r bx' ns) ⟨tl (idx 0 xs), ups M0 bx⟩) : Does Try.prog 25 xs bx r bx' ns :=
  does_of Try.func25 (by kernel_rfl : Try.f25.body = some (Try.f25.body.getD .skip)) rfl c_ref24_Queries (by kernel_rfl) (of_decide_eq_true hxs) hbx fun cx _ hm => h cx hm
def ac_ref24_Valid : AC :=
  (AC.region [⟨some 4, .mov, [cb false], [], none⟩] false).seq
  (((AC.region [⟨some 6, .mov, [.t 0], [], none⟩, ⟨some 7, .len, [.t 6], [0], none⟩, ⟨some 8, .bin .lss, [.t 7, ci 1], [1], none⟩, ⟨some 9, .mov, [.t 8], [2], none⟩, ⟨some 10, .mov, [.t 0], [3], some (3, 9, false)⟩, ⟨some 11, .len, [.t 10], [4, 3], some (3, 9, false)⟩, ⟨some 12, .bin .gtr, [.t 11, ci 16], [5, 3], some (3, 9, false)⟩, ⟨some 13, .pick, [.t 9, cb true, .t 12], [3, 6], none⟩, ⟨some 14, .mov, [.t 13], [7, 3], none⟩, ⟨some 15, .mov, [.t 1], [8], some (8, 14, false)⟩, ⟨some 16, .bin .lss, [.t 15, ci 1], [9, 8], some (8, 14, false)⟩, ⟨some 17, .pick, [.t 14, cb true, .t 16], [8, 10], none⟩, ⟨some 18, .mov, [.t 17], [11, 8], none⟩, ⟨some 19, .mov, [.t 1], [12], some (12, 18, false)⟩, ⟨some 20, .bin .gtr, [.t 19, ci 1024], [13, 12], some (12, 18, false)⟩, ⟨some 21, .pick, [.t 18, cb true, .t 20], [12, 14], none⟩] false).seq
  (AC.cond (.t 21) ((AC.region [⟨some 4, .mov, [cb false], [], none⟩] false).seq AC.ret) AC.skip)).seq
  (((AC.region [⟨some 5, .mov, [ci 0], [], none⟩] false).seq
  (AC.block 0 (((AC.region [⟨some 22, .mov, [.t 5], [], none⟩, ⟨some 23, .mov, [.t 0], [], none⟩, ⟨some 24, .len, [.t 23], [1], none⟩, ⟨some 25, .bin .lss, [.t 22, .t 24], [0, 2], none⟩] false).seq
  (AC.cond (.t 25) AC.skip (AC.exit 0))).seq
  ((AC.block 1 ((AC.region [⟨some 28, .mov, [.t 0], [], none⟩, ⟨some 29, .mov, [.t 5], [], none⟩, ⟨some 30, .iad 1, [.t 28, .t 29], [0, 1], none⟩, ⟨some 31, .load 1 false, [.t 30], [2], none⟩, ⟨some 32, .bin .lss, [.t 31, ci (-1)], [3], none⟩, ⟨some 33, .mov, [.t 32], [4], none⟩, ⟨some 34, .mov, [.t 0], [5], some (5, 33, false)⟩, ⟨some 35, .mov, [.t 5], [5], some (5, 33, false)⟩, ⟨some 36, .iad 1, [.t 34, .t 35], [6, 7, 5], some (5, 33, false)⟩, ⟨some 37, .load 1 false, [.t 36], [8, 5], some (5, 33, false)⟩, ⟨some 38, .mov, [.t 1], [5], some (5, 33, false)⟩, ⟨some 39, .bin .geq, [.t 37, .t 38], [9, 10, 5], some (5, 33, false)⟩, ⟨some 40, .pick, [.t 33, cb true, .t 39], [5, 11], none⟩] false).seq
  (AC.cond (.t 40) ((AC.region [⟨some 4, .mov, [cb false], [], none⟩] false).seq AC.ret) AC.skip))).seq
  (AC.region [⟨some 26, .mov, [.t 5], [], none⟩, ⟨some 27, .bin .add, [.t 26, ci 1], [0], none⟩, ⟨some 5, .mov, [.t 27], [1, 0, 1], none⟩] false))).loop)).seq
  ((AC.region [⟨some 4, .mov, [cb true], [], none⟩] false).seq AC.ret)))
def rs_ref24_Valid : List RV := [.t 4]
theorem c_ref24_Valid : compile Try.prog (Go.Func.ntmps Try.f45) (Try.f45.body.getD .skip) = some ac_ref24_Valid := by kernel_rfl
theorem go_ref24_Valid {xs : List V} {bx bx' : U} {r : V} {ns : List O} (hxs : decide (xs.length ≤ Go.Func.ntmps Try.f45) = true) (hbx : BxOK bx bx') (h : ∀ cx : Cx, cx.m0 = ups M0 bx → Awp Try.prog cx ac_ref24_Valid (RetE rs_ref24_Valid r bx' ns) ⟨tl (idx 0 xs), ups M0 bx⟩) : Does Try.prog 45 xs bx r bx' ns :=
  does_of Try.func45 (by kernel_rfl : Try.f45.body = some (Try.f45.body.getD .skip)) rfl c_ref24_Valid (by kernel_rfl) (of_decide_eq_true hxs) hbx fun cx _ hm => h cx hm
def ac_ref24_SameQueries : AC :=
  (AC.region [⟨some 4, .mov, [cb false], [], none⟩] false).seq
  (((AC.region [⟨some 6, .mov, [.t 0], [], none⟩, ⟨some 7, .len, [.t 6], [0], none⟩, ⟨some 8, .mov, [.t 1], [], none⟩, ⟨some 9, .len, [.t 8], [2], none⟩, ⟨some 10, .bin .neq, [.t 7, .t 9], [1, 3], none⟩] false).seq
  (AC.cond (.t 10) ((AC.region [⟨some 4, .mov, [cb false], [], none⟩] false).seq AC.ret) AC.skip)).seq
  (((AC.region [⟨some 5, .mov, [ci 0], [], none⟩] false).seq
  (AC.block 0 (((AC.region [⟨some 11, .mov, [.t 5], [], none⟩, ⟨some 12, .mov, [.t 0], [], none⟩, ⟨some 13, .len, [.t 12], [1], none⟩, ⟨some 14, .bin .lss, [.t 11, .t 13], [0, 2], none⟩] false).seq
  (AC.cond (.t 14) AC.skip (AC.exit 0))).seq
  ((AC.block 1 ((AC.region [⟨some 17, .mov, [.t 0], [], none⟩, ⟨some 18, .mov, [.t 5], [], none⟩, ⟨some 19, .iad 1, [.t 17, .t 18], [0, 1], none⟩, ⟨some 20, .load 1 false, [.t 19], [2], none⟩, ⟨some 21, .mov, [.t 1], [], none⟩, ⟨some 22, .mov, [.t 5], [], none⟩, ⟨some 23, .iad 1, [.t 21, .t 22], [4, 5], none⟩, ⟨some 24, .load 1 false, [.t 23], [6], none⟩, ⟨some 25, .call 50, [.t 20, .t 24], [3, 7], none⟩, ⟨some 26, .un .not, [.t 25], [8], none⟩] true).seq
  (AC.cond (.t 26) ((AC.region [⟨some 4, .mov, [cb false], [], none⟩] false).seq AC.ret) AC.skip))).seq
  (AC.region [⟨some 15, .mov, [.t 5], [], none⟩, ⟨some 16, .bin .add, [.t 15, ci 1], [0], none⟩, ⟨some 5, .mov, [.t 16], [1, 0, 1], none⟩] false))).loop)).seq
  ((AC.region [⟨some 4, .mov, [cb true], [], none⟩] false).seq AC.ret)))
def rs_ref24_SameQueries : List RV := [.t 4]
theorem c_ref24_SameQueries : compile Try.prog (Go.Func.ntmps Try.f40) (Try.f40.body.getD .skip) = some ac_ref24_SameQueries := by kernel_rfl
theorem go_ref24_SameQueries {xs : List V} {bx bx' : U} {r : V} {ns : List O} (hxs : decide (xs.length ≤ Go.Func.ntmps Try.f40) = true) (hbx : BxOK bx bx') (h : ∀ cx : Cx, cx.m0 = ups M0 bx → Awp Try.prog cx ac_ref24_SameQueries (RetE rs_ref24_SameQueries r bx' ns) ⟨tl (idx 0 xs), ups M0 bx⟩) : Does Try.prog 40 xs bx r bx' ns :=
  does_of Try.func40 (by kernel_rfl : Try.f40.body = some (Try.f40.body.getD .skip)) rfl c_ref24_SameQueries (by kernel_rfl) (of_decide_eq_true hxs) hbx fun cx _ hm => h cx hm
def ac_ref24_SameRows : AC :=
  (AC.region [⟨some 4, .mov, [cb false], [], none⟩] false).seq
  ((AC.region [⟨some 5, .mov, [.t 0], [], none⟩, ⟨some 6, .mov, [.t 1], [], none⟩, ⟨some 7, .call 63, [.t 5, .t 6], [0, 1], none⟩, ⟨some 4, .mov, [.t 7], [2, 2, 0, 1, 2], none⟩] false).seq AC.ret)
def rs_ref24_SameRows : List RV := [.t 4]
theorem c_ref24_SameRows : compile Try.prog (Go.Func.ntmps Try.f50) (Try.f50.body.getD .skip) = some ac_ref24_SameRows := by kernel_rfl
theorem go_ref24_SameRows {xs : List V} {bx bx' : U} {r : V} {ns : List O} (hxs : decide (xs.length ≤ Go.Func.ntmps Try.f50) = true) (hbx : BxOK bx bx') (h : ∀ cx : Cx, cx.m0 = ups M0 bx → Awp Try.prog cx ac_ref24_SameRows (RetE rs_ref24_SameRows r bx' ns) ⟨tl (idx 0 xs), ups M0 bx⟩) : Does Try.prog 50 xs bx r bx' ns :=
  does_of Try.func50 (by kernel_rfl : Try.f50.body = some (Try.f50.body.getD .skip)) rfl c_ref24_SameRows (by kernel_rfl) (of_decide_eq_true hxs) hbx fun cx _ hm => h cx hm
def ac_ref23_Shape : AC :=
  (AC.region [⟨some 1, .box, [.t 0], [], none⟩, ⟨some 2, .mov, [cb false], [], none⟩] false).seq
  (((AC.region [⟨some 3, .fad 1, [.t 1], [], none⟩, ⟨some 4, .load 1 false, [.t 3], [0], none⟩, ⟨some 5, .bin .lss, [.t 4, ci 2], [1], none⟩, ⟨some 6, .mov, [.t 5], [2], none⟩, ⟨some 7, .fad 1, [.t 1], [3], some (3, 6, false)⟩, ⟨some 8, .load 1 false, [.t 7], [4, 3], some (3, 6, false)⟩, ⟨some 9, .bin .gtr, [.t 8, ci 10], [5, 3], some (3, 6, false)⟩, ⟨some 10, .pick, [.t 6, cb true, .t 9], [3, 6], none⟩] false).seq
  (AC.cond (.t 10) ((AC.region [⟨some 2, .mov, [cb false], [], none⟩] false).seq AC.ret) AC.skip)).seq
  (((AC.region [⟨some 11, .fad 0, [.t 1], [], none⟩, ⟨some 12, .load 1 false, [.t 11], [0], none⟩] false).seq
  (AC.block 0 ((AC.region [⟨some 14, .bin .eql, [.t 12, ci 1], [], none⟩, ⟨some 13, .mov, [.t 14], [0], none⟩] false).seq
  (AC.cond (.t 13) ((AC.region [⟨some 15, .fad 2, [.t 1], [], none⟩, ⟨some 16, .load 1 false, [.t 15], [0], none⟩, ⟨some 17, .bin .eql, [.t 16, ci 0], [1], none⟩, ⟨some 18, .mov, [.t 17], [2], none⟩, ⟨some 19, .fad 3, [.t 1], [3], some (3, 18, true)⟩, ⟨some 20, .load 1 false, [.t 19], [4, 3], some (3, 18, true)⟩, ⟨some 21, .bin .eql, [.t 20, ci 0], [5, 3], some (3, 18, true)⟩, ⟨some 22, .pick, [.t 18, .t 21, cb false], [3, 6], none⟩, ⟨some 2, .mov, [.t 22], [7, 3, 0, 1, 2, 3, 4, 5, 6, 7], none⟩] false).seq AC.ret) ((AC.region [⟨some 24, .bin .eql, [.t 12, ci 2], [], none⟩, ⟨some 23, .mov, [.t 24], [0], none⟩] false).seq
  (AC.cond (.t 23) ((AC.region [⟨some 25, .fad 2, [.t 1], [], none⟩, ⟨some 26, .load 1 false, [.t 25], [0], none⟩, ⟨some 27, .bin .geq, [.t 26, ci 1], [1], none⟩, ⟨some 28, .mov, [.t 27], [2], none⟩, ⟨some 29, .fad 2, [.t 1], [3], some (3, 28, true)⟩, ⟨some 30, .load 1 false, [.t 29], [4, 3], some (3, 28, true)⟩, ⟨some 31, .fad 1, [.t 1], [3], some (3, 28, true)⟩, ⟨some 32, .load 1 false, [.t 31], [6, 3], some (3, 28, true)⟩, ⟨some 33, .bin .sub, [.t 32, ci 1], [7, 3], some (3, 28, true)⟩, ⟨some 34, .bin .leq, [.t 30, .t 33], [5, 8, 3], some (3, 28, true)⟩, ⟨some 35, .pick, [.t 28, .t 34, cb false], [3, 9], none⟩, ⟨some 36, .mov, [.t 35], [10, 3], none⟩, ⟨some 37, .fad 3, [.t 1], [11], some (11, 36, true)⟩, ⟨some 38, .load 1 false, [.t 37], [12, 11], some (11, 36, true)⟩, ⟨some 39, .bin .eql, [.t 38, ci 0], [13, 11], some (11, 36, true)⟩, ⟨some 40, .pick, [.t 36, .t 39, cb false], [11, 14], none⟩, ⟨some 2, .mov, [.t 40], [15, 11, 0, 1, 2, 3, 4, 5, 6, 7, 8, 9, 10, 11, 12, 13, 14, 15], none⟩] false).seq AC.ret) ((AC.region [⟨some 42, .bin .eql, [.t 12, ci 3], [], none⟩, ⟨some 41, .mov, [.t 42], [0], none⟩] false).seq
  (AC.cond (.t 41) ((AC.region [⟨some 43, .fad 2, [.t 1], [], none⟩, ⟨some 44, .load 1 false, [.t 43], [0], none⟩, ⟨some 45, .bin .geq, [.t 44, ci 1], [1], none⟩, ⟨some 46, .mov, [.t 45], [2], none⟩, ⟨some 47, .fad 3, [.t 1], [3], some (3, 46, true)⟩, ⟨some 48, .load 1 false, [.t 47], [4, 3], some (3, 46, true)⟩, ⟨some 49, .bin .geq, [.t 48, ci 1], [5, 3], some (3, 46, true)⟩, ⟨some 50, .pick, [.t 46, .t 49, cb false], [3, 6], none⟩, ⟨some 51, .mov, [.t 50], [7, 3], none⟩, ⟨some 52, .fad 2, [.t 1], [8], some (8, 51, true)⟩, ⟨some 53, .load 1 false, [.t 52], [9, 8], some (8, 51, true)⟩, ⟨some 54, .bin .leq, [.t 53, ci 10], [10, 8], some (8, 51, true)⟩, ⟨some 55, .pick, [.t 51, .t 54, cb false], [8, 11], none⟩, ⟨some 56, .mov, [.t 55], [12, 8], none⟩, ⟨some 57, .fad 3, [.t 1], [13], some (13, 56, true)⟩, ⟨some 58, .load 1 false, [.t 57], [14, 13], some (13, 56, true)⟩, ⟨some 59, .bin .leq, [.t 58, ci 10], [15, 13], some (13, 56, true)⟩, ⟨some 60, .pick, [.t 56, .t 59, cb false], [13, 16], none⟩, ⟨some 61, .mov, [.t 60], [17, 13], none⟩, ⟨some 62, .fad 3, [.t 1], [18], some (18, 61, true)⟩, ⟨some 63, .load 1 false, [.t 62], [19, 18], some (18, 61, true)⟩, ⟨some 64, .bin .mul, [ci 2, .t 63], [20, 18], some (18, 61, true)⟩, ⟨some 65, .fad 2, [.t 1], [18], some (18, 61, true)⟩, ⟨some 66, .load 1 false, [.t 65], [22, 18], some (18, 61, true)⟩, ⟨some 67, .bin .add, [.t 64, .t 66], [21, 23, 18], some (18, 61, true)⟩, ⟨some 68, .bin .sub, [.t 67, ci 1], [24, 18], some (18, 61, true)⟩, ⟨some 69, .fad 1, [.t 1], [18], some (18, 61, true)⟩, ⟨some 70, .load 1 false, [.t 69], [26, 18], some (18, 61, true)⟩, ⟨some 71, .bin .leq, [.t 68, .t 70], [25, 27, 18], some (18, 61, true)⟩, ⟨some 72, .pick, [.t 61, .t 71, cb false], [18, 28], none⟩, ⟨some 2, .mov, [.t 72], [29, 18, 0, 1, 2, 3, 4, 5, 6, 7, 8, 9, 10, 11, 12, 13, 14, 15, 16, 17, 18, 19, 20, 21, 22, 23, 24, 25, 26, 27, 28, 29], none⟩] false).seq AC.ret) AC.skip)))))))).seq
  ((AC.region [⟨some 2, .mov, [cb false], [], none⟩] false).seq AC.ret)))
def rs_ref23_Shape : List RV := [.t 2]
theorem c_ref23_Shape : compile Try.prog (Go.Func.ntmps Try.f51) (Try.f51.body.getD .skip) = some ac_ref23_Shape := by kernel_rfl
theorem go_ref23_Shape {xs : List V} {bx bx' : U} {r : V} {ns : List O} (hxs : decide (xs.length ≤ Go.Func.ntmps Try.f51) = true) (hbx : BxOK bx bx') (h : ∀ cx : Cx, cx.m0 = ups M0 bx → Awp Try.prog cx ac_ref23_Shape (RetE rs_ref23_Shape r bx' ns) ⟨tl (idx 0 xs), ups M0 bx⟩) : Does Try.prog 51 xs bx r bx' ns :=
  does_of Try.func51 (by kernel_rfl : Try.f51.body = some (Try.f51.body.getD .skip)) rfl c_ref23_Shape (by kernel_rfl) (of_decide_eq_true hxs) hbx fun cx _ hm => h cx hm
def ac_ref23_Valid : AC :=
  (AC.region [⟨some 2, .box, [.t 0], [], none⟩, ⟨some 3, .box, [.t 1], [], none⟩, ⟨some 4, .mov, [cb false], [], none⟩] false).seq
  ((AC.region [⟨some 5, .load 4 true, [.t 2], [], none⟩, ⟨some 6, .call 51, [.t 5], [0], none⟩, ⟨some 7, .mov, [.t 6], [1, 1], none⟩, ⟨some 8, .load 1 true, [.t 3], [2], some (2, 7, true)⟩, ⟨some 9, .call 52, [.t 8], [3, 2, 2], some (2, 7, true)⟩, ⟨some 10, .bin .eql, [.t 9, ci 0], [4, 2], some (2, 7, true)⟩, ⟨some 11, .pick, [.t 7, .t 10, cb false], [2, 5], none⟩, ⟨some 12, .mov, [.t 11], [6, 4], none⟩, ⟨some 13, .fad 0, [.t 2], [7], some (7, 12, true)⟩, ⟨some 14, .load 1 false, [.t 13], [8, 7], some (7, 12, true)⟩, ⟨some 15, .bin .eql, [.t 14, ci 1], [9, 7], some (7, 12, true)⟩, ⟨some 16, .mov, [.t 15], [10, 7, 7], some (7, 12, true)⟩, ⟨some 17, .fad 1, [.t 2], [11], some (11, 16, false)⟩, ⟨some 18, .load 1 false, [.t 17], [12, 11], some (11, 16, false)⟩, ⟨some 19, .fad 0, [.t 3], [11], some (11, 16, false)⟩, ⟨some 20, .load 1 false, [.t 19], [14, 11], some (11, 16, false)⟩, ⟨some 21, .bin .lss, [.t 18, .t 20], [13, 15, 11], some (11, 16, false)⟩, ⟨some 22, .pick, [.t 16, cb true, .t 21], [11, 16, 7], some (7, 12, true)⟩, ⟨some 23, .pick, [.t 12, .t 22, cb false], [7, 17], none⟩, ⟨some 4, .mov, [.t 23], [18, 11, 0, 1, 2, 3, 4, 5, 6, 7, 8, 9, 10, 11, 12, 13, 14, 15, 16, 17, 18], none⟩] false).seq AC.ret)
def rs_ref23_Valid : List RV := [.t 4]
theorem c_ref23_Valid : compile Try.prog (Go.Func.ntmps Try.f43) (Try.f43.body.getD .skip) = some ac_ref23_Valid := by kernel_rfl
theorem go_ref23_Valid {xs : List V} {bx bx' : U} {r : V} {ns : List O} (hxs : decide (xs.length ≤ Go.Func.ntmps Try.f43) = true) (hbx : BxOK bx bx') (h : ∀ cx : Cx, cx.m0 = ups M0 bx → Awp Try.prog cx ac_ref23_Valid (RetE rs_ref23_Valid r bx' ns) ⟨tl (idx 0 xs), ups M0 bx⟩) : Does Try.prog 43 xs bx r bx' ns :=
  does_of Try.func43 (by kernel_rfl : Try.f43.body = some (Try.f43.body.getD .skip)) rfl c_ref23_Valid (by kernel_rfl) (of_decide_eq_true hxs) hbx fun cx _ hm => h cx hm
def ac_ref23_Limits : AC :=
  (AC.region [⟨some 3, .box, [.t 0], [], none⟩, ⟨some 4, .box, [.t 1], [], none⟩, ⟨some 6, .mov, [AV.c (V.nl 1)], [], none⟩, ⟨some 7, .mov, [ci 0], [2], none⟩] false).seq
  (((AC.region [⟨some 8, .load 4 true, [.t 3], [], none⟩, ⟨some 9, .load 1 true, [.t 4], [], none⟩, ⟨some 10, .call 43, [.t 8, .t 9], [0, 1], none⟩, ⟨some 11, .un .not, [.t 10], [2], none⟩] false).seq
  (AC.cond (.t 11) ((AC.region [⟨some 6, .mov, [AV.c (V.nl 1)], [], none⟩, ⟨some 7, .mov, [ci 40], [0, 0], none⟩] false).seq AC.ret) AC.skip)).seq
  (((AC.region [⟨some 12, .mov, [.t 2], [], none⟩, ⟨some 13, .bin .lss, [.t 12, ci 1], [0], none⟩, ⟨some 14, .mov, [.t 13], [1], none⟩, ⟨some 15, .mov, [.t 2], [2], some (2, 14, false)⟩, ⟨some 16, .bin .gtr, [.t 15, ci 1024], [3, 2], some (2, 14, false)⟩, ⟨some 17, .pick, [.t 14, cb true, .t 16], [2, 4], none⟩] false).seq
  (AC.cond (.t 17) ((AC.region [⟨some 6, .mov, [AV.c (V.nl 1)], [], none⟩, ⟨some 7, .mov, [ci 1], [0, 0], none⟩] false).seq AC.ret) AC.skip)).seq
  (((AC.region [⟨some 18, .fad 0, [.t 3], [], none⟩, ⟨some 19, .load 1 false, [.t 18], [0], none⟩] false).seq
  (AC.block 0 ((AC.region [⟨some 21, .bin .eql, [.t 19, ci 1], [], none⟩, ⟨some 20, .mov, [.t 21], [0], none⟩] false).seq
  (AC.cond (.t 20) ((AC.region [⟨some 22, .load 1 true, [.t 4], [], none⟩, ⟨some 23, .mov, [.t 2], [], none⟩, ⟨some 24, .fad 1, [.t 3], [], none⟩, ⟨some 25, .load 1 false, [.t 24], [2], none⟩, ⟨some 26, .call 53, [.t 22, .t 23, .t 25], [0, 1, 3], none⟩, ⟨some 27, .ext 0, [.t 26], [4], none⟩, ⟨some 28, .ext 1, [.t 26], [4], none⟩, ⟨some 6, .mov, [.t 27], [5, 4, 0, 1, 2, 3, 4, 5, 6], none⟩, ⟨some 7, .mov, [.t 28], [6, 7, 0, 1, 2, 3, 4, 5, 6, 7], none⟩] false).seq AC.ret) ((AC.region [⟨some 30, .bin .eql, [.t 19, ci 2], [], none⟩, ⟨some 29, .mov, [.t 30], [0], none⟩] false).seq
  (AC.cond (.t 29) ((AC.region [⟨some 31, .load 1 true, [.t 4], [], none⟩, ⟨some 32, .load 4 true, [.t 3], [], none⟩, ⟨some 33, .call 55, [.t 32], [1], none⟩, ⟨some 34, .mov, [.t 2], [], none⟩, ⟨some 35, .call 54, [.t 31, .t 33, .t 34], [0, 2, 3, 2], none⟩, ⟨some 36, .ext 0, [.t 35], [4], none⟩, ⟨some 37, .ext 1, [.t 35], [4], none⟩, ⟨some 6, .mov, [.t 36], [5, 4, 0, 1, 2, 3, 4, 5, 6], none⟩, ⟨some 7, .mov, [.t 37], [6, 7, 0, 1, 2, 3, 4, 5, 6, 7], none⟩] true).seq AC.ret) AC.skip)))))).seq
  ((AC.region [⟨some 38, .load 1 true, [.t 4], [], none⟩, ⟨some 39, .load 4 true, [.t 3], [], none⟩, ⟨some 40, .call 57, [.t 39], [1], none⟩, ⟨some 41, .load 4 true, [.t 3], [], none⟩, ⟨some 42, .mov, [.t 2], [], none⟩, ⟨some 43, .call 58, [.t 41, .t 42], [3, 4, 2], none⟩, ⟨some 44, .call 56, [.t 38, .t 40, .t 43], [0, 2, 5, 5], none⟩, ⟨some 45, .ext 0, [.t 44], [6], none⟩, ⟨some 46, .ext 1, [.t 44], [6], none⟩, ⟨some 6, .mov, [.t 45], [7, 6, 0, 1, 2, 3, 4, 5, 6, 7, 8], none⟩, ⟨some 7, .mov, [.t 46], [8, 9, 0, 1, 2, 3, 4, 5, 6, 7, 8, 9], none⟩] true).seq AC.ret))))
def rs_ref23_Limits : List RV := [.t 6, .t 7]
theorem c_ref23_Limits : compile Try.prog (Go.Func.ntmps Try.f44) (Try.f44.body.getD .skip) = some ac_ref23_Limits := by kernel_rfl
theorem go_ref23_Limits {xs : List V} {bx bx' : U} {r : V} {ns : List O} (hxs : decide (xs.length ≤ Go.Func.ntmps Try.f44) = true) (hbx : BxOK bx bx') (h : ∀ cx : Cx, cx.m0 = ups M0 bx → Awp Try.prog cx ac_ref23_Limits (RetE rs_ref23_Limits r bx' ns) ⟨tl (idx 0 xs), ups M0 bx⟩) : Does Try.prog 44 xs bx r bx' ns :=
  does_of Try.func44 (by kernel_rfl : Try.f44.body = some (Try.f44.body.getD .skip)) rfl c_ref23_Limits (by kernel_rfl) (of_decide_eq_true hxs) hbx fun cx _ hm => h cx hm
def ac_ref23_Queries : AC :=
  (AC.region [⟨some 5, .box, [.t 0], [], none⟩, ⟨some 6, .box, [.t 1], [], none⟩, ⟨some 9, .box, [.t 4], [], none⟩, ⟨some 10, .mov, [AV.c (V.nl 1)], [], none⟩, ⟨some 11, .alloc [V.nl 1, I 0], [], [], none⟩, ⟨some 12, .mov, [ci 0], [3], none⟩] false).seq
  (((AC.region [⟨some 13, .load 4 true, [.t 5], [], none⟩, ⟨some 14, .load 1 true, [.t 6], [], none⟩, ⟨some 15, .call 43, [.t 13, .t 14], [0, 1], none⟩, ⟨some 16, .un .not, [.t 15], [2], none⟩] false).seq
  (AC.cond (.t 16) ((AC.region [⟨some 17, .build [V.nl 1, I 0] [], [], [], none⟩, ⟨some 10, .mov, [AV.c (V.nl 1)], [], none⟩, ⟨none, .store 2, [.t 11, .t 17], [0, 1, 0, 1], none⟩, ⟨some 12, .mov, [ci 40], [2, 0, 1, 2], none⟩] false).seq AC.ret) AC.skip)).seq
  (((AC.region [⟨some 18, .mov, [.t 2], [], none⟩, ⟨some 19, .bin .lss, [.t 18, ci 1], [0], none⟩, ⟨some 20, .mov, [.t 19], [1], none⟩, ⟨some 21, .mov, [.t 2], [2], some (2, 20, false)⟩, ⟨some 22, .bin .gtr, [.t 21, ci 1024], [3, 2], some (2, 20, false)⟩, ⟨some 23, .pick, [.t 20, cb true, .t 22], [2, 4], none⟩] false).seq
  (AC.cond (.t 23) ((AC.region [⟨some 24, .build [V.nl 1, I 0] [], [], [], none⟩, ⟨some 10, .mov, [AV.c (V.nl 1)], [], none⟩, ⟨none, .store 2, [.t 11, .t 24], [0, 1, 0, 1], none⟩, ⟨some 12, .mov, [ci 1], [2, 0, 1, 2], none⟩] false).seq AC.ret) AC.skip)).seq
  (((AC.region [⟨some 25, .mov, [.t 3], [], none⟩, ⟨some 26, .bin .lss, [.t 25, ci 0], [0], none⟩, ⟨some 27, .mov, [.t 26], [1], none⟩, ⟨some 28, .mov, [.t 3], [2], some (2, 27, false)⟩, ⟨some 29, .mov, [.t 2], [2], some (2, 27, false)⟩, ⟨some 30, .bin .geq, [.t 28, .t 29], [3, 4, 2], some (2, 27, false)⟩, ⟨some 31, .pick, [.t 27, cb true, .t 30], [2, 5], none⟩] false).seq
  (AC.cond (.t 31) ((AC.region [⟨some 32, .build [V.nl 1, I 0] [], [], [], none⟩, ⟨some 10, .mov, [AV.c (V.nl 1)], [], none⟩, ⟨none, .store 2, [.t 11, .t 32], [0, 1, 0, 1], none⟩, ⟨some 12, .mov, [ci 6], [2, 0, 1, 2], none⟩] false).seq AC.ret) AC.skip)).seq
  (((AC.region [⟨some 33, .fad 0, [.t 5], [], none⟩, ⟨some 34, .load 1 false, [.t 33], [0], none⟩] false).seq
  (AC.block 0 ((AC.region [⟨some 36, .bin .eql, [.t 34, ci 1], [], none⟩, ⟨some 35, .mov, [.t 36], [0], none⟩] false).seq
  (AC.cond (.t 35) ((AC.region [⟨some 37, .load 1 true, [.t 6], [], none⟩, ⟨some 38, .mov, [.t 2], [], none⟩, ⟨some 39, .fad 1, [.t 5], [], none⟩, ⟨some 40, .load 1 false, [.t 39], [2], none⟩, ⟨some 41, .mov, [.t 3], [], none⟩, ⟨some 42, .load 2 true, [.t 9], [], none⟩, ⟨some 43, .call 59, [.t 37, .t 38, .t 40, .t 41, .t 42], [0, 1, 3, 4, 5], none⟩, ⟨some 44, .ext 0, [.t 43], [6], none⟩, ⟨some 45, .ext 1, [.t 43], [6], none⟩, ⟨some 46, .ext 2, [.t 43], [6], none⟩, ⟨some 10, .mov, [.t 44], [7, 6, 0, 1, 2, 3, 4, 5, 6, 7, 8, 9], none⟩, ⟨none, .store 2, [.t 11, .t 45], [8, 10, 0, 1, 2, 3, 4, 5, 6, 7, 8, 9, 10], none⟩, ⟨some 12, .mov, [.t 46], [9, 11, 0, 1, 2, 3, 4, 5, 6, 7, 8, 9, 10, 11], none⟩] false).seq AC.ret) ((AC.region [⟨some 48, .bin .eql, [.t 34, ci 2], [], none⟩, ⟨some 47, .mov, [.t 48], [0], none⟩] false).seq
  (AC.cond (.t 47) ((AC.region [⟨some 49, .load 1 true, [.t 6], [], none⟩, ⟨some 50, .load 4 true, [.t 5], [], none⟩, ⟨some 51, .call 55, [.t 50], [1], none⟩, ⟨some 52, .mov, [.t 2], [], none⟩, ⟨some 53, .mov, [.t 3], [], none⟩, ⟨some 54, .load 2 true, [.t 9], [], none⟩, ⟨some 55, .call 60, [.t 49, .t 51, .t 52, .t 53, .t 54], [0, 2, 3, 4, 5, 2], none⟩, ⟨some 56, .ext 0, [.t 55], [6], none⟩, ⟨some 57, .ext 1, [.t 55], [6], none⟩, ⟨some 58, .ext 2, [.t 55], [6], none⟩, ⟨some 10, .mov, [.t 56], [7, 6, 0, 1, 2, 3, 4, 5, 6, 7, 8, 9], none⟩, ⟨none, .store 2, [.t 11, .t 57], [8, 10, 0, 1, 2, 3, 4, 5, 6, 7, 8, 9, 10], none⟩, ⟨some 12, .mov, [.t 58], [9, 11, 0, 1, 2, 3, 4, 5, 6, 7, 8, 9, 10, 11], none⟩] true).seq AC.ret) AC.skip)))))).seq
  ((AC.region [⟨some 59, .load 1 true, [.t 6], [], none⟩, ⟨some 60, .load 4 true, [.t 5], [], none⟩, ⟨some 61, .call 57, [.t 60], [1], none⟩, ⟨some 62, .load 4 true, [.t 5], [], none⟩, ⟨some 63, .mov, [.t 2], [], none⟩, ⟨some 64, .call 58, [.t 62, .t 63], [3, 4, 2], none⟩, ⟨some 65, .mov, [.t 3], [], none⟩, ⟨some 66, .fad 3, [.t 5], [], none⟩, ⟨some 67, .load 1 false, [.t 66], [7], none⟩, ⟨some 68, .bin .quo, [.t 65, .t 67], [6, 8], none⟩, ⟨some 69, .load 2 true, [.t 9], [], none⟩, ⟨some 70, .call 61, [.t 59, .t 61, .t 64, .t 68, .t 69], [0, 2, 5, 9, 10, 5], none⟩, ⟨some 71, .ext 0, [.t 70], [11], none⟩, ⟨some 72, .ext 1, [.t 70], [11], none⟩, ⟨some 73, .ext 2, [.t 70], [11], none⟩, ⟨some 10, .mov, [.t 71], [12, 11, 0, 1, 2, 3, 4, 5, 6, 7, 8, 9, 10, 11, 12, 13, 14], none⟩, ⟨none, .store 2, [.t 11, .t 72], [13, 15, 0, 1, 2, 3, 4, 5, 6, 7, 8, 9, 10, 11, 12, 13, 14, 15], none⟩, ⟨some 12, .mov, [.t 73], [14, 16, 0, 1, 2, 3, 4, 5, 6, 7, 8, 9, 10, 11, 12, 13, 14, 15, 16], none⟩] true).seq AC.ret)))))
def rs_ref23_Queries : List RV := [.t 10, .c 11 2 true, .t 12]
theorem c_ref23_Queries : compile Try.prog (Go.Func.ntmps Try.f46) (Try.f46.body.getD .skip) = some ac_ref23_Queries := by kernel_rfl
theorem go_ref23_Queries {xs : List V} {bx bx' : U} {r : V} {ns : List O} (hxs : decide (xs.length ≤ Go.Func.ntmps Try.f46) = true) (hbx : BxOK bx bx') (h : ∀ cx : Cx, cx.m0 = ups M0 bx → Awp Try.prog cx ac_ref23_Queries (RetE rs_ref23_Queries r bx' ns) ⟨tl (idx 0 xs), ups M0 bx⟩) : Does Try.prog 46 xs bx r bx' ns :=
  does_of Try.func46 (by kernel_rfl : Try.f46.body = some (Try.f46.body.getD .skip)) rfl c_ref23_Queries (by kernel_rfl) (of_decide_eq_true hxs) hbx fun cx _ hm => h cx hm
def ac_ref23_Units : AC :=
  (AC.region [⟨some 2, .box, [.t 0], [], none⟩, ⟨some 4, .mov, [ci 0], [], none⟩] false).seq
  (((AC.region [⟨some 5, .load 4 true, [.t 2], [], none⟩, ⟨some 6, .call 51, [.t 5], [0], none⟩, ⟨some 7, .un .not, [.t 6], [1], none⟩, ⟨some 8, .mov, [.t 7], [2, 1], none⟩, ⟨some 9, .mov, [.t 1], [3], some (3, 8, false)⟩, ⟨some 10, .bin .lss, [.t 9, ci 1], [4, 3], some (3, 8, false)⟩, ⟨some 11, .pick, [.t 8, cb true, .t 10], [3, 5], none⟩, ⟨some 12, .mov, [.t 11], [6, 3], none⟩, ⟨some 13, .mov, [.t 1], [7], some (7, 12, false)⟩, ⟨some 14, .bin .gtr, [.t 13, ci 1024], [8, 7], some (7, 12, false)⟩, ⟨some 15, .pick, [.t 12, cb true, .t 14], [7, 9], none⟩] false).seq
  (AC.cond (.t 15) ((AC.region [⟨some 4, .mov, [ci 0], [], none⟩] false).seq AC.ret) AC.skip)).seq
  (((AC.region [⟨some 16, .fad 0, [.t 2], [], none⟩, ⟨some 17, .load 1 false, [.t 16], [0], none⟩, ⟨some 18, .bin .eql, [.t 17, ci 3], [1], none⟩] false).seq
  (AC.cond (.t 18) ((AC.region [⟨some 19, .mov, [.t 1], [], none⟩, ⟨some 20, .fad 3, [.t 2], [], none⟩, ⟨some 21, .load 1 false, [.t 20], [1], none⟩, ⟨some 22, .bin .add, [.t 19, .t 21], [0, 2], none⟩, ⟨some 23, .bin .sub, [.t 22, ci 1], [3], none⟩, ⟨some 24, .fad 3, [.t 2], [], none⟩, ⟨some 25, .load 1 false, [.t 24], [5], none⟩, ⟨some 26, .bin .quo, [.t 23, .t 25], [4, 6], none⟩, ⟨some 4, .mov, [.t 26], [7, 0, 1, 2, 3, 4, 5, 6, 7], none⟩] false).seq AC.ret) AC.skip)).seq
  ((AC.region [⟨some 27, .mov, [.t 1], [], none⟩, ⟨some 4, .mov, [.t 27], [0, 0], none⟩] false).seq AC.ret)))
def rs_ref23_Units : List RV := [.t 4]
theorem c_ref23_Units : compile Try.prog (Go.Func.ntmps Try.f58) (Try.f58.body.getD .skip) = some ac_ref23_Units := by kernel_rfl
theorem go_ref23_Units {xs : List V} {bx bx' : U} {r : V} {ns : List O} (hxs : decide (xs.length ≤ Go.Func.ntmps Try.f58) = true) (hbx : BxOK bx bx') (h : ∀ cx : Cx, cx.m0 = ups M0 bx → Awp Try.prog cx ac_ref23_Units (RetE rs_ref23_Units r bx' ns) ⟨tl (idx 0 xs), ups M0 bx⟩) : Does Try.prog 58 xs bx r bx' ns :=
  does_of Try.func58 (by kernel_rfl : Try.f58.body = some (Try.f58.body.getD .skip)) rfl c_ref23_Units (by kernel_rfl) (of_decide_eq_true hxs) hbx fun cx _ hm => h cx hm
def ac_ref23_plan : AC :=
  (AC.region [⟨some 1, .box, [.t 0], [], none⟩, ⟨some 2, .alloc [I 0, I 0], [], [], none⟩] false).seq
  ((AC.region [⟨some 3, .fad 1, [.t 1], [], none⟩, ⟨some 4, .load 1 false, [.t 3], [0], none⟩, ⟨some 5, .fad 2, [.t 1], [], none⟩, ⟨some 6, .load 1 false, [.t 5], [2], none⟩, ⟨some 7, .build [I 0, I 0] [(0, 1), (1, 1)], [.t 4, .t 6], [1, 3], none⟩, ⟨none, .store 2, [.t 2, .t 7], [4, 0, 1, 2, 3, 4], none⟩] false).seq AC.ret)
def rs_ref23_plan : List RV := [.c 2 2 true]
theorem c_ref23_plan : compile Try.prog (Go.Func.ntmps Try.f55) (Try.f55.body.getD .skip) = some ac_ref23_plan := by kernel_rfl
theorem go_ref23_plan {xs : List V} {bx bx' : U} {r : V} {ns : List O} (hxs : decide (xs.length ≤ Go.Func.ntmps Try.f55) = true) (hbx : BxOK bx bx') (h : ∀ cx : Cx, cx.m0 = ups M0 bx → Awp Try.prog cx ac_ref23_plan (RetE rs_ref23_plan r bx' ns) ⟨tl (idx 0 xs), ups M0 bx⟩) : Does Try.prog 55 xs bx r bx' ns :=
  does_of Try.func55 (by kernel_rfl : Try.f55.body = some (Try.f55.body.getD .skip)) rfl c_ref23_plan (by kernel_rfl) (of_decide_eq_true hxs) hbx fun cx _ hm => h cx hm
def ac_ref23_storage : AC :=
  (AC.region [⟨some 1, .box, [.t 0], [], none⟩, ⟨some 2, .alloc [I 0, I 0, I 0], [], [], none⟩] false).seq
  ((AC.region [⟨some 3, .fad 1, [.t 1], [], none⟩, ⟨some 4, .load 1 false, [.t 3], [0], none⟩, ⟨some 5, .fad 2, [.t 1], [], none⟩, ⟨some 6, .load 1 false, [.t 5], [2], none⟩, ⟨some 7, .fad 3, [.t 1], [], none⟩, ⟨some 8, .load 1 false, [.t 7], [4], none⟩, ⟨some 9, .build [I 0, I 0, I 0] [(0, 1), (1, 1), (2, 1)], [.t 4, .t 6, .t 8], [1, 3, 5], none⟩, ⟨none, .store 3, [.t 2, .t 9], [6, 0, 1, 2, 3, 4, 5, 6], none⟩] false).seq AC.ret)
def rs_ref23_storage : List RV := [.c 2 3 true]
theorem c_ref23_storage : compile Try.prog (Go.Func.ntmps Try.f57) (Try.f57.body.getD .skip) = some ac_ref23_storage := by kernel_rfl
theorem go_ref23_storage {xs : List V} {bx bx' : U} {r : V} {ns : List O} (hxs : decide (xs.length ≤ Go.Func.ntmps Try.f57) = true) (hbx : BxOK bx bx') (h : ∀ cx : Cx, cx.m0 = ups M0 bx → Awp Try.prog cx ac_ref23_storage (RetE rs_ref23_storage r bx' ns) ⟨tl (idx 0 xs), ups M0 bx⟩) : Does Try.prog 57 xs bx r bx' ns :=
  does_of Try.func57 (by kernel_rfl : Try.f57.body = some (Try.f57.body.getD .skip)) rfl c_ref23_storage (by kernel_rfl) (of_decide_eq_true hxs) hbx fun cx _ hm => h cx hm
def ac_ref23_Ints : AC :=
  (AC.region [⟨some 4, .mov, [cb false], [], none⟩] false).seq
  (((AC.region [⟨some 6, .mov, [.t 0], [], none⟩, ⟨some 7, .len, [.t 6], [0], none⟩, ⟨some 8, .mov, [.t 1], [], none⟩, ⟨some 9, .len, [.t 8], [2], none⟩, ⟨some 10, .bin .neq, [.t 7, .t 9], [1, 3], none⟩] false).seq
  (AC.cond (.t 10) ((AC.region [⟨some 4, .mov, [cb false], [], none⟩] false).seq AC.ret) AC.skip)).seq
  (((AC.region [⟨some 5, .mov, [ci 0], [], none⟩] false).seq
  (AC.block 0 (((AC.region [⟨some 11, .mov, [.t 5], [], none⟩, ⟨some 12, .mov, [.t 0], [], none⟩, ⟨some 13, .len, [.t 12], [1], none⟩, ⟨some 14, .bin .lss, [.t 11, .t 13], [0, 2], none⟩] false).seq
  (AC.cond (.t 14) AC.skip (AC.exit 0))).seq
  ((AC.block 1 ((AC.region [⟨some 17, .mov, [.t 0], [], none⟩, ⟨some 18, .mov, [.t 5], [], none⟩, ⟨some 19, .iad 1, [.t 17, .t 18], [0, 1], none⟩, ⟨some 20, .load 1 false, [.t 19], [2], none⟩, ⟨some 21, .mov, [.t 1], [], none⟩, ⟨some 22, .mov, [.t 5], [], none⟩, ⟨some 23, .iad 1, [.t 21, .t 22], [4, 5], none⟩, ⟨some 24, .load 1 false, [.t 23], [6], none⟩, ⟨some 25, .bin .neq, [.t 20, .t 24], [3, 7], none⟩] true).seq
  (AC.cond (.t 25) ((AC.region [⟨some 4, .mov, [cb false], [], none⟩] false).seq AC.ret) AC.skip))).seq
  (AC.region [⟨some 15, .mov, [.t 5], [], none⟩, ⟨some 16, .bin .add, [.t 15, ci 1], [0], none⟩, ⟨some 5, .mov, [.t 16], [1, 0, 1], none⟩] false))).loop)).seq
  ((AC.region [⟨some 4, .mov, [cb true], [], none⟩] false).seq AC.ret)))
def rs_ref23_Ints : List RV := [.t 4]
theorem c_ref23_Ints : compile Try.prog (Go.Func.ntmps Try.f18) (Try.f18.body.getD .skip) = some ac_ref23_Ints := by kernel_rfl
theorem go_ref23_Ints {xs : List V} {bx bx' : U} {r : V} {ns : List O} (hxs : decide (xs.length ≤ Go.Func.ntmps Try.f18) = true) (hbx : BxOK bx bx') (h : ∀ cx : Cx, cx.m0 = ups M0 bx → Awp Try.prog cx ac_ref23_Ints (RetE rs_ref23_Ints r bx' ns) ⟨tl (idx 0 xs), ups M0 bx⟩) : Does Try.prog 18 xs bx r bx' ns :=
  does_of Try.func18 (by kernel_rfl : Try.f18.body = some (Try.f18.body.getD .skip)) rfl c_ref23_Ints (by kernel_rfl) (of_decide_eq_true hxs) hbx fun cx _ hm => h cx hm
def ac_ref23_SameRows : AC :=
  (AC.region [⟨some 4, .mov, [cb false], [], none⟩] false).seq
  (((AC.region [⟨some 6, .mov, [.t 0], [], none⟩, ⟨some 7, .len, [.t 6], [0], none⟩, ⟨some 8, .mov, [.t 1], [], none⟩, ⟨some 9, .len, [.t 8], [2], none⟩, ⟨some 10, .bin .neq, [.t 7, .t 9], [1, 3], none⟩] false).seq
  (AC.cond (.t 10) ((AC.region [⟨some 4, .mov, [cb false], [], none⟩] false).seq AC.ret) AC.skip)).seq
  (((AC.region [⟨some 5, .mov, [ci 0], [], none⟩] false).seq
  (AC.block 0 (((AC.region [⟨some 11, .mov, [.t 5], [], none⟩, ⟨some 12, .mov, [.t 0], [], none⟩, ⟨some 13, .len, [.t 12], [1], none⟩, ⟨some 14, .bin .lss, [.t 11, .t 13], [0, 2], none⟩] false).seq
  (AC.cond (.t 14) AC.skip (AC.exit 0))).seq
  ((AC.block 1 ((AC.region [⟨some 17, .mov, [.t 0], [], none⟩, ⟨some 18, .mov, [.t 5], [], none⟩, ⟨some 19, .iad 1, [.t 17, .t 18], [0, 1], none⟩, ⟨some 20, .load 1 false, [.t 19], [2], none⟩, ⟨some 21, .mov, [.t 1], [], none⟩, ⟨some 22, .mov, [.t 5], [], none⟩, ⟨some 23, .iad 1, [.t 21, .t 22], [4, 5], none⟩, ⟨some 24, .load 1 false, [.t 23], [6], none⟩, ⟨some 25, .call 18, [.t 20, .t 24], [3, 7], none⟩, ⟨some 26, .un .not, [.t 25], [8], none⟩] true).seq
  (AC.cond (.t 26) ((AC.region [⟨some 4, .mov, [cb false], [], none⟩] false).seq AC.ret) AC.skip))).seq
  (AC.region [⟨some 15, .mov, [.t 5], [], none⟩, ⟨some 16, .bin .add, [.t 15, ci 1], [0], none⟩, ⟨some 5, .mov, [.t 16], [1, 0, 1], none⟩] false))).loop)).seq
  ((AC.region [⟨some 4, .mov, [cb true], [], none⟩] false).seq AC.ret)))
def rs_ref23_SameRows : List RV := [.t 4]
theorem c_ref23_SameRows : compile Try.prog (Go.Func.ntmps Try.f63) (Try.f63.body.getD .skip) = some ac_ref23_SameRows := by kernel_rfl
theorem go_ref23_SameRows {xs : List V} {bx bx' : U} {r : V} {ns : List O} (hxs : decide (xs.length ≤ Go.Func.ntmps Try.f63) = true) (hbx : BxOK bx bx') (h : ∀ cx : Cx, cx.m0 = ups M0 bx → Awp Try.prog cx ac_ref23_SameRows (RetE rs_ref23_SameRows r bx' ns) ⟨tl (idx 0 xs), ups M0 bx⟩) : Does Try.prog 63 xs bx r bx' ns :=
  does_of Try.func63 (by kernel_rfl : Try.f63.body = some (Try.f63.body.getD .skip)) rfl c_ref23_SameRows (by kernel_rfl) (of_decide_eq_true hxs) hbx fun cx _ hm => h cx hm
def ac_ref16_Limits : AC :=
  (AC.region [⟨some 3, .box, [.t 0], [], none⟩, ⟨some 6, .mov, [AV.c (V.nl 1)], [], none⟩, ⟨some 7, .mov, [ci 0], [1], none⟩] false).seq
  (((AC.region [⟨some 10, .load 1 true, [.t 3], [], none⟩, ⟨some 11, .call 52, [.t 10], [0], none⟩, ⟨some 8, .mov, [.t 11], [1, 1, 0, 1], none⟩] false).seq
  ((AC.region [⟨some 12, .mov, [.t 8], [], none⟩, ⟨some 13, .bin .neq, [.t 12, ci 0], [0], none⟩] false).seq
  (AC.cond (.t 13) ((AC.region [⟨some 14, .mov, [.t 8], [], none⟩, ⟨some 6, .mov, [AV.c (V.nl 1)], [], none⟩, ⟨some 7, .mov, [.t 14], [0, 1, 0, 1], none⟩] false).seq AC.ret) AC.skip))).seq
  (((AC.region [⟨some 15, .mov, [.t 2], [], none⟩, ⟨some 16, .bin .lss, [.t 15, ci 2], [0], none⟩, ⟨some 17, .mov, [.t 16], [1], none⟩, ⟨some 18, .mov, [.t 2], [2], some (2, 17, false)⟩, ⟨some 19, .bin .gtr, [.t 18, ci 10], [3, 2], some (2, 17, false)⟩, ⟨some 20, .pick, [.t 17, cb true, .t 19], [2, 4], none⟩, ⟨some 21, .mov, [.t 20], [5, 2], none⟩, ⟨some 22, .mov, [.t 1], [6], some (6, 21, false)⟩, ⟨some 23, .bin .lss, [.t 22, ci 1], [7, 6], some (6, 21, false)⟩, ⟨some 24, .pick, [.t 21, cb true, .t 23], [6, 8], none⟩, ⟨some 25, .mov, [.t 24], [9, 6], none⟩, ⟨some 26, .mov, [.t 1], [10], some (10, 25, false)⟩, ⟨some 27, .bin .gtr, [.t 26, ci 1024], [11, 10], some (10, 25, false)⟩, ⟨some 28, .pick, [.t 25, cb true, .t 27], [10, 12], none⟩] false).seq
  (AC.cond (.t 28) ((AC.region [⟨some 6, .mov, [AV.c (V.nl 1)], [], none⟩, ⟨some 7, .mov, [ci 1], [0, 0], none⟩] false).seq AC.ret) AC.skip)).seq
  ((AC.region [⟨some 9, .mov, [AV.c (V.nl 1)], [], none⟩] false).seq
  (((AC.region [⟨some 29, .mov, [.t 1], [], none⟩, ⟨some 30, .mov, [.t 2], [], none⟩, ⟨some 31, .bin .sub, [.t 30, ci 1], [1], none⟩, ⟨some 32, .bin .mul, [.t 29, .t 31], [0, 2], none⟩, ⟨some 33, .mov, [ci 0], [], none⟩] false).seq
  (AC.block 0 ((AC.region [⟨some 34, .bin .lss, [.t 33, .t 32], [], none⟩] false).seq
  ((AC.cond (.t 34) AC.skip (AC.exit 0)).seq
  ((AC.block 1 (AC.region [⟨some 35, .mov, [.t 9], [], none⟩, ⟨some 36, .fad 0, [.t 3], [], none⟩, ⟨some 37, .load 1 false, [.t 36], [1], none⟩, ⟨some 38, .bsl 1 [I 0] 1 [0], [.t 37], [2], none⟩, ⟨some 39, .app 1 8, [.t 35, .t 38], [0, 3], none⟩, ⟨some 9, .mov, [.t 39], [4, 4, 0, 1, 2, 3, 4], none⟩] false)).seq
  (AC.region [⟨some 40, .bin .add, [.t 33, ci 1], [], none⟩, ⟨some 33, .mov, [.t 40], [0], none⟩] false)))).loop)).seq
  ((AC.region [⟨some 41, .mov, [.t 9], [], none⟩, ⟨some 6, .mov, [.t 41], [0, 0], none⟩, ⟨some 7, .mov, [ci 0], [1, 0, 1], none⟩] false).seq AC.ret)))))
def rs_ref16_Limits : List RV := [.t 6, .t 7]
theorem c_ref16_Limits : compile Try.prog (Go.Func.ntmps Try.f53) (Try.f53.body.getD .skip) = some ac_ref16_Limits := by kernel_rfl
theorem go_ref16_Limits {xs : List V} {bx bx' : U} {r : V} {ns : List O} (hxs : decide (xs.length ≤ Go.Func.ntmps Try.f53) = true) (hbx : BxOK bx bx') (h : ∀ cx : Cx, cx.m0 = ups M0 bx → Awp Try.prog cx ac_ref16_Limits (RetE rs_ref16_Limits r bx' ns) ⟨tl (idx 0 xs), ups M0 bx⟩) : Does Try.prog 53 xs bx r bx' ns :=
  does_of Try.func53 (by kernel_rfl : Try.f53.body = some (Try.f53.body.getD .skip)) rfl c_ref16_Limits (by kernel_rfl) (of_decide_eq_true hxs) hbx fun cx _ hm => h cx hm
def ac_ref16_Queries : AC :=
  (AC.region [⟨some 5, .box, [.t 0], [], none⟩, ⟨some 9, .box, [.t 4], [], none⟩, ⟨some 10, .mov, [AV.c (V.nl 1)], [], none⟩, ⟨some 11, .alloc [V.nl 1, I 0], [], [], none⟩, ⟨some 12, .mov, [ci 0], [2], none⟩] false).seq
  (((AC.region [⟨some 24, .load 1 true, [.t 5], [], none⟩, ⟨some 25, .mov, [.t 1], [], none⟩, ⟨some 26, .mov, [.t 2], [], none⟩, ⟨some 27, .call 53, [.t 24, .t 25, .t 26], [0, 1, 2], none⟩, ⟨some 23, .mov, [.t 27], [3], none⟩, ⟨some 28, .ext 0, [.t 23], [4], none⟩, ⟨some 29, .ext 1, [.t 23], [4], none⟩, ⟨some 13, .mov, [.t 28], [5, 3, 0, 1, 2, 3, 4, 5], none⟩, ⟨some 14, .mov, [.t 29], [6, 7, 0, 1, 2, 3, 4, 5, 6, 7], none⟩] false).seq
  ((AC.region [⟨some 30, .mov, [.t 14], [], none⟩, ⟨some 31, .bin .neq, [.t 30, ci 0], [0], none⟩] false).seq
  (AC.cond (.t 31) ((AC.region [⟨some 32, .build [V.nl 1, I 0] [], [], [], none⟩, ⟨some 33, .mov, [.t 14], [], none⟩, ⟨some 10, .mov, [AV.c (V.nl 1)], [], none⟩, ⟨none, .store 2, [.t 11, .t 32], [0, 2, 0, 2], none⟩, ⟨some 12, .mov, [.t 33], [1, 3, 0, 1, 2, 3], none⟩] false).seq AC.ret) AC.skip))).seq
  (((AC.region [⟨some 34, .mov, [.t 3], [], none⟩, ⟨some 35, .bin .lss, [.t 34, ci 0], [0], none⟩, ⟨some 36, .mov, [.t 35], [1], none⟩, ⟨some 37, .mov, [.t 3], [2], some (2, 36, false)⟩, ⟨some 38, .mov, [.t 1], [2], some (2, 36, false)⟩, ⟨some 39, .bin .geq, [.t 37, .t 38], [3, 4, 2], some (2, 36, false)⟩, ⟨some 40, .pick, [.t 36, cb true, .t 39], [2, 5], none⟩] false).seq
  (AC.cond (.t 40) ((AC.region [⟨some 41, .build [V.nl 1, I 0] [], [], [], none⟩, ⟨some 10, .mov, [AV.c (V.nl 1)], [], none⟩, ⟨none, .store 2, [.t 11, .t 41], [0, 1, 0, 1], none⟩, ⟨some 12, .mov, [ci 6], [2, 0, 1, 2], none⟩] false).seq AC.ret) AC.skip)).seq
  ((AC.region [⟨some 43, .load 2 true, [.t 9], [], none⟩, ⟨some 44, .fad 0, [.t 5], [], none⟩, ⟨some 45, .load 1 false, [.t 44], [1], none⟩, ⟨some 46, .mov, [.t 1], [], none⟩, ⟨some 47, .mov, [.t 2], [], none⟩, ⟨some 48, .bin .sub, [.t 47, ci 1], [4], none⟩, ⟨some 49, .bin .mul, [.t 46, .t 48], [3, 5], none⟩, ⟨some 50, .call 66, [.t 43, .t 45, .t 49], [0, 2, 6], none⟩, ⟨some 42, .mov, [.t 50], [7], none⟩, ⟨some 51, .ext 0, [.t 42], [8], none⟩, ⟨some 52, .ext 1, [.t 42], [8], none⟩, ⟨some 53, .ext 2, [.t 42], [8], none⟩, ⟨none, .store 2, [.t 9, .t 51], [9, 7, 0, 1, 2, 3, 4, 5, 6, 7, 8, 9], none⟩, ⟨some 15, .mov, [.t 52], [10, 12, 0, 1, 2, 3, 4, 5, 6, 7, 8, 9, 10, 12], none⟩, ⟨some 16, .mov, [.t 53], [11, 13, 0, 1, 2, 3, 4, 5, 6, 7, 8, 9, 10, 11, 12, 13], none⟩] false).seq
  (((AC.region [⟨some 54, .mov, [.t 16], [], none⟩, ⟨some 55, .bin .neq, [.t 54, ci 0], [0], none⟩] false).seq
  (AC.cond (.t 55) ((AC.region [⟨some 56, .build [V.nl 1, I 0] [], [], [], none⟩, ⟨some 57, .mov, [.t 16], [], none⟩, ⟨some 10, .mov, [AV.c (V.nl 1)], [], none⟩, ⟨none, .store 2, [.t 11, .t 56], [0, 2, 0, 2], none⟩, ⟨some 12, .mov, [.t 57], [1, 3, 0, 1, 2, 3], none⟩] false).seq AC.ret) AC.skip)).seq
  ((AC.region [⟨some 58, .mov, [.t 1], [], none⟩, ⟨some 59, .mks 1 [I 0] 8, [.t 58, .t 58], [0, 0], none⟩, ⟨some 17, .mov, [.t 59], [1, 0, 1], none⟩] false).seq
  ((AC.region [⟨some 60, .mov, [.t 17], [], none⟩, ⟨some 61, .mov, [.t 3], [], none⟩, ⟨some 62, .iad 1, [.t 60, .t 61], [0, 1, 0, 1], none⟩, ⟨none, .store 1, [.t 62, ci 1], [2, 0, 1], none⟩] false).seq
  ((AC.region [⟨some 18, .mov, [AV.c (V.nl 1)], [], none⟩] false).seq
  (((AC.region [⟨some 19, .mov, [ci 0], [], none⟩] false).seq
  (AC.block 0 (((AC.region [⟨some 63, .mov, [.t 19], [], none⟩, ⟨some 64, .mov, [.t 2], [], none⟩, ⟨some 65, .bin .sub, [.t 64, ci 1], [1], none⟩, ⟨some 66, .bin .lss, [.t 63, .t 65], [0, 2], none⟩] false).seq
  (AC.cond (.t 66) AC.skip (AC.exit 0))).seq
  ((AC.block 1 ((AC.region [⟨some 69, .mov, [.t 15], [], none⟩, ⟨some 70, .mov, [.t 19], [], none⟩, ⟨some 71, .mov, [.t 1], [], none⟩, ⟨some 72, .bin .mul, [.t 70, .t 71], [1, 2], none⟩, ⟨some 73, .mov, [.t 19], [], none⟩, ⟨some 74, .bin .add, [.t 73, ci 1], [4], none⟩, ⟨some 75, .mov, [.t 1], [], none⟩, ⟨some 76, .bin .mul, [.t 74, .t 75], [5, 6], none⟩, ⟨some 77, .slc true true false 1, [.t 69, .t 72, .t 76], [0, 3, 7], none⟩, ⟨some 78, .app 1 8, [AV.c (V.nl 1), .t 77], [8], none⟩, ⟨some 20, .mov, [.t 78], [9, 9, 0, 1, 2, 3, 4, 5, 6, 7, 8, 9], none⟩] false).seq
  (((AC.region [⟨some 79, .mov, [.t 20], [], none⟩, ⟨some 80, .len, [.t 79], [0], none⟩, ⟨some 81, .mov, [ci 0], [], none⟩] false).seq
  (AC.block 2 ((AC.region [⟨some 82, .bin .lss, [.t 81, .t 80], [], none⟩] false).seq
  ((AC.cond (.t 82) AC.skip (AC.exit 2)).seq
  ((AC.block 3 ((AC.region [⟨some 83, .mov, [.t 81], [], none⟩, ⟨some 84, .iad 1, [.t 79, .t 81], [], none⟩, ⟨some 85, .load 1 false, [.t 84], [1], none⟩, ⟨some 21, .mov, [.t 83], [0, 0, 1, 2], none⟩, ⟨some 22, .mov, [.t 85], [2, 3, 0, 1, 2, 3], none⟩] false).seq
  (AC.region [⟨some 86, .mov, [.t 17], [], none⟩, ⟨some 87, .mov, [.t 21], [], none⟩, ⟨some 88, .mov, [.t 17], [], none⟩, ⟨some 89, .mov, [.t 21], [], none⟩, ⟨some 90, .iad 1, [.t 88, .t 89], [2, 3], none⟩, ⟨some 91, .load 1 false, [.t 90], [4], none⟩, ⟨some 92, .fad 0, [.t 5], [], none⟩, ⟨some 93, .load 1 false, [.t 92], [6], none⟩, ⟨some 94, .bin .add, [.t 91, .t 93], [5, 7], none⟩, ⟨some 95, .mov, [.t 22], [], none⟩, ⟨some 96, .bin .sub, [.t 94, .t 95], [8, 9], none⟩, ⟨some 97, .fad 0, [.t 5], [], none⟩, ⟨some 98, .load 1 false, [.t 97], [11], none⟩, ⟨some 99, .bin .rem, [.t 96, .t 98], [10, 12], none⟩, ⟨some 100, .iad 1, [.t 86, .t 87], [0, 1, 0, 1, 2, 3, 4, 5, 6, 7, 8, 9, 10, 11, 12, 13], none⟩, ⟨none, .store 1, [.t 100, .t 99], [14, 13, 0, 1, 2, 3, 4, 5, 6, 7, 8, 9, 10, 11, 12, 13], none⟩] true))).seq
  (AC.region [⟨some 101, .bin .add, [.t 81, ci 1], [], none⟩, ⟨some 81, .mov, [.t 101], [0], none⟩] false)))).loop)).seq
  (AC.region [⟨some 102, .mov, [.t 18], [], none⟩, ⟨some 103, .mov, [.t 20], [], none⟩, ⟨some 104, .bsl 1 [V.nl 1] 1 [0], [.t 103], [1], none⟩, ⟨some 105, .app 1 24, [.t 102, .t 104], [0, 2], none⟩, ⟨some 18, .mov, [.t 105], [3, 3, 0, 1, 2, 3], none⟩] false)))).seq
  (AC.region [⟨some 67, .mov, [.t 19], [], none⟩, ⟨some 68, .bin .add, [.t 67, ci 1], [0], none⟩, ⟨some 19, .mov, [.t 68], [1, 0, 1], none⟩] false))).loop)).seq
  ((AC.region [⟨some 106, .mov, [.t 18], [], none⟩, ⟨some 107, .mov, [.t 17], [], none⟩, ⟨some 108, .bsl 1 [V.nl 1] 1 [0], [.t 107], [1], none⟩, ⟨some 109, .app 1 24, [.t 106, .t 108], [0, 2], none⟩, ⟨some 110, .load 2 true, [.t 9], [], none⟩, ⟨some 10, .mov, [.t 109], [3, 3, 0, 1, 2, 3], none⟩, ⟨none, .store 2, [.t 11, .t 110], [4, 5, 0, 1, 2, 3, 4, 5], none⟩, ⟨some 12, .mov, [ci 0], [6, 0, 1, 2, 3, 4, 5, 6], none⟩] true).seq AC.ret)))))))))
def rs_ref16_Queries : List RV := [.t 10, .c 11 2 true, .t 12]
theorem c_ref16_Queries : compile Try.prog (Go.Func.ntmps Try.f59) (Try.f59.body.getD .skip) = some ac_ref16_Queries := by kernel_rfl
theorem go_ref16_Queries {xs : List V} {bx bx' : U} {r : V} {ns : List O} (hxs : decide (xs.length ≤ Go.Func.ntmps Try.f59) = true) (hbx : BxOK bx bx') (h : ∀ cx : Cx, cx.m0 = ups M0 bx → Awp Try.prog cx ac_ref16_Queries (RetE rs_ref16_Queries r bx' ns) ⟨tl (idx 0 xs), ups M0 bx⟩) : Does Try.prog 59 xs bx r bx' ns :=
  does_of Try.func59 (by kernel_rfl : Try.f59.body = some (Try.f59.body.getD .skip)) rfl c_ref16_Queries (by kernel_rfl) (of_decide_eq_true hxs) hbx fun cx _ hm => h cx hm
def ac_ref17_Check : AC :=
  (AC.region [⟨some 2, .box, [.t 0], [], none⟩, ⟨some 3, .box, [.t 1], [], none⟩, ⟨some 4, .mov, [ci 0], [], none⟩] false).seq
  (((AC.region [⟨some 6, .load 1 true, [.t 2], [], none⟩, ⟨some 7, .call 52, [.t 6], [0], none⟩, ⟨some 5, .mov, [.t 7], [1, 1, 0, 1], none⟩] false).seq
  ((AC.region [⟨some 8, .mov, [.t 5], [], none⟩, ⟨some 9, .bin .neq, [.t 8, ci 0], [0], none⟩] false).seq
  (AC.cond (.t 9) ((AC.region [⟨some 10, .mov, [.t 5], [], none⟩, ⟨some 4, .mov, [.t 10], [0, 0], none⟩] false).seq AC.ret) AC.skip))).seq
  (((AC.region [⟨some 11, .fad 0, [.t 3], [], none⟩, ⟨some 12, .load 1 false, [.t 11], [0], none⟩, ⟨some 13, .bin .lss, [.t 12, ci 2], [1], none⟩, ⟨some 14, .mov, [.t 13], [2], none⟩, ⟨some 15, .fad 0, [.t 3], [3], some (3, 14, false)⟩, ⟨some 16, .load 1 false, [.t 15], [4, 3], some (3, 14, false)⟩, ⟨some 17, .bin .gtr, [.t 16, ci 10], [5, 3], some (3, 14, false)⟩, ⟨some 18, .pick, [.t 14, cb true, .t 17], [3, 6], none⟩, ⟨some 19, .mov, [.t 18], [7, 3], none⟩, ⟨some 20, .fad 0, [.t 3], [8], some (8, 19, false)⟩, ⟨some 21, .load 1 false, [.t 20], [9, 8], some (8, 19, false)⟩, ⟨some 22, .fad 0, [.t 2], [8], some (8, 19, false)⟩, ⟨some 23, .load 1 false, [.t 22], [11, 8], some (8, 19, false)⟩, ⟨some 24, .bin .geq, [.t 21, .t 23], [10, 12, 8], some (8, 19, false)⟩, ⟨some 25, .pick, [.t 19, cb true, .t 24], [8, 13], none⟩, ⟨some 26, .mov, [.t 25], [14, 8], none⟩, ⟨some 27, .fad 1, [.t 3], [15], some (15, 26, false)⟩, ⟨some 28, .load 1 false, [.t 27], [16, 15], some (15, 26, false)⟩, ⟨some 29, .bin .lss, [.t 28, ci 1], [17, 15], some (15, 26, false)⟩, ⟨some 30, .pick, [.t 26, cb true, .t 29], [15, 18], none⟩, ⟨some 31, .mov, [.t 30], [19, 15], none⟩, ⟨some 32, .fad 1, [.t 3], [20], some (20, 31, false)⟩, ⟨some 33, .load 1 false, [.t 32], [21, 20], some (20, 31, false)⟩, ⟨some 34, .fad 0, [.t 3], [20], some (20, 31, false)⟩, ⟨some 35, .load 1 false, [.t 34], [23, 20], some (20, 31, false)⟩, ⟨some 36, .bin .sub, [.t 35, ci 1], [24, 20], some (20, 31, false)⟩, ⟨some 37, .bin .gtr, [.t 33, .t 36], [22, 25, 20], some (20, 31, false)⟩, ⟨some 38, .pick, [.t 31, cb true, .t 37], [20, 26], none⟩] false).seq
  (AC.cond (.t 38) ((AC.region [⟨some 4, .mov, [ci 1], [], none⟩] false).seq AC.ret) AC.skip)).seq
  ((AC.region [⟨some 4, .mov, [ci 0], [], none⟩] false).seq AC.ret)))
def rs_ref17_Check : List RV := [.t 4]
theorem c_ref17_Check : compile Try.prog (Go.Func.ntmps Try.f64) (Try.f64.body.getD .skip) = some ac_ref17_Check := by kernel_rfl
theorem go_ref17_Check {xs : List V} {bx bx' : U} {r : V} {ns : List O} (hxs : decide (xs.length ≤ Go.Func.ntmps Try.f64) = true) (hbx : BxOK bx bx') (h : ∀ cx : Cx, cx.m0 = ups M0 bx → Awp Try.prog cx ac_ref17_Check (RetE rs_ref17_Check r bx' ns) ⟨tl (idx 0 xs), ups M0 bx⟩) : Does Try.prog 64 xs bx r bx' ns :=
  does_of Try.func64 (by kernel_rfl : Try.f64.body = some (Try.f64.body.getD .skip)) rfl c_ref17_Check (by kernel_rfl) (of_decide_eq_true hxs) hbx fun cx _ hm => h cx hm
def ac_ref17_Limits : AC :=
  (AC.region [⟨some 3, .box, [.t 0], [], none⟩, ⟨some 4, .box, [.t 1], [], none⟩, ⟨some 6, .mov, [AV.c (V.nl 1)], [], none⟩, ⟨some 7, .mov, [ci 0], [2], none⟩] false).seq
  (((AC.region [⟨some 10, .load 1 true, [.t 3], [], none⟩, ⟨some 11, .load 2 true, [.t 4], [], none⟩, ⟨some 12, .call 64, [.t 10, .t 11], [0, 1], none⟩, ⟨some 8, .mov, [.t 12], [2, 2, 0, 1, 2], none⟩] false).seq
  ((AC.region [⟨some 13, .mov, [.t 8], [], none⟩, ⟨some 14, .bin .neq, [.t 13, ci 0], [0], none⟩] false).seq
  (AC.cond (.t 14) ((AC.region [⟨some 15, .mov, [.t 8], [], none⟩, ⟨some 6, .mov, [AV.c (V.nl 1)], [], none⟩, ⟨some 7, .mov, [.t 15], [0, 1, 0, 1], none⟩] false).seq AC.ret) AC.skip))).seq
  (((AC.region [⟨some 16, .mov, [.t 2], [], none⟩, ⟨some 17, .bin .lss, [.t 16, ci 1], [0], none⟩, ⟨some 18, .mov, [.t 17], [1], none⟩, ⟨some 19, .mov, [.t 2], [2], some (2, 18, false)⟩, ⟨some 20, .bin .gtr, [.t 19, ci 1024], [3, 2], some (2, 18, false)⟩, ⟨some 21, .pick, [.t 18, cb true, .t 20], [2, 4], none⟩] false).seq
  (AC.cond (.t 21) ((AC.region [⟨some 6, .mov, [AV.c (V.nl 1)], [], none⟩, ⟨some 7, .mov, [ci 1], [0, 0], none⟩] false).seq AC.ret) AC.skip)).seq
  ((AC.region [⟨some 9, .mov, [AV.c (V.nl 1)], [], none⟩] false).seq
  (((AC.region [⟨some 22, .mov, [.t 2], [], none⟩, ⟨some 23, .fad 1, [.t 4], [], none⟩, ⟨some 24, .load 1 false, [.t 23], [1], none⟩, ⟨some 25, .bin .mul, [.t 22, .t 24], [0, 2], none⟩, ⟨some 26, .mov, [ci 0], [], none⟩] false).seq
  (AC.block 0 ((AC.region [⟨some 27, .bin .lss, [.t 26, .t 25], [], none⟩] false).seq
  ((AC.cond (.t 27) AC.skip (AC.exit 0)).seq
  ((AC.block 1 (AC.region [⟨some 28, .mov, [.t 9], [], none⟩, ⟨some 29, .fad 0, [.t 3], [], none⟩, ⟨some 30, .load 1 false, [.t 29], [1], none⟩, ⟨some 31, .bsl 1 [I 0] 1 [0], [.t 30], [2], none⟩, ⟨some 32, .app 1 8, [.t 28, .t 31], [0, 3], none⟩, ⟨some 9, .mov, [.t 32], [4, 4, 0, 1, 2, 3, 4], none⟩] false)).seq
  (AC.region [⟨some 33, .bin .add, [.t 26, ci 1], [], none⟩, ⟨some 26, .mov, [.t 33], [0], none⟩] false)))).loop)).seq
  ((AC.region [⟨some 34, .mov, [.t 9], [], none⟩, ⟨some 6, .mov, [.t 34], [0, 0], none⟩, ⟨some 7, .mov, [ci 0], [1, 0, 1], none⟩] false).seq AC.ret)))))
def rs_ref17_Limits : List RV := [.t 6, .t 7]
theorem c_ref17_Limits : compile Try.prog (Go.Func.ntmps Try.f54) (Try.f54.body.getD .skip) = some ac_ref17_Limits := by kernel_rfl
theorem go_ref17_Limits {xs : List V} {bx bx' : U} {r : V} {ns : List O} (hxs : decide (xs.length ≤ Go.Func.ntmps Try.f54) = true) (hbx : BxOK bx bx') (h : ∀ cx : Cx, cx.m0 = ups M0 bx → Awp Try.prog cx ac_ref17_Limits (RetE rs_ref17_Limits r bx' ns) ⟨tl (idx 0 xs), ups M0 bx⟩) : Does Try.prog 54 xs bx r bx' ns :=
  does_of Try.func54 (by kernel_rfl : Try.f54.body = some (Try.f54.body.getD .skip)) rfl c_ref17_Limits (by kernel_rfl) (of_decide_eq_true hxs) hbx fun cx _ hm => h cx hm
def ac_ref17_Queries : AC :=
  (AC.region [⟨some 5, .box, [.t 0], [], none⟩, ⟨some 6, .box, [.t 1], [], none⟩, ⟨some 9, .box, [.t 4], [], none⟩, ⟨some 10, .mov, [AV.c (V.nl 1)], [], none⟩, ⟨some 11, .alloc [V.nl 1, I 0], [], [], none⟩, ⟨some 12, .mov, [ci 0], [3], none⟩] false).seq
  (((AC.region [⟨some 24, .load 1 true, [.t 5], [], none⟩, ⟨some 25, .load 2 true, [.t 6], [], none⟩, ⟨some 26, .mov, [.t 2], [], none⟩, ⟨some 27, .call 54, [.t 24, .t 25, .t 26], [0, 1, 2], none⟩, ⟨some 23, .mov, [.t 27], [3], none⟩, ⟨some 28, .ext 0, [.t 23], [4], none⟩, ⟨some 29, .ext 1, [.t 23], [4], none⟩, ⟨some 13, .mov, [.t 28], [5, 3, 0, 1, 2, 3, 4, 5], none⟩, ⟨some 14, .mov, [.t 29], [6, 7, 0, 1, 2, 3, 4, 5, 6, 7], none⟩] false).seq
  ((AC.region [⟨some 30, .mov, [.t 14], [], none⟩, ⟨some 31, .bin .neq, [.t 30, ci 0], [0], none⟩] false).seq
  (AC.cond (.t 31) ((AC.region [⟨some 32, .build [V.nl 1, I 0] [], [], [], none⟩, ⟨some 33, .mov, [.t 14], [], none⟩, ⟨some 10, .mov, [AV.c (V.nl 1)], [], none⟩, ⟨none, .store 2, [.t 11, .t 32], [0, 2, 0, 2], none⟩, ⟨some 12, .mov, [.t 33], [1, 3, 0, 1, 2, 3], none⟩] false).seq AC.ret) AC.skip))).seq
  (((AC.region [⟨some 34, .mov, [.t 3], [], none⟩, ⟨some 35, .bin .lss, [.t 34, ci 0], [0], none⟩, ⟨some 36, .mov, [.t 35], [1], none⟩, ⟨some 37, .mov, [.t 3], [2], some (2, 36, false)⟩, ⟨some 38, .mov, [.t 2], [2], some (2, 36, false)⟩, ⟨some 39, .bin .geq, [.t 37, .t 38], [3, 4, 2], some (2, 36, false)⟩, ⟨some 40, .pick, [.t 36, cb true, .t 39], [2, 5], none⟩] false).seq
  (AC.cond (.t 40) ((AC.region [⟨some 41, .build [V.nl 1, I 0] [], [], [], none⟩, ⟨some 10, .mov, [AV.c (V.nl 1)], [], none⟩, ⟨none, .store 2, [.t 11, .t 41], [0, 1, 0, 1], none⟩, ⟨some 12, .mov, [ci 6], [2, 0, 1, 2], none⟩] false).seq AC.ret) AC.skip)).seq
  ((AC.region [⟨some 42, .fad 0, [.t 6], [], none⟩, ⟨some 43, .load 1 false, [.t 42], [0], none⟩, ⟨some 44, .mks 1 [] 24, [.t 43, .t 43], [1, 1], none⟩, ⟨some 15, .mov, [.t 44], [2, 0, 1, 2], none⟩] false).seq
  (((AC.region [⟨some 16, .mov, [ci 0], [], none⟩] false).seq
  (AC.block 0 (((AC.region [⟨some 45, .mov, [.t 16], [], none⟩, ⟨some 46, .mov, [.t 2], [], none⟩, ⟨some 47, .bin .lss, [.t 45, .t 46], [0, 1], none⟩] false).seq
  (AC.cond (.t 47) AC.skip (AC.exit 0))).seq
  ((AC.block 1 ((AC.region [⟨some 17, .mov, [ci 0], [], none⟩] false).seq
  (((AC.region [⟨some 50, .mov, [.t 16], [], none⟩, ⟨some 51, .mov, [.t 3], [], none⟩, ⟨some 52, .bin .eql, [.t 50, .t 51], [0, 1], none⟩] false).seq
  (AC.cond (.t 52) (AC.region [⟨some 17, .mov, [ci 1], [], none⟩] false) AC.skip)).seq
  ((AC.region [⟨some 54, .load 1 true, [.t 5], [], none⟩, ⟨some 55, .mov, [.t 17], [], none⟩, ⟨some 56, .fad 1, [.t 6], [], none⟩, ⟨some 57, .load 1 false, [.t 56], [2], none⟩, ⟨some 58, .fad 0, [.t 6], [], none⟩, ⟨some 59, .load 1 false, [.t 58], [4], none⟩, ⟨some 60, .load 2 true, [.t 9], [], none⟩, ⟨some 61, .call 67, [.t 54, .t 55, .t 57, .t 59, .t 60], [0, 1, 3, 5, 6], none⟩, ⟨some 53, .mov, [.t 61], [7], none⟩, ⟨some 62, .ext 0, [.t 53], [8], none⟩, ⟨some 63, .ext 1, [.t 53], [8], none⟩, ⟨some 64, .ext 2, [.t 53], [8], none⟩, ⟨some 19, .alloc [V.nl 1, I 0], [], [], none⟩, ⟨some 18, .mov, [.t 62], [9, 7, 0, 1, 2, 3, 4, 5, 6, 7, 8, 9, 12], none⟩, ⟨none, .store 2, [.t 19, .t 63], [12, 10, 13, 0, 1, 2, 3, 4, 5, 6, 7, 8, 9, 10, 12, 13], none⟩, ⟨some 20, .mov, [.t 64], [11, 14, 0, 1, 2, 3, 4, 5, 6, 7, 8, 9, 10, 11, 12, 13, 14], none⟩] false).seq
  (((AC.region [⟨some 65, .mov, [.t 20], [], none⟩, ⟨some 66, .bin .neq, [.t 65, ci 0], [0], none⟩] false).seq
  (AC.cond (.t 66) ((AC.region [⟨some 67, .build [V.nl 1, I 0] [], [], [], none⟩, ⟨some 68, .mov, [.t 20], [], none⟩, ⟨some 10, .mov, [AV.c (V.nl 1)], [], none⟩, ⟨none, .store 2, [.t 11, .t 67], [0, 2, 0, 2], none⟩, ⟨some 12, .mov, [.t 68], [1, 3, 0, 1, 2, 3], none⟩] false).seq AC.ret) AC.skip)).seq
  ((AC.region [⟨some 69, .load 2 true, [.t 19], [], none⟩, ⟨none, .store 2, [.t 9, .t 69], [0, 0], none⟩] false).seq
  ((AC.region [⟨some 70, .mov, [.t 18], [], none⟩, ⟨some 71, .len, [.t 70], [0], none⟩, ⟨some 72, .mov, [ci 0], [], none⟩] false).seq
  (AC.block 2 ((AC.region [⟨some 73, .bin .lss, [.t 72, .t 71], [], none⟩] false).seq
  ((AC.cond (.t 73) AC.skip (AC.exit 2)).seq
  ((AC.block 3 ((AC.region [⟨some 74, .mov, [.t 72], [], none⟩, ⟨some 75, .iad 2, [.t 70, .t 72], [], none⟩, ⟨some 76, .load 2 true, [.t 75], [1], none⟩, ⟨some 22, .alloc [I 0, I 0], [], [], none⟩, ⟨some 21, .mov, [.t 74], [0, 0, 1, 2, 3], none⟩, ⟨none, .store 2, [.t 22, .t 76], [3, 2, 4, 0, 1, 2, 3, 4], none⟩] false).seq
  (AC.region [⟨some 77, .mov, [.t 15], [], none⟩, ⟨some 78, .mov, [.t 21], [], none⟩, ⟨some 79, .mov, [.t 15], [], none⟩, ⟨some 80, .mov, [.t 21], [], none⟩, ⟨some 81, .iad 1, [.t 79, .t 80], [2, 3], none⟩, ⟨some 82, .load 1 false, [.t 81], [4], none⟩, ⟨some 83, .fad 1, [.t 22], [], none⟩, ⟨some 84, .load 1 false, [.t 83], [6], none⟩, ⟨some 85, .bsl 1 [I 0] 1 [0], [.t 84], [7], none⟩, ⟨some 86, .app 1 8, [.t 82, .t 85], [5, 8], none⟩, ⟨some 87, .iad 1, [.t 77, .t 78], [0, 1, 0, 1, 2, 3, 4, 5, 6, 7, 8, 9], none⟩, ⟨none, .store 1, [.t 87, .t 86], [10, 9, 9, 0, 1, 2, 3, 4, 5, 6, 7, 8, 9], none⟩] true))).seq
  (AC.region [⟨some 88, .bin .add, [.t 72, ci 1], [], none⟩, ⟨some 72, .mov, [.t 88], [0], none⟩] false)))).loop)))))))).seq
  (AC.region [⟨some 48, .mov, [.t 16], [], none⟩, ⟨some 49, .bin .add, [.t 48, ci 1], [0], none⟩, ⟨some 16, .mov, [.t 49], [1, 0, 1], none⟩] false))).loop)).seq
  ((AC.region [⟨some 89, .mov, [.t 15], [], none⟩, ⟨some 90, .load 2 true, [.t 9], [], none⟩, ⟨some 10, .mov, [.t 89], [0, 0], none⟩, ⟨none, .store 2, [.t 11, .t 90], [1, 2, 0, 1, 2], none⟩, ⟨some 12, .mov, [ci 0], [3, 0, 1, 2, 3], none⟩] true).seq AC.ret)))))
def rs_ref17_Queries : List RV := [.t 10, .c 11 2 true, .t 12]
theorem c_ref17_Queries : compile Try.prog (Go.Func.ntmps Try.f60) (Try.f60.body.getD .skip) = some ac_ref17_Queries := by kernel_rfl
theorem go_ref17_Queries {xs : List V} {bx bx' : U} {r : V} {ns : List O} (hxs : decide (xs.length ≤ Go.Func.ntmps Try.f60) = true) (hbx : BxOK bx bx') (h : ∀ cx : Cx, cx.m0 = ups M0 bx → Awp Try.prog cx ac_ref17_Queries (RetE rs_ref17_Queries r bx' ns) ⟨tl (idx 0 xs), ups M0 bx⟩) : Does Try.prog 60 xs bx r bx' ns :=
  does_of Try.func60 (by kernel_rfl : Try.f60.body = some (Try.f60.body.getD .skip)) rfl c_ref17_Queries (by kernel_rfl) (of_decide_eq_true hxs) hbx fun cx _ hm => h cx hm
def ac_ref18_Check : AC :=
  (AC.region [⟨some 2, .box, [.t 0], [], none⟩, ⟨some 3, .box, [.t 1], [], none⟩, ⟨some 4, .mov, [ci 0], [], none⟩] false).seq
  (((AC.region [⟨some 6, .load 1 true, [.t 2], [], none⟩, ⟨some 7, .call 52, [.t 6], [0], none⟩, ⟨some 5, .mov, [.t 7], [1, 1, 0, 1], none⟩] false).seq
  ((AC.region [⟨some 8, .mov, [.t 5], [], none⟩, ⟨some 9, .bin .neq, [.t 8, ci 0], [0], none⟩] false).seq
  (AC.cond (.t 9) ((AC.region [⟨some 10, .mov, [.t 5], [], none⟩, ⟨some 4, .mov, [.t 10], [0, 0], none⟩] false).seq AC.ret) AC.skip))).seq
  (((AC.region [⟨some 11, .fad 0, [.t 3], [], none⟩, ⟨some 12, .load 1 false, [.t 11], [0], none⟩, ⟨some 13, .bin .lss, [.t 12, ci 2], [1], none⟩, ⟨some 14, .mov, [.t 13], [2], none⟩, ⟨some 15, .fad 0, [.t 3], [3], some (3, 14, false)⟩, ⟨some 16, .load 1 false, [.t 15], [4, 3], some (3, 14, false)⟩, ⟨some 17, .bin .gtr, [.t 16, ci 10], [5, 3], some (3, 14, false)⟩, ⟨some 18, .pick, [.t 14, cb true, .t 17], [3, 6], none⟩, ⟨some 19, .mov, [.t 18], [7, 3], none⟩, ⟨some 20, .fad 0, [.t 3], [8], some (8, 19, false)⟩, ⟨some 21, .load 1 false, [.t 20], [9, 8], some (8, 19, false)⟩, ⟨some 22, .fad 0, [.t 2], [8], some (8, 19, false)⟩, ⟨some 23, .load 1 false, [.t 22], [11, 8], some (8, 19, false)⟩, ⟨some 24, .bin .geq, [.t 21, .t 23], [10, 12, 8], some (8, 19, false)⟩, ⟨some 25, .pick, [.t 19, cb true, .t 24], [8, 13], none⟩, ⟨some 26, .mov, [.t 25], [14, 8], none⟩, ⟨some 27, .fad 1, [.t 3], [15], some (15, 26, false)⟩, ⟨some 28, .load 1 false, [.t 27], [16, 15], some (15, 26, false)⟩, ⟨some 29, .bin .lss, [.t 28, ci 1], [17, 15], some (15, 26, false)⟩, ⟨some 30, .pick, [.t 26, cb true, .t 29], [15, 18], none⟩, ⟨some 31, .mov, [.t 30], [19, 15], none⟩, ⟨some 32, .fad 1, [.t 3], [20], some (20, 31, false)⟩, ⟨some 33, .load 1 false, [.t 32], [21, 20], some (20, 31, false)⟩, ⟨some 34, .fad 0, [.t 3], [20], some (20, 31, false)⟩, ⟨some 35, .load 1 false, [.t 34], [23, 20], some (20, 31, false)⟩, ⟨some 36, .bin .gtr, [.t 33, .t 35], [22, 24, 20], some (20, 31, false)⟩, ⟨some 37, .pick, [.t 31, cb true, .t 36], [20, 25], none⟩, ⟨some 38, .mov, [.t 37], [26, 20], none⟩, ⟨some 39, .fad 2, [.t 3], [27], some (27, 38, false)⟩, ⟨some 40, .load 1 false, [.t 39], [28, 27], some (27, 38, false)⟩, ⟨some 41, .bin .lss, [.t 40, ci 1], [29, 27], some (27, 38, false)⟩, ⟨some 42, .pick, [.t 38, cb true, .t 41], [27, 30], none⟩, ⟨some 43, .mov, [.t 42], [31, 27], none⟩, ⟨some 44, .fad 2, [.t 3], [32], some (32, 43, false)⟩, ⟨some 45, .load 1 false, [.t 44], [33, 32], some (32, 43, false)⟩, ⟨some 46, .fad 0, [.t 3], [32], some (32, 43, false)⟩, ⟨some 47, .load 1 false, [.t 46], [35, 32], some (32, 43, false)⟩, ⟨some 48, .bin .gtr, [.t 45, .t 47], [34, 36, 32], some (32, 43, false)⟩, ⟨some 49, .pick, [.t 43, cb true, .t 48], [32, 37], none⟩, ⟨some 50, .mov, [.t 49], [38, 32], none⟩, ⟨some 51, .fad 2, [.t 3], [39], some (39, 50, false)⟩, ⟨some 52, .load 1 false, [.t 51], [40, 39], some (39, 50, false)⟩, ⟨some 53, .bin .mul, [ci 2, .t 52], [41, 39], some (39, 50, false)⟩, ⟨some 54, .fad 1, [.t 3], [39], some (39, 50, false)⟩, ⟨some 55, .load 1 false, [.t 54], [43, 39], some (39, 50, false)⟩, ⟨some 56, .bin .add, [.t 53, .t 55], [42, 44, 39], some (39, 50, false)⟩, ⟨some 57, .bin .sub, [.t 56, ci 1], [45, 39], some (39, 50, false)⟩, ⟨some 58, .fad 0, [.t 3], [39], some (39, 50, false)⟩, ⟨some 59, .load 1 false, [.t 58], [47, 39], some (39, 50, false)⟩, ⟨some 60, .bin .gtr, [.t 57, .t 59], [46, 48, 39], some (39, 50, false)⟩, ⟨some 61, .pick, [.t 50, cb true, .t 60], [39, 49], none⟩] false).seq
  (AC.cond (.t 61) ((AC.region [⟨some 4, .mov, [ci 1], [], none⟩] false).seq AC.ret) AC.skip)).seq
  ((AC.region [⟨some 4, .mov, [ci 0], [], none⟩] false).seq AC.ret)))
def rs_ref18_Check : List RV := [.t 4]
theorem c_ref18_Check : compile Try.prog (Go.Func.ntmps Try.f65) (Try.f65.body.getD .skip) = some ac_ref18_Check := by kernel_rfl
theorem go_ref18_Check {xs : List V} {bx bx' : U} {r : V} {ns : List O} (hxs : decide (xs.length ≤ Go.Func.ntmps Try.f65) = true) (hbx : BxOK bx bx') (h : ∀ cx : Cx, cx.m0 = ups M0 bx → Awp Try.prog cx ac_ref18_Check (RetE rs_ref18_Check r bx' ns) ⟨tl (idx 0 xs), ups M0 bx⟩) : Does Try.prog 65 xs bx r bx' ns :=
  does_of Try.func65 (by kernel_rfl : Try.f65.body = some (Try.f65.body.getD .skip)) rfl c_ref18_Check (by kernel_rfl) (of_decide_eq_true hxs) hbx fun cx _ hm => h cx hm
def ac_ref18_Limits : AC :=
  (AC.region [⟨some 3, .box, [.t 0], [], none⟩, ⟨some 4, .box, [.t 1], [], none⟩, ⟨some 6, .mov, [AV.c (V.nl 1)], [], none⟩, ⟨some 7, .mov, [ci 0], [2], none⟩] false).seq
  (((AC.region [⟨some 10, .load 1 true, [.t 3], [], none⟩, ⟨some 11, .load 3 true, [.t 4], [], none⟩, ⟨some 12, .call 65, [.t 10, .t 11], [0, 1], none⟩, ⟨some 8, .mov, [.t 12], [2, 2, 0, 1, 2], none⟩] false).seq
  ((AC.region [⟨some 13, .mov, [.t 8], [], none⟩, ⟨some 14, .bin .neq, [.t 13, ci 0], [0], none⟩] false).seq
  (AC.cond (.t 14) ((AC.region [⟨some 15, .mov, [.t 8], [], none⟩, ⟨some 6, .mov, [AV.c (V.nl 1)], [], none⟩, ⟨some 7, .mov, [.t 15], [0, 1, 0, 1], none⟩] false).seq AC.ret) AC.skip))).seq
  (((AC.region [⟨some 16, .mov, [.t 2], [], none⟩, ⟨some 17, .bin .lss, [.t 16, ci 1], [0], none⟩, ⟨some 18, .mov, [.t 17], [1], none⟩, ⟨some 19, .mov, [.t 2], [2], some (2, 18, false)⟩, ⟨some 20, .bin .gtr, [.t 19, ci 1024], [3, 2], some (2, 18, false)⟩, ⟨some 21, .pick, [.t 18, cb true, .t 20], [2, 4], none⟩] false).seq
  (AC.cond (.t 21) ((AC.region [⟨some 6, .mov, [AV.c (V.nl 1)], [], none⟩, ⟨some 7, .mov, [ci 1], [0, 0], none⟩] false).seq AC.ret) AC.skip)).seq
  ((AC.region [⟨some 9, .mov, [AV.c (V.nl 1)], [], none⟩] false).seq
  (((AC.region [⟨some 22, .mov, [.t 2], [], none⟩, ⟨some 23, .fad 1, [.t 4], [], none⟩, ⟨some 24, .load 1 false, [.t 23], [1], none⟩, ⟨some 25, .bin .mul, [.t 22, .t 24], [0, 2], none⟩, ⟨some 26, .mov, [ci 0], [], none⟩] false).seq
  (AC.block 0 ((AC.region [⟨some 27, .bin .lss, [.t 26, .t 25], [], none⟩] false).seq
  ((AC.cond (.t 27) AC.skip (AC.exit 0)).seq
  ((AC.block 1 (AC.region [⟨some 28, .mov, [.t 9], [], none⟩, ⟨some 29, .fad 0, [.t 3], [], none⟩, ⟨some 30, .load 1 false, [.t 29], [1], none⟩, ⟨some 31, .bsl 1 [I 0] 1 [0], [.t 30], [2], none⟩, ⟨some 32, .app 1 8, [.t 28, .t 31], [0, 3], none⟩, ⟨some 9, .mov, [.t 32], [4, 4, 0, 1, 2, 3, 4], none⟩] false)).seq
  (AC.region [⟨some 33, .bin .add, [.t 26, ci 1], [], none⟩, ⟨some 26, .mov, [.t 33], [0], none⟩] false)))).loop)).seq
  ((AC.region [⟨some 34, .mov, [.t 9], [], none⟩, ⟨some 6, .mov, [.t 34], [0, 0], none⟩, ⟨some 7, .mov, [ci 0], [1, 0, 1], none⟩] false).seq AC.ret)))))
def rs_ref18_Limits : List RV := [.t 6, .t 7]
theorem c_ref18_Limits : compile Try.prog (Go.Func.ntmps Try.f56) (Try.f56.body.getD .skip) = some ac_ref18_Limits := by kernel_rfl
theorem go_ref18_Limits {xs : List V} {bx bx' : U} {r : V} {ns : List O} (hxs : decide (xs.length ≤ Go.Func.ntmps Try.f56) = true) (hbx : BxOK bx bx') (h : ∀ cx : Cx, cx.m0 = ups M0 bx → Awp Try.prog cx ac_ref18_Limits (RetE rs_ref18_Limits r bx' ns) ⟨tl (idx 0 xs), ups M0 bx⟩) : Does Try.prog 56 xs bx r bx' ns :=
  does_of Try.func56 (by kernel_rfl : Try.f56.body = some (Try.f56.body.getD .skip)) rfl c_ref18_Limits (by kernel_rfl) (of_decide_eq_true hxs) hbx fun cx _ hm => h cx hm
def ac_ref18_Queries : AC :=
  (AC.region [⟨some 5, .box, [.t 0], [], none⟩, ⟨some 6, .box, [.t 1], [], none⟩, ⟨some 9, .box, [.t 4], [], none⟩, ⟨some 10, .mov, [AV.c (V.nl 1)], [], none⟩, ⟨some 11, .alloc [V.nl 1, I 0], [], [], none⟩, ⟨some 12, .mov, [ci 0], [3], none⟩] false).seq
  (((AC.region [⟨some 25, .load 1 true, [.t 5], [], none⟩, ⟨some 26, .load 3 true, [.t 6], [], none⟩, ⟨some 27, .mov, [.t 2], [], none⟩, ⟨some 28, .call 56, [.t 25, .t 26, .t 27], [0, 1, 2], none⟩, ⟨some 24, .mov, [.t 28], [3], none⟩, ⟨some 29, .ext 0, [.t 24], [4], none⟩, ⟨some 30, .ext 1, [.t 24], [4], none⟩, ⟨some 13, .mov, [.t 29], [5, 3, 0, 1, 2, 3, 4, 5], none⟩, ⟨some 14, .mov, [.t 30], [6, 7, 0, 1, 2, 3, 4, 5, 6, 7], none⟩] false).seq
  ((AC.region [⟨some 31, .mov, [.t 14], [], none⟩, ⟨some 32, .bin .neq, [.t 31, ci 0], [0], none⟩] false).seq
  (AC.cond (.t 32) ((AC.region [⟨some 33, .build [V.nl 1, I 0] [], [], [], none⟩, ⟨some 34, .mov, [.t 14], [], none⟩, ⟨some 10, .mov, [AV.c (V.nl 1)], [], none⟩, ⟨none, .store 2, [.t 11, .t 33], [0, 2, 0, 2], none⟩, ⟨some 12, .mov, [.t 34], [1, 3, 0, 1, 2, 3], none⟩] false).seq AC.ret) AC.skip))).seq
  (((AC.region [⟨some 35, .mov, [.t 3], [], none⟩, ⟨some 36, .bin .lss, [.t 35, ci 0], [0], none⟩, ⟨some 37, .mov, [.t 36], [1], none⟩, ⟨some 38, .mov, [.t 3], [2], some (2, 37, false)⟩, ⟨some 39, .mov, [.t 2], [2], some (2, 37, false)⟩, ⟨some 40, .bin .geq, [.t 38, .t 39], [3, 4, 2], some (2, 37, false)⟩, ⟨some 41, .pick, [.t 37, cb true, .t 40], [2, 5], none⟩] false).seq
  (AC.cond (.t 41) ((AC.region [⟨some 42, .build [V.nl 1, I 0] [], [], [], none⟩, ⟨some 10, .mov, [AV.c (V.nl 1)], [], none⟩, ⟨none, .store 2, [.t 11, .t 42], [0, 1, 0, 1], none⟩, ⟨some 12, .mov, [ci 6], [2, 0, 1, 2], none⟩] false).seq AC.ret) AC.skip)).seq
  ((AC.region [⟨some 43, .fad 0, [.t 6], [], none⟩, ⟨some 44, .load 1 false, [.t 43], [0], none⟩, ⟨some 45, .mks 1 [] 24, [.t 44, .t 44], [1, 1], none⟩, ⟨some 15, .mov, [.t 45], [2, 0, 1, 2], none⟩] false).seq
  (((AC.region [⟨some 16, .mov, [ci 0], [], none⟩] false).seq
  (AC.block 0 (((AC.region [⟨some 46, .mov, [.t 16], [], none⟩, ⟨some 47, .mov, [.t 2], [], none⟩, ⟨some 48, .bin .lss, [.t 46, .t 47], [0, 1], none⟩] false).seq
  (AC.cond (.t 48) AC.skip (AC.exit 0))).seq
  ((AC.block 1 ((AC.region [⟨some 52, .load 2 true, [.t 9], [], none⟩, ⟨some 53, .fad 0, [.t 5], [], none⟩, ⟨some 54, .load 1 false, [.t 53], [1], none⟩, ⟨some 55, .fad 1, [.t 6], [], none⟩, ⟨some 56, .load 1 false, [.t 55], [3], none⟩, ⟨some 57, .call 66, [.t 52, .t 54, .t 56], [0, 2, 4], none⟩, ⟨some 51, .mov, [.t 57], [5], none⟩, ⟨some 58, .ext 0, [.t 51], [6], none⟩, ⟨some 59, .ext 1, [.t 51], [6], none⟩, ⟨some 60, .ext 2, [.t 51], [6], none⟩, ⟨some 17, .alloc [V.nl 1, I 0], [], [], none⟩, ⟨none, .store 2, [.t 17, .t 58], [10, 7, 5, 0, 1, 2, 3, 4, 5, 6, 7, 10], none⟩, ⟨some 18, .mov, [.t 59], [8, 11, 0, 1, 2, 3, 4, 5, 6, 7, 8, 10, 11], none⟩, ⟨some 19, .mov, [.t 60], [9, 12, 0, 1, 2, 3, 4, 5, 6, 7, 8, 9, 10, 11, 12], none⟩] false).seq
  (((AC.region [⟨some 61, .mov, [.t 19], [], none⟩, ⟨some 62, .bin .neq, [.t 61, ci 0], [0], none⟩] false).seq
  (AC.cond (.t 62) ((AC.region [⟨some 63, .build [V.nl 1, I 0] [], [], [], none⟩, ⟨some 64, .mov, [.t 19], [], none⟩, ⟨some 10, .mov, [AV.c (V.nl 1)], [], none⟩, ⟨none, .store 2, [.t 11, .t 63], [0, 2, 0, 2], none⟩, ⟨some 12, .mov, [.t 64], [1, 3, 0, 1, 2, 3], none⟩] false).seq AC.ret) AC.skip)).seq
  ((AC.region [⟨some 65, .load 2 true, [.t 17], [], none⟩, ⟨none, .store 2, [.t 9, .t 65], [0, 0], none⟩] false).seq
  ((AC.region [⟨some 66, .fad 2, [.t 6], [], none⟩, ⟨some 67, .load 1 false, [.t 66], [0], none⟩, ⟨some 68, .mks 1 [I 0] 8, [.t 67, .t 67], [1, 1], none⟩, ⟨some 69, .mov, [.t 18], [], none⟩, ⟨some 70, .app 1 8, [.t 68, .t 69], [2, 3], none⟩, ⟨some 20, .mov, [.t 70], [4, 4, 0, 1, 2, 3, 4], none⟩] false).seq
  (((AC.region [⟨some 71, .mov, [.t 16], [], none⟩, ⟨some 72, .mov, [.t 3], [], none⟩, ⟨some 73, .bin .eql, [.t 71, .t 72], [0, 1], none⟩] false).seq
  (AC.cond (.t 73) (AC.region [⟨some 74, .mov, [.t 20], [], none⟩, ⟨some 75, .iad 1, [.t 74, ci 0], [0, 0], none⟩, ⟨none, .store 1, [.t 75, ci 1], [1, 0], none⟩] false) AC.skip)).seq
  ((AC.region [⟨some 21, .mov, [ci 1], [], none⟩] false).seq
  (AC.block 2 (((AC.region [⟨some 76, .mov, [.t 21], [], none⟩, ⟨some 77, .fad 0, [.t 6], [], none⟩, ⟨some 78, .load 1 false, [.t 77], [1], none⟩, ⟨some 79, .bin .leq, [.t 76, .t 78], [0, 2], none⟩] false).seq
  (AC.cond (.t 79) AC.skip (AC.exit 2))).seq
  ((AC.block 3 ((AC.region [⟨some 83, .load 1 true, [.t 5], [], none⟩, ⟨some 84, .mov, [.t 20], [], none⟩, ⟨some 85, .mov, [.t 21], [], none⟩, ⟨some 86, .call 68, [.t 83, .t 84, .t 85], [0, 1, 2], none⟩, ⟨some 82, .mov, [.t 86], [3], none⟩, ⟨some 87, .ext 0, [.t 82], [4], none⟩, ⟨some 88, .ext 1, [.t 82], [4], none⟩, ⟨some 22, .mov, [.t 87], [5, 3, 0, 1, 2, 3, 4, 5], none⟩, ⟨some 23, .mov, [.t 88], [6, 7, 0, 1, 2, 3, 4, 5, 6, 7], none⟩] false).seq
  (AC.region [⟨some 89, .mov, [.t 15], [], none⟩, ⟨some 90, .mov, [.t 21], [], none⟩, ⟨some 91, .bin .sub, [.t 90, ci 1], [1], none⟩, ⟨some 92, .mov, [.t 15], [], none⟩, ⟨some 93, .mov, [.t 21], [], none⟩, ⟨some 94, .bin .sub, [.t 93, ci 1], [4], none⟩, ⟨some 95, .iad 1, [.t 92, .t 94], [3, 5], none⟩, ⟨some 96, .load 1 false, [.t 95], [6], none⟩, ⟨some 97, .mov, [.t 22], [], none⟩, ⟨some 98, .bsl 1 [I 0] 1 [0], [.t 97], [8], none⟩, ⟨some 99, .app 1 8, [.t 96, .t 98], [7, 9], none⟩, ⟨some 100, .iad 1, [.t 89, .t 91], [0, 2, 0, 1, 2, 3, 4, 5, 6, 7, 8, 9, 10], none⟩, ⟨none, .store 1, [.t 100, .t 99], [11, 10, 10, 0, 1, 2, 3, 4, 5, 6, 7, 8, 9, 10], none⟩] false))).seq
  (AC.region [⟨some 80, .mov, [.t 21], [], none⟩, ⟨some 81, .bin .add, [.t 80, ci 1], [0], none⟩, ⟨some 21, .mov, [.t 81], [1, 0, 1], none⟩] false))).loop)))))))).seq
  (AC.region [⟨some 49, .mov, [.t 16], [], none⟩, ⟨some 50, .bin .add, [.t 49, ci 1], [0], none⟩, ⟨some 16, .mov, [.t 50], [1, 0, 1], none⟩] false))).loop)).seq
  ((AC.region [⟨some 101, .mov, [.t 15], [], none⟩, ⟨some 102, .load 2 true, [.t 9], [], none⟩, ⟨some 10, .mov, [.t 101], [0, 0], none⟩, ⟨none, .store 2, [.t 11, .t 102], [1, 2, 0, 1, 2], none⟩, ⟨some 12, .mov, [ci 0], [3, 0, 1, 2, 3], none⟩] true).seq AC.ret)))))
def rs_ref18_Queries : List RV := [.t 10, .c 11 2 true, .t 12]
theorem c_ref18_Queries : compile Try.prog (Go.Func.ntmps Try.f61) (Try.f61.body.getD .skip) = some ac_ref18_Queries := by kernel_rfl
theorem go_ref18_Queries {xs : List V} {bx bx' : U} {r : V} {ns : List O} (hxs : decide (xs.length ≤ Go.Func.ntmps Try.f61) = true) (hbx : BxOK bx bx') (h : ∀ cx : Cx, cx.m0 = ups M0 bx → Awp Try.prog cx ac_ref18_Queries (RetE rs_ref18_Queries r bx' ns) ⟨tl (idx 0 xs), ups M0 bx⟩) : Does Try.prog 61 xs bx r bx' ns :=
  does_of Try.func61 (by kernel_rfl : Try.f61.body = some (Try.f61.body.getD .skip)) rfl c_ref18_Queries (by kernel_rfl) (of_decide_eq_true hxs) hbx fun cx _ hm => h cx hm
def ac_ref07_Split : AC :=
  (AC.region [⟨some 5, .box, [.t 0], [], none⟩, ⟨some 9, .box, [.t 4], [], none⟩, ⟨some 10, .mov, [AV.c (V.nl 2)], [], none⟩, ⟨some 11, .alloc [V.nl 1, I 0], [], [], none⟩, ⟨some 12, .mov, [ci 0], [2], none⟩] false).seq
  (((AC.region [⟨some 20, .load 1 true, [.t 5], [], none⟩, ⟨some 21, .mov, [.t 1], [], none⟩, ⟨some 22, .bsl 1 [I 0] 1 [0], [.t 21], [1], none⟩, ⟨some 23, .call 72, [.t 20, .t 22], [0, 2], none⟩, ⟨some 24, .un .not, [.t 23], [3], none⟩] false).seq
  (AC.cond (.t 24) ((AC.region [⟨some 25, .build [V.nl 1, I 0] [], [], [], none⟩, ⟨some 10, .mov, [AV.c (V.nl 2)], [], none⟩, ⟨none, .store 2, [.t 11, .t 25], [0, 1, 0, 1], none⟩, ⟨some 12, .mov, [ci 9], [2, 0, 1, 2], none⟩] false).seq AC.ret) AC.skip)).seq
  (((AC.region [⟨some 26, .mov, [.t 2], [], none⟩, ⟨some 27, .bin .lss, [.t 26, ci 0], [0], none⟩, ⟨some 28, .mov, [.t 27], [1], none⟩, ⟨some 29, .mov, [.t 2], [2], some (2, 28, false)⟩, ⟨some 30, .bin .gtr, [.t 29, ci 9], [3, 2], some (2, 28, false)⟩, ⟨some 31, .pick, [.t 28, cb true, .t 30], [2, 4], none⟩, ⟨some 32, .mov, [.t 31], [5, 2], none⟩, ⟨some 33, .mov, [.t 3], [6], some (6, 32, false)⟩, ⟨some 34, .bin .lss, [.t 33, ci 1], [7, 6], some (6, 32, false)⟩, ⟨some 35, .pick, [.t 32, cb true, .t 34], [6, 8], none⟩, ⟨some 36, .mov, [.t 35], [9, 6], none⟩, ⟨some 37, .mov, [.t 3], [10], some (10, 36, false)⟩, ⟨some 38, .fad 0, [.t 5], [10], some (10, 36, false)⟩, ⟨some 39, .load 1 false, [.t 38], [12, 10], some (10, 36, false)⟩, ⟨some 40, .bin .sub, [.t 39, ci 1], [13, 10], some (10, 36, false)⟩, ⟨some 41, .bin .gtr, [.t 37, .t 40], [11, 14, 10], some (10, 36, false)⟩, ⟨some 42, .pick, [.t 36, cb true, .t 41], [10, 15], none⟩, ⟨some 43, .mov, [.t 42], [16, 10], none⟩, ⟨some 44, .mov, [.t 3], [17], some (17, 43, false)⟩, ⟨some 45, .bin .gtr, [.t 44, ci 512], [18, 17], some (17, 43, false)⟩, ⟨some 46, .pick, [.t 43, cb true, .t 45], [17, 19], none⟩] false).seq
  (AC.cond (.t 46) ((AC.region [⟨some 47, .build [V.nl 1, I 0] [], [], [], none⟩, ⟨some 10, .mov, [AV.c (V.nl 2)], [], none⟩, ⟨none, .store 2, [.t 11, .t 47], [0, 1, 0, 1], none⟩, ⟨some 12, .mov, [ci 1], [2, 0, 1, 2], none⟩] false).seq AC.ret) AC.skip)).seq
  ((AC.region [⟨some 49, .load 2 true, [.t 9], [], none⟩, ⟨some 50, .fad 0, [.t 5], [], none⟩, ⟨some 51, .load 1 false, [.t 50], [1], none⟩, ⟨some 52, .mov, [.t 2], [], none⟩, ⟨some 53, .call 66, [.t 49, .t 51, .t 52], [0, 2, 3], none⟩, ⟨some 48, .mov, [.t 53], [4], none⟩, ⟨some 54, .ext 0, [.t 48], [5], none⟩, ⟨some 55, .ext 1, [.t 48], [5], none⟩, ⟨some 56, .ext 2, [.t 48], [5], none⟩, ⟨none, .store 2, [.t 9, .t 54], [6, 4, 0, 1, 2, 3, 4, 5, 6], none⟩, ⟨some 13, .mov, [.t 55], [7, 9, 0, 1, 2, 3, 4, 5, 6, 7, 9], none⟩, ⟨some 14, .mov, [.t 56], [8, 10, 0, 1, 2, 3, 4, 5, 6, 7, 8, 9, 10], none⟩] false).seq
  (((AC.region [⟨some 57, .mov, [.t 14], [], none⟩, ⟨some 58, .bin .neq, [.t 57, ci 0], [0], none⟩] false).seq
  (AC.cond (.t 58) ((AC.region [⟨some 59, .build [V.nl 1, I 0] [], [], [], none⟩, ⟨some 60, .mov, [.t 14], [], none⟩, ⟨some 10, .mov, [AV.c (V.nl 2)], [], none⟩, ⟨none, .store 2, [.t 11, .t 59], [0, 2, 0, 2], none⟩, ⟨some 12, .mov, [.t 60], [1, 3, 0, 1, 2, 3], none⟩] false).seq AC.ret) AC.skip)).seq
  ((AC.region [⟨some 61, .mov, [.t 1], [], none⟩, ⟨some 62, .bsl 1 [I 0] 1 [0], [.t 61], [0], none⟩, ⟨some 63, .mov, [.t 13], [], none⟩, ⟨some 64, .app 1 8, [.t 62, .t 63], [1, 2], none⟩, ⟨some 15, .mov, [.t 64], [3, 3, 0, 1, 2, 3], none⟩] false).seq
  ((AC.region [⟨some 16, .mov, [AV.c (V.nl 2)], [], none⟩] false).seq
  (((AC.region [⟨some 17, .mov, [ci 1], [], none⟩] false).seq
  (AC.block 0 (((AC.region [⟨some 65, .mov, [.t 17], [], none⟩, ⟨some 66, .mov, [.t 3], [], none⟩, ⟨some 67, .bin .leq, [.t 65, .t 66], [0, 1], none⟩] false).seq
  (AC.cond (.t 67) AC.skip (AC.exit 0))).seq
  ((AC.block 1 ((AC.region [⟨some 71, .load 1 true, [.t 5], [], none⟩, ⟨some 72, .mov, [.t 15], [], none⟩, ⟨some 73, .mov, [.t 17], [], none⟩, ⟨some 74, .call 68, [.t 71, .t 72, .t 73], [0, 1, 2], none⟩, ⟨some 70, .mov, [.t 74], [3], none⟩, ⟨some 75, .ext 0, [.t 70], [4], none⟩, ⟨some 76, .ext 1, [.t 70], [4], none⟩, ⟨some 18, .mov, [.t 75], [5, 3, 0, 1, 2, 3, 4, 5], none⟩, ⟨some 19, .mov, [.t 76], [6, 7, 0, 1, 2, 3, 4, 5, 6, 7], none⟩] false).seq
  (AC.region [⟨some 77, .mov, [.t 16], [], none⟩, ⟨some 78, .mov, [.t 17], [], none⟩, ⟨some 79, .mov, [.t 18], [], none⟩, ⟨some 80, .build [I 0, I 0] [(0, 1), (1, 1)], [.t 78, .t 79], [1, 2], none⟩, ⟨some 81, .bsl 2 [I 0, I 0] 1 [0], [.t 80], [3], none⟩, ⟨some 82, .app 2 16, [.t 77, .t 81], [0, 4], none⟩, ⟨some 16, .mov, [.t 82], [5, 5, 0, 1, 2, 3, 4, 5], none⟩] false))).seq
  (AC.region [⟨some 68, .mov, [.t 17], [], none⟩, ⟨some 69, .bin .add, [.t 68, ci 1], [0], none⟩, ⟨some 17, .mov, [.t 69], [1, 0, 1], none⟩] false))).loop)).seq
  ((AC.region [⟨some 83, .mov, [.t 16], [], none⟩, ⟨some 84, .load 2 true, [.t 9], [], none⟩, ⟨some 10, .mov, [.t 83], [0, 0], none⟩, ⟨none, .store 2, [.t 11, .t 84], [1, 2, 0, 1, 2], none⟩, ⟨some 12, .mov, [ci 0], [3, 0, 1, 2, 3], none⟩] true).seq AC.ret))))))))
def rs_ref07_Split : List RV := [.t 10, .c 11 2 true, .t 12]
theorem c_ref07_Split : compile Try.prog (Go.Func.ntmps Try.f67) (Try.f67.body.getD .skip) = some ac_ref07_Split := by kernel_rfl
theorem go_ref07_Split {xs : List V} {bx bx' : U} {r : V} {ns : List O} (hxs : decide (xs.length ≤ Go.Func.ntmps Try.f67) = true) (hbx : BxOK bx bx') (h : ∀ cx : Cx, cx.m0 = ups M0 bx → Awp Try.prog cx ac_ref07_Split (RetE rs_ref07_Split r bx' ns) ⟨tl (idx 0 xs), ups M0 bx⟩) : Does Try.prog 67 xs bx r bx' ns :=
  does_of Try.func67 (by kernel_rfl : Try.f67.body = some (Try.f67.body.getD .skip)) rfl c_ref07_Split (by kernel_rfl) (of_decide_eq_true hxs) hbx fun cx _ hm => h cx hm
def ac_ref05_Value : AC :=
  (AC.region [⟨some 3, .box, [.t 0], [], none⟩, ⟨some 6, .mov, [ci 0], [], none⟩, ⟨some 7, .mov, [ci 0], [1], none⟩] false).seq
  (((AC.region [⟨some 9, .load 1 true, [.t 3], [], none⟩, ⟨some 10, .mov, [.t 2], [], none⟩, ⟨some 11, .bsl 1 [I 0] 1 [0], [.t 10], [1], none⟩, ⟨some 12, .call 72, [.t 9, .t 11], [0, 2], none⟩, ⟨some 13, .un .not, [.t 12], [3], none⟩] false).seq
  (AC.cond (.t 13) ((AC.region [⟨some 6, .mov, [ci 0], [], none⟩, ⟨some 7, .mov, [ci 9], [0, 0], none⟩] false).seq AC.ret) AC.skip)).seq
  (((AC.region [⟨some 14, .load 1 true, [.t 3], [], none⟩, ⟨some 15, .mov, [.t 1], [], none⟩, ⟨some 16, .bsl 1 [V.nl 1] 1 [0], [.t 15], [1], none⟩, ⟨some 17, .call 73, [.t 14, .t 16], [0, 2], none⟩, ⟨some 8, .mov, [.t 17], [3, 3, 0, 1, 2, 3], none⟩] false).seq
  ((AC.region [⟨some 18, .mov, [.t 8], [], none⟩, ⟨some 19, .bin .neq, [.t 18, ci 0], [0], none⟩] false).seq
  (AC.cond (.t 19) ((AC.region [⟨some 20, .mov, [.t 8], [], none⟩, ⟨some 6, .mov, [ci 0], [], none⟩, ⟨some 7, .mov, [.t 20], [0, 1, 0, 1], none⟩] false).seq AC.ret) AC.skip))).seq
  ((AC.region [⟨some 21, .load 1 true, [.t 3], [], none⟩, ⟨some 22, .mov, [.t 1], [], none⟩, ⟨some 23, .mov, [.t 2], [], none⟩, ⟨some 24, .call 74, [.t 21, .t 22, .t 23], [0, 1, 2], none⟩, ⟨some 6, .mov, [.t 24], [3, 3, 0, 1, 2, 3], none⟩, ⟨some 7, .mov, [ci 0], [4, 0, 1, 2, 3, 4], none⟩] false).seq AC.ret)))
def rs_ref05_Value : List RV := [.t 6, .t 7]
theorem c_ref05_Value : compile Try.prog (Go.Func.ntmps Try.f68) (Try.f68.body.getD .skip) = some ac_ref05_Value := by kernel_rfl
theorem go_ref05_Value {xs : List V} {bx bx' : U} {r : V} {ns : List O} (hxs : decide (xs.length ≤ Go.Func.ntmps Try.f68) = true) (hbx : BxOK bx bx') (h : ∀ cx : Cx, cx.m0 = ups M0 bx → Awp Try.prog cx ac_ref05_Value (RetE rs_ref05_Value r bx' ns) ⟨tl (idx 0 xs), ups M0 bx⟩) : Does Try.prog 68 xs bx r bx' ns :=
  does_of Try.func68 (by kernel_rfl : Try.f68.body = some (Try.f68.body.getD .skip)) rfl c_ref05_Value (by kernel_rfl) (of_decide_eq_true hxs) hbx fun cx _ hm => h cx hm
def ac_ref05_lists : AC :=
  (AC.region [⟨some 2, .box, [.t 0], [], none⟩, ⟨some 4, .mov, [ci 0], [], none⟩] false).seq
  (((AC.region [⟨some 10, .load 1 true, [.t 2], [], none⟩, ⟨some 11, .call 52, [.t 10], [0], none⟩, ⟨some 5, .mov, [.t 11], [1, 1, 0, 1], none⟩] false).seq
  ((AC.region [⟨some 12, .mov, [.t 5], [], none⟩, ⟨some 13, .bin .neq, [.t 12, ci 0], [0], none⟩] false).seq
  (AC.cond (.t 13) ((AC.region [⟨some 14, .mov, [.t 5], [], none⟩, ⟨some 4, .mov, [.t 14], [0, 0], none⟩] false).seq AC.ret) AC.skip))).seq
  (((AC.region [⟨some 15, .mov, [.t 1], [], none⟩, ⟨some 16, .len, [.t 15], [0], none⟩, ⟨some 17, .mov, [ci 0], [], none⟩] false).seq
  (AC.block 0 ((AC.region [⟨some 18, .bin .lss, [.t 17, .t 16], [], none⟩] false).seq
  ((AC.cond (.t 18) AC.skip (AC.exit 0)).seq
  ((AC.block 1 ((AC.region [⟨some 19, .iad 1, [.t 15, .t 17], [], none⟩, ⟨some 20, .load 1 false, [.t 19], [0], none⟩, ⟨some 7, .mov, [.t 20], [1, 0, 1], none⟩] false).seq
  ((AC.region [⟨some 21, .load 1 true, [.t 2], [], none⟩, ⟨some 22, .mov, [.t 7], [], none⟩, ⟨some 23, .call 72, [.t 21, .t 22], [0, 1], none⟩, ⟨some 24, .un .not, [.t 23], [2], none⟩] false).seq
  (AC.cond (.t 24) ((AC.region [⟨some 4, .mov, [ci 9], [], none⟩] false).seq AC.ret) AC.skip)))).seq
  (AC.region [⟨some 25, .bin .add, [.t 17, ci 1], [], none⟩, ⟨some 17, .mov, [.t 25], [0], none⟩] false)))).loop)).seq
  (((AC.region [⟨some 26, .mov, [.t 1], [], none⟩, ⟨some 27, .len, [.t 26], [0], none⟩, ⟨some 28, .mov, [ci 0], [], none⟩] false).seq
  (AC.block 2 ((AC.region [⟨some 29, .bin .lss, [.t 28, .t 27], [], none⟩] false).seq
  ((AC.cond (.t 29) AC.skip (AC.exit 2)).seq
  ((AC.block 3 ((AC.region [⟨some 30, .iad 1, [.t 26, .t 28], [], none⟩, ⟨some 31, .load 1 false, [.t 30], [0], none⟩, ⟨some 9, .mov, [.t 31], [1, 0, 1], none⟩] false).seq
  ((AC.region [⟨some 32, .mov, [.t 9], [], none⟩, ⟨some 33, .len, [.t 32], [0], none⟩, ⟨some 34, .bin .gtr, [.t 33, ci 512], [1], none⟩] false).seq
  (AC.cond (.t 34) ((AC.region [⟨some 4, .mov, [ci 4], [], none⟩] false).seq AC.ret) AC.skip)))).seq
  (AC.region [⟨some 35, .bin .add, [.t 28, ci 1], [], none⟩, ⟨some 28, .mov, [.t 35], [0], none⟩] false)))).loop)).seq
  ((AC.region [⟨some 4, .mov, [ci 0], [], none⟩] false).seq AC.ret))))
def rs_ref05_lists : List RV := [.t 4]
theorem c_ref05_lists : compile Try.prog (Go.Func.ntmps Try.f73) (Try.f73.body.getD .skip) = some ac_ref05_lists := by kernel_rfl
theorem go_ref05_lists {xs : List V} {bx bx' : U} {r : V} {ns : List O} (hxs : decide (xs.length ≤ Go.Func.ntmps Try.f73) = true) (hbx : BxOK bx bx') (h : ∀ cx : Cx, cx.m0 = ups M0 bx → Awp Try.prog cx ac_ref05_lists (RetE rs_ref05_lists r bx' ns) ⟨tl (idx 0 xs), ups M0 bx⟩) : Does Try.prog 73 xs bx r bx' ns :=
  does_of Try.func73 (by kernel_rfl : Try.f73.body = some (Try.f73.body.getD .skip)) rfl c_ref05_lists (by kernel_rfl) (of_decide_eq_true hxs) hbx fun cx _ hm => h cx hm
def ac_ref05_value : AC :=
  (AC.region [⟨some 3, .box, [.t 0], [], none⟩, ⟨some 6, .mov, [ci 0], [], none⟩] false).seq
  ((AC.region [⟨some 7, .mov, [ci 0], [], none⟩] false).seq
  (((AC.region [⟨some 9, .mov, [.t 1], [], none⟩, ⟨some 10, .len, [.t 9], [0], none⟩, ⟨some 11, .bin .sub, [.t 10, ci 1], [1], none⟩, ⟨some 8, .mov, [.t 11], [2, 0, 1, 2], none⟩] false).seq
  (AC.block 0 (((AC.region [⟨some 12, .mov, [.t 8], [], none⟩, ⟨some 13, .bin .geq, [.t 12, ci 0], [0], none⟩] false).seq
  (AC.cond (.t 13) AC.skip (AC.exit 0))).seq
  ((AC.block 1 (AC.region [⟨some 16, .mov, [.t 7], [], none⟩, ⟨some 17, .mov, [.t 2], [], none⟩, ⟨some 18, .bin .mul, [.t 16, .t 17], [0, 1], none⟩, ⟨some 19, .mov, [.t 1], [], none⟩, ⟨some 20, .mov, [.t 8], [], none⟩, ⟨some 21, .iad 1, [.t 19, .t 20], [3, 4], none⟩, ⟨some 22, .load 1 false, [.t 21], [5], none⟩, ⟨some 23, .bin .add, [.t 18, .t 22], [2, 6], none⟩, ⟨some 24, .fad 0, [.t 3], [], none⟩, ⟨some 25, .load 1 false, [.t 24], [8], none⟩, ⟨some 26, .bin .rem, [.t 23, .t 25], [7, 9], none⟩, ⟨some 7, .mov, [.t 26], [10, 0, 1, 2, 3, 4, 5, 6, 7, 8, 9, 10], none⟩] true)).seq
  (AC.region [⟨some 14, .mov, [.t 8], [], none⟩, ⟨some 15, .bin .sub, [.t 14, ci 1], [0], none⟩, ⟨some 8, .mov, [.t 15], [1, 0, 1], none⟩] false))).loop)).seq
  ((AC.region [⟨some 27, .mov, [.t 7], [], none⟩, ⟨some 6, .mov, [.t 27], [0, 0], none⟩] false).seq AC.ret)))
def rs_ref05_value : List RV := [.t 6]
theorem c_ref05_value : compile Try.prog (Go.Func.ntmps Try.f74) (Try.f74.body.getD .skip) = some ac_ref05_value := by kernel_rfl
theorem go_ref05_value {xs : List V} {bx bx' : U} {r : V} {ns : List O} (hxs : decide (xs.length ≤ Go.Func.ntmps Try.f74) = true) (hbx : BxOK bx bx') (h : ∀ cx : Cx, cx.m0 = ups M0 bx → Awp Try.prog cx ac_ref05_value (RetE rs_ref05_value r bx' ns) ⟨tl (idx 0 xs), ups M0 bx⟩) : Does Try.prog 74 xs bx r bx' ns :=
  does_of Try.func74 (by kernel_rfl : Try.f74.body = some (Try.f74.body.getD .skip)) rfl c_ref05_value (by kernel_rfl) (of_decide_eq_true hxs) hbx fun cx _ hm => h cx hm
def ac_ref03_Check : AC :=
  (AC.region [⟨some 1, .box, [.t 0], [], none⟩, ⟨some 2, .mov, [ci 0], [], none⟩] false).seq
  (((AC.region [⟨some 4, .fad 0, [.t 1], [], none⟩, ⟨some 5, .load 1 false, [.t 4], [0], none⟩, ⟨some 6, .bin .lss, [.t 5, ci 2], [1], none⟩, ⟨some 7, .mov, [.t 6], [2], none⟩, ⟨some 8, .fad 0, [.t 1], [3], some (3, 7, false)⟩, ⟨some 9, .load 1 false, [.t 8], [4, 3], some (3, 7, false)⟩, ⟨some 10, .bin .gtr, [.t 9, ci 65521], [5, 3], some (3, 7, false)⟩, ⟨some 11, .pick, [.t 7, cb true, .t 10], [3, 6], none⟩] false).seq
  (AC.cond (.t 11) ((AC.region [⟨some 2, .mov, [ci 9], [], none⟩] false).seq AC.ret) AC.skip)).seq
  (((AC.region [⟨some 3, .mov, [ci 2], [], none⟩] false).seq
  (AC.block 0 (((AC.region [⟨some 12, .mov, [.t 3], [], none⟩, ⟨some 13, .mov, [.t 3], [], none⟩, ⟨some 14, .bin .mul, [.t 12, .t 13], [0, 1], none⟩, ⟨some 15, .fad 0, [.t 1], [], none⟩, ⟨some 16, .load 1 false, [.t 15], [3], none⟩, ⟨some 17, .bin .leq, [.t 14, .t 16], [2, 4], none⟩] false).seq
  (AC.cond (.t 17) AC.skip (AC.exit 0))).seq
  ((AC.block 1 ((AC.region [⟨some 20, .fad 0, [.t 1], [], none⟩, ⟨some 21, .load 1 false, [.t 20], [0], none⟩, ⟨some 22, .mov, [.t 3], [], none⟩, ⟨some 23, .bin .rem, [.t 21, .t 22], [1, 2], none⟩, ⟨some 24, .bin .eql, [.t 23, ci 0], [3], none⟩] false).seq
  (AC.cond (.t 24) ((AC.region [⟨some 2, .mov, [ci 9], [], none⟩] false).seq AC.ret) AC.skip))).seq
  (AC.region [⟨some 18, .mov, [.t 3], [], none⟩, ⟨some 19, .bin .add, [.t 18, ci 1], [0], none⟩, ⟨some 3, .mov, [.t 19], [1, 0, 1], none⟩] false))).loop)).seq
  ((AC.region [⟨some 2, .mov, [ci 0], [], none⟩] false).seq AC.ret)))
def rs_ref03_Check : List RV := [.t 2]
theorem c_ref03_Check : compile Try.prog (Go.Func.ntmps Try.f52) (Try.f52.body.getD .skip) = some ac_ref03_Check := by kernel_rfl
theorem go_ref03_Check {xs : List V} {bx bx' : U} {r : V} {ns : List O} (hxs : decide (xs.length ≤ Go.Func.ntmps Try.f52) = true) (hbx : BxOK bx bx') (h : ∀ cx : Cx, cx.m0 = ups M0 bx → Awp Try.prog cx ac_ref03_Check (RetE rs_ref03_Check r bx' ns) ⟨tl (idx 0 xs), ups M0 bx⟩) : Does Try.prog 52 xs bx r bx' ns :=
  does_of Try.func52 (by kernel_rfl : Try.f52.body = some (Try.f52.body.getD .skip)) rfl c_ref03_Check (by kernel_rfl) (of_decide_eq_true hxs) hbx fun cx _ hm => h cx hm
def ac_ref03_In : AC :=
  (AC.region [⟨some 2, .box, [.t 0], [], none⟩, ⟨some 4, .mov, [cb false], [], none⟩] false).seq
  (((AC.region [⟨some 7, .load 1 true, [.t 2], [], none⟩, ⟨some 8, .call 52, [.t 7], [0], none⟩, ⟨some 9, .bin .neq, [.t 8, ci 0], [1], none⟩] false).seq
  (AC.cond (.t 9) ((AC.region [⟨some 4, .mov, [cb false], [], none⟩] false).seq AC.ret) AC.skip)).seq
  (((AC.region [⟨some 10, .mov, [.t 1], [], none⟩, ⟨some 11, .len, [.t 10], [0], none⟩, ⟨some 12, .mov, [ci 0], [], none⟩] false).seq
  (AC.block 0 ((AC.region [⟨some 13, .bin .lss, [.t 12, .t 11], [], none⟩] false).seq
  ((AC.cond (.t 13) AC.skip (AC.exit 0)).seq
  ((AC.block 1 ((AC.region [⟨some 14, .iad 1, [.t 10, .t 12], [], none⟩, ⟨some 15, .load 1 false, [.t 14], [0], none⟩, ⟨some 6, .mov, [.t 15], [1, 0, 1], none⟩] false).seq
  ((AC.region [⟨some 16, .mov, [.t 6], [], none⟩, ⟨some 17, .bin .lss, [.t 16, ci 0], [0], none⟩, ⟨some 18, .mov, [.t 17], [1], none⟩, ⟨some 19, .mov, [.t 6], [2], some (2, 18, false)⟩, ⟨some 20, .fad 0, [.t 2], [2], some (2, 18, false)⟩, ⟨some 21, .load 1 false, [.t 20], [4, 2], some (2, 18, false)⟩, ⟨some 22, .bin .geq, [.t 19, .t 21], [3, 5, 2], some (2, 18, false)⟩, ⟨some 23, .pick, [.t 18, cb true, .t 22], [2, 6], none⟩] false).seq
  (AC.cond (.t 23) ((AC.region [⟨some 4, .mov, [cb false], [], none⟩] false).seq AC.ret) AC.skip)))).seq
  (AC.region [⟨some 24, .bin .add, [.t 12, ci 1], [], none⟩, ⟨some 12, .mov, [.t 24], [0], none⟩] false)))).loop)).seq
  ((AC.region [⟨some 4, .mov, [cb true], [], none⟩] false).seq AC.ret)))
def rs_ref03_In : List RV := [.t 4]
theorem c_ref03_In : compile Try.prog (Go.Func.ntmps Try.f72) (Try.f72.body.getD .skip) = some ac_ref03_In := by kernel_rfl
theorem go_ref03_In {xs : List V} {bx bx' : U} {r : V} {ns : List O} (hxs : decide (xs.length ≤ Go.Func.ntmps Try.f72) = true) (hbx : BxOK bx bx') (h : ∀ cx : Cx, cx.m0 = ups M0 bx → Awp Try.prog cx ac_ref03_In (RetE rs_ref03_In r bx' ns) ⟨tl (idx 0 xs), ups M0 bx⟩) : Does Try.prog 72 xs bx r bx' ns :=
  does_of Try.func72 (by kernel_rfl : Try.f72.body = some (Try.f72.body.getD .skip)) rfl c_ref03_In (by kernel_rfl) (of_decide_eq_true hxs) hbx fun cx _ hm => h cx hm
def ac_ref02_Valid : AC :=
  (AC.region [⟨some 1, .box, [.t 0], [], none⟩, ⟨some 2, .mov, [cb false], [], none⟩] false).seq
  ((AC.region [⟨some 3, .fad 0, [.t 1], [], none⟩, ⟨some 4, .load 1 false, [.t 3], [0], none⟩, ⟨some 5, .len, [.t 4], [1], none⟩, ⟨some 6, .bin .leq, [.t 5, ci 16384], [2], none⟩, ⟨some 7, .mov, [.t 6], [3], none⟩, ⟨some 8, .fad 1, [.t 1], [4], some (4, 7, true)⟩, ⟨some 9, .load 1 false, [.t 8], [5, 4], some (4, 7, true)⟩, ⟨some 10, .bin .geq, [.t 9, ci 0], [6, 4], some (4, 7, true)⟩, ⟨some 11, .pick, [.t 7, .t 10, cb false], [4, 7], none⟩, ⟨some 12, .mov, [.t 11], [8, 4], none⟩, ⟨some 13, .fad 1, [.t 1], [9], some (9, 12, true)⟩, ⟨some 14, .load 1 false, [.t 13], [10, 9], some (9, 12, true)⟩, ⟨some 15, .fad 0, [.t 1], [9], some (9, 12, true)⟩, ⟨some 16, .load 1 false, [.t 15], [12, 9], some (9, 12, true)⟩, ⟨some 17, .len, [.t 16], [13, 9], some (9, 12, true)⟩, ⟨some 18, .bin .leq, [.t 14, .t 17], [11, 14, 9], some (9, 12, true)⟩, ⟨some 19, .pick, [.t 12, .t 18, cb false], [9, 15], none⟩, ⟨some 2, .mov, [.t 19], [16, 9, 0, 1, 2, 3, 4, 5, 6, 7, 8, 9, 10, 11, 12, 13, 14, 15, 16], none⟩] false).seq AC.ret)
def rs_ref02_Valid : List RV := [.t 2]
theorem c_ref02_Valid : compile Try.prog (Go.Func.ntmps Try.f70) (Try.f70.body.getD .skip) = some ac_ref02_Valid := by kernel_rfl
theorem go_ref02_Valid {xs : List V} {bx bx' : U} {r : V} {ns : List O} (hxs : decide (xs.length ≤ Go.Func.ntmps Try.f70) = true) (hbx : BxOK bx bx') (h : ∀ cx : Cx, cx.m0 = ups M0 bx → Awp Try.prog cx ac_ref02_Valid (RetE rs_ref02_Valid r bx' ns) ⟨tl (idx 0 xs), ups M0 bx⟩) : Does Try.prog 70 xs bx r bx' ns :=
  does_of Try.func70 (by kernel_rfl : Try.f70.body = some (Try.f70.body.getD .skip)) rfl c_ref02_Valid (by kernel_rfl) (of_decide_eq_true hxs) hbx fun cx _ hm => h cx hm
def ac_ref02_Copy : AC :=
  (AC.region [⟨some 1, .box, [.t 0], [], none⟩, ⟨some 2, .alloc [V.nl 1, I 0], [], [], none⟩] false).seq
  ((AC.region [⟨some 3, .fad 0, [.t 1], [], none⟩, ⟨some 4, .load 1 false, [.t 3], [0], none⟩, ⟨some 5, .app 1 8, [AV.c (V.nl 1), .t 4], [1], none⟩, ⟨some 6, .fad 0, [.t 1], [0, 1, 2], none⟩, ⟨none, .store 1, [.t 6, .t 5], [3, 2, 2, 0, 1, 2], none⟩] false).seq
  ((AC.region [⟨some 7, .load 2 true, [.t 1], [], none⟩, ⟨none, .store 2, [.t 2, .t 7], [0, 0], none⟩] false).seq AC.ret))
def rs_ref02_Copy : List RV := [.c 2 2 true]
theorem c_ref02_Copy : compile Try.prog (Go.Func.ntmps Try.f71) (Try.f71.body.getD .skip) = some ac_ref02_Copy := by kernel_rfl
theorem go_ref02_Copy {xs : List V} {bx bx' : U} {r : V} {ns : List O} (hxs : decide (xs.length ≤ Go.Func.ntmps Try.f71) = true) (hbx : BxOK bx bx') (h : ∀ cx : Cx, cx.m0 = ups M0 bx → Awp Try.prog cx ac_ref02_Copy (RetE rs_ref02_Copy r bx' ns) ⟨tl (idx 0 xs), ups M0 bx⟩) : Does Try.prog 71 xs bx r bx' ns :=
  does_of Try.func71 (by kernel_rfl : Try.f71.body = some (Try.f71.body.getD .skip)) rfl c_ref02_Copy (by kernel_rfl) (of_decide_eq_true hxs) hbx fun cx _ hm => h cx hm
def ac_ref02_Draws : AC :=
  (AC.region [⟨some 3, .box, [.t 0], [], none⟩, ⟨some 6, .alloc [V.nl 1, I 0], [], [], none⟩, ⟨some 7, .mov, [AV.c (V.nl 1)], [], none⟩, ⟨some 8, .mov, [ci 0], [2], none⟩] false).seq
  (((AC.region [⟨some 12, .load 2 true, [.t 3], [], none⟩, ⟨some 13, .call 70, [.t 12], [0], none⟩, ⟨some 14, .un .not, [.t 13], [1], none⟩] false).seq
  (AC.cond (.t 14) ((AC.region [⟨some 15, .build [V.nl 1, I 0] [], [], [], none⟩, ⟨none, .store 2, [.t 6, .t 15], [0, 0], none⟩, ⟨some 7, .mov, [AV.c (V.nl 1)], [1, 0, 1], none⟩, ⟨some 8, .mov, [ci 2], [2, 0, 1, 2], none⟩] false).seq AC.ret) AC.skip)).seq
  (((AC.region [⟨some 16, .mov, [.t 1], [], none⟩, ⟨some 17, .bin .lss, [.t 16, ci 1], [0], none⟩, ⟨some 18, .mov, [.t 17], [1], none⟩, ⟨some 19, .mov, [.t 1], [2], some (2, 18, false)⟩, ⟨some 20, .bin .gtr, [.t 19, ci 2147483647], [3, 2], some (2, 18, false)⟩, ⟨some 21, .pick, [.t 18, cb true, .t 20], [2, 4], none⟩, ⟨some 22, .mov, [.t 21], [5, 2], none⟩, ⟨some 23, .mov, [.t 2], [6], some (6, 22, false)⟩, ⟨some 24, .bin .lss, [.t 23, ci 0], [7, 6], some (6, 22, false)⟩, ⟨some 25, .pick, [.t 22, cb true, .t 24], [6, 8], none⟩] false).seq
  (AC.cond (.t 25) ((AC.region [⟨some 26, .build [V.nl 1, I 0] [], [], [], none⟩, ⟨none, .store 2, [.t 6, .t 26], [0, 0], none⟩, ⟨some 7, .mov, [AV.c (V.nl 1)], [1, 0, 1], none⟩, ⟨some 8, .mov, [ci 1], [2, 0, 1, 2], none⟩] false).seq AC.ret) AC.skip)).seq
  ((AC.region [⟨some 27, .load 2 true, [.t 3], [], none⟩, ⟨some 28, .call 71, [.t 27], [0], none⟩, ⟨none, .store 2, [.t 3, .t 28], [1, 1, 0, 1], none⟩] false).seq
  ((AC.region [⟨some 9, .mov, [AV.c (V.nl 1)], [], none⟩] false).seq
  (((AC.region [⟨some 10, .mov, [ci 0], [], none⟩] false).seq
  (AC.block 0 (((AC.region [⟨some 29, .mov, [.t 10], [], none⟩, ⟨some 30, .mov, [.t 2], [], none⟩, ⟨some 31, .bin .lss, [.t 29, .t 30], [0, 1], none⟩] false).seq
  (AC.cond (.t 31) AC.skip (AC.exit 0))).seq
  ((AC.block 1 (((AC.region [⟨some 34, .fad 1, [.t 3], [], none⟩, ⟨some 35, .load 1 false, [.t 34], [0], none⟩, ⟨some 36, .fad 0, [.t 3], [], none⟩, ⟨some 37, .load 1 false, [.t 36], [2], none⟩, ⟨some 38, .len, [.t 37], [3], none⟩, ⟨some 39, .bin .eql, [.t 35, .t 38], [1, 4], none⟩] false).seq
  (AC.cond (.t 39) ((AC.region [⟨some 40, .build [V.nl 1, I 0] [], [], [], none⟩, ⟨none, .store 2, [.t 6, .t 40], [0, 0], none⟩, ⟨some 7, .mov, [AV.c (V.nl 1)], [1, 0, 1], none⟩, ⟨some 8, .mov, [ci 3], [2, 0, 1, 2], none⟩] false).seq AC.ret) AC.skip)).seq
  ((AC.region [⟨some 41, .fad 0, [.t 3], [], none⟩, ⟨some 42, .load 1 false, [.t 41], [0], none⟩, ⟨some 43, .fad 1, [.t 3], [], none⟩, ⟨some 44, .load 1 false, [.t 43], [2], none⟩, ⟨some 45, .iad 1, [.t 42, .t 44], [1, 3], none⟩, ⟨some 46, .load 1 false, [.t 45], [4], none⟩, ⟨some 11, .mov, [.t 46], [5, 0, 1, 2, 3, 4, 5], none⟩] false).seq
  (((AC.region [⟨some 47, .mov, [.t 11], [], none⟩, ⟨some 48, .bin .lss, [.t 47, ci 0], [0], none⟩, ⟨some 49, .mov, [.t 48], [1], none⟩, ⟨some 50, .mov, [.t 11], [2], some (2, 49, false)⟩, ⟨some 51, .mov, [.t 1], [2], some (2, 49, false)⟩, ⟨some 52, .bin .geq, [.t 50, .t 51], [3, 4, 2], some (2, 49, false)⟩, ⟨some 53, .pick, [.t 49, cb true, .t 52], [2, 5], none⟩] false).seq
  (AC.cond (.t 53) ((AC.region [⟨some 54, .build [V.nl 1, I 0] [], [], [], none⟩, ⟨none, .store 2, [.t 6, .t 54], [0, 0], none⟩, ⟨some 7, .mov, [AV.c (V.nl 1)], [1, 0, 1], none⟩, ⟨some 8, .mov, [ci 8], [2, 0, 1, 2], none⟩] false).seq AC.ret) AC.skip)).seq
  ((AC.region [⟨some 55, .fad 1, [.t 3], [], none⟩, ⟨some 56, .load 1 false, [.t 55], [0], none⟩, ⟨some 57, .bin .add, [.t 56, ci 1], [1], none⟩, ⟨some 58, .fad 1, [.t 3], [0, 1, 2], none⟩, ⟨none, .store 1, [.t 58, .t 57], [3, 2, 0, 1, 2], none⟩] false).seq
  (AC.region [⟨some 59, .mov, [.t 9], [], none⟩, ⟨some 60, .mov, [.t 11], [], none⟩, ⟨some 61, .bsl 1 [I 0] 1 [0], [.t 60], [1], none⟩, ⟨some 62, .app 1 8, [.t 59, .t 61], [0, 2], none⟩, ⟨some 9, .mov, [.t 62], [3, 3, 0, 1, 2, 3], none⟩] false)))))).seq
  (AC.region [⟨some 32, .mov, [.t 10], [], none⟩, ⟨some 33, .bin .add, [.t 32, ci 1], [0], none⟩, ⟨some 10, .mov, [.t 33], [1, 0, 1], none⟩] false))).loop)).seq
  ((AC.region [⟨some 63, .load 2 true, [.t 3], [], none⟩, ⟨some 64, .mov, [.t 9], [], none⟩, ⟨none, .store 2, [.t 6, .t 63], [0, 0], none⟩, ⟨some 7, .mov, [.t 64], [1, 2, 0, 1, 2], none⟩, ⟨some 8, .mov, [ci 0], [3, 0, 1, 2, 3], none⟩] false).seq AC.ret))))))
def rs_ref02_Draws : List RV := [.c 6 2 true, .t 7, .t 8]
theorem c_ref02_Draws : compile Try.prog (Go.Func.ntmps Try.f66) (Try.f66.body.getD .skip) = some ac_ref02_Draws := by kernel_rfl
theorem go_ref02_Draws {xs : List V} {bx bx' : U} {r : V} {ns : List O} (hxs : decide (xs.length ≤ Go.Func.ntmps Try.f66) = true) (hbx : BxOK bx bx') (h : ∀ cx : Cx, cx.m0 = ups M0 bx → Awp Try.prog cx ac_ref02_Draws (RetE rs_ref02_Draws r bx' ns) ⟨tl (idx 0 xs), ups M0 bx⟩) : Does Try.prog 66 xs bx r bx' ns :=
  does_of Try.func66 (by kernel_rfl : Try.f66.body = some (Try.f66.body.getD .skip)) rfl c_ref02_Draws (by kernel_rfl) (of_decide_eq_true hxs) hbx fun cx _ hm => h cx hm
def ac_view_ascends : AC :=
  (AC.region [⟨some 2, .mov, [cb false], [], none⟩] false).seq
  ((AC.region [⟨some 3, .mov, [ci 0], [], none⟩] false).seq
  (((AC.region [⟨some 6, .mov, [.t 0], [], none⟩, ⟨some 7, .len, [.t 6], [0], none⟩, ⟨some 8, .mov, [ci 0], [], none⟩] false).seq
  (AC.block 0 ((AC.region [⟨some 9, .bin .lss, [.t 8, .t 7], [], none⟩] false).seq
  ((AC.cond (.t 9) AC.skip (AC.exit 0)).seq
  ((AC.block 1 ((AC.region [⟨some 10, .iad 1, [.t 6, .t 8], [], none⟩, ⟨some 11, .load 1 false, [.t 10], [0], none⟩, ⟨some 5, .mov, [.t 11], [1, 0, 1], none⟩] false).seq
  (((AC.region [⟨some 12, .mov, [.t 5], [], none⟩, ⟨some 13, .mov, [.t 3], [], none⟩, ⟨some 14, .bin .leq, [.t 12, .t 13], [0, 1], none⟩] false).seq
  (AC.cond (.t 14) ((AC.region [⟨some 2, .mov, [cb false], [], none⟩] false).seq AC.ret) AC.skip)).seq
  (AC.region [⟨some 15, .mov, [.t 5], [], none⟩, ⟨some 3, .mov, [.t 15], [0, 0], none⟩] false)))).seq
  (AC.region [⟨some 16, .bin .add, [.t 8, ci 1], [], none⟩, ⟨some 8, .mov, [.t 16], [0], none⟩] false)))).loop)).seq
  ((AC.region [⟨some 2, .mov, [cb true], [], none⟩] false).seq AC.ret)))
def rs_view_ascends : List RV := [.t 2]
theorem c_view_ascends : compile Try.prog (Go.Func.ntmps Try.f27) (Try.f27.body.getD .skip) = some ac_view_ascends := by kernel_rfl
theorem go_view_ascends {xs : List V} {bx bx' : U} {r : V} {ns : List O} (hxs : decide (xs.length ≤ Go.Func.ntmps Try.f27) = true) (hbx : BxOK bx bx') (h : ∀ cx : Cx, cx.m0 = ups M0 bx → Awp Try.prog cx ac_view_ascends (RetE rs_view_ascends r bx' ns) ⟨tl (idx 0 xs), ups M0 bx⟩) : Does Try.prog 27 xs bx r bx' ns :=
  does_of Try.func27 (by kernel_rfl : Try.f27.body = some (Try.f27.body.getD .skip)) rfl c_view_ascends (by kernel_rfl) (of_decide_eq_true hxs) hbx fun cx _ hm => h cx hm
def ac_view_picked : AC :=
  (AC.region [⟨some 4, .mov, [AV.c (V.nl 1)], [], none⟩, ⟨some 5, .mov, [cb false], [0], none⟩] false).seq
  ((AC.region [⟨some 12, .mov, [.t 0], [], none⟩, ⟨some 13, .len, [.t 12], [0], none⟩, ⟨some 14, .mks 1 [V.nl 1] 24, [ci 0, .t 13], [1], none⟩, ⟨some 6, .mov, [.t 14], [2, 0, 1, 2], none⟩] false).seq
  (((AC.region [⟨some 15, .mov, [.t 0], [], none⟩, ⟨some 16, .len, [.t 15], [0], none⟩, ⟨some 17, .mov, [ci 0], [], none⟩] false).seq
  (AC.block 0 ((AC.region [⟨some 18, .bin .lss, [.t 17, .t 16], [], none⟩] false).seq
  ((AC.cond (.t 18) AC.skip (AC.exit 0)).seq
  ((AC.block 1 ((AC.region [⟨some 19, .iad 1, [.t 15, .t 17], [], none⟩, ⟨some 20, .load 1 false, [.t 19], [0], none⟩, ⟨some 8, .mov, [.t 20], [1, 0, 1], none⟩] false).seq
  ((AC.region [⟨some 9, .mov, [AV.c (V.nl 1)], [], none⟩] false).seq
  (((AC.region [⟨some 21, .mov, [.t 1], [], none⟩, ⟨some 22, .len, [.t 21], [0], none⟩, ⟨some 23, .mov, [ci 0], [], none⟩] false).seq
  (AC.block 2 ((AC.region [⟨some 24, .bin .lss, [.t 23, .t 22], [], none⟩] false).seq
  ((AC.cond (.t 24) AC.skip (AC.exit 2)).seq
  ((AC.block 3 ((AC.region [⟨some 25, .iad 1, [.t 21, .t 23], [], none⟩, ⟨some 26, .load 1 false, [.t 25], [0], none⟩, ⟨some 11, .mov, [.t 26], [1, 0, 1], none⟩] false).seq
  (((AC.region [⟨some 27, .mov, [.t 11], [], none⟩, ⟨some 28, .mov, [.t 8], [], none⟩, ⟨some 29, .len, [.t 28], [1], none⟩, ⟨some 30, .bin .geq, [.t 27, .t 29], [0, 2], none⟩] false).seq
  (AC.cond (.t 30) ((AC.region [⟨some 4, .mov, [AV.c (V.nl 1)], [], none⟩, ⟨some 5, .mov, [cb false], [0, 0], none⟩] false).seq AC.ret) AC.skip)).seq
  (AC.region [⟨some 31, .mov, [.t 9], [], none⟩, ⟨some 32, .mov, [.t 8], [], none⟩, ⟨some 33, .mov, [.t 11], [], none⟩, ⟨some 34, .iad 1, [.t 32, .t 33], [1, 2], none⟩, ⟨some 35, .load 1 false, [.t 34], [3], none⟩, ⟨some 36, .call 29, [.t 35], [4], none⟩, ⟨some 37, .bsl 1 [V.nl 1] 1 [0], [.t 36], [5], none⟩, ⟨some 38, .app 1 24, [.t 31, .t 37], [0, 6, 5], none⟩, ⟨some 9, .mov, [.t 38], [7, 7, 0, 1, 2, 3, 4, 5, 6, 7], none⟩] false)))).seq
  (AC.region [⟨some 39, .bin .add, [.t 23, ci 1], [], none⟩, ⟨some 23, .mov, [.t 39], [0], none⟩] false)))).loop)).seq
  (AC.region [⟨some 40, .mov, [.t 6], [], none⟩, ⟨some 41, .mov, [.t 9], [], none⟩, ⟨some 42, .bsl 1 [V.nl 1] 1 [0], [.t 41], [1], none⟩, ⟨some 43, .app 1 24, [.t 40, .t 42], [0, 2], none⟩, ⟨some 6, .mov, [.t 43], [3, 3, 0, 1, 2, 3], none⟩] false))))).seq
  (AC.region [⟨some 44, .bin .add, [.t 17, ci 1], [], none⟩, ⟨some 17, .mov, [.t 44], [0], none⟩] false)))).loop)).seq
  ((AC.region [⟨some 45, .mov, [.t 6], [], none⟩, ⟨some 4, .mov, [.t 45], [0, 0], none⟩, ⟨some 5, .mov, [cb true], [1, 0, 1], none⟩] false).seq AC.ret)))
def rs_view_picked : List RV := [.t 4, .t 5]
theorem c_view_picked : compile Try.prog (Go.Func.ntmps Try.f28) (Try.f28.body.getD .skip) = some ac_view_picked := by kernel_rfl
theorem go_view_picked {xs : List V} {bx bx' : U} {r : V} {ns : List O} (hxs : decide (xs.length ≤ Go.Func.ntmps Try.f28) = true) (hbx : BxOK bx bx') (h : ∀ cx : Cx, cx.m0 = ups M0 bx → Awp Try.prog cx ac_view_picked (RetE rs_view_picked r bx' ns) ⟨tl (idx 0 xs), ups M0 bx⟩) : Does Try.prog 28 xs bx r bx' ns :=
  does_of Try.func28 (by kernel_rfl : Try.f28.body = some (Try.f28.body.getD .skip)) rfl c_view_picked (by kernel_rfl) (of_decide_eq_true hxs) hbx fun cx _ hm => h cx hm
def ac_view_Of : AC :=
  (AC.region [⟨some 4, .alloc [V.nl 1, V.nl 1], [], [], none⟩, ⟨some 5, .mov, [ci 0], [], none⟩] false).seq
  (((AC.region [⟨some 11, .mov, [.t 1], [], none⟩, ⟨some 12, .call 27, [.t 11], [0], none⟩, ⟨some 13, .un .not, [.t 12], [1], none⟩] false).seq
  (AC.cond (.t 13) ((AC.region [⟨some 14, .build [V.nl 1, V.nl 1] [], [], [], none⟩, ⟨none, .store 2, [.t 4, .t 14], [0, 0], none⟩, ⟨some 5, .mov, [ci 5], [1, 0, 1], none⟩] false).seq AC.ret) AC.skip)).seq
  ((AC.region [⟨some 6, .mov, [AV.c (V.nl 1)], [], none⟩] false).seq
  (((AC.region [⟨some 15, .mov, [.t 1], [], none⟩, ⟨some 16, .len, [.t 15], [0], none⟩, ⟨some 17, .mov, [ci 0], [], none⟩] false).seq
  (AC.block 0 ((AC.region [⟨some 18, .bin .lss, [.t 17, .t 16], [], none⟩] false).seq
  ((AC.cond (.t 18) AC.skip (AC.exit 0)).seq
  ((AC.block 1 ((AC.region [⟨some 19, .iad 1, [.t 15, .t 17], [], none⟩, ⟨some 20, .load 1 false, [.t 19], [0], none⟩, ⟨some 8, .mov, [.t 20], [1, 0, 1], none⟩] false).seq
  (AC.region [⟨some 21, .mov, [.t 6], [], none⟩, ⟨some 22, .mov, [.t 8], [], none⟩, ⟨some 23, .bin .sub, [.t 22, ci 1], [1], none⟩, ⟨some 24, .bsl 1 [I 0] 1 [0], [.t 23], [2], none⟩, ⟨some 25, .app 1 8, [.t 21, .t 24], [0, 3], none⟩, ⟨some 6, .mov, [.t 25], [4, 4, 0, 1, 2, 3, 4], none⟩] false))).seq
  (AC.region [⟨some 26, .bin .add, [.t 17, ci 1], [], none⟩, ⟨some 17, .mov, [.t 26], [0], none⟩] false)))).loop)).seq
  ((AC.region [⟨some 28, .mov, [.t 0], [], none⟩, ⟨some 29, .mov, [.t 6], [], none⟩, ⟨some 30, .call 28, [.t 28, .t 29], [0, 1], none⟩, ⟨some 27, .mov, [.t 30], [2], none⟩, ⟨some 31, .ext 0, [.t 27], [3], none⟩, ⟨some 32, .ext 1, [.t 27], [3], none⟩, ⟨some 9, .mov, [.t 31], [4, 2, 0, 1, 2, 3, 4], none⟩, ⟨some 10, .mov, [.t 32], [5, 6, 0, 1, 2, 3, 4, 5, 6], none⟩] false).seq
  (((AC.region [⟨some 33, .mov, [.t 10], [], none⟩, ⟨some 34, .un .not, [.t 33], [0], none⟩] false).seq
  (AC.cond (.t 34) ((AC.region [⟨some 35, .build [V.nl 1, V.nl 1] [], [], [], none⟩, ⟨none, .store 2, [.t 4, .t 35], [0, 0], none⟩, ⟨some 5, .mov, [ci 1], [1, 0, 1], none⟩] false).seq AC.ret) AC.skip)).seq
  ((AC.region [⟨some 36, .mov, [.t 1], [], none⟩, ⟨some 37, .call 29, [.t 36], [0], none⟩, ⟨some 38, .mov, [.t 9], [], none⟩, ⟨some 39, .build [V.nl 1, V.nl 1] [(0, 1), (1, 1)], [.t 37, .t 38], [1, 2], none⟩, ⟨none, .store 2, [.t 4, .t 39], [3, 1, 0, 1, 2, 3], none⟩, ⟨some 5, .mov, [ci 0], [4, 0, 1, 2, 3, 4], none⟩] false).seq AC.ret))))))
def rs_view_Of : List RV := [.c 4 2 true, .t 5]
theorem c_view_Of : compile Try.prog (Go.Func.ntmps Try.f10) (Try.f10.body.getD .skip) = some ac_view_Of := by kernel_rfl
theorem go_view_Of {xs : List V} {bx bx' : U} {r : V} {ns : List O} (hxs : decide (xs.length ≤ Go.Func.ntmps Try.f10) = true) (hbx : BxOK bx bx') (h : ∀ cx : Cx, cx.m0 = ups M0 bx → Awp Try.prog cx ac_view_Of (RetE rs_view_Of r bx' ns) ⟨tl (idx 0 xs), ups M0 bx⟩) : Does Try.prog 10 xs bx r bx' ns :=
  does_of Try.func10 (by kernel_rfl : Try.f10.body = some (Try.f10.body.getD .skip)) rfl c_view_Of (by kernel_rfl) (of_decide_eq_true hxs) hbx fun cx _ hm => h cx hm
def ac_view_Part : AC :=
  (AC.region [⟨some 2, .box, [.t 0], [], none⟩, ⟨some 4, .alloc [V.nl 1, V.nl 1], [], [], none⟩, ⟨some 5, .mov, [cb false], [], none⟩] false).seq
  (((AC.region [⟨some 14, .mov, [.t 1], [], none⟩, ⟨some 15, .call 27, [.t 14], [0], none⟩, ⟨some 16, .un .not, [.t 15], [1], none⟩] false).seq
  (AC.cond (.t 16) ((AC.region [⟨some 17, .build [V.nl 1, V.nl 1] [], [], [], none⟩, ⟨none, .store 2, [.t 4, .t 17], [0, 0], none⟩, ⟨some 5, .mov, [cb false], [1, 0, 1], none⟩] false).seq AC.ret) AC.skip)).seq
  ((AC.region [⟨some 6, .mov, [AV.c (V.nl 1)], [], none⟩] false).seq
  (((AC.region [⟨some 18, .mov, [.t 1], [], none⟩, ⟨some 19, .len, [.t 18], [0], none⟩, ⟨some 20, .mov, [ci 0], [], none⟩] false).seq
  (AC.block 0 ((AC.region [⟨some 21, .bin .lss, [.t 20, .t 19], [], none⟩] false).seq
  ((AC.cond (.t 21) AC.skip (AC.exit 0)).seq
  ((AC.block 1 ((AC.region [⟨some 22, .iad 1, [.t 18, .t 20], [], none⟩, ⟨some 23, .load 1 false, [.t 22], [0], none⟩, ⟨some 8, .mov, [.t 23], [1, 0, 1], none⟩] false).seq
  ((AC.region [⟨some 24, .fad 0, [.t 2], [], none⟩, ⟨some 25, .load 1 false, [.t 24], [0], none⟩, ⟨some 26, .mov, [.t 8], [], none⟩, ⟨some 27, .call 30, [.t 25, .t 26], [1, 2], none⟩, ⟨some 9, .mov, [.t 27], [3, 3, 0, 1, 2, 3], none⟩] false).seq
  (((AC.region [⟨some 28, .mov, [.t 9], [], none⟩, ⟨some 29, .bin .lss, [.t 28, ci 0], [0], none⟩] false).seq
  (AC.cond (.t 29) ((AC.region [⟨some 30, .build [V.nl 1, V.nl 1] [], [], [], none⟩, ⟨none, .store 2, [.t 4, .t 30], [0, 0], none⟩, ⟨some 5, .mov, [cb false], [1, 0, 1], none⟩] false).seq AC.ret) AC.skip)).seq
  (AC.region [⟨some 31, .mov, [.t 6], [], none⟩, ⟨some 32, .mov, [.t 9], [], none⟩, ⟨some 33, .bsl 1 [I 0] 1 [0], [.t 32], [1], none⟩, ⟨some 34, .app 1 8, [.t 31, .t 33], [0, 2], none⟩, ⟨some 6, .mov, [.t 34], [3, 3, 0, 1, 2, 3], none⟩] false))))).seq
  (AC.region [⟨some 35, .bin .add, [.t 20, ci 1], [], none⟩, ⟨some 20, .mov, [.t 35], [0], none⟩] false)))).loop)).seq
  (((AC.region [⟨some 36, .fad 1, [.t 2], [], none⟩, ⟨some 37, .load 1 false, [.t 36], [0], none⟩, ⟨some 38, .len, [.t 37], [1], none⟩, ⟨some 39, .mov, [ci 0], [], none⟩] false).seq
  (AC.block 2 ((AC.region [⟨some 40, .bin .lss, [.t 39, .t 38], [], none⟩] false).seq
  ((AC.cond (.t 40) AC.skip (AC.exit 2)).seq
  ((AC.block 3 ((AC.region [⟨some 41, .iad 1, [.t 37, .t 39], [], none⟩, ⟨some 42, .load 1 false, [.t 41], [0], none⟩, ⟨some 11, .mov, [.t 42], [1, 0, 1], none⟩] false).seq
  ((AC.region [⟨some 43, .mov, [.t 11], [], none⟩, ⟨some 44, .len, [.t 43], [0], none⟩, ⟨some 45, .fad 0, [.t 2], [], none⟩, ⟨some 46, .load 1 false, [.t 45], [2], none⟩, ⟨some 47, .len, [.t 46], [3], none⟩, ⟨some 48, .bin .neq, [.t 44, .t 47], [1, 4], none⟩] false).seq
  (AC.cond (.t 48) ((AC.region [⟨some 49, .build [V.nl 1, V.nl 1] [], [], [], none⟩, ⟨none, .store 2, [.t 4, .t 49], [0, 0], none⟩, ⟨some 5, .mov, [cb false], [1, 0, 1], none⟩] false).seq AC.ret) AC.skip)))).seq
  (AC.region [⟨some 50, .bin .add, [.t 39, ci 1], [], none⟩, ⟨some 39, .mov, [.t 50], [0], none⟩] false)))).loop)).seq
  ((AC.region [⟨some 52, .fad 1, [.t 2], [], none⟩, ⟨some 53, .load 1 false, [.t 52], [0], none⟩, ⟨some 54, .mov, [.t 6], [], none⟩, ⟨some 55, .call 28, [.t 53, .t 54], [1, 2], none⟩, ⟨some 51, .mov, [.t 55], [3], none⟩, ⟨some 56, .ext 0, [.t 51], [4], none⟩, ⟨some 57, .ext 1, [.t 51], [4], none⟩, ⟨some 12, .mov, [.t 56], [5, 3, 0, 1, 2, 3, 4, 5], none⟩, ⟨some 13, .mov, [.t 57], [6, 7, 0, 1, 2, 3, 4, 5, 6, 7], none⟩] false).seq
  (((AC.region [⟨some 58, .mov, [.t 13], [], none⟩, ⟨some 59, .un .not, [.t 58], [0], none⟩] false).seq
  (AC.cond (.t 59) ((AC.region [⟨some 60, .build [V.nl 1, V.nl 1] [], [], [], none⟩, ⟨none, .store 2, [.t 4, .t 60], [0, 0], none⟩, ⟨some 5, .mov, [cb false], [1, 0, 1], none⟩] false).seq AC.ret) AC.skip)).seq
  ((AC.region [⟨some 61, .mov, [.t 1], [], none⟩, ⟨some 62, .call 29, [.t 61], [0], none⟩, ⟨some 63, .mov, [.t 12], [], none⟩, ⟨some 64, .build [V.nl 1, V.nl 1] [(0, 1), (1, 1)], [.t 62, .t 63], [1, 2], none⟩, ⟨none, .store 2, [.t 4, .t 64], [3, 1, 0, 1, 2, 3], none⟩, ⟨some 5, .mov, [cb true], [4, 0, 1, 2, 3, 4], none⟩] false).seq AC.ret)))))))
def rs_view_Part : List RV := [.c 4 2 true, .t 5]
theorem c_view_Part : compile Try.prog (Go.Func.ntmps Try.f11) (Try.f11.body.getD .skip) = some ac_view_Part := by kernel_rfl
theorem go_view_Part {xs : List V} {bx bx' : U} {r : V} {ns : List O} (hxs : decide (xs.length ≤ Go.Func.ntmps Try.f11) = true) (hbx : BxOK bx bx') (h : ∀ cx : Cx, cx.m0 = ups M0 bx → Awp Try.prog cx ac_view_Part (RetE rs_view_Part r bx' ns) ⟨tl (idx 0 xs), ups M0 bx⟩) : Does Try.prog 11 xs bx r bx' ns :=
  does_of Try.func11 (by kernel_rfl : Try.f11.body = some (Try.f11.body.getD .skip)) rfl c_view_Part (by kernel_rfl) (of_decide_eq_true hxs) hbx fun cx _ hm => h cx hm
def ac_view_Text : AC :=
  (AC.region [⟨some 1, .box, [.t 0], [], none⟩, ⟨some 2, .mov, [AV.c (V.d (D.at (Value.string { data := { toList := [] } })))], [], none⟩] false).seq
  ((AC.region [⟨some 8, .fad 0, [.t 1], [], none⟩, ⟨some 9, .load 1 false, [.t 8], [0], none⟩, ⟨some 10, .call 38, [AV.c (V.d (D.at (Value.string { data := { toList := [] } }))), .t 9], [1], none⟩, ⟨some 11, .fad 1, [.t 1], [], none⟩, ⟨some 12, .load 1 false, [.t 11], [3], none⟩, ⟨some 13, .len, [.t 12], [4], none⟩, ⟨some 14, .call 37, [.t 10, .t 13], [2, 5, 2], none⟩, ⟨some 3, .mov, [.t 14], [6, 6, 0, 1, 2, 3, 4, 5, 6], none⟩] true).seq
  (((AC.region [⟨some 15, .fad 1, [.t 1], [], none⟩, ⟨some 16, .load 1 false, [.t 15], [0], none⟩, ⟨some 17, .len, [.t 16], [1], none⟩, ⟨some 18, .mov, [ci 0], [], none⟩] false).seq
  (AC.block 0 ((AC.region [⟨some 19, .bin .lss, [.t 18, .t 17], [], none⟩] false).seq
  ((AC.cond (.t 19) AC.skip (AC.exit 0)).seq
  ((AC.block 1 ((AC.region [⟨some 20, .iad 1, [.t 16, .t 18], [], none⟩, ⟨some 21, .load 1 false, [.t 20], [0], none⟩, ⟨some 5, .mov, [.t 21], [1, 0, 1], none⟩] false).seq
  ((AC.region [⟨some 22, .mov, [.t 3], [], none⟩, ⟨some 23, .mov, [.t 5], [], none⟩, ⟨some 24, .len, [.t 23], [1], none⟩, ⟨some 25, .call 37, [.t 22, .t 24], [0, 2], none⟩, ⟨some 3, .mov, [.t 25], [3, 3, 0, 1, 2, 3], none⟩] false).seq
  ((AC.region [⟨some 26, .mov, [.t 5], [], none⟩, ⟨some 27, .len, [.t 26], [0], none⟩, ⟨some 28, .mov, [ci 0], [], none⟩] false).seq
  (AC.block 2 ((AC.region [⟨some 29, .bin .lss, [.t 28, .t 27], [], none⟩] false).seq
  ((AC.cond (.t 29) AC.skip (AC.exit 2)).seq
  ((AC.block 3 ((AC.region [⟨some 30, .iad 1, [.t 26, .t 28], [], none⟩, ⟨some 31, .load 1 false, [.t 30], [0], none⟩, ⟨some 7, .mov, [.t 31], [1, 0, 1], none⟩] false).seq
  (AC.region [⟨some 32, .mov, [.t 3], [], none⟩, ⟨some 33, .mov, [.t 7], [], none⟩, ⟨some 34, .call 38, [.t 32, .t 33], [0, 1], none⟩, ⟨some 3, .mov, [.t 34], [2, 2, 0, 1, 2], none⟩] false))).seq
  (AC.region [⟨some 35, .bin .add, [.t 28, ci 1], [], none⟩, ⟨some 28, .mov, [.t 35], [0], none⟩] false)))).loop))))).seq
  (AC.region [⟨some 36, .bin .add, [.t 18, ci 1], [], none⟩, ⟨some 18, .mov, [.t 36], [0], none⟩] false)))).loop)).seq
  ((AC.region [⟨some 37, .mov, [.t 3], [], none⟩, ⟨some 2, .mov, [.t 37], [0, 0], none⟩] false).seq AC.ret)))
def rs_view_Text : List RV := [.t 2]
theorem c_view_Text : compile Try.prog (Go.Func.ntmps Try.f14) (Try.f14.body.getD .skip) = some ac_view_Text := by kernel_rfl
theorem go_view_Text {xs : List V} {bx bx' : U} {r : V} {ns : List O} (hxs : decide (xs.length ≤ Go.Func.ntmps Try.f14) = true) (hbx : BxOK bx bx') (h : ∀ cx : Cx, cx.m0 = ups M0 bx → Awp Try.prog cx ac_view_Text (RetE rs_view_Text r bx' ns) ⟨tl (idx 0 xs), ups M0 bx⟩) : Does Try.prog 14 xs bx r bx' ns :=
  does_of Try.func14 (by kernel_rfl : Try.f14.body = some (Try.f14.body.getD .skip)) rfl c_view_Text (by kernel_rfl) (of_decide_eq_true hxs) hbx fun cx _ hm => h cx hm
def ac_view_Same : AC :=
  (AC.region [⟨some 2, .box, [.t 0], [], none⟩, ⟨some 3, .box, [.t 1], [], none⟩, ⟨some 4, .mov, [cb false], [], none⟩] false).seq
  ((AC.region [⟨some 5, .fad 0, [.t 2], [], none⟩, ⟨some 6, .load 1 false, [.t 5], [0], none⟩, ⟨some 7, .fad 0, [.t 3], [], none⟩, ⟨some 8, .load 1 false, [.t 7], [2], none⟩, ⟨some 9, .call 31, [.t 6, .t 8], [1, 3], none⟩, ⟨some 10, .mov, [.t 9], [4, 4], none⟩, ⟨some 11, .fad 1, [.t 2], [5], some (5, 10, true)⟩, ⟨some 12, .load 1 false, [.t 11], [6, 5], some (5, 10, true)⟩, ⟨some 13, .fad 1, [.t 3], [5], some (5, 10, true)⟩, ⟨some 14, .load 1 false, [.t 13], [8, 5], some (5, 10, true)⟩, ⟨some 15, .call 32, [.t 12, .t 14, AV.c (V.cl 33 [])], [7, 9, 5, 5], some (5, 10, true)⟩, ⟨some 16, .pick, [.t 10, .t 15, cb false], [5, 10], none⟩, ⟨some 4, .mov, [.t 16], [11, 10, 0, 1, 2, 3, 4, 5, 6, 7, 8, 9, 10, 11], none⟩] false).seq AC.ret)
def rs_view_Same : List RV := [.t 4]
theorem c_view_Same : compile Try.prog (Go.Func.ntmps Try.f12) (Try.f12.body.getD .skip) = some ac_view_Same := by kernel_rfl
theorem go_view_Same {xs : List V} {bx bx' : U} {r : V} {ns : List O} (hxs : decide (xs.length ≤ Go.Func.ntmps Try.f12) = true) (hbx : BxOK bx bx') (h : ∀ cx : Cx, cx.m0 = ups M0 bx → Awp Try.prog cx ac_view_Same (RetE rs_view_Same r bx' ns) ⟨tl (idx 0 xs), ups M0 bx⟩) : Does Try.prog 12 xs bx r bx' ns :=
  does_of Try.func12 (by kernel_rfl : Try.f12.body = some (Try.f12.body.getD .skip)) rfl c_view_Same (by kernel_rfl) (of_decide_eq_true hxs) hbx fun cx _ hm => h cx hm
def ac_view_Same_1 : AC :=
  (AC.region [⟨some 4, .mov, [cb false], [], none⟩] false).seq
  ((AC.region [⟨some 5, .mov, [.t 0], [], none⟩, ⟨some 6, .mov, [.t 1], [], none⟩, ⟨some 7, .call 34, [.t 5, .t 6, AV.c (V.cl 31 [])], [0, 1], none⟩, ⟨some 4, .mov, [.t 7], [2, 2, 0, 1, 2], none⟩] false).seq AC.ret)
def rs_view_Same_1 : List RV := [.t 4]
theorem c_view_Same_1 : compile Try.prog (Go.Func.ntmps Try.f33) (Try.f33.body.getD .skip) = some ac_view_Same_1 := by kernel_rfl
theorem go_view_Same_1 {xs : List V} {bx bx' : U} {r : V} {ns : List O} (hxs : decide (xs.length ≤ Go.Func.ntmps Try.f33) = true) (hbx : BxOK bx bx') (h : ∀ cx : Cx, cx.m0 = ups M0 bx → Awp Try.prog cx ac_view_Same_1 (RetE rs_view_Same_1 r bx' ns) ⟨tl (idx 0 xs), ups M0 bx⟩) : Does Try.prog 33 xs bx r bx' ns :=
  does_of Try.func33 (by kernel_rfl : Try.f33.body = some (Try.f33.body.getD .skip)) rfl c_view_Same_1 (by kernel_rfl) (of_decide_eq_true hxs) hbx fun cx _ hm => h cx hm
def ac_slices_Clone_int_int : AC :=
  (AC.region [⟨some 2, .mov, [AV.c (V.nl 1)], [], none⟩] false).seq
  (((AC.region [⟨some 3, .mov, [.t 0], [], none⟩, ⟨some 4, .isn false, [.t 3, AV.c (V.nl 1)], [0], none⟩] false).seq
  (AC.cond (.t 4) ((AC.region [⟨some 2, .mov, [AV.c (V.nl 1)], [], none⟩] false).seq AC.ret) AC.skip)).seq
  ((AC.region [⟨some 5, .bsl 1 [I 0] 0 [], [], [], none⟩, ⟨some 6, .mov, [.t 0], [], none⟩, ⟨some 7, .app 1 8, [.t 5, .t 6], [0, 1], none⟩, ⟨some 2, .mov, [.t 7], [2, 2, 0, 1, 2], none⟩] false).seq AC.ret))
def rs_slices_Clone_int_int : List RV := [.t 2]
theorem c_slices_Clone_int_int : compile Try.prog (Go.Func.ntmps Try.f29) (Try.f29.body.getD .skip) = some ac_slices_Clone_int_int := by kernel_rfl
theorem go_slices_Clone_int_int {xs : List V} {bx bx' : U} {r : V} {ns : List O} (hxs : decide (xs.length ≤ Go.Func.ntmps Try.f29) = true) (hbx : BxOK bx bx') (h : ∀ cx : Cx, cx.m0 = ups M0 bx → Awp Try.prog cx ac_slices_Clone_int_int (RetE rs_slices_Clone_int_int r bx' ns) ⟨tl (idx 0 xs), ups M0 bx⟩) : Does Try.prog 29 xs bx r bx' ns :=
  does_of Try.func29 (by kernel_rfl : Try.f29.body = some (Try.f29.body.getD .skip)) rfl c_slices_Clone_int_int (by kernel_rfl) (of_decide_eq_true hxs) hbx fun cx _ hm => h cx hm
def ac_slices_Index_int_int : AC :=
  (AC.region [⟨some 4, .mov, [ci 0], [], none⟩] false).seq
  (((AC.region [⟨some 6, .mov, [.t 0], [], none⟩, ⟨some 7, .len, [.t 6], [0], none⟩, ⟨some 8, .mov, [ci 0], [], none⟩] false).seq
  (AC.block 0 ((AC.region [⟨some 9, .bin .lss, [.t 8, .t 7], [], none⟩] false).seq
  ((AC.cond (.t 9) AC.skip (AC.exit 0)).seq
  ((AC.block 1 ((AC.region [⟨some 10, .mov, [.t 8], [], none⟩, ⟨some 5, .mov, [.t 10], [0, 0], none⟩] false).seq
  ((AC.region [⟨some 11, .mov, [.t 1], [], none⟩, ⟨some 12, .mov, [.t 0], [], none⟩, ⟨some 13, .mov, [.t 5], [], none⟩, ⟨some 14, .iad 1, [.t 12, .t 13], [1, 2], none⟩, ⟨some 15, .load 1 false, [.t 14], [3], none⟩, ⟨some 16, .bin .eql, [.t 11, .t 15], [0, 4], none⟩] false).seq
  (AC.cond (.t 16) ((AC.region [⟨some 17, .mov, [.t 5], [], none⟩, ⟨some 4, .mov, [.t 17], [0, 0], none⟩] false).seq AC.ret) AC.skip)))).seq
  (AC.region [⟨some 18, .bin .add, [.t 8, ci 1], [], none⟩, ⟨some 8, .mov, [.t 18], [0], none⟩] false)))).loop)).seq
  ((AC.region [⟨some 4, .mov, [ci (-1)], [], none⟩] false).seq AC.ret))
def rs_slices_Index_int_int : List RV := [.t 4]
theorem c_slices_Index_int_int : compile Try.prog (Go.Func.ntmps Try.f30) (Try.f30.body.getD .skip) = some ac_slices_Index_int_int := by kernel_rfl
theorem go_slices_Index_int_int {xs : List V} {bx bx' : U} {r : V} {ns : List O} (hxs : decide (xs.length ≤ Go.Func.ntmps Try.f30) = true) (hbx : BxOK bx bx') (h : ∀ cx : Cx, cx.m0 = ups M0 bx → Awp Try.prog cx ac_slices_Index_int_int (RetE rs_slices_Index_int_int r bx' ns) ⟨tl (idx 0 xs), ups M0 bx⟩) : Does Try.prog 30 xs bx r bx' ns :=
  does_of Try.func30 (by kernel_rfl : Try.f30.body = some (Try.f30.body.getD .skip)) rfl c_slices_Index_int_int (by kernel_rfl) (of_decide_eq_true hxs) hbx fun cx _ hm => h cx hm
def ac_slices_Equal_int_int : AC :=
  (AC.region [⟨some 4, .mov, [cb false], [], none⟩] false).seq
  (((AC.region [⟨some 6, .mov, [.t 0], [], none⟩, ⟨some 7, .len, [.t 6], [0], none⟩, ⟨some 8, .mov, [.t 1], [], none⟩, ⟨some 9, .len, [.t 8], [2], none⟩, ⟨some 10, .bin .neq, [.t 7, .t 9], [1, 3], none⟩] false).seq
  (AC.cond (.t 10) ((AC.region [⟨some 4, .mov, [cb false], [], none⟩] false).seq AC.ret) AC.skip)).seq
  (((AC.region [⟨some 11, .mov, [.t 0], [], none⟩, ⟨some 12, .len, [.t 11], [0], none⟩, ⟨some 13, .mov, [ci 0], [], none⟩] false).seq
  (AC.block 0 ((AC.region [⟨some 14, .bin .lss, [.t 13, .t 12], [], none⟩] false).seq
  ((AC.cond (.t 14) AC.skip (AC.exit 0)).seq
  ((AC.block 1 ((AC.region [⟨some 15, .mov, [.t 13], [], none⟩, ⟨some 5, .mov, [.t 15], [0, 0], none⟩] false).seq
  ((AC.region [⟨some 16, .mov, [.t 0], [], none⟩, ⟨some 17, .mov, [.t 5], [], none⟩, ⟨some 18, .iad 1, [.t 16, .t 17], [0, 1], none⟩, ⟨some 19, .load 1 false, [.t 18], [2], none⟩, ⟨some 20, .mov, [.t 1], [], none⟩, ⟨some 21, .mov, [.t 5], [], none⟩, ⟨some 22, .iad 1, [.t 20, .t 21], [4, 5], none⟩, ⟨some 23, .load 1 false, [.t 22], [6], none⟩, ⟨some 24, .bin .neq, [.t 19, .t 23], [3, 7], none⟩] true).seq
  (AC.cond (.t 24) ((AC.region [⟨some 4, .mov, [cb false], [], none⟩] false).seq AC.ret) AC.skip)))).seq
  (AC.region [⟨some 25, .bin .add, [.t 13, ci 1], [], none⟩, ⟨some 13, .mov, [.t 25], [0], none⟩] false)))).loop)).seq
  ((AC.region [⟨some 4, .mov, [cb true], [], none⟩] false).seq AC.ret)))
def rs_slices_Equal_int_int : List RV := [.t 4]
theorem c_slices_Equal_int_int : compile Try.prog (Go.Func.ntmps Try.f31) (Try.f31.body.getD .skip) = some ac_slices_Equal_int_int := by kernel_rfl
theorem go_slices_Equal_int_int {xs : List V} {bx bx' : U} {r : V} {ns : List O} (hxs : decide (xs.length ≤ Go.Func.ntmps Try.f31) = true) (hbx : BxOK bx bx') (h : ∀ cx : Cx, cx.m0 = ups M0 bx → Awp Try.prog cx ac_slices_Equal_int_int (RetE rs_slices_Equal_int_int r bx' ns) ⟨tl (idx 0 xs), ups M0 bx⟩) : Does Try.prog 31 xs bx r bx' ns :=
  does_of Try.func31 (by kernel_rfl : Try.f31.body = some (Try.f31.body.getD .skip)) rfl c_slices_Equal_int_int (by kernel_rfl) (of_decide_eq_true hxs) hbx fun cx _ hm => h cx hm
def ac_slices_EqualFunc_LL_int_LL_int_LLint_LLint : AC :=
  (AC.region [⟨some 6, .mov, [cb false], [], none⟩] false).seq
  (((AC.region [⟨some 10, .mov, [.t 0], [], none⟩, ⟨some 11, .len, [.t 10], [0], none⟩, ⟨some 12, .mov, [.t 1], [], none⟩, ⟨some 13, .len, [.t 12], [2], none⟩, ⟨some 14, .bin .neq, [.t 11, .t 13], [1, 3], none⟩] false).seq
  (AC.cond (.t 14) ((AC.region [⟨some 6, .mov, [cb false], [], none⟩] false).seq AC.ret) AC.skip)).seq
  (((AC.region [⟨some 15, .mov, [.t 0], [], none⟩, ⟨some 16, .len, [.t 15], [0], none⟩, ⟨some 17, .mov, [ci 0], [], none⟩] false).seq
  (AC.block 0 ((AC.region [⟨some 18, .bin .lss, [.t 17, .t 16], [], none⟩] false).seq
  ((AC.cond (.t 18) AC.skip (AC.exit 0)).seq
  ((AC.block 1 ((AC.region [⟨some 19, .mov, [.t 17], [], none⟩, ⟨some 20, .iad 1, [.t 15, .t 17], [], none⟩, ⟨some 21, .load 1 false, [.t 20], [1], none⟩, ⟨some 7, .mov, [.t 19], [0, 0, 1, 2], none⟩, ⟨some 8, .mov, [.t 21], [2, 3, 0, 1, 2, 3], none⟩] false).seq
  ((AC.region [⟨some 22, .mov, [.t 1], [], none⟩, ⟨some 23, .mov, [.t 7], [], none⟩, ⟨some 24, .iad 1, [.t 22, .t 23], [0, 1], none⟩, ⟨some 25, .load 1 false, [.t 24], [2], none⟩, ⟨some 9, .mov, [.t 25], [3, 0, 1, 2, 3], none⟩] false).seq
  ((AC.region [⟨some 26, .mov, [.t 2], [], none⟩, ⟨some 27, .mov, [.t 8], [], none⟩, ⟨some 28, .mov, [.t 9], [], none⟩, ⟨some 29, .callv, [.t 26, .t 27, .t 28], [0, 1, 2], none⟩, ⟨some 30, .un .not, [.t 29], [3], none⟩] false).seq
  (AC.cond (.t 30) ((AC.region [⟨some 6, .mov, [cb false], [], none⟩] false).seq AC.ret) AC.skip))))).seq
  (AC.region [⟨some 31, .bin .add, [.t 17, ci 1], [], none⟩, ⟨some 17, .mov, [.t 31], [0], none⟩] false)))).loop)).seq
  ((AC.region [⟨some 6, .mov, [cb true], [], none⟩] false).seq AC.ret)))
def rs_slices_EqualFunc_LL_int_LL_int_LLint_LLint : List RV := [.t 6]
theorem c_slices_EqualFunc_LL_int_LL_int_LLint_LLint : compile Try.prog (Go.Func.ntmps Try.f32) (Try.f32.body.getD .skip) = some ac_slices_EqualFunc_LL_int_LL_int_LLint_LLint := by kernel_rfl
theorem go_slices_EqualFunc_LL_int_LL_int_LLint_LLint {xs : List V} {bx bx' : U} {r : V} {ns : List O} (hxs : decide (xs.length ≤ Go.Func.ntmps Try.f32) = true) (hbx : BxOK bx bx') (h : ∀ cx : Cx, cx.m0 = ups M0 bx → Awp Try.prog cx ac_slices_EqualFunc_LL_int_LL_int_LLint_LLint (RetE rs_slices_EqualFunc_LL_int_LL_int_LLint_LLint r bx' ns) ⟨tl (idx 0 xs), ups M0 bx⟩) : Does Try.prog 32 xs bx r bx' ns :=
  does_of Try.func32 (by kernel_rfl : Try.f32.body = some (Try.f32.body.getD .skip)) rfl c_slices_EqualFunc_LL_int_LL_int_LLint_LLint (by kernel_rfl) (of_decide_eq_true hxs) hbx fun cx _ hm => h cx hm
def ac_slices_EqualFunc_LLint_LLint_int_int : AC :=
  (AC.region [⟨some 6, .mov, [cb false], [], none⟩] false).seq
  (((AC.region [⟨some 10, .mov, [.t 0], [], none⟩, ⟨some 11, .len, [.t 10], [0], none⟩, ⟨some 12, .mov, [.t 1], [], none⟩, ⟨some 13, .len, [.t 12], [2], none⟩, ⟨some 14, .bin .neq, [.t 11, .t 13], [1, 3], none⟩] false).seq
  (AC.cond (.t 14) ((AC.region [⟨some 6, .mov, [cb false], [], none⟩] false).seq AC.ret) AC.skip)).seq
  (((AC.region [⟨some 15, .mov, [.t 0], [], none⟩, ⟨some 16, .len, [.t 15], [0], none⟩, ⟨some 17, .mov, [ci 0], [], none⟩] false).seq
  (AC.block 0 ((AC.region [⟨some 18, .bin .lss, [.t 17, .t 16], [], none⟩] false).seq
  ((AC.cond (.t 18) AC.skip (AC.exit 0)).seq
  ((AC.block 1 ((AC.region [⟨some 19, .mov, [.t 17], [], none⟩, ⟨some 20, .iad 1, [.t 15, .t 17], [], none⟩, ⟨some 21, .load 1 false, [.t 20], [1], none⟩, ⟨some 7, .mov, [.t 19], [0, 0, 1, 2], none⟩, ⟨some 8, .mov, [.t 21], [2, 3, 0, 1, 2, 3], none⟩] false).seq
  ((AC.region [⟨some 22, .mov, [.t 1], [], none⟩, ⟨some 23, .mov, [.t 7], [], none⟩, ⟨some 24, .iad 1, [.t 22, .t 23], [0, 1], none⟩, ⟨some 25, .load 1 false, [.t 24], [2], none⟩, ⟨some 9, .mov, [.t 25], [3, 0, 1, 2, 3], none⟩] false).seq
  ((AC.region [⟨some 26, .mov, [.t 2], [], none⟩, ⟨some 27, .mov, [.t 8], [], none⟩, ⟨some 28, .mov, [.t 9], [], none⟩, ⟨some 29, .callv, [.t 26, .t 27, .t 28], [0, 1, 2], none⟩, ⟨some 30, .un .not, [.t 29], [3], none⟩] false).seq
  (AC.cond (.t 30) ((AC.region [⟨some 6, .mov, [cb false], [], none⟩] false).seq AC.ret) AC.skip))))).seq
  (AC.region [⟨some 31, .bin .add, [.t 17, ci 1], [], none⟩, ⟨some 17, .mov, [.t 31], [0], none⟩] false)))).loop)).seq
  ((AC.region [⟨some 6, .mov, [cb true], [], none⟩] false).seq AC.ret)))
def rs_slices_EqualFunc_LLint_LLint_int_int : List RV := [.t 6]
theorem c_slices_EqualFunc_LLint_LLint_int_int : compile Try.prog (Go.Func.ntmps Try.f34) (Try.f34.body.getD .skip) = some ac_slices_EqualFunc_LLint_LLint_int_int := by kernel_rfl
theorem go_slices_EqualFunc_LLint_LLint_int_int {xs : List V} {bx bx' : U} {r : V} {ns : List O} (hxs : decide (xs.length ≤ Go.Func.ntmps Try.f34) = true) (hbx : BxOK bx bx') (h : ∀ cx : Cx, cx.m0 = ups M0 bx → Awp Try.prog cx ac_slices_EqualFunc_LLint_LLint_int_int (RetE rs_slices_EqualFunc_LLint_LLint_int_int r bx' ns) ⟨tl (idx 0 xs), ups M0 bx⟩) : Does Try.prog 34 xs bx r bx' ns :=
  does_of Try.func34 (by kernel_rfl : Try.f34.body = some (Try.f34.body.getD .skip)) rfl c_slices_EqualFunc_LLint_LLint_int_int (by kernel_rfl) (of_decide_eq_true hxs) hbx fun cx _ hm => h cx hm
def ac_ref25_rising : AC :=
  (AC.region [⟨some 2, .mov, [cb false], [], none⟩] false).seq
  (((AC.region [⟨some 3, .mov, [ci 0], [], none⟩] false).seq
  (AC.block 0 (((AC.region [⟨some 4, .mov, [.t 3], [], none⟩, ⟨some 5, .mov, [.t 0], [], none⟩, ⟨some 6, .len, [.t 5], [1], none⟩, ⟨some 7, .bin .lss, [.t 4, .t 6], [0, 2], none⟩] false).seq
  (AC.cond (.t 7) AC.skip (AC.exit 0))).seq
  ((AC.block 1 ((AC.region [⟨some 10, .mov, [.t 0], [], none⟩, ⟨some 11, .mov, [.t 3], [], none⟩, ⟨some 12, .iad 1, [.t 10, .t 11], [0, 1], none⟩, ⟨some 13, .load 1 false, [.t 12], [2], none⟩, ⟨some 14, .bin .lss, [.t 13, ci 1], [3], none⟩, ⟨some 15, .mov, [.t 14], [4], none⟩, ⟨some 16, .mov, [.t 3], [5], some (5, 15, false)⟩, ⟨some 17, .bin .gtr, [.t 16, ci 0], [6, 5], some (5, 15, false)⟩, ⟨some 18, .mov, [.t 17], [7, 5, 5], some (5, 15, false)⟩, ⟨some 19, .mov, [.t 0], [8], some (8, 18, true)⟩, ⟨some 20, .mov, [.t 3], [8], some (8, 18, true)⟩, ⟨some 21, .bin .sub, [.t 20, ci 1], [10, 8], some (8, 18, true)⟩, ⟨some 22, .iad 1, [.t 19, .t 21], [9, 11, 8], some (8, 18, true)⟩, ⟨some 23, .load 1 false, [.t 22], [12, 8], some (8, 18, true)⟩, ⟨some 24, .mov, [.t 0], [8], some (8, 18, true)⟩, ⟨some 25, .mov, [.t 3], [8], some (8, 18, true)⟩, ⟨some 26, .iad 1, [.t 24, .t 25], [14, 15, 8], some (8, 18, true)⟩, ⟨some 27, .load 1 false, [.t 26], [16, 8], some (8, 18, true)⟩, ⟨some 28, .bin .geq, [.t 23, .t 27], [13, 17, 8], some (8, 18, true)⟩, ⟨some 29, .pick, [.t 18, .t 28, cb false], [8, 18, 5], some (5, 15, false)⟩, ⟨some 30, .pick, [.t 15, cb true, .t 29], [5, 19], none⟩] true).seq
  (AC.cond (.t 30) ((AC.region [⟨some 2, .mov, [cb false], [], none⟩] false).seq AC.ret) AC.skip))).seq
  (AC.region [⟨some 8, .mov, [.t 3], [], none⟩, ⟨some 9, .bin .add, [.t 8, ci 1], [0], none⟩, ⟨some 3, .mov, [.t 9], [1, 0, 1], none⟩] false))).loop)).seq
  ((AC.region [⟨some 2, .mov, [cb true], [], none⟩] false).seq AC.ret))
def rs_ref25_rising : List RV := [.t 2]
theorem c_ref25_rising : compile Try.prog (Go.Func.ntmps Try.f39) (Try.f39.body.getD .skip) = some ac_ref25_rising := by kernel_rfl
theorem go_ref25_rising {xs : List V} {bx bx' : U} {r : V} {ns : List O} (hxs : decide (xs.length ≤ Go.Func.ntmps Try.f39) = true) (hbx : BxOK bx bx') (h : ∀ cx : Cx, cx.m0 = ups M0 bx → Awp Try.prog cx ac_ref25_rising (RetE rs_ref25_rising r bx' ns) ⟨tl (idx 0 xs), ups M0 bx⟩) : Does Try.prog 39 xs bx r bx' ns :=
  does_of Try.func39 (by kernel_rfl : Try.f39.body = some (Try.f39.body.getD .skip)) rfl c_ref25_rising (by kernel_rfl) (of_decide_eq_true hxs) hbx fun cx _ hm => h cx hm
def ac_ref25_Of : AC :=
  (AC.region [⟨some 4, .alloc [V.nl 1, V.nl 1], [], [], none⟩, ⟨some 5, .mov, [ci 0], [], none⟩] false).seq
  (((AC.region [⟨some 10, .mov, [.t 1], [], none⟩, ⟨some 11, .call 39, [.t 10], [0], none⟩, ⟨some 12, .un .not, [.t 11], [1], none⟩] false).seq
  (AC.cond (.t 12) ((AC.region [⟨some 13, .build [V.nl 1, V.nl 1] [], [], [], none⟩, ⟨none, .store 2, [.t 4, .t 13], [0, 0], none⟩, ⟨some 5, .mov, [ci 5], [1, 0, 1], none⟩] false).seq AC.ret) AC.skip)).seq
  ((AC.region [⟨some 14, .bsl 1 [I 0] 0 [], [], [], none⟩, ⟨some 15, .mov, [.t 1], [], none⟩, ⟨some 16, .app 1 8, [.t 14, .t 15], [0, 1], none⟩, ⟨some 17, .build [V.nl 1, V.nl 1] [(0, 1)], [.t 16], [2], none⟩, ⟨some 6, .alloc [V.nl 1, V.nl 1], [], [], none⟩, ⟨none, .store 2, [.t 6, .t 17], [4, 3, 2, 0, 1, 2, 3, 4], none⟩] false).seq
  (((AC.region [⟨some 7, .mov, [ci 0], [], none⟩] false).seq
  (AC.block 0 (((AC.region [⟨some 18, .mov, [.t 7], [], none⟩, ⟨some 19, .mov, [.t 0], [], none⟩, ⟨some 20, .len, [.t 19], [1], none⟩, ⟨some 21, .bin .lss, [.t 18, .t 20], [0, 2], none⟩] false).seq
  (AC.cond (.t 21) AC.skip (AC.exit 0))).seq
  ((AC.block 1 ((AC.region [⟨some 8, .mov, [AV.c (V.nl 1)], [], none⟩] false).seq
  (((AC.region [⟨some 9, .mov, [ci 0], [], none⟩] false).seq
  (AC.block 2 (((AC.region [⟨some 24, .mov, [.t 9], [], none⟩, ⟨some 25, .mov, [.t 1], [], none⟩, ⟨some 26, .len, [.t 25], [1], none⟩, ⟨some 27, .bin .lss, [.t 24, .t 26], [0, 2], none⟩] false).seq
  (AC.cond (.t 27) AC.skip (AC.exit 2))).seq
  ((AC.block 3 (((AC.region [⟨some 30, .mov, [.t 1], [], none⟩, ⟨some 31, .mov, [.t 9], [], none⟩, ⟨some 32, .iad 1, [.t 30, .t 31], [0, 1], none⟩, ⟨some 33, .load 1 false, [.t 32], [2], none⟩, ⟨some 34, .mov, [.t 0], [], none⟩, ⟨some 35, .mov, [.t 7], [], none⟩, ⟨some 36, .iad 1, [.t 34, .t 35], [4, 5], none⟩, ⟨some 37, .load 1 false, [.t 36], [6], none⟩, ⟨some 38, .len, [.t 37], [7], none⟩, ⟨some 39, .bin .gtr, [.t 33, .t 38], [3, 8], none⟩] true).seq
  (AC.cond (.t 39) ((AC.region [⟨some 40, .build [V.nl 1, V.nl 1] [], [], [], none⟩, ⟨none, .store 2, [.t 4, .t 40], [0, 0], none⟩, ⟨some 5, .mov, [ci 1], [1, 0, 1], none⟩] false).seq AC.ret) AC.skip)).seq
  (AC.region [⟨some 41, .mov, [.t 8], [], none⟩, ⟨some 42, .bsl 1 [I 0] 0 [], [], [], none⟩, ⟨some 43, .mov, [.t 0], [], none⟩, ⟨some 44, .mov, [.t 7], [], none⟩, ⟨some 45, .iad 1, [.t 43, .t 44], [2, 3], none⟩, ⟨some 46, .load 1 false, [.t 45], [4], none⟩, ⟨some 47, .mov, [.t 1], [], none⟩, ⟨some 48, .mov, [.t 9], [], none⟩, ⟨some 49, .iad 1, [.t 47, .t 48], [6, 7], none⟩, ⟨some 50, .load 1 false, [.t 49], [8], none⟩, ⟨some 51, .bin .sub, [.t 50, ci 1], [9], none⟩, ⟨some 52, .iad 1, [.t 46, .t 51], [5, 10], none⟩, ⟨some 53, .load 1 false, [.t 52], [11], none⟩, ⟨some 54, .app 1 8, [.t 42, .t 53], [1, 12], none⟩, ⟨some 55, .bsl 1 [V.nl 1] 1 [0], [.t 54], [13], none⟩, ⟨some 56, .app 1 24, [.t 41, .t 55], [0, 14, 13], none⟩, ⟨some 8, .mov, [.t 56], [15, 15, 0, 1, 2, 3, 4, 5, 6, 7, 8, 9, 10, 11, 12, 13, 14, 15], none⟩] true))).seq
  (AC.region [⟨some 28, .mov, [.t 9], [], none⟩, ⟨some 29, .bin .add, [.t 28, ci 1], [0], none⟩, ⟨some 9, .mov, [.t 29], [1, 0, 1], none⟩] false))).loop)).seq
  (AC.region [⟨some 57, .fad 1, [.t 6], [], none⟩, ⟨some 58, .load 1 false, [.t 57], [0], none⟩, ⟨some 59, .mov, [.t 8], [], none⟩, ⟨some 60, .bsl 1 [V.nl 1] 1 [0], [.t 59], [2], none⟩, ⟨some 61, .app 1 24, [.t 58, .t 60], [1, 3], none⟩, ⟨some 62, .fad 1, [.t 6], [0, 1, 2, 3, 4], none⟩, ⟨none, .store 1, [.t 62, .t 61], [5, 4, 4, 0, 1, 2, 3, 4], none⟩] false)))).seq
  (AC.region [⟨some 22, .mov, [.t 7], [], none⟩, ⟨some 23, .bin .add, [.t 22, ci 1], [0], none⟩, ⟨some 7, .mov, [.t 23], [1, 0, 1], none⟩] false))).loop)).seq
  ((AC.region [⟨some 63, .load 2 true, [.t 6], [], none⟩, ⟨none, .store 2, [.t 4, .t 63], [0, 0], none⟩, ⟨some 5, .mov, [ci 0], [1, 0, 1], none⟩] false).seq AC.ret))))
def rs_ref25_Of : List RV := [.c 4 2 true, .t 5]
theorem c_ref25_Of : compile Try.prog (Go.Func.ntmps Try.f15) (Try.f15.body.getD .skip) = some ac_ref25_Of := by kernel_rfl
theorem go_ref25_Of {xs : List V} {bx bx' : U} {r : V} {ns : List O} (hxs : decide (xs.length ≤ Go.Func.ntmps Try.f15) = true) (hbx : BxOK bx bx') (h : ∀ cx : Cx, cx.m0 = ups M0 bx → Awp Try.prog cx ac_ref25_Of (RetE rs_ref25_Of r bx' ns) ⟨tl (idx 0 xs), ups M0 bx⟩) : Does Try.prog 15 xs bx r bx' ns :=
  does_of Try.func15 (by kernel_rfl : Try.f15.body = some (Try.f15.body.getD .skip)) rfl c_ref25_Of (by kernel_rfl) (of_decide_eq_true hxs) hbx fun cx _ hm => h cx hm
def ac_ref25_Part : AC :=
  (AC.region [⟨some 2, .box, [.t 0], [], none⟩, ⟨some 4, .alloc [V.nl 1, V.nl 1], [], [], none⟩, ⟨some 5, .mov, [cb false], [], none⟩] false).seq
  (((AC.region [⟨some 13, .mov, [.t 1], [], none⟩, ⟨some 14, .call 39, [.t 13], [0], none⟩, ⟨some 15, .un .not, [.t 14], [1], none⟩] false).seq
  (AC.cond (.t 15) ((AC.region [⟨some 16, .build [V.nl 1, V.nl 1] [], [], [], none⟩, ⟨none, .store 2, [.t 4, .t 16], [0, 0], none⟩, ⟨some 5, .mov, [cb false], [1, 0, 1], none⟩] false).seq AC.ret) AC.skip)).seq
  ((AC.region [⟨some 6, .mov, [AV.c (V.nl 1)], [], none⟩] false).seq
  (((AC.region [⟨some 7, .mov, [ci 0], [], none⟩] false).seq
  (AC.block 0 (((AC.region [⟨some 17, .mov, [.t 7], [], none⟩, ⟨some 18, .mov, [.t 1], [], none⟩, ⟨some 19, .len, [.t 18], [1], none⟩, ⟨some 20, .bin .lss, [.t 17, .t 19], [0, 2], none⟩] false).seq
  (AC.cond (.t 20) AC.skip (AC.exit 0))).seq
  ((AC.block 1 ((AC.region [⟨some 8, .mov, [ci 0], [], none⟩] false).seq
  ((AC.block 2 (((AC.region [⟨some 23, .mov, [.t 8], [], none⟩, ⟨some 24, .fad 0, [.t 2], [], none⟩, ⟨some 25, .load 1 false, [.t 24], [1], none⟩, ⟨some 26, .len, [.t 25], [2], none⟩, ⟨some 27, .bin .lss, [.t 23, .t 26], [0, 3], none⟩, ⟨some 28, .mov, [.t 27], [4], none⟩, ⟨some 29, .fad 0, [.t 2], [5], some (5, 28, true)⟩, ⟨some 30, .load 1 false, [.t 29], [6, 5], some (5, 28, true)⟩, ⟨some 31, .mov, [.t 8], [5], some (5, 28, true)⟩, ⟨some 32, .iad 1, [.t 30, .t 31], [7, 8, 5], some (5, 28, true)⟩, ⟨some 33, .load 1 false, [.t 32], [9, 5], some (5, 28, true)⟩, ⟨some 34, .mov, [.t 1], [5], some (5, 28, true)⟩, ⟨some 35, .mov, [.t 7], [5], some (5, 28, true)⟩, ⟨some 36, .iad 1, [.t 34, .t 35], [11, 12, 5], some (5, 28, true)⟩, ⟨some 37, .load 1 false, [.t 36], [13, 5], some (5, 28, true)⟩, ⟨some 38, .bin .neq, [.t 33, .t 37], [10, 14, 5], some (5, 28, true)⟩, ⟨some 39, .pick, [.t 28, .t 38, cb false], [5, 15], none⟩] true).seq
  (AC.cond (.t 39) AC.skip (AC.exit 2))).seq
  (AC.block 3 (AC.region [⟨some 40, .mov, [.t 8], [], none⟩, ⟨some 41, .bin .add, [.t 40, ci 1], [0], none⟩, ⟨some 8, .mov, [.t 41], [1, 0, 1], none⟩] false))).loop).seq
  (((AC.region [⟨some 42, .mov, [.t 8], [], none⟩, ⟨some 43, .fad 0, [.t 2], [], none⟩, ⟨some 44, .load 1 false, [.t 43], [1], none⟩, ⟨some 45, .len, [.t 44], [2], none⟩, ⟨some 46, .bin .eql, [.t 42, .t 45], [0, 3], none⟩] false).seq
  (AC.cond (.t 46) ((AC.region [⟨some 47, .build [V.nl 1, V.nl 1] [], [], [], none⟩, ⟨none, .store 2, [.t 4, .t 47], [0, 0], none⟩, ⟨some 5, .mov, [cb false], [1, 0, 1], none⟩] false).seq AC.ret) AC.skip)).seq
  (AC.region [⟨some 48, .mov, [.t 6], [], none⟩, ⟨some 49, .mov, [.t 8], [], none⟩, ⟨some 50, .bsl 1 [I 0] 1 [0], [.t 49], [1], none⟩, ⟨some 51, .app 1 8, [.t 48, .t 50], [0, 2], none⟩, ⟨some 6, .mov, [.t 51], [3, 3, 0, 1, 2, 3], none⟩] false))))).seq
  (AC.region [⟨some 21, .mov, [.t 7], [], none⟩, ⟨some 22, .bin .add, [.t 21, ci 1], [0], none⟩, ⟨some 7, .mov, [.t 22], [1, 0, 1], none⟩] false))).loop)).seq
  ((AC.region [⟨some 52, .bsl 1 [I 0] 0 [], [], [], none⟩, ⟨some 53, .mov, [.t 1], [], none⟩, ⟨some 54, .app 1 8, [.t 52, .t 53], [0, 1], none⟩, ⟨some 55, .build [V.nl 1, V.nl 1] [(0, 1)], [.t 54], [2], none⟩, ⟨some 9, .alloc [V.nl 1, V.nl 1], [], [], none⟩, ⟨none, .store 2, [.t 9, .t 55], [4, 3, 2, 0, 1, 2, 3, 4], none⟩] false).seq
  (((AC.region [⟨some 10, .mov, [ci 0], [], none⟩] false).seq
  (AC.block 4 (((AC.region [⟨some 56, .mov, [.t 10], [], none⟩, ⟨some 57, .fad 1, [.t 2], [], none⟩, ⟨some 58, .load 1 false, [.t 57], [1], none⟩, ⟨some 59, .len, [.t 58], [2], none⟩, ⟨some 60, .bin .lss, [.t 56, .t 59], [0, 3], none⟩] false).seq
  (AC.cond (.t 60) AC.skip (AC.exit 4))).seq
  ((AC.block 5 (((AC.region [⟨some 63, .fad 1, [.t 2], [], none⟩, ⟨some 64, .load 1 false, [.t 63], [0], none⟩, ⟨some 65, .mov, [.t 10], [], none⟩, ⟨some 66, .iad 1, [.t 64, .t 65], [1, 2], none⟩, ⟨some 67, .load 1 false, [.t 66], [3], none⟩, ⟨some 68, .len, [.t 67], [4], none⟩, ⟨some 69, .fad 0, [.t 2], [], none⟩, ⟨some 70, .load 1 false, [.t 69], [6], none⟩, ⟨some 71, .len, [.t 70], [7], none⟩, ⟨some 72, .bin .neq, [.t 68, .t 71], [5, 8], none⟩] true).seq
  (AC.cond (.t 72) ((AC.region [⟨some 73, .build [V.nl 1, V.nl 1] [], [], [], none⟩, ⟨none, .store 2, [.t 4, .t 73], [0, 0], none⟩, ⟨some 5, .mov, [cb false], [1, 0, 1], none⟩] false).seq AC.ret) AC.skip)).seq
  ((AC.region [⟨some 11, .mov, [AV.c (V.nl 1)], [], none⟩] false).seq
  (((AC.region [⟨some 12, .mov, [ci 0], [], none⟩] false).seq
  (AC.block 6 (((AC.region [⟨some 74, .mov, [.t 12], [], none⟩, ⟨some 75, .mov, [.t 6], [], none⟩, ⟨some 76, .len, [.t 75], [1], none⟩, ⟨some 77, .bin .lss, [.t 74, .t 76], [0, 2], none⟩] false).seq
  (AC.cond (.t 77) AC.skip (AC.exit 6))).seq
  ((AC.block 7 (AC.region [⟨some 80, .mov, [.t 11], [], none⟩, ⟨some 81, .bsl 1 [I 0] 0 [], [], [], none⟩, ⟨some 82, .fad 1, [.t 2], [], none⟩, ⟨some 83, .load 1 false, [.t 82], [2], none⟩, ⟨some 84, .mov, [.t 10], [], none⟩, ⟨some 85, .iad 1, [.t 83, .t 84], [3, 4], none⟩, ⟨some 86, .load 1 false, [.t 85], [5], none⟩, ⟨some 87, .mov, [.t 6], [], none⟩, ⟨some 88, .mov, [.t 12], [], none⟩, ⟨some 89, .iad 1, [.t 87, .t 88], [7, 8], none⟩, ⟨some 90, .load 1 false, [.t 89], [9], none⟩, ⟨some 91, .iad 1, [.t 86, .t 90], [6, 10], none⟩, ⟨some 92, .load 1 false, [.t 91], [11], none⟩, ⟨some 93, .app 1 8, [.t 81, .t 92], [1, 12], none⟩, ⟨some 94, .bsl 1 [V.nl 1] 1 [0], [.t 93], [13], none⟩, ⟨some 95, .app 1 24, [.t 80, .t 94], [0, 14, 13], none⟩, ⟨some 11, .mov, [.t 95], [15, 15, 0, 1, 2, 3, 4, 5, 6, 7, 8, 9, 10, 11, 12, 13, 14, 15], none⟩] true)).seq
  (AC.region [⟨some 78, .mov, [.t 12], [], none⟩, ⟨some 79, .bin .add, [.t 78, ci 1], [0], none⟩, ⟨some 12, .mov, [.t 79], [1, 0, 1], none⟩] false))).loop)).seq
  (AC.region [⟨some 96, .fad 1, [.t 9], [], none⟩, ⟨some 97, .load 1 false, [.t 96], [0], none⟩, ⟨some 98, .mov, [.t 11], [], none⟩, ⟨some 99, .bsl 1 [V.nl 1] 1 [0], [.t 98], [2], none⟩, ⟨some 100, .app 1 24, [.t 97, .t 99], [1, 3], none⟩, ⟨some 101, .fad 1, [.t 9], [0, 1, 2, 3, 4], none⟩, ⟨none, .store 1, [.t 101, .t 100], [5, 4, 4, 0, 1, 2, 3, 4], none⟩] false))))).seq
  (AC.region [⟨some 61, .mov, [.t 10], [], none⟩, ⟨some 62, .bin .add, [.t 61, ci 1], [0], none⟩, ⟨some 10, .mov, [.t 62], [1, 0, 1], none⟩] false))).loop)).seq
  ((AC.region [⟨some 102, .load 2 true, [.t 9], [], none⟩, ⟨none, .store 2, [.t 4, .t 102], [0, 0], none⟩, ⟨some 5, .mov, [cb true], [1, 0, 1], none⟩] false).seq AC.ret))))))
def rs_ref25_Part : List RV := [.c 4 2 true, .t 5]
theorem c_ref25_Part : compile Try.prog (Go.Func.ntmps Try.f20) (Try.f20.body.getD .skip) = some ac_ref25_Part := by kernel_rfl
theorem go_ref25_Part {xs : List V} {bx bx' : U} {r : V} {ns : List O} (hxs : decide (xs.length ≤ Go.Func.ntmps Try.f20) = true) (hbx : BxOK bx bx') (h : ∀ cx : Cx, cx.m0 = ups M0 bx → Awp Try.prog cx ac_ref25_Part (RetE rs_ref25_Part r bx' ns) ⟨tl (idx 0 xs), ups M0 bx⟩) : Does Try.prog 20 xs bx r bx' ns :=
  does_of Try.func20 (by kernel_rfl : Try.f20.body = some (Try.f20.body.getD .skip)) rfl c_ref25_Part (by kernel_rfl) (of_decide_eq_true hxs) hbx fun cx _ hm => h cx hm
def ac_ref25_Text : AC :=
  (AC.region [⟨some 1, .box, [.t 0], [], none⟩, ⟨some 2, .mov, [AV.c (V.d (D.at (Value.string { data := { toList := [] } })))], [], none⟩] false).seq
  ((AC.region [⟨some 6, .fad 0, [.t 1], [], none⟩, ⟨some 7, .load 1 false, [.t 6], [0], none⟩, ⟨some 8, .call 42, [AV.c (V.d (D.at (Value.string { data := { toList := [] } }))), .t 7], [1], none⟩, ⟨some 9, .fad 1, [.t 1], [], none⟩, ⟨some 10, .load 1 false, [.t 9], [3], none⟩, ⟨some 11, .len, [.t 10], [4], none⟩, ⟨some 12, .call 41, [.t 8, .t 11], [2, 5, 2], none⟩, ⟨some 3, .mov, [.t 12], [6, 6, 0, 1, 2, 3, 4, 5, 6], none⟩] true).seq
  (((AC.region [⟨some 4, .mov, [ci 0], [], none⟩] false).seq
  (AC.block 0 (((AC.region [⟨some 13, .mov, [.t 4], [], none⟩, ⟨some 14, .fad 1, [.t 1], [], none⟩, ⟨some 15, .load 1 false, [.t 14], [1], none⟩, ⟨some 16, .len, [.t 15], [2], none⟩, ⟨some 17, .bin .lss, [.t 13, .t 16], [0, 3], none⟩] false).seq
  (AC.cond (.t 17) AC.skip (AC.exit 0))).seq
  ((AC.block 1 ((AC.region [⟨some 20, .mov, [.t 3], [], none⟩, ⟨some 21, .fad 1, [.t 1], [], none⟩, ⟨some 22, .load 1 false, [.t 21], [1], none⟩, ⟨some 23, .mov, [.t 4], [], none⟩, ⟨some 24, .iad 1, [.t 22, .t 23], [2, 3], none⟩, ⟨some 25, .load 1 false, [.t 24], [4], none⟩, ⟨some 26, .len, [.t 25], [5], none⟩, ⟨some 27, .call 41, [.t 20, .t 26], [0, 6], none⟩, ⟨some 3, .mov, [.t 27], [7, 7, 0, 1, 2, 3, 4, 5, 6, 7], none⟩] false).seq
  ((AC.region [⟨some 5, .mov, [ci 0], [], none⟩] false).seq
  (AC.block 2 (((AC.region [⟨some 28, .mov, [.t 5], [], none⟩, ⟨some 29, .fad 1, [.t 1], [], none⟩, ⟨some 30, .load 1 false, [.t 29], [1], none⟩, ⟨some 31, .mov, [.t 4], [], none⟩, ⟨some 32, .iad 1, [.t 30, .t 31], [2, 3], none⟩, ⟨some 33, .load 1 false, [.t 32], [4], none⟩, ⟨some 34, .len, [.t 33], [5], none⟩, ⟨some 35, .bin .lss, [.t 28, .t 34], [0, 6], none⟩] false).seq
  (AC.cond (.t 35) AC.skip (AC.exit 2))).seq
  ((AC.block 3 (AC.region [⟨some 38, .mov, [.t 3], [], none⟩, ⟨some 39, .fad 1, [.t 1], [], none⟩, ⟨some 40, .load 1 false, [.t 39], [1], none⟩, ⟨some 41, .mov, [.t 4], [], none⟩, ⟨some 42, .iad 1, [.t 40, .t 41], [2, 3], none⟩, ⟨some 43, .load 1 false, [.t 42], [4], none⟩, ⟨some 44, .mov, [.t 5], [], none⟩, ⟨some 45, .iad 1, [.t 43, .t 44], [5, 6], none⟩, ⟨some 46, .load 1 false, [.t 45], [7], none⟩, ⟨some 47, .call 42, [.t 38, .t 46], [0, 8], none⟩, ⟨some 3, .mov, [.t 47], [9, 9, 0, 1, 2, 3, 4, 5, 6, 7, 8, 9], none⟩] false)).seq
  (AC.region [⟨some 36, .mov, [.t 5], [], none⟩, ⟨some 37, .bin .add, [.t 36, ci 1], [0], none⟩, ⟨some 5, .mov, [.t 37], [1, 0, 1], none⟩] false))).loop)))).seq
  (AC.region [⟨some 18, .mov, [.t 4], [], none⟩, ⟨some 19, .bin .add, [.t 18, ci 1], [0], none⟩, ⟨some 4, .mov, [.t 19], [1, 0, 1], none⟩] false))).loop)).seq
  ((AC.region [⟨some 48, .mov, [.t 3], [], none⟩, ⟨some 2, .mov, [.t 48], [0, 0], none⟩] false).seq AC.ret)))
def rs_ref25_Text : List RV := [.t 2]
theorem c_ref25_Text : compile Try.prog (Go.Func.ntmps Try.f17) (Try.f17.body.getD .skip) = some ac_ref25_Text := by kernel_rfl
theorem go_ref25_Text {xs : List V} {bx bx' : U} {r : V} {ns : List O} (hxs : decide (xs.length ≤ Go.Func.ntmps Try.f17) = true) (hbx : BxOK bx bx') (h : ∀ cx : Cx, cx.m0 = ups M0 bx → Awp Try.prog cx ac_ref25_Text (RetE rs_ref25_Text r bx' ns) ⟨tl (idx 0 xs), ups M0 bx⟩) : Does Try.prog 17 xs bx r bx' ns :=
  does_of Try.func17 (by kernel_rfl : Try.f17.body = some (Try.f17.body.getD .skip)) rfl c_ref25_Text (by kernel_rfl) (of_decide_eq_true hxs) hbx fun cx _ hm => h cx hm
def ac_ref25_Flat : AC :=
  (AC.region [⟨some 1, .box, [.t 0], [], none⟩, ⟨some 2, .mov, [AV.c (V.nl 1)], [], none⟩] false).seq
  ((AC.region [⟨some 3, .mov, [AV.c (V.nl 1)], [], none⟩] false).seq
  (((AC.region [⟨some 4, .mov, [ci 0], [], none⟩] false).seq
  (AC.block 0 (((AC.region [⟨some 6, .mov, [.t 4], [], none⟩, ⟨some 7, .fad 1, [.t 1], [], none⟩, ⟨some 8, .load 1 false, [.t 7], [1], none⟩, ⟨some 9, .len, [.t 8], [2], none⟩, ⟨some 10, .bin .lss, [.t 6, .t 9], [0, 3], none⟩] false).seq
  (AC.cond (.t 10) AC.skip (AC.exit 0))).seq
  ((AC.block 1 ((AC.region [⟨some 5, .mov, [ci 0], [], none⟩] false).seq
  (AC.block 2 (((AC.region [⟨some 13, .mov, [.t 5], [], none⟩, ⟨some 14, .fad 1, [.t 1], [], none⟩, ⟨some 15, .load 1 false, [.t 14], [1], none⟩, ⟨some 16, .mov, [.t 4], [], none⟩, ⟨some 17, .iad 1, [.t 15, .t 16], [2, 3], none⟩, ⟨some 18, .load 1 false, [.t 17], [4], none⟩, ⟨some 19, .len, [.t 18], [5], none⟩, ⟨some 20, .bin .lss, [.t 13, .t 19], [0, 6], none⟩] false).seq
  (AC.cond (.t 20) AC.skip (AC.exit 2))).seq
  ((AC.block 3 (AC.region [⟨some 23, .mov, [.t 3], [], none⟩, ⟨some 24, .fad 1, [.t 1], [], none⟩, ⟨some 25, .load 1 false, [.t 24], [1], none⟩, ⟨some 26, .mov, [.t 4], [], none⟩, ⟨some 27, .iad 1, [.t 25, .t 26], [2, 3], none⟩, ⟨some 28, .load 1 false, [.t 27], [4], none⟩, ⟨some 29, .mov, [.t 5], [], none⟩, ⟨some 30, .iad 1, [.t 28, .t 29], [5, 6], none⟩, ⟨some 31, .load 1 false, [.t 30], [7], none⟩, ⟨some 32, .app 1 8, [.t 23, .t 31], [0, 8], none⟩, ⟨some 3, .mov, [.t 32], [9, 9, 0, 1, 2, 3, 4, 5, 6, 7, 8, 9], none⟩] false)).seq
  (AC.region [⟨some 21, .mov, [.t 5], [], none⟩, ⟨some 22, .bin .add, [.t 21, ci 1], [0], none⟩, ⟨some 5, .mov, [.t 22], [1, 0, 1], none⟩] false))).loop))).seq
  (AC.region [⟨some 11, .mov, [.t 4], [], none⟩, ⟨some 12, .bin .add, [.t 11, ci 1], [0], none⟩, ⟨some 4, .mov, [.t 12], [1, 0, 1], none⟩] false))).loop)).seq
  ((AC.region [⟨some 33, .mov, [.t 3], [], none⟩, ⟨some 2, .mov, [.t 33], [0, 0], none⟩] false).seq AC.ret)))
def rs_ref25_Flat : List RV := [.t 2]
theorem c_ref25_Flat : compile Try.prog (Go.Func.ntmps Try.f19) (Try.f19.body.getD .skip) = some ac_ref25_Flat := by kernel_rfl
theorem go_ref25_Flat {xs : List V} {bx bx' : U} {r : V} {ns : List O} (hxs : decide (xs.length ≤ Go.Func.ntmps Try.f19) = true) (hbx : BxOK bx bx') (h : ∀ cx : Cx, cx.m0 = ups M0 bx → Awp Try.prog cx ac_ref25_Flat (RetE rs_ref25_Flat r bx' ns) ⟨tl (idx 0 xs), ups M0 bx⟩) : Does Try.prog 19 xs bx r bx' ns :=
  does_of Try.func19 (by kernel_rfl : Try.f19.body = some (Try.f19.body.getD .skip)) rfl c_ref25_Flat (by kernel_rfl) (of_decide_eq_true hxs) hbx fun cx _ hm => h cx hm
def ac_ref25_Same : AC :=
  (AC.region [⟨some 2, .box, [.t 0], [], none⟩, ⟨some 3, .box, [.t 1], [], none⟩, ⟨some 4, .mov, [cb false], [], none⟩] false).seq
  ((AC.region [⟨some 5, .fad 0, [.t 2], [], none⟩, ⟨some 6, .load 1 false, [.t 5], [0], none⟩, ⟨some 7, .fad 0, [.t 3], [], none⟩, ⟨some 8, .load 1 false, [.t 7], [2], none⟩, ⟨some 9, .call 18, [.t 6, .t 8], [1, 3], none⟩, ⟨some 10, .mov, [.t 9], [4, 4], none⟩, ⟨some 11, .fad 1, [.t 2], [5], some (5, 10, true)⟩, ⟨some 12, .load 1 false, [.t 11], [6, 5], some (5, 10, true)⟩, ⟨some 13, .fad 1, [.t 3], [5], some (5, 10, true)⟩, ⟨some 14, .load 1 false, [.t 13], [8, 5], some (5, 10, true)⟩, ⟨some 15, .call 40, [.t 12, .t 14], [7, 9, 5, 5], some (5, 10, true)⟩, ⟨some 16, .pick, [.t 10, .t 15, cb false], [5, 10], none⟩, ⟨some 4, .mov, [.t 16], [11, 10, 0, 1, 2, 3, 4, 5, 6, 7, 8, 9, 10, 11], none⟩] false).seq AC.ret)
def rs_ref25_Same : List RV := [.t 4]
theorem c_ref25_Same : compile Try.prog (Go.Func.ntmps Try.f16) (Try.f16.body.getD .skip) = some ac_ref25_Same := by kernel_rfl
theorem go_ref25_Same {xs : List V} {bx bx' : U} {r : V} {ns : List O} (hxs : decide (xs.length ≤ Go.Func.ntmps Try.f16) = true) (hbx : BxOK bx bx') (h : ∀ cx : Cx, cx.m0 = ups M0 bx → Awp Try.prog cx ac_ref25_Same (RetE rs_ref25_Same r bx' ns) ⟨tl (idx 0 xs), ups M0 bx⟩) : Does Try.prog 16 xs bx r bx' ns :=
  does_of Try.func16 (by kernel_rfl : Try.f16.body = some (Try.f16.body.getD .skip)) rfl c_ref25_Same (by kernel_rfl) (of_decide_eq_true hxs) hbx fun cx _ hm => h cx hm
def ac_law25_sane : AC :=
  (AC.region [⟨some 0, .mov, [cb false], [], none⟩] false).seq
  ((AC.region [⟨some 5, .bsl 1 [I 0] 1 [0], [ci 1], [], none⟩, ⟨some 6, .bsl 1 [I 0] 1 [0], [ci 2], [], none⟩, ⟨some 7, .bsl 1 [I 0] 1 [0], [ci 3], [], none⟩, ⟨some 8, .bsl 1 [V.nl 1] 3 [0, 1, 2], [.t 5, .t 6, .t 7], [0, 1, 2], none⟩, ⟨some 9, .bsl 1 [I 0] 1 [0], [ci 4], [], none⟩, ⟨some 10, .bsl 1 [I 0] 1 [0], [ci 5], [], none⟩, ⟨some 11, .bsl 1 [I 0] 1 [0], [ci 6], [], none⟩, ⟨some 12, .bsl 1 [V.nl 1] 3 [0, 1, 2], [.t 9, .t 10, .t 11], [4, 5, 6], none⟩, ⟨some 13, .bsl 1 [V.nl 1] 2 [0, 1], [.t 8, .t 12], [3, 7], none⟩, ⟨some 1, .mov, [.t 13], [8, 0, 1, 2, 3, 4, 5, 6, 7, 8], none⟩] false).seq
  ((AC.region [⟨some 15, .mov, [.t 1], [], none⟩, ⟨some 16, .bsl 1 [I 0] 2 [0, 1], [ci 1, ci 3], [], none⟩, ⟨some 17, .call 10, [.t 15, .t 16], [0, 1], none⟩, ⟨some 14, .mov, [.t 17], [2], none⟩, ⟨some 18, .ext 0, [.t 14], [3], none⟩, ⟨some 19, .ext 1, [.t 14], [3], none⟩, ⟨some 2, .alloc [V.nl 1, V.nl 1], [], [], none⟩, ⟨none, .store 2, [.t 2, .t 18], [6, 4, 2, 0, 1, 2, 3, 4, 6], none⟩, ⟨some 3, .mov, [.t 19], [5, 7, 0, 1, 2, 3, 4, 5, 6, 7], none⟩] false).seq
  ((AC.region [⟨some 20, .load 2 true, [.t 2], [], none⟩, ⟨some 21, .call 13, [.t 20], [0], none⟩, ⟨some 4, .mov, [.t 21], [1, 1, 0, 1], none⟩] false).seq
  ((AC.region [⟨some 22, .mov, [.t 3], [], none⟩, ⟨some 23, .bin .eql, [.t 22, ci 0], [0], none⟩, ⟨some 24, .mov, [.t 23], [1], none⟩, ⟨some 25, .mov, [.t 4], [2], some (2, 24, true)⟩, ⟨some 26, .len, [.t 25], [3, 2], some (2, 24, true)⟩, ⟨some 27, .bin .eql, [.t 26, ci 4], [4, 2], some (2, 24, true)⟩, ⟨some 28, .pick, [.t 24, .t 27, cb false], [2, 5], none⟩, ⟨some 29, .mov, [.t 28], [6, 2], none⟩, ⟨some 30, .mov, [.t 4], [7], some (7, 29, true)⟩, ⟨some 31, .iad 1, [.t 30, ci 1], [8, 7], some (7, 29, true)⟩, ⟨some 32, .load 1 false, [.t 31], [9, 7], some (7, 29, true)⟩, ⟨some 33, .bin .eql, [.t 32, ci 3], [10, 7], some (7, 29, true)⟩, ⟨some 34, .pick, [.t 29, .t 33, cb false], [7, 11], none⟩, ⟨some 35, .mov, [.t 34], [12, 7], none⟩, ⟨some 36, .mov, [.t 4], [13], some (13, 35, true)⟩, ⟨some 37, .iad 1, [.t 36, ci 2], [14, 13], some (13, 35, true)⟩, ⟨some 38, .load 1 false, [.t 37], [15, 13], some (13, 35, true)⟩, ⟨some 39, .bin .eql, [.t 38, ci 4], [16, 13], some (13, 35, true)⟩, ⟨some 40, .pick, [.t 35, .t 39, cb false], [13, 17], none⟩, ⟨some 0, .mov, [.t 40], [18, 13, 0, 1, 2, 3, 4, 5, 6, 7, 8, 9, 10, 11, 12, 13, 14, 15, 16, 17, 18], none⟩] false).seq AC.ret))))
def rs_law25_sane : List RV := [.t 0]
theorem c_law25_sane : compile Try.prog (Go.Func.ntmps Try.f6) (Try.f6.body.getD .skip) = some ac_law25_sane := by kernel_rfl
theorem go_law25_sane {xs : List V} {bx bx' : U} {r : V} {ns : List O} (hxs : decide (xs.length ≤ Go.Func.ntmps Try.f6) = true) (hbx : BxOK bx bx') (h : ∀ cx : Cx, cx.m0 = ups M0 bx → Awp Try.prog cx ac_law25_sane (RetE rs_law25_sane r bx' ns) ⟨tl (idx 0 xs), ups M0 bx⟩) : Does Try.prog 6 xs bx r bx' ns :=
  does_of Try.func6 (by kernel_rfl : Try.f6.body = some (Try.f6.body.getD .skip)) rfl c_law25_sane (by kernel_rfl) (of_decide_eq_true hxs) hbx fun cx _ hm => h cx hm
def ac_law25_queries : AC :=
  (AC.region [⟨some 2, .mov, [AV.c (V.nl 1)], [], none⟩] false).seq
  ((AC.region [⟨some 12, .mov, [.t 0], [], none⟩, ⟨some 13, .call 21, [.t 12], [0], none⟩, ⟨some 14, .mov, [.t 0], [], none⟩, ⟨some 15, .call 22, [.t 14], [2, 1], none⟩, ⟨some 3, .alloc [I 0, I 0, I 0, I 0], [], [], none⟩, ⟨some 4, .alloc [I 0], [], [], none⟩, ⟨none, .store 4, [.t 3, .t 13], [4, 1, 3, 0, 1, 4, 5], none⟩, ⟨none, .store 1, [.t 4, .t 15], [5, 3, 6, 0, 1, 2, 3, 4, 5, 6], none⟩] false).seq
  ((AC.region [⟨some 16, .mov, [.t 0], [], none⟩, ⟨some 17, .call 9, [.t 16, ci 4], [0], none⟩, ⟨some 18, .bin .add, [ci 1, .t 17], [1], none⟩, ⟨some 5, .mov, [.t 18], [2, 1, 0, 1, 2], none⟩] false).seq
  ((AC.region [⟨some 19, .mov, [.t 0], [], none⟩, ⟨some 20, .mov, [.t 5], [], none⟩, ⟨some 21, .call 23, [.t 19, .t 20], [0, 1], none⟩, ⟨some 6, .mov, [.t 21], [2, 2, 0, 1, 2], none⟩] false).seq
  ((AC.region [⟨some 23, .load 4 true, [.t 3], [], none⟩, ⟨some 24, .load 1 true, [.t 4], [], none⟩, ⟨some 25, .mov, [.t 5], [], none⟩, ⟨some 26, .mov, [.t 6], [], none⟩, ⟨some 27, .len, [.t 26], [3], none⟩, ⟨some 28, .call 24, [.t 23, .t 24, .t 25, .t 27], [0, 1, 2, 4], none⟩, ⟨some 22, .mov, [.t 28], [5], none⟩, ⟨some 29, .ext 0, [.t 22], [6], none⟩, ⟨some 30, .ext 1, [.t 22], [6], none⟩, ⟨some 7, .mov, [.t 29], [7, 5, 0, 1, 2, 3, 4, 5, 6, 7], none⟩, ⟨some 8, .mov, [.t 30], [8, 9, 0, 1, 2, 3, 4, 5, 6, 7, 8, 9], none⟩] false).seq
  ((AC.region [⟨some 32, .load 4 true, [.t 3], [], none⟩, ⟨some 33, .load 1 true, [.t 4], [], none⟩, ⟨some 34, .mov, [.t 5], [], none⟩, ⟨some 35, .mov, [.t 6], [], none⟩, ⟨some 36, .mov, [.t 0], [], none⟩, ⟨some 37, .mov, [.t 7], [], none⟩, ⟨some 38, .call 26, [.t 36, .t 37], [4, 5], none⟩, ⟨some 39, .call 25, [.t 32, .t 33, .t 34, .t 35, .t 38], [0, 1, 2, 3, 6, 6], none⟩, ⟨some 31, .mov, [.t 39], [7], none⟩, ⟨some 40, .ext 0, [.t 31], [8], none⟩, ⟨some 41, .ext 1, [.t 31], [8], none⟩, ⟨some 42, .ext 2, [.t 31], [8], none⟩, ⟨some 10, .alloc [V.nl 1, I 0], [], [], none⟩, ⟨some 9, .mov, [.t 40], [9, 7, 0, 1, 2, 3, 4, 5, 6, 7, 8, 9, 12], none⟩, ⟨none, .store 2, [.t 10, .t 41], [12, 10, 13, 0, 1, 2, 3, 4, 5, 6, 7, 8, 9, 10, 12, 13], none⟩, ⟨some 11, .mov, [.t 42], [11, 14, 0, 1, 2, 3, 4, 5, 6, 7, 8, 9, 10, 11, 12, 13, 14], none⟩] true).seq
  ((AC.region [⟨some 43, .mov, [.t 9], [], none⟩, ⟨some 2, .mov, [.t 43], [0, 0], none⟩] false).seq AC.ret))))))
def rs_law25_queries : List RV := [.t 2]
theorem c_law25_queries : compile Try.prog (Go.Func.ntmps Try.f8) (Try.f8.body.getD .skip) = some ac_law25_queries := by kernel_rfl
theorem go_law25_queries {xs : List V} {bx bx' : U} {r : V} {ns : List O} (hxs : decide (xs.length ≤ Go.Func.ntmps Try.f8) = true) (hbx : BxOK bx bx') (h : ∀ cx : Cx, cx.m0 = ups M0 bx → Awp Try.prog cx ac_law25_queries (RetE rs_law25_queries r bx' ns) ⟨tl (idx 0 xs), ups M0 bx⟩) : Does Try.prog 8 xs bx r bx' ns :=
  does_of Try.func8 (by kernel_rfl : Try.f8.body = some (Try.f8.body.getD .skip)) rfl c_law25_queries (by kernel_rfl) (of_decide_eq_true hxs) hbx fun cx _ hm => h cx hm
end Go.Proofs.Ytihjmnhjjpdenaa.Sim
