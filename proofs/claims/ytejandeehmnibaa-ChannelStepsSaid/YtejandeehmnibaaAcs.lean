/- Functions of the program, as the walk has them. -/
import Derived.Test.YtejandeehmnibaaSimZ
import Derived.Test.YtejandeehmnibaaProg
import Derived.ProofKit
namespace Go.Proofs.Ytejandeehmnibaa.Sim
open Go
set_option maxRecDepth 100000
def ac_channel_Drop : AC :=
  (AC.region [⟨some 2, .box, [.t 0], [], none⟩, ⟨some 3, .box, [.t 1], [], none⟩, ⟨some 4, .alloc [V.nl 8], [], [], none⟩] false).seq
  ((AC.region [⟨some 6, .load 1 true, [.t 2], [], none⟩, ⟨some 7, .call 25, [.t 6], [0], none⟩, ⟨some 5, .alloc [V.nl 8], [], [], none⟩, ⟨none, .store 1, [.t 5, .t 7], [2, 1, 1, 0, 1, 2], none⟩] false).seq
  ((AC.region [⟨some 8, .fad 0, [.t 5], [], none⟩, ⟨some 9, .load 1 false, [.t 8], [0], none⟩, ⟨some 10, .mkf 27, [.t 3], [], none⟩, ⟨some 11, .call 26, [.t 9, .t 10], [1, 2], none⟩, ⟨some 12, .fad 0, [.t 5], [0, 1, 2, 3], none⟩, ⟨none, .store 1, [.t 12, .t 11], [4, 3, 3, 0, 1, 2, 3], none⟩] false).seq
  ((AC.region [⟨some 13, .load 1 true, [.t 5], [], none⟩, ⟨none, .store 1, [.t 4, .t 13], [0, 0], none⟩] false).seq AC.ret)))
def rs_channel_Drop : List RV := [.c 4 1 true]
theorem c_channel_Drop : compile Try.prog (Go.Func.ntmps Try.f9) (Try.f9.body.getD .skip) = some ac_channel_Drop := by kernel_rfl
theorem go_channel_Drop {xs : List V} {bx bx' : U} {r : V} {ns : List O} (hxs : decide (xs.length ≤ Go.Func.ntmps Try.f9) = true) (hbx : BxOK bx bx') (h : ∀ cx : Cx, cx.m0 = ups M0 bx → Awp Try.prog cx ac_channel_Drop (RetE rs_channel_Drop r bx' ns) ⟨tl (idx 0 xs), ups M0 bx⟩) : Does Try.prog 9 xs bx r bx' ns :=
  does_of Try.func9 (by kernel_rfl : Try.f9.body = some (Try.f9.body.getD .skip)) rfl c_channel_Drop (by kernel_rfl) (of_decide_eq_true hxs) hbx fun cx _ hm => h cx hm
def ac_channel_Drop_1 : AC :=
  (AC.region [⟨some 2, .box, [.t 0], [], none⟩, ⟨some 3, .mov, [cb false], [], none⟩] false).seq
  ((AC.region [⟨some 4, .fad 1, [.t 2], [], none⟩, ⟨some 5, .load 1 false, [.t 4], [0], none⟩, ⟨some 6, .load 1 false, [.t 1], [], none⟩, ⟨some 7, .bin .eql, [.t 5, .t 6], [1, 2], none⟩, ⟨some 3, .mov, [.t 7], [3, 0, 1, 2, 3], none⟩] false).seq AC.ret)
def rs_channel_Drop_1 : List RV := [.t 3]
theorem c_channel_Drop_1 : compile Try.prog (Go.Func.ntmps Try.f27) (Try.f27.body.getD .skip) = some ac_channel_Drop_1 := by kernel_rfl
theorem go_channel_Drop_1 {xs : List V} {bx bx' : U} {r : V} {ns : List O} (hxs : decide (xs.length ≤ Go.Func.ntmps Try.f27) = true) (hbx : BxOK bx bx') (h : ∀ cx : Cx, cx.m0 = ups M0 bx → Awp Try.prog cx ac_channel_Drop_1 (RetE rs_channel_Drop_1 r bx' ns) ⟨tl (idx 0 xs), ups M0 bx⟩) : Does Try.prog 27 xs bx r bx' ns :=
  does_of Try.func27 (by kernel_rfl : Try.f27.body = some (Try.f27.body.getD .skip)) rfl c_channel_Drop_1 (by kernel_rfl) (of_decide_eq_true hxs) hbx fun cx _ hm => h cx hm
def ac_channel_SameNote : AC :=
  (AC.region [⟨some 2, .box, [.t 0], [], none⟩, ⟨some 3, .box, [.t 1], [], none⟩, ⟨some 4, .mov, [cb false], [], none⟩] false).seq
  ((AC.region [⟨some 5, .fad 0, [.t 2], [], none⟩, ⟨some 6, .load 1 false, [.t 5], [0], none⟩, ⟨some 7, .fad 0, [.t 3], [], none⟩, ⟨some 8, .load 1 false, [.t 7], [2], none⟩, ⟨some 9, .bin .eql, [.t 6, .t 8], [1, 3], none⟩, ⟨some 10, .mov, [.t 9], [4], none⟩, ⟨some 11, .fad 1, [.t 2], [5], some (5, 10, true)⟩, ⟨some 12, .load 1 false, [.t 11], [6, 5], some (5, 10, true)⟩, ⟨some 13, .fad 1, [.t 3], [5], some (5, 10, true)⟩, ⟨some 14, .load 1 false, [.t 13], [8, 5], some (5, 10, true)⟩, ⟨some 15, .bin .eql, [.t 12, .t 14], [7, 9, 5], some (5, 10, true)⟩, ⟨some 16, .pick, [.t 10, .t 15, cb false], [5, 10], none⟩, ⟨some 17, .mov, [.t 16], [11, 5], none⟩, ⟨some 18, .fad 2, [.t 2], [12], some (12, 17, true)⟩, ⟨some 19, .load 1 false, [.t 18], [13, 12], some (12, 17, true)⟩, ⟨some 20, .fad 2, [.t 3], [12], some (12, 17, true)⟩, ⟨some 21, .load 1 false, [.t 20], [15, 12], some (12, 17, true)⟩, ⟨some 22, .bin .eql, [.t 19, .t 21], [14, 16, 12], some (12, 17, true)⟩, ⟨some 23, .pick, [.t 17, .t 22, cb false], [12, 17], none⟩, ⟨some 24, .mov, [.t 23], [18, 12], none⟩, ⟨some 25, .fad 3, [.t 2], [19], some (19, 24, true)⟩, ⟨some 26, .load 1 false, [.t 25], [20, 19], some (19, 24, true)⟩, ⟨some 27, .fad 3, [.t 3], [19], some (19, 24, true)⟩, ⟨some 28, .load 1 false, [.t 27], [22, 19], some (19, 24, true)⟩, ⟨some 29, .bin .eql, [.t 26, .t 28], [21, 23, 19], some (19, 24, true)⟩, ⟨some 30, .pick, [.t 24, .t 29, cb false], [19, 24], none⟩, ⟨some 31, .mov, [.t 30], [25, 19], none⟩, ⟨some 32, .fad 4, [.t 2], [26], some (26, 31, true)⟩, ⟨some 33, .load 1 false, [.t 32], [27, 26], some (26, 31, true)⟩, ⟨some 34, .fad 4, [.t 3], [26], some (26, 31, true)⟩, ⟨some 35, .load 1 false, [.t 34], [29, 26], some (26, 31, true)⟩, ⟨some 36, .bin .eql, [.t 33, .t 35], [28, 30, 26], some (26, 31, true)⟩, ⟨some 37, .pick, [.t 31, .t 36, cb false], [26, 31], none⟩, ⟨some 38, .mov, [.t 37], [32, 26], none⟩, ⟨some 39, .fad 7, [.t 2], [33], some (33, 38, true)⟩, ⟨some 40, .load 1 false, [.t 39], [34, 33], some (33, 38, true)⟩, ⟨some 41, .fad 7, [.t 3], [33], some (33, 38, true)⟩, ⟨some 42, .load 1 false, [.t 41], [36, 33], some (33, 38, true)⟩, ⟨some 43, .bin .eql, [.t 40, .t 42], [35, 37, 33], some (33, 38, true)⟩, ⟨some 44, .pick, [.t 38, .t 43, cb false], [33, 38], none⟩, ⟨some 45, .mov, [.t 44], [39, 33], none⟩, ⟨some 46, .fad 5, [.t 2], [40], some (40, 45, true)⟩, ⟨some 47, .load 1 false, [.t 46], [41, 40], some (40, 45, true)⟩, ⟨some 48, .fad 5, [.t 3], [40], some (40, 45, true)⟩, ⟨some 49, .load 1 false, [.t 48], [43, 40], some (40, 45, true)⟩, ⟨some 50, .call 28, [.t 47, .t 49], [42, 44, 40, 40], some (40, 45, true)⟩, ⟨some 51, .pick, [.t 45, .t 50, cb false], [40, 45], none⟩, ⟨some 52, .mov, [.t 51], [46, 45], none⟩, ⟨some 53, .fad 6, [.t 2], [47], some (47, 52, true)⟩, ⟨some 54, .load 1 false, [.t 53], [48, 47], some (47, 52, true)⟩, ⟨some 55, .fad 6, [.t 3], [47], some (47, 52, true)⟩, ⟨some 56, .load 1 false, [.t 55], [50, 47], some (47, 52, true)⟩, ⟨some 57, .call 28, [.t 54, .t 56], [49, 51, 47, 47], some (47, 52, true)⟩, ⟨some 58, .pick, [.t 52, .t 57, cb false], [47, 52], none⟩, ⟨some 4, .mov, [.t 58], [53, 52, 0, 1, 2, 3, 4, 5, 6, 7, 8, 9, 10, 11, 12, 13, 14, 15, 16, 17, 18, 19, 20, 21, 22, 23, 24, 25, 26, 27, 28, 29, 30, 31, 32, 33, 34, 35, 36, 37, 38, 39, 40, 41, 42, 43, 44, 45, 46, 47, 48, 49, 50, 51, 52, 53], none⟩] false).seq AC.ret)
def rs_channel_SameNote : List RV := [.t 4]
theorem c_channel_SameNote : compile Try.prog (Go.Func.ntmps Try.f10) (Try.f10.body.getD .skip) = some ac_channel_SameNote := by kernel_rfl
theorem go_channel_SameNote {xs : List V} {bx bx' : U} {r : V} {ns : List O} (hxs : decide (xs.length ≤ Go.Func.ntmps Try.f10) = true) (hbx : BxOK bx bx') (h : ∀ cx : Cx, cx.m0 = ups M0 bx → Awp Try.prog cx ac_channel_SameNote (RetE rs_channel_SameNote r bx' ns) ⟨tl (idx 0 xs), ups M0 bx⟩) : Does Try.prog 10 xs bx r bx' ns :=
  does_of Try.func10 (by kernel_rfl : Try.f10.body = some (Try.f10.body.getD .skip)) rfl c_channel_SameNote (by kernel_rfl) (of_decide_eq_true hxs) hbx fun cx _ hm => h cx hm
def ac_channel_Between : AC :=
  (AC.region [⟨some 2, .box, [.t 0], [], none⟩, ⟨some 4, .mov, [AV.c (V.nl 1)], [], none⟩] false).seq
  ((AC.region [⟨some 5, .mov, [AV.c (V.nl 1)], [], none⟩] false).seq
  (((AC.region [⟨some 8, .fad 0, [.t 2], [], none⟩, ⟨some 9, .load 1 false, [.t 8], [0], none⟩, ⟨some 10, .len, [.t 9], [1], none⟩, ⟨some 11, .mov, [ci 0], [], none⟩] false).seq
  (AC.block 0 ((AC.region [⟨some 12, .bin .lss, [.t 11, .t 10], [], none⟩] false).seq
  ((AC.cond (.t 12) AC.skip (AC.exit 0)).seq
  ((AC.block 1 ((AC.region [⟨some 13, .mov, [.t 11], [], none⟩, ⟨some 14, .iad 8, [.t 9, .t 11], [], none⟩, ⟨some 15, .load 8 true, [.t 14], [1], none⟩, ⟨some 7, .alloc [I 0, I 0, I 0, I 0, I 0, V.nl 1, V.nl 1, I 0], [], [], none⟩, ⟨some 6, .mov, [.t 13], [0, 0, 1, 2, 3], none⟩, ⟨none, .store 8, [.t 7, .t 15], [3, 2, 4, 0, 1, 2, 3, 4], none⟩] false).seq
  ((AC.region [⟨some 16, .fad 3, [.t 7], [], none⟩, ⟨some 17, .load 1 false, [.t 16], [0], none⟩, ⟨some 18, .mov, [.t 1], [], none⟩, ⟨some 19, .bin .eql, [.t 17, .t 18], [1, 2], none⟩] false).seq
  (AC.cond (.t 19) (AC.region [⟨some 20, .mov, [.t 5], [], none⟩, ⟨some 21, .mov, [.t 6], [], none⟩, ⟨some 22, .bsl 1 [I 0] 1 [0], [.t 21], [1], none⟩, ⟨some 23, .app 1 8, [.t 20, .t 22], [0, 2], none⟩, ⟨some 5, .mov, [.t 23], [3, 3, 0, 1, 2, 3], none⟩] false) AC.skip)))).seq
  (AC.region [⟨some 24, .bin .add, [.t 11, ci 1], [], none⟩, ⟨some 11, .mov, [.t 24], [0], none⟩] false)))).loop)).seq
  ((AC.region [⟨some 25, .mov, [.t 5], [], none⟩, ⟨some 4, .mov, [.t 25], [0, 0], none⟩] false).seq AC.ret)))
def rs_channel_Between : List RV := [.t 4]
theorem c_channel_Between : compile Try.prog (Go.Func.ntmps Try.f11) (Try.f11.body.getD .skip) = some ac_channel_Between := by kernel_rfl
theorem go_channel_Between {xs : List V} {bx bx' : U} {r : V} {ns : List O} (hxs : decide (xs.length ≤ Go.Func.ntmps Try.f11) = true) (hbx : BxOK bx bx') (h : ∀ cx : Cx, cx.m0 = ups M0 bx → Awp Try.prog cx ac_channel_Between (RetE rs_channel_Between r bx' ns) ⟨tl (idx 0 xs), ups M0 bx⟩) : Does Try.prog 11 xs bx r bx' ns :=
  does_of Try.func11 (by kernel_rfl : Try.f11.body = some (Try.f11.body.getD .skip)) rfl c_channel_Between (by kernel_rfl) (of_decide_eq_true hxs) hbx fun cx _ hm => h cx hm
def ac_channel_own : AC :=
  (AC.region [⟨some 1, .box, [.t 0], [], none⟩, ⟨some 2, .alloc [V.nl 8], [], [], none⟩] false).seq
  ((AC.region [⟨some 6, .fad 0, [.t 1], [], none⟩, ⟨some 7, .load 1 false, [.t 6], [0], none⟩, ⟨some 8, .len, [.t 7], [1], none⟩, ⟨some 9, .mks 8 [I 0, I 0, I 0, I 0, I 0, V.nl 1, V.nl 1, I 0] 96, [.t 8, .t 8], [2, 2], none⟩, ⟨some 3, .mov, [.t 9], [3, 0, 1, 2, 3], none⟩] false).seq
  (((AC.region [⟨some 10, .fad 0, [.t 1], [], none⟩, ⟨some 11, .load 1 false, [.t 10], [0], none⟩, ⟨some 12, .len, [.t 11], [1], none⟩, ⟨some 13, .mov, [ci 0], [], none⟩] false).seq
  (AC.block 0 ((AC.region [⟨some 14, .bin .lss, [.t 13, .t 12], [], none⟩] false).seq
  ((AC.cond (.t 14) AC.skip (AC.exit 0)).seq
  ((AC.block 1 ((AC.region [⟨some 15, .mov, [.t 13], [], none⟩, ⟨some 16, .iad 8, [.t 11, .t 13], [], none⟩, ⟨some 17, .load 8 true, [.t 16], [1], none⟩, ⟨some 5, .alloc [I 0, I 0, I 0, I 0, I 0, V.nl 1, V.nl 1, I 0], [], [], none⟩, ⟨some 4, .mov, [.t 15], [0, 0, 1, 2, 3], none⟩, ⟨none, .store 8, [.t 5, .t 17], [3, 2, 4, 0, 1, 2, 3, 4], none⟩] false).seq
  (AC.region [⟨some 18, .mov, [.t 3], [], none⟩, ⟨some 19, .mov, [.t 4], [], none⟩, ⟨some 20, .load 8 true, [.t 5], [], none⟩, ⟨some 21, .call 29, [.t 20], [2], none⟩, ⟨some 22, .iad 8, [.t 18, .t 19], [0, 1, 0, 1, 2, 3], none⟩, ⟨none, .store 8, [.t 22, .t 21], [4, 3, 3, 0, 1, 2, 3], none⟩] false))).seq
  (AC.region [⟨some 23, .bin .add, [.t 13, ci 1], [], none⟩, ⟨some 13, .mov, [.t 23], [0], none⟩] false)))).loop)).seq
  ((AC.region [⟨some 24, .mov, [.t 3], [], none⟩, ⟨some 25, .build [V.nl 8] [(0, 1)], [.t 24], [0], none⟩, ⟨none, .store 1, [.t 2, .t 25], [1, 0, 1], none⟩] false).seq AC.ret)))
def rs_channel_own : List RV := [.c 2 1 true]
theorem c_channel_own : compile Try.prog (Go.Func.ntmps Try.f25) (Try.f25.body.getD .skip) = some ac_channel_own := by kernel_rfl
theorem go_channel_own {xs : List V} {bx bx' : U} {r : V} {ns : List O} (hxs : decide (xs.length ≤ Go.Func.ntmps Try.f25) = true) (hbx : BxOK bx bx') (h : ∀ cx : Cx, cx.m0 = ups M0 bx → Awp Try.prog cx ac_channel_own (RetE rs_channel_own r bx' ns) ⟨tl (idx 0 xs), ups M0 bx⟩) : Does Try.prog 25 xs bx r bx' ns :=
  does_of Try.func25 (by kernel_rfl : Try.f25.body = some (Try.f25.body.getD .skip)) rfl c_channel_own (by kernel_rfl) (of_decide_eq_true hxs) hbx fun cx _ hm => h cx hm
def ac_channel_Own : AC :=
  (AC.region [⟨some 1, .box, [.t 0], [], none⟩, ⟨some 2, .alloc [I 0, I 0, I 0, I 0, I 0, V.nl 1, V.nl 1, I 0], [], [], none⟩] false).seq
  ((AC.region [⟨some 3, .fad 5, [.t 1], [], none⟩, ⟨some 4, .load 1 false, [.t 3], [0], none⟩, ⟨some 5, .call 35, [.t 4], [1], none⟩, ⟨some 6, .fad 6, [.t 1], [], none⟩, ⟨some 7, .load 1 false, [.t 6], [3], none⟩, ⟨some 8, .call 35, [.t 7], [4, 2], none⟩, ⟨some 9, .fad 5, [.t 1], [0, 1, 2, 3, 4], none⟩, ⟨none, .store 1, [.t 9, .t 5], [6, 2, 5, 0, 1, 2, 3, 4], none⟩, ⟨some 10, .fad 6, [.t 1], [0, 1, 2, 3, 4, 5, 6, 7], none⟩, ⟨none, .store 1, [.t 10, .t 8], [8, 5, 7, 0, 1, 2, 3, 4, 5, 6, 7], none⟩] true).seq
  ((AC.region [⟨some 11, .load 8 true, [.t 1], [], none⟩, ⟨none, .store 8, [.t 2, .t 11], [0, 0], none⟩] false).seq AC.ret))
def rs_channel_Own : List RV := [.c 2 8 true]
theorem c_channel_Own : compile Try.prog (Go.Func.ntmps Try.f29) (Try.f29.body.getD .skip) = some ac_channel_Own := by kernel_rfl
theorem go_channel_Own {xs : List V} {bx bx' : U} {r : V} {ns : List O} (hxs : decide (xs.length ≤ Go.Func.ntmps Try.f29) = true) (hbx : BxOK bx bx') (h : ∀ cx : Cx, cx.m0 = ups M0 bx → Awp Try.prog cx ac_channel_Own (RetE rs_channel_Own r bx' ns) ⟨tl (idx 0 xs), ups M0 bx⟩) : Does Try.prog 29 xs bx r bx' ns :=
  does_of Try.func29 (by kernel_rfl : Try.f29.body = some (Try.f29.body.getD .skip)) rfl c_channel_Own (by kernel_rfl) (of_decide_eq_true hxs) hbx fun cx _ hm => h cx hm
def ac_slices_DeleteFunc_api_Note_api_Note : AC :=
  (AC.region [⟨some 4, .mov, [AV.c (V.nl 8)], [], none⟩] false).seq
  ((AC.region [⟨some 8, .mov, [.t 0], [], none⟩, ⟨some 9, .mov, [.t 1], [], none⟩, ⟨some 10, .call 34, [.t 8, .t 9], [0, 1], none⟩, ⟨some 5, .mov, [.t 10], [2, 2, 0, 1, 2], none⟩] false).seq
  (((AC.region [⟨some 11, .mov, [.t 5], [], none⟩, ⟨some 12, .bin .eql, [.t 11, ci (-1)], [0], none⟩] false).seq
  (AC.cond (.t 12) ((AC.region [⟨some 13, .mov, [.t 0], [], none⟩, ⟨some 4, .mov, [.t 13], [0, 0], none⟩] false).seq AC.ret) AC.skip)).seq
  (((AC.region [⟨some 14, .mov, [.t 5], [], none⟩, ⟨some 15, .bin .add, [.t 14, ci 1], [0], none⟩, ⟨some 6, .mov, [.t 15], [1, 0, 1], none⟩] false).seq
  (AC.block 0 (((AC.region [⟨some 16, .mov, [.t 6], [], none⟩, ⟨some 17, .mov, [.t 0], [], none⟩, ⟨some 18, .len, [.t 17], [1], none⟩, ⟨some 19, .bin .lss, [.t 16, .t 18], [0, 2], none⟩] false).seq
  (AC.cond (.t 19) AC.skip (AC.exit 0))).seq
  ((AC.block 1 ((AC.region [⟨some 22, .mov, [.t 0], [], none⟩, ⟨some 23, .mov, [.t 6], [], none⟩, ⟨some 24, .iad 8, [.t 22, .t 23], [0, 1], none⟩, ⟨some 25, .load 8 true, [.t 24], [2], none⟩, ⟨some 7, .alloc [I 0, I 0, I 0, I 0, I 0, V.nl 1, V.nl 1, I 0], [], [], none⟩, ⟨none, .store 8, [.t 7, .t 25], [4, 3, 0, 1, 2, 3, 4], none⟩] false).seq
  ((AC.region [⟨some 26, .mov, [.t 1], [], none⟩, ⟨some 27, .load 8 true, [.t 7], [], none⟩, ⟨some 28, .callv, [.t 26, .t 27], [0, 1], none⟩, ⟨some 29, .un .not, [.t 28], [2], none⟩] false).seq
  (AC.cond (.t 29) ((AC.region [⟨some 30, .mov, [.t 0], [], none⟩, ⟨some 31, .mov, [.t 5], [], none⟩, ⟨some 32, .load 8 true, [.t 7], [], none⟩, ⟨some 33, .iad 8, [.t 30, .t 31], [0, 1, 0, 1, 2], none⟩, ⟨none, .store 8, [.t 33, .t 32], [3, 2, 0, 1, 2], none⟩] false).seq
  (AC.region [⟨some 34, .mov, [.t 5], [], none⟩, ⟨some 35, .bin .add, [.t 34, ci 1], [0], none⟩, ⟨some 5, .mov, [.t 35], [1, 0, 1], none⟩] false)) AC.skip)))).seq
  (AC.region [⟨some 20, .mov, [.t 6], [], none⟩, ⟨some 21, .bin .add, [.t 20, ci 1], [0], none⟩, ⟨some 6, .mov, [.t 21], [1, 0, 1], none⟩] false))).loop)).seq
  ((AC.clr { sl := 0, il := 5, d1 := 36, d2 := 37, d3 := 38, k := 8, z := [I 0, I 0, I 0, I 0, I 0, V.nl 1, V.nl 1, I 0] }).seq
  ((AC.region [⟨some 39, .mov, [.t 0], [], none⟩, ⟨some 40, .mov, [.t 5], [], none⟩, ⟨some 41, .slc false true false 8, [.t 39, .t 40], [0, 1], none⟩, ⟨some 4, .mov, [.t 41], [2, 0, 1, 2], none⟩] false).seq AC.ret)))))
def rs_slices_DeleteFunc_api_Note_api_Note : List RV := [.t 4]
theorem c_slices_DeleteFunc_api_Note_api_Note : compile Try.prog (Go.Func.ntmps Try.f26) (Try.f26.body.getD .skip) = some ac_slices_DeleteFunc_api_Note_api_Note := by kernel_rfl
theorem go_slices_DeleteFunc_api_Note_api_Note {xs : List V} {bx bx' : U} {r : V} {ns : List O} (hxs : decide (xs.length ≤ Go.Func.ntmps Try.f26) = true) (hbx : BxOK bx bx') (h : ∀ cx : Cx, cx.m0 = ups M0 bx → Awp Try.prog cx ac_slices_DeleteFunc_api_Note_api_Note (RetE rs_slices_DeleteFunc_api_Note_api_Note r bx' ns) ⟨tl (idx 0 xs), ups M0 bx⟩) : Does Try.prog 26 xs bx r bx' ns :=
  does_of Try.func26 (by kernel_rfl : Try.f26.body = some (Try.f26.body.getD .skip)) rfl c_slices_DeleteFunc_api_Note_api_Note (by kernel_rfl) (of_decide_eq_true hxs) hbx fun cx _ hm => h cx hm
def ac_slices_IndexFunc_api_Note_api_Note : AC :=
  (AC.region [⟨some 4, .mov, [ci 0], [], none⟩] false).seq
  (((AC.region [⟨some 6, .mov, [.t 0], [], none⟩, ⟨some 7, .len, [.t 6], [0], none⟩, ⟨some 8, .mov, [ci 0], [], none⟩] false).seq
  (AC.block 0 ((AC.region [⟨some 9, .bin .lss, [.t 8, .t 7], [], none⟩] false).seq
  ((AC.cond (.t 9) AC.skip (AC.exit 0)).seq
  ((AC.block 1 ((AC.region [⟨some 10, .mov, [.t 8], [], none⟩, ⟨some 5, .mov, [.t 10], [0, 0], none⟩] false).seq
  ((AC.region [⟨some 11, .mov, [.t 1], [], none⟩, ⟨some 12, .mov, [.t 0], [], none⟩, ⟨some 13, .mov, [.t 5], [], none⟩, ⟨some 14, .iad 8, [.t 12, .t 13], [1, 2], none⟩, ⟨some 15, .load 8 true, [.t 14], [3], none⟩, ⟨some 16, .callv, [.t 11, .t 15], [0, 4], none⟩] false).seq
  (AC.cond (.t 16) ((AC.region [⟨some 17, .mov, [.t 5], [], none⟩, ⟨some 4, .mov, [.t 17], [0, 0], none⟩] false).seq AC.ret) AC.skip)))).seq
  (AC.region [⟨some 18, .bin .add, [.t 8, ci 1], [], none⟩, ⟨some 8, .mov, [.t 18], [0], none⟩] false)))).loop)).seq
  ((AC.region [⟨some 4, .mov, [ci (-1)], [], none⟩] false).seq AC.ret))
def rs_slices_IndexFunc_api_Note_api_Note : List RV := [.t 4]
theorem c_slices_IndexFunc_api_Note_api_Note : compile Try.prog (Go.Func.ntmps Try.f34) (Try.f34.body.getD .skip) = some ac_slices_IndexFunc_api_Note_api_Note := by kernel_rfl
theorem go_slices_IndexFunc_api_Note_api_Note {xs : List V} {bx bx' : U} {r : V} {ns : List O} (hxs : decide (xs.length ≤ Go.Func.ntmps Try.f34) = true) (hbx : BxOK bx bx') (h : ∀ cx : Cx, cx.m0 = ups M0 bx → Awp Try.prog cx ac_slices_IndexFunc_api_Note_api_Note (RetE rs_slices_IndexFunc_api_Note_api_Note r bx' ns) ⟨tl (idx 0 xs), ups M0 bx⟩) : Does Try.prog 34 xs bx r bx' ns :=
  does_of Try.func34 (by kernel_rfl : Try.f34.body = some (Try.f34.body.getD .skip)) rfl c_slices_IndexFunc_api_Note_api_Note (by kernel_rfl) (of_decide_eq_true hxs) hbx fun cx _ hm => h cx hm
def ac_slices_Equal_int_int : AC :=
  (AC.region [⟨some 4, .mov, [cb false], [], none⟩] false).seq
  (((AC.region [⟨some 6, .mov, [.t 0], [], none⟩, ⟨some 7, .len, [.t 6], [0], none⟩, ⟨some 8, .mov, [.t 1], [], none⟩, ⟨some 9, .len, [.t 8], [2], none⟩, ⟨some 10, .bin .neq, [.t 7, .t 9], [1, 3], none⟩] false).seq
  (AC.cond (.t 10) ((AC.region [⟨some 4, .mov, [cb false], [], none⟩] false).seq AC.ret) AC.skip)).seq
  (((AC.region [⟨some 11, .mov, [.t 0], [], none⟩, ⟨some 12, .len, [.t 11], [0], none⟩, ⟨some 13, .mov, [ci 0], [], none⟩] false).seq
  (AC.block 0 ((AC.region [⟨some 14, .bin .lss, [.t 13, .t 12], [], none⟩] false).seq
  ((AC.cond (.t 14) AC.skip (AC.exit 0)).seq
  ((AC.block 1 ((AC.region [⟨some 15, .mov, [.t 13], [], none⟩, ⟨some 5, .mov, [.t 15], [0, 0], none⟩] false).seq
  ((AC.region [⟨some 16, .mov, [.t 0], [], none⟩, ⟨some 17, .mov, [.t 5], [], none⟩, ⟨some 18, .iad 1, [.t 16, .t 17], [0, 1], none⟩, ⟨some 19, .load 1 false, [.t 18], [2], none⟩, ⟨some 20, .mov, [.t 1], [], none⟩, ⟨some 21, .mov, [.t 5], [], none⟩, ⟨some 22, .iad 1, [.t 20, .t 21], [4, 5], none⟩, ⟨some 23, .load 1 false, [.t 22], [6], none⟩, ⟨some 24, .bin .neq, [.t 19, .t 23], [3, 7], none⟩] true).seq
  (AC.cond (.t 24) ((AC.region [⟨some 4, .mov, [cb false], [], none⟩] false).seq AC.ret) AC.skip)))).seq
  (AC.region [⟨some 25, .bin .add, [.t 13, ci 1], [], none⟩, ⟨some 13, .mov, [.t 25], [0], none⟩] false)))).loop)).seq
  ((AC.region [⟨some 4, .mov, [cb true], [], none⟩] false).seq AC.ret)))
def rs_slices_Equal_int_int : List RV := [.t 4]
theorem c_slices_Equal_int_int : compile Try.prog (Go.Func.ntmps Try.f28) (Try.f28.body.getD .skip) = some ac_slices_Equal_int_int := by kernel_rfl
theorem go_slices_Equal_int_int {xs : List V} {bx bx' : U} {r : V} {ns : List O} (hxs : decide (xs.length ≤ Go.Func.ntmps Try.f28) = true) (hbx : BxOK bx bx') (h : ∀ cx : Cx, cx.m0 = ups M0 bx → Awp Try.prog cx ac_slices_Equal_int_int (RetE rs_slices_Equal_int_int r bx' ns) ⟨tl (idx 0 xs), ups M0 bx⟩) : Does Try.prog 28 xs bx r bx' ns :=
  does_of Try.func28 (by kernel_rfl : Try.f28.body = some (Try.f28.body.getD .skip)) rfl c_slices_Equal_int_int (by kernel_rfl) (of_decide_eq_true hxs) hbx fun cx _ hm => h cx hm
def ac_slices_Clone_int_int : AC :=
  (AC.region [⟨some 2, .mov, [AV.c (V.nl 1)], [], none⟩] false).seq
  (((AC.region [⟨some 3, .mov, [.t 0], [], none⟩, ⟨some 4, .isn false, [.t 3, AV.c (V.nl 1)], [0], none⟩] false).seq
  (AC.cond (.t 4) ((AC.region [⟨some 2, .mov, [AV.c (V.nl 1)], [], none⟩] false).seq AC.ret) AC.skip)).seq
  ((AC.region [⟨some 5, .bsl 1 [I 0] 0 [], [], [], none⟩, ⟨some 6, .mov, [.t 0], [], none⟩, ⟨some 7, .app 1 8, [.t 5, .t 6], [0, 1], none⟩, ⟨some 2, .mov, [.t 7], [2, 2, 0, 1, 2], none⟩] false).seq AC.ret))
def rs_slices_Clone_int_int : List RV := [.t 2]
theorem c_slices_Clone_int_int : compile Try.prog (Go.Func.ntmps Try.f35) (Try.f35.body.getD .skip) = some ac_slices_Clone_int_int := by kernel_rfl
theorem go_slices_Clone_int_int {xs : List V} {bx bx' : U} {r : V} {ns : List O} (hxs : decide (xs.length ≤ Go.Func.ntmps Try.f35) = true) (hbx : BxOK bx bx') (h : ∀ cx : Cx, cx.m0 = ups M0 bx → Awp Try.prog cx ac_slices_Clone_int_int (RetE rs_slices_Clone_int_int r bx' ns) ⟨tl (idx 0 xs), ups M0 bx⟩) : Does Try.prog 35 xs bx r bx' ns :=
  does_of Try.func35 (by kernel_rfl : Try.f35.body = some (Try.f35.body.getD .skip)) rfl c_slices_Clone_int_int (by kernel_rfl) (of_decide_eq_true hxs) hbx fun cx _ hm => h cx hm
def ac_play_New : AC :=
  (AC.region [⟨some 2, .mov, [AV.c (V.d (D.at (Value.pointer none)))], [], none⟩] false).seq
  (((AC.region [⟨some 3, .mov, [.t 0], [], none⟩, ⟨some 4, .len, [.t 3], [0], none⟩, ⟨some 5, .bin .gtr, [.t 4, ci 300], [1], none⟩] false).seq
  (AC.cond (.t 5) (AC.region [⟨some 6, .mov, [.t 0], [], none⟩, ⟨some 7, .slc false true false 1, [.t 6, ci 300], [0], none⟩, ⟨some 0, .mov, [.t 7], [1, 0, 1], none⟩] false) AC.skip)).seq
  ((AC.region [⟨some 8, .mov, [.t 0], [], none⟩, ⟨some 9, .build [V.nl 1, I 0] [(0, 1)], [.t 8], [0], none⟩, ⟨some 10, .box, [.t 9], [1], none⟩, ⟨some 2, .mov, [.t 10], [2, 0, 1, 2], none⟩] false).seq AC.ret))
def rs_play_New : List RV := [.t 2]
theorem c_play_New : compile Try.prog (Go.Func.ntmps Try.f6) (Try.f6.body.getD .skip) = some ac_play_New := by kernel_rfl
theorem go_play_New {xs : List V} {bx bx' : U} {r : V} {ns : List O} (hxs : decide (xs.length ≤ Go.Func.ntmps Try.f6) = true) (hbx : BxOK bx bx') (h : ∀ cx : Cx, cx.m0 = ups M0 bx → Awp Try.prog cx ac_play_New (RetE rs_play_New r bx' ns) ⟨tl (idx 0 xs), ups M0 bx⟩) : Does Try.prog 6 xs bx r bx' ns :=
  does_of Try.func6 (by kernel_rfl : Try.f6.body = some (Try.f6.body.getD .skip)) rfl c_play_New (by kernel_rfl) (of_decide_eq_true hxs) hbx fun cx _ hm => h cx hm
def ac_play_Dice_Pick : AC :=
  (AC.region [⟨some 4, .mov, [ci 0], [], none⟩] false).seq
  (((AC.region [⟨some 5, .mov, [.t 0], [], none⟩, ⟨some 6, .nck, [.t 5], [0], none⟩, ⟨some 7, .fad 1, [.t 6], [1], none⟩, ⟨some 8, .load 1 false, [.t 7], [2], none⟩, ⟨some 9, .mov, [.t 0], [], none⟩, ⟨some 10, .nck, [.t 9], [4], none⟩, ⟨some 11, .fad 0, [.t 10], [5], none⟩, ⟨some 12, .load 1 false, [.t 11], [6], none⟩, ⟨some 13, .len, [.t 12], [7], none⟩, ⟨some 14, .bin .geq, [.t 8, .t 13], [3, 8], none⟩] true).seq
  (AC.cond (.t 14) ((AC.region [⟨some 4, .mov, [ci 0], [], none⟩] false).seq AC.ret) AC.skip)).seq
  ((AC.region [⟨some 15, .mov, [.t 0], [], none⟩, ⟨some 16, .nck, [.t 15], [0], none⟩, ⟨some 17, .fad 1, [.t 16], [1], none⟩, ⟨some 18, .load 1 false, [.t 17], [2], none⟩, ⟨some 19, .bin .add, [.t 18, ci 1], [3], none⟩, ⟨some 20, .nck, [.t 15], [0, 0, 1, 2, 3, 4], none⟩, ⟨some 21, .fad 1, [.t 20], [5, 0, 1, 2, 3, 4], none⟩, ⟨none, .store 1, [.t 21, .t 19], [6, 4, 0, 1, 2, 3, 4], none⟩] false).seq
  ((AC.region [⟨some 22, .mov, [.t 0], [], none⟩, ⟨some 23, .nck, [.t 22], [0], none⟩, ⟨some 24, .fad 0, [.t 23], [1], none⟩, ⟨some 25, .load 1 false, [.t 24], [2], none⟩, ⟨some 26, .mov, [.t 0], [], none⟩, ⟨some 27, .nck, [.t 26], [4], none⟩, ⟨some 28, .fad 1, [.t 27], [5], none⟩, ⟨some 29, .load 1 false, [.t 28], [6], none⟩, ⟨some 30, .bin .sub, [.t 29, ci 1], [7], none⟩, ⟨some 31, .iad 1, [.t 25, .t 30], [3, 8], none⟩, ⟨some 32, .load 1 false, [.t 31], [9], none⟩, ⟨some 33, .conv .i64, [.t 32], [10], none⟩, ⟨some 34, .mov, [.t 1], [], none⟩, ⟨some 35, .bin .rem, [.t 33, .t 34], [11, 12], none⟩, ⟨some 4, .mov, [.t 35], [13, 0, 1, 2, 3, 4, 5, 6, 7, 8, 9, 10, 11, 12, 13], none⟩] true).seq AC.ret)))
def rs_play_Dice_Pick : List RV := [.t 4]
theorem c_play_Dice_Pick : compile Try.prog (Go.Func.ntmps Try.f8) (Try.f8.body.getD .skip) = some ac_play_Dice_Pick := by kernel_rfl
theorem go_play_Dice_Pick {xs : List V} {bx bx' : U} {r : V} {ns : List O} (hxs : decide (xs.length ≤ Go.Func.ntmps Try.f8) = true) (hbx : BxOK bx bx') (h : ∀ cx : Cx, cx.m0 = ups M0 bx → Awp Try.prog cx ac_play_Dice_Pick (RetE rs_play_Dice_Pick r bx' ns) ⟨tl (idx 0 xs), ups M0 bx⟩) : Does Try.prog 8 xs bx r bx' ns :=
  does_of Try.func8 (by kernel_rfl : Try.f8.body = some (Try.f8.body.getD .skip)) rfl c_play_Dice_Pick (by kernel_rfl) (of_decide_eq_true hxs) hbx fun cx _ hm => h cx hm
def ac_play_Dice_Note : AC :=
  (AC.region [⟨some 2, .alloc [I 0, I 0, I 0, I 0, I 0, V.nl 1, V.nl 1, I 0], [], [], none⟩] false).seq
  ((AC.region [⟨some 5, .build [I 0] [(0, 1)], [ci 7], [], none⟩, ⟨some 3, .alloc [I 0], [], [], none⟩, ⟨none, .store 1, [.t 3, .t 5], [1, 0, 0, 1], none⟩] false).seq
  ((AC.region [⟨some 6, .mov, [.t 0], [], none⟩, ⟨some 7, .call 8, [.t 6, ci 2], [0], none⟩, ⟨some 8, .bin .add, [ci 1, .t 7], [1], none⟩, ⟨some 9, .mov, [.t 0], [], none⟩, ⟨some 10, .call 8, [.t 9, ci 3], [3, 1], none⟩, ⟨some 11, .mov, [.t 0], [], none⟩, ⟨some 12, .call 8, [.t 11, ci 2], [5, 4], none⟩, ⟨some 13, .mov, [.t 0], [], none⟩, ⟨some 14, .call 8, [.t 13, ci 3], [7, 6], none⟩, ⟨some 15, .bin .add, [ci 1, .t 14], [8], none⟩, ⟨some 16, .mov, [.t 0], [], none⟩, ⟨some 17, .call 8, [.t 16, ci 2], [10, 8], none⟩, ⟨some 18, .bin .add, [ci 1, .t 17], [11], none⟩, ⟨some 19, .mov, [.t 0], [], none⟩, ⟨some 20, .load 1 true, [.t 3], [], none⟩, ⟨some 21, .mov, [.t 0], [], none⟩, ⟨some 22, .call 8, [.t 21, ci 4], [15, 11], none⟩, ⟨some 23, .call 33, [.t 19, .t 20, .t 22], [13, 14, 16, 16], none⟩, ⟨some 24, .build [I 0, I 0, I 0, I 0, I 0, V.nl 1, V.nl 1, I 0] [(0, 1), (1, 1), (2, 1), (3, 1), (4, 1), (5, 1)], [.t 8, .t 10, .t 12, .t 15, .t 18, .t 23], [2, 4, 6, 9, 12, 17], none⟩, ⟨some 4, .alloc [I 0, I 0, I 0, I 0, I 0, V.nl 1, V.nl 1, I 0], [], [], none⟩, ⟨none, .store 8, [.t 4, .t 24], [19, 18, 17, 0, 1, 2, 3, 4, 5, 6, 7, 8, 9, 10, 11, 12, 13, 14, 15, 16, 17, 18, 19], none⟩] true).seq
  (((AC.region [⟨some 25, .fad 0, [.t 4], [], none⟩, ⟨some 26, .load 1 false, [.t 25], [0], none⟩, ⟨some 27, .bin .eql, [.t 26, ci 2], [1], none⟩] false).seq
  (AC.cond (.t 27) (AC.region [⟨some 28, .mov, [.t 0], [], none⟩, ⟨some 29, .load 1 true, [.t 3], [], none⟩, ⟨some 30, .mov, [.t 0], [], none⟩, ⟨some 31, .call 8, [.t 30, ci 3], [2], none⟩, ⟨some 32, .call 33, [.t 28, .t 29, .t 31], [0, 1, 3, 3], none⟩, ⟨some 33, .fad 6, [.t 4], [0, 1, 2, 3, 4], none⟩, ⟨none, .store 1, [.t 33, .t 32], [5, 4, 4, 0, 1, 2, 3, 4], none⟩] true) AC.skip)).seq
  ((AC.region [⟨some 34, .load 8 true, [.t 4], [], none⟩, ⟨none, .store 8, [.t 2, .t 34], [0, 0], none⟩] false).seq AC.ret))))
def rs_play_Dice_Note : List RV := [.c 2 8 true]
theorem c_play_Dice_Note : compile Try.prog (Go.Func.ntmps Try.f24) (Try.f24.body.getD .skip) = some ac_play_Dice_Note := by kernel_rfl
theorem go_play_Dice_Note {xs : List V} {bx bx' : U} {r : V} {ns : List O} (hxs : decide (xs.length ≤ Go.Func.ntmps Try.f24) = true) (hbx : BxOK bx bx') (h : ∀ cx : Cx, cx.m0 = ups M0 bx → Awp Try.prog cx ac_play_Dice_Note (RetE rs_play_Dice_Note r bx' ns) ⟨tl (idx 0 xs), ups M0 bx⟩) : Does Try.prog 24 xs bx r bx' ns :=
  does_of Try.func24 (by kernel_rfl : Try.f24.body = some (Try.f24.body.getD .skip)) rfl c_play_Dice_Note (by kernel_rfl) (of_decide_eq_true hxs) hbx fun cx _ hm => h cx hm
def ac_play_Dice_Elements : AC :=
  (AC.region [⟨some 4, .box, [.t 1], [], none⟩, ⟨some 6, .mov, [AV.c (V.nl 1)], [], none⟩] false).seq
  ((AC.region [⟨some 7, .mov, [AV.c (V.nl 1)], [], none⟩] false).seq
  (((AC.region [⟨some 8, .mov, [ci 0], [], none⟩] false).seq
  (AC.block 0 (((AC.region [⟨some 9, .mov, [.t 8], [], none⟩, ⟨some 10, .mov, [.t 2], [], none⟩, ⟨some 11, .bin .lss, [.t 9, .t 10], [0, 1], none⟩] false).seq
  (AC.cond (.t 11) AC.skip (AC.exit 0))).seq
  ((AC.block 1 (AC.region [⟨some 14, .mov, [.t 7], [], none⟩, ⟨some 15, .mov, [.t 0], [], none⟩, ⟨some 16, .call 8, [.t 15, ci 256], [1], none⟩, ⟨some 17, .mov, [.t 0], [], none⟩, ⟨some 18, .call 8, [.t 17, ci 2], [3, 2], none⟩, ⟨some 19, .bin .mul, [.t 18, ci 128], [4], none⟩, ⟨some 20, .bin .add, [.t 16, .t 19], [2, 5], none⟩, ⟨some 21, .fad 0, [.t 4], [], none⟩, ⟨some 22, .load 1 false, [.t 21], [7], none⟩, ⟨some 23, .bin .rem, [.t 20, .t 22], [6, 8], none⟩, ⟨some 24, .bsl 1 [I 0] 1 [0], [.t 23], [9], none⟩, ⟨some 25, .app 1 8, [.t 14, .t 24], [0, 10, 4], none⟩, ⟨some 7, .mov, [.t 25], [11, 11, 0, 1, 2, 3, 4, 5, 6, 7, 8, 9, 10, 11], none⟩] true)).seq
  (AC.region [⟨some 12, .mov, [.t 8], [], none⟩, ⟨some 13, .bin .add, [.t 12, ci 1], [0], none⟩, ⟨some 8, .mov, [.t 13], [1, 0, 1], none⟩] false))).loop)).seq
  ((AC.region [⟨some 26, .mov, [.t 7], [], none⟩, ⟨some 6, .mov, [.t 26], [0, 0], none⟩] false).seq AC.ret)))
def rs_play_Dice_Elements : List RV := [.t 6]
theorem c_play_Dice_Elements : compile Try.prog (Go.Func.ntmps Try.f33) (Try.f33.body.getD .skip) = some ac_play_Dice_Elements := by kernel_rfl
theorem go_play_Dice_Elements {xs : List V} {bx bx' : U} {r : V} {ns : List O} (hxs : decide (xs.length ≤ Go.Func.ntmps Try.f33) = true) (hbx : BxOK bx bx') (h : ∀ cx : Cx, cx.m0 = ups M0 bx → Awp Try.prog cx ac_play_Dice_Elements (RetE rs_play_Dice_Elements r bx' ns) ⟨tl (idx 0 xs), ups M0 bx⟩) : Does Try.prog 33 xs bx r bx' ns :=
  does_of Try.func33 (by kernel_rfl : Try.f33.body = some (Try.f33.body.getD .skip)) rfl c_play_Dice_Elements (by kernel_rfl) (of_decide_eq_true hxs) hbx fun cx _ hm => h cx hm
def ac_law31_made : AC :=
  (AC.region [⟨some 2, .alloc [V.nl 8], [], [], none⟩] false).seq
  ((AC.region [⟨some 3, .alloc [V.nl 8], [], [], none⟩] false).seq
  (((AC.region [⟨some 5, .mov, [.t 0], [], none⟩, ⟨some 6, .call 8, [.t 5, ci 8], [0], none⟩, ⟨some 4, .mov, [.t 6], [1, 1, 0, 1], none⟩] false).seq
  (AC.block 0 (((AC.region [⟨some 7, .mov, [.t 4], [], none⟩, ⟨some 8, .bin .gtr, [.t 7, ci 0], [0], none⟩] false).seq
  (AC.cond (.t 8) AC.skip (AC.exit 0))).seq
  ((AC.block 1 (AC.region [⟨some 11, .fad 0, [.t 3], [], none⟩, ⟨some 12, .load 1 false, [.t 11], [0], none⟩, ⟨some 13, .mov, [.t 0], [], none⟩, ⟨some 14, .call 24, [.t 13], [2], none⟩, ⟨some 15, .bsl 8 [I 0, I 0, I 0, I 0, I 0, V.nl 1, V.nl 1, I 0] 1 [0], [.t 14], [3], none⟩, ⟨some 16, .app 8 96, [.t 12, .t 15], [1, 4, 3], none⟩, ⟨some 17, .fad 0, [.t 3], [0, 1, 2, 3, 4, 5], none⟩, ⟨none, .store 1, [.t 17, .t 16], [6, 5, 5, 0, 1, 2, 3, 4, 5], none⟩] true)).seq
  (AC.region [⟨some 9, .mov, [.t 4], [], none⟩, ⟨some 10, .bin .sub, [.t 9, ci 1], [0], none⟩, ⟨some 4, .mov, [.t 10], [1, 0, 1], none⟩] false))).loop)).seq
  ((AC.region [⟨some 18, .load 1 true, [.t 3], [], none⟩, ⟨none, .store 1, [.t 2, .t 18], [0, 0], none⟩] false).seq AC.ret)))
def rs_law31_made : List RV := [.c 2 1 true]
theorem c_law31_made : compile Try.prog (Go.Func.ntmps Try.f7) (Try.f7.body.getD .skip) = some ac_law31_made := by kernel_rfl
theorem go_law31_made {xs : List V} {bx bx' : U} {r : V} {ns : List O} (hxs : decide (xs.length ≤ Go.Func.ntmps Try.f7) = true) (hbx : BxOK bx bx') (h : ∀ cx : Cx, cx.m0 = ups M0 bx → Awp Try.prog cx ac_law31_made (RetE rs_law31_made r bx' ns) ⟨tl (idx 0 xs), ups M0 bx⟩) : Does Try.prog 7 xs bx r bx' ns :=
  does_of Try.func7 (by kernel_rfl : Try.f7.body = some (Try.f7.body.getD .skip)) rfl c_law31_made (by kernel_rfl) (of_decide_eq_true hxs) hbx fun cx _ hm => h cx hm
def ac_law31_ChannelDrops : AC :=
  (AC.region [⟨some 2, .mov, [cb false], [], none⟩] false).seq
  (((AC.region [⟨some 14, .call 5, [], [], none⟩, ⟨some 15, .un .not, [.t 14], [0], none⟩] false).seq
  (AC.cond (.t 15) ((AC.region [⟨some 2, .mov, [cb false], [], none⟩] false).seq AC.ret) AC.skip)).seq
  ((AC.region [⟨some 16, .mov, [.t 0], [], none⟩, ⟨some 17, .call 6, [.t 16], [0], none⟩, ⟨some 3, .mov, [.t 17], [1, 1, 0, 1], none⟩] false).seq
  ((AC.region [⟨some 18, .mov, [.t 3], [], none⟩, ⟨some 19, .call 7, [.t 18], [0], none⟩, ⟨some 4, .alloc [V.nl 8], [], [], none⟩, ⟨none, .store 1, [.t 4, .t 19], [2, 1, 1, 0, 1, 2], none⟩] false).seq
  ((AC.region [⟨some 20, .mov, [.t 3], [], none⟩, ⟨some 21, .call 8, [.t 20, ci 3], [0], none⟩, ⟨some 5, .mov, [.t 21], [1, 1, 0, 1], none⟩] false).seq
  ((AC.region [⟨some 22, .load 1 true, [.t 4], [], none⟩, ⟨some 23, .mov, [.t 5], [], none⟩, ⟨some 24, .call 9, [.t 22, .t 23], [0, 1], none⟩, ⟨some 6, .alloc [V.nl 8], [], [], none⟩, ⟨none, .store 1, [.t 6, .t 24], [3, 2, 2, 0, 1, 2, 3], none⟩] false).seq
  ((AC.region [⟨some 7, .mov, [ci 0], [], none⟩] false).seq
  (((AC.region [⟨some 25, .fad 0, [.t 4], [], none⟩, ⟨some 26, .load 1 false, [.t 25], [0], none⟩, ⟨some 27, .len, [.t 26], [1], none⟩, ⟨some 28, .mov, [ci 0], [], none⟩] false).seq
  (AC.block 0 ((AC.region [⟨some 29, .bin .lss, [.t 28, .t 27], [], none⟩] false).seq
  ((AC.cond (.t 29) AC.skip (AC.exit 0)).seq
  ((AC.block 1 ((AC.region [⟨some 30, .iad 8, [.t 26, .t 28], [], none⟩, ⟨some 31, .load 8 true, [.t 30], [0], none⟩, ⟨some 9, .alloc [I 0, I 0, I 0, I 0, I 0, V.nl 1, V.nl 1, I 0], [], [], none⟩, ⟨none, .store 8, [.t 9, .t 31], [2, 1, 0, 1, 2], none⟩] false).seq
  (((AC.region [⟨some 32, .fad 1, [.t 9], [], none⟩, ⟨some 33, .load 1 false, [.t 32], [0], none⟩, ⟨some 34, .mov, [.t 5], [], none⟩, ⟨some 35, .bin .eql, [.t 33, .t 34], [1, 2], none⟩] false).seq
  (AC.cond (.t 35) (AC.exit 1) AC.skip)).seq
  (((AC.region [⟨some 36, .mov, [.t 7], [], none⟩, ⟨some 37, .fad 0, [.t 6], [], none⟩, ⟨some 38, .load 1 false, [.t 37], [1], none⟩, ⟨some 39, .len, [.t 38], [2], none⟩, ⟨some 40, .bin .geq, [.t 36, .t 39], [0, 3], none⟩, ⟨some 41, .mov, [.t 40], [4], none⟩, ⟨some 42, .fad 0, [.t 6], [5], some (5, 41, false)⟩, ⟨some 43, .load 1 false, [.t 42], [6, 5], some (5, 41, false)⟩, ⟨some 44, .mov, [.t 7], [5], some (5, 41, false)⟩, ⟨some 45, .iad 8, [.t 43, .t 44], [7, 8, 5], some (5, 41, false)⟩, ⟨some 46, .load 8 true, [.t 45], [9, 5], some (5, 41, false)⟩, ⟨some 47, .load 8 true, [.t 9], [5], some (5, 41, false)⟩, ⟨some 48, .call 10, [.t 46, .t 47], [10, 11, 5, 5], some (5, 41, false)⟩, ⟨some 49, .un .not, [.t 48], [12, 5], some (5, 41, false)⟩, ⟨some 50, .pick, [.t 41, cb true, .t 49], [5, 13], none⟩] true).seq
  (AC.cond (.t 50) ((AC.region [⟨some 2, .mov, [cb false], [], none⟩] false).seq AC.ret) AC.skip)).seq
  (AC.region [⟨some 51, .mov, [.t 7], [], none⟩, ⟨some 52, .bin .add, [.t 51, ci 1], [0], none⟩, ⟨some 7, .mov, [.t 52], [1, 0, 1], none⟩] false))))).seq
  (AC.region [⟨some 53, .bin .add, [.t 28, ci 1], [], none⟩, ⟨some 28, .mov, [.t 53], [0], none⟩] false)))).loop)).seq
  ((AC.region [⟨some 10, .mov, [ci 0], [], none⟩] false).seq
  (((AC.region [⟨some 11, .mov, [ci 1], [], none⟩] false).seq
  (AC.block 2 (((AC.region [⟨some 54, .mov, [.t 11], [], none⟩, ⟨some 55, .bin .leq, [.t 54, ci 3], [0], none⟩] false).seq
  (AC.cond (.t 55) AC.skip (AC.exit 2))).seq
  ((AC.block 3 ((AC.region [⟨some 58, .load 1 true, [.t 4], [], none⟩, ⟨some 59, .mov, [.t 11], [], none⟩, ⟨some 60, .call 11, [.t 58, .t 59], [0, 1], none⟩, ⟨some 61, .len, [.t 60], [2], none⟩, ⟨some 62, .mov, [ci 0], [], none⟩] false).seq
  (AC.block 4 ((AC.region [⟨some 63, .bin .lss, [.t 62, .t 61], [], none⟩] false).seq
  ((AC.cond (.t 63) AC.skip (AC.exit 4)).seq
  ((AC.block 5 ((AC.region [⟨some 64, .iad 1, [.t 60, .t 62], [], none⟩, ⟨some 65, .load 1 false, [.t 64], [0], none⟩, ⟨some 13, .mov, [.t 65], [1, 0, 1], none⟩] false).seq
  (((AC.region [⟨some 66, .mov, [.t 13], [], none⟩, ⟨some 67, .bin .lss, [.t 66, ci 0], [0], none⟩, ⟨some 68, .mov, [.t 67], [1], none⟩, ⟨some 69, .mov, [.t 13], [2], some (2, 68, false)⟩, ⟨some 70, .fad 0, [.t 4], [2], some (2, 68, false)⟩, ⟨some 71, .load 1 false, [.t 70], [4, 2], some (2, 68, false)⟩, ⟨some 72, .len, [.t 71], [5, 2], some (2, 68, false)⟩, ⟨some 73, .bin .geq, [.t 69, .t 72], [3, 6, 2], some (2, 68, false)⟩, ⟨some 74, .pick, [.t 68, cb true, .t 73], [2, 7], none⟩, ⟨some 75, .mov, [.t 74], [8, 2], none⟩, ⟨some 76, .fad 0, [.t 4], [9], some (9, 75, false)⟩, ⟨some 77, .load 1 false, [.t 76], [10, 9], some (9, 75, false)⟩, ⟨some 78, .mov, [.t 13], [9], some (9, 75, false)⟩, ⟨some 79, .iad 8, [.t 77, .t 78], [11, 12, 9], some (9, 75, false)⟩, ⟨some 80, .fad 3, [.t 79], [13, 9], some (9, 75, false)⟩, ⟨some 81, .load 1 false, [.t 80], [14, 9], some (9, 75, false)⟩, ⟨some 82, .mov, [.t 11], [9], some (9, 75, false)⟩, ⟨some 83, .bin .neq, [.t 81, .t 82], [15, 16, 9], some (9, 75, false)⟩, ⟨some 84, .pick, [.t 75, cb true, .t 83], [9, 17], none⟩] false).seq
  (AC.cond (.t 84) ((AC.region [⟨some 2, .mov, [cb false], [], none⟩] false).seq AC.ret) AC.skip)).seq
  (AC.region [⟨some 85, .mov, [.t 10], [], none⟩, ⟨some 86, .bin .add, [.t 85, ci 1], [0], none⟩, ⟨some 10, .mov, [.t 86], [1, 0, 1], none⟩] false)))).seq
  (AC.region [⟨some 87, .bin .add, [.t 62, ci 1], [], none⟩, ⟨some 62, .mov, [.t 87], [0], none⟩] false)))).loop))).seq
  (AC.region [⟨some 56, .mov, [.t 11], [], none⟩, ⟨some 57, .bin .add, [.t 56, ci 1], [0], none⟩, ⟨some 11, .mov, [.t 57], [1, 0, 1], none⟩] false))).loop)).seq
  ((AC.region [⟨some 88, .mov, [.t 7], [], none⟩, ⟨some 89, .fad 0, [.t 6], [], none⟩, ⟨some 90, .load 1 false, [.t 89], [1], none⟩, ⟨some 91, .len, [.t 90], [2], none⟩, ⟨some 92, .bin .eql, [.t 88, .t 91], [0, 3], none⟩, ⟨some 93, .mov, [.t 92], [4], none⟩, ⟨some 94, .mov, [.t 10], [5], some (5, 93, true)⟩, ⟨some 95, .fad 0, [.t 4], [5], some (5, 93, true)⟩, ⟨some 96, .load 1 false, [.t 95], [7, 5], some (5, 93, true)⟩, ⟨some 97, .len, [.t 96], [8, 5], some (5, 93, true)⟩, ⟨some 98, .bin .eql, [.t 94, .t 97], [6, 9, 5], some (5, 93, true)⟩, ⟨some 99, .pick, [.t 93, .t 98, cb false], [5, 10], none⟩, ⟨some 2, .mov, [.t 99], [11, 5, 0, 1, 2, 3, 4, 5, 6, 7, 8, 9, 10, 11], none⟩] false).seq AC.ret))))))))))
def rs_law31_ChannelDrops : List RV := [.t 2]
theorem c_law31_ChannelDrops : compile Try.prog (Go.Func.ntmps Try.f3) (Try.f3.body.getD .skip) = some ac_law31_ChannelDrops := by kernel_rfl
theorem go_law31_ChannelDrops {xs : List V} {bx bx' : U} {r : V} {ns : List O} (hxs : decide (xs.length ≤ Go.Func.ntmps Try.f3) = true) (hbx : BxOK bx bx') (h : ∀ cx : Cx, cx.m0 = ups M0 bx → Awp Try.prog cx ac_law31_ChannelDrops (RetE rs_law31_ChannelDrops r bx' ns) ⟨tl (idx 0 xs), ups M0 bx⟩) : Does Try.prog 3 xs bx r bx' ns :=
  does_of Try.func3 (by kernel_rfl : Try.f3.body = some (Try.f3.body.getD .skip)) rfl c_law31_ChannelDrops (by kernel_rfl) (of_decide_eq_true hxs) hbx fun cx _ hm => h cx hm
def ac_channel_Send : AC :=
  (AC.region [⟨some 2, .box, [.t 0], [], none⟩, ⟨some 4, .alloc [V.nl 8], [], [], none⟩, ⟨some 5, .mov, [ci 0], [], none⟩] false).seq
  ((AC.region [⟨some 9, .load 1 true, [.t 2], [], none⟩, ⟨some 10, .call 25, [.t 9], [0], none⟩, ⟨some 6, .alloc [V.nl 8], [], [], none⟩, ⟨none, .store 1, [.t 6, .t 10], [2, 1, 1, 0, 1, 2], none⟩] false).seq
  (((AC.region [⟨some 11, .fad 0, [.t 2], [], none⟩, ⟨some 12, .load 1 false, [.t 11], [0], none⟩, ⟨some 13, .len, [.t 12], [1], none⟩, ⟨some 14, .mov, [.t 1], [], none⟩, ⟨some 15, .len, [.t 14], [3], none⟩, ⟨some 16, .bin .add, [.t 13, .t 15], [2, 4], none⟩, ⟨some 17, .bin .gtr, [.t 16, ci 256], [5], none⟩] false).seq
  (AC.cond (.t 17) ((AC.region [⟨some 18, .load 1 true, [.t 6], [], none⟩, ⟨none, .store 1, [.t 4, .t 18], [0, 0], none⟩, ⟨some 5, .mov, [ci 4], [1, 0, 1], none⟩] false).seq AC.ret) AC.skip)).seq
  (((AC.region [⟨some 19, .mov, [.t 1], [], none⟩, ⟨some 20, .len, [.t 19], [0], none⟩, ⟨some 21, .mov, [ci 0], [], none⟩] false).seq
  (AC.block 0 ((AC.region [⟨some 22, .bin .lss, [.t 21, .t 20], [], none⟩] false).seq
  ((AC.cond (.t 22) AC.skip (AC.exit 0)).seq
  ((AC.block 1 ((AC.region [⟨some 23, .iad 8, [.t 19, .t 21], [], none⟩, ⟨some 24, .load 8 true, [.t 23], [0], none⟩, ⟨some 8, .alloc [I 0, I 0, I 0, I 0, I 0, V.nl 1, V.nl 1, I 0], [], [], none⟩, ⟨none, .store 8, [.t 8, .t 24], [2, 1, 0, 1, 2], none⟩] false).seq
  (AC.region [⟨some 25, .fad 0, [.t 6], [], none⟩, ⟨some 26, .load 1 false, [.t 25], [0], none⟩, ⟨some 27, .load 8 true, [.t 8], [], none⟩, ⟨some 28, .call 29, [.t 27], [2], none⟩, ⟨some 29, .bsl 8 [I 0, I 0, I 0, I 0, I 0, V.nl 1, V.nl 1, I 0] 1 [0], [.t 28], [3], none⟩, ⟨some 30, .app 8 96, [.t 26, .t 29], [1, 4, 3], none⟩, ⟨some 31, .fad 0, [.t 6], [0, 1, 2, 3, 4, 5], none⟩, ⟨none, .store 1, [.t 31, .t 30], [6, 5, 5, 0, 1, 2, 3, 4, 5], none⟩] true))).seq
  (AC.region [⟨some 32, .bin .add, [.t 21, ci 1], [], none⟩, ⟨some 21, .mov, [.t 32], [0], none⟩] false)))).loop)).seq
  ((AC.region [⟨some 33, .load 1 true, [.t 6], [], none⟩, ⟨none, .store 1, [.t 4, .t 33], [0, 0], none⟩, ⟨some 5, .mov, [ci 0], [1, 0, 1], none⟩] false).seq AC.ret))))
def rs_channel_Send : List RV := [.c 4 1 true, .t 5]
theorem c_channel_Send : compile Try.prog (Go.Func.ntmps Try.f12) (Try.f12.body.getD .skip) = some ac_channel_Send := by kernel_rfl
theorem go_channel_Send {xs : List V} {bx bx' : U} {r : V} {ns : List O} (hxs : decide (xs.length ≤ Go.Func.ntmps Try.f12) = true) (hbx : BxOK bx bx') (h : ∀ cx : Cx, cx.m0 = ups M0 bx → Awp Try.prog cx ac_channel_Send (RetE rs_channel_Send r bx' ns) ⟨tl (idx 0 xs), ups M0 bx⟩) : Does Try.prog 12 xs bx r bx' ns :=
  does_of Try.func12 (by kernel_rfl : Try.f12.body = some (Try.f12.body.getD .skip)) rfl c_channel_Send (by kernel_rfl) (of_decide_eq_true hxs) hbx fun cx _ hm => h cx hm
def ac_channel_Look : AC :=
  (AC.region [⟨some 2, .box, [.t 0], [], none⟩, ⟨some 4, .alloc [I 0, I 0, I 0, I 0, I 0, V.nl 1, V.nl 1, I 0], [], [], none⟩, ⟨some 5, .mov, [ci 0], [], none⟩] false).seq
  (((AC.region [⟨some 6, .mov, [.t 1], [], none⟩, ⟨some 7, .bin .lss, [.t 6, ci 0], [0], none⟩, ⟨some 8, .mov, [.t 7], [1], none⟩, ⟨some 9, .mov, [.t 1], [2], some (2, 8, false)⟩, ⟨some 10, .fad 0, [.t 2], [2], some (2, 8, false)⟩, ⟨some 11, .load 1 false, [.t 10], [4, 2], some (2, 8, false)⟩, ⟨some 12, .len, [.t 11], [5, 2], some (2, 8, false)⟩, ⟨some 13, .bin .geq, [.t 9, .t 12], [3, 6, 2], some (2, 8, false)⟩, ⟨some 14, .pick, [.t 8, cb true, .t 13], [2, 7], none⟩] false).seq
  (AC.cond (.t 14) ((AC.region [⟨some 15, .build [I 0, I 0, I 0, I 0, I 0, V.nl 1, V.nl 1, I 0] [], [], [], none⟩, ⟨none, .store 8, [.t 4, .t 15], [0, 0], none⟩, ⟨some 5, .mov, [ci 6], [1, 0, 1], none⟩] false).seq AC.ret) AC.skip)).seq
  ((AC.region [⟨some 16, .fad 0, [.t 2], [], none⟩, ⟨some 17, .load 1 false, [.t 16], [0], none⟩, ⟨some 18, .mov, [.t 1], [], none⟩, ⟨some 19, .iad 8, [.t 17, .t 18], [1, 2], none⟩, ⟨some 20, .load 8 true, [.t 19], [3], none⟩, ⟨some 21, .call 29, [.t 20], [4], none⟩, ⟨none, .store 8, [.t 4, .t 21], [5, 5, 0, 1, 2, 3, 4, 5], none⟩, ⟨some 5, .mov, [ci 0], [6, 0, 1, 2, 3, 4, 5, 6], none⟩] false).seq AC.ret))
def rs_channel_Look : List RV := [.c 4 8 true, .t 5]
theorem c_channel_Look : compile Try.prog (Go.Func.ntmps Try.f17) (Try.f17.body.getD .skip) = some ac_channel_Look := by kernel_rfl
theorem go_channel_Look {xs : List V} {bx bx' : U} {r : V} {ns : List O} (hxs : decide (xs.length ≤ Go.Func.ntmps Try.f17) = true) (hbx : BxOK bx bx') (h : ∀ cx : Cx, cx.m0 = ups M0 bx → Awp Try.prog cx ac_channel_Look (RetE rs_channel_Look r bx' ns) ⟨tl (idx 0 xs), ups M0 bx⟩) : Does Try.prog 17 xs bx r bx' ns :=
  does_of Try.func17 (by kernel_rfl : Try.f17.body = some (Try.f17.body.getD .skip)) rfl c_channel_Look (by kernel_rfl) (of_decide_eq_true hxs) hbx fun cx _ hm => h cx hm
def ac_channel_Take : AC :=
  (AC.region [⟨some 2, .box, [.t 0], [], none⟩, ⟨some 4, .alloc [V.nl 8], [], [], none⟩, ⟨some 5, .alloc [I 0, I 0, I 0, I 0, I 0, V.nl 1, V.nl 1, I 0], [], [], none⟩, ⟨some 6, .mov, [ci 0], [], none⟩] false).seq
  ((AC.region [⟨some 10, .load 1 true, [.t 2], [], none⟩, ⟨some 11, .call 25, [.t 10], [0], none⟩, ⟨some 7, .alloc [V.nl 8], [], [], none⟩, ⟨none, .store 1, [.t 7, .t 11], [2, 1, 1, 0, 1, 2], none⟩] false).seq
  ((AC.region [⟨some 13, .load 1 true, [.t 2], [], none⟩, ⟨some 14, .mov, [.t 1], [], none⟩, ⟨some 15, .call 17, [.t 13, .t 14], [0, 1], none⟩, ⟨some 12, .mov, [.t 15], [2], none⟩, ⟨some 16, .ext 0, [.t 12], [3], none⟩, ⟨some 17, .ext 1, [.t 12], [3], none⟩, ⟨some 8, .alloc [I 0, I 0, I 0, I 0, I 0, V.nl 1, V.nl 1, I 0], [], [], none⟩, ⟨none, .store 8, [.t 8, .t 16], [6, 4, 2, 0, 1, 2, 3, 4, 6], none⟩, ⟨some 9, .mov, [.t 17], [5, 7, 0, 1, 2, 3, 4, 5, 6, 7], none⟩] false).seq
  (((AC.region [⟨some 18, .mov, [.t 9], [], none⟩, ⟨some 19, .bin .eql, [.t 18, ci 0], [0], none⟩] false).seq
  (AC.cond (.t 19) (AC.region [⟨some 20, .fad 0, [.t 7], [], none⟩, ⟨some 21, .load 1 false, [.t 20], [0], none⟩, ⟨some 22, .mov, [.t 1], [], none⟩, ⟨some 23, .mov, [.t 1], [], none⟩, ⟨some 24, .bin .add, [.t 23, ci 1], [3], none⟩, ⟨some 25, .call 31, [.t 21, .t 22, .t 24], [1, 2, 4], none⟩, ⟨some 26, .fad 0, [.t 7], [0, 1, 2, 3, 4, 5], none⟩, ⟨none, .store 1, [.t 26, .t 25], [6, 5, 5, 0, 1, 2, 3, 4, 5], none⟩] false) AC.skip)).seq
  ((AC.region [⟨some 27, .load 1 true, [.t 7], [], none⟩, ⟨some 28, .load 8 true, [.t 8], [], none⟩, ⟨some 29, .mov, [.t 9], [], none⟩, ⟨none, .store 1, [.t 4, .t 27], [0, 0], none⟩, ⟨none, .store 8, [.t 5, .t 28], [1, 3, 0, 1, 3], none⟩, ⟨some 6, .mov, [.t 29], [2, 4, 0, 1, 2, 3, 4], none⟩] true).seq AC.ret))))
def rs_channel_Take : List RV := [.c 4 1 true, .c 5 8 true, .t 6]
theorem c_channel_Take : compile Try.prog (Go.Func.ntmps Try.f15) (Try.f15.body.getD .skip) = some ac_channel_Take := by kernel_rfl
theorem go_channel_Take {xs : List V} {bx bx' : U} {r : V} {ns : List O} (hxs : decide (xs.length ≤ Go.Func.ntmps Try.f15) = true) (hbx : BxOK bx bx') (h : ∀ cx : Cx, cx.m0 = ups M0 bx → Awp Try.prog cx ac_channel_Take (RetE rs_channel_Take r bx' ns) ⟨tl (idx 0 xs), ups M0 bx⟩) : Does Try.prog 15 xs bx r bx' ns :=
  does_of Try.func15 (by kernel_rfl : Try.f15.body = some (Try.f15.body.getD .skip)) rfl c_channel_Take (by kernel_rfl) (of_decide_eq_true hxs) hbx fun cx _ hm => h cx hm
def ac_channel_Same : AC :=
  (AC.region [⟨some 2, .box, [.t 0], [], none⟩, ⟨some 3, .box, [.t 1], [], none⟩, ⟨some 4, .mov, [cb false], [], none⟩] false).seq
  ((AC.region [⟨some 5, .fad 0, [.t 2], [], none⟩, ⟨some 6, .load 1 false, [.t 5], [0], none⟩, ⟨some 7, .fad 0, [.t 3], [], none⟩, ⟨some 8, .load 1 false, [.t 7], [2], none⟩, ⟨some 9, .call 32, [.t 6, .t 8, AV.c (V.cl 10 [])], [1, 3], none⟩, ⟨some 4, .mov, [.t 9], [4, 4, 0, 1, 2, 3, 4], none⟩] false).seq AC.ret)
def rs_channel_Same : List RV := [.t 4]
theorem c_channel_Same : compile Try.prog (Go.Func.ntmps Try.f23) (Try.f23.body.getD .skip) = some ac_channel_Same := by kernel_rfl
theorem go_channel_Same {xs : List V} {bx bx' : U} {r : V} {ns : List O} (hxs : decide (xs.length ≤ Go.Func.ntmps Try.f23) = true) (hbx : BxOK bx bx') (h : ∀ cx : Cx, cx.m0 = ups M0 bx → Awp Try.prog cx ac_channel_Same (RetE rs_channel_Same r bx' ns) ⟨tl (idx 0 xs), ups M0 bx⟩) : Does Try.prog 23 xs bx r bx' ns :=
  does_of Try.func23 (by kernel_rfl : Try.f23.body = some (Try.f23.body.getD .skip)) rfl c_channel_Same (by kernel_rfl) (of_decide_eq_true hxs) hbx fun cx _ hm => h cx hm
def ac_slices_EqualFunc_api_Note_api_Note_api_Note_api_Note : AC :=
  (AC.region [⟨some 6, .mov, [cb false], [], none⟩] false).seq
  (((AC.region [⟨some 10, .mov, [.t 0], [], none⟩, ⟨some 11, .len, [.t 10], [0], none⟩, ⟨some 12, .mov, [.t 1], [], none⟩, ⟨some 13, .len, [.t 12], [2], none⟩, ⟨some 14, .bin .neq, [.t 11, .t 13], [1, 3], none⟩] false).seq
  (AC.cond (.t 14) ((AC.region [⟨some 6, .mov, [cb false], [], none⟩] false).seq AC.ret) AC.skip)).seq
  (((AC.region [⟨some 15, .mov, [.t 0], [], none⟩, ⟨some 16, .len, [.t 15], [0], none⟩, ⟨some 17, .mov, [ci 0], [], none⟩] false).seq
  (AC.block 0 ((AC.region [⟨some 18, .bin .lss, [.t 17, .t 16], [], none⟩] false).seq
  ((AC.cond (.t 18) AC.skip (AC.exit 0)).seq
  ((AC.block 1 ((AC.region [⟨some 19, .mov, [.t 17], [], none⟩, ⟨some 20, .iad 8, [.t 15, .t 17], [], none⟩, ⟨some 21, .load 8 true, [.t 20], [1], none⟩, ⟨some 8, .alloc [I 0, I 0, I 0, I 0, I 0, V.nl 1, V.nl 1, I 0], [], [], none⟩, ⟨some 7, .mov, [.t 19], [0, 0, 1, 2, 3], none⟩, ⟨none, .store 8, [.t 8, .t 21], [3, 2, 4, 0, 1, 2, 3, 4], none⟩] false).seq
  ((AC.region [⟨some 22, .mov, [.t 1], [], none⟩, ⟨some 23, .mov, [.t 7], [], none⟩, ⟨some 24, .iad 8, [.t 22, .t 23], [0, 1], none⟩, ⟨some 25, .load 8 true, [.t 24], [2], none⟩, ⟨some 9, .alloc [I 0, I 0, I 0, I 0, I 0, V.nl 1, V.nl 1, I 0], [], [], none⟩, ⟨none, .store 8, [.t 9, .t 25], [4, 3, 0, 1, 2, 3, 4], none⟩] false).seq
  ((AC.region [⟨some 26, .mov, [.t 2], [], none⟩, ⟨some 27, .load 8 true, [.t 8], [], none⟩, ⟨some 28, .load 8 true, [.t 9], [], none⟩, ⟨some 29, .callv, [.t 26, .t 27, .t 28], [0, 1, 2], none⟩, ⟨some 30, .un .not, [.t 29], [3], none⟩] false).seq
  (AC.cond (.t 30) ((AC.region [⟨some 6, .mov, [cb false], [], none⟩] false).seq AC.ret) AC.skip))))).seq
  (AC.region [⟨some 31, .bin .add, [.t 17, ci 1], [], none⟩, ⟨some 17, .mov, [.t 31], [0], none⟩] false)))).loop)).seq
  ((AC.region [⟨some 6, .mov, [cb true], [], none⟩] false).seq AC.ret)))
def rs_slices_EqualFunc_api_Note_api_Note_api_Note_api_Note : List RV := [.t 6]
theorem c_slices_EqualFunc_api_Note_api_Note_api_Note_api_Note : compile Try.prog (Go.Func.ntmps Try.f32) (Try.f32.body.getD .skip) = some ac_slices_EqualFunc_api_Note_api_Note_api_Note_api_Note := by kernel_rfl
theorem go_slices_EqualFunc_api_Note_api_Note_api_Note_api_Note {xs : List V} {bx bx' : U} {r : V} {ns : List O} (hxs : decide (xs.length ≤ Go.Func.ntmps Try.f32) = true) (hbx : BxOK bx bx') (h : ∀ cx : Cx, cx.m0 = ups M0 bx → Awp Try.prog cx ac_slices_EqualFunc_api_Note_api_Note_api_Note_api_Note (RetE rs_slices_EqualFunc_api_Note_api_Note_api_Note_api_Note r bx' ns) ⟨tl (idx 0 xs), ups M0 bx⟩) : Does Try.prog 32 xs bx r bx' ns :=
  does_of Try.func32 (by kernel_rfl : Try.f32.body = some (Try.f32.body.getD .skip)) rfl c_slices_EqualFunc_api_Note_api_Note_api_Note_api_Note (by kernel_rfl) (of_decide_eq_true hxs) hbx fun cx _ hm => h cx hm
def ac_ref31_Send : AC :=
  (AC.region [⟨some 2, .box, [.t 0], [], none⟩, ⟨some 4, .alloc [V.nl 8], [], [], none⟩, ⟨some 5, .mov, [ci 0], [], none⟩] false).seq
  (((AC.region [⟨some 7, .fad 0, [.t 2], [], none⟩, ⟨some 8, .load 1 false, [.t 7], [0], none⟩, ⟨some 9, .len, [.t 8], [1], none⟩, ⟨some 10, .mov, [.t 1], [], none⟩, ⟨some 11, .len, [.t 10], [3], none⟩, ⟨some 12, .bin .add, [.t 9, .t 11], [2, 4], none⟩, ⟨some 13, .bin .gtr, [.t 12, ci 256], [5], none⟩] false).seq
  (AC.cond (.t 13) ((AC.region [⟨some 14, .load 1 true, [.t 2], [], none⟩, ⟨none, .store 1, [.t 4, .t 14], [0, 0], none⟩, ⟨some 5, .mov, [ci 4], [1, 0, 1], none⟩] false).seq AC.ret) AC.skip)).seq
  ((AC.region [⟨some 6, .mov, [AV.c (V.nl 8)], [], none⟩] false).seq
  ((AC.region [⟨some 15, .mov, [.t 6], [], none⟩, ⟨some 16, .fad 0, [.t 2], [], none⟩, ⟨some 17, .load 1 false, [.t 16], [1], none⟩, ⟨some 18, .app 8 96, [.t 15, .t 17], [0, 2], none⟩, ⟨some 19, .mov, [.t 1], [], none⟩, ⟨some 20, .app 8 96, [.t 18, .t 19], [3, 4, 3], none⟩, ⟨some 6, .mov, [.t 20], [5, 5, 0, 1, 2, 3, 4, 5], none⟩] false).seq
  ((AC.region [⟨some 21, .mov, [.t 6], [], none⟩, ⟨some 22, .build [V.nl 8] [(0, 1)], [.t 21], [0], none⟩, ⟨none, .store 1, [.t 4, .t 22], [1, 0, 1], none⟩, ⟨some 5, .mov, [ci 0], [2, 0, 1, 2], none⟩] false).seq AC.ret))))
def rs_ref31_Send : List RV := [.c 4 1 true, .t 5]
theorem c_ref31_Send : compile Try.prog (Go.Func.ntmps Try.f13) (Try.f13.body.getD .skip) = some ac_ref31_Send := by kernel_rfl
theorem go_ref31_Send {xs : List V} {bx bx' : U} {r : V} {ns : List O} (hxs : decide (xs.length ≤ Go.Func.ntmps Try.f13) = true) (hbx : BxOK bx bx') (h : ∀ cx : Cx, cx.m0 = ups M0 bx → Awp Try.prog cx ac_ref31_Send (RetE rs_ref31_Send r bx' ns) ⟨tl (idx 0 xs), ups M0 bx⟩) : Does Try.prog 13 xs bx r bx' ns :=
  does_of Try.func13 (by kernel_rfl : Try.f13.body = some (Try.f13.body.getD .skip)) rfl c_ref31_Send (by kernel_rfl) (of_decide_eq_true hxs) hbx fun cx _ hm => h cx hm
def ac_ref31_Same : AC :=
  (AC.region [⟨some 2, .box, [.t 0], [], none⟩, ⟨some 3, .box, [.t 1], [], none⟩, ⟨some 4, .mov, [cb false], [], none⟩] false).seq
  ((AC.region [⟨some 5, .fad 0, [.t 2], [], none⟩, ⟨some 6, .load 1 false, [.t 5], [0], none⟩, ⟨some 7, .fad 0, [.t 3], [], none⟩, ⟨some 8, .load 1 false, [.t 7], [2], none⟩, ⟨some 9, .call 30, [.t 6, .t 8], [1, 3], none⟩, ⟨some 4, .mov, [.t 9], [4, 4, 0, 1, 2, 3, 4], none⟩] false).seq AC.ret)
def rs_ref31_Same : List RV := [.t 4]
theorem c_ref31_Same : compile Try.prog (Go.Func.ntmps Try.f14) (Try.f14.body.getD .skip) = some ac_ref31_Same := by kernel_rfl
theorem go_ref31_Same {xs : List V} {bx bx' : U} {r : V} {ns : List O} (hxs : decide (xs.length ≤ Go.Func.ntmps Try.f14) = true) (hbx : BxOK bx bx') (h : ∀ cx : Cx, cx.m0 = ups M0 bx → Awp Try.prog cx ac_ref31_Same (RetE rs_ref31_Same r bx' ns) ⟨tl (idx 0 xs), ups M0 bx⟩) : Does Try.prog 14 xs bx r bx' ns :=
  does_of Try.func14 (by kernel_rfl : Try.f14.body = some (Try.f14.body.getD .skip)) rfl c_ref31_Same (by kernel_rfl) (of_decide_eq_true hxs) hbx fun cx _ hm => h cx hm
def ac_ref31_Take : AC :=
  (AC.region [⟨some 2, .box, [.t 0], [], none⟩, ⟨some 4, .alloc [V.nl 8], [], [], none⟩, ⟨some 5, .alloc [I 0, I 0, I 0, I 0, I 0, V.nl 1, V.nl 1, I 0], [], [], none⟩, ⟨some 6, .mov, [ci 0], [], none⟩] false).seq
  ((AC.region [⟨some 11, .load 1 true, [.t 2], [], none⟩, ⟨some 12, .mov, [.t 1], [], none⟩, ⟨some 13, .call 18, [.t 11, .t 12], [0, 1], none⟩, ⟨some 10, .mov, [.t 13], [2], none⟩, ⟨some 14, .ext 0, [.t 10], [3], none⟩, ⟨some 15, .ext 1, [.t 10], [3], none⟩, ⟨some 7, .alloc [I 0, I 0, I 0, I 0, I 0, V.nl 1, V.nl 1, I 0], [], [], none⟩, ⟨none, .store 8, [.t 7, .t 14], [6, 4, 2, 0, 1, 2, 3, 4, 6], none⟩, ⟨some 8, .mov, [.t 15], [5, 7, 0, 1, 2, 3, 4, 5, 6, 7], none⟩] false).seq
  (((AC.region [⟨some 16, .mov, [.t 8], [], none⟩, ⟨some 17, .bin .neq, [.t 16, ci 0], [0], none⟩] false).seq
  (AC.cond (.t 17) ((AC.region [⟨some 18, .load 1 true, [.t 2], [], none⟩, ⟨some 19, .build [I 0, I 0, I 0, I 0, I 0, V.nl 1, V.nl 1, I 0] [], [], [], none⟩, ⟨some 20, .mov, [.t 8], [], none⟩, ⟨none, .store 1, [.t 4, .t 18], [0, 0], none⟩, ⟨none, .store 8, [.t 5, .t 19], [1, 3, 0, 1, 3], none⟩, ⟨some 6, .mov, [.t 20], [2, 4, 0, 1, 2, 3, 4], none⟩] false).seq AC.ret) AC.skip)).seq
  ((AC.region [⟨some 9, .mov, [AV.c (V.nl 8)], [], none⟩] false).seq
  ((AC.region [⟨some 21, .mov, [.t 9], [], none⟩, ⟨some 22, .fad 0, [.t 2], [], none⟩, ⟨some 23, .load 1 false, [.t 22], [1], none⟩, ⟨some 24, .mov, [.t 1], [], none⟩, ⟨some 25, .slc false true false 8, [.t 23, .t 24], [2, 3], none⟩, ⟨some 26, .app 8 96, [.t 21, .t 25], [0, 4], none⟩, ⟨some 27, .fad 0, [.t 2], [], none⟩, ⟨some 28, .load 1 false, [.t 27], [6], none⟩, ⟨some 29, .mov, [.t 1], [], none⟩, ⟨some 30, .bin .add, [.t 29, ci 1], [8], none⟩, ⟨some 31, .slc true false false 8, [.t 28, .t 30], [7, 9], none⟩, ⟨some 32, .app 8 96, [.t 26, .t 31], [5, 10, 5], none⟩, ⟨some 9, .mov, [.t 32], [11, 11, 0, 1, 2, 3, 4, 5, 6, 7, 8, 9, 10, 11], none⟩] true).seq
  ((AC.region [⟨some 33, .mov, [.t 9], [], none⟩, ⟨some 34, .build [V.nl 8] [(0, 1)], [.t 33], [0], none⟩, ⟨some 35, .load 8 true, [.t 7], [], none⟩, ⟨none, .store 1, [.t 4, .t 34], [1, 0, 1], none⟩, ⟨none, .store 8, [.t 5, .t 35], [2, 3, 0, 1, 2, 3], none⟩, ⟨some 6, .mov, [ci 0], [4, 0, 1, 2, 3, 4], none⟩] true).seq AC.ret)))))
def rs_ref31_Take : List RV := [.c 4 1 true, .c 5 8 true, .t 6]
theorem c_ref31_Take : compile Try.prog (Go.Func.ntmps Try.f16) (Try.f16.body.getD .skip) = some ac_ref31_Take := by kernel_rfl
theorem go_ref31_Take {xs : List V} {bx bx' : U} {r : V} {ns : List O} (hxs : decide (xs.length ≤ Go.Func.ntmps Try.f16) = true) (hbx : BxOK bx bx') (h : ∀ cx : Cx, cx.m0 = ups M0 bx → Awp Try.prog cx ac_ref31_Take (RetE rs_ref31_Take r bx' ns) ⟨tl (idx 0 xs), ups M0 bx⟩) : Does Try.prog 16 xs bx r bx' ns :=
  does_of Try.func16 (by kernel_rfl : Try.f16.body = some (Try.f16.body.getD .skip)) rfl c_ref31_Take (by kernel_rfl) (of_decide_eq_true hxs) hbx fun cx _ hm => h cx hm
def ac_ref31_Look : AC :=
  (AC.region [⟨some 2, .box, [.t 0], [], none⟩, ⟨some 4, .alloc [I 0, I 0, I 0, I 0, I 0, V.nl 1, V.nl 1, I 0], [], [], none⟩, ⟨some 5, .mov, [ci 0], [], none⟩] false).seq
  (((AC.region [⟨some 6, .mov, [.t 1], [], none⟩, ⟨some 7, .bin .lss, [.t 6, ci 0], [0], none⟩, ⟨some 8, .mov, [.t 7], [1], none⟩, ⟨some 9, .mov, [.t 1], [2], some (2, 8, false)⟩, ⟨some 10, .fad 0, [.t 2], [2], some (2, 8, false)⟩, ⟨some 11, .load 1 false, [.t 10], [4, 2], some (2, 8, false)⟩, ⟨some 12, .len, [.t 11], [5, 2], some (2, 8, false)⟩, ⟨some 13, .bin .geq, [.t 9, .t 12], [3, 6, 2], some (2, 8, false)⟩, ⟨some 14, .pick, [.t 8, cb true, .t 13], [2, 7], none⟩] false).seq
  (AC.cond (.t 14) ((AC.region [⟨some 15, .build [I 0, I 0, I 0, I 0, I 0, V.nl 1, V.nl 1, I 0] [], [], [], none⟩, ⟨none, .store 8, [.t 4, .t 15], [0, 0], none⟩, ⟨some 5, .mov, [ci 6], [1, 0, 1], none⟩] false).seq AC.ret) AC.skip)).seq
  ((AC.region [⟨some 16, .fad 0, [.t 2], [], none⟩, ⟨some 17, .load 1 false, [.t 16], [0], none⟩, ⟨some 18, .mov, [.t 1], [], none⟩, ⟨some 19, .iad 8, [.t 17, .t 18], [1, 2], none⟩, ⟨some 20, .load 8 true, [.t 19], [3], none⟩, ⟨none, .store 8, [.t 4, .t 20], [4, 0, 1, 2, 3, 4], none⟩, ⟨some 5, .mov, [ci 0], [5, 0, 1, 2, 3, 4, 5], none⟩] false).seq AC.ret))
def rs_ref31_Look : List RV := [.c 4 8 true, .t 5]
theorem c_ref31_Look : compile Try.prog (Go.Func.ntmps Try.f18) (Try.f18.body.getD .skip) = some ac_ref31_Look := by kernel_rfl
theorem go_ref31_Look {xs : List V} {bx bx' : U} {r : V} {ns : List O} (hxs : decide (xs.length ≤ Go.Func.ntmps Try.f18) = true) (hbx : BxOK bx bx') (h : ∀ cx : Cx, cx.m0 = ups M0 bx → Awp Try.prog cx ac_ref31_Look (RetE rs_ref31_Look r bx' ns) ⟨tl (idx 0 xs), ups M0 bx⟩) : Does Try.prog 18 xs bx r bx' ns :=
  does_of Try.func18 (by kernel_rfl : Try.f18.body = some (Try.f18.body.getD .skip)) rfl c_ref31_Look (by kernel_rfl) (of_decide_eq_true hxs) hbx fun cx _ hm => h cx hm
def ac_ref31_SameNote : AC :=
  (AC.region [⟨some 2, .box, [.t 0], [], none⟩, ⟨some 3, .box, [.t 1], [], none⟩, ⟨some 4, .mov, [cb false], [], none⟩] false).seq
  ((AC.region [⟨some 5, .fad 0, [.t 2], [], none⟩, ⟨some 6, .load 1 false, [.t 5], [0], none⟩, ⟨some 7, .fad 0, [.t 3], [], none⟩, ⟨some 8, .load 1 false, [.t 7], [2], none⟩, ⟨some 9, .bin .eql, [.t 6, .t 8], [1, 3], none⟩, ⟨some 10, .mov, [.t 9], [4], none⟩, ⟨some 11, .fad 1, [.t 2], [5], some (5, 10, true)⟩, ⟨some 12, .load 1 false, [.t 11], [6, 5], some (5, 10, true)⟩, ⟨some 13, .fad 1, [.t 3], [5], some (5, 10, true)⟩, ⟨some 14, .load 1 false, [.t 13], [8, 5], some (5, 10, true)⟩, ⟨some 15, .bin .eql, [.t 12, .t 14], [7, 9, 5], some (5, 10, true)⟩, ⟨some 16, .pick, [.t 10, .t 15, cb false], [5, 10], none⟩, ⟨some 17, .mov, [.t 16], [11, 5], none⟩, ⟨some 18, .fad 2, [.t 2], [12], some (12, 17, true)⟩, ⟨some 19, .load 1 false, [.t 18], [13, 12], some (12, 17, true)⟩, ⟨some 20, .fad 2, [.t 3], [12], some (12, 17, true)⟩, ⟨some 21, .load 1 false, [.t 20], [15, 12], some (12, 17, true)⟩, ⟨some 22, .bin .eql, [.t 19, .t 21], [14, 16, 12], some (12, 17, true)⟩, ⟨some 23, .pick, [.t 17, .t 22, cb false], [12, 17], none⟩, ⟨some 24, .mov, [.t 23], [18, 12], none⟩, ⟨some 25, .fad 3, [.t 2], [19], some (19, 24, true)⟩, ⟨some 26, .load 1 false, [.t 25], [20, 19], some (19, 24, true)⟩, ⟨some 27, .fad 3, [.t 3], [19], some (19, 24, true)⟩, ⟨some 28, .load 1 false, [.t 27], [22, 19], some (19, 24, true)⟩, ⟨some 29, .bin .eql, [.t 26, .t 28], [21, 23, 19], some (19, 24, true)⟩, ⟨some 30, .pick, [.t 24, .t 29, cb false], [19, 24], none⟩, ⟨some 31, .mov, [.t 30], [25, 19], none⟩, ⟨some 32, .fad 4, [.t 2], [26], some (26, 31, true)⟩, ⟨some 33, .load 1 false, [.t 32], [27, 26], some (26, 31, true)⟩, ⟨some 34, .fad 4, [.t 3], [26], some (26, 31, true)⟩, ⟨some 35, .load 1 false, [.t 34], [29, 26], some (26, 31, true)⟩, ⟨some 36, .bin .eql, [.t 33, .t 35], [28, 30, 26], some (26, 31, true)⟩, ⟨some 37, .pick, [.t 31, .t 36, cb false], [26, 31], none⟩, ⟨some 38, .mov, [.t 37], [32, 26], none⟩, ⟨some 39, .fad 7, [.t 2], [33], some (33, 38, true)⟩, ⟨some 40, .load 1 false, [.t 39], [34, 33], some (33, 38, true)⟩, ⟨some 41, .fad 7, [.t 3], [33], some (33, 38, true)⟩, ⟨some 42, .load 1 false, [.t 41], [36, 33], some (33, 38, true)⟩, ⟨some 43, .bin .eql, [.t 40, .t 42], [35, 37, 33], some (33, 38, true)⟩, ⟨some 44, .pick, [.t 38, .t 43, cb false], [33, 38], none⟩, ⟨some 45, .mov, [.t 44], [39, 33], none⟩, ⟨some 46, .fad 5, [.t 2], [40], some (40, 45, true)⟩, ⟨some 47, .load 1 false, [.t 46], [41, 40], some (40, 45, true)⟩, ⟨some 48, .fad 5, [.t 3], [40], some (40, 45, true)⟩, ⟨some 49, .load 1 false, [.t 48], [43, 40], some (40, 45, true)⟩, ⟨some 50, .call 21, [.t 47, .t 49], [42, 44, 40, 40], some (40, 45, true)⟩, ⟨some 51, .pick, [.t 45, .t 50, cb false], [40, 45], none⟩, ⟨some 52, .mov, [.t 51], [46, 45], none⟩, ⟨some 53, .fad 6, [.t 2], [47], some (47, 52, true)⟩, ⟨some 54, .load 1 false, [.t 53], [48, 47], some (47, 52, true)⟩, ⟨some 55, .fad 6, [.t 3], [47], some (47, 52, true)⟩, ⟨some 56, .load 1 false, [.t 55], [50, 47], some (47, 52, true)⟩, ⟨some 57, .call 21, [.t 54, .t 56], [49, 51, 47, 47], some (47, 52, true)⟩, ⟨some 58, .pick, [.t 52, .t 57, cb false], [47, 52], none⟩, ⟨some 4, .mov, [.t 58], [53, 52, 0, 1, 2, 3, 4, 5, 6, 7, 8, 9, 10, 11, 12, 13, 14, 15, 16, 17, 18, 19, 20, 21, 22, 23, 24, 25, 26, 27, 28, 29, 30, 31, 32, 33, 34, 35, 36, 37, 38, 39, 40, 41, 42, 43, 44, 45, 46, 47, 48, 49, 50, 51, 52, 53], none⟩] false).seq AC.ret)
def rs_ref31_SameNote : List RV := [.t 4]
theorem c_ref31_SameNote : compile Try.prog (Go.Func.ntmps Try.f19) (Try.f19.body.getD .skip) = some ac_ref31_SameNote := by kernel_rfl
theorem go_ref31_SameNote {xs : List V} {bx bx' : U} {r : V} {ns : List O} (hxs : decide (xs.length ≤ Go.Func.ntmps Try.f19) = true) (hbx : BxOK bx bx') (h : ∀ cx : Cx, cx.m0 = ups M0 bx → Awp Try.prog cx ac_ref31_SameNote (RetE rs_ref31_SameNote r bx' ns) ⟨tl (idx 0 xs), ups M0 bx⟩) : Does Try.prog 19 xs bx r bx' ns :=
  does_of Try.func19 (by kernel_rfl : Try.f19.body = some (Try.f19.body.getD .skip)) rfl c_ref31_SameNote (by kernel_rfl) (of_decide_eq_true hxs) hbx fun cx _ hm => h cx hm
def ac_ref31_Drop : AC :=
  (AC.region [⟨some 2, .box, [.t 0], [], none⟩, ⟨some 4, .alloc [V.nl 8], [], [], none⟩] false).seq
  ((AC.region [⟨some 5, .mov, [AV.c (V.nl 8)], [], none⟩] false).seq
  (((AC.region [⟨some 6, .mov, [ci 0], [], none⟩] false).seq
  (AC.block 0 (((AC.region [⟨some 7, .mov, [.t 6], [], none⟩, ⟨some 8, .fad 0, [.t 2], [], none⟩, ⟨some 9, .load 1 false, [.t 8], [1], none⟩, ⟨some 10, .len, [.t 9], [2], none⟩, ⟨some 11, .bin .lss, [.t 7, .t 10], [0, 3], none⟩] false).seq
  (AC.cond (.t 11) AC.skip (AC.exit 0))).seq
  ((AC.block 1 ((AC.region [⟨some 14, .fad 0, [.t 2], [], none⟩, ⟨some 15, .load 1 false, [.t 14], [0], none⟩, ⟨some 16, .mov, [.t 6], [], none⟩, ⟨some 17, .iad 8, [.t 15, .t 16], [1, 2], none⟩, ⟨some 18, .fad 1, [.t 17], [3], none⟩, ⟨some 19, .load 1 false, [.t 18], [4], none⟩, ⟨some 20, .mov, [.t 1], [], none⟩, ⟨some 21, .bin .neq, [.t 19, .t 20], [5, 6], none⟩] false).seq
  (AC.cond (.t 21) (AC.region [⟨some 22, .mov, [.t 5], [], none⟩, ⟨some 23, .fad 0, [.t 2], [], none⟩, ⟨some 24, .load 1 false, [.t 23], [1], none⟩, ⟨some 25, .mov, [.t 6], [], none⟩, ⟨some 26, .iad 8, [.t 24, .t 25], [2, 3], none⟩, ⟨some 27, .load 8 true, [.t 26], [4], none⟩, ⟨some 28, .bsl 8 [I 0, I 0, I 0, I 0, I 0, V.nl 1, V.nl 1, I 0] 1 [0], [.t 27], [5], none⟩, ⟨some 29, .app 8 96, [.t 22, .t 28], [0, 6], none⟩, ⟨some 5, .mov, [.t 29], [7, 7, 0, 1, 2, 3, 4, 5, 6, 7], none⟩] false) AC.skip))).seq
  (AC.region [⟨some 12, .mov, [.t 6], [], none⟩, ⟨some 13, .bin .add, [.t 12, ci 1], [0], none⟩, ⟨some 6, .mov, [.t 13], [1, 0, 1], none⟩] false))).loop)).seq
  ((AC.region [⟨some 30, .mov, [.t 5], [], none⟩, ⟨some 31, .build [V.nl 8] [(0, 1)], [.t 30], [0], none⟩, ⟨none, .store 1, [.t 4, .t 31], [1, 0, 1], none⟩] false).seq AC.ret)))
def rs_ref31_Drop : List RV := [.c 4 1 true]
theorem c_ref31_Drop : compile Try.prog (Go.Func.ntmps Try.f20) (Try.f20.body.getD .skip) = some ac_ref31_Drop := by kernel_rfl
theorem go_ref31_Drop {xs : List V} {bx bx' : U} {r : V} {ns : List O} (hxs : decide (xs.length ≤ Go.Func.ntmps Try.f20) = true) (hbx : BxOK bx bx') (h : ∀ cx : Cx, cx.m0 = ups M0 bx → Awp Try.prog cx ac_ref31_Drop (RetE rs_ref31_Drop r bx' ns) ⟨tl (idx 0 xs), ups M0 bx⟩) : Does Try.prog 20 xs bx r bx' ns :=
  does_of Try.func20 (by kernel_rfl : Try.f20.body = some (Try.f20.body.getD .skip)) rfl c_ref31_Drop (by kernel_rfl) (of_decide_eq_true hxs) hbx fun cx _ hm => h cx hm
def ac_ref31_Ints : AC :=
  (AC.region [⟨some 4, .mov, [cb false], [], none⟩] false).seq
  (((AC.region [⟨some 6, .mov, [.t 0], [], none⟩, ⟨some 7, .len, [.t 6], [0], none⟩, ⟨some 8, .mov, [.t 1], [], none⟩, ⟨some 9, .len, [.t 8], [2], none⟩, ⟨some 10, .bin .neq, [.t 7, .t 9], [1, 3], none⟩] false).seq
  (AC.cond (.t 10) ((AC.region [⟨some 4, .mov, [cb false], [], none⟩] false).seq AC.ret) AC.skip)).seq
  (((AC.region [⟨some 5, .mov, [ci 0], [], none⟩] false).seq
  (AC.block 0 (((AC.region [⟨some 11, .mov, [.t 5], [], none⟩, ⟨some 12, .mov, [.t 0], [], none⟩, ⟨some 13, .len, [.t 12], [1], none⟩, ⟨some 14, .bin .lss, [.t 11, .t 13], [0, 2], none⟩] false).seq
  (AC.cond (.t 14) AC.skip (AC.exit 0))).seq
  ((AC.block 1 ((AC.region [⟨some 17, .mov, [.t 0], [], none⟩, ⟨some 18, .mov, [.t 5], [], none⟩, ⟨some 19, .iad 1, [.t 17, .t 18], [0, 1], none⟩, ⟨some 20, .load 1 false, [.t 19], [2], none⟩, ⟨some 21, .mov, [.t 1], [], none⟩, ⟨some 22, .mov, [.t 5], [], none⟩, ⟨some 23, .iad 1, [.t 21, .t 22], [4, 5], none⟩, ⟨some 24, .load 1 false, [.t 23], [6], none⟩, ⟨some 25, .bin .neq, [.t 20, .t 24], [3, 7], none⟩] true).seq
  (AC.cond (.t 25) ((AC.region [⟨some 4, .mov, [cb false], [], none⟩] false).seq AC.ret) AC.skip))).seq
  (AC.region [⟨some 15, .mov, [.t 5], [], none⟩, ⟨some 16, .bin .add, [.t 15, ci 1], [0], none⟩, ⟨some 5, .mov, [.t 16], [1, 0, 1], none⟩] false))).loop)).seq
  ((AC.region [⟨some 4, .mov, [cb true], [], none⟩] false).seq AC.ret)))
def rs_ref31_Ints : List RV := [.t 4]
theorem c_ref31_Ints : compile Try.prog (Go.Func.ntmps Try.f21) (Try.f21.body.getD .skip) = some ac_ref31_Ints := by kernel_rfl
theorem go_ref31_Ints {xs : List V} {bx bx' : U} {r : V} {ns : List O} (hxs : decide (xs.length ≤ Go.Func.ntmps Try.f21) = true) (hbx : BxOK bx bx') (h : ∀ cx : Cx, cx.m0 = ups M0 bx → Awp Try.prog cx ac_ref31_Ints (RetE rs_ref31_Ints r bx' ns) ⟨tl (idx 0 xs), ups M0 bx⟩) : Does Try.prog 21 xs bx r bx' ns :=
  does_of Try.func21 (by kernel_rfl : Try.f21.body = some (Try.f21.body.getD .skip)) rfl c_ref31_Ints (by kernel_rfl) (of_decide_eq_true hxs) hbx fun cx _ hm => h cx hm
def ac_ref31_Between : AC :=
  (AC.region [⟨some 2, .box, [.t 0], [], none⟩, ⟨some 4, .mov, [AV.c (V.nl 1)], [], none⟩] false).seq
  ((AC.region [⟨some 5, .mov, [AV.c (V.nl 1)], [], none⟩] false).seq
  (((AC.region [⟨some 6, .mov, [ci 0], [], none⟩] false).seq
  (AC.block 0 (((AC.region [⟨some 7, .mov, [.t 6], [], none⟩, ⟨some 8, .fad 0, [.t 2], [], none⟩, ⟨some 9, .load 1 false, [.t 8], [1], none⟩, ⟨some 10, .len, [.t 9], [2], none⟩, ⟨some 11, .bin .lss, [.t 7, .t 10], [0, 3], none⟩] false).seq
  (AC.cond (.t 11) AC.skip (AC.exit 0))).seq
  ((AC.block 1 ((AC.region [⟨some 14, .fad 0, [.t 2], [], none⟩, ⟨some 15, .load 1 false, [.t 14], [0], none⟩, ⟨some 16, .mov, [.t 6], [], none⟩, ⟨some 17, .iad 8, [.t 15, .t 16], [1, 2], none⟩, ⟨some 18, .fad 3, [.t 17], [3], none⟩, ⟨some 19, .load 1 false, [.t 18], [4], none⟩, ⟨some 20, .mov, [.t 1], [], none⟩, ⟨some 21, .bin .eql, [.t 19, .t 20], [5, 6], none⟩] false).seq
  (AC.cond (.t 21) (AC.region [⟨some 22, .mov, [.t 5], [], none⟩, ⟨some 23, .mov, [.t 6], [], none⟩, ⟨some 24, .bsl 1 [I 0] 1 [0], [.t 23], [1], none⟩, ⟨some 25, .app 1 8, [.t 22, .t 24], [0, 2], none⟩, ⟨some 5, .mov, [.t 25], [3, 3, 0, 1, 2, 3], none⟩] false) AC.skip))).seq
  (AC.region [⟨some 12, .mov, [.t 6], [], none⟩, ⟨some 13, .bin .add, [.t 12, ci 1], [0], none⟩, ⟨some 6, .mov, [.t 13], [1, 0, 1], none⟩] false))).loop)).seq
  ((AC.region [⟨some 26, .mov, [.t 5], [], none⟩, ⟨some 4, .mov, [.t 26], [0, 0], none⟩] false).seq AC.ret)))
def rs_ref31_Between : List RV := [.t 4]
theorem c_ref31_Between : compile Try.prog (Go.Func.ntmps Try.f22) (Try.f22.body.getD .skip) = some ac_ref31_Between := by kernel_rfl
theorem go_ref31_Between {xs : List V} {bx bx' : U} {r : V} {ns : List O} (hxs : decide (xs.length ≤ Go.Func.ntmps Try.f22) = true) (hbx : BxOK bx bx') (h : ∀ cx : Cx, cx.m0 = ups M0 bx → Awp Try.prog cx ac_ref31_Between (RetE rs_ref31_Between r bx' ns) ⟨tl (idx 0 xs), ups M0 bx⟩) : Does Try.prog 22 xs bx r bx' ns :=
  does_of Try.func22 (by kernel_rfl : Try.f22.body = some (Try.f22.body.getD .skip)) rfl c_ref31_Between (by kernel_rfl) (of_decide_eq_true hxs) hbx fun cx _ hm => h cx hm
def ac_ref31_SameNotes : AC :=
  (AC.region [⟨some 4, .mov, [cb false], [], none⟩] false).seq
  (((AC.region [⟨some 6, .mov, [.t 0], [], none⟩, ⟨some 7, .len, [.t 6], [0], none⟩, ⟨some 8, .mov, [.t 1], [], none⟩, ⟨some 9, .len, [.t 8], [2], none⟩, ⟨some 10, .bin .neq, [.t 7, .t 9], [1, 3], none⟩] false).seq
  (AC.cond (.t 10) ((AC.region [⟨some 4, .mov, [cb false], [], none⟩] false).seq AC.ret) AC.skip)).seq
  (((AC.region [⟨some 5, .mov, [ci 0], [], none⟩] false).seq
  (AC.block 0 (((AC.region [⟨some 11, .mov, [.t 5], [], none⟩, ⟨some 12, .mov, [.t 0], [], none⟩, ⟨some 13, .len, [.t 12], [1], none⟩, ⟨some 14, .bin .lss, [.t 11, .t 13], [0, 2], none⟩] false).seq
  (AC.cond (.t 14) AC.skip (AC.exit 0))).seq
  ((AC.block 1 ((AC.region [⟨some 17, .mov, [.t 0], [], none⟩, ⟨some 18, .mov, [.t 5], [], none⟩, ⟨some 19, .iad 8, [.t 17, .t 18], [0, 1], none⟩, ⟨some 20, .load 8 true, [.t 19], [2], none⟩, ⟨some 21, .mov, [.t 1], [], none⟩, ⟨some 22, .mov, [.t 5], [], none⟩, ⟨some 23, .iad 8, [.t 21, .t 22], [4, 5], none⟩, ⟨some 24, .load 8 true, [.t 23], [6], none⟩, ⟨some 25, .call 19, [.t 20, .t 24], [3, 7], none⟩, ⟨some 26, .un .not, [.t 25], [8], none⟩] true).seq
  (AC.cond (.t 26) ((AC.region [⟨some 4, .mov, [cb false], [], none⟩] false).seq AC.ret) AC.skip))).seq
  (AC.region [⟨some 15, .mov, [.t 5], [], none⟩, ⟨some 16, .bin .add, [.t 15, ci 1], [0], none⟩, ⟨some 5, .mov, [.t 16], [1, 0, 1], none⟩] false))).loop)).seq
  ((AC.region [⟨some 4, .mov, [cb true], [], none⟩] false).seq AC.ret)))
def rs_ref31_SameNotes : List RV := [.t 4]
theorem c_ref31_SameNotes : compile Try.prog (Go.Func.ntmps Try.f30) (Try.f30.body.getD .skip) = some ac_ref31_SameNotes := by kernel_rfl
theorem go_ref31_SameNotes {xs : List V} {bx bx' : U} {r : V} {ns : List O} (hxs : decide (xs.length ≤ Go.Func.ntmps Try.f30) = true) (hbx : BxOK bx bx') (h : ∀ cx : Cx, cx.m0 = ups M0 bx → Awp Try.prog cx ac_ref31_SameNotes (RetE rs_ref31_SameNotes r bx' ns) ⟨tl (idx 0 xs), ups M0 bx⟩) : Does Try.prog 30 xs bx r bx' ns :=
  does_of Try.func30 (by kernel_rfl : Try.f30.body = some (Try.f30.body.getD .skip)) rfl c_ref31_SameNotes (by kernel_rfl) (of_decide_eq_true hxs) hbx fun cx _ hm => h cx hm
def ac_law31_ChannelSteps : AC :=
  (AC.region [⟨some 12, .box, [.t 5], [], none⟩, ⟨some 13, .box, [.t 6], [], none⟩, ⟨some 14, .mov, [cb false], [], none⟩] false).seq
  (((AC.region [⟨some 39, .call 5, [], [], none⟩, ⟨some 40, .un .not, [.t 39], [0], none⟩] false).seq
  (AC.cond (.t 40) ((AC.region [⟨some 14, .mov, [cb false], [], none⟩] false).seq AC.ret) AC.skip)).seq
  (((AC.region [⟨some 41, .mov, [.t 1], [], none⟩, ⟨some 42, .len, [.t 41], [0], none⟩, ⟨some 43, .bin .gtr, [.t 42, ci 6], [1], none⟩, ⟨some 44, .mov, [.t 43], [2], none⟩, ⟨some 45, .fad 5, [.t 12], [3], some (3, 44, false)⟩, ⟨some 46, .load 1 false, [.t 45], [4, 3], some (3, 44, false)⟩, ⟨some 47, .len, [.t 46], [5, 3], some (3, 44, false)⟩, ⟨some 48, .bin .gtr, [.t 47, ci 8], [6, 3], some (3, 44, false)⟩, ⟨some 49, .pick, [.t 44, cb true, .t 48], [3, 7], none⟩, ⟨some 50, .mov, [.t 49], [8, 3], none⟩, ⟨some 51, .fad 6, [.t 12], [9], some (9, 50, false)⟩, ⟨some 52, .load 1 false, [.t 51], [10, 9], some (9, 50, false)⟩, ⟨some 53, .len, [.t 52], [11, 9], some (9, 50, false)⟩, ⟨some 54, .bin .gtr, [.t 53, ci 8], [12, 9], some (9, 50, false)⟩, ⟨some 55, .pick, [.t 50, cb true, .t 54], [9, 13], none⟩, ⟨some 56, .mov, [.t 55], [14, 9], none⟩, ⟨some 57, .fad 5, [.t 13], [15], some (15, 56, false)⟩, ⟨some 58, .load 1 false, [.t 57], [16, 15], some (15, 56, false)⟩, ⟨some 59, .len, [.t 58], [17, 15], some (15, 56, false)⟩, ⟨some 60, .bin .gtr, [.t 59, ci 8], [18, 15], some (15, 56, false)⟩, ⟨some 61, .pick, [.t 56, cb true, .t 60], [15, 19], none⟩, ⟨some 62, .mov, [.t 61], [20, 15], none⟩, ⟨some 63, .fad 6, [.t 13], [21], some (21, 62, false)⟩, ⟨some 64, .load 1 false, [.t 63], [22, 21], some (21, 62, false)⟩, ⟨some 65, .len, [.t 64], [23, 21], some (21, 62, false)⟩, ⟨some 66, .bin .gtr, [.t 65, ci 8], [24, 21], some (21, 62, false)⟩, ⟨some 67, .pick, [.t 62, cb true, .t 66], [21, 25], none⟩] false).seq
  (AC.cond (.t 67) ((AC.region [⟨some 14, .mov, [cb true], [], none⟩] false).seq AC.ret) AC.skip)).seq
  (((AC.region [⟨some 68, .mov, [.t 1], [], none⟩, ⟨some 69, .len, [.t 68], [0], none⟩, ⟨some 70, .mov, [ci 0], [], none⟩] false).seq
  (AC.block 0 ((AC.region [⟨some 71, .bin .lss, [.t 70, .t 69], [], none⟩] false).seq
  ((AC.cond (.t 71) AC.skip (AC.exit 0)).seq
  ((AC.block 1 ((AC.region [⟨some 72, .iad 8, [.t 68, .t 70], [], none⟩, ⟨some 73, .load 8 true, [.t 72], [0], none⟩, ⟨some 16, .alloc [I 0, I 0, I 0, I 0, I 0, V.nl 1, V.nl 1, I 0], [], [], none⟩, ⟨none, .store 8, [.t 16, .t 73], [2, 1, 0, 1, 2], none⟩] false).seq
  ((AC.region [⟨some 74, .fad 5, [.t 16], [], none⟩, ⟨some 75, .load 1 false, [.t 74], [0], none⟩, ⟨some 76, .len, [.t 75], [1], none⟩, ⟨some 77, .bin .gtr, [.t 76, ci 8], [2], none⟩, ⟨some 78, .mov, [.t 77], [3], none⟩, ⟨some 79, .fad 6, [.t 16], [4], some (4, 78, false)⟩, ⟨some 80, .load 1 false, [.t 79], [5, 4], some (4, 78, false)⟩, ⟨some 81, .len, [.t 80], [6, 4], some (4, 78, false)⟩, ⟨some 82, .bin .gtr, [.t 81, ci 8], [7, 4], some (4, 78, false)⟩, ⟨some 83, .pick, [.t 78, cb true, .t 82], [4, 8], none⟩] false).seq
  (AC.cond (.t 83) ((AC.region [⟨some 14, .mov, [cb true], [], none⟩] false).seq AC.ret) AC.skip)))).seq
  (AC.region [⟨some 84, .bin .add, [.t 70, ci 1], [], none⟩, ⟨some 70, .mov, [.t 84], [0], none⟩] false)))).loop)).seq
  ((AC.region [⟨some 85, .mov, [.t 0], [], none⟩, ⟨some 86, .call 6, [.t 85], [0], none⟩, ⟨some 17, .mov, [.t 86], [1, 1, 0, 1], none⟩] false).seq
  ((AC.region [⟨some 87, .mov, [.t 17], [], none⟩, ⟨some 88, .call 7, [.t 87], [0], none⟩, ⟨some 18, .alloc [V.nl 8], [], [], none⟩, ⟨none, .store 1, [.t 18, .t 88], [2, 1, 1, 0, 1, 2], none⟩] false).seq
  ((AC.region [⟨some 90, .load 1 true, [.t 18], [], none⟩, ⟨some 91, .mov, [.t 1], [], none⟩, ⟨some 92, .call 12, [.t 90, .t 91], [0, 1], none⟩, ⟨some 89, .mov, [.t 92], [2], none⟩, ⟨some 93, .ext 0, [.t 89], [3], none⟩, ⟨some 94, .ext 1, [.t 89], [3], none⟩, ⟨some 19, .alloc [V.nl 8], [], [], none⟩, ⟨none, .store 1, [.t 19, .t 93], [6, 4, 2, 0, 1, 2, 3, 4, 6], none⟩, ⟨some 20, .mov, [.t 94], [5, 7, 0, 1, 2, 3, 4, 5, 6, 7], none⟩] false).seq
  ((AC.region [⟨some 96, .load 1 true, [.t 18], [], none⟩, ⟨some 97, .mov, [.t 1], [], none⟩, ⟨some 98, .call 13, [.t 96, .t 97], [0, 1], none⟩, ⟨some 95, .mov, [.t 98], [2], none⟩, ⟨some 99, .ext 0, [.t 95], [3], none⟩, ⟨some 100, .ext 1, [.t 95], [3], none⟩, ⟨some 21, .alloc [V.nl 8], [], [], none⟩, ⟨none, .store 1, [.t 21, .t 99], [6, 4, 2, 0, 1, 2, 3, 4, 6], none⟩, ⟨some 22, .mov, [.t 100], [5, 7, 0, 1, 2, 3, 4, 5, 6, 7], none⟩] false).seq
  (((AC.region [⟨some 101, .mov, [.t 20], [], none⟩, ⟨some 102, .mov, [.t 22], [], none⟩, ⟨some 103, .bin .neq, [.t 101, .t 102], [0, 1], none⟩, ⟨some 104, .mov, [.t 103], [2], none⟩, ⟨some 105, .load 1 true, [.t 19], [3], some (3, 104, false)⟩, ⟨some 106, .load 1 true, [.t 21], [3], some (3, 104, false)⟩, ⟨some 107, .call 14, [.t 105, .t 106], [4, 5, 3, 3], some (3, 104, false)⟩, ⟨some 108, .un .not, [.t 107], [6, 3], some (3, 104, false)⟩, ⟨some 109, .pick, [.t 104, cb true, .t 108], [3, 7], none⟩] false).seq
  (AC.cond (.t 109) ((AC.region [⟨some 14, .mov, [cb false], [], none⟩] false).seq AC.ret) AC.skip)).seq
  (((AC.region [⟨some 110, .mov, [.t 2], [], none⟩, ⟨some 111, .mov, [.t 17], [], none⟩, ⟨some 112, .call 8, [.t 111, ci 9], [1], none⟩, ⟨some 113, .fad 0, [.t 18], [], none⟩, ⟨some 114, .load 1 false, [.t 113], [3], none⟩, ⟨some 115, .len, [.t 114], [4], none⟩, ⟨some 116, .bin .sub, [.t 115, ci 1], [5], none⟩, ⟨some 117, .bsl 1 [I 0] 4 [0, 1, 2, 3], [.t 110, ci 0, .t 112, .t 116], [0, 2, 6], none⟩, ⟨some 118, .len, [.t 117], [7], none⟩, ⟨some 119, .mov, [ci 0], [], none⟩] true).seq
  (AC.block 2 ((AC.region [⟨some 120, .bin .lss, [.t 119, .t 118], [], none⟩] false).seq
  ((AC.cond (.t 120) AC.skip (AC.exit 2)).seq
  ((AC.block 3 ((AC.region [⟨some 121, .iad 1, [.t 117, .t 119], [], none⟩, ⟨some 122, .load 1 false, [.t 121], [0], none⟩, ⟨some 24, .mov, [.t 122], [1, 0, 1], none⟩] false).seq
  ((AC.region [⟨some 124, .load 1 true, [.t 18], [], none⟩, ⟨some 125, .mov, [.t 24], [], none⟩, ⟨some 126, .call 15, [.t 124, .t 125], [0, 1], none⟩, ⟨some 123, .mov, [.t 126], [2], none⟩, ⟨some 127, .ext 0, [.t 123], [3], none⟩, ⟨some 128, .ext 1, [.t 123], [3], none⟩, ⟨some 129, .ext 2, [.t 123], [3], none⟩, ⟨some 25, .alloc [V.nl 8], [], [], none⟩, ⟨some 26, .alloc [I 0, I 0, I 0, I 0, I 0, V.nl 1, V.nl 1, I 0], [], [], none⟩, ⟨none, .store 1, [.t 25, .t 127], [7, 4, 2, 0, 1, 2, 3, 4, 7, 8], none⟩, ⟨none, .store 8, [.t 26, .t 128], [8, 5, 9, 0, 1, 2, 3, 4, 5, 7, 8, 9], none⟩, ⟨some 27, .mov, [.t 129], [6, 10, 0, 1, 2, 3, 4, 5, 6, 7, 8, 9, 10], none⟩] false).seq
  ((AC.region [⟨some 131, .load 1 true, [.t 18], [], none⟩, ⟨some 132, .mov, [.t 24], [], none⟩, ⟨some 133, .call 16, [.t 131, .t 132], [0, 1], none⟩, ⟨some 130, .mov, [.t 133], [2], none⟩, ⟨some 134, .ext 0, [.t 130], [3], none⟩, ⟨some 135, .ext 1, [.t 130], [3], none⟩, ⟨some 136, .ext 2, [.t 130], [3], none⟩, ⟨some 28, .alloc [V.nl 8], [], [], none⟩, ⟨some 29, .alloc [I 0, I 0, I 0, I 0, I 0, V.nl 1, V.nl 1, I 0], [], [], none⟩, ⟨none, .store 1, [.t 28, .t 134], [7, 4, 2, 0, 1, 2, 3, 4, 7, 8], none⟩, ⟨none, .store 8, [.t 29, .t 135], [8, 5, 9, 0, 1, 2, 3, 4, 5, 7, 8, 9], none⟩, ⟨some 30, .mov, [.t 136], [6, 10, 0, 1, 2, 3, 4, 5, 6, 7, 8, 9, 10], none⟩] false).seq
  ((AC.region [⟨some 138, .load 1 true, [.t 18], [], none⟩, ⟨some 139, .mov, [.t 24], [], none⟩, ⟨some 140, .call 17, [.t 138, .t 139], [0, 1], none⟩, ⟨some 137, .mov, [.t 140], [2], none⟩, ⟨some 141, .ext 0, [.t 137], [3], none⟩, ⟨some 142, .ext 1, [.t 137], [3], none⟩, ⟨some 31, .alloc [I 0, I 0, I 0, I 0, I 0, V.nl 1, V.nl 1, I 0], [], [], none⟩, ⟨none, .store 8, [.t 31, .t 141], [6, 4, 2, 0, 1, 2, 3, 4, 6], none⟩, ⟨some 32, .mov, [.t 142], [5, 7, 0, 1, 2, 3, 4, 5, 6, 7], none⟩] false).seq
  ((AC.region [⟨some 144, .load 1 true, [.t 18], [], none⟩, ⟨some 145, .mov, [.t 24], [], none⟩, ⟨some 146, .call 18, [.t 144, .t 145], [0, 1], none⟩, ⟨some 143, .mov, [.t 146], [2], none⟩, ⟨some 147, .ext 0, [.t 143], [3], none⟩, ⟨some 148, .ext 1, [.t 143], [3], none⟩, ⟨some 33, .alloc [I 0, I 0, I 0, I 0, I 0, V.nl 1, V.nl 1, I 0], [], [], none⟩, ⟨none, .store 8, [.t 33, .t 147], [6, 4, 2, 0, 1, 2, 3, 4, 6], none⟩, ⟨some 34, .mov, [.t 148], [5, 7, 0, 1, 2, 3, 4, 5, 6, 7], none⟩] false).seq
  ((AC.region [⟨some 149, .mov, [.t 27], [], none⟩, ⟨some 150, .mov, [.t 30], [], none⟩, ⟨some 151, .bin .neq, [.t 149, .t 150], [0, 1], none⟩, ⟨some 152, .mov, [.t 151], [2], none⟩, ⟨some 153, .mov, [.t 32], [3], some (3, 152, false)⟩, ⟨some 154, .mov, [.t 34], [3], some (3, 152, false)⟩, ⟨some 155, .bin .neq, [.t 153, .t 154], [4, 5, 3], some (3, 152, false)⟩, ⟨some 156, .pick, [.t 152, cb true, .t 155], [3, 6], none⟩, ⟨some 157, .mov, [.t 156], [7, 3], none⟩, ⟨some 158, .load 1 true, [.t 25], [8], some (8, 157, false)⟩, ⟨some 159, .load 1 true, [.t 28], [8], some (8, 157, false)⟩, ⟨some 160, .call 14, [.t 158, .t 159], [9, 10, 8, 8], some (8, 157, false)⟩, ⟨some 161, .un .not, [.t 160], [11, 8], some (8, 157, false)⟩, ⟨some 162, .pick, [.t 157, cb true, .t 161], [8, 12], none⟩, ⟨some 163, .mov, [.t 162], [13, 11], none⟩, ⟨some 164, .load 8 true, [.t 26], [14], some (14, 163, false)⟩, ⟨some 165, .load 8 true, [.t 29], [14], some (14, 163, false)⟩, ⟨some 166, .call 19, [.t 164, .t 165], [15, 16, 14, 14], some (14, 163, false)⟩, ⟨some 167, .un .not, [.t 166], [17, 14], some (14, 163, false)⟩, ⟨some 168, .pick, [.t 163, cb true, .t 167], [14, 18], none⟩, ⟨some 169, .mov, [.t 168], [19, 17], none⟩, ⟨some 170, .load 8 true, [.t 31], [20], some (20, 169, false)⟩, ⟨some 171, .load 8 true, [.t 33], [20], some (20, 169, false)⟩, ⟨some 172, .call 19, [.t 170, .t 171], [21, 22, 20, 20], some (20, 169, false)⟩, ⟨some 173, .un .not, [.t 172], [23, 20], some (20, 169, false)⟩, ⟨some 174, .pick, [.t 169, cb true, .t 173], [20, 24], none⟩] false).seq
  (AC.cond (.t 174) ((AC.region [⟨some 14, .mov, [cb false], [], none⟩] false).seq AC.ret) AC.skip)))))))).seq
  (AC.region [⟨some 175, .bin .add, [.t 119, ci 1], [], none⟩, ⟨some 119, .mov, [.t 175], [0], none⟩] false)))).loop)).seq
  (((AC.region [⟨some 176, .mov, [.t 3], [], none⟩, ⟨some 177, .mov, [.t 17], [], none⟩, ⟨some 178, .call 8, [.t 177, ci 3], [1], none⟩, ⟨some 179, .bsl 1 [I 0] 2 [0, 1], [.t 176, .t 178], [0, 2], none⟩, ⟨some 180, .len, [.t 179], [3], none⟩, ⟨some 181, .mov, [ci 0], [], none⟩] false).seq
  (AC.block 4 ((AC.region [⟨some 182, .bin .lss, [.t 181, .t 180], [], none⟩] false).seq
  ((AC.cond (.t 182) AC.skip (AC.exit 4)).seq
  ((AC.block 5 ((AC.region [⟨some 183, .iad 1, [.t 179, .t 181], [], none⟩, ⟨some 184, .load 1 false, [.t 183], [0], none⟩, ⟨some 36, .mov, [.t 184], [1, 0, 1], none⟩] false).seq
  ((AC.region [⟨some 185, .load 1 true, [.t 18], [], none⟩, ⟨some 186, .mov, [.t 36], [], none⟩, ⟨some 187, .call 9, [.t 185, .t 186], [0, 1], none⟩, ⟨some 188, .load 1 true, [.t 18], [], none⟩, ⟨some 189, .mov, [.t 36], [], none⟩, ⟨some 190, .call 20, [.t 188, .t 189], [3, 4, 2], none⟩, ⟨some 191, .call 14, [.t 187, .t 190], [2, 5, 5], none⟩, ⟨some 192, .un .not, [.t 191], [6], none⟩] true).seq
  (AC.cond (.t 192) ((AC.region [⟨some 14, .mov, [cb false], [], none⟩] false).seq AC.ret) AC.skip)))).seq
  (AC.region [⟨some 193, .bin .add, [.t 181, ci 1], [], none⟩, ⟨some 181, .mov, [.t 193], [0], none⟩] false)))).loop)).seq
  (((AC.region [⟨some 194, .mov, [.t 4], [], none⟩, ⟨some 195, .mov, [.t 17], [], none⟩, ⟨some 196, .call 8, [.t 195, ci 3], [1], none⟩, ⟨some 197, .bin .add, [ci 1, .t 196], [2], none⟩, ⟨some 198, .bsl 1 [I 0] 2 [0, 1], [.t 194, .t 197], [0, 3], none⟩, ⟨some 199, .len, [.t 198], [4], none⟩, ⟨some 200, .mov, [ci 0], [], none⟩] false).seq
  (AC.block 6 ((AC.region [⟨some 201, .bin .lss, [.t 200, .t 199], [], none⟩] false).seq
  ((AC.cond (.t 201) AC.skip (AC.exit 6)).seq
  ((AC.block 7 ((AC.region [⟨some 202, .iad 1, [.t 198, .t 200], [], none⟩, ⟨some 203, .load 1 false, [.t 202], [0], none⟩, ⟨some 38, .mov, [.t 203], [1, 0, 1], none⟩] false).seq
  ((AC.region [⟨some 204, .load 1 true, [.t 18], [], none⟩, ⟨some 205, .mov, [.t 38], [], none⟩, ⟨some 206, .call 11, [.t 204, .t 205], [0, 1], none⟩, ⟨some 207, .load 1 true, [.t 18], [], none⟩, ⟨some 208, .mov, [.t 38], [], none⟩, ⟨some 209, .call 22, [.t 207, .t 208], [3, 4, 2], none⟩, ⟨some 210, .call 21, [.t 206, .t 209], [2, 5, 5], none⟩, ⟨some 211, .un .not, [.t 210], [6], none⟩] true).seq
  (AC.cond (.t 211) ((AC.region [⟨some 14, .mov, [cb false], [], none⟩] false).seq AC.ret) AC.skip)))).seq
  (AC.region [⟨some 212, .bin .add, [.t 200, ci 1], [], none⟩, ⟨some 200, .mov, [.t 212], [0], none⟩] false)))).loop)).seq
  ((AC.region [⟨some 213, .load 8 true, [.t 12], [], none⟩, ⟨some 214, .load 8 true, [.t 13], [], none⟩, ⟨some 215, .call 10, [.t 213, .t 214], [0, 1], none⟩, ⟨some 216, .load 8 true, [.t 12], [], none⟩, ⟨some 217, .load 8 true, [.t 13], [], none⟩, ⟨some 218, .call 19, [.t 216, .t 217], [3, 4, 2], none⟩, ⟨some 219, .beq false, [.t 215, .t 218], [2, 5], none⟩, ⟨some 220, .mov, [.t 219], [6, 5], none⟩, ⟨some 221, .load 8 true, [.t 12], [7], some (7, 220, true)⟩, ⟨some 222, .load 8 true, [.t 12], [7], some (7, 220, true)⟩, ⟨some 223, .call 10, [.t 221, .t 222], [8, 9, 7, 7], some (7, 220, true)⟩, ⟨some 224, .pick, [.t 220, .t 223, cb false], [7, 10], none⟩, ⟨some 225, .mov, [.t 224], [11, 10], none⟩, ⟨some 226, .load 1 true, [.t 18], [12], some (12, 225, true)⟩, ⟨some 227, .load 1 true, [.t 21], [12], some (12, 225, true)⟩, ⟨some 228, .call 23, [.t 226, .t 227], [13, 14, 12, 12], some (12, 225, true)⟩, ⟨some 229, .load 1 true, [.t 18], [12], some (12, 225, true)⟩, ⟨some 230, .load 1 true, [.t 21], [12], some (12, 225, true)⟩, ⟨some 231, .call 14, [.t 229, .t 230], [16, 17, 15, 12], some (12, 225, true)⟩, ⟨some 232, .beq false, [.t 228, .t 231], [15, 18, 12], some (12, 225, true)⟩, ⟨some 233, .pick, [.t 225, .t 232, cb false], [12, 19], none⟩, ⟨some 14, .mov, [.t 233], [20, 18, 0, 1, 2, 3, 4, 5, 6, 7, 8, 9, 10, 11, 12, 13, 14, 15, 16, 17, 18, 19, 20], none⟩] true).seq AC.ret))))))))))))
def rs_law31_ChannelSteps : List RV := [.t 14]
theorem c_law31_ChannelSteps : compile Try.prog (Go.Func.ntmps Try.f4) (Try.f4.body.getD .skip) = some ac_law31_ChannelSteps := by kernel_rfl
theorem go_law31_ChannelSteps {xs : List V} {bx bx' : U} {r : V} {ns : List O} (hxs : decide (xs.length ≤ Go.Func.ntmps Try.f4) = true) (hbx : BxOK bx bx') (h : ∀ cx : Cx, cx.m0 = ups M0 bx → Awp Try.prog cx ac_law31_ChannelSteps (RetE rs_law31_ChannelSteps r bx' ns) ⟨tl (idx 0 xs), ups M0 bx⟩) : Does Try.prog 4 xs bx r bx' ns :=
  does_of Try.func4 (by kernel_rfl : Try.f4.body = some (Try.f4.body.getD .skip)) rfl c_law31_ChannelSteps (by kernel_rfl) (of_decide_eq_true hxs) hbx fun cx _ hm => h cx hm
end Go.Proofs.Ytejandeehmnibaa.Sim
