/- Functions of the program, as the walk has them. -/
import Derived.Test.YthbhkkdaaipngaaGreatDoorMSimZ
import Derived.Test.YthbhkkdaaipngaaGreatDoorProg
import Derived.ProofKit
namespace Go.Proofs.YthbhkkdaaipngaaGreatDoor.Sim
open Go
set_option maxRecDepth 100000
/-- From its walk to what a function does. -/
abbrev GoT (n : Nat) (f : FuncId) (ac : AC) (rs : List RV) : Prop := ∀ {xs : List V} {bx bx' : U} {r : V} {ns : List O}, decide (xs.length ≤ n) = true → BxOK bx bx' → (∀ cx : Cx, cx.m0 = ups M0 bx → Awp Tryz.prog cx ac (RetE rs r bx' ns) ⟨tl (idx 0 xs), ups M0 bx⟩) → Does Tryz.prog f xs bx r bx' ns
theorem goT {f : FuncId} {fn : Func} {slots : List Nat} {ac : AC} {rs : List RV} (hf : Tryz.prog.funcs[f]? = some fn) (hb : fn.body = some (fn.body.getD .skip)) (hc : compile Tryz.prog ⟨fn.ntmps, slots⟩ (fn.body.getD .skip) = some ac) (hr : rvsOf Tryz.prog fn.results.toList = some rs) : GoT fn.ntmps f ac rs :=
  fun hxs hbx h => does_of hf hb rfl hc hr (of_decide_eq_true hxs) hbx fun cx _ hm => h cx hm
def ac_top_TopCoalitions : AC :=
  (AC.region [⟨some 6, .mov, [cb false], [], none⟩] false).seq
  (((AC.region [⟨some 35, .call 5, [], [], none⟩, ⟨some 36, .un .not, [.t 35], [0], none⟩] false).seq
  (AC.cond (.t 36) ((AC.region [⟨some 6, .mov, [cb false], [], none⟩] false).seq AC.ret) AC.skip)).seq
  (((AC.region [⟨some 37, .mov, [.t 0], [], none⟩, ⟨some 38, .call 6, [.t 37], [0], none⟩, ⟨some 39, .un .not, [.t 38], [1], none⟩] false).seq
  (AC.cond (.t 39) ((AC.region [⟨some 6, .mov, [cb true], [], none⟩] false).seq AC.ret) AC.skip)).seq
  ((AC.region [⟨some 40, .mov, [.t 0], [], none⟩, ⟨some 41, .call 7, [.t 40], [0], none⟩, ⟨some 7, .mov, [.t 41], [1, 1, 0, 1], none⟩] false).seq
  ((AC.region [⟨some 42, .build [I 0] [(0, 1)], [ci 5], [], none⟩, ⟨some 8, .alloc [I 0], [], [], none⟩, ⟨none, .store 1, [.t 8, .t 42], [1, 0, 0, 1], none⟩] false).seq
  ((AC.region [⟨some 43, .build [I 0, I 0] [(0, 1), (1, 1)], [ci 4, ci 2], [], none⟩, ⟨some 9, .alloc [I 0, I 0], [], [], none⟩, ⟨none, .store 2, [.t 9, .t 43], [1, 0, 0, 1], none⟩] false).seq
  ((AC.region [⟨some 44, .mov, [.t 7], [], none⟩, ⟨some 45, .call 8, [.t 44, ci 2], [0], none⟩, ⟨some 46, .bin .add, [ci 1, .t 45], [1], none⟩, ⟨some 10, .mov, [.t 46], [2, 1, 0, 1, 2], none⟩] false).seq
  ((AC.region [⟨some 48, .load 1 true, [.t 8], [], none⟩, ⟨some 49, .load 2 true, [.t 9], [], none⟩, ⟨some 50, .mov, [.t 10], [], none⟩, ⟨some 51, .call 9, [.t 48, .t 49, .t 50], [0, 1, 2], none⟩, ⟨some 47, .mov, [.t 51], [3], none⟩, ⟨some 52, .ext 0, [.t 47], [4], none⟩, ⟨some 53, .ext 1, [.t 47], [4], none⟩, ⟨some 11, .mov, [.t 52], [5, 3, 0, 1, 2, 3, 4, 5], none⟩, ⟨some 12, .mov, [.t 53], [6, 7, 0, 1, 2, 3, 4, 5, 6, 7], none⟩] false).seq
  ((AC.region [⟨some 55, .mov, [.t 11], [], none⟩, ⟨some 56, .call 10, [.t 55], [0], none⟩, ⟨some 54, .mov, [.t 56], [1], none⟩, ⟨some 57, .ext 0, [.t 54], [2], none⟩, ⟨some 58, .ext 1, [.t 54], [2], none⟩, ⟨some 13, .mov, [.t 57], [3, 1, 0, 1, 2, 3], none⟩, ⟨some 14, .mov, [.t 58], [4, 5, 0, 1, 2, 3, 4, 5], none⟩] false).seq
  (((AC.region [⟨some 59, .mov, [.t 12], [], none⟩, ⟨some 60, .bin .neq, [.t 59, ci 0], [0], none⟩, ⟨some 61, .mov, [.t 60], [1], none⟩, ⟨some 62, .mov, [.t 14], [2], some (2, 61, false)⟩, ⟨some 63, .bin .neq, [.t 62, ci 0], [3, 2], some (2, 61, false)⟩, ⟨some 64, .pick, [.t 61, cb true, .t 63], [2, 4], none⟩, ⟨some 65, .mov, [.t 64], [5, 2], none⟩, ⟨some 66, .mov, [.t 13], [6], some (6, 65, false)⟩, ⟨some 67, .bin .gtr, [.t 66, ci 700], [7, 6], some (6, 65, false)⟩, ⟨some 68, .pick, [.t 65, cb true, .t 67], [6, 8], none⟩] false).seq
  (AC.cond (.t 68) ((AC.region [⟨some 6, .mov, [cb false], [], none⟩] false).seq AC.ret) AC.skip)).seq
  ((AC.region [⟨some 69, .mov, [.t 7], [], none⟩, ⟨some 70, .call 15, [.t 69, ci 4], [0], none⟩, ⟨some 71, .slc false true false 1, [.t 70, ci 2], [1], none⟩, ⟨some 15, .mov, [.t 71], [2, 1, 0, 1, 2], none⟩] false).seq
  ((AC.region [⟨some 72, .mov, [.t 13], [], none⟩, ⟨some 73, .mks 1 [I 0] 8, [.t 72, .t 72], [0, 0], none⟩, ⟨some 74, .mov, [.t 13], [], none⟩, ⟨some 75, .mks 1 [I 0] 8, [.t 74, .t 74], [2, 2], none⟩, ⟨some 16, .mov, [.t 73], [1, 0, 1], none⟩, ⟨some 17, .mov, [.t 75], [3, 4, 0, 1, 2, 3, 4], none⟩] true).seq
  (((AC.region [⟨some 18, .mov, [ci 0], [], none⟩] false).seq
  (AC.block 0 (((AC.region [⟨some 76, .mov, [.t 18], [], none⟩, ⟨some 77, .mov, [.t 13], [], none⟩, ⟨some 78, .bin .lss, [.t 76, .t 77], [0, 1], none⟩] false).seq
  (AC.cond (.t 78) AC.skip (AC.exit 0))).seq
  ((AC.block 1 ((AC.region [⟨some 82, .mov, [.t 11], [], none⟩, ⟨some 83, .mov, [.t 18], [], none⟩, ⟨some 84, .call 11, [.t 82, .t 83], [0, 1], none⟩, ⟨some 81, .mov, [.t 84], [2], none⟩, ⟨some 85, .ext 0, [.t 81], [3], none⟩, ⟨some 86, .ext 1, [.t 81], [3], none⟩, ⟨some 19, .alloc [V.nl 1, I 0], [], [], none⟩, ⟨none, .store 2, [.t 19, .t 85], [6, 4, 2, 0, 1, 2, 3, 4, 6], none⟩, ⟨some 20, .mov, [.t 86], [5, 7, 0, 1, 2, 3, 4, 5, 6, 7], none⟩] false).seq
  ((AC.region [⟨some 88, .load 1 true, [.t 8], [], none⟩, ⟨some 89, .load 2 true, [.t 9], [], none⟩, ⟨some 90, .mov, [.t 10], [], none⟩, ⟨some 91, .mov, [.t 1], [], none⟩, ⟨some 92, .conv .i64, [.t 91], [3], none⟩, ⟨some 93, .mov, [.t 10], [], none⟩, ⟨some 94, .bin .rem, [.t 92, .t 93], [4, 5], none⟩, ⟨some 95, .load 2 true, [.t 19], [], none⟩, ⟨some 96, .call 12, [.t 88, .t 89, .t 90, .t 94, .t 95], [0, 1, 2, 6, 7], none⟩, ⟨some 87, .mov, [.t 96], [8], none⟩, ⟨some 97, .ext 0, [.t 87], [9], none⟩, ⟨some 98, .ext 1, [.t 87], [9], none⟩, ⟨some 99, .ext 2, [.t 87], [9], none⟩, ⟨some 22, .alloc [V.nl 1, I 0], [], [], none⟩, ⟨some 21, .mov, [.t 97], [10, 8, 0, 1, 2, 3, 4, 5, 6, 7, 8, 9, 10, 13], none⟩, ⟨none, .store 2, [.t 22, .t 98], [13, 11, 14, 0, 1, 2, 3, 4, 5, 6, 7, 8, 9, 10, 11, 13, 14], none⟩, ⟨some 23, .mov, [.t 99], [12, 15, 0, 1, 2, 3, 4, 5, 6, 7, 8, 9, 10, 11, 12, 13, 14, 15], none⟩] true).seq
  ((AC.region [⟨some 101, .load 1 true, [.t 8], [], none⟩, ⟨some 102, .load 2 true, [.t 9], [], none⟩, ⟨some 103, .mov, [.t 10], [], none⟩, ⟨some 104, .mov, [.t 2], [], none⟩, ⟨some 105, .conv .i64, [.t 104], [3], none⟩, ⟨some 106, .mov, [.t 10], [], none⟩, ⟨some 107, .bin .rem, [.t 105, .t 106], [4, 5], none⟩, ⟨some 108, .load 2 true, [.t 19], [], none⟩, ⟨some 109, .call 12, [.t 101, .t 102, .t 103, .t 107, .t 108], [0, 1, 2, 6, 7], none⟩, ⟨some 100, .mov, [.t 109], [8], none⟩, ⟨some 110, .ext 0, [.t 100], [9], none⟩, ⟨some 111, .ext 1, [.t 100], [9], none⟩, ⟨some 112, .ext 2, [.t 100], [9], none⟩, ⟨some 25, .alloc [V.nl 1, I 0], [], [], none⟩, ⟨some 24, .mov, [.t 110], [10, 8, 0, 1, 2, 3, 4, 5, 6, 7, 8, 9, 10, 13], none⟩, ⟨none, .store 2, [.t 25, .t 111], [13, 11, 14, 0, 1, 2, 3, 4, 5, 6, 7, 8, 9, 10, 11, 13, 14], none⟩, ⟨some 26, .mov, [.t 112], [12, 15, 0, 1, 2, 3, 4, 5, 6, 7, 8, 9, 10, 11, 12, 13, 14, 15], none⟩] true).seq
  (((AC.region [⟨some 113, .mov, [.t 20], [], none⟩, ⟨some 114, .bin .neq, [.t 113, ci 0], [0], none⟩, ⟨some 115, .mov, [.t 114], [1], none⟩, ⟨some 116, .mov, [.t 23], [2], some (2, 115, false)⟩, ⟨some 117, .bin .neq, [.t 116, ci 0], [3, 2], some (2, 115, false)⟩, ⟨some 118, .pick, [.t 115, cb true, .t 117], [2, 4], none⟩, ⟨some 119, .mov, [.t 118], [5, 2], none⟩, ⟨some 120, .mov, [.t 26], [6], some (6, 119, false)⟩, ⟨some 121, .bin .neq, [.t 120, ci 0], [7, 6], some (6, 119, false)⟩, ⟨some 122, .pick, [.t 119, cb true, .t 121], [6, 8], none⟩, ⟨some 123, .mov, [.t 122], [9, 6], none⟩, ⟨some 124, .mov, [.t 21], [10], some (10, 123, false)⟩, ⟨some 125, .len, [.t 124], [11, 10], some (10, 123, false)⟩, ⟨some 126, .bin .neq, [.t 125, ci 4], [12, 10], some (10, 123, false)⟩, ⟨some 127, .pick, [.t 123, cb true, .t 126], [10, 13], none⟩, ⟨some 128, .mov, [.t 127], [14, 10], none⟩, ⟨some 129, .mov, [.t 24], [15], some (15, 128, false)⟩, ⟨some 130, .len, [.t 129], [16, 15], some (15, 128, false)⟩, ⟨some 131, .bin .neq, [.t 130, ci 4], [17, 15], some (15, 128, false)⟩, ⟨some 132, .pick, [.t 128, cb true, .t 131], [15, 18], none⟩] false).seq
  (AC.cond (.t 132) ((AC.region [⟨some 6, .mov, [cb false], [], none⟩] false).seq AC.ret) AC.skip)).seq
  ((AC.region [⟨some 27, .mov, [ci 0], [], none⟩, ⟨some 28, .mov, [ci 0], [0, 0], none⟩] false).seq
  (((AC.region [⟨some 133, .mov, [.t 15], [], none⟩, ⟨some 134, .len, [.t 133], [0], none⟩, ⟨some 135, .mov, [ci 0], [], none⟩] false).seq
  (AC.block 2 ((AC.region [⟨some 136, .bin .lss, [.t 135, .t 134], [], none⟩] false).seq
  ((AC.cond (.t 136) AC.skip (AC.exit 2)).seq
  ((AC.block 3 ((AC.region [⟨some 137, .iad 1, [.t 133, .t 135], [], none⟩, ⟨some 138, .load 1 false, [.t 137], [0], none⟩, ⟨some 30, .mov, [.t 138], [1, 0, 1], none⟩] false).seq
  (((AC.region [⟨some 139, .mov, [.t 21], [], none⟩, ⟨some 140, .mov, [.t 30], [], none⟩, ⟨some 141, .iad 1, [.t 139, .t 140], [0, 1], none⟩, ⟨some 142, .load 1 false, [.t 141], [2], none⟩, ⟨some 143, .len, [.t 142], [3], none⟩, ⟨some 144, .mov, [.t 10], [], none⟩, ⟨some 145, .bin .neq, [.t 143, .t 144], [4, 5], none⟩, ⟨some 146, .mov, [.t 145], [6], none⟩, ⟨some 147, .mov, [.t 24], [7], some (7, 146, false)⟩, ⟨some 148, .mov, [.t 30], [7], some (7, 146, false)⟩, ⟨some 149, .iad 1, [.t 147, .t 148], [8, 9, 7], some (7, 146, false)⟩, ⟨some 150, .load 1 false, [.t 149], [10, 7], some (7, 146, false)⟩, ⟨some 151, .len, [.t 150], [11, 7], some (7, 146, false)⟩, ⟨some 152, .mov, [.t 10], [7], some (7, 146, false)⟩, ⟨some 153, .bin .neq, [.t 151, .t 152], [12, 13, 7], some (7, 146, false)⟩, ⟨some 154, .pick, [.t 146, cb true, .t 153], [7, 14], none⟩] false).seq
  (AC.cond (.t 154) ((AC.region [⟨some 6, .mov, [cb false], [], none⟩] false).seq AC.ret) AC.skip)).seq
  ((AC.region [⟨some 155, .mov, [.t 21], [], none⟩, ⟨some 156, .mov, [.t 30], [], none⟩, ⟨some 157, .iad 1, [.t 155, .t 156], [0, 1], none⟩, ⟨some 158, .load 1 false, [.t 157], [2], none⟩, ⟨some 159, .len, [.t 158], [3], none⟩, ⟨some 160, .mov, [ci 0], [], none⟩] false).seq
  (AC.block 4 ((AC.region [⟨some 161, .bin .lss, [.t 160, .t 159], [], none⟩] false).seq
  ((AC.cond (.t 161) AC.skip (AC.exit 4)).seq
  ((AC.block 5 ((AC.region [⟨some 162, .mov, [.t 160], [], none⟩, ⟨some 31, .mov, [.t 162], [0, 0], none⟩] false).seq
  (AC.region [⟨some 163, .mov, [.t 27], [], none⟩, ⟨some 164, .bin .mul, [.t 163, ci 5], [0], none⟩, ⟨some 165, .mov, [.t 21], [], none⟩, ⟨some 166, .mov, [.t 30], [], none⟩, ⟨some 167, .iad 1, [.t 165, .t 166], [2, 3], none⟩, ⟨some 168, .load 1 false, [.t 167], [4], none⟩, ⟨some 169, .mov, [.t 31], [], none⟩, ⟨some 170, .iad 1, [.t 168, .t 169], [5, 6], none⟩, ⟨some 171, .load 1 false, [.t 170], [7], none⟩, ⟨some 172, .bin .add, [.t 164, .t 171], [1, 8], none⟩, ⟨some 173, .mov, [.t 28], [], none⟩, ⟨some 174, .bin .mul, [.t 173, ci 5], [10], none⟩, ⟨some 175, .mov, [.t 24], [], none⟩, ⟨some 176, .mov, [.t 30], [], none⟩, ⟨some 177, .iad 1, [.t 175, .t 176], [12, 13], none⟩, ⟨some 178, .load 1 false, [.t 177], [14], none⟩, ⟨some 179, .mov, [.t 31], [], none⟩, ⟨some 180, .iad 1, [.t 178, .t 179], [15, 16], none⟩, ⟨some 181, .load 1 false, [.t 180], [17], none⟩, ⟨some 182, .bin .add, [.t 174, .t 181], [11, 18], none⟩, ⟨some 27, .mov, [.t 172], [9, 0, 1, 2, 3, 4, 5, 6, 7, 8, 9], none⟩, ⟨some 28, .mov, [.t 182], [19, 20, 0, 1, 2, 3, 4, 5, 6, 7, 8, 9, 10, 11, 12, 13, 14, 15, 16, 17, 18, 19, 20], none⟩] true))).seq
  (AC.region [⟨some 183, .bin .add, [.t 160, ci 1], [], none⟩, ⟨some 160, .mov, [.t 183], [0], none⟩] false)))).loop))))).seq
  (AC.region [⟨some 184, .bin .add, [.t 135, ci 1], [], none⟩, ⟨some 135, .mov, [.t 184], [0], none⟩] false)))).loop)).seq
  (((AC.region [⟨some 185, .mov, [.t 27], [], none⟩, ⟨some 186, .bin .lss, [.t 185, ci 0], [0], none⟩, ⟨some 187, .mov, [.t 186], [1], none⟩, ⟨some 188, .mov, [.t 27], [2], some (2, 187, false)⟩, ⟨some 189, .mov, [.t 13], [2], some (2, 187, false)⟩, ⟨some 190, .bin .geq, [.t 188, .t 189], [3, 4, 2], some (2, 187, false)⟩, ⟨some 191, .pick, [.t 187, cb true, .t 190], [2, 5], none⟩, ⟨some 192, .mov, [.t 191], [6, 2], none⟩, ⟨some 193, .mov, [.t 28], [7], some (7, 192, false)⟩, ⟨some 194, .bin .lss, [.t 193, ci 0], [8, 7], some (7, 192, false)⟩, ⟨some 195, .pick, [.t 192, cb true, .t 194], [7, 9], none⟩, ⟨some 196, .mov, [.t 195], [10, 7], none⟩, ⟨some 197, .mov, [.t 28], [11], some (11, 196, false)⟩, ⟨some 198, .mov, [.t 13], [11], some (11, 196, false)⟩, ⟨some 199, .bin .geq, [.t 197, .t 198], [12, 13, 11], some (11, 196, false)⟩, ⟨some 200, .pick, [.t 196, cb true, .t 199], [11, 14], none⟩] false).seq
  (AC.cond (.t 200) ((AC.region [⟨some 6, .mov, [cb false], [], none⟩] false).seq AC.ret) AC.skip)).seq
  ((AC.region [⟨some 201, .mov, [.t 16], [], none⟩, ⟨some 202, .mov, [.t 27], [], none⟩, ⟨some 203, .iad 1, [.t 201, .t 202], [0, 1], none⟩, ⟨some 204, .load 1 false, [.t 203], [2], none⟩, ⟨some 205, .bin .add, [.t 204, ci 1], [3], none⟩, ⟨some 206, .iad 1, [.t 201, .t 202], [0, 1, 0, 1, 2, 3, 4], none⟩, ⟨none, .store 1, [.t 206, .t 205], [5, 4, 0, 1, 2, 3, 4], none⟩] false).seq
  ((AC.region [⟨some 207, .mov, [.t 17], [], none⟩, ⟨some 208, .mov, [.t 28], [], none⟩, ⟨some 209, .iad 1, [.t 207, .t 208], [0, 1], none⟩, ⟨some 210, .load 1 false, [.t 209], [2], none⟩, ⟨some 211, .bin .add, [.t 210, ci 1], [3], none⟩, ⟨some 212, .iad 1, [.t 207, .t 208], [0, 1, 0, 1, 2, 3, 4], none⟩, ⟨none, .store 1, [.t 212, .t 211], [5, 4, 0, 1, 2, 3, 4], none⟩] false).seq
  ((AC.region [⟨some 213, .mov, [.t 18], [], none⟩, ⟨some 214, .bin .rem, [.t 213, ci 50], [0], none⟩, ⟨some 215, .bin .eql, [.t 214, ci 0], [1], none⟩] false).seq
  (AC.cond (.t 215) ((AC.region [⟨some 217, .load 1 true, [.t 8], [], none⟩, ⟨some 218, .load 2 true, [.t 9], [], none⟩, ⟨some 219, .mov, [.t 21], [], none⟩, ⟨some 220, .call 16, [.t 217, .t 218, .t 219], [0, 1, 2], none⟩, ⟨some 216, .mov, [.t 220], [3], none⟩, ⟨some 221, .ext 0, [.t 216], [4], none⟩, ⟨some 222, .ext 1, [.t 216], [4], none⟩, ⟨some 223, .ext 2, [.t 216], [4], none⟩, ⟨some 32, .mov, [.t 221], [5, 3, 0, 1, 2, 3, 4, 5], none⟩, ⟨some 33, .mov, [.t 222], [6, 8, 0, 1, 2, 3, 4, 5, 6, 8], none⟩, ⟨some 34, .mov, [.t 223], [7, 9, 0, 1, 2, 3, 4, 5, 6, 7, 8, 9], none⟩] false).seq
  ((AC.region [⟨some 224, .mov, [.t 34], [], none⟩, ⟨some 225, .bin .neq, [.t 224, ci 0], [0], none⟩, ⟨some 226, .mov, [.t 225], [1], none⟩, ⟨some 227, .mov, [.t 33], [2], some (2, 226, false)⟩, ⟨some 228, .un .not, [.t 227], [3, 2], some (2, 226, false)⟩, ⟨some 229, .pick, [.t 226, cb true, .t 228], [2, 4], none⟩, ⟨some 230, .mov, [.t 229], [5, 2], none⟩, ⟨some 231, .mov, [.t 32], [6], some (6, 230, false)⟩, ⟨some 232, .mov, [.t 1], [6], some (6, 230, false)⟩, ⟨some 233, .conv .i64, [.t 232], [8, 6], some (6, 230, false)⟩, ⟨some 234, .mov, [.t 10], [6], some (6, 230, false)⟩, ⟨some 235, .bin .rem, [.t 233, .t 234], [9, 10, 6], some (6, 230, false)⟩, ⟨some 236, .bin .neq, [.t 231, .t 235], [7, 11, 6], some (6, 230, false)⟩, ⟨some 237, .pick, [.t 230, cb true, .t 236], [6, 12], none⟩] false).seq
  (AC.cond (.t 237) ((AC.region [⟨some 6, .mov, [cb false], [], none⟩] false).seq AC.ret) AC.skip))) AC.skip)))))))))))).seq
  (AC.region [⟨some 79, .mov, [.t 18], [], none⟩, ⟨some 80, .bin .add, [.t 79, ci 1], [0], none⟩, ⟨some 18, .mov, [.t 80], [1, 0, 1], none⟩] false))).loop)).seq
  ((AC.region [⟨some 238, .mov, [.t 16], [], none⟩, ⟨some 239, .mov, [.t 17], [], none⟩, ⟨some 240, .call 14, [.t 238, .t 239], [0, 1], none⟩, ⟨some 241, .mov, [.t 240], [2, 2], none⟩, ⟨some 242, .mov, [.t 16], [3], some (3, 241, true)⟩, ⟨some 243, .iad 1, [.t 242, ci 0], [4, 3], some (3, 241, true)⟩, ⟨some 244, .load 1 false, [.t 243], [5, 3], some (3, 241, true)⟩, ⟨some 245, .bin .eql, [.t 244, ci 1], [6, 3], some (3, 241, true)⟩, ⟨some 246, .pick, [.t 241, .t 245, cb false], [3, 7], none⟩, ⟨some 6, .mov, [.t 246], [8, 3, 0, 1, 2, 3, 4, 5, 6, 7, 8], none⟩] false).seq AC.ret)))))))))))))
def rs_top_TopCoalitions : List RV := [.t 6]
theorem c_top_TopCoalitions : compile Tryz.prog ⟨Go.Func.ntmps Tryz.f4, []⟩ (Tryz.f4.body.getD .skip) = some ac_top_TopCoalitions := by kernel_rfl
theorem go_top_TopCoalitions : GoT Tryz.f4.ntmps 4 ac_top_TopCoalitions rs_top_TopCoalitions := goT Tryz.func4 (by kernel_rfl) c_top_TopCoalitions (by kernel_rfl)
def ac_top_awake : AC :=
  (AC.region [⟨some 0, .mov, [cb false], [], none⟩] false).seq
  ((AC.region [⟨some 13, .build [I 0] [(0, 1)], [ci 5], [], none⟩, ⟨some 1, .alloc [I 0], [], [], none⟩, ⟨none, .store 1, [.t 1, .t 13], [1, 0, 0, 1], none⟩] false).seq
  ((AC.region [⟨some 14, .build [I 0, I 0] [(0, 1), (1, 1)], [ci 3, ci 1], [], none⟩, ⟨some 2, .alloc [I 0, I 0], [], [], none⟩, ⟨none, .store 2, [.t 2, .t 14], [1, 0, 0, 1], none⟩] false).seq
  ((AC.region [⟨some 15, .bsl 1 [I 0] 2 [0, 1], [ci 1, ci 2], [], none⟩, ⟨some 16, .bsl 1 [I 0] 2 [0, 1], [ci 3, ci 4], [], none⟩, ⟨some 17, .bsl 1 [V.nl 1] 2 [0, 1], [.t 15, .t 16], [0, 1], none⟩, ⟨some 3, .mov, [.t 17], [2, 0, 1, 2], none⟩] false).seq
  ((AC.region [⟨some 19, .load 1 true, [.t 1], [], none⟩, ⟨some 20, .load 2 true, [.t 2], [], none⟩, ⟨some 21, .bsl 1 [I 0] 2 [0, 1], [ci 4, ci 2], [], none⟩, ⟨some 22, .build [V.nl 1, I 0] [(0, 1)], [.t 21], [2], none⟩, ⟨some 23, .call 12, [.t 19, .t 20, ci 2, ci 1, .t 22], [0, 1, 3], none⟩, ⟨some 18, .mov, [.t 23], [4], none⟩, ⟨some 24, .ext 0, [.t 18], [5], none⟩, ⟨some 25, .ext 1, [.t 18], [5], none⟩, ⟨some 26, .ext 2, [.t 18], [5], none⟩, ⟨some 5, .alloc [V.nl 1, I 0], [], [], none⟩, ⟨some 4, .mov, [.t 24], [6, 4, 0, 1, 2, 3, 4, 5, 6, 9], none⟩, ⟨none, .store 2, [.t 5, .t 25], [9, 7, 10, 0, 1, 2, 3, 4, 5, 6, 7, 9, 10], none⟩, ⟨some 6, .mov, [.t 26], [8, 11, 0, 1, 2, 3, 4, 5, 6, 7, 8, 9, 10, 11], none⟩] false).seq
  (((AC.region [⟨some 27, .mov, [.t 6], [], none⟩, ⟨some 28, .bin .neq, [.t 27, ci 0], [0], none⟩, ⟨some 29, .mov, [.t 28], [1], none⟩, ⟨some 30, .mov, [.t 4], [2], some (2, 29, false)⟩, ⟨some 31, .len, [.t 30], [3, 2], some (2, 29, false)⟩, ⟨some 32, .bin .neq, [.t 31, ci 3], [4, 2], some (2, 29, false)⟩, ⟨some 33, .pick, [.t 29, cb true, .t 32], [2, 5], none⟩] false).seq
  (AC.cond (.t 33) ((AC.region [⟨some 0, .mov, [cb false], [], none⟩] false).seq AC.ret) AC.skip)).seq
  ((AC.region [⟨some 35, .load 1 true, [.t 1], [], none⟩, ⟨some 36, .mov, [.t 3], [], none⟩, ⟨some 37, .mov, [.t 4], [], none⟩, ⟨some 38, .iad 1, [.t 37, ci 0], [2], none⟩, ⟨some 39, .load 1 false, [.t 38], [3], none⟩, ⟨some 40, .call 17, [.t 35, ci 2, .t 36, .t 39], [0, 1, 4], none⟩, ⟨some 34, .mov, [.t 40], [5], none⟩, ⟨some 41, .ext 0, [.t 34], [6], none⟩, ⟨some 42, .ext 1, [.t 34], [6], none⟩, ⟨some 7, .mov, [.t 41], [7, 5, 0, 1, 2, 3, 4, 5, 6, 7], none⟩, ⟨some 8, .mov, [.t 42], [8, 9, 0, 1, 2, 3, 4, 5, 6, 7, 8, 9], none⟩] true).seq
  ((AC.region [⟨some 44, .load 1 true, [.t 1], [], none⟩, ⟨some 45, .mov, [.t 3], [], none⟩, ⟨some 46, .mov, [.t 4], [], none⟩, ⟨some 47, .iad 1, [.t 46, ci 2], [2], none⟩, ⟨some 48, .load 1 false, [.t 47], [3], none⟩, ⟨some 49, .call 17, [.t 44, ci 2, .t 45, .t 48], [0, 1, 4], none⟩, ⟨some 43, .mov, [.t 49], [5], none⟩, ⟨some 50, .ext 0, [.t 43], [6], none⟩, ⟨some 51, .ext 1, [.t 43], [6], none⟩, ⟨some 9, .mov, [.t 50], [7, 5, 0, 1, 2, 3, 4, 5, 6, 7], none⟩, ⟨some 10, .mov, [.t 51], [8, 9, 0, 1, 2, 3, 4, 5, 6, 7, 8, 9], none⟩] true).seq
  ((AC.region [⟨some 53, .load 1 true, [.t 1], [], none⟩, ⟨some 54, .load 2 true, [.t 2], [], none⟩, ⟨some 55, .mov, [.t 7], [], none⟩, ⟨some 56, .build [B false, V.nl 1] [(0, 1), (1, 1)], [cb true, .t 55], [2], none⟩, ⟨some 57, .build [B false, V.nl 1] [], [], [], none⟩, ⟨some 58, .mov, [.t 9], [], none⟩, ⟨some 59, .build [B false, V.nl 1] [(0, 1), (1, 1)], [cb true, .t 58], [5], none⟩, ⟨some 60, .bsl 2 [B false, V.nl 1] 3 [0, 1, 2], [.t 56, .t 57, .t 59], [3, 4, 6], none⟩, ⟨some 61, .call 18, [.t 53, .t 54, ci 2, .t 60], [0, 1, 7], none⟩, ⟨some 52, .mov, [.t 61], [8], none⟩, ⟨some 62, .ext 0, [.t 52], [9], none⟩, ⟨some 63, .ext 1, [.t 52], [9], none⟩, ⟨some 11, .alloc [V.nl 1, V.nl 1], [], [], none⟩, ⟨none, .store 2, [.t 11, .t 62], [12, 10, 8, 0, 1, 2, 3, 4, 5, 6, 7, 8, 9, 10, 12], none⟩, ⟨some 12, .mov, [.t 63], [11, 13, 0, 1, 2, 3, 4, 5, 6, 7, 8, 9, 10, 11, 12, 13], none⟩] false).seq
  ((AC.region [⟨some 64, .mov, [.t 8], [], none⟩, ⟨some 65, .bin .eql, [.t 64, ci 0], [0], none⟩, ⟨some 66, .mov, [.t 65], [1], none⟩, ⟨some 67, .mov, [.t 10], [2], some (2, 66, true)⟩, ⟨some 68, .bin .eql, [.t 67, ci 0], [3, 2], some (2, 66, true)⟩, ⟨some 69, .pick, [.t 66, .t 68, cb false], [2, 4], none⟩, ⟨some 70, .mov, [.t 69], [5, 2], none⟩, ⟨some 71, .mov, [.t 12], [6], some (6, 70, true)⟩, ⟨some 72, .bin .eql, [.t 71, ci 0], [7, 6], some (6, 70, true)⟩, ⟨some 73, .pick, [.t 70, .t 72, cb false], [6, 8], none⟩, ⟨some 74, .mov, [.t 73], [9, 6], none⟩, ⟨some 75, .fad 0, [.t 11], [10], some (10, 74, true)⟩, ⟨some 76, .load 1 false, [.t 75], [11, 10], some (10, 74, true)⟩, ⟨some 77, .bsl 1 [I 0] 2 [0, 1], [ci 3, ci 4], [10], some (10, 74, true)⟩, ⟨some 78, .call 14, [.t 76, .t 77], [12, 13, 10, 10], some (10, 74, true)⟩, ⟨some 79, .pick, [.t 74, .t 78, cb false], [10, 14], none⟩, ⟨some 0, .mov, [.t 79], [15, 14, 0, 1, 2, 3, 4, 5, 6, 7, 8, 9, 10, 11, 12, 13, 14, 15], none⟩] false).seq AC.ret)))))))))
def rs_top_awake : List RV := [.t 0]
theorem c_top_awake : compile Tryz.prog ⟨Go.Func.ntmps Tryz.f5, []⟩ (Tryz.f5.body.getD .skip) = some ac_top_awake := by kernel_rfl
theorem go_top_awake : GoT Tryz.f5.ntmps 5 ac_top_awake rs_top_awake := goT Tryz.func5 (by kernel_rfl) c_top_awake (by kernel_rfl)
def ac_make_Few : AC :=
  (AC.region [⟨some 2, .mov, [cb false], [], none⟩] false).seq
  ((AC.region [⟨some 3, .mov, [.t 0], [], none⟩, ⟨some 4, .len, [.t 3], [0], none⟩, ⟨some 5, .bin .leq, [.t 4, ci 500], [1], none⟩, ⟨some 2, .mov, [.t 5], [2, 0, 1, 2], none⟩] false).seq AC.ret)
def rs_make_Few : List RV := [.t 2]
theorem c_make_Few : compile Tryz.prog ⟨Go.Func.ntmps Tryz.f6, []⟩ (Tryz.f6.body.getD .skip) = some ac_make_Few := by kernel_rfl
theorem go_make_Few : GoT Tryz.f6.ntmps 6 ac_make_Few rs_make_Few := goT Tryz.func6 (by kernel_rfl) c_make_Few (by kernel_rfl)
def ac_make_New : AC :=
  (AC.region [⟨some 2, .mov, [AV.c (V.d (D.at (Value.pointer none)))], [], none⟩] false).seq
  ((AC.region [⟨some 3, .mov, [.t 0], [], none⟩, ⟨some 4, .build [V.nl 1, I 0] [(0, 1)], [.t 3], [0], none⟩, ⟨some 5, .box, [.t 4], [1], none⟩, ⟨some 2, .mov, [.t 5], [2, 0, 1, 2], none⟩] false).seq AC.ret)
def rs_make_New : List RV := [.t 2]
theorem c_make_New : compile Tryz.prog ⟨Go.Func.ntmps Tryz.f7, []⟩ (Tryz.f7.body.getD .skip) = some ac_make_New := by kernel_rfl
theorem go_make_New : GoT Tryz.f7.ntmps 7 ac_make_New rs_make_New := goT Tryz.func7 (by kernel_rfl) c_make_New (by kernel_rfl)
def ac_make_Deck_Next : AC :=
  (AC.region [⟨some 4, .mov, [ci 0], [], none⟩] false).seq
  (((AC.region [⟨some 6, .mov, [.t 1], [], none⟩, ⟨some 7, .bin .lss, [.t 6, ci 1], [0], none⟩, ⟨some 8, .mov, [.t 7], [1], none⟩, ⟨some 9, .mov, [.t 0], [2], some (2, 8, false)⟩, ⟨some 10, .nck, [.t 9], [3, 2], some (2, 8, false)⟩, ⟨some 11, .fad 1, [.t 10], [4, 2], some (2, 8, false)⟩, ⟨some 12, .load 1 false, [.t 11], [5, 2], some (2, 8, false)⟩, ⟨some 13, .mov, [.t 0], [2], some (2, 8, false)⟩, ⟨some 14, .nck, [.t 13], [7, 2], some (2, 8, false)⟩, ⟨some 15, .fad 0, [.t 14], [8, 2], some (2, 8, false)⟩, ⟨some 16, .load 1 false, [.t 15], [9, 2], some (2, 8, false)⟩, ⟨some 17, .len, [.t 16], [10, 2], some (2, 8, false)⟩, ⟨some 18, .bin .geq, [.t 12, .t 17], [6, 11, 2], some (2, 8, false)⟩, ⟨some 19, .pick, [.t 8, cb true, .t 18], [2, 12], none⟩] true).seq
  (AC.cond (.t 19) ((AC.region [⟨some 4, .mov, [ci 0], [], none⟩] false).seq AC.ret) AC.skip)).seq
  ((AC.region [⟨some 20, .mov, [.t 0], [], none⟩, ⟨some 21, .nck, [.t 20], [0], none⟩, ⟨some 22, .fad 0, [.t 21], [1], none⟩, ⟨some 23, .load 1 false, [.t 22], [2], none⟩, ⟨some 24, .mov, [.t 0], [], none⟩, ⟨some 25, .nck, [.t 24], [4], none⟩, ⟨some 26, .fad 1, [.t 25], [5], none⟩, ⟨some 27, .load 1 false, [.t 26], [6], none⟩, ⟨some 28, .iad 1, [.t 23, .t 27], [3, 7], none⟩, ⟨some 29, .load 1 false, [.t 28], [8], none⟩, ⟨some 5, .mov, [.t 29], [9, 0, 1, 2, 3, 4, 5, 6, 7, 8, 9], none⟩] true).seq
  ((AC.region [⟨some 30, .mov, [.t 0], [], none⟩, ⟨some 31, .nck, [.t 30], [0], none⟩, ⟨some 32, .fad 1, [.t 31], [1], none⟩, ⟨some 33, .load 1 false, [.t 32], [2], none⟩, ⟨some 34, .bin .add, [.t 33, ci 1], [3], none⟩, ⟨some 35, .nck, [.t 30], [0, 0, 1, 2, 3, 4], none⟩, ⟨some 36, .fad 1, [.t 35], [5, 0, 1, 2, 3, 4], none⟩, ⟨none, .store 1, [.t 36, .t 34], [6, 4, 0, 1, 2, 3, 4], none⟩] false).seq
  ((AC.region [⟨some 37, .mov, [.t 5], [], none⟩, ⟨some 38, .mov, [.t 1], [], none⟩, ⟨some 39, .call 19, [.t 37, .t 38], [0, 1], none⟩, ⟨some 4, .mov, [.t 39], [2, 2, 0, 1, 2], none⟩] false).seq AC.ret))))
def rs_make_Deck_Next : List RV := [.t 4]
theorem c_make_Deck_Next : compile Tryz.prog ⟨Go.Func.ntmps Tryz.f8, []⟩ (Tryz.f8.body.getD .skip) = some ac_make_Deck_Next := by kernel_rfl
theorem go_make_Deck_Next : GoT Tryz.f8.ntmps 8 ac_make_Deck_Next rs_make_Deck_Next := goT Tryz.func8 (by kernel_rfl) c_make_Deck_Next (by kernel_rfl)
def ac_curve_Limits : AC :=
  (AC.region [⟨some 3, .box, [.t 0], [], none⟩, ⟨some 4, .box, [.t 1], [], none⟩, ⟨some 6, .mov, [AV.c (V.nl 1)], [], none⟩, ⟨some 7, .mov, [ci 0], [2], none⟩] false).seq
  (((AC.region [⟨some 10, .load 1 true, [.t 3], [], none⟩, ⟨some 11, .load 2 true, [.t 4], [], none⟩, ⟨some 12, .mov, [.t 2], [], none⟩, ⟨some 13, .call 20, [.t 10, .t 11, .t 12], [0, 1, 2], none⟩, ⟨some 8, .mov, [.t 13], [3, 3, 0, 1, 2, 3], none⟩] false).seq
  ((AC.region [⟨some 14, .mov, [.t 8], [], none⟩, ⟨some 15, .bin .neq, [.t 14, ci 0], [0], none⟩] false).seq
  (AC.cond (.t 15) ((AC.region [⟨some 16, .mov, [.t 8], [], none⟩, ⟨some 6, .mov, [AV.c (V.nl 1)], [], none⟩, ⟨some 7, .mov, [.t 16], [0, 1, 0, 1], none⟩] false).seq AC.ret) AC.skip))).seq
  ((AC.region [⟨some 9, .mov, [AV.c (V.nl 1)], [], none⟩] false).seq
  (((AC.region [⟨some 17, .mov, [.t 2], [], none⟩, ⟨some 18, .fad 1, [.t 4], [], none⟩, ⟨some 19, .load 1 false, [.t 18], [1], none⟩, ⟨some 20, .bin .mul, [.t 17, .t 19], [0, 2], none⟩, ⟨some 21, .mov, [ci 0], [], none⟩] false).seq
  (AC.block 0 ((AC.region [⟨some 22, .bin .lss, [.t 21, .t 20], [], none⟩] false).seq
  ((AC.cond (.t 22) AC.skip (AC.exit 0)).seq
  ((AC.block 1 (AC.region [⟨some 23, .mov, [.t 9], [], none⟩, ⟨some 24, .fad 0, [.t 3], [], none⟩, ⟨some 25, .load 1 false, [.t 24], [1], none⟩, ⟨some 26, .bsl 1 [I 0] 1 [0], [.t 25], [2], none⟩, ⟨some 27, .app 1 8, [.t 23, .t 26], [0, 3], none⟩, ⟨some 9, .mov, [.t 27], [4, 4, 0, 1, 2, 3, 4], none⟩] false)).seq
  (AC.region [⟨some 28, .bin .add, [.t 21, ci 1], [], none⟩, ⟨some 21, .mov, [.t 28], [0], none⟩] false)))).loop)).seq
  ((AC.region [⟨some 29, .mov, [.t 9], [], none⟩, ⟨some 6, .mov, [.t 29], [0, 0], none⟩, ⟨some 7, .mov, [ci 0], [1, 0, 1], none⟩] false).seq AC.ret))))
def rs_curve_Limits : List RV := [.t 6, .t 7]
theorem c_curve_Limits : compile Tryz.prog ⟨Go.Func.ntmps Tryz.f9, []⟩ (Tryz.f9.body.getD .skip) = some ac_curve_Limits := by kernel_rfl
theorem go_curve_Limits : GoT Tryz.f9.ntmps 9 ac_curve_Limits rs_curve_Limits := goT Tryz.func9 (by kernel_rfl) c_curve_Limits (by kernel_rfl)
def ac_tape_Count : AC :=
  (AC.region [⟨some 2, .mov, [ci 0], [], none⟩, ⟨some 3, .mov, [ci 0], [0], none⟩] false).seq
  (((AC.region [⟨some 7, .mov, [.t 0], [], none⟩, ⟨some 8, .call 21, [.t 7], [0], none⟩, ⟨some 9, .un .not, [.t 8], [1], none⟩] false).seq
  (AC.cond (.t 9) ((AC.region [⟨some 2, .mov, [ci 0], [], none⟩, ⟨some 3, .mov, [ci 4], [0, 0], none⟩] false).seq AC.ret) AC.skip)).seq
  ((AC.region [⟨some 4, .mov, [ci 1], [], none⟩] false).seq
  (((AC.region [⟨some 10, .mov, [.t 0], [], none⟩, ⟨some 11, .len, [.t 10], [0], none⟩, ⟨some 12, .mov, [ci 0], [], none⟩] false).seq
  (AC.block 0 ((AC.region [⟨some 13, .bin .lss, [.t 12, .t 11], [], none⟩] false).seq
  ((AC.cond (.t 13) AC.skip (AC.exit 0)).seq
  ((AC.block 1 ((AC.region [⟨some 14, .iad 1, [.t 10, .t 12], [], none⟩, ⟨some 15, .load 1 false, [.t 14], [0], none⟩, ⟨some 6, .mov, [.t 15], [1, 0, 1], none⟩] false).seq
  (((AC.region [⟨some 16, .mov, [.t 4], [], none⟩, ⟨some 17, .mov, [.t 6], [], none⟩, ⟨some 18, .bin .quo, [ci 1099511627776, .t 17], [1], none⟩, ⟨some 19, .bin .gtr, [.t 16, .t 18], [0, 2], none⟩] false).seq
  (AC.cond (.t 19) ((AC.region [⟨some 2, .mov, [ci 0], [], none⟩, ⟨some 3, .mov, [ci 4], [0, 0], none⟩] false).seq AC.ret) AC.skip)).seq
  (AC.region [⟨some 20, .mov, [.t 4], [], none⟩, ⟨some 21, .mov, [.t 6], [], none⟩, ⟨some 22, .bin .mul, [.t 20, .t 21], [0, 1], none⟩, ⟨some 4, .mov, [.t 22], [2, 0, 1, 2], none⟩] false)))).seq
  (AC.region [⟨some 23, .bin .add, [.t 12, ci 1], [], none⟩, ⟨some 12, .mov, [.t 23], [0], none⟩] false)))).loop)).seq
  ((AC.region [⟨some 24, .mov, [.t 4], [], none⟩, ⟨some 2, .mov, [.t 24], [0, 0], none⟩, ⟨some 3, .mov, [ci 0], [1, 0, 1], none⟩] false).seq AC.ret))))
def rs_tape_Count : List RV := [.t 2, .t 3]
theorem c_tape_Count : compile Tryz.prog ⟨Go.Func.ntmps Tryz.f10, []⟩ (Tryz.f10.body.getD .skip) = some ac_tape_Count := by kernel_rfl
theorem go_tape_Count : GoT Tryz.f10.ntmps 10 ac_tape_Count rs_tape_Count := goT Tryz.func10 (by kernel_rfl) c_tape_Count (by kernel_rfl)
def ac_tape_At : AC :=
  (AC.region [⟨some 4, .alloc [V.nl 1, I 0], [], [], none⟩, ⟨some 5, .mov, [ci 0], [], none⟩] false).seq
  ((AC.region [⟨some 12, .mov, [.t 0], [], none⟩, ⟨some 13, .call 10, [.t 12], [0], none⟩, ⟨some 11, .mov, [.t 13], [1], none⟩, ⟨some 14, .ext 0, [.t 11], [2], none⟩, ⟨some 15, .ext 1, [.t 11], [2], none⟩, ⟨some 6, .mov, [.t 14], [3, 1, 0, 1, 2, 3], none⟩, ⟨some 7, .mov, [.t 15], [4, 5, 0, 1, 2, 3, 4, 5], none⟩] false).seq
  (((AC.region [⟨some 16, .mov, [.t 7], [], none⟩, ⟨some 17, .bin .neq, [.t 16, ci 0], [0], none⟩] false).seq
  (AC.cond (.t 17) ((AC.region [⟨some 18, .build [V.nl 1, I 0] [], [], [], none⟩, ⟨some 19, .mov, [.t 7], [], none⟩, ⟨none, .store 2, [.t 4, .t 18], [0, 0], none⟩, ⟨some 5, .mov, [.t 19], [1, 2, 0, 1, 2], none⟩] false).seq AC.ret) AC.skip)).seq
  (((AC.region [⟨some 20, .mov, [.t 1], [], none⟩, ⟨some 21, .bin .lss, [.t 20, ci 0], [0], none⟩, ⟨some 22, .mov, [.t 21], [1], none⟩, ⟨some 23, .mov, [.t 1], [2], some (2, 22, false)⟩, ⟨some 24, .mov, [.t 6], [2], some (2, 22, false)⟩, ⟨some 25, .bin .geq, [.t 23, .t 24], [3, 4, 2], some (2, 22, false)⟩, ⟨some 26, .pick, [.t 22, cb true, .t 25], [2, 5], none⟩] false).seq
  (AC.cond (.t 26) ((AC.region [⟨some 27, .build [V.nl 1, I 0] [], [], [], none⟩, ⟨none, .store 2, [.t 4, .t 27], [0, 0], none⟩, ⟨some 5, .mov, [ci 1], [1, 0, 1], none⟩] false).seq AC.ret) AC.skip)).seq
  ((AC.region [⟨some 8, .alloc [V.nl 1, I 0], [], [], none⟩] false).seq
  (((AC.region [⟨some 28, .mov, [.t 0], [], none⟩, ⟨some 29, .len, [.t 28], [0], none⟩, ⟨some 30, .mov, [ci 0], [], none⟩] false).seq
  (AC.block 0 ((AC.region [⟨some 31, .bin .lss, [.t 30, .t 29], [], none⟩] false).seq
  ((AC.cond (.t 31) AC.skip (AC.exit 0)).seq
  ((AC.block 1 ((AC.region [⟨some 32, .iad 1, [.t 28, .t 30], [], none⟩, ⟨some 33, .load 1 false, [.t 32], [0], none⟩, ⟨some 10, .mov, [.t 33], [1, 0, 1], none⟩] false).seq
  ((AC.region [⟨some 34, .fad 0, [.t 8], [], none⟩, ⟨some 35, .load 1 false, [.t 34], [0], none⟩, ⟨some 36, .mov, [.t 1], [], none⟩, ⟨some 37, .mov, [.t 10], [], none⟩, ⟨some 38, .bin .rem, [.t 36, .t 37], [2, 3], none⟩, ⟨some 39, .bsl 1 [I 0] 1 [0], [.t 38], [4], none⟩, ⟨some 40, .app 1 8, [.t 35, .t 39], [1, 5], none⟩, ⟨some 41, .fad 0, [.t 8], [0, 1, 2, 3, 4, 5, 6], none⟩, ⟨none, .store 1, [.t 41, .t 40], [7, 6, 6, 0, 1, 2, 3, 4, 5, 6], none⟩] true).seq
  (AC.region [⟨some 42, .mov, [.t 1], [], none⟩, ⟨some 43, .mov, [.t 10], [], none⟩, ⟨some 44, .bin .quo, [.t 42, .t 43], [0, 1], none⟩, ⟨some 1, .mov, [.t 44], [2, 0, 1, 2], none⟩] false)))).seq
  (AC.region [⟨some 45, .bin .add, [.t 30, ci 1], [], none⟩, ⟨some 30, .mov, [.t 45], [0], none⟩] false)))).loop)).seq
  ((AC.region [⟨some 46, .load 2 true, [.t 8], [], none⟩, ⟨none, .store 2, [.t 4, .t 46], [0, 0], none⟩, ⟨some 5, .mov, [ci 0], [1, 0, 1], none⟩] false).seq AC.ret))))))
def rs_tape_At : List RV := [.c 4 2 true, .t 5]
theorem c_tape_At : compile Tryz.prog ⟨Go.Func.ntmps Tryz.f11, []⟩ (Tryz.f11.body.getD .skip) = some ac_tape_At := by kernel_rfl
theorem go_tape_At : GoT Tryz.f11.ntmps 11 ac_tape_At rs_tape_At := goT Tryz.func11 (by kernel_rfl) c_tape_At (by kernel_rfl)
def ac_curve_Queries : AC :=
  (AC.region [⟨some 5, .box, [.t 0], [], none⟩, ⟨some 6, .box, [.t 1], [], none⟩, ⟨some 9, .box, [.t 4], [], none⟩, ⟨some 10, .mov, [AV.c (V.nl 1)], [], none⟩, ⟨some 11, .alloc [V.nl 1, I 0], [], [], none⟩, ⟨some 12, .mov, [ci 0], [3], none⟩] false).seq
  (((AC.region [⟨some 25, .load 1 true, [.t 5], [], none⟩, ⟨some 26, .load 2 true, [.t 6], [], none⟩, ⟨some 27, .mov, [.t 2], [], none⟩, ⟨some 28, .call 20, [.t 25, .t 26, .t 27], [0, 1, 2], none⟩, ⟨some 13, .mov, [.t 28], [3, 3, 0, 1, 2, 3], none⟩] false).seq
  ((AC.region [⟨some 29, .mov, [.t 13], [], none⟩, ⟨some 30, .bin .neq, [.t 29, ci 0], [0], none⟩] false).seq
  (AC.cond (.t 30) ((AC.region [⟨some 31, .build [V.nl 1, I 0] [], [], [], none⟩, ⟨some 32, .mov, [.t 13], [], none⟩, ⟨some 10, .mov, [AV.c (V.nl 1)], [], none⟩, ⟨none, .store 2, [.t 11, .t 31], [0, 2, 0, 2], none⟩, ⟨some 12, .mov, [.t 32], [1, 3, 0, 1, 2, 3], none⟩] false).seq AC.ret) AC.skip))).seq
  (((AC.region [⟨some 33, .mov, [.t 3], [], none⟩, ⟨some 34, .bin .lss, [.t 33, ci 0], [0], none⟩, ⟨some 35, .mov, [.t 34], [1], none⟩, ⟨some 36, .mov, [.t 3], [2], some (2, 35, false)⟩, ⟨some 37, .mov, [.t 2], [2], some (2, 35, false)⟩, ⟨some 38, .bin .geq, [.t 36, .t 37], [3, 4, 2], some (2, 35, false)⟩, ⟨some 39, .pick, [.t 35, cb true, .t 38], [2, 5], none⟩] false).seq
  (AC.cond (.t 39) ((AC.region [⟨some 40, .build [V.nl 1, I 0] [], [], [], none⟩, ⟨some 10, .mov, [AV.c (V.nl 1)], [], none⟩, ⟨none, .store 2, [.t 11, .t 40], [0, 1, 0, 1], none⟩, ⟨some 12, .mov, [ci 6], [2, 0, 1, 2], none⟩] false).seq AC.ret) AC.skip)).seq
  ((AC.region [⟨some 42, .load 2 true, [.t 9], [], none⟩, ⟨some 43, .fad 0, [.t 5], [], none⟩, ⟨some 44, .load 1 false, [.t 43], [1], none⟩, ⟨some 45, .mov, [.t 2], [], none⟩, ⟨some 46, .fad 1, [.t 6], [], none⟩, ⟨some 47, .load 1 false, [.t 46], [4], none⟩, ⟨some 48, .bin .mul, [.t 45, .t 47], [3, 5], none⟩, ⟨some 49, .call 22, [.t 42, .t 44, .t 48], [0, 2, 6], none⟩, ⟨some 41, .mov, [.t 49], [7], none⟩, ⟨some 50, .ext 0, [.t 41], [8], none⟩, ⟨some 51, .ext 1, [.t 41], [8], none⟩, ⟨some 52, .ext 2, [.t 41], [8], none⟩, ⟨some 14, .alloc [V.nl 1, I 0], [], [], none⟩, ⟨none, .store 2, [.t 14, .t 50], [12, 9, 7, 0, 1, 2, 3, 4, 5, 6, 7, 8, 9, 12], none⟩, ⟨some 15, .mov, [.t 51], [10, 13, 0, 1, 2, 3, 4, 5, 6, 7, 8, 9, 10, 12, 13], none⟩, ⟨some 16, .mov, [.t 52], [11, 14, 0, 1, 2, 3, 4, 5, 6, 7, 8, 9, 10, 11, 12, 13, 14], none⟩] false).seq
  (((AC.region [⟨some 53, .mov, [.t 16], [], none⟩, ⟨some 54, .bin .neq, [.t 53, ci 0], [0], none⟩] false).seq
  (AC.cond (.t 54) ((AC.region [⟨some 55, .build [V.nl 1, I 0] [], [], [], none⟩, ⟨some 56, .mov, [.t 16], [], none⟩, ⟨some 10, .mov, [AV.c (V.nl 1)], [], none⟩, ⟨none, .store 2, [.t 11, .t 55], [0, 2, 0, 2], none⟩, ⟨some 12, .mov, [.t 56], [1, 3, 0, 1, 2, 3], none⟩] false).seq AC.ret) AC.skip)).seq
  ((AC.region [⟨some 57, .fad 0, [.t 6], [], none⟩, ⟨some 58, .load 1 false, [.t 57], [0], none⟩, ⟨some 59, .mks 1 [] 24, [.t 58, .t 58], [1, 1], none⟩, ⟨some 17, .mov, [.t 59], [2, 0, 1, 2], none⟩] false).seq
  (((AC.region [⟨some 60, .mov, [.t 2], [], none⟩, ⟨some 61, .mov, [ci 0], [], none⟩] false).seq
  (AC.block 0 ((AC.region [⟨some 62, .bin .lss, [.t 61, .t 60], [], none⟩] false).seq
  ((AC.cond (.t 62) AC.skip (AC.exit 0)).seq
  ((AC.block 1 ((AC.region [⟨some 63, .mov, [.t 61], [], none⟩, ⟨some 18, .mov, [.t 63], [0, 0], none⟩] false).seq
  ((AC.region [⟨some 19, .mov, [ci 0], [], none⟩] false).seq
  (((AC.region [⟨some 64, .mov, [.t 18], [], none⟩, ⟨some 65, .mov, [.t 3], [], none⟩, ⟨some 66, .bin .eql, [.t 64, .t 65], [0, 1], none⟩] false).seq
  (AC.cond (.t 66) (AC.region [⟨some 19, .mov, [ci 1], [], none⟩] false) AC.skip)).seq
  ((AC.region [⟨some 68, .load 1 true, [.t 5], [], none⟩, ⟨some 69, .mov, [.t 19], [], none⟩, ⟨some 70, .fad 1, [.t 6], [], none⟩, ⟨some 71, .load 1 false, [.t 70], [2], none⟩, ⟨some 72, .fad 0, [.t 6], [], none⟩, ⟨some 73, .load 1 false, [.t 72], [4], none⟩, ⟨some 74, .mov, [.t 15], [], none⟩, ⟨some 75, .mov, [.t 18], [], none⟩, ⟨some 76, .fad 1, [.t 6], [], none⟩, ⟨some 77, .load 1 false, [.t 76], [8], none⟩, ⟨some 78, .bin .mul, [.t 75, .t 77], [7, 9], none⟩, ⟨some 79, .mov, [.t 18], [], none⟩, ⟨some 80, .bin .add, [.t 79, ci 1], [11], none⟩, ⟨some 81, .fad 1, [.t 6], [], none⟩, ⟨some 82, .load 1 false, [.t 81], [13], none⟩, ⟨some 83, .bin .mul, [.t 80, .t 82], [12, 14], none⟩, ⟨some 84, .slc true true false 1, [.t 74, .t 78, .t 83], [6, 10, 15], none⟩, ⟨some 85, .build [V.nl 1, I 0] [(0, 1)], [.t 84], [16], none⟩, ⟨some 86, .call 23, [.t 68, .t 69, .t 71, .t 73, .t 85], [0, 1, 3, 5, 17], none⟩, ⟨some 67, .mov, [.t 86], [18], none⟩, ⟨some 87, .ext 0, [.t 67], [19], none⟩, ⟨some 88, .ext 1, [.t 67], [19], none⟩, ⟨some 89, .ext 2, [.t 67], [19], none⟩, ⟨some 21, .alloc [V.nl 1, I 0], [], [], none⟩, ⟨some 20, .mov, [.t 87], [20, 18, 0, 1, 2, 3, 4, 5, 6, 7, 8, 9, 10, 11, 12, 13, 14, 15, 16, 17, 18, 19, 20, 23], none⟩, ⟨none, .store 2, [.t 21, .t 88], [23, 21, 24, 0, 1, 2, 3, 4, 5, 6, 7, 8, 9, 10, 11, 12, 13, 14, 15, 16, 17, 18, 19, 20, 21, 23, 24], none⟩, ⟨some 22, .mov, [.t 89], [22, 25, 0, 1, 2, 3, 4, 5, 6, 7, 8, 9, 10, 11, 12, 13, 14, 15, 16, 17, 18, 19, 20, 21, 22, 23, 24, 25], none⟩] true).seq
  (((AC.region [⟨some 90, .mov, [.t 22], [], none⟩, ⟨some 91, .bin .neq, [.t 90, ci 0], [0], none⟩] false).seq
  (AC.cond (.t 91) ((AC.region [⟨some 92, .build [V.nl 1, I 0] [], [], [], none⟩, ⟨some 93, .mov, [.t 22], [], none⟩, ⟨some 10, .mov, [AV.c (V.nl 1)], [], none⟩, ⟨none, .store 2, [.t 11, .t 92], [0, 2, 0, 2], none⟩, ⟨some 12, .mov, [.t 93], [1, 3, 0, 1, 2, 3], none⟩] false).seq AC.ret) AC.skip)).seq
  ((AC.region [⟨some 94, .mov, [.t 20], [], none⟩, ⟨some 95, .len, [.t 94], [0], none⟩, ⟨some 96, .mov, [ci 0], [], none⟩] false).seq
  (AC.block 2 ((AC.region [⟨some 97, .bin .lss, [.t 96, .t 95], [], none⟩] false).seq
  ((AC.cond (.t 97) AC.skip (AC.exit 2)).seq
  ((AC.block 3 ((AC.region [⟨some 98, .mov, [.t 96], [], none⟩, ⟨some 99, .iad 2, [.t 94, .t 96], [], none⟩, ⟨some 100, .load 2 true, [.t 99], [1], none⟩, ⟨some 24, .alloc [I 0, I 0], [], [], none⟩, ⟨some 23, .mov, [.t 98], [0, 0, 1, 2, 3], none⟩, ⟨none, .store 2, [.t 24, .t 100], [3, 2, 4, 0, 1, 2, 3, 4], none⟩] false).seq
  (AC.region [⟨some 101, .mov, [.t 17], [], none⟩, ⟨some 102, .mov, [.t 23], [], none⟩, ⟨some 103, .mov, [.t 17], [], none⟩, ⟨some 104, .mov, [.t 23], [], none⟩, ⟨some 105, .iad 1, [.t 103, .t 104], [2, 3], none⟩, ⟨some 106, .load 1 false, [.t 105], [4], none⟩, ⟨some 107, .fad 1, [.t 24], [], none⟩, ⟨some 108, .load 1 false, [.t 107], [6], none⟩, ⟨some 109, .bsl 1 [I 0] 1 [0], [.t 108], [7], none⟩, ⟨some 110, .app 1 8, [.t 106, .t 109], [5, 8], none⟩, ⟨some 111, .iad 1, [.t 101, .t 102], [0, 1, 0, 1, 2, 3, 4, 5, 6, 7, 8, 9], none⟩, ⟨none, .store 1, [.t 111, .t 110], [10, 9, 9, 0, 1, 2, 3, 4, 5, 6, 7, 8, 9], none⟩] true))).seq
  (AC.region [⟨some 112, .bin .add, [.t 96, ci 1], [], none⟩, ⟨some 96, .mov, [.t 112], [0], none⟩] false)))).loop)))))))).seq
  (AC.region [⟨some 113, .bin .add, [.t 61, ci 1], [], none⟩, ⟨some 61, .mov, [.t 113], [0], none⟩] false)))).loop)).seq
  ((AC.region [⟨some 114, .fad 0, [.t 9], [], none⟩, ⟨some 115, .load 1 false, [.t 114], [0], none⟩, ⟨some 116, .app 1 8, [AV.c (V.nl 1), .t 115], [1], none⟩, ⟨some 117, .fad 0, [.t 9], [0, 1, 2], none⟩, ⟨none, .store 1, [.t 117, .t 116], [3, 2, 2, 0, 1, 2], none⟩] false).seq
  ((AC.region [⟨some 118, .fad 1, [.t 9], [], none⟩, ⟨some 119, .load 1 false, [.t 118], [0], none⟩, ⟨some 120, .mov, [.t 15], [], none⟩, ⟨some 121, .len, [.t 120], [2], none⟩, ⟨some 122, .bin .add, [.t 119, .t 121], [1, 3], none⟩, ⟨some 123, .fad 1, [.t 9], [0, 1, 2, 3, 4], none⟩, ⟨none, .store 1, [.t 123, .t 122], [5, 4, 0, 1, 2, 3, 4], none⟩] false).seq
  ((AC.region [⟨some 124, .mov, [.t 17], [], none⟩, ⟨some 125, .load 2 true, [.t 9], [], none⟩, ⟨some 10, .mov, [.t 124], [0, 0], none⟩, ⟨none, .store 2, [.t 11, .t 125], [1, 2, 0, 1, 2], none⟩, ⟨some 12, .mov, [ci 0], [3, 0, 1, 2, 3], none⟩] true).seq AC.ret)))))))))
def rs_curve_Queries : List RV := [.t 10, .c 11 2 true, .t 12]
theorem c_curve_Queries : compile Tryz.prog ⟨Go.Func.ntmps Tryz.f12, []⟩ (Tryz.f12.body.getD .skip) = some ac_curve_Queries := by kernel_rfl
theorem go_curve_Queries : GoT Tryz.f12.ntmps 12 ac_curve_Queries rs_curve_Queries := goT Tryz.func12 (by kernel_rfl) c_curve_Queries (by kernel_rfl)
def ac_ref04_Same : AC :=
  (AC.region [⟨some 4, .mov, [cb false], [], none⟩] false).seq
  (((AC.region [⟨some 6, .mov, [.t 0], [], none⟩, ⟨some 7, .len, [.t 6], [0], none⟩, ⟨some 8, .mov, [.t 1], [], none⟩, ⟨some 9, .len, [.t 8], [2], none⟩, ⟨some 10, .bin .neq, [.t 7, .t 9], [1, 3], none⟩] false).seq
  (AC.cond (.t 10) ((AC.region [⟨some 4, .mov, [cb false], [], none⟩] false).seq AC.ret) AC.skip)).seq
  (((AC.region [⟨some 11, .mov, [.t 0], [], none⟩, ⟨some 12, .len, [.t 11], [0], none⟩, ⟨some 13, .mov, [ci 0], [], none⟩] false).seq
  (AC.block 0 ((AC.region [⟨some 14, .bin .lss, [.t 13, .t 12], [], none⟩] false).seq
  ((AC.cond (.t 14) AC.skip (AC.exit 0)).seq
  ((AC.block 1 ((AC.region [⟨some 15, .mov, [.t 13], [], none⟩, ⟨some 5, .mov, [.t 15], [0, 0], none⟩] false).seq
  ((AC.region [⟨some 16, .mov, [.t 0], [], none⟩, ⟨some 17, .mov, [.t 5], [], none⟩, ⟨some 18, .iad 1, [.t 16, .t 17], [0, 1], none⟩, ⟨some 19, .load 1 false, [.t 18], [2], none⟩, ⟨some 20, .mov, [.t 1], [], none⟩, ⟨some 21, .mov, [.t 5], [], none⟩, ⟨some 22, .iad 1, [.t 20, .t 21], [4, 5], none⟩, ⟨some 23, .load 1 false, [.t 22], [6], none⟩, ⟨some 24, .bin .neq, [.t 19, .t 23], [3, 7], none⟩] true).seq
  (AC.cond (.t 24) ((AC.region [⟨some 4, .mov, [cb false], [], none⟩] false).seq AC.ret) AC.skip)))).seq
  (AC.region [⟨some 25, .bin .add, [.t 13, ci 1], [], none⟩, ⟨some 13, .mov, [.t 25], [0], none⟩] false)))).loop)).seq
  ((AC.region [⟨some 4, .mov, [cb true], [], none⟩] false).seq AC.ret)))
def rs_ref04_Same : List RV := [.t 4]
theorem c_ref04_Same : compile Tryz.prog ⟨Go.Func.ntmps Tryz.f14, []⟩ (Tryz.f14.body.getD .skip) = some ac_ref04_Same := by kernel_rfl
theorem go_ref04_Same : GoT Tryz.f14.ntmps 14 ac_ref04_Same rs_ref04_Same := goT Tryz.func14 (by kernel_rfl) c_ref04_Same (by kernel_rfl)
def ac_make_Order : AC :=
  (AC.region [⟨some 4, .mov, [AV.c (V.nl 1)], [], none⟩] false).seq
  ((AC.region [⟨some 5, .mov, [AV.c (V.nl 1)], [], none⟩, ⟨some 6, .mov, [AV.c (V.nl 1)], [0], none⟩] false).seq
  (((AC.region [⟨some 9, .mov, [.t 1], [], none⟩, ⟨some 10, .mov, [ci 0], [], none⟩] false).seq
  (AC.block 0 ((AC.region [⟨some 11, .bin .lss, [.t 10, .t 9], [], none⟩] false).seq
  ((AC.cond (.t 11) AC.skip (AC.exit 0)).seq
  ((AC.block 1 ((AC.region [⟨some 12, .mov, [.t 10], [], none⟩, ⟨some 7, .mov, [.t 12], [0, 0], none⟩] false).seq
  (AC.region [⟨some 13, .mov, [.t 5], [], none⟩, ⟨some 14, .mov, [.t 7], [], none⟩, ⟨some 15, .bsl 1 [I 0] 1 [0], [.t 14], [1], none⟩, ⟨some 16, .app 1 8, [.t 13, .t 15], [0, 2], none⟩, ⟨some 5, .mov, [.t 16], [3, 3, 0, 1, 2, 3], none⟩] false))).seq
  (AC.region [⟨some 17, .bin .add, [.t 10, ci 1], [], none⟩, ⟨some 10, .mov, [.t 17], [0], none⟩] false)))).loop)).seq
  ((AC.block 2 (((AC.region [⟨some 18, .mov, [.t 5], [], none⟩, ⟨some 19, .len, [.t 18], [0], none⟩, ⟨some 20, .bin .gtr, [.t 19, ci 0], [1], none⟩] false).seq
  (AC.cond (.t 20) AC.skip (AC.exit 2))).seq
  (AC.block 3 ((AC.region [⟨some 21, .mov, [.t 0], [], none⟩, ⟨some 22, .mov, [.t 5], [], none⟩, ⟨some 23, .len, [.t 22], [1], none⟩, ⟨some 24, .call 8, [.t 21, .t 23], [0, 2], none⟩, ⟨some 8, .mov, [.t 24], [3, 3, 0, 1, 2, 3], none⟩] false).seq
  ((AC.region [⟨some 25, .mov, [.t 6], [], none⟩, ⟨some 26, .mov, [.t 5], [], none⟩, ⟨some 27, .mov, [.t 8], [], none⟩, ⟨some 28, .iad 1, [.t 26, .t 27], [1, 2], none⟩, ⟨some 29, .load 1 false, [.t 28], [3], none⟩, ⟨some 30, .bsl 1 [I 0] 1 [0], [.t 29], [4], none⟩, ⟨some 31, .app 1 8, [.t 25, .t 30], [0, 5], none⟩, ⟨some 6, .mov, [.t 31], [6, 6, 0, 1, 2, 3, 4, 5, 6], none⟩] false).seq
  (AC.region [⟨some 32, .mov, [.t 5], [], none⟩, ⟨some 33, .mov, [.t 8], [], none⟩, ⟨some 34, .mov, [.t 8], [], none⟩, ⟨some 35, .fxc 1, [.t 32, .t 33, .t 34], [0, 1, 2], none⟩, ⟨some 36, .mov, [.t 5], [], none⟩, ⟨some 37, .mov, [.t 8], [], none⟩, ⟨some 38, .bin .add, [.t 37, ci 1], [5], none⟩, ⟨some 39, .slc true false false 1, [.t 36, .t 38], [4, 6], none⟩, ⟨some 40, .app 1 8, [.t 35, .t 39], [3, 7], none⟩, ⟨some 5, .mov, [.t 40], [8, 8, 0, 1, 2, 3, 4, 5, 6, 7, 8], none⟩] true))))).loop).seq
  ((AC.region [⟨some 41, .mov, [.t 6], [], none⟩, ⟨some 4, .mov, [.t 41], [0, 0], none⟩] false).seq AC.ret))))
def rs_make_Order : List RV := [.t 4]
theorem c_make_Order : compile Tryz.prog ⟨Go.Func.ntmps Tryz.f15, [1000035]⟩ (Tryz.f15.body.getD .skip) = some ac_make_Order := by kernel_rfl
theorem go_make_Order : GoT Tryz.f15.ntmps 15 ac_make_Order rs_make_Order := goT Tryz.func15 (by kernel_rfl) c_make_Order (by kernel_rfl)
def ac_curve_Wanted : AC :=
  (AC.region [⟨some 3, .box, [.t 0], [], none⟩, ⟨some 4, .box, [.t 1], [], none⟩, ⟨some 6, .mov, [ci 0], [], none⟩, ⟨some 7, .mov, [cb false], [2], none⟩, ⟨some 8, .mov, [ci 0], [3], none⟩] false).seq
  (((AC.region [⟨some 22, .load 1 true, [.t 3], [], none⟩, ⟨some 23, .load 2 true, [.t 4], [], none⟩, ⟨some 24, .call 25, [.t 22, .t 23], [0, 1], none⟩, ⟨some 9, .mov, [.t 24], [2, 2, 0, 1, 2], none⟩] false).seq
  ((AC.region [⟨some 25, .mov, [.t 9], [], none⟩, ⟨some 26, .bin .neq, [.t 25, ci 0], [0], none⟩] false).seq
  (AC.cond (.t 26) ((AC.region [⟨some 27, .mov, [.t 9], [], none⟩, ⟨some 6, .mov, [ci 0], [], none⟩, ⟨some 7, .mov, [cb false], [1, 1], none⟩, ⟨some 8, .mov, [.t 27], [0, 2, 0, 1, 2], none⟩] false).seq AC.ret) AC.skip))).seq
  (((AC.region [⟨some 28, .mov, [.t 2], [], none⟩, ⟨some 29, .len, [.t 28], [0], none⟩, ⟨some 30, .fad 0, [.t 4], [], none⟩, ⟨some 31, .load 1 false, [.t 30], [2], none⟩, ⟨some 32, .bin .neq, [.t 29, .t 31], [1, 3], none⟩] false).seq
  (AC.cond (.t 32) ((AC.region [⟨some 6, .mov, [ci 0], [], none⟩, ⟨some 7, .mov, [cb false], [0, 0], none⟩, ⟨some 8, .mov, [ci 2], [1, 0, 1], none⟩] false).seq AC.ret) AC.skip)).seq
  ((AC.region [⟨some 33, .load 1 true, [.t 3], [], none⟩, ⟨some 34, .fad 1, [.t 4], [], none⟩, ⟨some 35, .load 1 false, [.t 34], [1], none⟩, ⟨some 36, .bin .add, [.t 35, ci 1], [2], none⟩, ⟨some 37, .build [I 0, I 0, V.nl 2] [(0, 1), (1, 1)], [.t 33, .t 36], [0, 3], none⟩, ⟨some 10, .alloc [I 0, I 0, V.nl 2], [], [], none⟩, ⟨none, .store 3, [.t 10, .t 37], [5, 4, 0, 1, 2, 3, 4, 5], none⟩] false).seq
  ((AC.region [⟨some 11, .mov, [cb true], [], none⟩] false).seq
  (((AC.region [⟨some 38, .mov, [.t 2], [], none⟩, ⟨some 39, .len, [.t 38], [0], none⟩, ⟨some 40, .mov, [ci 0], [], none⟩] false).seq
  (AC.block 0 ((AC.region [⟨some 41, .bin .lss, [.t 40, .t 39], [], none⟩] false).seq
  ((AC.cond (.t 41) AC.skip (AC.exit 0)).seq
  ((AC.block 1 ((AC.region [⟨some 42, .iad 1, [.t 38, .t 40], [], none⟩, ⟨some 43, .load 1 false, [.t 42], [0], none⟩, ⟨some 13, .mov, [.t 43], [1, 0, 1], none⟩] false).seq
  (((AC.region [⟨some 44, .mov, [.t 13], [], none⟩, ⟨some 45, .len, [.t 44], [0], none⟩, ⟨some 46, .mov, [.t 2], [], none⟩, ⟨some 47, .iad 1, [.t 46, ci 0], [2], none⟩, ⟨some 48, .load 1 false, [.t 47], [3], none⟩, ⟨some 49, .len, [.t 48], [4], none⟩, ⟨some 50, .bin .neq, [.t 45, .t 49], [1, 5], none⟩, ⟨some 51, .mov, [.t 50], [6], none⟩, ⟨some 52, .mov, [.t 13], [7], some (7, 51, false)⟩, ⟨some 53, .len, [.t 52], [8, 7], some (7, 51, false)⟩, ⟨some 54, .bin .gtr, [.t 53, ci 1024], [9, 7], some (7, 51, false)⟩, ⟨some 55, .pick, [.t 51, cb true, .t 54], [7, 10], none⟩] false).seq
  (AC.cond (.t 55) ((AC.region [⟨some 6, .mov, [ci 0], [], none⟩, ⟨some 7, .mov, [cb false], [0, 0], none⟩, ⟨some 8, .mov, [ci 2], [1, 0, 1], none⟩] false).seq AC.ret) AC.skip)).seq
  ((AC.region [⟨some 56, .mov, [.t 11], [], none⟩, ⟨some 57, .mov, [.t 56], [0], none⟩, ⟨some 58, .fad 0, [.t 3], [1], some (1, 57, true)⟩, ⟨some 59, .load 1 false, [.t 58], [2, 1], some (1, 57, true)⟩, ⟨some 60, .mov, [.t 13], [1], some (1, 57, true)⟩, ⟨some 61, .call 26, [.t 59, .t 60], [3, 4, 1, 1], some (1, 57, true)⟩, ⟨some 62, .pick, [.t 57, .t 61, cb false], [1, 5], none⟩, ⟨some 11, .mov, [.t 62], [6, 5, 0, 1, 2, 3, 4, 5, 6], none⟩] false).seq
  (AC.region [⟨some 63, .fad 2, [.t 10], [], none⟩, ⟨some 64, .load 1 false, [.t 63], [0], none⟩, ⟨some 65, .mov, [.t 13], [], none⟩, ⟨some 66, .build [B false, V.nl 1] [(0, 1), (1, 1)], [cb true, .t 65], [2], none⟩, ⟨some 67, .bsl 2 [B false, V.nl 1] 1 [0], [.t 66], [3], none⟩, ⟨some 68, .app 2 32, [.t 64, .t 67], [1, 4], none⟩, ⟨some 69, .fad 2, [.t 10], [0, 1, 2, 3, 4, 5], none⟩, ⟨none, .store 1, [.t 69, .t 68], [6, 5, 5, 0, 1, 2, 3, 4, 5], none⟩] false))))).seq
  (AC.region [⟨some 70, .bin .add, [.t 40, ci 1], [], none⟩, ⟨some 40, .mov, [.t 70], [0], none⟩] false)))).loop)).seq
  (((AC.region [⟨some 71, .mov, [.t 11], [], none⟩, ⟨some 72, .un .not, [.t 71], [0], none⟩] false).seq
  (AC.cond (.t 72) ((AC.region [⟨some 6, .mov, [ci 0], [], none⟩, ⟨some 7, .mov, [cb false], [0, 0], none⟩, ⟨some 8, .mov, [ci 9], [1, 0, 1], none⟩] false).seq AC.ret) AC.skip)).seq
  ((AC.region [⟨some 74, .load 3 true, [.t 10], [], none⟩, ⟨some 75, .mov, [.t 2], [], none⟩, ⟨some 76, .iad 1, [.t 75, ci 0], [1], none⟩, ⟨some 77, .load 1 false, [.t 76], [2], none⟩, ⟨some 78, .len, [.t 77], [3], none⟩, ⟨some 79, .call 27, [.t 74, .t 78, AV.c (V.cl 28 [])], [0, 4], none⟩, ⟨some 73, .mov, [.t 79], [5], none⟩, ⟨some 80, .ext 0, [.t 73], [6], none⟩, ⟨some 81, .ext 1, [.t 73], [6], none⟩, ⟨some 82, .ext 2, [.t 73], [6], none⟩, ⟨some 14, .mov, [.t 80], [7, 5, 0, 1, 2, 3, 4, 5, 6, 7], none⟩, ⟨some 15, .mov, [.t 81], [8, 10, 0, 1, 2, 3, 4, 5, 6, 7, 8, 10], none⟩, ⟨some 16, .mov, [.t 82], [9, 11, 0, 1, 2, 3, 4, 5, 6, 7, 8, 9, 10, 11], none⟩] true).seq
  (((AC.region [⟨some 83, .mov, [.t 16], [], none⟩, ⟨some 84, .bin .neq, [.t 83, ci 0], [0], none⟩] false).seq
  (AC.cond (.t 84) ((AC.region [⟨some 6, .mov, [ci 0], [], none⟩, ⟨some 7, .mov, [cb false], [0, 0], none⟩, ⟨some 8, .mov, [ci 0], [1, 0, 1], none⟩] false).seq AC.ret) AC.skip)).seq
  ((AC.region [⟨some 17, .mov, [AV.c (V.nl 1)], [], none⟩] false).seq
  (((AC.region [⟨some 85, .mov, [.t 14], [], none⟩, ⟨some 86, .len, [.t 85], [0], none⟩, ⟨some 87, .mov, [ci 0], [], none⟩] false).seq
  (AC.block 2 ((AC.region [⟨some 88, .bin .lss, [.t 87, .t 86], [], none⟩] false).seq
  ((AC.cond (.t 88) AC.skip (AC.exit 2)).seq
  ((AC.block 3 ((AC.region [⟨some 89, .iad 1, [.t 85, .t 87], [], none⟩, ⟨some 90, .load 1 false, [.t 89], [0], none⟩, ⟨some 19, .mov, [.t 90], [1, 0, 1], none⟩] false).seq
  (AC.region [⟨some 91, .mov, [.t 17], [], none⟩, ⟨some 92, .mov, [.t 19], [], none⟩, ⟨some 93, .call 29, [.t 92, ci 0], [1], none⟩, ⟨some 94, .bsl 1 [I 0] 1 [0], [.t 93], [2], none⟩, ⟨some 95, .app 1 8, [.t 91, .t 94], [0, 3, 2], none⟩, ⟨some 17, .mov, [.t 95], [4, 4, 0, 1, 2, 3, 4], none⟩] false))).seq
  (AC.region [⟨some 96, .bin .add, [.t 87, ci 1], [], none⟩, ⟨some 87, .mov, [.t 96], [0], none⟩] false)))).loop)).seq
  ((AC.region [⟨some 98, .mov, [.t 17], [], none⟩, ⟨some 99, .call 30, [.t 98], [0], none⟩, ⟨some 97, .mov, [.t 99], [1], none⟩, ⟨some 100, .ext 0, [.t 97], [2], none⟩, ⟨some 101, .ext 1, [.t 97], [2], none⟩, ⟨some 20, .mov, [.t 100], [3, 1, 0, 1, 2, 3], none⟩, ⟨some 21, .mov, [.t 101], [4, 5, 0, 1, 2, 3, 4, 5], none⟩] false).seq
  ((AC.region [⟨some 102, .mov, [.t 20], [], none⟩, ⟨some 103, .mov, [.t 21], [], none⟩, ⟨some 6, .mov, [.t 102], [0, 0], none⟩, ⟨some 7, .mov, [.t 103], [1, 2, 0, 1, 2], none⟩, ⟨some 8, .mov, [ci 0], [3, 0, 1, 2, 3], none⟩] false).seq AC.ret))))))))))))
def rs_curve_Wanted : List RV := [.t 6, .t 7, .t 8]
theorem c_curve_Wanted : compile Tryz.prog ⟨Go.Func.ntmps Tryz.f16, []⟩ (Tryz.f16.body.getD .skip) = some ac_curve_Wanted := by kernel_rfl
theorem go_curve_Wanted : GoT Tryz.f16.ntmps 16 ac_curve_Wanted rs_curve_Wanted := goT Tryz.func16 (by kernel_rfl) c_curve_Wanted (by kernel_rfl)
def ac_parity_Answer : AC :=
  (AC.region [⟨some 4, .box, [.t 0], [], none⟩, ⟨some 8, .mov, [AV.c (V.nl 1)], [], none⟩, ⟨some 9, .mov, [ci 0], [1], none⟩] false).seq
  ((AC.region [⟨some 10, .load 1 true, [.t 4], [], none⟩, ⟨some 11, .mov, [.t 3], [], none⟩, ⟨some 12, .mov, [.t 2], [], none⟩, ⟨some 13, .mov, [.t 1], [], none⟩, ⟨some 14, .call 31, [.t 10, .t 11, .t 12, .t 13], [0, 1, 2, 3], none⟩, ⟨some 15, .ext 0, [.t 14], [4], none⟩, ⟨some 16, .ext 1, [.t 14], [4], none⟩, ⟨some 8, .mov, [.t 15], [5, 4, 0, 1, 2, 3, 4, 5, 6], none⟩, ⟨some 9, .mov, [.t 16], [6, 7, 0, 1, 2, 3, 4, 5, 6, 7], none⟩] false).seq AC.ret)
def rs_parity_Answer : List RV := [.t 8, .t 9]
theorem c_parity_Answer : compile Tryz.prog ⟨Go.Func.ntmps Tryz.f17, []⟩ (Tryz.f17.body.getD .skip) = some ac_parity_Answer := by kernel_rfl
theorem go_parity_Answer : GoT Tryz.f17.ntmps 17 ac_parity_Answer rs_parity_Answer := goT Tryz.func17 (by kernel_rfl) c_parity_Answer (by kernel_rfl)
def ac_curve_Decode : AC :=
  (AC.region [⟨some 4, .box, [.t 0], [], none⟩, ⟨some 5, .box, [.t 1], [], none⟩, ⟨some 8, .alloc [V.nl 1, V.nl 1], [], [], none⟩, ⟨some 9, .mov, [ci 0], [], none⟩] false).seq
  (((AC.region [⟨some 19, .load 1 true, [.t 4], [], none⟩, ⟨some 20, .load 2 true, [.t 5], [], none⟩, ⟨some 21, .call 25, [.t 19, .t 20], [0, 1], none⟩, ⟨some 10, .mov, [.t 21], [2, 2, 0, 1, 2], none⟩] false).seq
  ((AC.region [⟨some 22, .mov, [.t 10], [], none⟩, ⟨some 23, .bin .neq, [.t 22, ci 0], [0], none⟩] false).seq
  (AC.cond (.t 23) ((AC.region [⟨some 24, .build [V.nl 1, V.nl 1] [], [], [], none⟩, ⟨some 25, .mov, [.t 10], [], none⟩, ⟨none, .store 2, [.t 8, .t 24], [0, 0], none⟩, ⟨some 9, .mov, [.t 25], [1, 2, 0, 1, 2], none⟩] false).seq AC.ret) AC.skip))).seq
  (((AC.region [⟨some 26, .load 1 true, [.t 4], [], none⟩, ⟨some 27, .mov, [.t 2], [], none⟩, ⟨some 28, .fad 0, [.t 5], [], none⟩, ⟨some 29, .load 1 false, [.t 28], [2], none⟩, ⟨some 30, .fad 1, [.t 5], [], none⟩, ⟨some 31, .load 1 false, [.t 30], [4], none⟩, ⟨some 32, .bin .add, [.t 31, ci 1], [5], none⟩, ⟨some 33, .mov, [.t 3], [], none⟩, ⟨some 34, .call 32, [.t 26, .t 27, .t 29, .t 32, .t 33], [0, 1, 3, 6, 7], none⟩, ⟨some 11, .mov, [.t 34], [8, 8, 0, 1, 2, 3, 4, 5, 6, 7, 8], none⟩] false).seq
  ((AC.region [⟨some 35, .mov, [.t 11], [], none⟩, ⟨some 36, .bin .neq, [.t 35, ci 0], [0], none⟩] false).seq
  (AC.cond (.t 36) ((AC.region [⟨some 37, .build [V.nl 1, V.nl 1] [], [], [], none⟩, ⟨some 38, .mov, [.t 11], [], none⟩, ⟨none, .store 2, [.t 8, .t 37], [0, 0], none⟩, ⟨some 9, .mov, [.t 38], [1, 2, 0, 1, 2], none⟩] false).seq AC.ret) AC.skip))).seq
  ((AC.region [⟨some 39, .load 1 true, [.t 4], [], none⟩, ⟨some 40, .fad 1, [.t 5], [], none⟩, ⟨some 41, .load 1 false, [.t 40], [1], none⟩, ⟨some 42, .bin .add, [.t 41, ci 1], [2], none⟩, ⟨some 43, .mov, [.t 3], [], none⟩, ⟨some 44, .build [I 0, I 0, V.nl 2] [(0, 1), (1, 1), (2, 1)], [.t 39, .t 42, .t 43], [0, 3, 4], none⟩, ⟨some 12, .alloc [I 0, I 0, V.nl 2], [], [], none⟩, ⟨none, .store 3, [.t 12, .t 44], [6, 5, 0, 1, 2, 3, 4, 5, 6], none⟩] false).seq
  ((AC.region [⟨some 46, .load 3 true, [.t 12], [], none⟩, ⟨some 47, .mov, [.t 2], [], none⟩, ⟨some 48, .call 27, [.t 46, .t 47, AV.c (V.cl 28 [])], [0, 1], none⟩, ⟨some 45, .mov, [.t 48], [2], none⟩, ⟨some 49, .ext 0, [.t 45], [3], none⟩, ⟨some 50, .ext 1, [.t 45], [3], none⟩, ⟨some 51, .ext 2, [.t 45], [3], none⟩, ⟨some 13, .mov, [.t 49], [4, 2, 0, 1, 2, 3, 4], none⟩, ⟨some 14, .mov, [.t 50], [5, 7, 0, 1, 2, 3, 4, 5, 7], none⟩, ⟨some 15, .mov, [.t 51], [6, 8, 0, 1, 2, 3, 4, 5, 6, 7, 8], none⟩] false).seq
  (((AC.region [⟨some 52, .mov, [.t 15], [], none⟩, ⟨some 53, .bin .neq, [.t 52, ci 0], [0], none⟩] false).seq
  (AC.cond (.t 53) ((AC.region [⟨some 54, .build [V.nl 1, V.nl 1] [], [], [], none⟩, ⟨some 55, .mov, [.t 15], [], none⟩, ⟨none, .store 2, [.t 8, .t 54], [0, 0], none⟩, ⟨some 9, .mov, [.t 55], [1, 2, 0, 1, 2], none⟩] false).seq AC.ret) AC.skip)).seq
  ((AC.region [⟨some 56, .mov, [.t 14], [], none⟩, ⟨some 57, .build [V.nl 1, V.nl 1] [(1, 1)], [.t 56], [0], none⟩, ⟨some 16, .alloc [V.nl 1, V.nl 1], [], [], none⟩, ⟨none, .store 2, [.t 16, .t 57], [2, 1, 0, 1, 2], none⟩] false).seq
  (((AC.region [⟨some 58, .mov, [.t 13], [], none⟩, ⟨some 59, .len, [.t 58], [0], none⟩, ⟨some 60, .mov, [ci 0], [], none⟩] false).seq
  (AC.block 0 ((AC.region [⟨some 61, .bin .lss, [.t 60, .t 59], [], none⟩] false).seq
  ((AC.cond (.t 61) AC.skip (AC.exit 0)).seq
  ((AC.block 1 ((AC.region [⟨some 62, .iad 1, [.t 58, .t 60], [], none⟩, ⟨some 63, .load 1 false, [.t 62], [0], none⟩, ⟨some 18, .mov, [.t 63], [1, 0, 1], none⟩] false).seq
  (AC.region [⟨some 64, .fad 0, [.t 16], [], none⟩, ⟨some 65, .load 1 false, [.t 64], [0], none⟩, ⟨some 66, .mov, [.t 18], [], none⟩, ⟨some 67, .call 29, [.t 66, ci 0], [2], none⟩, ⟨some 68, .bsl 1 [I 0] 1 [0], [.t 67], [3], none⟩, ⟨some 69, .app 1 8, [.t 65, .t 68], [1, 4, 3], none⟩, ⟨some 70, .fad 0, [.t 16], [0, 1, 2, 3, 4, 5], none⟩, ⟨none, .store 1, [.t 70, .t 69], [6, 5, 5, 0, 1, 2, 3, 4, 5], none⟩] true))).seq
  (AC.region [⟨some 71, .bin .add, [.t 60, ci 1], [], none⟩, ⟨some 60, .mov, [.t 71], [0], none⟩] false)))).loop)).seq
  ((AC.region [⟨some 72, .load 2 true, [.t 16], [], none⟩, ⟨none, .store 2, [.t 8, .t 72], [0, 0], none⟩, ⟨some 9, .mov, [ci 0], [1, 0, 1], none⟩] false).seq AC.ret))))))))
def rs_curve_Decode : List RV := [.c 8 2 true, .t 9]
theorem c_curve_Decode : compile Tryz.prog ⟨Go.Func.ntmps Tryz.f18, []⟩ (Tryz.f18.body.getD .skip) = some ac_curve_Decode := by kernel_rfl
theorem go_curve_Decode : GoT Tryz.f18.ntmps 18 ac_curve_Decode rs_curve_Decode := goT Tryz.func18 (by kernel_rfl) c_curve_Decode (by kernel_rfl)
def ac_make_Mod : AC :=
  (AC.region [⟨some 4, .mov, [ci 0], [], none⟩] false).seq
  ((AC.region [⟨some 5, .mov, [.t 0], [], none⟩, ⟨some 6, .mov, [.t 1], [], none⟩, ⟨some 7, .bin .rem, [.t 5, .t 6], [0, 1], none⟩, ⟨some 8, .mov, [.t 1], [], none⟩, ⟨some 9, .bin .add, [.t 7, .t 8], [2, 3], none⟩, ⟨some 10, .mov, [.t 1], [], none⟩, ⟨some 11, .bin .rem, [.t 9, .t 10], [4, 5], none⟩, ⟨some 4, .mov, [.t 11], [6, 0, 1, 2, 3, 4, 5, 6], none⟩] false).seq AC.ret)
def rs_make_Mod : List RV := [.t 4]
theorem c_make_Mod : compile Tryz.prog ⟨Go.Func.ntmps Tryz.f19, []⟩ (Tryz.f19.body.getD .skip) = some ac_make_Mod := by kernel_rfl
theorem go_make_Mod : GoT Tryz.f19.ntmps 19 ac_make_Mod rs_make_Mod := goT Tryz.func19 (by kernel_rfl) c_make_Mod (by kernel_rfl)
def ac_curve_check : AC :=
  (AC.region [⟨some 3, .box, [.t 0], [], none⟩, ⟨some 4, .box, [.t 1], [], none⟩, ⟨some 6, .mov, [ci 0], [], none⟩] false).seq
  ((AC.region [⟨some 8, .load 1 true, [.t 3], [], none⟩, ⟨some 9, .load 2 true, [.t 4], [], none⟩, ⟨some 10, .call 25, [.t 8, .t 9], [0, 1], none⟩, ⟨some 7, .mov, [.t 10], [2, 2, 0, 1, 2], none⟩] false).seq
  (((AC.region [⟨some 11, .mov, [.t 7], [], none⟩, ⟨some 12, .bin .eql, [.t 11, ci 0], [0], none⟩, ⟨some 13, .mov, [.t 12], [1], none⟩, ⟨some 14, .mov, [.t 2], [2], some (2, 13, true)⟩, ⟨some 15, .bin .lss, [.t 14, ci 1], [3, 2], some (2, 13, true)⟩, ⟨some 16, .mov, [.t 15], [4, 2, 2], some (2, 13, true)⟩, ⟨some 17, .mov, [.t 2], [5], some (5, 16, false)⟩, ⟨some 18, .bin .gtr, [.t 17, ci 1024], [6, 5], some (5, 16, false)⟩, ⟨some 19, .pick, [.t 16, cb true, .t 18], [5, 7, 2], some (2, 13, true)⟩, ⟨some 20, .pick, [.t 13, .t 19, cb false], [2, 8], none⟩] false).seq
  (AC.cond (.t 20) ((AC.region [⟨some 6, .mov, [ci 1], [], none⟩] false).seq AC.ret) AC.skip)).seq
  ((AC.region [⟨some 21, .mov, [.t 7], [], none⟩, ⟨some 6, .mov, [.t 21], [0, 0], none⟩] false).seq AC.ret)))
def rs_curve_check : List RV := [.t 6]
theorem c_curve_check : compile Tryz.prog ⟨Go.Func.ntmps Tryz.f20, []⟩ (Tryz.f20.body.getD .skip) = some ac_curve_check := by kernel_rfl
theorem go_curve_check : GoT Tryz.f20.ntmps 20 ac_curve_check rs_curve_check := goT Tryz.func20 (by kernel_rfl) c_curve_check (by kernel_rfl)
def ac_tape_bounded : AC :=
  (AC.region [⟨some 2, .mov, [cb false], [], none⟩] false).seq
  ((AC.region [⟨some 3, .mov, [.t 0], [], none⟩, ⟨some 4, .len, [.t 3], [0], none⟩, ⟨some 5, .bin .leq, [.t 4, ci 16384], [1], none⟩, ⟨some 6, .mov, [.t 5], [2], none⟩, ⟨some 7, .mov, [.t 0], [3], some (3, 6, true)⟩, ⟨some 8, .call 33, [.t 7, AV.c (V.cl 34 [])], [4, 3, 3], some (3, 6, true)⟩, ⟨some 9, .un .not, [.t 8], [5, 3], some (3, 6, true)⟩, ⟨some 10, .pick, [.t 6, .t 9, cb false], [3, 6], none⟩, ⟨some 2, .mov, [.t 10], [7, 5, 0, 1, 2, 3, 4, 5, 6, 7], none⟩] false).seq AC.ret)
def rs_tape_bounded : List RV := [.t 2]
theorem c_tape_bounded : compile Tryz.prog ⟨Go.Func.ntmps Tryz.f21, []⟩ (Tryz.f21.body.getD .skip) = some ac_tape_bounded := by kernel_rfl
theorem go_tape_bounded : GoT Tryz.f21.ntmps 21 ac_tape_bounded rs_tape_bounded := goT Tryz.func21 (by kernel_rfl) c_tape_bounded (by kernel_rfl)
def ac_tape_Draws : AC :=
  (AC.region [⟨some 3, .box, [.t 0], [], none⟩, ⟨some 6, .alloc [V.nl 1, I 0], [], [], none⟩, ⟨some 7, .mov, [AV.c (V.nl 1)], [], none⟩, ⟨some 8, .mov, [ci 0], [2], none⟩] false).seq
  (((AC.region [⟨some 11, .load 2 true, [.t 3], [], none⟩, ⟨some 12, .call 24, [.t 11], [0], none⟩, ⟨some 13, .un .not, [.t 12], [1], none⟩] false).seq
  (AC.cond (.t 13) ((AC.region [⟨some 14, .build [V.nl 1, I 0] [], [], [], none⟩, ⟨none, .store 2, [.t 6, .t 14], [0, 0], none⟩, ⟨some 7, .mov, [AV.c (V.nl 1)], [1, 0, 1], none⟩, ⟨some 8, .mov, [ci 2], [2, 0, 1, 2], none⟩] false).seq AC.ret) AC.skip)).seq
  (((AC.region [⟨some 15, .mov, [.t 1], [], none⟩, ⟨some 16, .call 35, [.t 15], [0], none⟩, ⟨some 17, .un .not, [.t 16], [1], none⟩, ⟨some 18, .mov, [.t 17], [2, 1], none⟩, ⟨some 19, .mov, [.t 2], [3], some (3, 18, false)⟩, ⟨some 20, .bin .lss, [.t 19, ci 0], [4, 3], some (3, 18, false)⟩, ⟨some 21, .pick, [.t 18, cb true, .t 20], [3, 5], none⟩] false).seq
  (AC.cond (.t 21) ((AC.region [⟨some 22, .build [V.nl 1, I 0] [], [], [], none⟩, ⟨none, .store 2, [.t 6, .t 22], [0, 0], none⟩, ⟨some 7, .mov, [AV.c (V.nl 1)], [1, 0, 1], none⟩, ⟨some 8, .mov, [ci 1], [2, 0, 1, 2], none⟩] false).seq AC.ret) AC.skip)).seq
  ((AC.region [⟨some 23, .fad 0, [.t 3], [], none⟩, ⟨some 24, .load 1 false, [.t 23], [0], none⟩, ⟨some 25, .fad 1, [.t 3], [], none⟩, ⟨some 26, .load 1 false, [.t 25], [2], none⟩, ⟨some 27, .build [V.nl 1, I 0] [(0, 1), (1, 1)], [.t 24, .t 26], [1, 3], none⟩, ⟨some 28, .build [V.nl 1, I 0, V.nl 1] [(0, 2)], [.t 27], [4], none⟩, ⟨some 29, .box, [.t 28], [5], none⟩, ⟨some 9, .mov, [.t 29], [6, 0, 1, 2, 3, 4, 5, 6], none⟩] false).seq
  (((AC.region [⟨some 30, .mov, [.t 9], [], none⟩, ⟨some 31, .mov, [.t 1], [], none⟩, ⟨some 32, .mov, [.t 2], [], none⟩, ⟨some 33, .call 36, [.t 30, .t 31, .t 32], [0, 1, 2], none⟩, ⟨some 10, .mov, [.t 33], [3, 3, 0, 1, 2, 3], none⟩] false).seq
  ((AC.region [⟨some 34, .mov, [.t 10], [], none⟩, ⟨some 35, .bin .neq, [.t 34, ci 0], [0], none⟩] false).seq
  (AC.cond (.t 35) ((AC.region [⟨some 36, .build [V.nl 1, I 0] [], [], [], none⟩, ⟨some 37, .mov, [.t 10], [], none⟩, ⟨none, .store 2, [.t 6, .t 36], [0, 0], none⟩, ⟨some 7, .mov, [AV.c (V.nl 1)], [2, 0, 2], none⟩, ⟨some 8, .mov, [.t 37], [1, 3, 0, 1, 2, 3], none⟩] false).seq AC.ret) AC.skip))).seq
  ((AC.region [⟨some 38, .fad 0, [.t 3], [], none⟩, ⟨some 39, .load 1 false, [.t 38], [0], none⟩, ⟨some 40, .call 37, [.t 39], [1], none⟩, ⟨some 41, .mov, [.t 9], [], none⟩, ⟨some 42, .nck, [.t 41], [3], none⟩, ⟨some 43, .fad 0, [.t 42], [4], none⟩, ⟨some 44, .fad 1, [.t 43], [5], none⟩, ⟨some 45, .load 1 false, [.t 44], [6], none⟩, ⟨some 46, .build [V.nl 1, I 0] [(0, 1), (1, 1)], [.t 40, .t 45], [2, 7], none⟩, ⟨some 47, .mov, [.t 9], [], none⟩, ⟨some 48, .nck, [.t 47], [9], none⟩, ⟨some 49, .fad 2, [.t 48], [10], none⟩, ⟨some 50, .load 1 false, [.t 49], [11], none⟩, ⟨none, .store 2, [.t 6, .t 46], [8, 2, 0, 1, 2, 3, 4, 5, 6, 7, 8], none⟩, ⟨some 7, .mov, [.t 50], [12, 13, 0, 1, 2, 3, 4, 5, 6, 7, 8, 9, 10, 11, 12, 13], none⟩, ⟨some 8, .mov, [ci 0], [14, 0, 1, 2, 3, 4, 5, 6, 7, 8, 9, 10, 11, 12, 13, 14], none⟩] true).seq AC.ret)))))
def rs_tape_Draws : List RV := [.c 6 2 true, .t 7, .t 8]
theorem c_tape_Draws : compile Tryz.prog ⟨Go.Func.ntmps Tryz.f22, []⟩ (Tryz.f22.body.getD .skip) = some ac_tape_Draws := by kernel_rfl
theorem go_tape_Draws : GoT Tryz.f22.ntmps 22 ac_tape_Draws rs_tape_Draws := goT Tryz.func22 (by kernel_rfl) c_tape_Draws (by kernel_rfl)
def ac_share_Split : AC :=
  (AC.region [⟨some 5, .box, [.t 0], [], none⟩, ⟨some 9, .box, [.t 4], [], none⟩, ⟨some 10, .mov, [AV.c (V.nl 2)], [], none⟩, ⟨some 11, .alloc [V.nl 1, I 0], [], [], none⟩, ⟨some 12, .mov, [ci 0], [2], none⟩] false).seq
  ((AC.region [⟨some 20, .load 1 true, [.t 5], [], none⟩, ⟨some 21, .call 38, [.t 20], [0], none⟩, ⟨some 19, .mov, [.t 21], [1], none⟩, ⟨some 22, .ext 0, [.t 19], [2], none⟩, ⟨some 23, .ext 1, [.t 19], [2], none⟩, ⟨some 13, .mov, [.t 22], [3, 1, 0, 1, 2, 3], none⟩, ⟨some 14, .mov, [.t 23], [4, 5, 0, 1, 2, 3, 4, 5], none⟩] false).seq
  ((AC.block 0 ((AC.region [⟨some 25, .mov, [.t 14], [], none⟩, ⟨some 26, .un .not, [.t 25], [0], none⟩, ⟨some 27, .mov, [.t 26], [1], none⟩, ⟨some 28, .mov, [.t 13], [2], some (2, 27, false)⟩, ⟨some 29, .mov, [.t 1], [2], some (2, 27, false)⟩, ⟨some 30, .call 39, [.t 28, .t 29], [3, 4, 2, 2], some (2, 27, false)⟩, ⟨some 31, .un .not, [.t 30], [5, 2], some (2, 27, false)⟩, ⟨some 32, .pick, [.t 27, cb true, .t 31], [2, 6], none⟩, ⟨some 24, .mov, [.t 32], [7, 5], none⟩] false).seq
  (AC.cond (.t 24) ((AC.region [⟨some 33, .build [V.nl 1, I 0] [], [], [], none⟩, ⟨some 10, .mov, [AV.c (V.nl 2)], [], none⟩, ⟨none, .store 2, [.t 11, .t 33], [0, 1, 0, 1], none⟩, ⟨some 12, .mov, [ci 9], [2, 0, 1, 2], none⟩] false).seq AC.ret) ((AC.region [⟨some 35, .mov, [.t 2], [], none⟩, ⟨some 36, .call 40, [.t 35], [0], none⟩, ⟨some 37, .un .not, [.t 36], [1], none⟩, ⟨some 38, .mov, [.t 37], [2, 1], none⟩, ⟨some 39, .mov, [.t 3], [3], some (3, 38, false)⟩, ⟨some 40, .bin .lss, [.t 39, ci 1], [4, 3], some (3, 38, false)⟩, ⟨some 41, .pick, [.t 38, cb true, .t 40], [3, 5], none⟩, ⟨some 42, .mov, [.t 41], [6, 3], none⟩, ⟨some 43, .mov, [.t 3], [7], some (7, 42, false)⟩, ⟨some 44, .fad 0, [.t 5], [7], some (7, 42, false)⟩, ⟨some 45, .load 1 false, [.t 44], [9, 7], some (7, 42, false)⟩, ⟨some 46, .bin .geq, [.t 43, .t 45], [8, 10, 7], some (7, 42, false)⟩, ⟨some 47, .pick, [.t 42, cb true, .t 46], [7, 11], none⟩, ⟨some 48, .mov, [.t 47], [12, 7], none⟩, ⟨some 49, .mov, [.t 3], [13], some (13, 48, false)⟩, ⟨some 50, .bin .gtr, [.t 49, ci 512], [14, 13], some (13, 48, false)⟩, ⟨some 51, .pick, [.t 48, cb true, .t 50], [13, 15], none⟩, ⟨some 34, .mov, [.t 51], [16, 13], none⟩] false).seq
  (AC.cond (.t 34) ((AC.region [⟨some 52, .build [V.nl 1, I 0] [], [], [], none⟩, ⟨some 10, .mov, [AV.c (V.nl 2)], [], none⟩, ⟨none, .store 2, [.t 11, .t 52], [0, 1, 0, 1], none⟩, ⟨some 12, .mov, [ci 1], [2, 0, 1, 2], none⟩] false).seq AC.ret) AC.skip))))).seq
  ((AC.region [⟨some 54, .load 2 true, [.t 9], [], none⟩, ⟨some 55, .fad 0, [.t 5], [], none⟩, ⟨some 56, .load 1 false, [.t 55], [1], none⟩, ⟨some 57, .mov, [.t 2], [], none⟩, ⟨some 58, .call 22, [.t 54, .t 56, .t 57], [0, 2, 3], none⟩, ⟨some 53, .mov, [.t 58], [4], none⟩, ⟨some 59, .ext 0, [.t 53], [5], none⟩, ⟨some 60, .ext 1, [.t 53], [5], none⟩, ⟨some 61, .ext 2, [.t 53], [5], none⟩, ⟨none, .store 2, [.t 9, .t 59], [6, 4, 0, 1, 2, 3, 4, 5, 6], none⟩, ⟨some 15, .mov, [.t 60], [7, 9, 0, 1, 2, 3, 4, 5, 6, 7, 9], none⟩, ⟨some 16, .mov, [.t 61], [8, 10, 0, 1, 2, 3, 4, 5, 6, 7, 8, 9, 10], none⟩] false).seq
  (((AC.region [⟨some 62, .mov, [.t 16], [], none⟩, ⟨some 63, .bin .neq, [.t 62, ci 0], [0], none⟩] false).seq
  (AC.cond (.t 63) ((AC.region [⟨some 64, .build [V.nl 1, I 0] [], [], [], none⟩, ⟨some 65, .mov, [.t 16], [], none⟩, ⟨some 10, .mov, [AV.c (V.nl 2)], [], none⟩, ⟨none, .store 2, [.t 11, .t 64], [0, 2, 0, 2], none⟩, ⟨some 12, .mov, [.t 65], [1, 3, 0, 1, 2, 3], none⟩] false).seq AC.ret) AC.skip)).seq
  ((AC.region [⟨some 17, .mov, [AV.c (V.nl 1)], [], none⟩] false).seq
  (((AC.region [⟨some 66, .mov, [.t 3], [], none⟩, ⟨some 67, .mov, [ci 0], [], none⟩] false).seq
  (AC.block 1 ((AC.region [⟨some 68, .bin .lss, [.t 67, .t 66], [], none⟩] false).seq
  ((AC.cond (.t 68) AC.skip (AC.exit 1)).seq
  ((AC.block 2 ((AC.region [⟨some 69, .mov, [.t 67], [], none⟩, ⟨some 18, .mov, [.t 69], [0, 0], none⟩] false).seq
  (AC.region [⟨some 70, .mov, [.t 17], [], none⟩, ⟨some 71, .mov, [.t 18], [], none⟩, ⟨some 72, .bin .add, [.t 71, ci 1], [1], none⟩, ⟨some 73, .bsl 1 [I 0] 1 [0], [.t 72], [2], none⟩, ⟨some 74, .app 1 8, [.t 70, .t 73], [0, 3], none⟩, ⟨some 17, .mov, [.t 74], [4, 4, 0, 1, 2, 3, 4], none⟩] false))).seq
  (AC.region [⟨some 75, .bin .add, [.t 67, ci 1], [], none⟩, ⟨some 67, .mov, [.t 75], [0], none⟩] false)))).loop)).seq
  ((AC.region [⟨some 76, .mov, [.t 13], [], none⟩, ⟨some 77, .mov, [.t 1], [], none⟩, ⟨some 78, .bsl 1 [I 0] 1 [0], [.t 77], [1], none⟩, ⟨some 79, .mov, [.t 15], [], none⟩, ⟨some 80, .app 1 8, [.t 78, .t 79], [2, 3], none⟩, ⟨some 81, .mov, [.t 17], [], none⟩, ⟨some 82, .call 41, [.t 76, .t 80, .t 81], [0, 4, 5, 4], none⟩, ⟨some 83, .load 2 true, [.t 9], [], none⟩, ⟨some 10, .mov, [.t 82], [6, 6, 0, 1, 2, 3, 4, 5, 6], none⟩, ⟨none, .store 2, [.t 11, .t 83], [7, 8, 0, 1, 2, 3, 4, 5, 6, 7, 8], none⟩, ⟨some 12, .mov, [ci 0], [9, 0, 1, 2, 3, 4, 5, 6, 7, 8, 9], none⟩] true).seq AC.ret)))))))
def rs_share_Split : List RV := [.t 10, .c 11 2 true, .t 12]
theorem c_share_Split : compile Tryz.prog ⟨Go.Func.ntmps Tryz.f23, []⟩ (Tryz.f23.body.getD .skip) = some ac_share_Split := by kernel_rfl
theorem go_share_Split : GoT Tryz.f23.ntmps 23 ac_share_Split rs_share_Split := goT Tryz.func23 (by kernel_rfl) c_share_Split (by kernel_rfl)
def ac_tape_valid : AC :=
  (AC.region [⟨some 1, .box, [.t 0], [], none⟩, ⟨some 2, .mov, [cb false], [], none⟩] false).seq
  ((AC.region [⟨some 3, .fad 0, [.t 1], [], none⟩, ⟨some 4, .load 1 false, [.t 3], [0], none⟩, ⟨some 5, .len, [.t 4], [1], none⟩, ⟨some 6, .bin .leq, [.t 5, ci 16384], [2], none⟩, ⟨some 7, .mov, [.t 6], [3], none⟩, ⟨some 8, .fad 1, [.t 1], [4], some (4, 7, true)⟩, ⟨some 9, .load 1 false, [.t 8], [5, 4], some (4, 7, true)⟩, ⟨some 10, .bin .geq, [.t 9, ci 0], [6, 4], some (4, 7, true)⟩, ⟨some 11, .pick, [.t 7, .t 10, cb false], [4, 7], none⟩, ⟨some 12, .mov, [.t 11], [8, 4], none⟩, ⟨some 13, .fad 1, [.t 1], [9], some (9, 12, true)⟩, ⟨some 14, .load 1 false, [.t 13], [10, 9], some (9, 12, true)⟩, ⟨some 15, .fad 0, [.t 1], [9], some (9, 12, true)⟩, ⟨some 16, .load 1 false, [.t 15], [12, 9], some (9, 12, true)⟩, ⟨some 17, .len, [.t 16], [13, 9], some (9, 12, true)⟩, ⟨some 18, .bin .leq, [.t 14, .t 17], [11, 14, 9], some (9, 12, true)⟩, ⟨some 19, .pick, [.t 12, .t 18, cb false], [9, 15], none⟩, ⟨some 2, .mov, [.t 19], [16, 9, 0, 1, 2, 3, 4, 5, 6, 7, 8, 9, 10, 11, 12, 13, 14, 15, 16], none⟩] false).seq AC.ret)
def rs_tape_valid : List RV := [.t 2]
theorem c_tape_valid : compile Tryz.prog ⟨Go.Func.ntmps Tryz.f24, []⟩ (Tryz.f24.body.getD .skip) = some ac_tape_valid := by kernel_rfl
theorem go_tape_valid : GoT Tryz.f24.ntmps 24 ac_tape_valid rs_tape_valid := goT Tryz.func24 (by kernel_rfl) c_tape_valid (by kernel_rfl)
def ac_curve_Check : AC :=
  (AC.region [⟨some 2, .box, [.t 0], [], none⟩, ⟨some 3, .box, [.t 1], [], none⟩, ⟨some 4, .mov, [ci 0], [], none⟩] false).seq
  (((AC.region [⟨some 8, .load 1 true, [.t 2], [], none⟩, ⟨some 9, .call 38, [.t 8], [0], none⟩, ⟨some 7, .mov, [.t 9], [1], none⟩, ⟨some 10, .ext 0, [.t 7], [2], none⟩, ⟨some 11, .ext 1, [.t 7], [2], none⟩, ⟨some 5, .mov, [.t 10], [3, 1, 0, 1, 2, 3], none⟩, ⟨some 6, .mov, [.t 11], [4, 5, 0, 1, 2, 3, 4, 5], none⟩] false).seq
  ((AC.region [⟨some 12, .mov, [.t 6], [], none⟩, ⟨some 13, .un .not, [.t 12], [0], none⟩] false).seq
  (AC.cond (.t 13) ((AC.region [⟨some 4, .mov, [ci 9], [], none⟩] false).seq AC.ret) AC.skip))).seq
  (((AC.region [⟨some 14, .load 2 true, [.t 3], [], none⟩, ⟨some 15, .call 42, [.t 14], [0], none⟩, ⟨some 16, .un .not, [.t 15], [1], none⟩, ⟨some 17, .mov, [.t 16], [2, 1], none⟩, ⟨some 18, .fad 0, [.t 3], [3], some (3, 17, false)⟩, ⟨some 19, .load 1 false, [.t 18], [4, 3], some (3, 17, false)⟩, ⟨some 20, .fad 0, [.t 2], [3], some (3, 17, false)⟩, ⟨some 21, .load 1 false, [.t 20], [6, 3], some (3, 17, false)⟩, ⟨some 22, .bin .geq, [.t 19, .t 21], [5, 7, 3], some (3, 17, false)⟩, ⟨some 23, .pick, [.t 17, cb true, .t 22], [3, 8], none⟩] false).seq
  (AC.cond (.t 23) ((AC.region [⟨some 4, .mov, [ci 1], [], none⟩] false).seq AC.ret) AC.skip)).seq
  ((AC.region [⟨some 4, .mov, [ci 0], [], none⟩] false).seq AC.ret)))
def rs_curve_Check : List RV := [.t 4]
theorem c_curve_Check : compile Tryz.prog ⟨Go.Func.ntmps Tryz.f25, []⟩ (Tryz.f25.body.getD .skip) = some ac_curve_Check := by kernel_rfl
theorem go_curve_Check : GoT Tryz.f25.ntmps 25 ac_curve_Check rs_curve_Check := goT Tryz.func25 (by kernel_rfl) c_curve_Check (by kernel_rfl)
def ac_residue_Field_All : AC :=
  (AC.region [⟨some 2, .box, [.t 0], [], none⟩, ⟨some 4, .mov, [cb false], [], none⟩] false).seq
  ((AC.region [⟨some 5, .mov, [.t 1], [], none⟩, ⟨some 6, .mkf 43, [.t 2], [], none⟩, ⟨some 7, .call 33, [.t 5, .t 6], [0, 1], none⟩, ⟨some 8, .un .not, [.t 7], [2], none⟩, ⟨some 4, .mov, [.t 8], [3, 2, 0, 1, 2, 3], none⟩] false).seq AC.ret)
def rs_residue_Field_All : List RV := [.t 4]
theorem c_residue_Field_All : compile Tryz.prog ⟨Go.Func.ntmps Tryz.f26, []⟩ (Tryz.f26.body.getD .skip) = some ac_residue_Field_All := by kernel_rfl
theorem go_residue_Field_All : GoT Tryz.f26.ntmps 26 ac_residue_Field_All rs_residue_Field_All := goT Tryz.func26 (by kernel_rfl) c_residue_Field_All (by kernel_rfl)
def ac_columns_Columns_All : AC :=
  (AC.region [⟨some 3, .box, [.t 0], [], none⟩, ⟨some 6, .mov, [AV.c (V.nl 1)], [], none⟩, ⟨some 7, .mov, [AV.c (V.nl 1)], [1], none⟩, ⟨some 8, .mov, [ci 0], [2], none⟩] false).seq
  ((AC.region [⟨some 9, .mov, [AV.c (V.nl 1)], [], none⟩] false).seq
  ((AC.region [⟨some 10, .mov, [AV.c (V.nl 1)], [], none⟩] false).seq
  (((AC.region [⟨some 14, .mov, [.t 1], [], none⟩, ⟨some 15, .mov, [ci 0], [], none⟩] false).seq
  (AC.block 0 ((AC.region [⟨some 16, .bin .lss, [.t 15, .t 14], [], none⟩] false).seq
  ((AC.cond (.t 16) AC.skip (AC.exit 0)).seq
  ((AC.block 1 ((AC.region [⟨some 17, .mov, [.t 15], [], none⟩, ⟨some 11, .mov, [.t 17], [0, 0], none⟩] false).seq
  ((AC.region [⟨some 19, .mov, [.t 2], [], none⟩, ⟨some 20, .load 3 true, [.t 3], [], none⟩, ⟨some 21, .mov, [.t 11], [], none⟩, ⟨some 22, .callv, [.t 19, .t 20, .t 21], [0, 1, 2], none⟩, ⟨some 18, .mov, [.t 22], [3], none⟩, ⟨some 23, .ext 0, [.t 18], [4], none⟩, ⟨some 24, .ext 1, [.t 18], [4], none⟩, ⟨some 12, .alloc [V.nl 1, V.nl 1], [], [], none⟩, ⟨none, .store 2, [.t 12, .t 23], [7, 5, 3, 0, 1, 2, 3, 4, 5, 7], none⟩, ⟨some 13, .mov, [.t 24], [6, 8, 0, 1, 2, 3, 4, 5, 6, 7, 8], none⟩] false).seq
  (((AC.region [⟨some 25, .mov, [.t 13], [], none⟩, ⟨some 26, .bin .neq, [.t 25, ci 0], [0], none⟩] false).seq
  (AC.cond (.t 26) ((AC.region [⟨some 6, .mov, [AV.c (V.nl 1)], [], none⟩, ⟨some 7, .mov, [AV.c (V.nl 1)], [0, 0], none⟩, ⟨some 8, .mov, [ci 12], [1, 0, 1], none⟩] false).seq AC.ret) AC.skip)).seq
  (AC.region [⟨some 27, .mov, [.t 9], [], none⟩, ⟨some 28, .fad 0, [.t 12], [], none⟩, ⟨some 29, .load 1 false, [.t 28], [1], none⟩, ⟨some 30, .bsl 1 [V.nl 1] 1 [0], [.t 29], [2], none⟩, ⟨some 31, .app 1 24, [.t 27, .t 30], [0, 3], none⟩, ⟨some 32, .mov, [.t 10], [], none⟩, ⟨some 33, .fad 1, [.t 12], [], none⟩, ⟨some 34, .load 1 false, [.t 33], [6], none⟩, ⟨some 35, .app 1 8, [.t 32, .t 34], [5, 7, 4], none⟩, ⟨some 9, .mov, [.t 31], [4, 8, 0, 1, 2, 3, 4], none⟩, ⟨some 10, .mov, [.t 35], [8, 9, 0, 1, 2, 3, 4, 5, 6, 7, 8, 9], none⟩] true))))).seq
  (AC.region [⟨some 36, .bin .add, [.t 15, ci 1], [], none⟩, ⟨some 15, .mov, [.t 36], [0], none⟩] false)))).loop)).seq
  ((AC.region [⟨some 37, .mov, [.t 10], [], none⟩, ⟨some 38, .call 44, [.t 37], [0], none⟩] false).seq
  ((AC.region [⟨some 39, .mov, [.t 9], [], none⟩, ⟨some 40, .mov, [.t 10], [], none⟩, ⟨some 41, .call 45, [.t 40], [1], none⟩, ⟨some 42, .call 37, [.t 41], [2, 2], none⟩, ⟨some 6, .mov, [.t 39], [0, 3, 0], none⟩, ⟨some 7, .mov, [.t 42], [3, 4, 0, 1, 2, 3, 4], none⟩, ⟨some 8, .mov, [ci 0], [5, 0, 1, 2, 3, 4, 5], none⟩] false).seq AC.ret)))))
def rs_columns_Columns_All : List RV := [.t 6, .t 7, .t 8]
theorem c_columns_Columns_All : compile Tryz.prog ⟨Go.Func.ntmps Tryz.f27, []⟩ (Tryz.f27.body.getD .skip) = some ac_columns_Columns_All := by kernel_rfl
theorem go_columns_Columns_All : GoT Tryz.f27.ntmps 27 ac_columns_Columns_All rs_columns_Columns_All := goT Tryz.func27 (by kernel_rfl) c_columns_Columns_All (by kernel_rfl)
def ac_columns_Columns_Decode : AC :=
  (AC.region [⟨some 2, .box, [.t 0], [], none⟩, ⟨some 4, .alloc [V.nl 1, V.nl 1], [], [], none⟩, ⟨some 5, .mov, [ci 0], [], none⟩] false).seq
  ((AC.region [⟨some 6, .mov, [AV.c (V.nl 2)], [], none⟩] false).seq
  (((AC.region [⟨some 10, .fad 2, [.t 2], [], none⟩, ⟨some 11, .load 1 false, [.t 10], [0], none⟩, ⟨some 12, .len, [.t 11], [1], none⟩, ⟨some 13, .mov, [ci 0], [], none⟩] false).seq
  (AC.block 0 ((AC.region [⟨some 14, .bin .lss, [.t 13, .t 12], [], none⟩] false).seq
  ((AC.cond (.t 14) AC.skip (AC.exit 0)).seq
  ((AC.block 1 ((AC.region [⟨some 15, .iad 2, [.t 11, .t 13], [], none⟩, ⟨some 16, .load 2 true, [.t 15], [0], none⟩, ⟨some 8, .alloc [B false, V.nl 1], [], [], none⟩, ⟨none, .store 2, [.t 8, .t 16], [2, 1, 0, 1, 2], none⟩] false).seq
  ((AC.region [⟨some 17, .fad 0, [.t 8], [], none⟩, ⟨some 18, .load 1 false, [.t 17], [0], none⟩, ⟨some 19, .build [I 0, B false] [(1, 1)], [.t 18], [1], none⟩, ⟨some 9, .alloc [I 0, B false], [], [], none⟩, ⟨none, .store 2, [.t 9, .t 19], [3, 2, 0, 1, 2, 3], none⟩] false).seq
  (((AC.region [⟨some 20, .fad 0, [.t 8], [], none⟩, ⟨some 21, .load 1 false, [.t 20], [0], none⟩] false).seq
  (AC.cond (.t 21) (AC.region [⟨some 22, .fad 1, [.t 8], [], none⟩, ⟨some 23, .load 1 false, [.t 22], [0], none⟩, ⟨some 24, .mov, [.t 1], [], none⟩, ⟨some 25, .iad 1, [.t 23, .t 24], [1, 2], none⟩, ⟨some 26, .load 1 false, [.t 25], [3], none⟩, ⟨some 27, .fad 0, [.t 9], [0, 1, 2, 3, 4], none⟩, ⟨none, .store 1, [.t 27, .t 26], [5, 4, 0, 1, 2, 3, 4], none⟩] false) AC.skip)).seq
  (AC.region [⟨some 28, .mov, [.t 6], [], none⟩, ⟨some 29, .load 2 true, [.t 9], [], none⟩, ⟨some 30, .bsl 2 [I 0, B false] 1 [0], [.t 29], [1], none⟩, ⟨some 31, .app 2 16, [.t 28, .t 30], [0, 2], none⟩, ⟨some 6, .mov, [.t 31], [3, 3, 0, 1, 2, 3], none⟩] false))))).seq
  (AC.region [⟨some 32, .bin .add, [.t 13, ci 1], [], none⟩, ⟨some 13, .mov, [.t 32], [0], none⟩] false)))).loop)).seq
  ((AC.region [⟨some 33, .fad 0, [.t 2], [], none⟩, ⟨some 34, .load 1 true, [.t 33], [0], none⟩, ⟨some 35, .mov, [.t 6], [], none⟩, ⟨some 36, .fad 1, [.t 2], [], none⟩, ⟨some 37, .load 1 false, [.t 36], [3], none⟩, ⟨some 38, .call 46, [.t 34, .t 35, .t 37], [1, 2, 4], none⟩, ⟨some 39, .ext 0, [.t 38], [5], none⟩, ⟨some 40, .ext 1, [.t 38], [5], none⟩, ⟨none, .store 2, [.t 4, .t 39], [6, 5, 0, 1, 2, 3, 4, 5, 6, 7], none⟩, ⟨some 5, .mov, [.t 40], [7, 8, 0, 1, 2, 3, 4, 5, 6, 7, 8], none⟩] false).seq AC.ret)))
def rs_columns_Columns_Decode : List RV := [.c 4 2 true, .t 5]
theorem c_columns_Columns_Decode : compile Tryz.prog ⟨Go.Func.ntmps Tryz.f28, []⟩ (Tryz.f28.body.getD .skip) = some ac_columns_Columns_Decode := by kernel_rfl
theorem go_columns_Columns_Decode : GoT Tryz.f28.ntmps 28 ac_columns_Columns_Decode rs_columns_Columns_Decode := goT Tryz.func28 (by kernel_rfl) c_columns_Columns_Decode (by kernel_rfl)
def ac_columns_Coefficient : AC :=
  (AC.region [⟨some 4, .mov, [ci 0], [], none⟩] false).seq
  (((AC.region [⟨some 5, .mov, [.t 1], [], none⟩, ⟨some 6, .mov, [.t 0], [], none⟩, ⟨some 7, .len, [.t 6], [1], none⟩, ⟨some 8, .bin .lss, [.t 5, .t 7], [0, 2], none⟩] false).seq
  (AC.cond (.t 8) ((AC.region [⟨some 9, .mov, [.t 0], [], none⟩, ⟨some 10, .mov, [.t 1], [], none⟩, ⟨some 11, .iad 1, [.t 9, .t 10], [0, 1], none⟩, ⟨some 12, .load 1 false, [.t 11], [2], none⟩, ⟨some 4, .mov, [.t 12], [3, 0, 1, 2, 3], none⟩] false).seq AC.ret) AC.skip)).seq
  ((AC.region [⟨some 4, .mov, [ci 0], [], none⟩] false).seq AC.ret))
def rs_columns_Coefficient : List RV := [.t 4]
theorem c_columns_Coefficient : compile Tryz.prog ⟨Go.Func.ntmps Tryz.f29, []⟩ (Tryz.f29.body.getD .skip) = some ac_columns_Coefficient := by kernel_rfl
theorem go_columns_Coefficient : GoT Tryz.f29.ntmps 29 ac_columns_Coefficient rs_columns_Coefficient := goT Tryz.func29 (by kernel_rfl) c_columns_Coefficient (by kernel_rfl)
def ac_residue_One : AC :=
  (AC.region [⟨some 2, .mov, [ci 0], [], none⟩, ⟨some 3, .mov, [cb false], [0], none⟩] false).seq
  ((AC.region [⟨some 4, .mov, [ci 0], [], none⟩, ⟨some 5, .mov, [cb false], [0, 0], none⟩] false).seq
  (((AC.region [⟨some 8, .mov, [.t 0], [], none⟩, ⟨some 9, .len, [.t 8], [0], none⟩, ⟨some 10, .mov, [ci 0], [], none⟩] false).seq
  (AC.block 0 ((AC.region [⟨some 11, .bin .lss, [.t 10, .t 9], [], none⟩] false).seq
  ((AC.cond (.t 11) AC.skip (AC.exit 0)).seq
  ((AC.block 1 ((AC.region [⟨some 12, .mov, [.t 10], [], none⟩, ⟨some 13, .iad 1, [.t 8, .t 10], [], none⟩, ⟨some 14, .load 1 false, [.t 13], [1], none⟩, ⟨some 6, .mov, [.t 12], [0, 0, 1, 2], none⟩, ⟨some 7, .mov, [.t 14], [2, 3, 0, 1, 2, 3], none⟩] false).seq
  (AC.block 2 ((AC.region [⟨some 16, .mov, [.t 7], [], none⟩, ⟨some 17, .bin .eql, [.t 16, ci 0], [0], none⟩, ⟨some 15, .mov, [.t 17], [1], none⟩] false).seq
  (AC.cond (.t 15) AC.skip ((AC.region [⟨some 19, .mov, [.t 7], [], none⟩, ⟨some 20, .bin .eql, [.t 19, ci 1], [0], none⟩, ⟨some 21, .mov, [.t 20], [1], none⟩, ⟨some 22, .mov, [.t 5], [2], some (2, 21, true)⟩, ⟨some 23, .un .not, [.t 22], [3, 2], some (2, 21, true)⟩, ⟨some 24, .pick, [.t 21, .t 23, cb false], [2, 4], none⟩, ⟨some 18, .mov, [.t 24], [5, 2], none⟩] false).seq
  (AC.cond (.t 18) (AC.region [⟨some 25, .mov, [.t 6], [], none⟩, ⟨some 4, .mov, [.t 25], [0, 0], none⟩, ⟨some 5, .mov, [cb true], [1, 0, 1], none⟩] false) ((AC.region [⟨some 2, .mov, [ci 0], [], none⟩, ⟨some 3, .mov, [cb false], [0, 0], none⟩] false).seq AC.ret)))))))).seq
  (AC.region [⟨some 26, .bin .add, [.t 10, ci 1], [], none⟩, ⟨some 10, .mov, [.t 26], [0], none⟩] false)))).loop)).seq
  ((AC.region [⟨some 27, .mov, [.t 4], [], none⟩, ⟨some 28, .mov, [.t 5], [], none⟩, ⟨some 2, .mov, [.t 27], [0, 0], none⟩, ⟨some 3, .mov, [.t 28], [1, 2, 0, 1, 2], none⟩] false).seq AC.ret)))
def rs_residue_One : List RV := [.t 2, .t 3]
theorem c_residue_One : compile Tryz.prog ⟨Go.Func.ntmps Tryz.f30, []⟩ (Tryz.f30.body.getD .skip) = some ac_residue_One := by kernel_rfl
theorem go_residue_One : GoT Tryz.f30.ntmps 30 ac_residue_One rs_residue_One := goT Tryz.func30 (by kernel_rfl) c_residue_One (by kernel_rfl)
def ac_vector_Combine : AC :=
  (AC.region [⟨some 4, .box, [.t 0], [], none⟩, ⟨some 8, .mov, [AV.c (V.nl 1)], [], none⟩, ⟨some 9, .mov, [ci 0], [1], none⟩] false).seq
  ((AC.region [⟨some 19, .load 1 true, [.t 4], [], none⟩, ⟨some 20, .call 38, [.t 19], [0], none⟩, ⟨some 18, .mov, [.t 20], [1], none⟩, ⟨some 21, .ext 0, [.t 18], [2], none⟩, ⟨some 22, .ext 1, [.t 18], [2], none⟩, ⟨some 10, .mov, [.t 21], [3, 1, 0, 1, 2, 3], none⟩, ⟨some 11, .mov, [.t 22], [4, 5, 0, 1, 2, 3, 4, 5], none⟩] false).seq
  (((AC.region [⟨some 23, .mov, [.t 11], [], none⟩, ⟨some 24, .un .not, [.t 23], [0], none⟩] false).seq
  (AC.cond (.t 24) ((AC.region [⟨some 8, .mov, [AV.c (V.nl 1)], [], none⟩, ⟨some 9, .mov, [ci 9], [0, 0], none⟩] false).seq AC.ret) AC.skip)).seq
  (((AC.region [⟨some 25, .mov, [.t 3], [], none⟩, ⟨some 26, .bin .lss, [.t 25, ci 0], [0], none⟩, ⟨some 27, .mov, [.t 26], [1], none⟩, ⟨some 28, .mov, [.t 3], [2], some (2, 27, false)⟩, ⟨some 29, .bin .gtr, [.t 28, ci 64], [3, 2], some (2, 27, false)⟩, ⟨some 30, .pick, [.t 27, cb true, .t 29], [2, 4], none⟩] false).seq
  (AC.cond (.t 30) ((AC.region [⟨some 8, .mov, [AV.c (V.nl 1)], [], none⟩, ⟨some 9, .mov, [ci 4], [0, 0], none⟩] false).seq AC.ret) AC.skip)).seq
  (((AC.region [⟨some 31, .mov, [.t 1], [], none⟩, ⟨some 32, .len, [.t 31], [0], none⟩, ⟨some 33, .mov, [.t 2], [], none⟩, ⟨some 34, .len, [.t 33], [2], none⟩, ⟨some 35, .bin .neq, [.t 32, .t 34], [1, 3], none⟩] false).seq
  (AC.cond (.t 35) ((AC.region [⟨some 8, .mov, [AV.c (V.nl 1)], [], none⟩, ⟨some 9, .mov, [ci 2], [0, 0], none⟩] false).seq AC.ret) AC.skip)).seq
  ((AC.region [⟨some 36, .mov, [.t 10], [], none⟩, ⟨some 37, .mov, [.t 1], [], none⟩, ⟨some 38, .call 26, [.t 36, .t 37], [0, 1], none⟩, ⟨some 12, .mov, [.t 38], [2, 2, 0, 1, 2], none⟩] false).seq
  (((AC.region [⟨some 39, .mov, [.t 2], [], none⟩, ⟨some 40, .len, [.t 39], [0], none⟩, ⟨some 41, .mov, [ci 0], [], none⟩] false).seq
  (AC.block 0 ((AC.region [⟨some 42, .bin .lss, [.t 41, .t 40], [], none⟩] false).seq
  ((AC.cond (.t 42) AC.skip (AC.exit 0)).seq
  ((AC.block 1 ((AC.region [⟨some 43, .iad 1, [.t 39, .t 41], [], none⟩, ⟨some 44, .load 1 false, [.t 43], [0], none⟩, ⟨some 14, .mov, [.t 44], [1, 0, 1], none⟩] false).seq
  (((AC.region [⟨some 45, .mov, [.t 14], [], none⟩, ⟨some 46, .len, [.t 45], [0], none⟩, ⟨some 47, .mov, [.t 3], [], none⟩, ⟨some 48, .bin .neq, [.t 46, .t 47], [1, 2], none⟩] false).seq
  (AC.cond (.t 48) ((AC.region [⟨some 8, .mov, [AV.c (V.nl 1)], [], none⟩, ⟨some 9, .mov, [ci 2], [0, 0], none⟩] false).seq AC.ret) AC.skip)).seq
  (AC.region [⟨some 49, .mov, [.t 12], [], none⟩, ⟨some 50, .mov, [.t 49], [0], none⟩, ⟨some 51, .mov, [.t 10], [1], some (1, 50, true)⟩, ⟨some 52, .mov, [.t 14], [1], some (1, 50, true)⟩, ⟨some 53, .call 26, [.t 51, .t 52], [2, 3, 1, 1], some (1, 50, true)⟩, ⟨some 54, .pick, [.t 50, .t 53, cb false], [1, 4], none⟩, ⟨some 12, .mov, [.t 54], [5, 4, 0, 1, 2, 3, 4, 5], none⟩] false)))).seq
  (AC.region [⟨some 55, .bin .add, [.t 41, ci 1], [], none⟩, ⟨some 41, .mov, [.t 55], [0], none⟩] false)))).loop)).seq
  (((AC.region [⟨some 56, .mov, [.t 12], [], none⟩, ⟨some 57, .un .not, [.t 56], [0], none⟩] false).seq
  (AC.cond (.t 57) ((AC.region [⟨some 8, .mov, [AV.c (V.nl 1)], [], none⟩, ⟨some 9, .mov, [ci 9], [0, 0], none⟩] false).seq AC.ret) AC.skip)).seq
  ((AC.region [⟨some 58, .mov, [.t 3], [], none⟩, ⟨some 59, .mks 1 [I 0] 8, [.t 58, .t 58], [0, 0], none⟩, ⟨some 15, .mov, [.t 59], [1, 0, 1], none⟩] false).seq
  (((AC.region [⟨some 60, .mov, [.t 2], [], none⟩, ⟨some 61, .len, [.t 60], [0], none⟩, ⟨some 62, .mov, [ci 0], [], none⟩] false).seq
  (AC.block 2 ((AC.region [⟨some 63, .bin .lss, [.t 62, .t 61], [], none⟩] false).seq
  ((AC.cond (.t 63) AC.skip (AC.exit 2)).seq
  ((AC.block 3 ((AC.region [⟨some 64, .mov, [.t 62], [], none⟩, ⟨some 65, .iad 1, [.t 60, .t 62], [], none⟩, ⟨some 66, .load 1 false, [.t 65], [1], none⟩, ⟨some 16, .mov, [.t 64], [0, 0, 1, 2], none⟩, ⟨some 17, .mov, [.t 66], [2, 3, 0, 1, 2, 3], none⟩] false).seq
  (AC.region [⟨some 67, .mov, [.t 10], [], none⟩, ⟨some 68, .mov, [.t 15], [], none⟩, ⟨some 69, .mov, [.t 1], [], none⟩, ⟨some 70, .mov, [.t 16], [], none⟩, ⟨some 71, .iad 1, [.t 69, .t 70], [2, 3], none⟩, ⟨some 72, .load 1 false, [.t 71], [4], none⟩, ⟨some 73, .mov, [.t 17], [], none⟩, ⟨some 74, .call 47, [.t 67, .t 68, .t 72, .t 73], [0, 1, 5, 6], none⟩] false))).seq
  (AC.region [⟨some 75, .bin .add, [.t 62, ci 1], [], none⟩, ⟨some 62, .mov, [.t 75], [0], none⟩] false)))).loop)).seq
  ((AC.region [⟨some 76, .mov, [.t 15], [], none⟩, ⟨some 8, .mov, [.t 76], [0, 0], none⟩, ⟨some 9, .mov, [ci 0], [1, 0, 1], none⟩] false).seq AC.ret))))))))))
def rs_vector_Combine : List RV := [.t 8, .t 9]
theorem c_vector_Combine : compile Tryz.prog ⟨Go.Func.ntmps Tryz.f31, []⟩ (Tryz.f31.body.getD .skip) = some ac_vector_Combine := by kernel_rfl
theorem go_vector_Combine : GoT Tryz.f31.ntmps 31 ac_vector_Combine rs_vector_Combine := goT Tryz.func31 (by kernel_rfl) c_vector_Combine (by kernel_rfl)
def ac_columns_Check : AC :=
  (AC.region [⟨some 5, .box, [.t 0], [], none⟩, ⟨some 10, .mov, [ci 0], [], none⟩] false).seq
  (((AC.region [⟨some 15, .mov, [.t 1], [], none⟩, ⟨some 16, .bin .lss, [.t 15, ci 0], [0], none⟩, ⟨some 17, .mov, [.t 16], [1], none⟩, ⟨some 18, .mov, [.t 1], [2], some (2, 17, false)⟩, ⟨some 19, .bin .gtr, [.t 18, ci 64], [3, 2], some (2, 17, false)⟩, ⟨some 20, .pick, [.t 17, cb true, .t 19], [2, 4], none⟩] false).seq
  (AC.cond (.t 20) ((AC.region [⟨some 10, .mov, [ci 4], [], none⟩] false).seq AC.ret) AC.skip)).seq
  (((AC.region [⟨some 21, .mov, [.t 4], [], none⟩, ⟨some 22, .len, [.t 21], [0], none⟩, ⟨some 23, .mov, [.t 2], [], none⟩, ⟨some 24, .bin .neq, [.t 22, .t 23], [1, 2], none⟩] false).seq
  (AC.cond (.t 24) ((AC.region [⟨some 10, .mov, [ci 2], [], none⟩] false).seq AC.ret) AC.skip)).seq
  ((AC.region [⟨some 11, .mov, [ci 0], [], none⟩, ⟨some 12, .mov, [cb true], [0, 0], none⟩] false).seq
  (((AC.region [⟨some 25, .mov, [.t 4], [], none⟩, ⟨some 26, .len, [.t 25], [0], none⟩, ⟨some 27, .mov, [ci 0], [], none⟩] false).seq
  (AC.block 0 ((AC.region [⟨some 28, .bin .lss, [.t 27, .t 26], [], none⟩] false).seq
  ((AC.cond (.t 28) AC.skip (AC.exit 0)).seq
  ((AC.block 1 ((AC.region [⟨some 29, .iad 2, [.t 25, .t 27], [], none⟩, ⟨some 30, .load 2 true, [.t 29], [0], none⟩, ⟨some 14, .alloc [B false, V.nl 1], [], [], none⟩, ⟨none, .store 2, [.t 14, .t 30], [2, 1, 0, 1, 2], none⟩] false).seq
  (((AC.region [⟨some 31, .fad 0, [.t 14], [], none⟩, ⟨some 32, .load 1 false, [.t 31], [0], none⟩, ⟨some 33, .un .not, [.t 32], [1], none⟩] false).seq
  (AC.cond (.t 33) (AC.exit 1) AC.skip)).seq
  (((AC.region [⟨some 34, .fad 1, [.t 14], [], none⟩, ⟨some 35, .load 1 false, [.t 34], [0], none⟩, ⟨some 36, .len, [.t 35], [1], none⟩, ⟨some 37, .mov, [.t 1], [], none⟩, ⟨some 38, .bin .neq, [.t 36, .t 37], [2, 3], none⟩] false).seq
  (AC.cond (.t 38) ((AC.region [⟨some 10, .mov, [ci 2], [], none⟩] false).seq AC.ret) AC.skip)).seq
  ((AC.region [⟨some 39, .mov, [.t 11], [], none⟩, ⟨some 40, .bin .add, [.t 39, ci 1], [0], none⟩, ⟨some 11, .mov, [.t 40], [1, 0, 1], none⟩] false).seq
  (AC.region [⟨some 41, .mov, [.t 12], [], none⟩, ⟨some 42, .mov, [.t 41], [0], none⟩, ⟨some 43, .fad 0, [.t 5], [1], some (1, 42, true)⟩, ⟨some 44, .load 1 false, [.t 43], [2, 1], some (1, 42, true)⟩, ⟨some 45, .fad 1, [.t 14], [1], some (1, 42, true)⟩, ⟨some 46, .load 1 false, [.t 45], [4, 1], some (1, 42, true)⟩, ⟨some 47, .call 26, [.t 44, .t 46], [3, 5, 1, 1], some (1, 42, true)⟩, ⟨some 48, .pick, [.t 42, .t 47, cb false], [1, 6], none⟩, ⟨some 12, .mov, [.t 48], [7, 6, 0, 1, 2, 3, 4, 5, 6, 7], none⟩] false)))))).seq
  (AC.region [⟨some 49, .bin .add, [.t 27, ci 1], [], none⟩, ⟨some 27, .mov, [.t 49], [0], none⟩] false)))).loop)).seq
  ((AC.block 2 ((AC.region [⟨some 51, .mov, [.t 12], [], none⟩, ⟨some 52, .un .not, [.t 51], [0], none⟩, ⟨some 50, .mov, [.t 52], [1], none⟩] false).seq
  (AC.cond (.t 50) ((AC.region [⟨some 10, .mov, [ci 9], [], none⟩] false).seq AC.ret) ((AC.region [⟨some 54, .mov, [.t 11], [], none⟩, ⟨some 55, .mov, [.t 3], [], none⟩, ⟨some 56, .bin .lss, [.t 54, .t 55], [0, 1], none⟩, ⟨some 53, .mov, [.t 56], [2], none⟩] false).seq
  (AC.cond (.t 53) ((AC.region [⟨some 10, .mov, [ci 11], [], none⟩] false).seq AC.ret) AC.skip))))).seq
  ((AC.region [⟨some 10, .mov, [ci 0], [], none⟩] false).seq AC.ret))))))
def rs_columns_Check : List RV := [.t 10]
theorem c_columns_Check : compile Tryz.prog ⟨Go.Func.ntmps Tryz.f32, []⟩ (Tryz.f32.body.getD .skip) = some ac_columns_Check := by kernel_rfl
theorem go_columns_Check : GoT Tryz.f32.ntmps 32 ac_columns_Check rs_columns_Check := goT Tryz.func32 (by kernel_rfl) c_columns_Check (by kernel_rfl)
def ac_slices_ContainsFunc_int_int : AC :=
  (AC.region [⟨some 4, .mov, [cb false], [], none⟩] false).seq
  ((AC.region [⟨some 5, .mov, [.t 0], [], none⟩, ⟨some 6, .mov, [.t 1], [], none⟩, ⟨some 7, .call 48, [.t 5, .t 6], [0, 1], none⟩, ⟨some 8, .bin .geq, [.t 7, ci 0], [2], none⟩, ⟨some 4, .mov, [.t 8], [3, 2, 0, 1, 2, 3], none⟩] false).seq AC.ret)
def rs_slices_ContainsFunc_int_int : List RV := [.t 4]
theorem c_slices_ContainsFunc_int_int : compile Tryz.prog ⟨Go.Func.ntmps Tryz.f33, []⟩ (Tryz.f33.body.getD .skip) = some ac_slices_ContainsFunc_int_int := by kernel_rfl
theorem go_slices_ContainsFunc_int_int : GoT Tryz.f33.ntmps 33 ac_slices_ContainsFunc_int_int rs_slices_ContainsFunc_int_int := goT Tryz.func33 (by kernel_rfl) c_slices_ContainsFunc_int_int (by kernel_rfl)
def ac_tape_bounded_1 : AC :=
  (AC.region [⟨some 2, .mov, [cb false], [], none⟩] false).seq
  ((AC.region [⟨some 3, .mov, [.t 0], [], none⟩, ⟨some 4, .call 35, [.t 3], [0], none⟩, ⟨some 5, .un .not, [.t 4], [1], none⟩, ⟨some 2, .mov, [.t 5], [2, 1, 0, 1, 2], none⟩] false).seq AC.ret)
def rs_tape_bounded_1 : List RV := [.t 2]
theorem c_tape_bounded_1 : compile Tryz.prog ⟨Go.Func.ntmps Tryz.f34, []⟩ (Tryz.f34.body.getD .skip) = some ac_tape_bounded_1 := by kernel_rfl
theorem go_tape_bounded_1 : GoT Tryz.f34.ntmps 34 ac_tape_bounded_1 rs_tape_bounded_1 := goT Tryz.func34 (by kernel_rfl) c_tape_bounded_1 (by kernel_rfl)
def ac_tape_limit : AC :=
  (AC.region [⟨some 2, .mov, [cb false], [], none⟩] false).seq
  ((AC.region [⟨some 3, .mov, [.t 0], [], none⟩, ⟨some 4, .bin .geq, [.t 3, ci 1], [0], none⟩, ⟨some 5, .mov, [.t 4], [1], none⟩, ⟨some 6, .mov, [.t 0], [2], some (2, 5, true)⟩, ⟨some 7, .bin .leq, [.t 6, ci 2147483647], [3, 2], some (2, 5, true)⟩, ⟨some 8, .pick, [.t 5, .t 7, cb false], [2, 4], none⟩, ⟨some 2, .mov, [.t 8], [5, 2, 0, 1, 2, 3, 4, 5], none⟩] false).seq AC.ret)
def rs_tape_limit : List RV := [.t 2]
theorem c_tape_limit : compile Tryz.prog ⟨Go.Func.ntmps Tryz.f35, []⟩ (Tryz.f35.body.getD .skip) = some ac_tape_limit := by kernel_rfl
theorem go_tape_limit : GoT Tryz.f35.ntmps 35 ac_tape_limit rs_tape_limit := goT Tryz.func35 (by kernel_rfl) c_tape_limit (by kernel_rfl)
def ac_tape_drawing_draw : AC :=
  (AC.region [⟨some 6, .mov, [ci 0], [], none⟩] false).seq
  (((AC.region [⟨some 7, .mov, [ci 0], [], none⟩] false).seq
  (AC.block 0 (((AC.region [⟨some 10, .mov, [.t 7], [], none⟩, ⟨some 11, .mov, [.t 2], [], none⟩, ⟨some 12, .bin .lss, [.t 10, .t 11], [0, 1], none⟩] false).seq
  (AC.cond (.t 12) AC.skip (AC.exit 0))).seq
  ((AC.block 1 ((AC.region [⟨some 16, .mov, [.t 0], [], none⟩, ⟨some 17, .nck, [.t 16], [0], none⟩, ⟨some 18, .fad 0, [.t 17], [1], none⟩, ⟨some 19, .mov, [.t 1], [], none⟩, ⟨some 20, .call 49, [.t 18, .t 19], [2, 3], none⟩, ⟨some 15, .mov, [.t 20], [4], none⟩, ⟨some 21, .ext 0, [.t 15], [5], none⟩, ⟨some 22, .ext 1, [.t 15], [5], none⟩, ⟨some 8, .mov, [.t 21], [6, 4, 0, 1, 2, 3, 4, 5, 6], none⟩, ⟨some 9, .mov, [.t 22], [7, 8, 0, 1, 2, 3, 4, 5, 6, 7, 8], none⟩] false).seq
  (((AC.region [⟨some 23, .mov, [.t 9], [], none⟩, ⟨some 24, .bin .neq, [.t 23, ci 0], [0], none⟩] false).seq
  (AC.cond (.t 24) ((AC.region [⟨some 25, .mov, [.t 9], [], none⟩, ⟨some 6, .mov, [.t 25], [0, 0], none⟩] false).seq AC.ret) AC.skip)).seq
  (AC.region [⟨some 26, .mov, [.t 0], [], none⟩, ⟨some 27, .mov, [.t 0], [], none⟩, ⟨some 28, .nck, [.t 27], [1], none⟩, ⟨some 29, .fad 2, [.t 28], [2], none⟩, ⟨some 30, .load 1 false, [.t 29], [3], none⟩, ⟨some 31, .mov, [.t 8], [], none⟩, ⟨some 32, .bsl 1 [I 0] 1 [0], [.t 31], [5], none⟩, ⟨some 33, .app 1 8, [.t 30, .t 32], [4, 6], none⟩, ⟨some 34, .nck, [.t 26], [0, 0, 1, 2, 3, 4, 5, 6, 7], none⟩, ⟨some 35, .fad 2, [.t 34], [8, 0, 1, 2, 3, 4, 5, 6, 7], none⟩, ⟨none, .store 1, [.t 35, .t 33], [9, 7, 7, 0, 1, 2, 3, 4, 5, 6, 7], none⟩] false)))).seq
  (AC.region [⟨some 13, .mov, [.t 7], [], none⟩, ⟨some 14, .bin .add, [.t 13, ci 1], [0], none⟩, ⟨some 7, .mov, [.t 14], [1, 0, 1], none⟩] false))).loop)).seq
  ((AC.region [⟨some 6, .mov, [ci 0], [], none⟩] false).seq AC.ret))
def rs_tape_drawing_draw : List RV := [.t 6]
theorem c_tape_drawing_draw : compile Tryz.prog ⟨Go.Func.ntmps Tryz.f36, []⟩ (Tryz.f36.body.getD .skip) = some ac_tape_drawing_draw := by kernel_rfl
theorem go_tape_drawing_draw : GoT Tryz.f36.ntmps 36 ac_tape_drawing_draw rs_tape_drawing_draw := goT Tryz.func36 (by kernel_rfl) c_tape_drawing_draw (by kernel_rfl)
def ac_slices_Clone_int_int : AC :=
  (AC.region [⟨some 2, .mov, [AV.c (V.nl 1)], [], none⟩] false).seq
  (((AC.region [⟨some 3, .mov, [.t 0], [], none⟩, ⟨some 4, .isn false, [.t 3, AV.c (V.nl 1)], [0], none⟩] false).seq
  (AC.cond (.t 4) ((AC.region [⟨some 2, .mov, [AV.c (V.nl 1)], [], none⟩] false).seq AC.ret) AC.skip)).seq
  ((AC.region [⟨some 5, .bsl 1 [I 0] 0 [], [], [], none⟩, ⟨some 6, .mov, [.t 0], [], none⟩, ⟨some 7, .app 1 8, [.t 5, .t 6], [0, 1], none⟩, ⟨some 2, .mov, [.t 7], [2, 2, 0, 1, 2], none⟩] false).seq AC.ret))
def rs_slices_Clone_int_int : List RV := [.t 2]
theorem c_slices_Clone_int_int : compile Tryz.prog ⟨Go.Func.ntmps Tryz.f37, []⟩ (Tryz.f37.body.getD .skip) = some ac_slices_Clone_int_int := by kernel_rfl
theorem go_slices_Clone_int_int : GoT Tryz.f37.ntmps 37 ac_slices_Clone_int_int rs_slices_Clone_int_int := goT Tryz.func37 (by kernel_rfl) c_slices_Clone_int_int (by kernel_rfl)
def ac_residue_Of : AC :=
  (AC.region [⟨some 1, .box, [.t 0], [], none⟩, ⟨some 2, .mov, [ci 0], [], none⟩, ⟨some 3, .mov, [cb false], [1], none⟩] false).seq
  (((AC.region [⟨some 5, .fad 0, [.t 1], [], none⟩, ⟨some 6, .load 1 false, [.t 5], [0], none⟩, ⟨some 7, .bin .lss, [.t 6, ci 2], [1], none⟩, ⟨some 8, .mov, [.t 7], [2], none⟩, ⟨some 9, .fad 0, [.t 1], [3], some (3, 8, false)⟩, ⟨some 10, .load 1 false, [.t 9], [4, 3], some (3, 8, false)⟩, ⟨some 11, .bin .gtr, [.t 10, ci 65521], [5, 3], some (3, 8, false)⟩, ⟨some 12, .pick, [.t 8, cb true, .t 11], [3, 6], none⟩] false).seq
  (AC.cond (.t 12) ((AC.region [⟨some 2, .mov, [ci 0], [], none⟩, ⟨some 3, .mov, [cb false], [0, 0], none⟩] false).seq AC.ret) AC.skip)).seq
  (((AC.region [⟨some 4, .mov, [ci 2], [], none⟩] false).seq
  (AC.block 0 (((AC.region [⟨some 13, .mov, [.t 4], [], none⟩, ⟨some 14, .mov, [.t 4], [], none⟩, ⟨some 15, .bin .mul, [.t 13, .t 14], [0, 1], none⟩, ⟨some 16, .fad 0, [.t 1], [], none⟩, ⟨some 17, .load 1 false, [.t 16], [3], none⟩, ⟨some 18, .bin .leq, [.t 15, .t 17], [2, 4], none⟩] false).seq
  (AC.cond (.t 18) AC.skip (AC.exit 0))).seq
  ((AC.block 1 ((AC.region [⟨some 21, .fad 0, [.t 1], [], none⟩, ⟨some 22, .load 1 false, [.t 21], [0], none⟩, ⟨some 23, .mov, [.t 4], [], none⟩, ⟨some 24, .bin .rem, [.t 22, .t 23], [1, 2], none⟩, ⟨some 25, .bin .eql, [.t 24, ci 0], [3], none⟩] false).seq
  (AC.cond (.t 25) ((AC.region [⟨some 2, .mov, [ci 0], [], none⟩, ⟨some 3, .mov, [cb false], [0, 0], none⟩] false).seq AC.ret) AC.skip))).seq
  (AC.region [⟨some 19, .mov, [.t 4], [], none⟩, ⟨some 20, .bin .add, [.t 19, ci 1], [0], none⟩, ⟨some 4, .mov, [.t 20], [1, 0, 1], none⟩] false))).loop)).seq
  ((AC.region [⟨some 26, .fad 0, [.t 1], [], none⟩, ⟨some 27, .load 1 false, [.t 26], [0], none⟩, ⟨some 2, .mov, [.t 27], [1, 0, 1], none⟩, ⟨some 3, .mov, [cb true], [2, 0, 1, 2], none⟩] false).seq AC.ret)))
def rs_residue_Of : List RV := [.t 2, .t 3]
theorem c_residue_Of : compile Tryz.prog ⟨Go.Func.ntmps Tryz.f38, []⟩ (Tryz.f38.body.getD .skip) = some ac_residue_Of := by kernel_rfl
theorem go_residue_Of : GoT Tryz.f38.ntmps 38 ac_residue_Of rs_residue_Of := goT Tryz.func38 (by kernel_rfl) c_residue_Of (by kernel_rfl)
def ac_residue_Field_Has : AC :=
  (AC.region [⟨some 4, .mov, [cb false], [], none⟩] false).seq
  ((AC.region [⟨some 5, .mov, [.t 1], [], none⟩, ⟨some 6, .bin .geq, [.t 5, ci 0], [0], none⟩, ⟨some 7, .mov, [.t 6], [1], none⟩, ⟨some 8, .mov, [.t 1], [2], some (2, 7, true)⟩, ⟨some 9, .mov, [.t 0], [2], some (2, 7, true)⟩, ⟨some 10, .bin .lss, [.t 8, .t 9], [3, 4, 2], some (2, 7, true)⟩, ⟨some 11, .pick, [.t 7, .t 10, cb false], [2, 5], none⟩, ⟨some 4, .mov, [.t 11], [6, 2, 0, 1, 2, 3, 4, 5, 6], none⟩] false).seq AC.ret)
def rs_residue_Field_Has : List RV := [.t 4]
theorem c_residue_Field_Has : compile Tryz.prog ⟨Go.Func.ntmps Tryz.f39, []⟩ (Tryz.f39.body.getD .skip) = some ac_residue_Field_Has := by kernel_rfl
theorem go_residue_Field_Has : GoT Tryz.f39.ntmps 39 ac_residue_Field_Has rs_residue_Field_Has := goT Tryz.func39 (by kernel_rfl) c_residue_Field_Has (by kernel_rfl)
def ac_share_threshold : AC :=
  (AC.region [⟨some 2, .mov, [cb false], [], none⟩] false).seq
  ((AC.region [⟨some 3, .mov, [.t 0], [], none⟩, ⟨some 4, .bin .geq, [.t 3, ci 0], [0], none⟩, ⟨some 5, .mov, [.t 4], [1], none⟩, ⟨some 6, .mov, [.t 0], [2], some (2, 5, true)⟩, ⟨some 7, .bin .leq, [.t 6, ci 9], [3, 2], some (2, 5, true)⟩, ⟨some 8, .pick, [.t 5, .t 7, cb false], [2, 4], none⟩, ⟨some 2, .mov, [.t 8], [5, 2, 0, 1, 2, 3, 4, 5], none⟩] false).seq AC.ret)
def rs_share_threshold : List RV := [.t 2]
theorem c_share_threshold : compile Tryz.prog ⟨Go.Func.ntmps Tryz.f40, []⟩ (Tryz.f40.body.getD .skip) = some ac_share_threshold := by kernel_rfl
theorem go_share_threshold : GoT Tryz.f40.ntmps 40 ac_share_threshold rs_share_threshold := goT Tryz.func40 (by kernel_rfl) c_share_threshold (by kernel_rfl)
def ac_share_shares : AC :=
  (AC.region [⟨some 6, .mov, [AV.c (V.nl 2)], [], none⟩] false).seq
  ((AC.region [⟨some 7, .mov, [AV.c (V.nl 2)], [], none⟩] false).seq
  (((AC.region [⟨some 10, .mov, [.t 2], [], none⟩, ⟨some 11, .len, [.t 10], [0], none⟩, ⟨some 12, .mov, [ci 0], [], none⟩] false).seq
  (AC.block 0 ((AC.region [⟨some 13, .bin .lss, [.t 12, .t 11], [], none⟩] false).seq
  ((AC.cond (.t 13) AC.skip (AC.exit 0)).seq
  ((AC.block 1 ((AC.region [⟨some 14, .iad 1, [.t 10, .t 12], [], none⟩, ⟨some 15, .load 1 false, [.t 14], [0], none⟩, ⟨some 9, .mov, [.t 15], [1, 0, 1], none⟩] false).seq
  (AC.region [⟨some 16, .mov, [.t 7], [], none⟩, ⟨some 17, .mov, [.t 9], [], none⟩, ⟨some 18, .mov, [.t 0], [], none⟩, ⟨some 19, .mov, [.t 1], [], none⟩, ⟨some 20, .mov, [.t 9], [], none⟩, ⟨some 21, .call 50, [.t 18, .t 19, .t 20], [2, 3, 4], none⟩, ⟨some 22, .build [I 0, I 0] [(0, 1), (1, 1)], [.t 17, .t 21], [1, 5], none⟩, ⟨some 23, .bsl 2 [I 0, I 0] 1 [0], [.t 22], [6], none⟩, ⟨some 24, .app 2 16, [.t 16, .t 23], [0, 7, 5], none⟩, ⟨some 7, .mov, [.t 24], [8, 8, 0, 1, 2, 3, 4, 5, 6, 7, 8], none⟩] false))).seq
  (AC.region [⟨some 25, .bin .add, [.t 12, ci 1], [], none⟩, ⟨some 12, .mov, [.t 25], [0], none⟩] false)))).loop)).seq
  ((AC.region [⟨some 26, .mov, [.t 7], [], none⟩, ⟨some 6, .mov, [.t 26], [0, 0], none⟩] false).seq AC.ret)))
def rs_share_shares : List RV := [.t 6]
theorem c_share_shares : compile Tryz.prog ⟨Go.Func.ntmps Tryz.f41, []⟩ (Tryz.f41.body.getD .skip) = some ac_share_shares := by kernel_rfl
theorem go_share_shares : GoT Tryz.f41.ntmps 41 ac_share_shares rs_share_shares := goT Tryz.func41 (by kernel_rfl) c_share_shares (by kernel_rfl)
def ac_curve_valid : AC :=
  (AC.region [⟨some 1, .box, [.t 0], [], none⟩, ⟨some 2, .mov, [cb false], [], none⟩] false).seq
  ((AC.region [⟨some 3, .fad 0, [.t 1], [], none⟩, ⟨some 4, .load 1 false, [.t 3], [0], none⟩, ⟨some 5, .bin .geq, [.t 4, ci 2], [1], none⟩, ⟨some 6, .mov, [.t 5], [2], none⟩, ⟨some 7, .fad 0, [.t 1], [3], some (3, 6, true)⟩, ⟨some 8, .load 1 false, [.t 7], [4, 3], some (3, 6, true)⟩, ⟨some 9, .bin .leq, [.t 8, ci 10], [5, 3], some (3, 6, true)⟩, ⟨some 10, .pick, [.t 6, .t 9, cb false], [3, 6], none⟩, ⟨some 11, .mov, [.t 10], [7, 3], none⟩, ⟨some 12, .fad 1, [.t 1], [8], some (8, 11, true)⟩, ⟨some 13, .load 1 false, [.t 12], [9, 8], some (8, 11, true)⟩, ⟨some 14, .bin .geq, [.t 13, ci 1], [10, 8], some (8, 11, true)⟩, ⟨some 15, .pick, [.t 11, .t 14, cb false], [8, 11], none⟩, ⟨some 16, .mov, [.t 15], [12, 8], none⟩, ⟨some 17, .fad 1, [.t 1], [13], some (13, 16, true)⟩, ⟨some 18, .load 1 false, [.t 17], [14, 13], some (13, 16, true)⟩, ⟨some 19, .fad 0, [.t 1], [13], some (13, 16, true)⟩, ⟨some 20, .load 1 false, [.t 19], [16, 13], some (13, 16, true)⟩, ⟨some 21, .bin .lss, [.t 18, .t 20], [15, 17, 13], some (13, 16, true)⟩, ⟨some 22, .pick, [.t 16, .t 21, cb false], [13, 18], none⟩, ⟨some 2, .mov, [.t 22], [19, 13, 0, 1, 2, 3, 4, 5, 6, 7, 8, 9, 10, 11, 12, 13, 14, 15, 16, 17, 18, 19], none⟩] false).seq AC.ret)
def rs_curve_valid : List RV := [.t 2]
theorem c_curve_valid : compile Tryz.prog ⟨Go.Func.ntmps Tryz.f42, []⟩ (Tryz.f42.body.getD .skip) = some ac_curve_valid := by kernel_rfl
theorem go_curve_valid : GoT Tryz.f42.ntmps 42 ac_curve_valid rs_curve_valid := goT Tryz.func42 (by kernel_rfl) c_curve_valid (by kernel_rfl)
def ac_residue_Field_All_1 : AC :=
  (AC.region [⟨some 3, .mov, [cb false], [], none⟩] false).seq
  ((AC.region [⟨some 4, .load 1 false, [.t 1], [], none⟩, ⟨some 5, .mov, [.t 0], [], none⟩, ⟨some 6, .call 39, [.t 4, .t 5], [0, 1], none⟩, ⟨some 7, .un .not, [.t 6], [2], none⟩, ⟨some 3, .mov, [.t 7], [3, 2, 0, 1, 2, 3], none⟩] false).seq AC.ret)
def rs_residue_Field_All_1 : List RV := [.t 3]
theorem c_residue_Field_All_1 : compile Tryz.prog ⟨Go.Func.ntmps Tryz.f43, []⟩ (Tryz.f43.body.getD .skip) = some ac_residue_Field_All_1 := by kernel_rfl
theorem go_residue_Field_All_1 : GoT Tryz.f43.ntmps 43 ac_residue_Field_All_1 rs_residue_Field_All_1 := goT Tryz.func43 (by kernel_rfl) c_residue_Field_All_1 (by kernel_rfl)
def ac_slices_Sort_int_int : AC :=
  (AC.region [⟨some 3, .mov, [.t 0], [], none⟩, ⟨some 4, .len, [.t 3], [0], none⟩, ⟨some 2, .mov, [.t 4], [1, 0, 1], none⟩] false).seq
  (AC.region [⟨some 5, .mov, [.t 0], [], none⟩, ⟨some 6, .mov, [.t 2], [], none⟩, ⟨some 7, .mov, [.t 2], [], none⟩, ⟨some 8, .conv .u64, [.t 7], [2], none⟩, ⟨some 9, .call 52, [.t 8], [3], none⟩, ⟨some 10, .call 51, [.t 5, ci 0, .t 6, .t 9], [0, 1, 4, 4], none⟩] false)
def rs_slices_Sort_int_int : List RV := []
theorem c_slices_Sort_int_int : compile Tryz.prog ⟨Go.Func.ntmps Tryz.f44, []⟩ (Tryz.f44.body.getD .skip) = some ac_slices_Sort_int_int := by kernel_rfl
theorem go_slices_Sort_int_int : GoT Tryz.f44.ntmps 44 ac_slices_Sort_int_int rs_slices_Sort_int_int := goT Tryz.func44 (by kernel_rfl) c_slices_Sort_int_int (by kernel_rfl)
def ac_slices_Compact_int_int : AC :=
  (AC.region [⟨some 2, .mov, [AV.c (V.nl 1)], [], none⟩] false).seq
  (((AC.region [⟨some 6, .mov, [.t 0], [], none⟩, ⟨some 7, .len, [.t 6], [0], none⟩, ⟨some 8, .bin .lss, [.t 7, ci 2], [1], none⟩] false).seq
  (AC.cond (.t 8) ((AC.region [⟨some 9, .mov, [.t 0], [], none⟩, ⟨some 2, .mov, [.t 9], [0, 0], none⟩] false).seq AC.ret) AC.skip)).seq
  (((AC.region [⟨some 3, .mov, [ci 1], [], none⟩] false).seq
  (AC.block 0 (((AC.region [⟨some 10, .mov, [.t 3], [], none⟩, ⟨some 11, .mov, [.t 0], [], none⟩, ⟨some 12, .len, [.t 11], [1], none⟩, ⟨some 13, .bin .lss, [.t 10, .t 12], [0, 2], none⟩] false).seq
  (AC.cond (.t 13) AC.skip (AC.exit 0))).seq
  ((AC.block 1 ((AC.region [⟨some 16, .mov, [.t 0], [], none⟩, ⟨some 17, .mov, [.t 3], [], none⟩, ⟨some 18, .iad 1, [.t 16, .t 17], [0, 1], none⟩, ⟨some 19, .load 1 false, [.t 18], [2], none⟩, ⟨some 20, .mov, [.t 0], [], none⟩, ⟨some 21, .mov, [.t 3], [], none⟩, ⟨some 22, .bin .sub, [.t 21, ci 1], [5], none⟩, ⟨some 23, .iad 1, [.t 20, .t 22], [4, 6], none⟩, ⟨some 24, .load 1 false, [.t 23], [7], none⟩, ⟨some 25, .bin .eql, [.t 19, .t 24], [3, 8], none⟩] true).seq
  (AC.cond (.t 25) ((AC.region [⟨some 26, .mov, [.t 0], [], none⟩, ⟨some 27, .mov, [.t 3], [], none⟩, ⟨some 28, .slc true false false 1, [.t 26, .t 27], [0, 1], none⟩, ⟨some 4, .mov, [.t 28], [2, 0, 1, 2], none⟩] false).seq
  (((AC.region [⟨some 5, .mov, [ci 1], [], none⟩] false).seq
  (AC.block 2 (((AC.region [⟨some 29, .mov, [.t 5], [], none⟩, ⟨some 30, .mov, [.t 4], [], none⟩, ⟨some 31, .len, [.t 30], [1], none⟩, ⟨some 32, .bin .lss, [.t 29, .t 31], [0, 2], none⟩] false).seq
  (AC.cond (.t 32) AC.skip (AC.exit 2))).seq
  ((AC.block 3 ((AC.region [⟨some 35, .mov, [.t 4], [], none⟩, ⟨some 36, .mov, [.t 5], [], none⟩, ⟨some 37, .iad 1, [.t 35, .t 36], [0, 1], none⟩, ⟨some 38, .load 1 false, [.t 37], [2], none⟩, ⟨some 39, .mov, [.t 4], [], none⟩, ⟨some 40, .mov, [.t 5], [], none⟩, ⟨some 41, .bin .sub, [.t 40, ci 1], [5], none⟩, ⟨some 42, .iad 1, [.t 39, .t 41], [4, 6], none⟩, ⟨some 43, .load 1 false, [.t 42], [7], none⟩, ⟨some 44, .bin .neq, [.t 38, .t 43], [3, 8], none⟩] true).seq
  (AC.cond (.t 44) ((AC.region [⟨some 45, .mov, [.t 0], [], none⟩, ⟨some 46, .mov, [.t 3], [], none⟩, ⟨some 47, .mov, [.t 4], [], none⟩, ⟨some 48, .mov, [.t 5], [], none⟩, ⟨some 49, .iad 1, [.t 47, .t 48], [2, 3], none⟩, ⟨some 50, .load 1 false, [.t 49], [4], none⟩, ⟨some 51, .iad 1, [.t 45, .t 46], [0, 1, 0, 1, 2, 3, 4, 5], none⟩, ⟨none, .store 1, [.t 51, .t 50], [6, 5, 0, 1, 2, 3, 4, 5], none⟩] false).seq
  (AC.region [⟨some 52, .mov, [.t 3], [], none⟩, ⟨some 53, .bin .add, [.t 52, ci 1], [0], none⟩, ⟨some 3, .mov, [.t 53], [1, 0, 1], none⟩] false)) AC.skip))).seq
  (AC.region [⟨some 33, .mov, [.t 5], [], none⟩, ⟨some 34, .bin .add, [.t 33, ci 1], [0], none⟩, ⟨some 5, .mov, [.t 34], [1, 0, 1], none⟩] false))).loop)).seq
  ((AC.clr { sl := 0, il := 3, d1 := 54, d2 := 55, d3 := 56, k := 1, z := [I 0] }).seq
  ((AC.region [⟨some 57, .mov, [.t 0], [], none⟩, ⟨some 58, .mov, [.t 3], [], none⟩, ⟨some 59, .slc false true false 1, [.t 57, .t 58], [0, 1], none⟩, ⟨some 2, .mov, [.t 59], [2, 0, 1, 2], none⟩] false).seq AC.ret)))) AC.skip))).seq
  (AC.region [⟨some 14, .mov, [.t 3], [], none⟩, ⟨some 15, .bin .add, [.t 14, ci 1], [0], none⟩, ⟨some 3, .mov, [.t 15], [1, 0, 1], none⟩] false))).loop)).seq
  ((AC.region [⟨some 60, .mov, [.t 0], [], none⟩, ⟨some 2, .mov, [.t 60], [0, 0], none⟩] false).seq AC.ret)))
def rs_slices_Compact_int_int : List RV := [.t 2]
theorem c_slices_Compact_int_int : compile Tryz.prog ⟨Go.Func.ntmps Tryz.f45, []⟩ (Tryz.f45.body.getD .skip) = some ac_slices_Compact_int_int := by kernel_rfl
theorem go_slices_Compact_int_int : GoT Tryz.f45.ntmps 45 ac_slices_Compact_int_int rs_slices_Compact_int_int := goT Tryz.func45 (by kernel_rfl) c_slices_Compact_int_int (by kernel_rfl)
def ac_unique_Decode : AC :=
  (AC.region [⟨some 3, .box, [.t 0], [], none⟩, ⟨some 6, .alloc [V.nl 1, V.nl 1], [], [], none⟩, ⟨some 7, .mov, [ci 0], [], none⟩] false).seq
  ((AC.region [⟨some 11, .load 1 true, [.t 3], [], none⟩, ⟨some 12, .mov, [.t 1], [], none⟩, ⟨some 13, .mov, [.t 2], [], none⟩, ⟨some 14, .call 53, [.t 11, .t 12, .t 13], [0, 1, 2], none⟩, ⟨some 10, .mov, [.t 14], [3], none⟩, ⟨some 15, .ext 0, [.t 10], [4], none⟩, ⟨some 16, .ext 1, [.t 10], [4], none⟩, ⟨some 8, .alloc [V.nl 1, V.nl 1], [], [], none⟩, ⟨none, .store 2, [.t 8, .t 15], [7, 5, 3, 0, 1, 2, 3, 4, 5, 7], none⟩, ⟨some 9, .mov, [.t 16], [6, 8, 0, 1, 2, 3, 4, 5, 6, 7, 8], none⟩] false).seq
  (((AC.region [⟨some 17, .mov, [.t 9], [], none⟩, ⟨some 18, .ldg 0, [], [], none⟩, ⟨some 19, .call 54, [.t 17, .t 18], [0, 1], none⟩] false).seq
  (AC.cond (.t 19) ((AC.region [⟨some 20, .build [V.nl 1, V.nl 1] [], [], [], none⟩, ⟨none, .store 2, [.t 6, .t 20], [0, 0], none⟩, ⟨some 7, .mov, [ci 12], [1, 0, 1], none⟩] false).seq AC.ret) AC.skip)).seq
  ((AC.region [⟨some 21, .load 2 true, [.t 8], [], none⟩, ⟨some 22, .mov, [.t 9], [], none⟩, ⟨some 23, .call 55, [.t 22], [1], none⟩, ⟨none, .store 2, [.t 6, .t 21], [0, 2, 0], none⟩, ⟨some 7, .mov, [.t 23], [2, 3, 0, 1, 2, 3], none⟩] true).seq AC.ret)))
def rs_unique_Decode : List RV := [.c 6 2 true, .t 7]
theorem c_unique_Decode : compile Tryz.prog ⟨Go.Func.ntmps Tryz.f46, []⟩ (Tryz.f46.body.getD .skip) = some ac_unique_Decode := by kernel_rfl
theorem go_unique_Decode : GoT Tryz.f46.ntmps 46 ac_unique_Decode rs_unique_Decode := goT Tryz.func46 (by kernel_rfl) c_unique_Decode (by kernel_rfl)
def ac_residue_Field_AddTimes : AC :=
  (AC.region [⟨some 10, .mov, [.t 3], [], none⟩, ⟨some 11, .len, [.t 10], [0], none⟩, ⟨some 12, .mov, [ci 0], [], none⟩] false).seq
  (AC.block 0 ((AC.region [⟨some 13, .bin .lss, [.t 12, .t 11], [], none⟩] false).seq
  ((AC.cond (.t 13) AC.skip (AC.exit 0)).seq
  ((AC.block 1 ((AC.region [⟨some 14, .mov, [.t 12], [], none⟩, ⟨some 15, .iad 1, [.t 10, .t 12], [], none⟩, ⟨some 16, .load 1 false, [.t 15], [1], none⟩, ⟨some 8, .mov, [.t 14], [0, 0, 1, 2], none⟩, ⟨some 9, .mov, [.t 16], [2, 3, 0, 1, 2, 3], none⟩] false).seq
  (AC.region [⟨some 17, .mov, [.t 1], [], none⟩, ⟨some 18, .mov, [.t 8], [], none⟩, ⟨some 19, .mov, [.t 0], [], none⟩, ⟨some 20, .mov, [.t 1], [], none⟩, ⟨some 21, .mov, [.t 8], [], none⟩, ⟨some 22, .iad 1, [.t 20, .t 21], [3, 4], none⟩, ⟨some 23, .load 1 false, [.t 22], [5], none⟩, ⟨some 24, .mov, [.t 0], [], none⟩, ⟨some 25, .mov, [.t 2], [], none⟩, ⟨some 26, .mov, [.t 9], [], none⟩, ⟨some 27, .call 57, [.t 24, .t 25, .t 26], [7, 8, 9], none⟩, ⟨some 28, .call 56, [.t 19, .t 23, .t 27], [2, 6, 10, 10], none⟩, ⟨some 29, .iad 1, [.t 17, .t 18], [0, 1, 0, 1, 2, 3, 4, 5, 6, 7, 8, 9, 10, 11], none⟩, ⟨none, .store 1, [.t 29, .t 28], [12, 11, 11, 0, 1, 2, 3, 4, 5, 6, 7, 8, 9, 10, 11], none⟩] true))).seq
  (AC.region [⟨some 30, .bin .add, [.t 12, ci 1], [], none⟩, ⟨some 12, .mov, [.t 30], [0], none⟩] false)))).loop)
def rs_residue_Field_AddTimes : List RV := []
theorem c_residue_Field_AddTimes : compile Tryz.prog ⟨Go.Func.ntmps Tryz.f47, []⟩ (Tryz.f47.body.getD .skip) = some ac_residue_Field_AddTimes := by kernel_rfl
theorem go_residue_Field_AddTimes : GoT Tryz.f47.ntmps 47 ac_residue_Field_AddTimes rs_residue_Field_AddTimes := goT Tryz.func47 (by kernel_rfl) c_residue_Field_AddTimes (by kernel_rfl)
def ac_slices_IndexFunc_int_int : AC :=
  (AC.region [⟨some 4, .mov, [ci 0], [], none⟩] false).seq
  (((AC.region [⟨some 6, .mov, [.t 0], [], none⟩, ⟨some 7, .len, [.t 6], [0], none⟩, ⟨some 8, .mov, [ci 0], [], none⟩] false).seq
  (AC.block 0 ((AC.region [⟨some 9, .bin .lss, [.t 8, .t 7], [], none⟩] false).seq
  ((AC.cond (.t 9) AC.skip (AC.exit 0)).seq
  ((AC.block 1 ((AC.region [⟨some 10, .mov, [.t 8], [], none⟩, ⟨some 5, .mov, [.t 10], [0, 0], none⟩] false).seq
  ((AC.region [⟨some 11, .mov, [.t 1], [], none⟩, ⟨some 12, .mov, [.t 0], [], none⟩, ⟨some 13, .mov, [.t 5], [], none⟩, ⟨some 14, .iad 1, [.t 12, .t 13], [1, 2], none⟩, ⟨some 15, .load 1 false, [.t 14], [3], none⟩, ⟨some 16, .callv, [.t 11, .t 15], [0, 4], none⟩] false).seq
  (AC.cond (.t 16) ((AC.region [⟨some 17, .mov, [.t 5], [], none⟩, ⟨some 4, .mov, [.t 17], [0, 0], none⟩] false).seq AC.ret) AC.skip)))).seq
  (AC.region [⟨some 18, .bin .add, [.t 8, ci 1], [], none⟩, ⟨some 8, .mov, [.t 18], [0], none⟩] false)))).loop)).seq
  ((AC.region [⟨some 4, .mov, [ci (-1)], [], none⟩] false).seq AC.ret))
def rs_slices_IndexFunc_int_int : List RV := [.t 4]
theorem c_slices_IndexFunc_int_int : compile Tryz.prog ⟨Go.Func.ntmps Tryz.f48, []⟩ (Tryz.f48.body.getD .skip) = some ac_slices_IndexFunc_int_int := by kernel_rfl
theorem go_slices_IndexFunc_int_int : GoT Tryz.f48.ntmps 48 ac_slices_IndexFunc_int_int rs_slices_IndexFunc_int_int := goT Tryz.func48 (by kernel_rfl) c_slices_IndexFunc_int_int (by kernel_rfl)
def ac_tape_position_next : AC :=
  (AC.region [⟨some 4, .mov, [ci 0], [], none⟩, ⟨some 5, .mov, [ci 0], [0], none⟩] false).seq
  (((AC.region [⟨some 7, .mov, [.t 0], [], none⟩, ⟨some 8, .nck, [.t 7], [0], none⟩, ⟨some 9, .fad 1, [.t 8], [1], none⟩, ⟨some 10, .load 1 false, [.t 9], [2], none⟩, ⟨some 11, .mov, [.t 0], [], none⟩, ⟨some 12, .nck, [.t 11], [4], none⟩, ⟨some 13, .fad 0, [.t 12], [5], none⟩, ⟨some 14, .load 1 false, [.t 13], [6], none⟩, ⟨some 15, .len, [.t 14], [7], none⟩, ⟨some 16, .bin .eql, [.t 10, .t 15], [3, 8], none⟩] true).seq
  (AC.cond (.t 16) ((AC.region [⟨some 4, .mov, [ci 0], [], none⟩, ⟨some 5, .mov, [ci 3], [0, 0], none⟩] false).seq AC.ret) AC.skip)).seq
  ((AC.region [⟨some 17, .mov, [.t 0], [], none⟩, ⟨some 18, .nck, [.t 17], [0], none⟩, ⟨some 19, .fad 0, [.t 18], [1], none⟩, ⟨some 20, .load 1 false, [.t 19], [2], none⟩, ⟨some 21, .mov, [.t 0], [], none⟩, ⟨some 22, .nck, [.t 21], [4], none⟩, ⟨some 23, .fad 1, [.t 22], [5], none⟩, ⟨some 24, .load 1 false, [.t 23], [6], none⟩, ⟨some 25, .iad 1, [.t 20, .t 24], [3, 7], none⟩, ⟨some 26, .load 1 false, [.t 25], [8], none⟩, ⟨some 6, .mov, [.t 26], [9, 0, 1, 2, 3, 4, 5, 6, 7, 8, 9], none⟩] true).seq
  (((AC.region [⟨some 27, .mov, [.t 6], [], none⟩, ⟨some 28, .bin .lss, [.t 27, ci 0], [0], none⟩, ⟨some 29, .mov, [.t 28], [1], none⟩, ⟨some 30, .mov, [.t 6], [2], some (2, 29, false)⟩, ⟨some 31, .mov, [.t 1], [2], some (2, 29, false)⟩, ⟨some 32, .bin .geq, [.t 30, .t 31], [3, 4, 2], some (2, 29, false)⟩, ⟨some 33, .pick, [.t 29, cb true, .t 32], [2, 5], none⟩] false).seq
  (AC.cond (.t 33) ((AC.region [⟨some 4, .mov, [ci 0], [], none⟩, ⟨some 5, .mov, [ci 8], [0, 0], none⟩] false).seq AC.ret) AC.skip)).seq
  ((AC.region [⟨some 34, .mov, [.t 0], [], none⟩, ⟨some 35, .nck, [.t 34], [0], none⟩, ⟨some 36, .fad 1, [.t 35], [1], none⟩, ⟨some 37, .load 1 false, [.t 36], [2], none⟩, ⟨some 38, .bin .add, [.t 37, ci 1], [3], none⟩, ⟨some 39, .nck, [.t 34], [0, 0, 1, 2, 3, 4], none⟩, ⟨some 40, .fad 1, [.t 39], [5, 0, 1, 2, 3, 4], none⟩, ⟨none, .store 1, [.t 40, .t 38], [6, 4, 0, 1, 2, 3, 4], none⟩] false).seq
  ((AC.region [⟨some 41, .mov, [.t 6], [], none⟩, ⟨some 4, .mov, [.t 41], [0, 0], none⟩, ⟨some 5, .mov, [ci 0], [1, 0, 1], none⟩] false).seq AC.ret)))))
def rs_tape_position_next : List RV := [.t 4, .t 5]
theorem c_tape_position_next : compile Tryz.prog ⟨Go.Func.ntmps Tryz.f49, []⟩ (Tryz.f49.body.getD .skip) = some ac_tape_position_next := by kernel_rfl
def ac_slices_pdqsortOrdered_int : AC :=
  (AC.region [⟨some 8, .mov, [cb true], [], none⟩] false).seq
  ((AC.region [⟨some 9, .mov, [cb true], [], none⟩] false).seq
  (AC.block 0 (AC.block 1 ((AC.region [⟨some 19, .mov, [.t 2], [], none⟩, ⟨some 20, .mov, [.t 1], [], none⟩, ⟨some 21, .bin .sub, [.t 19, .t 20], [0, 1], none⟩, ⟨some 10, .mov, [.t 21], [2, 0, 1, 2], none⟩] false).seq
  (((AC.region [⟨some 22, .mov, [.t 10], [], none⟩, ⟨some 23, .bin .leq, [.t 22, ci 12], [0], none⟩] false).seq
  (AC.cond (.t 23) ((AC.region [⟨some 24, .mov, [.t 0], [], none⟩, ⟨some 25, .mov, [.t 1], [], none⟩, ⟨some 26, .mov, [.t 2], [], none⟩, ⟨some 27, .call 59, [.t 24, .t 25, .t 26], [0, 1, 2], none⟩] false).seq AC.ret) AC.skip)).seq
  (((AC.region [⟨some 28, .mov, [.t 3], [], none⟩, ⟨some 29, .bin .eql, [.t 28, ci 0], [0], none⟩] false).seq
  (AC.cond (.t 29) ((AC.region [⟨some 30, .mov, [.t 0], [], none⟩, ⟨some 31, .mov, [.t 1], [], none⟩, ⟨some 32, .mov, [.t 2], [], none⟩, ⟨some 33, .call 60, [.t 30, .t 31, .t 32], [0, 1, 2], none⟩] false).seq AC.ret) AC.skip)).seq
  (((AC.region [⟨some 34, .mov, [.t 8], [], none⟩, ⟨some 35, .un .not, [.t 34], [0], none⟩] false).seq
  (AC.cond (.t 35) ((AC.region [⟨some 36, .mov, [.t 0], [], none⟩, ⟨some 37, .mov, [.t 1], [], none⟩, ⟨some 38, .mov, [.t 2], [], none⟩, ⟨some 39, .call 61, [.t 36, .t 37, .t 38], [0, 1, 2], none⟩] false).seq
  (AC.region [⟨some 40, .mov, [.t 3], [], none⟩, ⟨some 41, .bin .sub, [.t 40, ci 1], [0], none⟩, ⟨some 3, .mov, [.t 41], [1, 0, 1], none⟩] false)) AC.skip)).seq
  ((AC.region [⟨some 43, .mov, [.t 0], [], none⟩, ⟨some 44, .mov, [.t 1], [], none⟩, ⟨some 45, .mov, [.t 2], [], none⟩, ⟨some 46, .call 62, [.t 43, .t 44, .t 45], [0, 1, 2], none⟩, ⟨some 42, .mov, [.t 46], [3], none⟩, ⟨some 47, .ext 0, [.t 42], [4], none⟩, ⟨some 48, .ext 1, [.t 42], [4], none⟩, ⟨some 11, .mov, [.t 47], [5, 3, 0, 1, 2, 3, 4, 5], none⟩, ⟨some 12, .mov, [.t 48], [6, 7, 0, 1, 2, 3, 4, 5, 6, 7], none⟩] false).seq
  (((AC.region [⟨some 49, .mov, [.t 12], [], none⟩, ⟨some 50, .bin .eql, [.t 49, ci 2], [0], none⟩] false).seq
  (AC.cond (.t 50) ((AC.region [⟨some 51, .mov, [.t 0], [], none⟩, ⟨some 52, .mov, [.t 1], [], none⟩, ⟨some 53, .mov, [.t 2], [], none⟩, ⟨some 54, .call 63, [.t 51, .t 52, .t 53], [0, 1, 2], none⟩] false).seq
  ((AC.region [⟨some 55, .mov, [.t 2], [], none⟩, ⟨some 56, .bin .sub, [.t 55, ci 1], [0], none⟩, ⟨some 57, .mov, [.t 11], [], none⟩, ⟨some 58, .mov, [.t 1], [], none⟩, ⟨some 59, .bin .sub, [.t 57, .t 58], [2, 3], none⟩, ⟨some 60, .bin .sub, [.t 56, .t 59], [1, 4], none⟩, ⟨some 11, .mov, [.t 60], [5, 0, 1, 2, 3, 4, 5], none⟩] false).seq
  (AC.region [⟨some 12, .mov, [ci 1], [], none⟩] false))) AC.skip)).seq
  (((AC.region [⟨some 61, .mov, [.t 8], [], none⟩, ⟨some 62, .mov, [.t 61], [0], none⟩, ⟨some 63, .mov, [.t 9], [1], some (1, 62, true)⟩, ⟨some 64, .pick, [.t 62, .t 63, cb false], [1, 2], none⟩, ⟨some 65, .mov, [.t 64], [3, 1], none⟩, ⟨some 66, .mov, [.t 12], [4], some (4, 65, true)⟩, ⟨some 67, .bin .eql, [.t 66, ci 1], [5, 4], some (4, 65, true)⟩, ⟨some 68, .pick, [.t 65, .t 67, cb false], [4, 6], none⟩] false).seq
  (AC.cond (.t 68) ((AC.region [⟨some 69, .mov, [.t 0], [], none⟩, ⟨some 70, .mov, [.t 1], [], none⟩, ⟨some 71, .mov, [.t 2], [], none⟩, ⟨some 72, .call 64, [.t 69, .t 70, .t 71], [0, 1, 2], none⟩] false).seq
  (AC.cond (.t 72) AC.ret AC.skip)) AC.skip)).seq
  (((AC.region [⟨some 73, .mov, [.t 1], [], none⟩, ⟨some 74, .bin .gtr, [.t 73, ci 0], [0], none⟩, ⟨some 75, .mov, [.t 74], [1], none⟩, ⟨some 76, .mov, [.t 0], [2], some (2, 75, true)⟩, ⟨some 77, .mov, [.t 1], [2], some (2, 75, true)⟩, ⟨some 78, .bin .sub, [.t 77, ci 1], [4, 2], some (2, 75, true)⟩, ⟨some 79, .iad 1, [.t 76, .t 78], [3, 5, 2], some (2, 75, true)⟩, ⟨some 80, .load 1 false, [.t 79], [6, 2], some (2, 75, true)⟩, ⟨some 81, .mov, [.t 0], [2], some (2, 75, true)⟩, ⟨some 82, .mov, [.t 11], [2], some (2, 75, true)⟩, ⟨some 83, .iad 1, [.t 81, .t 82], [8, 9, 2], some (2, 75, true)⟩, ⟨some 84, .load 1 false, [.t 83], [10, 2], some (2, 75, true)⟩, ⟨some 85, .call 65, [.t 80, .t 84], [7, 11, 2, 2], some (2, 75, true)⟩, ⟨some 86, .un .not, [.t 85], [12, 2], some (2, 75, true)⟩, ⟨some 87, .pick, [.t 75, .t 86, cb false], [2, 13], none⟩] true).seq
  (AC.cond (.t 87) ((AC.region [⟨some 88, .mov, [.t 0], [], none⟩, ⟨some 89, .mov, [.t 1], [], none⟩, ⟨some 90, .mov, [.t 2], [], none⟩, ⟨some 91, .mov, [.t 11], [], none⟩, ⟨some 92, .call 66, [.t 88, .t 89, .t 90, .t 91], [0, 1, 2, 3], none⟩, ⟨some 13, .mov, [.t 92], [4, 4, 0, 1, 2, 3, 4], none⟩] false).seq
  ((AC.region [⟨some 93, .mov, [.t 13], [], none⟩, ⟨some 1, .mov, [.t 93], [0, 0], none⟩] false).seq
  (AC.exit 1))) AC.skip)).seq
  ((AC.region [⟨some 95, .mov, [.t 0], [], none⟩, ⟨some 96, .mov, [.t 1], [], none⟩, ⟨some 97, .mov, [.t 2], [], none⟩, ⟨some 98, .mov, [.t 11], [], none⟩, ⟨some 99, .call 67, [.t 95, .t 96, .t 97, .t 98], [0, 1, 2, 3], none⟩, ⟨some 94, .mov, [.t 99], [4], none⟩, ⟨some 100, .ext 0, [.t 94], [5], none⟩, ⟨some 101, .ext 1, [.t 94], [5], none⟩, ⟨some 14, .mov, [.t 100], [6, 4, 0, 1, 2, 3, 4, 5, 6], none⟩, ⟨some 15, .mov, [.t 101], [7, 8, 0, 1, 2, 3, 4, 5, 6, 7, 8], none⟩] false).seq
  ((AC.region [⟨some 102, .mov, [.t 15], [], none⟩, ⟨some 9, .mov, [.t 102], [0, 0], none⟩] false).seq
  ((AC.region [⟨some 103, .mov, [.t 14], [], none⟩, ⟨some 104, .mov, [.t 1], [], none⟩, ⟨some 105, .bin .sub, [.t 103, .t 104], [0, 1], none⟩, ⟨some 106, .mov, [.t 2], [], none⟩, ⟨some 107, .mov, [.t 14], [], none⟩, ⟨some 108, .bin .sub, [.t 106, .t 107], [3, 4], none⟩, ⟨some 16, .mov, [.t 105], [2, 0, 1, 2], none⟩, ⟨some 17, .mov, [.t 108], [5, 6, 0, 1, 2, 3, 4, 5, 6], none⟩] false).seq
  ((AC.region [⟨some 109, .mov, [.t 10], [], none⟩, ⟨some 110, .bin .quo, [.t 109, ci 8], [0], none⟩, ⟨some 18, .mov, [.t 110], [1, 0, 1], none⟩] false).seq
  ((AC.region [⟨some 111, .mov, [.t 16], [], none⟩, ⟨some 112, .mov, [.t 17], [], none⟩, ⟨some 113, .bin .lss, [.t 111, .t 112], [0, 1], none⟩] false).seq
  (AC.cond (.t 113) ((AC.region [⟨some 114, .mov, [.t 16], [], none⟩, ⟨some 115, .mov, [.t 18], [], none⟩, ⟨some 116, .bin .geq, [.t 114, .t 115], [0, 1], none⟩, ⟨some 8, .mov, [.t 116], [2, 0, 1, 2], none⟩] false).seq
  ((AC.region [⟨some 117, .mov, [.t 0], [], none⟩, ⟨some 118, .mov, [.t 1], [], none⟩, ⟨some 119, .mov, [.t 14], [], none⟩, ⟨some 120, .mov, [.t 3], [], none⟩, ⟨some 121, .call 51, [.t 117, .t 118, .t 119, .t 120], [0, 1, 2, 3], none⟩] false).seq
  (AC.region [⟨some 122, .mov, [.t 14], [], none⟩, ⟨some 123, .bin .add, [.t 122, ci 1], [0], none⟩, ⟨some 1, .mov, [.t 123], [1, 0, 1], none⟩] false))) ((AC.region [⟨some 124, .mov, [.t 17], [], none⟩, ⟨some 125, .mov, [.t 18], [], none⟩, ⟨some 126, .bin .geq, [.t 124, .t 125], [0, 1], none⟩, ⟨some 8, .mov, [.t 126], [2, 0, 1, 2], none⟩] false).seq
  ((AC.region [⟨some 127, .mov, [.t 0], [], none⟩, ⟨some 128, .mov, [.t 14], [], none⟩, ⟨some 129, .bin .add, [.t 128, ci 1], [1], none⟩, ⟨some 130, .mov, [.t 2], [], none⟩, ⟨some 131, .mov, [.t 3], [], none⟩, ⟨some 132, .call 51, [.t 127, .t 129, .t 130, .t 131], [0, 2, 3, 4], none⟩] false).seq
  (AC.region [⟨some 133, .mov, [.t 14], [], none⟩, ⟨some 2, .mov, [.t 133], [0, 0], none⟩] false)))))))))))))))))).loop))
def rs_slices_pdqsortOrdered_int : List RV := []
theorem c_slices_pdqsortOrdered_int : compile Tryz.prog ⟨Go.Func.ntmps Tryz.f51, []⟩ (Tryz.f51.body.getD .skip) = some ac_slices_pdqsortOrdered_int := by kernel_rfl
theorem go_slices_pdqsortOrdered_int : GoT Tryz.f51.ntmps 51 ac_slices_pdqsortOrdered_int rs_slices_pdqsortOrdered_int := goT Tryz.func51 (by kernel_rfl) c_slices_pdqsortOrdered_int (by kernel_rfl)
def ac_math_bits_Len : AC :=
  (AC.region [⟨some 2, .mov, [ci 0], [], none⟩] false).seq
  ((AC.cond (cb false) ((AC.region [⟨some 3, .mov, [.t 0], [], none⟩, ⟨some 4, .conv .u32, [.t 3], [0], none⟩, ⟨some 5, .call 68, [.t 4], [1], none⟩, ⟨some 2, .mov, [.t 5], [2, 2, 0, 1, 2], none⟩] false).seq AC.ret) AC.skip).seq
  ((AC.region [⟨some 6, .mov, [.t 0], [], none⟩, ⟨some 7, .call 69, [.t 6], [0], none⟩, ⟨some 2, .mov, [.t 7], [1, 1, 0, 1], none⟩] false).seq AC.ret))
def rs_math_bits_Len : List RV := [.t 2]
theorem c_math_bits_Len : compile Tryz.prog ⟨Go.Func.ntmps Tryz.f52, []⟩ (Tryz.f52.body.getD .skip) = some ac_math_bits_Len := by kernel_rfl
theorem go_math_bits_Len : GoT Tryz.f52.ntmps 52 ac_math_bits_Len rs_math_bits_Len := goT Tryz.func52 (by kernel_rfl) c_math_bits_Len (by kernel_rfl)
def ac_unique_decode : AC :=
  (AC.region [⟨some 3, .box, [.t 0], [], none⟩, ⟨some 6, .alloc [V.nl 1, V.nl 1], [], [], none⟩, ⟨some 7, .mov, [AV.c (V.d (D.at Value.nilIface))], [], none⟩] false).seq
  (((AC.region [⟨some 21, .load 1 true, [.t 3], [], none⟩, ⟨some 22, .mov, [.t 1], [], none⟩, ⟨some 23, .mov, [.t 2], [], none⟩, ⟨some 24, .call 70, [.t 21, .t 22, .t 23], [0, 1, 2], none⟩, ⟨some 20, .mov, [.t 24], [3], none⟩, ⟨some 25, .ext 0, [.t 20], [4], none⟩, ⟨some 26, .ext 1, [.t 20], [4], none⟩, ⟨some 8, .mov, [.t 25], [5, 3, 0, 1, 2, 3, 4, 5], none⟩, ⟨some 9, .mov, [.t 26], [6, 7, 0, 1, 2, 3, 4, 5, 6, 7], none⟩] false).seq
  ((AC.region [⟨some 27, .mov, [.t 9], [], none⟩, ⟨some 28, .bin .neq, [.t 27, ci 0], [0], none⟩] false).seq
  (AC.cond (.t 28) ((AC.region [⟨some 29, .build [V.nl 1, V.nl 1] [], [], [], none⟩, ⟨some 30, .mov, [.t 9], [], none⟩, ⟨some 31, .call 71, [.t 30], [1], none⟩, ⟨none, .store 2, [.t 6, .t 29], [0, 2, 0], none⟩, ⟨some 7, .mov, [.t 31], [2, 3, 0, 1, 2, 3], none⟩] false).seq AC.ret) AC.skip))).seq
  ((AC.region [⟨some 33, .mov, [.t 1], [], none⟩, ⟨some 34, .call 73, [.t 33], [0], none⟩, ⟨some 35, .mov, [.t 2], [], none⟩, ⟨some 36, .call 72, [.t 34, .t 35], [1, 2, 1], none⟩, ⟨some 32, .mov, [.t 36], [3], none⟩, ⟨some 37, .ext 0, [.t 32], [4], none⟩, ⟨some 38, .ext 1, [.t 32], [4], none⟩, ⟨some 10, .mov, [.t 37], [5, 3, 0, 1, 2, 3, 4, 5], none⟩, ⟨some 11, .mov, [.t 38], [6, 7, 0, 1, 2, 3, 4, 5, 6, 7], none⟩] false).seq
  ((AC.region [⟨some 40, .load 1 true, [.t 3], [], none⟩, ⟨some 41, .mov, [.t 1], [], none⟩, ⟨some 42, .mov, [.t 2], [], none⟩, ⟨some 43, .mov, [.t 10], [], none⟩, ⟨some 44, .call 74, [.t 40, .t 41, .t 42, .t 43], [0, 1, 2, 3], none⟩, ⟨some 39, .mov, [.t 44], [4], none⟩, ⟨some 45, .ext 0, [.t 39], [5], none⟩, ⟨some 46, .ext 1, [.t 39], [5], none⟩, ⟨some 12, .alloc [I 0, I 0, I 0, V.nl 1, V.nl 1], [], [], none⟩, ⟨none, .store 5, [.t 12, .t 45], [8, 6, 4, 0, 1, 2, 3, 4, 5, 6, 8], none⟩, ⟨some 13, .mov, [.t 46], [7, 9, 0, 1, 2, 3, 4, 5, 6, 7, 8, 9], none⟩] false).seq
  (((AC.region [⟨some 47, .mov, [.t 13], [], none⟩, ⟨some 48, .bin .neq, [.t 47, ci 0], [0], none⟩] false).seq
  (AC.cond (.t 48) ((AC.region [⟨some 49, .build [V.nl 1, V.nl 1] [], [], [], none⟩, ⟨some 50, .mov, [.t 13], [], none⟩, ⟨some 51, .call 71, [.t 50], [1], none⟩, ⟨none, .store 2, [.t 6, .t 49], [0, 2, 0], none⟩, ⟨some 7, .mov, [.t 51], [2, 3, 0, 1, 2, 3], none⟩] false).seq AC.ret) AC.skip)).seq
  ((AC.region [⟨some 53, .load 5 true, [.t 12], [], none⟩, ⟨some 54, .call 75, [.t 53], [0], none⟩, ⟨some 52, .mov, [.t 54], [1], none⟩, ⟨some 55, .ext 0, [.t 52], [2], none⟩, ⟨some 56, .ext 1, [.t 52], [2], none⟩, ⟨some 14, .mov, [.t 55], [3, 1, 0, 1, 2, 3], none⟩, ⟨some 13, .mov, [.t 56], [4, 5, 0, 1, 2, 3, 4, 5], none⟩] false).seq
  (((AC.region [⟨some 57, .mov, [.t 13], [], none⟩, ⟨some 58, .bin .neq, [.t 57, ci 0], [0], none⟩] false).seq
  (AC.cond (.t 58) ((AC.region [⟨some 59, .build [V.nl 1, V.nl 1] [], [], [], none⟩, ⟨some 60, .ldg 0, [], [], none⟩, ⟨none, .store 2, [.t 6, .t 59], [0, 0], none⟩, ⟨some 7, .mov, [.t 60], [1, 2, 0, 1, 2], none⟩] true).seq AC.ret) AC.skip)).seq
  ((AC.region [⟨some 61, .mov, [.t 14], [], none⟩, ⟨some 62, .mov, [.t 2], [], none⟩, ⟨some 63, .mov, [.t 10], [], none⟩, ⟨some 64, .bin .add, [.t 62, .t 63], [1, 2], none⟩, ⟨some 65, .slc false true false 1, [.t 61, .t 64], [0, 3], none⟩, ⟨some 66, .mov, [.t 14], [], none⟩, ⟨some 67, .mov, [.t 2], [], none⟩, ⟨some 68, .mov, [.t 10], [], none⟩, ⟨some 69, .bin .add, [.t 67, .t 68], [6, 7], none⟩, ⟨some 70, .slc true false false 1, [.t 66, .t 69], [5, 8], none⟩, ⟨some 71, .call 37, [.t 70], [9], none⟩, ⟨some 72, .bsl 1 [I 0] 1 [0], [ci 1], [], none⟩, ⟨some 73, .app 1 8, [.t 71, .t 72], [10, 11, 10], none⟩, ⟨some 15, .mov, [.t 65], [4, 12, 0, 1, 2, 3, 4], none⟩, ⟨some 16, .mov, [.t 73], [12, 13, 0, 1, 2, 3, 4, 5, 6, 7, 8, 9, 10, 11, 12, 13], none⟩] true).seq
  ((AC.region [⟨some 75, .load 1 true, [.t 3], [], none⟩, ⟨some 76, .mov, [.t 15], [], none⟩, ⟨some 77, .mov, [.t 16], [], none⟩, ⟨some 78, .call 76, [.t 75, .t 76, .t 77], [0, 1, 2], none⟩, ⟨some 74, .mov, [.t 78], [3], none⟩, ⟨some 79, .ext 0, [.t 74], [4], none⟩, ⟨some 80, .ext 1, [.t 74], [4], none⟩, ⟨some 81, .ext 2, [.t 74], [4], none⟩, ⟨some 17, .mov, [.t 79], [5, 3, 0, 1, 2, 3, 4, 5], none⟩, ⟨some 18, .mov, [.t 80], [6, 8, 0, 1, 2, 3, 4, 5, 6, 8], none⟩, ⟨some 13, .mov, [.t 81], [7, 9, 0, 1, 2, 3, 4, 5, 6, 7, 8, 9], none⟩] false).seq
  (((AC.region [⟨some 82, .mov, [.t 13], [], none⟩, ⟨some 83, .bin .neq, [.t 82, ci 0], [0], none⟩, ⟨some 84, .mov, [.t 83], [1], none⟩, ⟨some 85, .mov, [.t 18], [2], some (2, 84, false)⟩, ⟨some 86, .len, [.t 85], [3, 2], some (2, 84, false)⟩, ⟨some 87, .bin .gtr, [.t 86, ci 0], [4, 2], some (2, 84, false)⟩, ⟨some 88, .pick, [.t 84, cb true, .t 87], [2, 5], none⟩, ⟨some 89, .mov, [.t 88], [6, 2], none⟩, ⟨some 90, .mov, [.t 17], [7], some (7, 89, false)⟩, ⟨some 91, .len, [.t 90], [8, 7], some (7, 89, false)⟩, ⟨some 92, .mov, [.t 2], [7], some (7, 89, false)⟩, ⟨some 93, .bin .gtr, [.t 91, .t 92], [9, 10, 7], some (7, 89, false)⟩, ⟨some 94, .pick, [.t 89, cb true, .t 93], [7, 11], none⟩] false).seq
  (AC.cond (.t 94) ((AC.region [⟨some 95, .build [V.nl 1, V.nl 1] [], [], [], none⟩, ⟨some 96, .ldg 0, [], [], none⟩, ⟨none, .store 2, [.t 6, .t 95], [0, 0], none⟩, ⟨some 7, .mov, [.t 96], [1, 2, 0, 1, 2], none⟩] true).seq AC.ret) AC.skip)).seq
  ((AC.region [⟨some 97, .mov, [.t 17], [], none⟩, ⟨some 98, .fad 0, [.t 3], [], none⟩, ⟨some 99, .load 1 false, [.t 98], [1], none⟩, ⟨some 100, .mov, [.t 1], [], none⟩, ⟨some 101, .mov, [.t 17], [], none⟩, ⟨some 102, .call 77, [.t 99, .t 100, .t 101], [2, 3, 4], none⟩, ⟨some 103, .build [V.nl 1, V.nl 1] [(0, 1), (1, 1)], [.t 97, .t 102], [0, 5], none⟩, ⟨some 19, .alloc [V.nl 1, V.nl 1], [], [], none⟩, ⟨none, .store 2, [.t 19, .t 103], [7, 6, 5, 0, 1, 2, 3, 4, 5, 6, 7], none⟩] false).seq
  (((AC.region [⟨some 104, .fad 1, [.t 19], [], none⟩, ⟨some 105, .load 1 false, [.t 104], [0], none⟩, ⟨some 106, .len, [.t 105], [1], none⟩, ⟨some 107, .mov, [.t 10], [], none⟩, ⟨some 108, .bin .gtr, [.t 106, .t 107], [2, 3], none⟩] false).seq
  (AC.cond (.t 108) ((AC.region [⟨some 109, .build [V.nl 1, V.nl 1] [], [], [], none⟩, ⟨some 110, .ldg 0, [], [], none⟩, ⟨none, .store 2, [.t 6, .t 109], [0, 0], none⟩, ⟨some 7, .mov, [.t 110], [1, 2, 0, 1, 2], none⟩] true).seq AC.ret) AC.skip)).seq
  ((AC.region [⟨some 111, .load 2 true, [.t 19], [], none⟩, ⟨none, .store 2, [.t 6, .t 111], [0, 0], none⟩, ⟨some 7, .mov, [AV.c (V.d (D.at Value.nilIface))], [1, 0, 1], none⟩] false).seq AC.ret))))))))))))
def rs_unique_decode : List RV := [.c 6 2 true, .t 7]
theorem c_unique_decode : compile Tryz.prog ⟨Go.Func.ntmps Tryz.f53, []⟩ (Tryz.f53.body.getD .skip) = some ac_unique_decode := by kernel_rfl
theorem go_unique_decode : GoT Tryz.f53.ntmps 53 ac_unique_decode rs_unique_decode := goT Tryz.func53 (by kernel_rfl) c_unique_decode (by kernel_rfl)
def ac_unique_number : AC :=
  (AC.region [⟨some 2, .mov, [ci 0], [], none⟩] false).seq
  (((AC.region [⟨some 5, .mov, [.t 0], [], none⟩, ⟨some 6, .ifn false, [.t 5, AV.c (V.d (D.at Value.nilIface))], [0], none⟩] false).seq
  (AC.cond (.t 6) ((AC.region [⟨some 2, .mov, [ci 0], [], none⟩] false).seq AC.ret) AC.skip)).seq
  (((AC.region [⟨some 8, .mov, [.t 0], [], none⟩, ⟨some 9, .bad, [], [0], none⟩, ⟨some 7, .mov, [.t 9], [1], none⟩, ⟨some 10, .ext 0, [.t 7], [2], none⟩, ⟨some 11, .ext 1, [.t 7], [2], none⟩, ⟨some 3, .alloc [I 0], [], [], none⟩, ⟨none, .store 1, [.t 3, .t 10], [5, 3, 0, 1, 2, 3, 5], none⟩, ⟨some 4, .mov, [.t 11], [4, 6, 0, 1, 2, 3, 4, 5, 6], none⟩] false).seq
  ((AC.region [⟨some 12, .mov, [.t 4], [], none⟩] false).seq
  (AC.cond (.t 12) ((AC.region [⟨some 13, .fad 0, [.t 3], [], none⟩, ⟨some 14, .load 1 false, [.t 13], [0], none⟩, ⟨some 2, .mov, [.t 14], [1, 0, 1], none⟩] false).seq AC.ret) AC.skip))).seq
  ((AC.region [⟨some 2, .mov, [ci 2], [], none⟩] false).seq AC.ret)))
def rs_unique_number : List RV := [.t 2]
theorem c_unique_number : compile Tryz.prog ⟨Go.Func.ntmps Tryz.f55, []⟩ (Tryz.f55.body.getD .skip) = some ac_unique_number := by kernel_rfl
theorem go_unique_number : GoT Tryz.f55.ntmps 55 ac_unique_number rs_unique_number := goT Tryz.func55 (by kernel_rfl) c_unique_number (by kernel_rfl)
def ac_residue_Field_Add : AC :=
  (AC.region [⟨some 6, .mov, [ci 0], [], none⟩] false).seq
  ((AC.region [⟨some 7, .mov, [.t 1], [], none⟩, ⟨some 8, .mov, [.t 2], [], none⟩, ⟨some 9, .bin .add, [.t 7, .t 8], [0, 1], none⟩, ⟨some 10, .mov, [.t 0], [], none⟩, ⟨some 11, .bin .rem, [.t 9, .t 10], [2, 3], none⟩, ⟨some 6, .mov, [.t 11], [4, 0, 1, 2, 3, 4], none⟩] false).seq AC.ret)
def rs_residue_Field_Add : List RV := [.t 6]
theorem c_residue_Field_Add : compile Tryz.prog ⟨Go.Func.ntmps Tryz.f56, []⟩ (Tryz.f56.body.getD .skip) = some ac_residue_Field_Add := by kernel_rfl
theorem go_residue_Field_Add : GoT Tryz.f56.ntmps 56 ac_residue_Field_Add rs_residue_Field_Add := goT Tryz.func56 (by kernel_rfl) c_residue_Field_Add (by kernel_rfl)
def ac_residue_Field_Mul : AC :=
  (AC.region [⟨some 6, .mov, [ci 0], [], none⟩] false).seq
  ((AC.region [⟨some 7, .mov, [.t 1], [], none⟩, ⟨some 8, .mov, [.t 2], [], none⟩, ⟨some 9, .bin .mul, [.t 7, .t 8], [0, 1], none⟩, ⟨some 10, .mov, [.t 0], [], none⟩, ⟨some 11, .bin .rem, [.t 9, .t 10], [2, 3], none⟩, ⟨some 6, .mov, [.t 11], [4, 0, 1, 2, 3, 4], none⟩] false).seq AC.ret)
def rs_residue_Field_Mul : List RV := [.t 6]
theorem c_residue_Field_Mul : compile Tryz.prog ⟨Go.Func.ntmps Tryz.f57, []⟩ (Tryz.f57.body.getD .skip) = some ac_residue_Field_Mul := by kernel_rfl
theorem go_residue_Field_Mul : GoT Tryz.f57.ntmps 57 ac_residue_Field_Mul rs_residue_Field_Mul := goT Tryz.func57 (by kernel_rfl) c_residue_Field_Mul (by kernel_rfl)
def ac_slices_insertionSortOrdered_int : AC :=
  (AC.region [⟨some 8, .mov, [.t 1], [], none⟩, ⟨some 9, .bin .add, [.t 8, ci 1], [0], none⟩, ⟨some 6, .mov, [.t 9], [1, 0, 1], none⟩] false).seq
  (AC.block 0 (((AC.region [⟨some 10, .mov, [.t 6], [], none⟩, ⟨some 11, .mov, [.t 2], [], none⟩, ⟨some 12, .bin .lss, [.t 10, .t 11], [0, 1], none⟩] false).seq
  (AC.cond (.t 12) AC.skip (AC.exit 0))).seq
  ((AC.block 1 ((AC.region [⟨some 15, .mov, [.t 6], [], none⟩, ⟨some 7, .mov, [.t 15], [0, 0], none⟩] false).seq
  (AC.block 2 (((AC.region [⟨some 16, .mov, [.t 7], [], none⟩, ⟨some 17, .mov, [.t 1], [], none⟩, ⟨some 18, .bin .gtr, [.t 16, .t 17], [0, 1], none⟩, ⟨some 19, .mov, [.t 18], [2], none⟩, ⟨some 20, .mov, [.t 0], [3], some (3, 19, true)⟩, ⟨some 21, .mov, [.t 7], [3], some (3, 19, true)⟩, ⟨some 22, .iad 1, [.t 20, .t 21], [4, 5, 3], some (3, 19, true)⟩, ⟨some 23, .load 1 false, [.t 22], [6, 3], some (3, 19, true)⟩, ⟨some 24, .mov, [.t 0], [3], some (3, 19, true)⟩, ⟨some 25, .mov, [.t 7], [3], some (3, 19, true)⟩, ⟨some 26, .bin .sub, [.t 25, ci 1], [9, 3], some (3, 19, true)⟩, ⟨some 27, .iad 1, [.t 24, .t 26], [8, 10, 3], some (3, 19, true)⟩, ⟨some 28, .load 1 false, [.t 27], [11, 3], some (3, 19, true)⟩, ⟨some 29, .call 65, [.t 23, .t 28], [7, 12, 3, 3], some (3, 19, true)⟩, ⟨some 30, .pick, [.t 19, .t 29, cb false], [3, 13], none⟩] true).seq
  (AC.cond (.t 30) AC.skip (AC.exit 2))).seq
  ((AC.block 3 (AC.region [⟨some 33, .mov, [.t 0], [], none⟩, ⟨some 34, .mov, [.t 7], [], none⟩, ⟨some 35, .mov, [.t 0], [], none⟩, ⟨some 36, .mov, [.t 7], [], none⟩, ⟨some 37, .bin .sub, [.t 36, ci 1], [3], none⟩, ⟨some 38, .mov, [.t 0], [], none⟩, ⟨some 39, .mov, [.t 7], [], none⟩, ⟨some 40, .bin .sub, [.t 39, ci 1], [6], none⟩, ⟨some 41, .iad 1, [.t 38, .t 40], [5, 7], none⟩, ⟨some 42, .load 1 false, [.t 41], [8], none⟩, ⟨some 43, .mov, [.t 0], [], none⟩, ⟨some 44, .mov, [.t 7], [], none⟩, ⟨some 45, .iad 1, [.t 43, .t 44], [10, 11], none⟩, ⟨some 46, .load 1 false, [.t 45], [12], none⟩, ⟨some 47, .iad 1, [.t 33, .t 34], [0, 1, 0, 1, 5, 6, 7, 8, 9, 13], none⟩, ⟨none, .store 1, [.t 47, .t 42], [14, 9, 0, 1, 5, 6, 7, 8, 9, 13], none⟩, ⟨some 48, .iad 1, [.t 35, .t 37], [2, 4, 0, 1, 2, 3, 4, 5, 6, 7, 8, 9, 10, 11, 12, 13, 14, 15], none⟩, ⟨none, .store 1, [.t 48, .t 46], [16, 13, 15, 0, 1, 2, 3, 4, 5, 6, 7, 8, 9, 10, 11, 12, 13, 14, 15], none⟩] true)).seq
  (AC.region [⟨some 31, .mov, [.t 7], [], none⟩, ⟨some 32, .bin .sub, [.t 31, ci 1], [0], none⟩, ⟨some 7, .mov, [.t 32], [1, 0, 1], none⟩] false))).loop))).seq
  (AC.region [⟨some 13, .mov, [.t 6], [], none⟩, ⟨some 14, .bin .add, [.t 13, ci 1], [0], none⟩, ⟨some 6, .mov, [.t 14], [1, 0, 1], none⟩] false))).loop)
def rs_slices_insertionSortOrdered_int : List RV := []
theorem c_slices_insertionSortOrdered_int : compile Tryz.prog ⟨Go.Func.ntmps Tryz.f59, []⟩ (Tryz.f59.body.getD .skip) = some ac_slices_insertionSortOrdered_int := by kernel_rfl
theorem go_slices_insertionSortOrdered_int : GoT Tryz.f59.ntmps 59 ac_slices_insertionSortOrdered_int rs_slices_insertionSortOrdered_int := goT Tryz.func59 (by kernel_rfl) c_slices_insertionSortOrdered_int (by kernel_rfl)
def ac_cmp_Less_int : AC :=
  (AC.region [⟨some 4, .mov, [cb false], [], none⟩] false).seq
  ((AC.region [⟨some 5, .mov, [.t 0], [], none⟩, ⟨some 6, .call 86, [.t 5], [0], none⟩, ⟨some 7, .mov, [.t 6], [1, 1], none⟩, ⟨some 8, .mov, [.t 1], [2], some (2, 7, true)⟩, ⟨some 9, .call 86, [.t 8], [3, 2, 2], some (2, 7, true)⟩, ⟨some 10, .un .not, [.t 9], [4, 2], some (2, 7, true)⟩, ⟨some 11, .pick, [.t 7, .t 10, cb false], [2, 5], none⟩, ⟨some 12, .mov, [.t 11], [6, 4], none⟩, ⟨some 13, .mov, [.t 0], [7], some (7, 12, false)⟩, ⟨some 14, .mov, [.t 1], [7], some (7, 12, false)⟩, ⟨some 15, .bin .lss, [.t 13, .t 14], [8, 9, 7], some (7, 12, false)⟩, ⟨some 16, .pick, [.t 12, cb true, .t 15], [7, 10], none⟩, ⟨some 4, .mov, [.t 16], [11, 7, 0, 1, 2, 3, 4, 5, 6, 7, 8, 9, 10, 11], none⟩] false).seq AC.ret)
def rs_cmp_Less_int : List RV := [.t 4]
theorem c_cmp_Less_int : compile Tryz.prog ⟨Go.Func.ntmps Tryz.f65, []⟩ (Tryz.f65.body.getD .skip) = some ac_cmp_Less_int := by kernel_rfl
theorem go_cmp_Less_int : GoT Tryz.f65.ntmps 65 ac_cmp_Less_int rs_cmp_Less_int := goT Tryz.func65 (by kernel_rfl) c_cmp_Less_int (by kernel_rfl)
def ac_math_bits_Len64 : AC :=
  (AC.region [⟨some 2, .mov, [ci 0], [], none⟩] false).seq
  (((AC.region [⟨some 3, .mov, [.t 0], [], none⟩, ⟨some 4, .bin .geq, [.t 3, AV.c (V.d (D.at (Value.int .u64 4294967296)))], [0], none⟩] false).seq
  (AC.cond (.t 4) ((AC.region [⟨some 5, .mov, [.t 0], [], none⟩, ⟨some 6, .bin .shr, [.t 5, AV.c (V.d (D.at (Value.int .u64 32)))], [0], none⟩, ⟨some 0, .mov, [.t 6], [1, 0, 1], none⟩] false).seq
  (AC.region [⟨some 2, .mov, [ci 32], [], none⟩] false)) AC.skip)).seq
  (((AC.region [⟨some 7, .mov, [.t 0], [], none⟩, ⟨some 8, .bin .geq, [.t 7, AV.c (V.d (D.at (Value.int .u64 65536)))], [0], none⟩] false).seq
  (AC.cond (.t 8) ((AC.region [⟨some 9, .mov, [.t 0], [], none⟩, ⟨some 10, .bin .shr, [.t 9, AV.c (V.d (D.at (Value.int .u64 16)))], [0], none⟩, ⟨some 0, .mov, [.t 10], [1, 0, 1], none⟩] false).seq
  (AC.region [⟨some 11, .mov, [.t 2], [], none⟩, ⟨some 12, .bin .add, [.t 11, ci 16], [0], none⟩, ⟨some 2, .mov, [.t 12], [1, 0, 1], none⟩] false)) AC.skip)).seq
  (((AC.region [⟨some 13, .mov, [.t 0], [], none⟩, ⟨some 14, .bin .geq, [.t 13, AV.c (V.d (D.at (Value.int .u64 256)))], [0], none⟩] false).seq
  (AC.cond (.t 14) ((AC.region [⟨some 15, .mov, [.t 0], [], none⟩, ⟨some 16, .bin .shr, [.t 15, AV.c (V.d (D.at (Value.int .u64 8)))], [0], none⟩, ⟨some 0, .mov, [.t 16], [1, 0, 1], none⟩] false).seq
  (AC.region [⟨some 17, .mov, [.t 2], [], none⟩, ⟨some 18, .bin .add, [.t 17, ci 8], [0], none⟩, ⟨some 2, .mov, [.t 18], [1, 0, 1], none⟩] false)) AC.skip)).seq
  ((AC.region [⟨some 19, .mov, [.t 2], [], none⟩, ⟨some 20, .mov, [.t 0], [], none⟩, ⟨some 21, .conv .u8, [.t 20], [1], none⟩, ⟨some 22, .ixs, [AV.c (V.d (D.at (Value.string ⟨#[0, 1, 2, 2, 3, 3, 3, 3, 4, 4, 4, 4, 4, 4, 4, 4, 5, 5, 5, 5, 5, 5, 5, 5, 5, 5, 5, 5, 5, 5, 5, 5, 6, 6, 6, 6, 6, 6, 6, 6, 6, 6, 6, 6, 6, 6, 6, 6, 6, 6, 6, 6, 6, 6, 6, 6, 6, 6, 6, 6, 6, 6, 6, 6, 7, 7, 7, 7, 7, 7, 7, 7, 7, 7, 7, 7, 7, 7, 7, 7, 7, 7, 7, 7, 7, 7, 7, 7, 7, 7, 7, 7, 7, 7, 7, 7, 7, 7, 7, 7, 7, 7, 7, 7, 7, 7, 7, 7, 7, 7, 7, 7, 7, 7, 7, 7, 7, 7, 7, 7, 7, 7, 7, 7, 7, 7, 7, 7, 8, 8, 8, 8, 8, 8, 8, 8, 8, 8, 8, 8, 8, 8, 8, 8, 8, 8, 8, 8, 8, 8, 8, 8, 8, 8, 8, 8, 8, 8, 8, 8, 8, 8, 8, 8, 8, 8, 8, 8, 8, 8, 8, 8, 8, 8, 8, 8, 8, 8, 8, 8, 8, 8, 8, 8, 8, 8, 8, 8, 8, 8, 8, 8, 8, 8, 8, 8, 8, 8, 8, 8, 8, 8, 8, 8, 8, 8, 8, 8, 8, 8, 8, 8, 8, 8, 8, 8, 8, 8, 8, 8, 8, 8, 8, 8, 8, 8, 8, 8, 8, 8, 8, 8, 8, 8, 8, 8, 8, 8, 8, 8, 8, 8, 8, 8, 8, 8, 8, 8, 8, 8, 8, 8, 8, 8, 8, 8]⟩))), .t 21], [2], none⟩, ⟨some 23, .conv .i64, [.t 22], [3], none⟩, ⟨some 24, .bin .add, [.t 19, .t 23], [0, 4], none⟩, ⟨some 2, .mov, [.t 24], [5, 0, 1, 2, 3, 4, 5], none⟩] false).seq AC.ret))))
def rs_math_bits_Len64 : List RV := [.t 2]
theorem c_math_bits_Len64 : compile Tryz.prog ⟨Go.Func.ntmps Tryz.f69, []⟩ (Tryz.f69.body.getD .skip) = some ac_math_bits_Len64 := by kernel_rfl
theorem go_math_bits_Len64 : GoT Tryz.f69.ntmps 69 ac_math_bits_Len64 rs_math_bits_Len64 := goT Tryz.func69 (by kernel_rfl) c_math_bits_Len64 (by kernel_rfl)
def ac_code_Fill : AC :=
  (AC.region [⟨some 3, .box, [.t 0], [], none⟩, ⟨some 6, .mov, [AV.c (V.nl 1)], [], none⟩, ⟨some 7, .mov, [ci 0], [1], none⟩] false).seq
  ((AC.region [⟨some 12, .load 1 true, [.t 3], [], none⟩, ⟨some 13, .mov, [.t 1], [], none⟩, ⟨some 14, .call 87, [.t 12, .t 13], [0, 1], none⟩, ⟨some 11, .mov, [.t 14], [2], none⟩, ⟨some 15, .ext 0, [.t 11], [3], none⟩, ⟨some 16, .ext 1, [.t 11], [3], none⟩, ⟨some 17, .ext 2, [.t 11], [3], none⟩, ⟨some 8, .mov, [.t 15], [4, 2, 0, 1, 2, 3, 4], none⟩, ⟨some 9, .mov, [.t 16], [5, 7, 0, 1, 2, 3, 4, 5, 7], none⟩, ⟨some 10, .mov, [.t 17], [6, 8, 0, 1, 2, 3, 4, 5, 6, 7, 8], none⟩] false).seq
  ((AC.block 0 ((AC.region [⟨some 19, .mov, [.t 10], [], none⟩, ⟨some 20, .bin .neq, [.t 19, ci 0], [0], none⟩, ⟨some 18, .mov, [.t 20], [1], none⟩] false).seq
  (AC.cond (.t 18) ((AC.region [⟨some 21, .mov, [.t 10], [], none⟩, ⟨some 6, .mov, [AV.c (V.nl 1)], [], none⟩, ⟨some 7, .mov, [.t 21], [0, 1, 0, 1], none⟩] false).seq AC.ret) ((AC.region [⟨some 23, .mov, [.t 2], [], none⟩, ⟨some 24, .bin .lss, [.t 23, ci 1], [0], none⟩, ⟨some 25, .mov, [.t 24], [1], none⟩, ⟨some 26, .mov, [.t 2], [2], some (2, 25, false)⟩, ⟨some 27, .mov, [.t 1], [2], some (2, 25, false)⟩, ⟨some 28, .len, [.t 27], [4, 2], some (2, 25, false)⟩, ⟨some 29, .bin .gtr, [.t 26, .t 28], [3, 5, 2], some (2, 25, false)⟩, ⟨some 30, .pick, [.t 25, cb true, .t 29], [2, 6], none⟩, ⟨some 22, .mov, [.t 30], [7, 2], none⟩] false).seq
  (AC.cond (.t 22) ((AC.region [⟨some 6, .mov, [AV.c (V.nl 1)], [], none⟩, ⟨some 7, .mov, [ci 1], [0, 0], none⟩] false).seq AC.ret) ((AC.region [⟨some 32, .mov, [.t 9], [], none⟩, ⟨some 33, .mov, [.t 2], [], none⟩, ⟨some 34, .bin .lss, [.t 32, .t 33], [0, 1], none⟩, ⟨some 31, .mov, [.t 34], [2], none⟩] false).seq
  (AC.cond (.t 31) ((AC.region [⟨some 6, .mov, [AV.c (V.nl 1)], [], none⟩, ⟨some 7, .mov, [ci 11], [0, 0], none⟩] false).seq AC.ret) AC.skip))))))).seq
  ((AC.region [⟨some 35, .load 1 true, [.t 3], [], none⟩, ⟨some 36, .mov, [.t 1], [], none⟩, ⟨some 37, .mov, [.t 2], [], none⟩, ⟨some 38, .call 89, [.t 36, .t 37], [1, 2], none⟩, ⟨some 39, .call 88, [.t 35, .t 38], [0, 3, 3], none⟩, ⟨some 40, .ext 0, [.t 39], [4], none⟩, ⟨some 41, .ext 1, [.t 39], [4], none⟩, ⟨some 6, .mov, [.t 40], [5, 4, 0, 1, 2, 3, 4, 5, 6], none⟩, ⟨some 7, .mov, [.t 41], [6, 7, 0, 1, 2, 3, 4, 5, 6, 7], none⟩] true).seq AC.ret)))
def rs_code_Fill : List RV := [.t 6, .t 7]
theorem c_code_Fill : compile Tryz.prog ⟨Go.Func.ntmps Tryz.f70, []⟩ (Tryz.f70.body.getD .skip) = some ac_code_Fill := by kernel_rfl
theorem go_code_Fill : GoT Tryz.f70.ntmps 70 ac_code_Fill rs_code_Fill := goT Tryz.func70 (by kernel_rfl) c_code_Fill (by kernel_rfl)
def ac_unique_Radius : AC :=
  (AC.region [⟨some 4, .mov, [ci 0], [], none⟩, ⟨some 5, .mov, [ci 0], [0], none⟩] false).seq
  (((AC.region [⟨some 6, .mov, [.t 1], [], none⟩, ⟨some 7, .bin .lss, [.t 6, ci 1], [0], none⟩, ⟨some 8, .mov, [.t 7], [1], none⟩, ⟨some 9, .mov, [.t 0], [2], some (2, 8, false)⟩, ⟨some 10, .bin .lss, [.t 9, ci 0], [3, 2], some (2, 8, false)⟩, ⟨some 11, .pick, [.t 8, cb true, .t 10], [2, 4], none⟩, ⟨some 12, .mov, [.t 11], [5, 2], none⟩, ⟨some 13, .mov, [.t 0], [6], some (6, 12, false)⟩, ⟨some 14, .bin .gtr, [.t 13, ci 32], [7, 6], some (6, 12, false)⟩, ⟨some 15, .pick, [.t 12, cb true, .t 14], [6, 8], none⟩] false).seq
  (AC.cond (.t 15) ((AC.region [⟨some 4, .mov, [ci 0], [], none⟩, ⟨some 5, .mov, [ci 1], [0, 0], none⟩] false).seq AC.ret) AC.skip)).seq
  (((AC.region [⟨some 16, .mov, [.t 0], [], none⟩, ⟨some 17, .mov, [.t 1], [], none⟩, ⟨some 18, .bin .lss, [.t 16, .t 17], [0, 1], none⟩] false).seq
  (AC.cond (.t 18) ((AC.region [⟨some 4, .mov, [ci 0], [], none⟩, ⟨some 5, .mov, [ci 11], [0, 0], none⟩] false).seq AC.ret) AC.skip)).seq
  ((AC.region [⟨some 19, .mov, [.t 0], [], none⟩, ⟨some 20, .mov, [.t 1], [], none⟩, ⟨some 21, .bin .sub, [.t 19, .t 20], [0, 1], none⟩, ⟨some 22, .bin .quo, [.t 21, ci 2], [2], none⟩, ⟨some 4, .mov, [.t 22], [3, 0, 1, 2, 3], none⟩, ⟨some 5, .mov, [ci 0], [4, 0, 1, 2, 3, 4], none⟩] false).seq AC.ret)))
def rs_unique_Radius : List RV := [.t 4, .t 5]
theorem c_unique_Radius : compile Tryz.prog ⟨Go.Func.ntmps Tryz.f72, []⟩ (Tryz.f72.body.getD .skip) = some ac_unique_Radius := by kernel_rfl
theorem go_unique_Radius : GoT Tryz.f72.ntmps 72 ac_unique_Radius rs_unique_Radius := goT Tryz.func72 (by kernel_rfl) c_unique_Radius (by kernel_rfl)
def ac_unique_count : AC :=
  (AC.region [⟨some 2, .mov, [ci 0], [], none⟩] false).seq
  ((AC.region [⟨some 3, .mov, [ci 0], [], none⟩] false).seq
  (((AC.region [⟨some 6, .mov, [.t 0], [], none⟩, ⟨some 7, .len, [.t 6], [0], none⟩, ⟨some 8, .mov, [ci 0], [], none⟩] false).seq
  (AC.block 0 ((AC.region [⟨some 9, .bin .lss, [.t 8, .t 7], [], none⟩] false).seq
  ((AC.cond (.t 9) AC.skip (AC.exit 0)).seq
  ((AC.block 1 ((AC.region [⟨some 10, .iad 2, [.t 6, .t 8], [], none⟩, ⟨some 11, .load 2 true, [.t 10], [0], none⟩, ⟨some 5, .alloc [I 0, B false], [], [], none⟩, ⟨none, .store 2, [.t 5, .t 11], [2, 1, 0, 1, 2], none⟩] false).seq
  ((AC.region [⟨some 12, .fad 1, [.t 5], [], none⟩, ⟨some 13, .load 1 false, [.t 12], [0], none⟩] false).seq
  (AC.cond (.t 13) (AC.region [⟨some 14, .mov, [.t 3], [], none⟩, ⟨some 15, .bin .add, [.t 14, ci 1], [0], none⟩, ⟨some 3, .mov, [.t 15], [1, 0, 1], none⟩] false) AC.skip)))).seq
  (AC.region [⟨some 16, .bin .add, [.t 8, ci 1], [], none⟩, ⟨some 8, .mov, [.t 16], [0], none⟩] false)))).loop)).seq
  ((AC.region [⟨some 17, .mov, [.t 3], [], none⟩, ⟨some 2, .mov, [.t 17], [0, 0], none⟩] false).seq AC.ret)))
def rs_unique_count : List RV := [.t 2]
theorem c_unique_count : compile Tryz.prog ⟨Go.Func.ntmps Tryz.f73, []⟩ (Tryz.f73.body.getD .skip) = some ac_unique_count := by kernel_rfl
theorem go_unique_count : GoT Tryz.f73.ntmps 73 ac_unique_count rs_unique_count := goT Tryz.func73 (by kernel_rfl) c_unique_count (by kernel_rfl)
def ac_unique_Key : AC :=
  (AC.region [⟨some 4, .box, [.t 0], [], none⟩, ⟨some 8, .alloc [I 0, I 0, I 0, V.nl 1, V.nl 1], [], [], none⟩, ⟨some 9, .mov, [ci 0], [], none⟩] false).seq
  (((AC.region [⟨some 21, .load 1 true, [.t 4], [], none⟩, ⟨some 22, .mov, [.t 1], [], none⟩, ⟨some 23, .mov, [.t 2], [], none⟩, ⟨some 24, .call 70, [.t 21, .t 22, .t 23], [0, 1, 2], none⟩, ⟨some 20, .mov, [.t 24], [3], none⟩, ⟨some 25, .ext 0, [.t 20], [4], none⟩, ⟨some 26, .ext 1, [.t 20], [4], none⟩, ⟨some 10, .mov, [.t 25], [5, 3, 0, 1, 2, 3, 4, 5], none⟩, ⟨some 11, .mov, [.t 26], [6, 7, 0, 1, 2, 3, 4, 5, 6, 7], none⟩] false).seq
  ((AC.region [⟨some 27, .mov, [.t 11], [], none⟩, ⟨some 28, .bin .neq, [.t 27, ci 0], [0], none⟩, ⟨some 29, .mov, [.t 28], [1], none⟩, ⟨some 30, .mov, [.t 11], [2], some (2, 29, true)⟩, ⟨some 31, .bin .neq, [.t 30, ci 11], [3, 2], some (2, 29, true)⟩, ⟨some 32, .pick, [.t 29, .t 31, cb false], [2, 4], none⟩] false).seq
  (AC.cond (.t 32) ((AC.region [⟨some 33, .build [I 0, I 0, I 0, V.nl 1, V.nl 1] [], [], [], none⟩, ⟨some 34, .mov, [.t 11], [], none⟩, ⟨none, .store 5, [.t 8, .t 33], [0, 0], none⟩, ⟨some 9, .mov, [.t 34], [1, 2, 0, 1, 2], none⟩] false).seq AC.ret) AC.skip))).seq
  (((AC.region [⟨some 35, .mov, [.t 3], [], none⟩, ⟨some 36, .bin .lss, [.t 35, ci 0], [0], none⟩, ⟨some 37, .mov, [.t 36], [1], none⟩, ⟨some 38, .mov, [.t 3], [2], some (2, 37, false)⟩, ⟨some 39, .bin .gtr, [.t 38, ci 32], [3, 2], some (2, 37, false)⟩, ⟨some 40, .pick, [.t 37, cb true, .t 39], [2, 4], none⟩, ⟨some 41, .mov, [.t 40], [5, 2], none⟩, ⟨some 42, .mov, [.t 2], [6], some (6, 41, false)⟩, ⟨some 43, .mov, [.t 3], [6], some (6, 41, false)⟩, ⟨some 44, .bin .mul, [ci 2, .t 43], [8, 6], some (6, 41, false)⟩, ⟨some 45, .bin .add, [.t 42, .t 44], [7, 9, 6], some (6, 41, false)⟩, ⟨some 46, .bin .gtr, [.t 45, ci 32], [10, 6], some (6, 41, false)⟩, ⟨some 47, .pick, [.t 41, cb true, .t 46], [6, 11], none⟩] false).seq
  (AC.cond (.t 47) ((AC.region [⟨some 48, .build [I 0, I 0, I 0, V.nl 1, V.nl 1] [], [], [], none⟩, ⟨none, .store 5, [.t 8, .t 48], [0, 0], none⟩, ⟨some 9, .mov, [ci 1], [1, 0, 1], none⟩] false).seq AC.ret) AC.skip)).seq
  ((AC.region [⟨some 49, .fad 0, [.t 4], [], none⟩, ⟨some 50, .load 1 false, [.t 49], [0], none⟩, ⟨some 12, .mov, [.t 50], [1, 0, 1], none⟩] false).seq
  ((AC.region [⟨some 51, .load 1 true, [.t 4], [], none⟩, ⟨some 52, .mov, [.t 2], [], none⟩, ⟨some 53, .mov, [.t 3], [], none⟩, ⟨some 54, .bin .mul, [ci 2, .t 53], [2], none⟩, ⟨some 55, .bin .add, [.t 52, .t 54], [1, 3], none⟩, ⟨some 56, .build [I 0, I 0, I 0, V.nl 1, V.nl 1] [(0, 1), (2, 1)], [.t 51, .t 55], [0, 4], none⟩, ⟨some 13, .alloc [I 0, I 0, I 0, V.nl 1, V.nl 1], [], [], none⟩, ⟨none, .store 5, [.t 13, .t 56], [6, 5, 0, 1, 2, 3, 4, 5, 6], none⟩] false).seq
  (((AC.region [⟨some 57, .mov, [.t 1], [], none⟩, ⟨some 58, .len, [.t 57], [0], none⟩, ⟨some 59, .mov, [ci 0], [], none⟩] false).seq
  (AC.block 0 ((AC.region [⟨some 60, .bin .lss, [.t 59, .t 58], [], none⟩] false).seq
  ((AC.cond (.t 60) AC.skip (AC.exit 0)).seq
  ((AC.block 1 ((AC.region [⟨some 61, .mov, [.t 59], [], none⟩, ⟨some 62, .iad 2, [.t 57, .t 59], [], none⟩, ⟨some 63, .load 2 true, [.t 62], [1], none⟩, ⟨some 15, .alloc [I 0, B false], [], [], none⟩, ⟨some 14, .mov, [.t 61], [0, 0, 1, 2, 3], none⟩, ⟨none, .store 2, [.t 15, .t 63], [3, 2, 4, 0, 1, 2, 3, 4], none⟩] false).seq
  (((AC.region [⟨some 64, .fad 1, [.t 15], [], none⟩, ⟨some 65, .load 1 false, [.t 64], [0], none⟩, ⟨some 66, .un .not, [.t 65], [1], none⟩] false).seq
  (AC.cond (.t 66) (AC.exit 1) AC.skip)).seq
  ((AC.region [⟨some 16, .mov, [ci 1], [], none⟩] false).seq
  ((AC.region [⟨some 17, .mov, [AV.c (V.nl 1)], [], none⟩] false).seq
  (((AC.region [⟨some 67, .mov, [.t 2], [], none⟩, ⟨some 68, .mov, [.t 3], [], none⟩, ⟨some 69, .bin .add, [.t 67, .t 68], [0, 1], none⟩, ⟨some 70, .bin .add, [.t 69, ci 1], [2], none⟩, ⟨some 71, .mov, [ci 0], [], none⟩] false).seq
  (AC.block 2 ((AC.region [⟨some 72, .bin .lss, [.t 71, .t 70], [], none⟩] false).seq
  ((AC.cond (.t 72) AC.skip (AC.exit 2)).seq
  ((AC.block 3 ((AC.region [⟨some 73, .mov, [.t 17], [], none⟩, ⟨some 74, .mov, [.t 16], [], none⟩, ⟨some 75, .bsl 1 [I 0] 1 [0], [.t 74], [1], none⟩, ⟨some 76, .app 1 8, [.t 73, .t 75], [0, 2], none⟩, ⟨some 17, .mov, [.t 76], [3, 3, 0, 1, 2, 3], none⟩] false).seq
  (AC.region [⟨some 77, .mov, [.t 12], [], none⟩, ⟨some 78, .mov, [.t 16], [], none⟩, ⟨some 79, .mov, [.t 14], [], none⟩, ⟨some 80, .bin .add, [.t 79, ci 1], [2], none⟩, ⟨some 81, .call 57, [.t 77, .t 78, .t 80], [0, 1, 3], none⟩, ⟨some 16, .mov, [.t 81], [4, 4, 0, 1, 2, 3, 4], none⟩] false))).seq
  (AC.region [⟨some 82, .bin .add, [.t 71, ci 1], [], none⟩, ⟨some 71, .mov, [.t 82], [0], none⟩] false)))).loop)).seq
  ((AC.region [⟨some 83, .fad 3, [.t 13], [], none⟩, ⟨some 84, .load 1 false, [.t 83], [0], none⟩, ⟨some 85, .mov, [.t 17], [], none⟩, ⟨some 86, .mov, [.t 2], [], none⟩, ⟨some 87, .mov, [.t 3], [], none⟩, ⟨some 88, .bin .add, [.t 86, .t 87], [3, 4], none⟩, ⟨some 89, .slc false true false 1, [.t 85, .t 88], [2, 5], none⟩, ⟨some 90, .app 1 8, [.t 84, .t 89], [1, 6], none⟩, ⟨some 91, .fad 3, [.t 13], [0, 1, 2, 3, 4, 5, 6, 7], none⟩, ⟨none, .store 1, [.t 91, .t 90], [8, 7, 7, 0, 1, 2, 3, 4, 5, 6, 7], none⟩] true).seq
  (((AC.region [⟨some 92, .mov, [.t 17], [], none⟩, ⟨some 93, .mov, [.t 3], [], none⟩, ⟨some 94, .slc false true false 1, [.t 92, .t 93], [0, 1], none⟩, ⟨some 95, .len, [.t 94], [2], none⟩, ⟨some 96, .mov, [ci 0], [], none⟩] false).seq
  (AC.block 4 ((AC.region [⟨some 97, .bin .lss, [.t 96, .t 95], [], none⟩] false).seq
  ((AC.cond (.t 97) AC.skip (AC.exit 4)).seq
  ((AC.block 5 ((AC.region [⟨some 98, .iad 1, [.t 94, .t 96], [], none⟩, ⟨some 99, .load 1 false, [.t 98], [0], none⟩, ⟨some 19, .mov, [.t 99], [1, 0, 1], none⟩] false).seq
  (AC.region [⟨some 100, .fad 3, [.t 13], [], none⟩, ⟨some 101, .load 1 false, [.t 100], [0], none⟩, ⟨some 102, .mov, [.t 12], [], none⟩, ⟨some 103, .mov, [.t 12], [], none⟩, ⟨some 104, .fad 0, [.t 15], [], none⟩, ⟨some 105, .load 1 false, [.t 104], [4], none⟩, ⟨some 106, .mov, [.t 19], [], none⟩, ⟨some 107, .call 57, [.t 103, .t 105, .t 106], [3, 5, 6], none⟩, ⟨some 108, .call 90, [.t 102, ci 0, .t 107], [2, 7, 7], none⟩, ⟨some 109, .bsl 1 [I 0] 1 [0], [.t 108], [8], none⟩, ⟨some 110, .app 1 8, [.t 101, .t 109], [1, 9, 8], none⟩, ⟨some 111, .fad 3, [.t 13], [0, 1, 2, 3, 4, 5, 6, 7, 8, 9, 10], none⟩, ⟨none, .store 1, [.t 111, .t 110], [11, 10, 10, 0, 1, 2, 3, 4, 5, 6, 7, 8, 9, 10], none⟩] true))).seq
  (AC.region [⟨some 112, .bin .add, [.t 96, ci 1], [], none⟩, ⟨some 96, .mov, [.t 112], [0], none⟩] false)))).loop)).seq
  ((AC.region [⟨some 113, .fad 4, [.t 13], [], none⟩, ⟨some 114, .load 1 false, [.t 113], [0], none⟩, ⟨some 115, .mov, [.t 12], [], none⟩, ⟨some 116, .fad 0, [.t 15], [], none⟩, ⟨some 117, .load 1 false, [.t 116], [3], none⟩, ⟨some 118, .mov, [.t 17], [], none⟩, ⟨some 119, .mov, [.t 3], [], none⟩, ⟨some 120, .iad 1, [.t 118, .t 119], [5, 6], none⟩, ⟨some 121, .load 1 false, [.t 120], [7], none⟩, ⟨some 122, .call 57, [.t 115, .t 117, .t 121], [2, 4, 8], none⟩, ⟨some 123, .bsl 1 [I 0] 1 [0], [.t 122], [9], none⟩, ⟨some 124, .app 1 8, [.t 114, .t 123], [1, 10, 9], none⟩, ⟨some 125, .fad 4, [.t 13], [0, 1, 2, 3, 4, 5, 6, 7, 8, 9, 10, 11], none⟩, ⟨none, .store 1, [.t 125, .t 124], [12, 11, 11, 0, 1, 2, 3, 4, 5, 6, 7, 8, 9, 10, 11], none⟩] true).seq
  (AC.region [⟨some 126, .fad 1, [.t 13], [], none⟩, ⟨some 127, .load 1 false, [.t 126], [0], none⟩, ⟨some 128, .bin .add, [.t 127, ci 1], [1], none⟩, ⟨some 129, .fad 1, [.t 13], [0, 1, 2], none⟩, ⟨none, .store 1, [.t 129, .t 128], [3, 2, 0, 1, 2], none⟩] false)))))))))).seq
  (AC.region [⟨some 130, .bin .add, [.t 59, ci 1], [], none⟩, ⟨some 59, .mov, [.t 130], [0], none⟩] false)))).loop)).seq
  ((AC.region [⟨some 131, .load 5 true, [.t 13], [], none⟩, ⟨none, .store 5, [.t 8, .t 131], [0, 0], none⟩, ⟨some 9, .mov, [ci 0], [1, 0, 1], none⟩] false).seq AC.ret))))))
def rs_unique_Key : List RV := [.c 8 5 true, .t 9]
theorem c_unique_Key : compile Tryz.prog ⟨Go.Func.ntmps Tryz.f74, []⟩ (Tryz.f74.body.getD .skip) = some ac_unique_Key := by kernel_rfl
theorem go_unique_Key : GoT Tryz.f74.ntmps 74 ac_unique_Key rs_unique_Key := goT Tryz.func74 (by kernel_rfl) c_unique_Key (by kernel_rfl)
def ac_solve_Solve : AC :=
  (AC.region [⟨some 1, .box, [.t 0], [], none⟩, ⟨some 2, .mov, [AV.c (V.nl 1)], [], none⟩, ⟨some 3, .mov, [ci 0], [1], none⟩] false).seq
  (((AC.region [⟨some 9, .load 5 true, [.t 1], [], none⟩, ⟨some 10, .call 91, [.t 9], [0], none⟩, ⟨some 4, .mov, [.t 10], [1, 1, 0, 1], none⟩] false).seq
  ((AC.region [⟨some 11, .mov, [.t 4], [], none⟩, ⟨some 12, .bin .neq, [.t 11, ci 0], [0], none⟩] false).seq
  (AC.cond (.t 12) ((AC.region [⟨some 13, .mov, [.t 4], [], none⟩, ⟨some 2, .mov, [AV.c (V.nl 1)], [], none⟩, ⟨some 3, .mov, [.t 13], [0, 1, 0, 1], none⟩] false).seq AC.ret) AC.skip))).seq
  ((AC.region [⟨some 14, .load 5 true, [.t 1], [], none⟩, ⟨some 15, .call 92, [.t 14], [0], none⟩, ⟨some 5, .mov, [.t 15], [1, 1, 0, 1], none⟩] false).seq
  (((AC.region [⟨some 16, .mov, [.t 5], [], none⟩, ⟨some 17, .call 93, [.t 16], [0], none⟩, ⟨some 18, .un .not, [.t 17], [1], none⟩] false).seq
  (AC.cond (.t 18) ((AC.region [⟨some 2, .mov, [AV.c (V.nl 1)], [], none⟩, ⟨some 3, .mov, [ci 6], [0, 0], none⟩] false).seq AC.ret) AC.skip)).seq
  ((AC.region [⟨some 19, .fad 2, [.t 1], [], none⟩, ⟨some 20, .load 1 false, [.t 19], [0], none⟩, ⟨some 21, .mks 1 [I 0] 8, [.t 20, .t 20], [1, 1], none⟩, ⟨some 6, .mov, [.t 21], [2, 0, 1, 2], none⟩] false).seq
  (((AC.region [⟨some 22, .mov, [.t 6], [], none⟩, ⟨some 23, .len, [.t 22], [0], none⟩, ⟨some 24, .mov, [ci 0], [], none⟩] false).seq
  (AC.block 0 ((AC.region [⟨some 25, .bin .lss, [.t 24, .t 23], [], none⟩] false).seq
  ((AC.cond (.t 25) AC.skip (AC.exit 0)).seq
  ((AC.block 1 ((AC.region [⟨some 26, .mov, [.t 24], [], none⟩, ⟨some 7, .mov, [.t 26], [0, 0], none⟩] false).seq
  ((AC.region [⟨some 27, .mov, [.t 5], [], none⟩, ⟨some 28, .mov, [.t 7], [], none⟩, ⟨some 29, .nck, [.t 27], [0], none⟩, ⟨some 30, .fad 4, [.t 29], [2], none⟩, ⟨some 31, .iada 32 1, [.t 30, .t 28], [3, 1], none⟩, ⟨some 32, .load 1 false, [.t 31], [4], none⟩, ⟨some 8, .mov, [.t 32], [5, 0, 1, 2, 3, 4, 5], none⟩] false).seq
  ((AC.region [⟨some 33, .mov, [.t 8], [], none⟩, ⟨some 34, .bin .gtr, [.t 33, ci 0], [0], none⟩] false).seq
  (AC.cond (.t 34) (AC.region [⟨some 35, .mov, [.t 6], [], none⟩, ⟨some 36, .mov, [.t 7], [], none⟩, ⟨some 37, .mov, [.t 5], [], none⟩, ⟨some 38, .nck, [.t 37], [2], none⟩, ⟨some 39, .fad 2, [.t 38], [3], none⟩, ⟨some 40, .load 1 false, [.t 39], [4], none⟩, ⟨some 41, .mov, [.t 8], [], none⟩, ⟨some 42, .bin .sub, [.t 41, ci 1], [6], none⟩, ⟨some 43, .iad 1, [.t 40, .t 42], [5, 7], none⟩, ⟨some 44, .load 1 false, [.t 43], [8], none⟩, ⟨some 45, .fad 2, [.t 1], [], none⟩, ⟨some 46, .load 1 false, [.t 45], [10], none⟩, ⟨some 47, .iad 1, [.t 44, .t 46], [9, 11], none⟩, ⟨some 48, .load 1 false, [.t 47], [12], none⟩, ⟨some 49, .iad 1, [.t 35, .t 36], [0, 1, 0, 1, 2, 3, 4, 5, 6, 7, 8, 9, 10, 11, 12, 13], none⟩, ⟨none, .store 1, [.t 49, .t 48], [14, 13, 0, 1, 2, 3, 4, 5, 6, 7, 8, 9, 10, 11, 12, 13], none⟩] true) AC.skip))))).seq
  (AC.region [⟨some 50, .bin .add, [.t 24, ci 1], [], none⟩, ⟨some 24, .mov, [.t 50], [0], none⟩] false)))).loop)).seq
  ((AC.region [⟨some 51, .mov, [.t 6], [], none⟩, ⟨some 2, .mov, [.t 51], [0, 0], none⟩, ⟨some 3, .mov, [ci 0], [1, 0, 1], none⟩] false).seq AC.ret))))))
def rs_solve_Solve : List RV := [.t 2, .t 3]
theorem c_solve_Solve : compile Tryz.prog ⟨Go.Func.ntmps Tryz.f75, []⟩ (Tryz.f75.body.getD .skip) = some ac_solve_Solve := by kernel_rfl
theorem go_solve_Solve : GoT Tryz.f75.ntmps 75 ac_solve_Solve rs_solve_Solve := goT Tryz.func75 (by kernel_rfl) c_solve_Solve (by kernel_rfl)
def ac_poly_Divide : AC :=
  (AC.region [⟨some 3, .box, [.t 0], [], none⟩, ⟨some 6, .mov, [AV.c (V.nl 1)], [], none⟩, ⟨some 7, .mov, [AV.c (V.nl 1)], [1], none⟩, ⟨some 8, .mov, [ci 0], [2], none⟩] false).seq
  ((AC.region [⟨some 18, .load 1 true, [.t 3], [], none⟩, ⟨some 19, .mov, [.t 1], [], none⟩, ⟨some 20, .mov, [.t 2], [], none⟩, ⟨some 21, .bsl 1 [V.nl 1] 2 [0, 1], [.t 19, .t 20], [1, 2], none⟩, ⟨some 22, .call 94, [.t 18, .t 21], [0, 3], none⟩, ⟨some 17, .mov, [.t 22], [4], none⟩, ⟨some 23, .ext 0, [.t 17], [5], none⟩, ⟨some 24, .ext 1, [.t 17], [5], none⟩, ⟨some 9, .mov, [.t 23], [6, 4, 0, 1, 2, 3, 4, 5, 6], none⟩, ⟨some 10, .mov, [.t 24], [7, 8, 0, 1, 2, 3, 4, 5, 6, 7, 8], none⟩] false).seq
  (((AC.region [⟨some 25, .mov, [.t 10], [], none⟩, ⟨some 26, .bin .neq, [.t 25, ci 0], [0], none⟩] false).seq
  (AC.cond (.t 26) ((AC.region [⟨some 27, .mov, [.t 10], [], none⟩, ⟨some 6, .mov, [AV.c (V.nl 1)], [], none⟩, ⟨some 7, .mov, [AV.c (V.nl 1)], [1, 1], none⟩, ⟨some 8, .mov, [.t 27], [0, 2, 0, 1, 2], none⟩] false).seq AC.ret) AC.skip)).seq
  ((AC.region [⟨some 28, .mov, [.t 1], [], none⟩, ⟨some 29, .call 95, [.t 28], [0], none⟩, ⟨some 30, .mov, [.t 2], [], none⟩, ⟨some 31, .call 96, [.t 30], [2, 1], none⟩, ⟨some 11, .mov, [.t 29], [1, 3, 0, 1], none⟩, ⟨some 2, .mov, [.t 31], [3, 4, 0, 1, 2, 3, 4], none⟩] false).seq
  ((AC.region [⟨some 32, .mov, [.t 2], [], none⟩, ⟨some 33, .len, [.t 32], [0], none⟩, ⟨some 12, .mov, [.t 33], [1, 0, 1], none⟩] false).seq
  (((AC.region [⟨some 34, .mov, [.t 12], [], none⟩, ⟨some 35, .bin .eql, [.t 34, ci 0], [0], none⟩] false).seq
  (AC.cond (.t 35) ((AC.region [⟨some 6, .mov, [AV.c (V.nl 1)], [], none⟩, ⟨some 7, .mov, [AV.c (V.nl 1)], [0, 0], none⟩, ⟨some 8, .mov, [ci 10], [1, 0, 1], none⟩] false).seq AC.ret) AC.skip)).seq
  ((AC.region [⟨some 36, .mov, [.t 11], [], none⟩, ⟨some 37, .len, [.t 36], [0], none⟩, ⟨some 38, .mov, [.t 12], [], none⟩, ⟨some 39, .bin .sub, [.t 37, .t 38], [1, 2], none⟩, ⟨some 40, .bin .add, [.t 39, ci 1], [3], none⟩, ⟨some 41, .mx, [ci 0, .t 40], [4], none⟩, ⟨some 42, .mks 1 [I 0] 8, [.t 41, .t 41], [5, 5], none⟩, ⟨some 13, .mov, [.t 42], [6, 0, 1, 2, 3, 4, 5, 6], none⟩] false).seq
  ((AC.region [⟨some 43, .mov, [.t 9], [], none⟩, ⟨some 44, .mov, [.t 2], [], none⟩, ⟨some 45, .mov, [.t 12], [], none⟩, ⟨some 46, .bin .sub, [.t 45, ci 1], [2], none⟩, ⟨some 47, .iad 1, [.t 44, .t 46], [1, 3], none⟩, ⟨some 48, .load 1 false, [.t 47], [4], none⟩, ⟨some 49, .call 97, [.t 43, .t 48], [0, 5], none⟩, ⟨some 14, .mov, [.t 49], [6, 6, 0, 1, 2, 3, 4, 5, 6], none⟩] false).seq
  ((AC.block 0 (((AC.region [⟨some 50, .mov, [.t 11], [], none⟩, ⟨some 51, .len, [.t 50], [0], none⟩, ⟨some 52, .mov, [.t 12], [], none⟩, ⟨some 53, .bin .geq, [.t 51, .t 52], [1, 2], none⟩] false).seq
  (AC.cond (.t 53) AC.skip (AC.exit 0))).seq
  (AC.block 1 ((AC.region [⟨some 54, .mov, [.t 11], [], none⟩, ⟨some 55, .len, [.t 54], [0], none⟩, ⟨some 56, .mov, [.t 12], [], none⟩, ⟨some 57, .bin .sub, [.t 55, .t 56], [1, 2], none⟩, ⟨some 15, .mov, [.t 57], [3, 0, 1, 2, 3], none⟩] false).seq
  ((AC.region [⟨some 58, .mov, [.t 9], [], none⟩, ⟨some 59, .mov, [.t 11], [], none⟩, ⟨some 60, .mov, [.t 11], [], none⟩, ⟨some 61, .len, [.t 60], [2], none⟩, ⟨some 62, .bin .sub, [.t 61, ci 1], [3], none⟩, ⟨some 63, .iad 1, [.t 59, .t 62], [1, 4], none⟩, ⟨some 64, .load 1 false, [.t 63], [5], none⟩, ⟨some 65, .mov, [.t 14], [], none⟩, ⟨some 66, .call 57, [.t 58, .t 64, .t 65], [0, 6, 7], none⟩, ⟨some 16, .mov, [.t 66], [8, 8, 0, 1, 2, 3, 4, 5, 6, 7, 8], none⟩] false).seq
  ((AC.region [⟨some 67, .mov, [.t 13], [], none⟩, ⟨some 68, .mov, [.t 15], [], none⟩, ⟨some 69, .mov, [.t 16], [], none⟩, ⟨some 70, .iad 1, [.t 67, .t 68], [0, 1, 0, 1, 2], none⟩, ⟨none, .store 1, [.t 70, .t 69], [3, 2, 0, 1, 2], none⟩] false).seq
  ((AC.region [⟨some 71, .mov, [.t 9], [], none⟩, ⟨some 72, .mov, [.t 11], [], none⟩, ⟨some 73, .mov, [.t 15], [], none⟩, ⟨some 74, .tail 1, [.t 72, .t 73], [1, 2], none⟩, ⟨some 75, .mov, [.t 9], [], none⟩, ⟨some 76, .mov, [.t 16], [], none⟩, ⟨some 77, .call 90, [.t 75, ci 0, .t 76], [4, 5], none⟩, ⟨some 78, .mov, [.t 2], [], none⟩, ⟨some 79, .call 47, [.t 71, .t 74, .t 77, .t 78], [0, 3, 6, 7, 6], none⟩] true).seq
  (AC.region [⟨some 80, .mov, [.t 11], [], none⟩, ⟨some 81, .mov, [.t 11], [], none⟩, ⟨some 82, .len, [.t 81], [1], none⟩, ⟨some 83, .bin .sub, [.t 82, ci 1], [2], none⟩, ⟨some 84, .mov, [.t 11], [], none⟩, ⟨some 85, .len, [.t 84], [4], none⟩, ⟨some 86, .bin .sub, [.t 85, ci 1], [5], none⟩, ⟨some 87, .cutm 1, [.t 80, .t 83, .t 86], [0, 3, 6], none⟩, ⟨some 88, .call 96, [.t 87], [7], none⟩, ⟨some 11, .mov, [.t 88], [8, 8, 0, 1, 2, 3, 4, 5, 6, 7, 8], none⟩] false))))))).loop).seq
  ((AC.region [⟨some 89, .mov, [.t 13], [], none⟩, ⟨some 90, .call 95, [.t 89], [0], none⟩, ⟨some 91, .mov, [.t 11], [], none⟩, ⟨some 92, .call 95, [.t 91], [2, 1], none⟩, ⟨some 6, .mov, [.t 90], [1, 3, 0, 1], none⟩, ⟨some 7, .mov, [.t 92], [3, 4, 0, 1, 2, 3, 4], none⟩, ⟨some 8, .mov, [ci 0], [5, 0, 1, 2, 3, 4, 5], none⟩] false).seq AC.ret)))))))))
def rs_poly_Divide : List RV := [.t 6, .t 7, .t 8]
theorem c_poly_Divide : compile Tryz.prog ⟨Go.Func.ntmps Tryz.f76, [74,87]⟩ (Tryz.f76.body.getD .skip) = some ac_poly_Divide := by kernel_rfl
theorem go_poly_Divide : GoT Tryz.f76.ntmps 76 ac_poly_Divide rs_poly_Divide := goT Tryz.func76 (by kernel_rfl) c_poly_Divide (by kernel_rfl)
def ac_unique_wrongs : AC :=
  (AC.region [⟨some 6, .mov, [AV.c (V.nl 1)], [], none⟩] false).seq
  ((AC.region [⟨some 7, .mov, [AV.c (V.nl 1)], [], none⟩] false).seq
  (((AC.region [⟨some 10, .mov, [.t 1], [], none⟩, ⟨some 11, .len, [.t 10], [0], none⟩, ⟨some 12, .mov, [ci 0], [], none⟩] false).seq
  (AC.block 0 ((AC.region [⟨some 13, .bin .lss, [.t 12, .t 11], [], none⟩] false).seq
  ((AC.cond (.t 13) AC.skip (AC.exit 0)).seq
  ((AC.block 1 ((AC.region [⟨some 14, .mov, [.t 12], [], none⟩, ⟨some 15, .iad 2, [.t 10, .t 12], [], none⟩, ⟨some 16, .load 2 true, [.t 15], [1], none⟩, ⟨some 9, .alloc [I 0, B false], [], [], none⟩, ⟨some 8, .mov, [.t 14], [0, 0, 1, 2, 3], none⟩, ⟨none, .store 2, [.t 9, .t 16], [3, 2, 4, 0, 1, 2, 3, 4], none⟩] false).seq
  ((AC.region [⟨some 17, .fad 1, [.t 9], [], none⟩, ⟨some 18, .load 1 false, [.t 17], [0], none⟩, ⟨some 19, .mov, [.t 18], [1], none⟩, ⟨some 20, .mov, [.t 0], [2], some (2, 19, true)⟩, ⟨some 21, .mov, [.t 2], [2], some (2, 19, true)⟩, ⟨some 22, .mov, [.t 8], [2], some (2, 19, true)⟩, ⟨some 23, .bin .add, [.t 22, ci 1], [5, 2], some (2, 19, true)⟩, ⟨some 24, .call 50, [.t 20, .t 21, .t 23], [3, 4, 6, 2, 2], some (2, 19, true)⟩, ⟨some 25, .fad 0, [.t 9], [2], some (2, 19, true)⟩, ⟨some 26, .load 1 false, [.t 25], [8, 2], some (2, 19, true)⟩, ⟨some 27, .bin .neq, [.t 24, .t 26], [7, 9, 2], some (2, 19, true)⟩, ⟨some 28, .pick, [.t 19, .t 27, cb false], [2, 10], none⟩] true).seq
  (AC.cond (.t 28) (AC.region [⟨some 29, .mov, [.t 7], [], none⟩, ⟨some 30, .mov, [.t 8], [], none⟩, ⟨some 31, .bin .add, [.t 30, ci 1], [1], none⟩, ⟨some 32, .bsl 1 [I 0] 1 [0], [.t 31], [2], none⟩, ⟨some 33, .app 1 8, [.t 29, .t 32], [0, 3], none⟩, ⟨some 7, .mov, [.t 33], [4, 4, 0, 1, 2, 3, 4], none⟩] false) AC.skip)))).seq
  (AC.region [⟨some 34, .bin .add, [.t 12, ci 1], [], none⟩, ⟨some 12, .mov, [.t 34], [0], none⟩] false)))).loop)).seq
  ((AC.region [⟨some 35, .mov, [.t 7], [], none⟩, ⟨some 6, .mov, [.t 35], [0, 0], none⟩] false).seq AC.ret)))
def rs_unique_wrongs : List RV := [.t 6]
theorem c_unique_wrongs : compile Tryz.prog ⟨Go.Func.ntmps Tryz.f77, []⟩ (Tryz.f77.body.getD .skip) = some ac_unique_wrongs := by kernel_rfl
theorem go_unique_wrongs : GoT Tryz.f77.ntmps 77 ac_unique_wrongs rs_unique_wrongs := goT Tryz.func77 (by kernel_rfl) c_unique_wrongs (by kernel_rfl)
def ac_cmp_isNaN_int : AC :=
  (AC.region [⟨some 2, .mov, [cb false], [], none⟩] false).seq
  ((AC.region [⟨some 3, .mov, [.t 0], [], none⟩, ⟨some 4, .mov, [.t 0], [], none⟩, ⟨some 5, .bin .neq, [.t 3, .t 4], [0, 1], none⟩, ⟨some 2, .mov, [.t 5], [2, 0, 1, 2], none⟩] false).seq AC.ret)
def rs_cmp_isNaN_int : List RV := [.t 2]
theorem c_cmp_isNaN_int : compile Tryz.prog ⟨Go.Func.ntmps Tryz.f86, []⟩ (Tryz.f86.body.getD .skip) = some ac_cmp_isNaN_int := by kernel_rfl
theorem go_cmp_isNaN_int : GoT Tryz.f86.ntmps 86 ac_cmp_isNaN_int rs_cmp_isNaN_int := goT Tryz.func86 (by kernel_rfl) c_cmp_isNaN_int (by kernel_rfl)
def ac_poly_Interpolate : AC :=
  (AC.region [⟨some 2, .box, [.t 0], [], none⟩, ⟨some 4, .mov, [AV.c (V.nl 1)], [], none⟩, ⟨some 5, .mov, [ci 0], [1], none⟩] false).seq
  ((AC.region [⟨some 6, .mov, [AV.c (V.nl 1)], [], none⟩, ⟨some 7, .mov, [AV.c (V.nl 1)], [0], none⟩] false).seq
  (((AC.region [⟨some 21, .mov, [.t 1], [], none⟩, ⟨some 22, .len, [.t 21], [0], none⟩, ⟨some 23, .mov, [ci 0], [], none⟩] false).seq
  (AC.block 0 ((AC.region [⟨some 24, .bin .lss, [.t 23, .t 22], [], none⟩] false).seq
  ((AC.cond (.t 24) AC.skip (AC.exit 0)).seq
  ((AC.block 1 ((AC.region [⟨some 25, .iad 2, [.t 21, .t 23], [], none⟩, ⟨some 26, .load 2 true, [.t 25], [0], none⟩, ⟨some 9, .alloc [I 0, I 0], [], [], none⟩, ⟨none, .store 2, [.t 9, .t 26], [2, 1, 0, 1, 2], none⟩] false).seq
  (AC.region [⟨some 27, .mov, [.t 6], [], none⟩, ⟨some 28, .fad 0, [.t 9], [], none⟩, ⟨some 29, .load 1 false, [.t 28], [1], none⟩, ⟨some 30, .bsl 1 [I 0] 1 [0], [.t 29], [2], none⟩, ⟨some 31, .app 1 8, [.t 27, .t 30], [0, 3], none⟩, ⟨some 32, .mov, [.t 7], [], none⟩, ⟨some 33, .fad 1, [.t 9], [], none⟩, ⟨some 34, .load 1 false, [.t 33], [6], none⟩, ⟨some 35, .bsl 1 [I 0] 1 [0], [.t 34], [7], none⟩, ⟨some 36, .app 1 8, [.t 32, .t 35], [5, 8, 4], none⟩, ⟨some 6, .mov, [.t 31], [4, 9, 0, 1, 2, 3, 4], none⟩, ⟨some 7, .mov, [.t 36], [9, 10, 0, 1, 2, 3, 4, 5, 6, 7, 8, 9, 10], none⟩] true))).seq
  (AC.region [⟨some 37, .bin .add, [.t 23, ci 1], [], none⟩, ⟨some 23, .mov, [.t 37], [0], none⟩] false)))).loop)).seq
  ((AC.region [⟨some 39, .load 1 true, [.t 2], [], none⟩, ⟨some 40, .mov, [.t 6], [], none⟩, ⟨some 41, .mov, [.t 7], [], none⟩, ⟨some 42, .bsl 1 [V.nl 1] 2 [0, 1], [.t 40, .t 41], [1, 2], none⟩, ⟨some 43, .call 94, [.t 39, .t 42], [0, 3], none⟩, ⟨some 38, .mov, [.t 43], [4], none⟩, ⟨some 44, .ext 0, [.t 38], [5], none⟩, ⟨some 45, .ext 1, [.t 38], [5], none⟩, ⟨some 10, .mov, [.t 44], [6, 4, 0, 1, 2, 3, 4, 5, 6], none⟩, ⟨some 11, .mov, [.t 45], [7, 8, 0, 1, 2, 3, 4, 5, 6, 7, 8], none⟩] false).seq
  (((AC.region [⟨some 46, .mov, [.t 11], [], none⟩, ⟨some 47, .bin .neq, [.t 46, ci 0], [0], none⟩] false).seq
  (AC.cond (.t 47) ((AC.region [⟨some 48, .mov, [.t 11], [], none⟩, ⟨some 4, .mov, [AV.c (V.nl 1)], [], none⟩, ⟨some 5, .mov, [.t 48], [0, 1, 0, 1], none⟩] false).seq AC.ret) AC.skip)).seq
  ((AC.region [⟨some 49, .mkm, [], [], none⟩, ⟨some 12, .mov, [.t 49], [0, 0], none⟩] false).seq
  (((AC.region [⟨some 50, .mov, [.t 6], [], none⟩, ⟨some 51, .len, [.t 50], [0], none⟩, ⟨some 52, .mov, [ci 0], [], none⟩] false).seq
  (AC.block 2 ((AC.region [⟨some 53, .bin .lss, [.t 52, .t 51], [], none⟩] false).seq
  ((AC.cond (.t 53) AC.skip (AC.exit 2)).seq
  ((AC.block 3 ((AC.region [⟨some 54, .iad 1, [.t 50, .t 52], [], none⟩, ⟨some 55, .load 1 false, [.t 54], [0], none⟩, ⟨some 14, .mov, [.t 55], [1, 0, 1], none⟩] false).seq
  (((AC.region [⟨some 56, .mov, [.t 12], [], none⟩, ⟨some 57, .mov, [.t 14], [], none⟩, ⟨some 58, .lkp, [.t 56, .t 57], [0, 1], none⟩] false).seq
  (AC.cond (.t 58) ((AC.region [⟨some 4, .mov, [AV.c (V.nl 1)], [], none⟩, ⟨some 5, .mov, [ci 7], [0, 0], none⟩] false).seq AC.ret) AC.skip)).seq
  (AC.region [⟨some 59, .mov, [.t 12], [], none⟩, ⟨some 60, .mov, [.t 14], [], none⟩, ⟨none, .mup, [.t 59, .t 60], [0, 1, 0, 1], none⟩] false)))).seq
  (AC.region [⟨some 61, .bin .add, [.t 52, ci 1], [], none⟩, ⟨some 52, .mov, [.t 61], [0], none⟩] false)))).loop)).seq
  ((AC.region [⟨some 15, .mov, [AV.c (V.nl 1)], [], none⟩] false).seq
  ((AC.region [⟨some 62, .bsl 1 [I 0] 1 [0], [ci 1], [], none⟩, ⟨some 16, .mov, [.t 62], [0, 0], none⟩] false).seq
  (((AC.region [⟨some 63, .mov, [.t 6], [], none⟩, ⟨some 64, .len, [.t 63], [0], none⟩, ⟨some 65, .mov, [ci 0], [], none⟩] false).seq
  (AC.block 4 ((AC.region [⟨some 66, .bin .lss, [.t 65, .t 64], [], none⟩] false).seq
  ((AC.cond (.t 66) AC.skip (AC.exit 4)).seq
  ((AC.block 5 ((AC.region [⟨some 67, .mov, [.t 65], [], none⟩, ⟨some 68, .iad 1, [.t 63, .t 65], [], none⟩, ⟨some 69, .load 1 false, [.t 68], [1], none⟩, ⟨some 17, .mov, [.t 67], [0, 0, 1, 2], none⟩, ⟨some 18, .mov, [.t 69], [2, 3, 0, 1, 2, 3], none⟩] false).seq
  ((AC.region [⟨some 70, .mov, [.t 10], [], none⟩, ⟨some 71, .mov, [.t 10], [], none⟩, ⟨some 72, .mov, [.t 7], [], none⟩, ⟨some 73, .mov, [.t 17], [], none⟩, ⟨some 74, .iad 1, [.t 72, .t 73], [2, 3], none⟩, ⟨some 75, .load 1 false, [.t 74], [4], none⟩, ⟨some 76, .mov, [.t 10], [], none⟩, ⟨some 77, .mov, [.t 15], [], none⟩, ⟨some 78, .mov, [.t 18], [], none⟩, ⟨some 79, .call 50, [.t 76, .t 77, .t 78], [6, 7, 8], none⟩, ⟨some 80, .call 90, [.t 71, .t 75, .t 79], [1, 5, 9, 9], none⟩, ⟨some 81, .mov, [.t 10], [], none⟩, ⟨some 82, .mov, [.t 10], [], none⟩, ⟨some 83, .mov, [.t 16], [], none⟩, ⟨some 84, .mov, [.t 18], [], none⟩, ⟨some 85, .call 50, [.t 82, .t 83, .t 84], [12, 13, 14, 10], none⟩, ⟨some 86, .call 97, [.t 81, .t 85], [11, 15, 15], none⟩, ⟨some 87, .call 57, [.t 70, .t 80, .t 86], [0, 10, 16, 16], none⟩, ⟨some 19, .mov, [.t 87], [17, 17, 0, 1, 2, 3, 4, 5, 6, 7, 8, 9, 10, 11, 12, 13, 14, 15, 16, 17], none⟩] true).seq
  ((AC.region [⟨some 88, .mov, [.t 16], [], none⟩, ⟨some 89, .len, [.t 88], [0], none⟩, ⟨some 90, .mks 1 [I 0] 8, [.t 89, .t 89], [1, 1], none⟩, ⟨some 20, .mov, [.t 90], [2, 0, 1, 2], none⟩] false).seq
  ((AC.region [⟨some 91, .mov, [.t 20], [], none⟩, ⟨some 92, .mov, [.t 15], [], none⟩, ⟨some 93, .cpy 1, [.t 91, .t 92], [0, 1], none⟩] false).seq
  ((AC.region [⟨some 94, .mov, [.t 10], [], none⟩, ⟨some 95, .mov, [.t 20], [], none⟩, ⟨some 96, .mov, [.t 19], [], none⟩, ⟨some 97, .mov, [.t 16], [], none⟩, ⟨some 98, .call 47, [.t 94, .t 95, .t 96, .t 97], [0, 1, 2, 3], none⟩] false).seq
  ((AC.region [⟨some 99, .mov, [.t 20], [], none⟩, ⟨some 15, .mov, [.t 99], [0, 0], none⟩] false).seq
  (AC.region [⟨some 100, .mov, [.t 10], [], none⟩, ⟨some 101, .mov, [.t 16], [], none⟩, ⟨some 102, .mov, [.t 10], [], none⟩, ⟨some 103, .mov, [.t 18], [], none⟩, ⟨some 104, .call 90, [.t 102, ci 0, .t 103], [2, 3], none⟩, ⟨some 105, .bsl 1 [I 0] 2 [0, 1], [.t 104, ci 1], [4], none⟩, ⟨some 106, .call 100, [.t 100, .t 101, .t 105], [0, 1, 5, 4], none⟩, ⟨some 16, .mov, [.t 106], [6, 6, 0, 1, 2, 3, 4, 5, 6], none⟩] false)))))))).seq
  (AC.region [⟨some 107, .bin .add, [.t 65, ci 1], [], none⟩, ⟨some 65, .mov, [.t 107], [0], none⟩] false)))).loop)).seq
  ((AC.region [⟨some 108, .mov, [.t 15], [], none⟩, ⟨some 109, .call 95, [.t 108], [0], none⟩, ⟨some 4, .mov, [.t 109], [1, 1, 0, 1], none⟩, ⟨some 5, .mov, [ci 0], [2, 0, 1, 2], none⟩] false).seq AC.ret))))))))))
def rs_poly_Interpolate : List RV := [.t 4, .t 5]
theorem c_poly_Interpolate : compile Tryz.prog ⟨Go.Func.ntmps Tryz.f88, []⟩ (Tryz.f88.body.getD .skip) = some ac_poly_Interpolate := by kernel_rfl
theorem go_poly_Interpolate : GoT Tryz.f88.ntmps 88 ac_poly_Interpolate rs_poly_Interpolate := goT Tryz.func88 (by kernel_rfl) c_poly_Interpolate (by kernel_rfl)
def ac_residue_Field_Sub : AC :=
  (AC.region [⟨some 6, .mov, [ci 0], [], none⟩] false).seq
  ((AC.region [⟨some 7, .mov, [.t 1], [], none⟩, ⟨some 8, .mov, [.t 2], [], none⟩, ⟨some 9, .bin .sub, [.t 7, .t 8], [0, 1], none⟩, ⟨some 10, .mov, [.t 0], [], none⟩, ⟨some 11, .bin .add, [.t 9, .t 10], [2, 3], none⟩, ⟨some 12, .mov, [.t 0], [], none⟩, ⟨some 13, .bin .rem, [.t 11, .t 12], [4, 5], none⟩, ⟨some 6, .mov, [.t 13], [6, 0, 1, 2, 3, 4, 5, 6], none⟩] false).seq AC.ret)
def rs_residue_Field_Sub : List RV := [.t 6]
theorem c_residue_Field_Sub : compile Tryz.prog ⟨Go.Func.ntmps Tryz.f90, []⟩ (Tryz.f90.body.getD .skip) = some ac_residue_Field_Sub := by kernel_rfl
theorem go_residue_Field_Sub : GoT Tryz.f90.ntmps 90 ac_residue_Field_Sub rs_residue_Field_Sub := goT Tryz.func90 (by kernel_rfl) c_residue_Field_Sub (by kernel_rfl)
def ac_solve_Check : AC :=
  (AC.region [⟨some 1, .box, [.t 0], [], none⟩, ⟨some 2, .mov, [ci 0], [], none⟩] false).seq
  ((AC.region [⟨some 6, .fad 0, [.t 1], [], none⟩, ⟨some 7, .load 1 true, [.t 6], [0], none⟩, ⟨some 8, .call 38, [.t 7], [1], none⟩, ⟨some 5, .mov, [.t 8], [2], none⟩, ⟨some 9, .ext 0, [.t 5], [3], none⟩, ⟨some 10, .ext 1, [.t 5], [3], none⟩, ⟨some 3, .mov, [.t 9], [4, 2, 0, 1, 2, 3, 4], none⟩, ⟨some 4, .mov, [.t 10], [5, 6, 0, 1, 2, 3, 4, 5, 6], none⟩] false).seq
  ((AC.block 0 ((AC.region [⟨some 12, .mov, [.t 4], [], none⟩, ⟨some 13, .un .not, [.t 12], [0], none⟩, ⟨some 11, .mov, [.t 13], [1], none⟩] false).seq
  (AC.cond (.t 11) ((AC.region [⟨some 2, .mov, [ci 9], [], none⟩] false).seq AC.ret) ((AC.region [⟨some 15, .fad 1, [.t 1], [], none⟩, ⟨some 16, .load 1 false, [.t 15], [0], none⟩, ⟨some 17, .bin .lss, [.t 16, ci 0], [1], none⟩, ⟨some 18, .mov, [.t 17], [2], none⟩, ⟨some 19, .fad 1, [.t 1], [3], some (3, 18, false)⟩, ⟨some 20, .load 1 false, [.t 19], [4, 3], some (3, 18, false)⟩, ⟨some 21, .bin .gtr, [.t 20, ci 32], [5, 3], some (3, 18, false)⟩, ⟨some 22, .pick, [.t 18, cb true, .t 21], [3, 6], none⟩, ⟨some 23, .mov, [.t 22], [7, 3], none⟩, ⟨some 24, .fad 2, [.t 1], [8], some (8, 23, false)⟩, ⟨some 25, .load 1 false, [.t 24], [9, 8], some (8, 23, false)⟩, ⟨some 26, .bin .lss, [.t 25, ci 0], [10, 8], some (8, 23, false)⟩, ⟨some 27, .pick, [.t 23, cb true, .t 26], [8, 11], none⟩, ⟨some 28, .mov, [.t 27], [12, 8], none⟩, ⟨some 29, .fad 2, [.t 1], [13], some (13, 28, false)⟩, ⟨some 30, .load 1 false, [.t 29], [14, 13], some (13, 28, false)⟩, ⟨some 31, .bin .gtr, [.t 30, ci 32], [15, 13], some (13, 28, false)⟩, ⟨some 32, .pick, [.t 28, cb true, .t 31], [13, 16], none⟩, ⟨some 14, .mov, [.t 32], [17, 13], none⟩] false).seq
  (AC.cond (.t 14) ((AC.region [⟨some 2, .mov, [ci 4], [], none⟩] false).seq AC.ret) ((AC.region [⟨some 34, .fad 3, [.t 1], [], none⟩, ⟨some 35, .load 1 false, [.t 34], [0], none⟩, ⟨some 36, .len, [.t 35], [1], none⟩, ⟨some 37, .fad 1, [.t 1], [], none⟩, ⟨some 38, .load 1 false, [.t 37], [3], none⟩, ⟨some 39, .fad 2, [.t 1], [], none⟩, ⟨some 40, .load 1 false, [.t 39], [5], none⟩, ⟨some 41, .bin .mul, [.t 38, .t 40], [4, 6], none⟩, ⟨some 42, .bin .neq, [.t 36, .t 41], [2, 7], none⟩, ⟨some 43, .mov, [.t 42], [8], none⟩, ⟨some 44, .fad 4, [.t 1], [9], some (9, 43, false)⟩, ⟨some 45, .load 1 false, [.t 44], [10, 9], some (9, 43, false)⟩, ⟨some 46, .len, [.t 45], [11, 9], some (9, 43, false)⟩, ⟨some 47, .fad 1, [.t 1], [9], some (9, 43, false)⟩, ⟨some 48, .load 1 false, [.t 47], [13, 9], some (9, 43, false)⟩, ⟨some 49, .bin .neq, [.t 46, .t 48], [12, 14, 9], some (9, 43, false)⟩, ⟨some 50, .pick, [.t 43, cb true, .t 49], [9, 15], none⟩, ⟨some 33, .mov, [.t 50], [16, 9], none⟩] false).seq
  (AC.cond (.t 33) ((AC.region [⟨some 2, .mov, [ci 2], [], none⟩] false).seq AC.ret) ((AC.region [⟨some 52, .mov, [.t 3], [], none⟩, ⟨some 53, .fad 3, [.t 1], [], none⟩, ⟨some 54, .load 1 false, [.t 53], [1], none⟩, ⟨some 55, .call 26, [.t 52, .t 54], [0, 2], none⟩, ⟨some 56, .un .not, [.t 55], [3], none⟩, ⟨some 57, .mov, [.t 56], [4, 3], none⟩, ⟨some 58, .mov, [.t 3], [5], some (5, 57, false)⟩, ⟨some 59, .fad 4, [.t 1], [5], some (5, 57, false)⟩, ⟨some 60, .load 1 false, [.t 59], [7, 5], some (5, 57, false)⟩, ⟨some 61, .call 26, [.t 58, .t 60], [6, 8, 5, 5], some (5, 57, false)⟩, ⟨some 62, .un .not, [.t 61], [9, 5], some (5, 57, false)⟩, ⟨some 63, .pick, [.t 57, cb true, .t 62], [5, 10], none⟩, ⟨some 51, .mov, [.t 63], [11, 9], none⟩] false).seq
  (AC.cond (.t 51) ((AC.region [⟨some 2, .mov, [ci 9], [], none⟩] false).seq AC.ret) AC.skip))))))))).seq
  ((AC.region [⟨some 2, .mov, [ci 0], [], none⟩] false).seq AC.ret)))
def rs_solve_Check : List RV := [.t 2]
theorem c_solve_Check : compile Tryz.prog ⟨Go.Func.ntmps Tryz.f91, []⟩ (Tryz.f91.body.getD .skip) = some ac_solve_Check := by kernel_rfl
theorem go_solve_Check : GoT Tryz.f91.ntmps 91 ac_solve_Check rs_solve_Check := goT Tryz.func91 (by kernel_rfl) c_solve_Check (by kernel_rfl)
def ac_solve_reduce : AC :=
  (AC.region [⟨some 1, .box, [.t 0], [], none⟩, ⟨some 2, .mov, [AV.c (V.d (D.at (Value.pointer none)))], [], none⟩] false).seq
  ((AC.region [⟨some 7, .fad 0, [.t 1], [], none⟩, ⟨some 8, .fad 0, [.t 7], [0], none⟩, ⟨some 9, .load 1 false, [.t 8], [1], none⟩, ⟨some 10, .fad 2, [.t 1], [], none⟩, ⟨some 11, .load 1 false, [.t 10], [3], none⟩, ⟨some 12, .build [I 0, I 0, V.nl 1, I 0, I 0, I 0, I 0, I 0, I 0, I 0, I 0, I 0, I 0, I 0, I 0, I 0, I 0, I 0, I 0, I 0, I 0, I 0, I 0, I 0, I 0, I 0, I 0, I 0, I 0, I 0, I 0, I 0, I 0, I 0, I 0, I 0] [(0, 1), (1, 1)], [.t 9, .t 11], [2, 4], none⟩, ⟨some 13, .box, [.t 12], [5], none⟩, ⟨some 3, .mov, [.t 13], [6, 0, 1, 2, 3, 4, 5, 6], none⟩] false).seq
  (((AC.region [⟨some 14, .fad 1, [.t 1], [], none⟩, ⟨some 15, .load 1 false, [.t 14], [0], none⟩, ⟨some 16, .mov, [ci 0], [], none⟩] false).seq
  (AC.block 0 ((AC.region [⟨some 17, .bin .lss, [.t 16, .t 15], [], none⟩] false).seq
  ((AC.cond (.t 17) AC.skip (AC.exit 0)).seq
  ((AC.block 1 ((AC.region [⟨some 18, .mov, [.t 16], [], none⟩, ⟨some 4, .mov, [.t 18], [0, 0], none⟩] false).seq
  ((AC.region [⟨some 19, .fad 3, [.t 1], [], none⟩, ⟨some 20, .load 1 false, [.t 19], [0], none⟩, ⟨some 21, .mov, [.t 4], [], none⟩, ⟨some 22, .fad 2, [.t 1], [], none⟩, ⟨some 23, .load 1 false, [.t 22], [3], none⟩, ⟨some 24, .bin .mul, [.t 21, .t 23], [2, 4], none⟩, ⟨some 25, .mov, [.t 4], [], none⟩, ⟨some 26, .bin .add, [.t 25, ci 1], [6], none⟩, ⟨some 27, .fad 2, [.t 1], [], none⟩, ⟨some 28, .load 1 false, [.t 27], [8], none⟩, ⟨some 29, .bin .mul, [.t 26, .t 28], [7, 9], none⟩, ⟨some 30, .slc true true false 1, [.t 20, .t 24, .t 29], [1, 5, 10], none⟩, ⟨some 31, .app 1 8, [AV.c (V.nl 1), .t 30], [11], none⟩, ⟨some 5, .mov, [.t 31], [12, 12, 0, 1, 2, 3, 4, 5, 6, 7, 8, 9, 10, 11, 12], none⟩] false).seq
  (AC.region [⟨some 32, .mov, [.t 3], [], none⟩, ⟨some 33, .mov, [.t 3], [], none⟩, ⟨some 34, .nck, [.t 33], [1], none⟩, ⟨some 35, .fad 2, [.t 34], [2], none⟩, ⟨some 36, .load 1 false, [.t 35], [3], none⟩, ⟨some 37, .mov, [.t 5], [], none⟩, ⟨some 38, .fad 4, [.t 1], [], none⟩, ⟨some 39, .load 1 false, [.t 38], [6], none⟩, ⟨some 40, .mov, [.t 4], [], none⟩, ⟨some 41, .iad 1, [.t 39, .t 40], [7, 8], none⟩, ⟨some 42, .load 1 false, [.t 41], [9], none⟩, ⟨some 43, .bsl 1 [I 0] 1 [0], [.t 42], [10], none⟩, ⟨some 44, .app 1 8, [.t 37, .t 43], [5, 11], none⟩, ⟨some 45, .bslv 1, [.t 44], [12], none⟩, ⟨some 46, .app 1 24, [.t 36, .t 45], [4, 13, 12], none⟩, ⟨some 47, .nck, [.t 32], [0, 0, 1, 2, 3, 4, 5, 6, 7, 8, 9, 10, 11, 12, 13, 14], none⟩, ⟨some 48, .fad 2, [.t 47], [15, 0, 1, 2, 3, 4, 5, 6, 7, 8, 9, 10, 11, 12, 13, 14], none⟩, ⟨none, .store 1, [.t 48, .t 46], [16, 14, 14, 0, 1, 2, 3, 4, 5, 6, 7, 8, 9, 10, 11, 12, 13, 14], none⟩] true)))).seq
  (AC.region [⟨some 49, .bin .add, [.t 16, ci 1], [], none⟩, ⟨some 16, .mov, [.t 49], [0], none⟩] false)))).loop)).seq
  (((AC.region [⟨some 50, .fad 2, [.t 1], [], none⟩, ⟨some 51, .load 1 false, [.t 50], [0], none⟩, ⟨some 52, .mov, [ci 0], [], none⟩] false).seq
  (AC.block 2 ((AC.region [⟨some 53, .bin .lss, [.t 52, .t 51], [], none⟩] false).seq
  ((AC.cond (.t 53) AC.skip (AC.exit 2)).seq
  ((AC.block 3 ((AC.region [⟨some 54, .mov, [.t 52], [], none⟩, ⟨some 6, .mov, [.t 54], [0, 0], none⟩] false).seq
  (AC.region [⟨some 55, .mov, [.t 3], [], none⟩, ⟨some 56, .mov, [.t 6], [], none⟩, ⟨some 57, .call 101, [.t 55, .t 56], [0, 1], none⟩] false))).seq
  (AC.region [⟨some 58, .bin .add, [.t 52, ci 1], [], none⟩, ⟨some 52, .mov, [.t 58], [0], none⟩] false)))).loop)).seq
  ((AC.region [⟨some 59, .mov, [.t 3], [], none⟩, ⟨some 2, .mov, [.t 59], [0, 0], none⟩] false).seq AC.ret))))
def rs_solve_reduce : List RV := [.t 2]
theorem c_solve_reduce : compile Tryz.prog ⟨Go.Func.ntmps Tryz.f92, [45]⟩ (Tryz.f92.body.getD .skip) = some ac_solve_reduce := by kernel_rfl
theorem go_solve_reduce : GoT Tryz.f92.ntmps 92 ac_solve_reduce rs_solve_reduce := goT Tryz.func92 (by kernel_rfl) c_solve_reduce (by kernel_rfl)
def ac_solve_reduced_solvable : AC :=
  (AC.region [⟨some 2, .mov, [cb false], [], none⟩] false).seq
  (((AC.region [⟨some 5, .mov, [.t 0], [], none⟩, ⟨some 6, .nck, [.t 5], [0], none⟩, ⟨some 7, .fad 2, [.t 6], [1], none⟩, ⟨some 8, .load 1 false, [.t 7], [2], none⟩, ⟨some 9, .mov, [.t 0], [], none⟩, ⟨some 10, .nck, [.t 9], [4], none⟩, ⟨some 11, .fad 3, [.t 10], [5], none⟩, ⟨some 12, .load 1 false, [.t 11], [6], none⟩, ⟨some 13, .slc true false false 1, [.t 8, .t 12], [3, 7], none⟩, ⟨some 14, .len, [.t 13], [8], none⟩, ⟨some 15, .mov, [ci 0], [], none⟩] true).seq
  (AC.block 0 ((AC.region [⟨some 16, .bin .lss, [.t 15, .t 14], [], none⟩] false).seq
  ((AC.cond (.t 16) AC.skip (AC.exit 0)).seq
  ((AC.block 1 ((AC.region [⟨some 17, .iad 1, [.t 13, .t 15], [], none⟩, ⟨some 18, .load 1 false, [.t 17], [0], none⟩, ⟨some 4, .mov, [.t 18], [1, 0, 1], none⟩] false).seq
  ((AC.region [⟨some 19, .mov, [.t 4], [], none⟩, ⟨some 20, .mov, [.t 0], [], none⟩, ⟨some 21, .nck, [.t 20], [1], none⟩, ⟨some 22, .fad 1, [.t 21], [2], none⟩, ⟨some 23, .load 1 false, [.t 22], [3], none⟩, ⟨some 24, .iad 1, [.t 19, .t 23], [0, 4], none⟩, ⟨some 25, .load 1 false, [.t 24], [5], none⟩, ⟨some 26, .bin .neq, [.t 25, ci 0], [6], none⟩] false).seq
  (AC.cond (.t 26) ((AC.region [⟨some 2, .mov, [cb false], [], none⟩] false).seq AC.ret) AC.skip)))).seq
  (AC.region [⟨some 27, .bin .add, [.t 15, ci 1], [], none⟩, ⟨some 15, .mov, [.t 27], [0], none⟩] false)))).loop)).seq
  ((AC.region [⟨some 2, .mov, [cb true], [], none⟩] false).seq AC.ret))
def rs_solve_reduced_solvable : List RV := [.t 2]
theorem c_solve_reduced_solvable : compile Tryz.prog ⟨Go.Func.ntmps Tryz.f93, []⟩ (Tryz.f93.body.getD .skip) = some ac_solve_reduced_solvable := by kernel_rfl
theorem go_solve_reduced_solvable : GoT Tryz.f93.ntmps 93 ac_solve_reduced_solvable rs_solve_reduced_solvable := goT Tryz.func93 (by kernel_rfl) c_solve_reduced_solvable (by kernel_rfl)
def ac_poly_open : AC :=
  (AC.region [⟨some 2, .box, [.t 0], [], none⟩, ⟨some 4, .mov, [ci 0], [], none⟩, ⟨some 5, .mov, [ci 0], [1], none⟩] false).seq
  ((AC.region [⟨some 12, .load 1 true, [.t 2], [], none⟩, ⟨some 13, .call 38, [.t 12], [0], none⟩, ⟨some 11, .mov, [.t 13], [1], none⟩, ⟨some 14, .ext 0, [.t 11], [2], none⟩, ⟨some 15, .ext 1, [.t 11], [2], none⟩, ⟨some 6, .mov, [.t 14], [3, 1, 0, 1, 2, 3], none⟩, ⟨some 7, .mov, [.t 15], [4, 5, 0, 1, 2, 3, 4, 5], none⟩] false).seq
  (((AC.region [⟨some 16, .mov, [.t 7], [], none⟩, ⟨some 17, .un .not, [.t 16], [0], none⟩] false).seq
  (AC.cond (.t 17) ((AC.region [⟨some 4, .mov, [ci 0], [], none⟩, ⟨some 5, .mov, [ci 9], [0, 0], none⟩] false).seq AC.ret) AC.skip)).seq
  ((AC.region [⟨some 8, .mov, [cb false], [], none⟩] false).seq
  (((AC.region [⟨some 18, .mov, [.t 1], [], none⟩, ⟨some 19, .len, [.t 18], [0], none⟩, ⟨some 20, .mov, [ci 0], [], none⟩] false).seq
  (AC.block 0 ((AC.region [⟨some 21, .bin .lss, [.t 20, .t 19], [], none⟩] false).seq
  ((AC.cond (.t 21) AC.skip (AC.exit 0)).seq
  ((AC.block 1 ((AC.region [⟨some 22, .iad 1, [.t 18, .t 20], [], none⟩, ⟨some 23, .load 1 false, [.t 22], [0], none⟩, ⟨some 10, .mov, [.t 23], [1, 0, 1], none⟩] false).seq
  (((AC.region [⟨some 24, .mov, [.t 6], [], none⟩, ⟨some 25, .mov, [.t 10], [], none⟩, ⟨some 26, .call 26, [.t 24, .t 25], [0, 1], none⟩, ⟨some 27, .un .not, [.t 26], [2], none⟩] false).seq
  (AC.cond (.t 27) ((AC.region [⟨some 4, .mov, [ci 0], [], none⟩, ⟨some 5, .mov, [ci 9], [0, 0], none⟩] false).seq AC.ret) AC.skip)).seq
  (AC.region [⟨some 28, .mov, [.t 8], [], none⟩, ⟨some 29, .mov, [.t 28], [0], none⟩, ⟨some 30, .mov, [.t 10], [1], some (1, 29, false)⟩, ⟨some 31, .len, [.t 30], [2, 1], some (1, 29, false)⟩, ⟨some 32, .bin .gtr, [.t 31, ci 512], [3, 1], some (1, 29, false)⟩, ⟨some 33, .pick, [.t 29, cb true, .t 32], [1, 4], none⟩, ⟨some 8, .mov, [.t 33], [5, 1, 0, 1, 2, 3, 4, 5], none⟩] false)))).seq
  (AC.region [⟨some 34, .bin .add, [.t 20, ci 1], [], none⟩, ⟨some 20, .mov, [.t 34], [0], none⟩] false)))).loop)).seq
  (((AC.region [⟨some 35, .mov, [.t 8], [], none⟩] false).seq
  (AC.cond (.t 35) ((AC.region [⟨some 4, .mov, [ci 0], [], none⟩, ⟨some 5, .mov, [ci 4], [0, 0], none⟩] false).seq AC.ret) AC.skip)).seq
  ((AC.region [⟨some 36, .mov, [.t 6], [], none⟩, ⟨some 4, .mov, [.t 36], [0, 0], none⟩, ⟨some 5, .mov, [ci 0], [1, 0, 1], none⟩] false).seq AC.ret))))))
def rs_poly_open : List RV := [.t 4, .t 5]
theorem c_poly_open : compile Tryz.prog ⟨Go.Func.ntmps Tryz.f94, []⟩ (Tryz.f94.body.getD .skip) = some ac_poly_open := by kernel_rfl
theorem go_poly_open : GoT Tryz.f94.ntmps 94 ac_poly_open rs_poly_open := goT Tryz.func94 (by kernel_rfl) c_poly_open (by kernel_rfl)
def ac_poly_own : AC :=
  (AC.region [⟨some 2, .mov, [AV.c (V.nl 1)], [], none⟩] false).seq
  ((AC.region [⟨some 3, .mov, [.t 0], [], none⟩, ⟨some 4, .call 96, [.t 3], [0], none⟩, ⟨some 5, .app 1 8, [AV.c (V.nl 1), .t 4], [1, 1], none⟩, ⟨some 2, .mov, [.t 5], [2, 2, 0, 1, 2], none⟩] false).seq AC.ret)
def rs_poly_own : List RV := [.t 2]
theorem c_poly_own : compile Tryz.prog ⟨Go.Func.ntmps Tryz.f95, []⟩ (Tryz.f95.body.getD .skip) = some ac_poly_own := by kernel_rfl
theorem go_poly_own : GoT Tryz.f95.ntmps 95 ac_poly_own rs_poly_own := goT Tryz.func95 (by kernel_rfl) c_poly_own (by kernel_rfl)
def ac_residue_Trim : AC :=
  (AC.region [⟨some 2, .mov, [AV.c (V.nl 1)], [], none⟩] false).seq
  ((AC.region [⟨some 4, .mov, [.t 0], [], none⟩, ⟨some 5, .len, [.t 4], [0], none⟩, ⟨some 3, .mov, [.t 5], [1, 0, 1], none⟩] false).seq
  ((AC.block 0 (((AC.region [⟨some 6, .mov, [.t 3], [], none⟩, ⟨some 7, .bin .gtr, [.t 6, ci 0], [0], none⟩, ⟨some 8, .mov, [.t 7], [1], none⟩, ⟨some 9, .mov, [.t 0], [2], some (2, 8, true)⟩, ⟨some 10, .mov, [.t 3], [2], some (2, 8, true)⟩, ⟨some 11, .bin .sub, [.t 10, ci 1], [4, 2], some (2, 8, true)⟩, ⟨some 12, .iad 1, [.t 9, .t 11], [3, 5, 2], some (2, 8, true)⟩, ⟨some 13, .load 1 false, [.t 12], [6, 2], some (2, 8, true)⟩, ⟨some 14, .bin .eql, [.t 13, ci 0], [7, 2], some (2, 8, true)⟩, ⟨some 15, .pick, [.t 8, .t 14, cb false], [2, 8], none⟩] false).seq
  (AC.cond (.t 15) AC.skip (AC.exit 0))).seq
  (AC.block 1 (AC.region [⟨some 16, .mov, [.t 3], [], none⟩, ⟨some 17, .bin .sub, [.t 16, ci 1], [0], none⟩, ⟨some 3, .mov, [.t 17], [1, 0, 1], none⟩] false))).loop).seq
  ((AC.region [⟨some 18, .mov, [.t 0], [], none⟩, ⟨some 19, .mov, [.t 3], [], none⟩, ⟨some 20, .slc false true false 1, [.t 18, .t 19], [0, 1], none⟩, ⟨some 2, .mov, [.t 20], [2, 0, 1, 2], none⟩] false).seq AC.ret)))
def rs_residue_Trim : List RV := [.t 2]
theorem c_residue_Trim : compile Tryz.prog ⟨Go.Func.ntmps Tryz.f96, []⟩ (Tryz.f96.body.getD .skip) = some ac_residue_Trim := by kernel_rfl
theorem go_residue_Trim : GoT Tryz.f96.ntmps 96 ac_residue_Trim rs_residue_Trim := goT Tryz.func96 (by kernel_rfl) c_residue_Trim (by kernel_rfl)
def ac_poly_times : AC :=
  (AC.region [⟨some 6, .mov, [AV.c (V.nl 1)], [], none⟩] false).seq
  ((AC.region [⟨some 10, .mov, [.t 1], [], none⟩, ⟨some 11, .len, [.t 10], [0], none⟩, ⟨some 12, .mov, [.t 2], [], none⟩, ⟨some 13, .len, [.t 12], [2], none⟩, ⟨some 14, .bin .add, [.t 11, .t 13], [1, 3], none⟩, ⟨some 15, .bin .sub, [.t 14, ci 1], [4], none⟩, ⟨some 16, .mks 1 [I 0] 8, [.t 15, .t 15], [5, 5], none⟩, ⟨some 7, .mov, [.t 16], [6, 0, 1, 2, 3, 4, 5, 6], none⟩] false).seq
  (((AC.region [⟨some 17, .mov, [.t 1], [], none⟩, ⟨some 18, .len, [.t 17], [0], none⟩, ⟨some 19, .mov, [ci 0], [], none⟩] false).seq
  (AC.block 0 ((AC.region [⟨some 20, .bin .lss, [.t 19, .t 18], [], none⟩] false).seq
  ((AC.cond (.t 20) AC.skip (AC.exit 0)).seq
  ((AC.block 1 ((AC.region [⟨some 21, .mov, [.t 19], [], none⟩, ⟨some 22, .iad 1, [.t 17, .t 19], [], none⟩, ⟨some 23, .load 1 false, [.t 22], [1], none⟩, ⟨some 8, .mov, [.t 21], [0, 0, 1, 2], none⟩, ⟨some 9, .mov, [.t 23], [2, 3, 0, 1, 2, 3], none⟩] false).seq
  (AC.region [⟨some 24, .mov, [.t 0], [], none⟩, ⟨some 25, .mov, [.t 7], [], none⟩, ⟨some 26, .mov, [.t 8], [], none⟩, ⟨some 27, .tail 1, [.t 25, .t 26], [1, 2], none⟩, ⟨some 28, .mov, [.t 9], [], none⟩, ⟨some 29, .mov, [.t 2], [], none⟩, ⟨some 30, .call 47, [.t 24, .t 27, .t 28, .t 29], [0, 3, 4, 5], none⟩] false))).seq
  (AC.region [⟨some 31, .bin .add, [.t 19, ci 1], [], none⟩, ⟨some 19, .mov, [.t 31], [0], none⟩] false)))).loop)).seq
  ((AC.region [⟨some 32, .mov, [.t 7], [], none⟩, ⟨some 6, .mov, [.t 32], [0, 0], none⟩] false).seq AC.ret)))
def rs_poly_times : List RV := [.t 6]
theorem c_poly_times : compile Tryz.prog ⟨Go.Func.ntmps Tryz.f100, [27]⟩ (Tryz.f100.body.getD .skip) = some ac_poly_times := by kernel_rfl
theorem go_poly_times : GoT Tryz.f100.ntmps 100 ac_poly_times rs_poly_times := goT Tryz.func100 (by kernel_rfl) c_poly_times (by kernel_rfl)
def ac_solve_reduced_lead : AC :=
  (AC.region [⟨some 11, .mov, [.t 0], [], none⟩, ⟨some 12, .nck, [.t 11], [0], none⟩, ⟨some 13, .fad 3, [.t 12], [1], none⟩, ⟨some 14, .load 1 false, [.t 13], [2], none⟩, ⟨some 4, .mov, [.t 14], [3, 0, 1, 2, 3], none⟩] false).seq
  ((AC.block 0 (((AC.region [⟨some 15, .mov, [.t 4], [], none⟩, ⟨some 16, .mov, [.t 0], [], none⟩, ⟨some 17, .nck, [.t 16], [1], none⟩, ⟨some 18, .fad 2, [.t 17], [2], none⟩, ⟨some 19, .load 1 false, [.t 18], [3], none⟩, ⟨some 20, .len, [.t 19], [4], none⟩, ⟨some 21, .bin .lss, [.t 15, .t 20], [0, 5], none⟩, ⟨some 22, .mov, [.t 21], [6], none⟩, ⟨some 23, .mov, [.t 0], [7], some (7, 22, true)⟩, ⟨some 24, .nck, [.t 23], [8, 7], some (7, 22, true)⟩, ⟨some 25, .fad 2, [.t 24], [9, 7], some (7, 22, true)⟩, ⟨some 26, .load 1 false, [.t 25], [10, 7], some (7, 22, true)⟩, ⟨some 27, .mov, [.t 4], [7], some (7, 22, true)⟩, ⟨some 28, .iad 1, [.t 26, .t 27], [11, 12, 7], some (7, 22, true)⟩, ⟨some 29, .load 1 false, [.t 28], [13, 7], some (7, 22, true)⟩, ⟨some 30, .mov, [.t 1], [7], some (7, 22, true)⟩, ⟨some 31, .iad 1, [.t 29, .t 30], [14, 15, 7], some (7, 22, true)⟩, ⟨some 32, .load 1 false, [.t 31], [16, 7], some (7, 22, true)⟩, ⟨some 33, .bin .eql, [.t 32, ci 0], [17, 7], some (7, 22, true)⟩, ⟨some 34, .pick, [.t 22, .t 33, cb false], [7, 18], none⟩] false).seq
  (AC.cond (.t 34) AC.skip (AC.exit 0))).seq
  (AC.block 1 (AC.region [⟨some 35, .mov, [.t 4], [], none⟩, ⟨some 36, .bin .add, [.t 35, ci 1], [0], none⟩, ⟨some 4, .mov, [.t 36], [1, 0, 1], none⟩] false))).loop).seq
  (((AC.region [⟨some 37, .mov, [.t 4], [], none⟩, ⟨some 38, .mov, [.t 0], [], none⟩, ⟨some 39, .nck, [.t 38], [1], none⟩, ⟨some 40, .fad 2, [.t 39], [2], none⟩, ⟨some 41, .load 1 false, [.t 40], [3], none⟩, ⟨some 42, .len, [.t 41], [4], none⟩, ⟨some 43, .bin .eql, [.t 37, .t 42], [0, 5], none⟩] false).seq
  (AC.cond (.t 43) AC.ret AC.skip)).seq
  ((AC.region [⟨some 44, .mov, [.t 0], [], none⟩, ⟨some 45, .nck, [.t 44], [0], none⟩, ⟨some 46, .fad 2, [.t 45], [1], none⟩, ⟨some 47, .load 1 false, [.t 46], [2], none⟩, ⟨some 48, .mov, [.t 0], [], none⟩, ⟨some 49, .nck, [.t 48], [4], none⟩, ⟨some 50, .fad 3, [.t 49], [5], none⟩, ⟨some 51, .load 1 false, [.t 50], [6], none⟩, ⟨some 52, .mov, [.t 0], [], none⟩, ⟨some 53, .nck, [.t 52], [8], none⟩, ⟨some 54, .fad 2, [.t 53], [9], none⟩, ⟨some 55, .load 1 false, [.t 54], [10], none⟩, ⟨some 56, .mov, [.t 4], [], none⟩, ⟨some 57, .mov, [.t 0], [], none⟩, ⟨some 58, .nck, [.t 57], [13], none⟩, ⟨some 59, .fad 2, [.t 58], [14], none⟩, ⟨some 60, .load 1 false, [.t 59], [15], none⟩, ⟨some 61, .mov, [.t 4], [], none⟩, ⟨some 62, .iad 1, [.t 60, .t 61], [16, 17], none⟩, ⟨some 63, .load 1 false, [.t 62], [18], none⟩, ⟨some 64, .mov, [.t 0], [], none⟩, ⟨some 65, .nck, [.t 64], [20], none⟩, ⟨some 66, .fad 2, [.t 65], [21], none⟩, ⟨some 67, .load 1 false, [.t 66], [22], none⟩, ⟨some 68, .mov, [.t 0], [], none⟩, ⟨some 69, .nck, [.t 68], [24], none⟩, ⟨some 70, .fad 3, [.t 69], [25], none⟩, ⟨some 71, .load 1 false, [.t 70], [26], none⟩, ⟨some 72, .iad 1, [.t 67, .t 71], [23, 27], none⟩, ⟨some 73, .load 1 false, [.t 72], [28], none⟩, ⟨some 74, .iad 1, [.t 47, .t 51], [3, 7, 0, 1, 2, 3, 4, 5, 6, 7, 11, 13, 14, 15, 16, 17, 18, 19, 23, 27, 29], none⟩, ⟨none, .store 1, [.t 74, .t 63], [30, 19, 0, 1, 2, 3, 4, 5, 6, 7, 11, 13, 14, 15, 16, 17, 18, 19, 23, 27, 29], none⟩, ⟨some 75, .iad 1, [.t 55, .t 56], [11, 12, 0, 1, 2, 3, 4, 5, 6, 7, 8, 9, 10, 11, 12, 13, 14, 15, 16, 17, 18, 19, 20, 21, 22, 23, 24, 25, 26, 27, 28, 29, 30, 31], none⟩, ⟨none, .store 1, [.t 75, .t 73], [32, 29, 31, 0, 1, 2, 3, 4, 5, 6, 7, 8, 9, 10, 11, 12, 13, 14, 15, 16, 17, 18, 19, 20, 21, 22, 23, 24, 25, 26, 27, 28, 29, 30, 31], none⟩] true).seq
  ((AC.region [⟨some 76, .mov, [.t 0], [], none⟩, ⟨some 77, .nck, [.t 76], [0], none⟩, ⟨some 78, .fad 2, [.t 77], [1], none⟩, ⟨some 79, .load 1 false, [.t 78], [2], none⟩, ⟨some 80, .mov, [.t 0], [], none⟩, ⟨some 81, .nck, [.t 80], [4], none⟩, ⟨some 82, .fad 3, [.t 81], [5], none⟩, ⟨some 83, .load 1 false, [.t 82], [6], none⟩, ⟨some 84, .iad 1, [.t 79, .t 83], [3, 7], none⟩, ⟨some 85, .load 1 false, [.t 84], [8], none⟩, ⟨some 5, .mov, [.t 85], [9, 0, 1, 2, 3, 4, 5, 6, 7, 8, 9], none⟩] true).seq
  ((AC.region [⟨some 86, .mov, [.t 0], [], none⟩, ⟨some 87, .nck, [.t 86], [0], none⟩, ⟨some 88, .fad 0, [.t 87], [1], none⟩, ⟨some 89, .load 1 false, [.t 88], [2], none⟩, ⟨some 90, .mov, [.t 5], [], none⟩, ⟨some 91, .mov, [.t 1], [], none⟩, ⟨some 92, .iad 1, [.t 90, .t 91], [4, 5], none⟩, ⟨some 93, .load 1 false, [.t 92], [6], none⟩, ⟨some 94, .call 97, [.t 89, .t 93], [3, 7], none⟩, ⟨some 6, .mov, [.t 94], [8, 8, 0, 1, 2, 3, 4, 5, 6, 7, 8], none⟩] true).seq
  (((AC.region [⟨some 95, .mov, [.t 5], [], none⟩, ⟨some 96, .len, [.t 95], [0], none⟩, ⟨some 97, .mov, [ci 0], [], none⟩] false).seq
  (AC.block 2 ((AC.region [⟨some 98, .bin .lss, [.t 97, .t 96], [], none⟩] false).seq
  ((AC.cond (.t 98) AC.skip (AC.exit 2)).seq
  ((AC.block 3 ((AC.region [⟨some 99, .mov, [.t 97], [], none⟩, ⟨some 100, .iad 1, [.t 95, .t 97], [], none⟩, ⟨some 101, .load 1 false, [.t 100], [1], none⟩, ⟨some 7, .mov, [.t 99], [0, 0, 1, 2], none⟩, ⟨some 8, .mov, [.t 101], [2, 3, 0, 1, 2, 3], none⟩] false).seq
  (AC.region [⟨some 102, .mov, [.t 5], [], none⟩, ⟨some 103, .mov, [.t 7], [], none⟩, ⟨some 104, .mov, [.t 0], [], none⟩, ⟨some 105, .nck, [.t 104], [2], none⟩, ⟨some 106, .fad 0, [.t 105], [3], none⟩, ⟨some 107, .load 1 false, [.t 106], [4], none⟩, ⟨some 108, .mov, [.t 8], [], none⟩, ⟨some 109, .mov, [.t 6], [], none⟩, ⟨some 110, .call 57, [.t 107, .t 108, .t 109], [5, 6, 7], none⟩, ⟨some 111, .iad 1, [.t 102, .t 103], [0, 1, 0, 1, 2, 3, 4, 5, 6, 7, 8], none⟩, ⟨none, .store 1, [.t 111, .t 110], [9, 8, 8, 0, 1, 2, 3, 4, 5, 6, 7, 8], none⟩] false))).seq
  (AC.region [⟨some 112, .bin .add, [.t 97, ci 1], [], none⟩, ⟨some 97, .mov, [.t 112], [0], none⟩] false)))).loop)).seq
  (((AC.region [⟨some 113, .mov, [.t 0], [], none⟩, ⟨some 114, .nck, [.t 113], [0], none⟩, ⟨some 115, .fad 2, [.t 114], [1], none⟩, ⟨some 116, .load 1 false, [.t 115], [2], none⟩, ⟨some 117, .len, [.t 116], [3], none⟩, ⟨some 118, .mov, [ci 0], [], none⟩] false).seq
  (AC.block 4 ((AC.region [⟨some 119, .bin .lss, [.t 118, .t 117], [], none⟩] false).seq
  ((AC.cond (.t 119) AC.skip (AC.exit 4)).seq
  ((AC.block 5 ((AC.region [⟨some 120, .mov, [.t 118], [], none⟩, ⟨some 121, .iad 1, [.t 116, .t 118], [], none⟩, ⟨some 122, .load 1 false, [.t 121], [1], none⟩, ⟨some 9, .mov, [.t 120], [0, 0, 1, 2], none⟩, ⟨some 10, .mov, [.t 122], [2, 3, 0, 1, 2, 3], none⟩] false).seq
  ((AC.region [⟨some 123, .mov, [.t 9], [], none⟩, ⟨some 124, .mov, [.t 0], [], none⟩, ⟨some 125, .nck, [.t 124], [1], none⟩, ⟨some 126, .fad 3, [.t 125], [2], none⟩, ⟨some 127, .load 1 false, [.t 126], [3], none⟩, ⟨some 128, .bin .neq, [.t 123, .t 127], [0, 4], none⟩, ⟨some 129, .mov, [.t 128], [5], none⟩, ⟨some 130, .mov, [.t 10], [6], some (6, 129, true)⟩, ⟨some 131, .mov, [.t 1], [6], some (6, 129, true)⟩, ⟨some 132, .iad 1, [.t 130, .t 131], [7, 8, 6], some (6, 129, true)⟩, ⟨some 133, .load 1 false, [.t 132], [9, 6], some (6, 129, true)⟩, ⟨some 134, .bin .neq, [.t 133, ci 0], [10, 6], some (6, 129, true)⟩, ⟨some 135, .pick, [.t 129, .t 134, cb false], [6, 11], none⟩] false).seq
  (AC.cond (.t 135) (AC.region [⟨some 136, .mov, [.t 0], [], none⟩, ⟨some 137, .nck, [.t 136], [0], none⟩, ⟨some 138, .fad 0, [.t 137], [1], none⟩, ⟨some 139, .load 1 false, [.t 138], [2], none⟩, ⟨some 140, .mov, [.t 10], [], none⟩, ⟨some 141, .mov, [.t 0], [], none⟩, ⟨some 142, .nck, [.t 141], [5], none⟩, ⟨some 143, .fad 0, [.t 142], [6], none⟩, ⟨some 144, .load 1 false, [.t 143], [7], none⟩, ⟨some 145, .mov, [.t 10], [], none⟩, ⟨some 146, .mov, [.t 1], [], none⟩, ⟨some 147, .iad 1, [.t 145, .t 146], [9, 10], none⟩, ⟨some 148, .load 1 false, [.t 147], [11], none⟩, ⟨some 149, .call 90, [.t 144, ci 0, .t 148], [8, 12], none⟩, ⟨some 150, .mov, [.t 5], [], none⟩, ⟨some 151, .call 47, [.t 139, .t 140, .t 149, .t 150], [3, 4, 13, 14, 13], none⟩] true) AC.skip)))).seq
  (AC.region [⟨some 152, .bin .add, [.t 118, ci 1], [], none⟩, ⟨some 118, .mov, [.t 152], [0], none⟩] false)))).loop)).seq
  ((AC.region [⟨some 153, .mov, [.t 0], [], none⟩, ⟨some 154, .nck, [.t 153], [0], none⟩, ⟨some 155, .fad 3, [.t 154], [1], none⟩, ⟨some 156, .load 1 false, [.t 155], [2], none⟩, ⟨some 157, .bin .add, [.t 156, ci 1], [3], none⟩, ⟨some 158, .nck, [.t 153], [0, 0, 1, 2, 3, 4], none⟩, ⟨some 159, .fad 3, [.t 158], [5, 0, 1, 2, 3, 4], none⟩, ⟨none, .store 1, [.t 159, .t 157], [6, 4, 0, 1, 2, 3, 4], none⟩] false).seq
  (AC.region [⟨some 160, .mov, [.t 0], [], none⟩, ⟨some 161, .mov, [.t 1], [], none⟩, ⟨some 162, .mov, [.t 0], [], none⟩, ⟨some 163, .nck, [.t 162], [2], none⟩, ⟨some 164, .fad 3, [.t 163], [3], none⟩, ⟨some 165, .load 1 false, [.t 164], [4], none⟩, ⟨some 166, .nck, [.t 160], [0], none⟩, ⟨some 167, .fad 4, [.t 166], [6], none⟩, ⟨some 168, .iada 32 1, [.t 167, .t 161], [7, 1, 0, 1, 2, 3, 4, 5], none⟩, ⟨none, .store 1, [.t 168, .t 165], [8, 5, 0, 1, 2, 3, 4, 5], none⟩] true)))))))))
theorem c_solve_reduced_lead : compile Tryz.prog ⟨Go.Func.ntmps Tryz.f101, []⟩ (Tryz.f101.body.getD .skip) = some ac_solve_reduced_lead := by kernel_rfl
end Go.Proofs.YthbhkkdaaipngaaGreatDoor.Sim
