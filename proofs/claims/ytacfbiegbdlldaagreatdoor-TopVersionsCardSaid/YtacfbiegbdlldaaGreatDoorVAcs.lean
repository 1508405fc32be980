/- Functions of the program, as the walk has them. -/
import Derived.Test.YtacfbiegbdlldaaGreatDoorVSimZ
import Derived.Test.YtacfbiegbdlldaaGreatDoorProg
import Derived.ProofKit
namespace Go.Proofs.YtacfbiegbdlldaaGreatDoor.Sim
open Go
set_option maxRecDepth 100000
abbrev GoT (n:Nat) (f:FuncId) (ac:AC) (rs:List RV):Prop:=∀ {xs:List V} {bx bx':U} {r:V} {ns:List O},decide (xs.length≤n)=true→BxOK bx bx'→(∀ cx:Cx,cx.m0=ups M0 bx→Awp Tryz.prog cx ac (RetE rs r bx' ns) ⟨tl (idx 0 xs),ups M0 bx⟩)→Does Tryz.prog f xs bx r bx' ns
theorem goT (slots:List Nat) {f:FuncId} {fn:Func} {ac:AC} {rs:List RV} (hf:Tryz.prog.funcs[f]?=some fn) (hb:fn.body=some (fn.body.getD .skip):=by kernel_rfl) (hc:compile Tryz.prog ⟨fn.ntmps,slots⟩ (fn.body.getD .skip)=some ac:=by kernel_rfl) (hr:rvsOf Tryz.prog fn.results.toList=some rs:=by kernel_rfl):GoT fn.ntmps f ac rs :=
 fun hxs hbx h=>does_of hf hb rfl hc hr (of_decide_eq_true hxs) hbx fun cx _ hm=>h cx hm
abbrev rg (l:List AO) (d:Bool):AC:=.region l d
abbrev mv (d x:Nat) (a:List Nat:=[]):AO:=⟨some d,.mov,[.t x],a,none⟩
abbrev mg (d x:Nat) (a:List Nat) (j t:Nat) (b:Bool):AO:=⟨some d,.mov,[.t x],a,some (j,t,b)⟩
abbrev ld (d x:Nat) (a:List Nat:=[]):AO:=⟨some d,.load 1 false,[.t x],a,none⟩
abbrev xt (d j x:Nat) (a:List Nat:=[]):AO:=⟨some d,.ext j,[.t x],a,none⟩
abbrev fa (d o x:Nat) (a:List Nat:=[]):AO:=⟨some d,.fad o,[.t x],a,none⟩
abbrev bn (d:Nat) (o:BinOp) (x y:Nat) (a:List Nat:=[]):AO:=⟨some d,.bin o,[.t x,.t y],a,none⟩
abbrev kl (d f:Nat) (x:List AV) (a:List Nat:=[]):AO:=⟨some d,.call f,x,a,none⟩
abbrev oA (d:Nat) (k:K) (x:List AV) (a:List Nat:=[]):AO:=⟨some d,k,x,a,none⟩
abbrev oZ (k:K) (x:List AV) (a:List Nat:=[]):AO:=⟨none,k,x,a,none⟩
abbrev oG (d:Nat) (k:K) (x:List AV) (a:List Nat) (j t:Nat) (b:Bool):AO:=⟨some d,k,x,a,some (j,t,b)⟩
theorem i6 (n:Int) (h:-9223372036854775808≤n∧n≤9223372036854775807):IntKind.i64.wrap n=n:=IntWalk.i64_in n h
theorem dt {p:Prop} [Decidable p] (h:p):decide p=true:=decide_eq_true h
theorem df {p:Prop} [Decidable p] (h:¬p):decide p=false:=decide_eq_false h
theorem lm {α β:Type} {l:List α} {f:α→β}:(l.map f).length=l.length:=List.length_map f
def A0':AC :=
 (rg [oA 4 .mov [cb false]] false).seq
 (((rg [kl 35 5 [],oA 36 (.un .not) [.t 35] [0]] false).seq
 (AC.cond (.t 36) ((rg [oA 4 .mov [cb false]] false).seq AC.ret) AC.skip)).seq
 (((rg [mv 37 0,kl 38 6 [.t 37] [0],oA 39 (.un .not) [.t 38] [1]] false).seq
 (AC.cond (.t 39) ((rg [oA 4 .mov [cb true]] false).seq AC.ret) AC.skip)).seq
 ((rg [mv 40 0,kl 41 7 [.t 40] [0],mv 5 41 [1,1,0,1]] false).seq
 ((rg [mv 42 5,kl 43 9 [.t 42,ci 2] [0],oA 44 (.bin .add) [ci 1,.t 43] [1],oA 45 (.build [I 0,I 0] [(0,1),(1,1)]) [ci 4,.t 44] [2],oA 6 (.alloc [I 0,I 0]) [],oZ (.store 2) [.t 6,.t 45] [4,3,1,0,1,2,3,4]] false).seq
 ((rg [mv 46 5,kl 47 25 [.t 46,ci 4] [0],oA 7 (.alloc [I 0]) [],oZ (.store 1) [.t 7,.t 47] [2,1,1,0,1,2]] false).seq
 ((rg [mv 48 5,kl 49 9 [.t 48,ci 3] [0],oA 50 (.bin .add) [ci 1,.t 49] [1],mv 8 50 [2,1,0,1,2]] false).seq
 ((rg [oA 52 (.load 1 true) [.t 7],mv 53 8,mv 54 5,oA 55 (.load 1 true) [.t 7],mv 56 5,kl 57 9 [.t 56,ci 5] [4],oA 58 (.bin .add) [ci 1,.t 57] [5],mv 59 8,kl 60 10 [.t 54,.t 55,.t 58,.t 59] [2,3,6,7,5],kl 61 26 [ci 3,.t 52,.t 53,.t 60] [0,1,8,8],mv 51 61 [9],xt 62 0 51 [10],xt 63 1 51 [10],oA 9 (.alloc [I 0,I 0,I 0,V.nl 1]) [],oZ (.store 4) [.t 9,.t 62] [13,11,9,0,1,2,3,4,5,6,7,8,9,10,11,13],mv 10 63 [12,14,0,1,2,3,4,5,6,7,8,9,10,11,12,13,14]] true).seq
 (((rg [mv 64 10,oA 65 (.bin .neq) [.t 64,ci 0] [0]] false).seq
 (AC.cond (.t 65) ((rg [oA 4 .mov [cb false]] false).seq AC.ret) AC.skip)).seq
 ((rg [mv 66 5,oA 67 (.load 4 true) [.t 9],kl 68 27 [.t 66,.t 67] [0,1],oA 11 (.alloc [I 0,I 0,I 0,V.nl 1]) [],oZ (.store 4) [.t 11,.t 68] [3,2,2,0,1,2,3]] false).seq
 ((rg [oA 70 (.load 4 true) [.t 9],oA 71 (.load 4 true) [.t 11],kl 72 28 [.t 70,.t 71] [0,1],mv 69 72 [2],xt 73 0 69 [3],xt 74 1 69 [3],oA 12 (.alloc [I 0,I 0,I 0,V.nl 2]) [],oZ (.store 4) [.t 12,.t 73] [6,4,2,0,1,2,3,4,6],mv 13 74 [5,7,0,1,2,3,4,5,6,7]] false).seq
 ((rg [oA 76 (.load 4 true) [.t 9],kl 77 29 [.t 76] [0],mv 75 77 [1],xt 78 0 75 [2],xt 79 1 75 [2],mv 14 78 [3,1,0,1,2,3],mv 15 79 [4,5,0,1,2,3,4,5]] false).seq
 ((rg [mv 81 14,oA 82 (.load 4 true) [.t 12],kl 83 30 [.t 81,.t 82] [0,1],mv 80 83 [2],xt 84 0 80 [3],xt 85 1 80 [3],mv 16 84 [4,2,0,1,2,3,4],mv 17 85 [5,6,0,1,2,3,4,5,6]] false).seq
 ((rg [oA 87 (.load 4 true) [.t 9],kl 88 31 [.t 87] [0],mv 86 88 [1],xt 89 0 86 [2],xt 90 1 86 [2],oA 18 (.alloc [I 0,I 0,I 0,I 0,I 0]) [],oZ (.store 5) [.t 18,.t 89] [5,3,1,0,1,2,3,5],mv 19 90 [4,6,0,1,2,3,4,5,6]] false).seq
 ((rg [oA 92 (.load 4 true) [.t 11],kl 93 31 [.t 92] [0],mv 91 93 [1],xt 94 0 91 [2],xt 95 1 91 [2],oA 20 (.alloc [I 0,I 0,I 0,I 0,I 0]) [],oZ (.store 5) [.t 20,.t 94] [5,3,1,0,1,2,3,5],mv 21 95 [4,6,0,1,2,3,4,5,6]] false).seq
 (((rg [mv 96 13,mv 97 15,bn 98 .add 96 97 [0,1],mv 99 17,bn 100 .add 98 99 [2,3],mv 101 19,bn 102 .add 100 101 [4,5],mv 103 21,bn 104 .add 102 103 [6,7],oA 105 (.bin .neq) [.t 104,ci 0] [8],mv 106 105 [9],oG 107 (.load 5 true) [.t 20] [10] 10 106 false,mg 108 16 [10] 10 106 false,oG 109 (.call 32) [.t 107,.t 108] [11,12,10,10] 10 106 false,oG 110 (.bin .neq) [.t 109,ci 0] [13,10] 10 106 false,oA 111 .pick [.t 106,cb true,.t 110] [10,14]] false).seq
 (AC.cond (.t 111) ((rg [oA 4 .mov [cb false]] false).seq AC.ret) AC.skip)).seq
 (((rg [oA 112 (.load 4 true) [.t 9],oA 113 (.load 4 true) [.t 11],oA 114 (.bsl 4 [I 0,I 0,I 0,V.nl 1] 2 [0,1]) [.t 112,.t 113] [0,1],oA 115 .len [.t 114] [2],oA 116 .mov [ci 0]] false).seq
 (AC.block 0 ((rg [bn 117 .lss 116 115] false).seq
 ((AC.cond (.t 117) AC.skip (AC.exit 0)).seq
 ((AC.block 1 ((rg [mv 118 116,oA 119 (.iad 4) [.t 114,.t 116],oA 120 (.load 4 true) [.t 119] [1],oA 23 (.alloc [I 0,I 0,I 0,V.nl 1]) [],mv 22 118 [0,0,1,2,3],oZ (.store 4) [.t 23,.t 120] [3,2,4,0,1,2,3,4]] false).seq
 ((rg [oA 121 (.load 5 true) [.t 18],mv 122 14,oA 24 (.alloc [I 0,I 0,I 0,I 0,I 0]) [],oZ (.store 5) [.t 24,.t 121] [2,0,0,2],mv 25 122 [1,3,0,1,2,3]] false).seq
 (((rg [mv 123 22,oA 124 (.bin .eql) [.t 123,ci 1] [0]] false).seq
 (AC.cond (.t 124) (rg [oA 125 (.load 5 true) [.t 20],mv 126 16,oZ (.store 5) [.t 24,.t 125] [0,0],mv 25 126 [1,2,0,1,2]] false) AC.skip)).seq
 (((rg [fa 127 3 23,ld 128 127 [0],oA 129 .len [.t 128] [1],oA 130 (.bin .eql) [.t 129,ci 0] [2]] false).seq
 (AC.cond (.t 130) (AC.exit 1) AC.skip)).seq
 ((rg [mv 131 1,oA 132 (.conv .i64) [.t 131] [0],fa 133 3 23,ld 134 133 [2],oA 135 .len [.t 134] [3],bn 136 .rem 132 135 [1,4],mv 26 136 [5,0,1,2,3,4,5]] false).seq
 ((rg [mv 138 5,oA 139 (.load 2 true) [.t 6],kl 140 17 [.t 138,.t 139] [0,1],mv 137 140 [2],xt 141 0 137 [3],xt 142 1 137 [3],mv 27 141 [4,2,0,1,2,3,4],mv 28 142 [5,6,0,1,2,3,4,5,6]] false).seq
 ((rg [mv 144 5,oA 145 (.load 1 true) [.t 7],oA 146 (.load 2 true) [.t 6],mv 147 8,fa 148 3 23,ld 149 148 [4],mv 150 26,mv 151 27,mv 152 28,kl 153 33 [.t 144,.t 145,.t 146,.t 147,.t 149,.t 150,.t 151,.t 152] [0,1,2,3,5,6,7,8],mv 143 153 [9],xt 154 0 143 [10],xt 155 1 143 [10],xt 156 2 143 [10],oA 29 (.alloc [V.nl 1,V.nl 1]) [],oZ (.store 2) [.t 29,.t 154] [14,11,9,0,1,2,3,4,5,6,7,8,9,10,11,14],mv 30 155 [12,15,0,1,2,3,4,5,6,7,8,9,10,11,12,14,15],mv 31 156 [13,16,0,1,2,3,4,5,6,7,8,9,10,11,12,13,14,15,16]] false).seq
 (((rg [mv 157 31,oA 158 (.un .not) [.t 157] [0],mv 159 158 [1],oG 160 (.fad 0) [.t 29] [2] 2 159 false,oG 161 (.load 1 false) [.t 160] [3,2] 2 159 false,oG 162 (.fad 3) [.t 23] [2] 2 159 false,oG 163 (.load 1 false) [.t 162] [5,2] 2 159 false,mg 164 26 [2] 2 159 false,oG 165 (.iad 1) [.t 163,.t 164] [6,7,2] 2 159 false,oG 166 (.load 1 false) [.t 165] [8,2] 2 159 false,oG 167 (.call 20) [.t 161,.t 166] [4,9,2,2] 2 159 false,oG 168 (.un .not) [.t 167] [10,2] 2 159 false,oA 169 .pick [.t 159,cb true,.t 168] [2,11],mv 170 169 [12,10],oG 171 (.fad 1) [.t 29] [13] 13 170 false,oG 172 (.load 1 false) [.t 171] [14,13] 13 170 false,mg 173 30 [13] 13 170 false,oG 174 (.call 20) [.t 172,.t 173] [15,16,13,13] 13 170 false,oG 175 (.un .not) [.t 174] [17,13] 13 170 false,oA 176 .pick [.t 170,cb true,.t 175] [13,18],mv 177 176 [19,17],oG 178 (.load 5 true) [.t 24] [20] 20 177 false,mg 179 25 [20] 20 177 false,mg 180 26 [20] 20 177 false,oG 181 (.fad 0) [.t 29] [20] 20 177 false,oG 182 (.load 1 false) [.t 181] [24,20] 20 177 false,oG 183 (.call 34) [.t 178,.t 179,.t 180,.t 182] [21,22,23,25,20,20] 20 177 false,oG 184 (.bin .neq) [.t 183,ci 0] [26,20] 20 177 false,oA 185 .pick [.t 177,cb true,.t 184] [20,27]] true).seq
 (AC.cond (.t 185) ((rg [oA 4 .mov [cb false]] false).seq AC.ret) AC.skip)).seq
 ((rg [fa 186 0 29,ld 187 186 [0],oA 188 (.app 1 8) [AV.c (V.nl 1),.t 187] [1],mv 32 188 [2,2,0,1,2]] false).seq
 ((rg [mv 189 32,mv 190 32,oA 191 (.iad 1) [.t 190,ci 0] [1],ld 192 191 [2],oA 193 (.bin .add) [.t 192,ci 1] [3],fa 194 0 7,ld 195 194 [5],bn 196 .rem 193 195 [4,6],oA 197 (.iad 1) [.t 189,ci 0] [0,0,1,2,3,4,5,6,7],oZ (.store 1) [.t 197,.t 196] [8,7,0,1,2,3,4,5,6,7]] true).seq
 (((rg [oA 198 (.load 5 true) [.t 24],mv 199 25,mv 200 26,mv 201 32,kl 202 34 [.t 198,.t 199,.t 200,.t 201] [0,1,2,3],oA 203 (.bin .neq) [.t 202,ci 13] [4]] false).seq
 (AC.cond (.t 203) ((rg [oA 4 .mov [cb false]] false).seq AC.ret) AC.skip)).seq
 ((rg [mv 205 25,mv 206 26,kl 207 35 [.t 205,.t 206] [0,1],mv 204 207 [2],xt 208 0 204 [3],xt 209 1 204 [3],oA 33 (.alloc [I 0,I 0,V.nl 1]) [],oZ (.store 3) [.t 33,.t 208] [6,4,2,0,1,2,3,4,6],mv 34 209 [5,7,0,1,2,3,4,5,6,7]] false).seq
 ((rg [mv 210 34,oA 211 (.bin .neq) [.t 210,ci 0] [0],mv 212 211 [1],oG 213 (.load 3 true) [.t 33] [2] 2 212 false,oG 214 (.fad 0) [.t 29] [2] 2 212 false,oG 215 (.load 1 false) [.t 214] [4,2] 2 212 false,oG 216 (.call 37) [.t 215] [5,2,2] 2 212 false,oG 217 (.fad 4) [.t 24] [2] 2 212 false,oG 218 (.load 1 false) [.t 217] [7,2] 2 212 false,oG 219 (.call 36) [.t 213,.t 216,.t 218] [3,6,8,6,2] 2 212 false,oG 220 (.bin .neq) [.t 219,ci 0] [9,2] 2 212 false,oA 221 .pick [.t 212,cb true,.t 220] [2,10]] true).seq
 (AC.cond (.t 221) ((rg [oA 4 .mov [cb false]] false).seq AC.ret) AC.skip))))))))))))))).seq
 (rg [oA 222 (.bin .add) [.t 116,ci 1],mv 116 222 [0]] false)))).loop)).seq
 ((rg [oA 4 .mov [cb true]] false).seq AC.ret)))))))))))))))))
def R0':List RV:=[.t 4]
theorem G0':GoT Tryz.f4.ntmps 4 A0' R0':=goT [] Tryz.func4
def A1':AC :=
 (rg [oA 0 .mov [cb false]] false).seq
 ((rg [oA 13 (.build [I 0] [(0,1)]) [ci 5],oA 1 (.alloc [I 0]) [],oZ (.store 1) [.t 1,.t 13] [1,0,0,1]] false).seq
 ((rg [oA 14 (.build [I 0,I 0] [(0,1),(1,1)]) [ci 3,ci 1],oA 2 (.alloc [I 0,I 0]) [],oZ (.store 2) [.t 2,.t 14] [1,0,0,1]] false).seq
 ((rg [oA 15 (.bsl 1 [I 0] 2 [0,1]) [ci 1,ci 2],oA 16 (.bsl 1 [I 0] 2 [0,1]) [ci 3,ci 4],oA 17 (.bsl 1 [V.nl 1] 2 [0,1]) [.t 15,.t 16] [0,1],mv 3 17 [2,0,1,2]] false).seq
 ((rg [oA 19 (.load 1 true) [.t 1],oA 20 (.load 2 true) [.t 2],oA 21 (.bsl 1 [I 0] 2 [0,1]) [ci 4,ci 2],oA 22 (.build [V.nl 1,I 0] [(0,1)]) [.t 21] [2],kl 23 13 [.t 19,.t 20,ci 2,ci 1,.t 22] [0,1,3],mv 18 23 [4],xt 24 0 18 [5],xt 25 1 18 [5],xt 26 2 18 [5],oA 5 (.alloc [V.nl 1,I 0]) [],mv 4 24 [6,4,0,1,2,3,4,5,6,9],oZ (.store 2) [.t 5,.t 25] [9,7,10,0,1,2,3,4,5,6,7,9,10],mv 6 26 [8,11,0,1,2,3,4,5,6,7,8,9,10,11]] false).seq
 (((rg [mv 27 6,oA 28 (.bin .neq) [.t 27,ci 0] [0],mv 29 28 [1],mg 30 4 [2] 2 29 false,oG 31 .len [.t 30] [3,2] 2 29 false,oG 32 (.bin .neq) [.t 31,ci 3] [4,2] 2 29 false,oA 33 .pick [.t 29,cb true,.t 32] [2,5]] false).seq
 (AC.cond (.t 33) ((rg [oA 0 .mov [cb false]] false).seq AC.ret) AC.skip)).seq
 ((rg [oA 35 (.load 1 true) [.t 1],mv 36 3,mv 37 4,oA 38 (.iad 1) [.t 37,ci 0] [2],ld 39 38 [3],kl 40 23 [.t 35,ci 2,.t 36,.t 39] [0,1,4],mv 34 40 [5],xt 41 0 34 [6],xt 42 1 34 [6],mv 7 41 [7,5,0,1,2,3,4,5,6,7],mv 8 42 [8,9,0,1,2,3,4,5,6,7,8,9]] true).seq
 ((rg [oA 44 (.load 1 true) [.t 1],mv 45 3,mv 46 4,oA 47 (.iad 1) [.t 46,ci 2] [2],ld 48 47 [3],kl 49 23 [.t 44,ci 2,.t 45,.t 48] [0,1,4],mv 43 49 [5],xt 50 0 43 [6],xt 51 1 43 [6],mv 9 50 [7,5,0,1,2,3,4,5,6,7],mv 10 51 [8,9,0,1,2,3,4,5,6,7,8,9]] true).seq
 ((rg [oA 53 (.load 1 true) [.t 1],oA 54 (.load 2 true) [.t 2],mv 55 7,oA 56 (.build [B false,V.nl 1] [(0,1),(1,1)]) [cb true,.t 55] [2],oA 57 (.build [B false,V.nl 1] []) [],mv 58 9,oA 59 (.build [B false,V.nl 1] [(0,1),(1,1)]) [cb true,.t 58] [5],oA 60 (.bsl 2 [B false,V.nl 1] 3 [0,1,2]) [.t 56,.t 57,.t 59] [3,4,6],kl 61 19 [.t 53,.t 54,ci 2,.t 60] [0,1,7],mv 52 61 [8],xt 62 0 52 [9],xt 63 1 52 [9],oA 11 (.alloc [V.nl 1,V.nl 1]) [],oZ (.store 2) [.t 11,.t 62] [12,10,8,0,1,2,3,4,5,6,7,8,9,10,12],mv 12 63 [11,13,0,1,2,3,4,5,6,7,8,9,10,11,12,13]] false).seq
 ((rg [mv 64 8,oA 65 (.bin .eql) [.t 64,ci 0] [0],mv 66 65 [1],mg 67 10 [2] 2 66 true,oG 68 (.bin .eql) [.t 67,ci 0] [3,2] 2 66 true,oA 69 .pick [.t 66,.t 68,cb false] [2,4],mv 70 69 [5,2],mg 71 12 [6] 6 70 true,oG 72 (.bin .eql) [.t 71,ci 0] [7,6] 6 70 true,oA 73 .pick [.t 70,.t 72,cb false] [6,8],mv 74 73 [9,6],oG 75 (.fad 0) [.t 11] [10] 10 74 true,oG 76 (.load 1 false) [.t 75] [11,10] 10 74 true,oG 77 (.bsl 1 [I 0] 2 [0,1]) [ci 3,ci 4] [10] 10 74 true,oG 78 (.call 20) [.t 76,.t 77] [12,13,10,10] 10 74 true,oA 79 .pick [.t 74,.t 78,cb false] [10,14],mv 0 79 [15,14,0,1,2,3,4,5,6,7,8,9,10,11,12,13,14,15]] false).seq AC.ret)))))))))
def R1':List RV:=[.t 0]
theorem G1':GoT Tryz.f5.ntmps 5 A1' R1':=goT [] Tryz.func5
def A2':AC :=
 (rg [oA 3 .box [.t 1],oA 4 .mov [ci 0],oA 5 .mov [ci 0] [1]] false).seq
 ((rg [fa 8 0 3,ld 9 8 [0],fa 10 1 3,ld 11 10 [2],bn 12 .sub 9 11 [1,3],oA 13 (.bin .sub) [.t 12,ci 1] [4],mv 6 13 [5,0,1,2,3,4,5]] false).seq
 ((rg [mv 14 0,mv 15 6,oA 16 (.bin .quo) [.t 15,ci 2] [1],oA 17 (.bin .add) [.t 16,ci 1] [2],kl 18 9 [.t 14,.t 17] [0,3],mv 7 18 [4,4,0,1,2,3,4]] false).seq
 ((rg [mv 19 0,mv 20 6,mv 21 7,oA 22 (.bin .mul) [ci 2,.t 21] [2],bn 23 .sub 20 22 [1,3],oA 24 (.bin .add) [.t 23,ci 1] [4],kl 25 9 [.t 19,.t 24] [0,5],mv 26 7,mv 4 25 [6,6,0,1,2,3,4,5,6],mv 5 26 [7,8,0,1,2,3,4,5,6,7,8]] false).seq AC.ret)))
def R2':List RV:=[.t 4,.t 5]
theorem G2':GoT Tryz.f17.ntmps 17 A2' R2':=goT [] Tryz.func17
def A3':AC :=
 (rg [oA 9 .box [.t 1],oA 10 .box [.t 2],oA 16 (.alloc [V.nl 1,V.nl 1]) [],oA 17 .mov [AV.c (V.nl 1)],oA 18 .mov [cb false] [3]] false).seq
 ((rg [oA 34 (.load 1 true) [.t 9],oA 35 (.load 2 true) [.t 10],mv 36 4,oA 37 .len [.t 36] [2],kl 38 12 [.t 34,.t 35,.t 37] [0,1,3],mv 33 38 [4],xt 39 0 33 [5],xt 40 1 33 [5],mv 19 39 [6,4,0,1,2,3,4,5,6],mv 20 40 [7,8,0,1,2,3,4,5,6,7,8]] false).seq
 ((rg [oA 42 (.load 1 true) [.t 9],oA 43 (.load 2 true) [.t 10],mv 44 4,oA 45 .len [.t 44] [2],mv 46 5,mv 47 0,mv 48 19,kl 49 14 [.t 47,.t 48] [5,6],kl 50 13 [.t 42,.t 43,.t 45,.t 46,.t 49] [0,1,3,4,7,7],mv 41 50 [8],xt 51 0 41 [9],xt 52 1 41 [9],xt 53 2 41 [9],oA 22 (.alloc [V.nl 1,I 0]) [],mv 21 51 [10,8,0,1,2,3,4,5,6,7,8,9,10,13],oZ (.store 2) [.t 22,.t 52] [13,11,14,0,1,2,3,4,5,6,7,8,9,10,11,13,14],mv 23 53 [12,15,0,1,2,3,4,5,6,7,8,9,10,11,12,13,14,15]] true).seq
 (((rg [mv 54 20,oA 55 (.bin .neq) [.t 54,ci 0] [0],mv 56 55 [1],mg 57 23 [2] 2 56 false,oG 58 (.bin .neq) [.t 57,ci 0] [3,2] 2 56 false,oA 59 .pick [.t 56,cb true,.t 58] [2,4]] false).seq
 (AC.cond (.t 59) ((rg [oA 60 (.build [V.nl 1,V.nl 1] []) [],oZ (.store 2) [.t 16,.t 60] [0,0],oA 17 .mov [AV.c (V.nl 1)] [1,0,1],oA 18 .mov [cb false] [2,0,1,2]] false).seq AC.ret) AC.skip)).seq
 ((rg [oA 24 .mov [AV.c (V.nl 1)]] false).seq
 (((rg [mv 61 21,oA 62 .len [.t 61] [0],oA 63 .mov [ci 0]] false).seq
 (AC.block 0 ((rg [bn 64 .lss 63 62] false).seq
 ((AC.cond (.t 64) AC.skip (AC.exit 0)).seq
 ((AC.block 1 ((rg [oA 65 (.iad 1) [.t 61,.t 63],ld 66 65 [0],mv 26 66 [1,0,1]] false).seq
 ((rg [oA 68 (.load 1 true) [.t 9],mv 69 3,mv 70 4,mv 71 26,kl 72 23 [.t 68,.t 69,.t 70,.t 71] [0,1,2,3],mv 67 72 [4],xt 73 0 67 [5],xt 74 1 67 [5],mv 27 73 [6,4,0,1,2,3,4,5,6],mv 28 74 [7,8,0,1,2,3,4,5,6,7,8]] false).seq
 (((rg [mv 75 28,oA 76 (.bin .neq) [.t 75,ci 0] [0]] false).seq
 (AC.cond (.t 76) ((rg [oA 77 (.build [V.nl 1,V.nl 1] []) [],oZ (.store 2) [.t 16,.t 77] [0,0],oA 17 .mov [AV.c (V.nl 1)] [1,0,1],oA 18 .mov [cb false] [2,0,1,2]] false).seq AC.ret) AC.skip)).seq
 (rg [mv 78 24,mv 79 27,oA 80 (.bsl 1 [V.nl 1] 1 [0]) [.t 79] [1],oA 81 (.app 1 24) [.t 78,.t 80] [0,2],mv 24 81 [3,3,0,1,2,3]] false))))).seq
 (rg [oA 82 (.bin .add) [.t 63,ci 1],mv 63 82 [0]] false)))).loop)).seq
 ((rg [mv 84 0,oA 85 (.load 1 true) [.t 9],mv 86 24,mv 87 7,mv 88 6,kl 89 18 [.t 84,.t 85,.t 86,.t 87,.t 88] [0,1,2,3,4],mv 83 89 [5],xt 90 0 83 [6],xt 91 1 83 [6],mv 29 90 [7,5,0,1,2,3,4,5,6,7],mv 30 91 [8,9,0,1,2,3,4,5,6,7,8,9]] false).seq
 ((rg [oA 93 (.load 1 true) [.t 9],oA 94 (.load 2 true) [.t 10],mv 95 3,mv 96 29,kl 97 19 [.t 93,.t 94,.t 95,.t 96] [0,1,2,3],mv 92 97 [4],xt 98 0 92 [5],xt 99 1 92 [5],oA 31 (.alloc [V.nl 1,V.nl 1]) [],oZ (.store 2) [.t 31,.t 98] [8,6,4,0,1,2,3,4,5,6,8],mv 32 99 [7,9,0,1,2,3,4,5,6,7,8,9]] false).seq
 ((rg [oA 100 (.load 2 true) [.t 31],mv 101 30,mv 102 32,oA 103 (.bin .eql) [.t 102,ci 0] [2],oZ (.store 2) [.t 16,.t 100] [0,0],mv 17 101 [1,4,0,1,4],mv 18 103 [3,5,0,1,2,3,4,5]] false).seq AC.ret))))))))
def R3':List RV:=[.c 16 2 true,.t 17,.t 18]
theorem G3':GoT Tryz.f33.ntmps 33 A3' R3':=goT [] Tryz.func33
def A4':AC :=
 (rg [oA 2 .mov [cb false]] false).seq
 ((rg [mv 3 0,oA 4 .len [.t 3] [0],oA 5 (.bin .leq) [.t 4,ci 500] [1],mv 2 5 [2,0,1,2]] false).seq AC.ret)
def R4':List RV:=[.t 2]
theorem G4':GoT Tryz.f6.ntmps 6 A4' R4':=goT [] Tryz.func6
def A5':AC :=
 (rg [oA 2 .mov [AV.c (V.d (D.at (Value.pointer none)))]] false).seq
 ((rg [mv 3 0,oA 4 (.build [V.nl 1,I 0] [(0,1)]) [.t 3] [0],oA 5 .box [.t 4] [1],mv 2 5 [2,0,1,2]] false).seq AC.ret)
def R5':List RV:=[.t 2]
theorem G5':GoT Tryz.f7.ntmps 7 A5' R5':=goT [] Tryz.func7
def A6':AC :=
 (rg [oA 4 .mov [ci 0]] false).seq
 (((rg [mv 6 1,oA 7 (.bin .lss) [.t 6,ci 1] [0],mv 8 7 [1],mg 9 0 [2] 2 8 false,oG 10 .nck [.t 9] [3,2] 2 8 false,oG 11 (.fad 1) [.t 10] [4,2] 2 8 false,oG 12 (.load 1 false) [.t 11] [5,2] 2 8 false,mg 13 0 [2] 2 8 false,oG 14 .nck [.t 13] [7,2] 2 8 false,oG 15 (.fad 0) [.t 14] [8,2] 2 8 false,oG 16 (.load 1 false) [.t 15] [9,2] 2 8 false,oG 17 .len [.t 16] [10,2] 2 8 false,oG 18 (.bin .geq) [.t 12,.t 17] [6,11,2] 2 8 false,oA 19 .pick [.t 8,cb true,.t 18] [2,12]] true).seq
 (AC.cond (.t 19) ((rg [oA 4 .mov [ci 0]] false).seq AC.ret) AC.skip)).seq
 ((rg [mv 20 0,oA 21 .nck [.t 20] [0],fa 22 0 21 [1],ld 23 22 [2],mv 24 0,oA 25 .nck [.t 24] [4],fa 26 1 25 [5],ld 27 26 [6],oA 28 (.iad 1) [.t 23,.t 27] [3,7],ld 29 28 [8],mv 5 29 [9,0,1,2,3,4,5,6,7,8,9]] true).seq
 ((rg [mv 30 0,oA 31 .nck [.t 30] [0],fa 32 1 31 [1],ld 33 32 [2],oA 34 (.bin .add) [.t 33,ci 1] [3],oA 35 .nck [.t 30] [0,0,1,2,3,4],fa 36 1 35 [5,0,1,2,3,4],oZ (.store 1) [.t 36,.t 34] [6,4,0,1,2,3,4]] false).seq
 ((rg [mv 37 5,mv 38 1,kl 39 38 [.t 37,.t 38] [0,1],mv 4 39 [2,2,0,1,2]] false).seq AC.ret))))
def R6':List RV:=[.t 4]
theorem G6':GoT Tryz.f9.ntmps 9 A6' R6':=goT [] Tryz.func9
def A7':AC :=
 (rg [oA 4 (.alloc [I 0]) []] false).seq
 ((rg [oA 6 (.bsl 1 [I 0] 9 [0,1,2,3,4,5,6,7,8]) [ci 2,ci 3,ci 5,ci 7,ci 11,ci 13,ci 17,ci 257,ci 65521],mv 5 6 [0,0]] false).seq
 ((AC.block 0 (((rg [mv 7 5,oA 8 (.iad 1) [.t 7,ci 0] [0],ld 9 8 [1],mv 10 1,bn 11 .leq 9 10 [2,3]] false).seq
 (AC.cond (.t 11) AC.skip (AC.exit 0))).seq
 (AC.block 1 (rg [mv 12 5,oA 13 (.slc true false false 1) [.t 12,ci 1] [0],mv 5 13 [1,0,1]] false))).loop).seq
 ((rg [mv 14 5,mv 15 0,mv 16 5,oA 17 .len [.t 16] [2],kl 18 9 [.t 15,.t 17] [1,3],oA 19 (.iad 1) [.t 14,.t 18] [0,4],ld 20 19 [5],oA 21 (.build [I 0] [(0,1)]) [.t 20] [6],oZ (.store 1) [.t 4,.t 21] [7,4,0,1,2,3,4,5,6,7]] false).seq AC.ret)))
def R7':List RV:=[.c 4 1 true]
theorem G7':GoT Tryz.f25.ntmps 25 A7' R7':=goT [] Tryz.func25
def A8':AC :=
 (rg [oA 5 .box [.t 1],oA 8 .mov [AV.c (V.nl 1)]] false).seq
 ((rg [oA 9 .mov [AV.c (V.nl 1)]] false).seq
 (((rg [mv 10 2,oA 11 .mov [ci 0]] false).seq
 (AC.block 0 ((rg [bn 12 .lss 11 10] false).seq
 ((AC.cond (.t 12) AC.skip (AC.exit 0)).seq
 ((AC.block 1 (rg [mv 13 9,mv 14 0,oA 15 (.load 1 true) [.t 5],mv 16 3,kl 17 39 [.t 14,.t 15,.t 16] [1,2,3],oA 18 (.bsl 1 [V.nl 1] 1 [0]) [.t 17] [4],oA 19 (.app 1 24) [.t 13,.t 18] [0,5,4],mv 9 19 [6,6,0,1,2,3,4,5,6]] false)).seq
 (rg [oA 20 (.bin .add) [.t 11,ci 1],mv 11 20 [0]] false)))).loop)).seq
 ((rg [mv 21 9,mv 8 21 [0,0]] false).seq AC.ret)))
def R8':List RV:=[.t 8]
theorem G8':GoT Tryz.f10.ntmps 10 A8' R8':=goT [] Tryz.func10
def A9':AC :=
 (rg [oA 4 .box [.t 1],oA 6 .mov [AV.c (V.nl 1)]] false).seq
 ((rg [oA 7 .mov [AV.c (V.nl 1)]] false).seq
 (((rg [mv 8 2,oA 9 .mov [ci 0]] false).seq
 (AC.block 0 ((rg [bn 10 .lss 9 8] false).seq
 ((AC.cond (.t 10) AC.skip (AC.exit 0)).seq
 ((AC.block 1 (rg [mv 11 7,mv 12 0,fa 13 0 4,ld 14 13 [2],kl 15 9 [.t 12,.t 14] [1,3],oA 16 (.bsl 1 [I 0] 1 [0]) [.t 15] [4],oA 17 (.app 1 8) [.t 11,.t 16] [0,5,4],mv 7 17 [6,6,0,1,2,3,4,5,6]] false)).seq
 (rg [oA 18 (.bin .add) [.t 9,ci 1],mv 9 18 [0]] false)))).loop)).seq
 ((rg [mv 19 7,mv 6 19 [0,0]] false).seq AC.ret)))
def R9':List RV:=[.t 6]
theorem G9':GoT Tryz.f39.ntmps 39 A9' R9':=goT [] Tryz.func39
def A10':AC :=
 (rg [oA 4 (.alloc [V.nl 1,I 0]) []] false).seq
 ((rg [mv 8 0,kl 9 9 [.t 8,ci 2147483646] [0],oA 10 (.bin .add) [ci 1,.t 9] [1],mv 11 1,kl 12 43 [.t 10,.t 11] [2,3,1],mv 7 12 [4],xt 13 0 7 [5],xt 14 1 7 [5],oA 5 (.alloc [V.nl 1,I 0]) [],oZ (.store 2) [.t 5,.t 13] [8,6,4,0,1,2,3,4,5,6,8],mv 6 14 [7,9,0,1,2,3,4,5,6,7,8,9]] false).seq
 ((rg [oA 15 (.load 2 true) [.t 5],oZ (.store 2) [.t 4,.t 15] [0,0]] false).seq AC.ret))
def R10':List RV:=[.c 4 2 true]
theorem G10':GoT Tryz.f14.ntmps 14 A10' R10':=goT [] Tryz.func14
def A11':AC :=
 (rg [oA 6 .box [.t 1],oA 10 .mov [AV.c (V.nl 2)],oA 11 .mov [AV.c (V.nl 1)] [1]] false).seq
 ((rg [oA 12 .mov [AV.c (V.nl 2)]] false).seq
 (((rg [mv 22 2,oA 23 .len [.t 22] [0],oA 24 .mov [ci 0]] false).seq
 (AC.block 0 ((rg [bn 25 .lss 24 23] false).seq
 ((AC.cond (.t 25) AC.skip (AC.exit 0)).seq
 ((AC.block 1 ((rg [oA 26 (.iad 1) [.t 22,.t 24],ld 27 26 [0],mv 14 27 [1,0,1]] false).seq
 (rg [mv 28 12,mv 29 14,oA 30 (.app 1 8) [AV.c (V.nl 1),.t 29] [1],oA 31 (.build [B false,V.nl 1] [(0,1),(1,1)]) [cb true,.t 30] [2],oA 32 (.bslw 2) [.t 31] [3],oA 33 (.app 2 32) [.t 28,.t 32] [0,4,2],mv 12 33 [5,5,0,1,2,3,4,5]] false))).seq
 (rg [oA 34 (.bin .add) [.t 24,ci 1],mv 24 34 [0]] false)))).loop)).seq
 ((rg [mv 35 2,oA 36 .len [.t 35] [0],oA 37 (.mks 1 [B false] 1) [.t 36,.t 36] [1,1],mv 15 37 [2,0,1,2]] false).seq
 (((rg [mv 38 0,mv 39 2,oA 40 .len [.t 39] [1],kl 41 49 [.t 38,.t 40] [0,2],oA 42 .len [.t 41] [3],oA 43 .mov [ci 0]] false).seq
 (AC.block 2 ((rg [bn 44 .lss 43 42] false).seq
 ((AC.cond (.t 44) AC.skip (AC.exit 2)).seq
 ((AC.block 3 ((rg [mv 45 43,oA 46 (.iad 1) [.t 41,.t 43],ld 47 46 [1],mv 16 45 [0,0,1,2],mv 17 47 [2,3,0,1,2,3]] false).seq
 ((rg [mv 48 16,mv 49 3,bn 50 .lss 48 49 [0,1],mv 51 50 [2],mg 52 2 [3] 3 51 true,mg 53 17 [3] 3 51 true,oG 54 (.iad 1) [.t 52,.t 53] [4,5,3] 3 51 true,oG 55 (.load 1 false) [.t 54] [6,3] 3 51 true,oG 56 .len [.t 55] [7,3] 3 51 true,oG 57 (.bin .gtr) [.t 56,ci 0] [8,3] 3 51 true,oA 58 .pick [.t 51,.t 57,cb false] [3,9]] false).seq
 (AC.cond (.t 58) ((rg [mv 59 0,mv 60 2,mv 61 17,oA 62 (.iad 1) [.t 60,.t 61] [1,2],ld 63 62 [3],oA 64 .len [.t 63] [4],kl 65 9 [.t 59,.t 64] [0,5],mv 18 65 [6,6,0,1,2,3,4,5,6]] false).seq
 ((rg [mv 66 12,mv 67 17,oA 68 (.iad 2) [.t 66,.t 67] [0,1],fa 69 1 68 [2],ld 70 69 [3],mv 71 18,mv 72 12,mv 73 17,oA 74 (.iad 2) [.t 72,.t 73] [6,7],fa 75 1 74 [8],ld 76 75 [9],mv 77 18,oA 78 (.iad 1) [.t 76,.t 77] [10,11],ld 79 78 [12],oA 80 (.bin .add) [.t 79,ci 1] [13],mv 81 0,fa 82 0 6,ld 83 82 [16],oA 84 (.bin .sub) [.t 83,ci 1] [17],kl 85 9 [.t 81,.t 84] [15,18],bn 86 .add 80 85 [14,19],fa 87 0 6,ld 88 87 [21],bn 89 .rem 86 88 [20,22],oA 90 (.iad 1) [.t 70,.t 71] [4,5,0,1,2,3,4,5,6,7,8,9,10,11,12,13,14,15,16,17,18,19,20,21,22,23],oZ (.store 1) [.t 90,.t 89] [24,23,19,0,1,2,3,4,5,6,7,8,9,10,11,12,13,14,15,16,17,18,19,20,21,22,23]] true).seq
 (rg [mv 91 15,mv 92 17,oA 93 (.iad 1) [.t 91,.t 92] [0,1,0,1],oZ (.store 1) [.t 93,cb true] [2,0,1]] false))) ((rg [mv 94 16,mv 95 3,bn 96 .geq 94 95 [0,1],mv 97 96 [2],mg 98 16 [3] 3 97 true,mg 99 3 [3] 3 97 true,mg 100 4 [3] 3 97 true,oG 101 (.bin .add) [.t 99,.t 100] [5,6,3] 3 97 true,oG 102 (.bin .lss) [.t 98,.t 101] [4,7,3] 3 97 true,oA 103 .pick [.t 97,.t 102,cb false] [3,8]] false).seq
 (AC.cond (.t 103) (rg [mv 104 12,mv 105 17,oA 106 (.build [B false,V.nl 1] []) [],oA 107 (.iad 2) [.t 104,.t 105] [0,1,0,1,2],oZ (.store 2) [.t 107,.t 106] [3,2,0,1,2]] false) AC.skip)))))).seq
 (rg [oA 108 (.bin .add) [.t 43,ci 1],mv 43 108 [0]] false)))).loop)).seq
 ((rg [oA 19 .mov [AV.c (V.nl 1)]] false).seq
 (((rg [mv 109 15,oA 110 .len [.t 109] [0],oA 111 .mov [ci 0]] false).seq
 (AC.block 4 ((rg [bn 112 .lss 111 110] false).seq
 ((AC.cond (.t 112) AC.skip (AC.exit 4)).seq
 ((AC.block 5 ((rg [mv 113 111,oA 114 (.iad 1) [.t 109,.t 111],ld 115 114 [1],mv 20 113 [0,0,1,2],mv 21 115 [2,3,0,1,2,3]] false).seq
 ((rg [mv 116 21] false).seq
 (AC.cond (.t 116) (rg [mv 117 19,mv 118 20,oA 119 (.bin .add) [.t 118,ci 1] [1],oA 120 (.bsl 1 [I 0] 1 [0]) [.t 119] [2],oA 121 (.app 1 8) [.t 117,.t 120] [0,3],mv 19 121 [4,4,0,1,2,3,4]] false) AC.skip)))).seq
 (rg [oA 122 (.bin .add) [.t 111,ci 1],mv 111 122 [0]] false)))).loop)).seq
 ((rg [mv 123 12,mv 124 19,mv 10 123 [0,0],mv 11 124 [1,2,0,1,2]] false).seq AC.ret)))))))
def R11':List RV:=[.t 10,.t 11]
theorem G11':GoT Tryz.f18.ntmps 18 A11' R11':=goT [32] Tryz.func18
def A12':AC :=
 (rg [oA 4 .mov [AV.c (V.nl 1)]] false).seq
 ((rg [oA 5 .mov [AV.c (V.nl 1)],oA 6 .mov [AV.c (V.nl 1)] [0]] false).seq
 (((rg [mv 9 1,oA 10 .mov [ci 0]] false).seq
 (AC.block 0 ((rg [bn 11 .lss 10 9] false).seq
 ((AC.cond (.t 11) AC.skip (AC.exit 0)).seq
 ((AC.block 1 ((rg [mv 12 10,mv 7 12 [0,0]] false).seq
 (rg [mv 13 5,mv 14 7,oA 15 (.bsl 1 [I 0] 1 [0]) [.t 14] [1],oA 16 (.app 1 8) [.t 13,.t 15] [0,2],mv 5 16 [3,3,0,1,2,3]] false))).seq
 (rg [oA 17 (.bin .add) [.t 10,ci 1],mv 10 17 [0]] false)))).loop)).seq
 ((AC.block 2 (((rg [mv 18 5,oA 19 .len [.t 18] [0],oA 20 (.bin .gtr) [.t 19,ci 0] [1]] false).seq
 (AC.cond (.t 20) AC.skip (AC.exit 2))).seq
 (AC.block 3 ((rg [mv 21 0,mv 22 5,oA 23 .len [.t 22] [1],kl 24 9 [.t 21,.t 23] [0,2],mv 8 24 [3,3,0,1,2,3]] false).seq
 ((rg [mv 25 6,mv 26 5,mv 27 8,oA 28 (.iad 1) [.t 26,.t 27] [1,2],ld 29 28 [3],oA 30 (.bsl 1 [I 0] 1 [0]) [.t 29] [4],oA 31 (.app 1 8) [.t 25,.t 30] [0,5],mv 6 31 [6,6,0,1,2,3,4,5,6]] false).seq
 (rg [mv 32 5,mv 33 8,mv 34 8,oA 35 (.fxc 1) [.t 32,.t 33,.t 34] [0,1,2],mv 36 5,mv 37 8,oA 38 (.bin .add) [.t 37,ci 1] [5],oA 39 (.slc true false false 1) [.t 36,.t 38] [4,6],oA 40 (.app 1 8) [.t 35,.t 39] [3,7],mv 5 40 [8,8,0,1,2,3,4,5,6,7,8]] true))))).loop).seq
 ((rg [mv 41 6,mv 4 41 [0,0]] false).seq AC.ret))))
def R12':List RV:=[.t 4]
theorem G12':GoT Tryz.f49.ntmps 49 A12' R12':=goT [1000035] Tryz.func49
def A13':AC :=
 (rg [oA 4 .mov [ci 0]] false).seq
 ((rg [mv 5 0,mv 6 1,bn 7 .rem 5 6 [0,1],mv 8 1,bn 9 .add 7 8 [2,3],mv 10 1,bn 11 .rem 9 10 [4,5],mv 4 11 [6,0,1,2,3,4,5,6]] false).seq AC.ret)
def R13':List RV:=[.t 4]
theorem G13':GoT Tryz.f38.ntmps 38 A13' R13':=goT [] Tryz.func38
def A14':AC :=
 (rg [oA 3 .box [.t 1],oA 4 (.alloc [I 0,I 0,I 0,V.nl 1]) []] false).seq
 ((rg [fa 9 3 3,ld 10 9 [0],kl 11 60 [.t 10] [1],mv 5 11 [2,2,0,1,2]] false).seq
 (((rg [mv 12 0,kl 13 9 [.t 12,ci 4] [0],mv 6 13 [1,1,0,1]] false).seq
 (AC.block 0 (((rg [mv 14 6,oA 15 (.bin .gtr) [.t 14,ci 0] [0]] false).seq
 (AC.cond (.t 15) AC.skip (AC.exit 0))).seq
 ((AC.block 1 (AC.block 2 ((rg [mv 19 0,kl 20 9 [.t 19,ci 3] [0],oA 21 (.bin .eql) [.t 20,ci 0] [1],mv 18 21 [2,1]] false).seq
 (AC.cond (.t 18) (rg [mv 22 5,mv 23 0,fa 24 1 3,oA 25 (.load 1 true) [.t 24] [2],fa 26 2 3,ld 27 26 [4],kl 28 39 [.t 23,.t 25,.t 27] [1,3,5],oA 29 (.bsl 1 [V.nl 1] 1 [0]) [.t 28] [6],oA 30 (.app 1 24) [.t 22,.t 29] [0,7,6],mv 5 30 [8,8,0,1,2,3,4,5,6,7,8]] false) ((rg [mv 32 5,oA 33 .len [.t 32] [0],oA 34 (.bin .gtr) [.t 33,ci 0] [1],mv 35 34 [2],mg 36 0 [3] 3 35 true,oG 37 (.call 9) [.t 36,ci 4] [4,3,3] 3 35 true,oG 38 (.bin .eql) [.t 37,ci 0] [5,3] 3 35 true,oA 39 .pick [.t 35,.t 38,cb false] [3,6],mv 31 39 [7,5]] false).seq
 (AC.cond (.t 31) (rg [mv 40 5,mv 41 5,oA 42 .len [.t 41] [1],oA 43 (.bin .sub) [.t 42,ci 1] [2],oA 44 (.slc false true false 1) [.t 40,.t 43] [0,3],mv 5 44 [4,0,1,2,3,4]] false) ((rg [mv 46 5,oA 47 .len [.t 46] [0],oA 48 (.bin .gtr) [.t 47,ci 0] [1],mv 45 48 [2]] false).seq
 (AC.cond (.t 45) (rg [mv 49 5,mv 50 0,mv 51 5,oA 52 .len [.t 51] [2],kl 53 9 [.t 50,.t 52] [1,3],mv 54 0,fa 55 1 3,oA 56 (.load 1 true) [.t 55] [6],fa 57 2 3,ld 58 57 [8],kl 59 39 [.t 54,.t 56,.t 58] [5,7,9,4],oA 60 (.iad 1) [.t 49,.t 53] [0,4,0,1,2,3,4,5,6,7,8,9,10],oZ (.store 1) [.t 60,.t 59] [11,10,10,0,1,2,3,4,5,6,7,8,9,10]] true) AC.skip)))))))).seq
 (rg [mv 16 6,oA 17 (.bin .sub) [.t 16,ci 1] [0],mv 6 17 [1,0,1]] false))).loop)).seq
 ((rg [fa 62 0 3,ld 63 62 [0],oA 64 (.bin .add) [.t 63,ci 1] [1],mv 65 0,kl 66 9 [.t 65,ci 3] [3],bn 67 .add 64 66 [2,4],fa 68 1 3,oA 69 (.load 1 true) [.t 68] [6],fa 70 2 3,ld 71 70 [8],mv 72 5,kl 73 61 [.t 67,.t 69,.t 71,.t 72] [5,7,9,10,4],mv 61 73 [11],xt 74 0 61 [12],xt 75 1 61 [12],oA 7 (.alloc [I 0,I 0,I 0,V.nl 1]) [],oZ (.store 4) [.t 7,.t 74] [15,13,11,0,1,2,3,4,5,6,7,8,9,10,11,12,13,15],mv 8 75 [14,16,0,1,2,3,4,5,6,7,8,9,10,11,12,13,14,15,16]] true).seq
 ((rg [oA 76 (.load 4 true) [.t 7],oZ (.store 4) [.t 4,.t 76] [0,0]] false).seq AC.ret))))
def R14':List RV:=[.c 4 4 true]
theorem G14':GoT Tryz.f27.ntmps 27 A14' R14':=goT [] Tryz.func27
def A15':AC :=
 (rg [oA 4 (.alloc [V.nl 1,I 0]) [],oA 5 .mov [ci 0]] false).seq
 (((rg [mv 11 0,oA 12 (.bin .lss) [.t 11,ci 1] [0],mv 13 12 [1],mg 14 0 [2] 2 13 false,oG 15 (.bin .geq) [.t 14,ci 2147483647] [3,2] 2 13 false,oA 16 .pick [.t 13,cb true,.t 15] [2,4]] false).seq
 (AC.cond (.t 16) ((rg [oA 17 (.build [V.nl 1,I 0] []) [],oZ (.store 2) [.t 4,.t 17] [0,0],oA 5 .mov [ci 1] [1,0,1]] false).seq AC.ret) AC.skip)).seq
 (((rg [mv 18 1,oA 19 .len [.t 18] [0],oA 20 (.bin .gtr) [.t 19,ci 16384] [1]] false).seq
 (AC.cond (.t 20) ((rg [oA 21 (.build [V.nl 1,I 0] []) [],oZ (.store 2) [.t 4,.t 21] [0,0],oA 5 .mov [ci 4] [1,0,1]] false).seq AC.ret) AC.skip)).seq
 (((rg [mv 22 1,oA 23 .len [.t 22] [0],oA 24 .mov [ci 0]] false).seq
 (AC.block 0 ((rg [bn 25 .lss 24 23] false).seq
 ((AC.cond (.t 25) AC.skip (AC.exit 0)).seq
 ((AC.block 1 ((rg [oA 26 (.iad 1) [.t 22,.t 24],ld 27 26 [0],mv 7 27 [1,0,1]] false).seq
 ((rg [mv 28 7,oA 29 (.bin .lss) [.t 28,ci 1] [0],mv 30 29 [1],mg 31 7 [2] 2 30 false,oG 32 (.bin .gtr) [.t 31,ci 2147483647] [3,2] 2 30 false,oA 33 .pick [.t 30,cb true,.t 32] [2,4]] false).seq
 (AC.cond (.t 33) ((rg [oA 34 (.build [V.nl 1,I 0] []) [],oZ (.store 2) [.t 4,.t 34] [0,0],oA 5 .mov [ci 4] [1,0,1]] false).seq AC.ret) AC.skip)))).seq
 (rg [oA 35 (.bin .add) [.t 24,ci 1],mv 24 35 [0]] false)))).loop)).seq
 ((rg [oA 8 (.alloc [V.nl 1,I 0]) []] false).seq
 (((rg [mv 36 1,oA 37 .len [.t 36] [0],oA 38 .mov [ci 0]] false).seq
 (AC.block 2 ((rg [bn 39 .lss 38 37] false).seq
 ((AC.cond (.t 39) AC.skip (AC.exit 2)).seq
 ((AC.block 3 ((rg [oA 40 (.iad 1) [.t 36,.t 38],ld 41 40 [0],mv 10 41 [1,0,1]] false).seq
 ((rg [mv 42 0,oA 43 (.bin .mul) [.t 42,ci 48271] [0],oA 44 (.bin .rem) [.t 43,ci 2147483647] [1],mv 0 44 [2,0,1,2]] false).seq
 (rg [fa 45 0 8,ld 46 45 [0],mv 47 0,mv 48 10,bn 49 .rem 47 48 [2,3],oA 50 (.bsl 1 [I 0] 1 [0]) [.t 49] [4],oA 51 (.app 1 8) [.t 46,.t 50] [1,5],fa 52 0 8 [0,1,2,3,4,5,6],oZ (.store 1) [.t 52,.t 51] [7,6,6,0,1,2,3,4,5,6]] true)))).seq
 (rg [oA 53 (.bin .add) [.t 38,ci 1],mv 38 53 [0]] false)))).loop)).seq
 ((rg [oA 54 (.load 2 true) [.t 8],oZ (.store 2) [.t 4,.t 54] [0,0],oA 5 .mov [ci 0] [1,0,1]] false).seq AC.ret))))))
def R15':List RV:=[.c 4 2 true,.t 5]
theorem G15':GoT Tryz.f43.ntmps 43 A15' R15':=goT [] Tryz.func43
def A16':AC :=
 (rg [oA 3 .box [.t 0],oA 4 .box [.t 1],oA 6 .mov [AV.c (V.nl 1)],oA 7 .mov [ci 0] [2]] false).seq
 (((rg [oA 10 (.load 1 true) [.t 3],oA 11 (.load 2 true) [.t 4],mv 12 2,kl 13 40 [.t 10,.t 11,.t 12] [0,1,2],mv 8 13 [3,3,0,1,2,3]] false).seq
 ((rg [mv 14 8,oA 15 (.bin .neq) [.t 14,ci 0] [0]] false).seq
 (AC.cond (.t 15) ((rg [mv 16 8,oA 6 .mov [AV.c (V.nl 1)],mv 7 16 [0,1,0,1]] false).seq AC.ret) AC.skip))).seq
 ((rg [oA 9 .mov [AV.c (V.nl 1)]] false).seq
 (((rg [mv 17 2,fa 18 1 4,ld 19 18 [1],bn 20 .mul 17 19 [0,2],oA 21 .mov [ci 0]] false).seq
 (AC.block 0 ((rg [bn 22 .lss 21 20] false).seq
 ((AC.cond (.t 22) AC.skip (AC.exit 0)).seq
 ((AC.block 1 (rg [mv 23 9,fa 24 0 3,ld 25 24 [1],oA 26 (.bsl 1 [I 0] 1 [0]) [.t 25] [2],oA 27 (.app 1 8) [.t 23,.t 26] [0,3],mv 9 27 [4,4,0,1,2,3,4]] false)).seq
 (rg [oA 28 (.bin .add) [.t 21,ci 1],mv 21 28 [0]] false)))).loop)).seq
 ((rg [mv 29 9,mv 6 29 [0,0],oA 7 .mov [ci 0] [1,0,1]] false).seq AC.ret))))
def R16':List RV:=[.t 6,.t 7]
theorem G16':GoT Tryz.f12.ntmps 12 A16' R16':=goT [] Tryz.func12
def A17':AC :=
 (rg [oA 5 .box [.t 0],oA 6 .box [.t 1],oA 9 .box [.t 4],oA 10 .mov [AV.c (V.nl 1)],oA 11 (.alloc [V.nl 1,I 0]) [],oA 12 .mov [ci 0] [3]] false).seq
 (((rg [oA 25 (.load 1 true) [.t 5],oA 26 (.load 2 true) [.t 6],mv 27 2,kl 28 40 [.t 25,.t 26,.t 27] [0,1,2],mv 13 28 [3,3,0,1,2,3]] false).seq
 ((rg [mv 29 13,oA 30 (.bin .neq) [.t 29,ci 0] [0]] false).seq
 (AC.cond (.t 30) ((rg [oA 31 (.build [V.nl 1,I 0] []) [],mv 32 13,oA 10 .mov [AV.c (V.nl 1)],oZ (.store 2) [.t 11,.t 31] [0,2,0,2],mv 12 32 [1,3,0,1,2,3]] false).seq AC.ret) AC.skip))).seq
 (((rg [mv 33 3,oA 34 (.bin .lss) [.t 33,ci 0] [0],mv 35 34 [1],mg 36 3 [2] 2 35 false,mg 37 2 [2] 2 35 false,oG 38 (.bin .geq) [.t 36,.t 37] [3,4,2] 2 35 false,oA 39 .pick [.t 35,cb true,.t 38] [2,5]] false).seq
 (AC.cond (.t 39) ((rg [oA 40 (.build [V.nl 1,I 0] []) [],oA 10 .mov [AV.c (V.nl 1)],oZ (.store 2) [.t 11,.t 40] [0,1,0,1],oA 12 .mov [ci 6] [2,0,1,2]] false).seq AC.ret) AC.skip)).seq
 ((rg [oA 42 (.load 2 true) [.t 9],fa 43 0 5,ld 44 43 [1],mv 45 2,fa 46 1 6,ld 47 46 [4],bn 48 .mul 45 47 [3,5],kl 49 41 [.t 42,.t 44,.t 48] [0,2,6],mv 41 49 [7],xt 50 0 41 [8],xt 51 1 41 [8],xt 52 2 41 [8],oA 14 (.alloc [V.nl 1,I 0]) [],oZ (.store 2) [.t 14,.t 50] [12,9,7,0,1,2,3,4,5,6,7,8,9,12],mv 15 51 [10,13,0,1,2,3,4,5,6,7,8,9,10,12,13],mv 16 52 [11,14,0,1,2,3,4,5,6,7,8,9,10,11,12,13,14]] false).seq
 (((rg [mv 53 16,oA 54 (.bin .neq) [.t 53,ci 0] [0]] false).seq
 (AC.cond (.t 54) ((rg [oA 55 (.build [V.nl 1,I 0] []) [],mv 56 16,oA 10 .mov [AV.c (V.nl 1)],oZ (.store 2) [.t 11,.t 55] [0,2,0,2],mv 12 56 [1,3,0,1,2,3]] false).seq AC.ret) AC.skip)).seq
 ((rg [fa 57 0 6,ld 58 57 [0],oA 59 (.mks 1 [] 24) [.t 58,.t 58] [1,1],mv 17 59 [2,0,1,2]] false).seq
 (((rg [mv 60 2,oA 61 .mov [ci 0]] false).seq
 (AC.block 0 ((rg [bn 62 .lss 61 60] false).seq
 ((AC.cond (.t 62) AC.skip (AC.exit 0)).seq
 ((AC.block 1 ((rg [mv 63 61,mv 18 63 [0,0]] false).seq
 ((rg [oA 19 .mov [ci 0]] false).seq
 (((rg [mv 64 18,mv 65 3,bn 66 .eql 64 65 [0,1]] false).seq
 (AC.cond (.t 66) (rg [oA 19 .mov [ci 1]] false) AC.skip)).seq
 ((rg [oA 68 (.load 1 true) [.t 5],mv 69 19,fa 70 1 6,ld 71 70 [2],fa 72 0 6,ld 73 72 [4],mv 74 15,mv 75 18,fa 76 1 6,ld 77 76 [8],bn 78 .mul 75 77 [7,9],mv 79 18,oA 80 (.bin .add) [.t 79,ci 1] [11],fa 81 1 6,ld 82 81 [13],bn 83 .mul 80 82 [12,14],oA 84 (.slc true true false 1) [.t 74,.t 78,.t 83] [6,10,15],oA 85 (.build [V.nl 1,I 0] [(0,1)]) [.t 84] [16],kl 86 42 [.t 68,.t 69,.t 71,.t 73,.t 85] [0,1,3,5,17],mv 67 86 [18],xt 87 0 67 [19],xt 88 1 67 [19],xt 89 2 67 [19],oA 21 (.alloc [V.nl 1,I 0]) [],mv 20 87 [20,18,0,1,2,3,4,5,6,7,8,9,10,11,12,13,14,15,16,17,18,19,20,23],oZ (.store 2) [.t 21,.t 88] [23,21,24,0,1,2,3,4,5,6,7,8,9,10,11,12,13,14,15,16,17,18,19,20,21,23,24],mv 22 89 [22,25,0,1,2,3,4,5,6,7,8,9,10,11,12,13,14,15,16,17,18,19,20,21,22,23,24,25]] true).seq
 (((rg [mv 90 22,oA 91 (.bin .neq) [.t 90,ci 0] [0]] false).seq
 (AC.cond (.t 91) ((rg [oA 92 (.build [V.nl 1,I 0] []) [],mv 93 22,oA 10 .mov [AV.c (V.nl 1)],oZ (.store 2) [.t 11,.t 92] [0,2,0,2],mv 12 93 [1,3,0,1,2,3]] false).seq AC.ret) AC.skip)).seq
 ((rg [mv 94 20,oA 95 .len [.t 94] [0],oA 96 .mov [ci 0]] false).seq
 (AC.block 2 ((rg [bn 97 .lss 96 95] false).seq
 ((AC.cond (.t 97) AC.skip (AC.exit 2)).seq
 ((AC.block 3 ((rg [mv 98 96,oA 99 (.iad 2) [.t 94,.t 96],oA 100 (.load 2 true) [.t 99] [1],oA 24 (.alloc [I 0,I 0]) [],mv 23 98 [0,0,1,2,3],oZ (.store 2) [.t 24,.t 100] [3,2,4,0,1,2,3,4]] false).seq
 (rg [mv 101 17,mv 102 23,mv 103 17,mv 104 23,oA 105 (.iad 1) [.t 103,.t 104] [2,3],ld 106 105 [4],fa 107 1 24,ld 108 107 [6],oA 109 (.bsl 1 [I 0] 1 [0]) [.t 108] [7],oA 110 (.app 1 8) [.t 106,.t 109] [5,8],oA 111 (.iad 1) [.t 101,.t 102] [0,1,0,1,2,3,4,5,6,7,8,9],oZ (.store 1) [.t 111,.t 110] [10,9,9,0,1,2,3,4,5,6,7,8,9]] true))).seq
 (rg [oA 112 (.bin .add) [.t 96,ci 1],mv 96 112 [0]] false)))).loop)))))))).seq
 (rg [oA 113 (.bin .add) [.t 61,ci 1],mv 61 113 [0]] false)))).loop)).seq
 ((rg [fa 114 0 9,ld 115 114 [0],oA 116 (.app 1 8) [AV.c (V.nl 1),.t 115] [1],fa 117 0 9 [0,1,2],oZ (.store 1) [.t 117,.t 116] [3,2,2,0,1,2]] false).seq
 ((rg [fa 118 1 9,ld 119 118 [0],mv 120 15,oA 121 .len [.t 120] [2],bn 122 .add 119 121 [1,3],fa 123 1 9 [0,1,2,3,4],oZ (.store 1) [.t 123,.t 122] [5,4,0,1,2,3,4]] false).seq
 ((rg [mv 124 17,oA 125 (.load 2 true) [.t 9],mv 10 124 [0,0],oZ (.store 2) [.t 11,.t 125] [1,2,0,1,2],oA 12 .mov [ci 0] [3,0,1,2,3]] true).seq AC.ret)))))))))
def R17':List RV:=[.t 10,.c 11 2 true,.t 12]
theorem G17':GoT Tryz.f13.ntmps 13 A17' R17':=goT [] Tryz.func13
def A18':AC :=
 (rg [oA 4 .mov [cb false]] false).seq
 (((rg [mv 6 0,oA 7 .len [.t 6] [0],mv 8 1,oA 9 .len [.t 8] [2],bn 10 .neq 7 9 [1,3]] false).seq
 (AC.cond (.t 10) ((rg [oA 4 .mov [cb false]] false).seq AC.ret) AC.skip)).seq
 (((rg [mv 11 0,oA 12 .len [.t 11] [0],oA 13 .mov [ci 0]] false).seq
 (AC.block 0 ((rg [bn 14 .lss 13 12] false).seq
 ((AC.cond (.t 14) AC.skip (AC.exit 0)).seq
 ((AC.block 1 ((rg [mv 15 13,mv 5 15 [0,0]] false).seq
 ((rg [mv 16 0,mv 17 5,oA 18 (.iad 1) [.t 16,.t 17] [0,1],ld 19 18 [2],mv 20 1,mv 21 5,oA 22 (.iad 1) [.t 20,.t 21] [4,5],ld 23 22 [6],bn 24 .neq 19 23 [3,7]] true).seq
 (AC.cond (.t 24) ((rg [oA 4 .mov [cb false]] false).seq AC.ret) AC.skip)))).seq
 (rg [oA 25 (.bin .add) [.t 13,ci 1],mv 13 25 [0]] false)))).loop)).seq
 ((rg [oA 4 .mov [cb true]] false).seq AC.ret)))
def R18':List RV:=[.t 4]
theorem G18':GoT Tryz.f20.ntmps 20 A18' R18':=goT [] Tryz.func20
def A19':AC :=
 (rg [oA 4 .box [.t 0],oA 8 .mov [AV.c (V.nl 1)],oA 9 .mov [ci 0] [1]] false).seq
 ((rg [oA 10 (.load 1 true) [.t 4],mv 11 3,mv 12 2,mv 13 1,kl 14 16 [.t 10,.t 11,.t 12,.t 13] [0,1,2,3],xt 15 0 14 [4],xt 16 1 14 [4],mv 8 15 [5,4,0,1,2,3,4,5,6],mv 9 16 [6,7,0,1,2,3,4,5,6,7]] false).seq AC.ret)
def R19':List RV:=[.t 8,.t 9]
theorem G19':GoT Tryz.f23.ntmps 23 A19' R19':=goT [] Tryz.func23
def A20':AC :=
 (rg [oA 4 .box [.t 0],oA 5 .box [.t 1],oA 8 (.alloc [V.nl 1,V.nl 1]) [],oA 9 .mov [ci 0]] false).seq
 (((rg [oA 19 (.load 1 true) [.t 4],oA 20 (.load 2 true) [.t 5],kl 21 50 [.t 19,.t 20] [0,1],mv 10 21 [2,2,0,1,2]] false).seq
 ((rg [mv 22 10,oA 23 (.bin .neq) [.t 22,ci 0] [0]] false).seq
 (AC.cond (.t 23) ((rg [oA 24 (.build [V.nl 1,V.nl 1] []) [],mv 25 10,oZ (.store 2) [.t 8,.t 24] [0,0],mv 9 25 [1,2,0,1,2]] false).seq AC.ret) AC.skip))).seq
 (((rg [oA 26 (.load 1 true) [.t 4],mv 27 2,fa 28 0 5,ld 29 28 [2],fa 30 1 5,ld 31 30 [4],oA 32 (.bin .add) [.t 31,ci 1] [5],mv 33 3,kl 34 51 [.t 26,.t 27,.t 29,.t 32,.t 33] [0,1,3,6,7],mv 11 34 [8,8,0,1,2,3,4,5,6,7,8]] false).seq
 ((rg [mv 35 11,oA 36 (.bin .neq) [.t 35,ci 0] [0]] false).seq
 (AC.cond (.t 36) ((rg [oA 37 (.build [V.nl 1,V.nl 1] []) [],mv 38 11,oZ (.store 2) [.t 8,.t 37] [0,0],mv 9 38 [1,2,0,1,2]] false).seq AC.ret) AC.skip))).seq
 ((rg [oA 39 (.load 1 true) [.t 4],fa 40 1 5,ld 41 40 [1],oA 42 (.bin .add) [.t 41,ci 1] [2],mv 43 3,oA 44 (.build [I 0,I 0,V.nl 2] [(0,1),(1,1),(2,1)]) [.t 39,.t 42,.t 43] [0,3,4],oA 12 (.alloc [I 0,I 0,V.nl 2]) [],oZ (.store 3) [.t 12,.t 44] [6,5,0,1,2,3,4,5,6]] false).seq
 ((rg [oA 46 (.load 3 true) [.t 12],mv 47 2,kl 48 52 [.t 46,.t 47,AV.c (V.cl 53 [])] [0,1],mv 45 48 [2],xt 49 0 45 [3],xt 50 1 45 [3],xt 51 2 45 [3],mv 13 49 [4,2,0,1,2,3,4],mv 14 50 [5,7,0,1,2,3,4,5,7],mv 15 51 [6,8,0,1,2,3,4,5,6,7,8]] false).seq
 (((rg [mv 52 15,oA 53 (.bin .neq) [.t 52,ci 0] [0]] false).seq
 (AC.cond (.t 53) ((rg [oA 54 (.build [V.nl 1,V.nl 1] []) [],mv 55 15,oZ (.store 2) [.t 8,.t 54] [0,0],mv 9 55 [1,2,0,1,2]] false).seq AC.ret) AC.skip)).seq
 ((rg [mv 56 14,oA 57 (.build [V.nl 1,V.nl 1] [(1,1)]) [.t 56] [0],oA 16 (.alloc [V.nl 1,V.nl 1]) [],oZ (.store 2) [.t 16,.t 57] [2,1,0,1,2]] false).seq
 (((rg [mv 58 13,oA 59 .len [.t 58] [0],oA 60 .mov [ci 0]] false).seq
 (AC.block 0 ((rg [bn 61 .lss 60 59] false).seq
 ((AC.cond (.t 61) AC.skip (AC.exit 0)).seq
 ((AC.block 1 ((rg [oA 62 (.iad 1) [.t 58,.t 60],ld 63 62 [0],mv 18 63 [1,0,1]] false).seq
 (rg [fa 64 0 16,ld 65 64 [0],mv 66 18,kl 67 54 [.t 66,ci 0] [2],oA 68 (.bsl 1 [I 0] 1 [0]) [.t 67] [3],oA 69 (.app 1 8) [.t 65,.t 68] [1,4,3],fa 70 0 16 [0,1,2,3,4,5],oZ (.store 1) [.t 70,.t 69] [6,5,5,0,1,2,3,4,5]] true))).seq
 (rg [oA 71 (.bin .add) [.t 60,ci 1],mv 60 71 [0]] false)))).loop)).seq
 ((rg [oA 72 (.load 2 true) [.t 16],oZ (.store 2) [.t 8,.t 72] [0,0],oA 9 .mov [ci 0] [1,0,1]] false).seq AC.ret))))))))
def R20':List RV:=[.c 8 2 true,.t 9]
theorem G20':GoT Tryz.f19.ntmps 19 A20' R20':=goT [] Tryz.func19
def A21':AC :=
 (rg [oA 3 .box [.t 0],oA 4 .box [.t 1],oA 6 .mov [ci 0]] false).seq
 ((rg [oA 8 (.load 1 true) [.t 3],oA 9 (.load 2 true) [.t 4],kl 10 50 [.t 8,.t 9] [0,1],mv 7 10 [2,2,0,1,2]] false).seq
 (((rg [mv 11 7,oA 12 (.bin .eql) [.t 11,ci 0] [0],mv 13 12 [1],mg 14 2 [2] 2 13 true,oG 15 (.bin .lss) [.t 14,ci 1] [3,2] 2 13 true,mg 16 15 [4,2,2] 2 13 true,mg 17 2 [5] 5 16 false,oG 18 (.bin .gtr) [.t 17,ci 1024] [6,5] 5 16 false,oG 19 .pick [.t 16,cb true,.t 18] [5,7,2] 2 13 true,oA 20 .pick [.t 13,.t 19,cb false] [2,8]] false).seq
 (AC.cond (.t 20) ((rg [oA 6 .mov [ci 1]] false).seq AC.ret) AC.skip)).seq
 ((rg [mv 21 7,mv 6 21 [0,0]] false).seq AC.ret)))
def R21':List RV:=[.t 6]
theorem G21':GoT Tryz.f40.ntmps 40 A21' R21':=goT [] Tryz.func40
def A22':AC :=
 (rg [oA 3 .box [.t 0],oA 6 (.alloc [V.nl 1,I 0]) [],oA 7 .mov [AV.c (V.nl 1)],oA 8 .mov [ci 0] [2]] false).seq
 (((rg [oA 11 (.load 2 true) [.t 3],kl 12 71 [.t 11] [0],oA 13 (.un .not) [.t 12] [1]] false).seq
 (AC.cond (.t 13) ((rg [oA 14 (.build [V.nl 1,I 0] []) [],oZ (.store 2) [.t 6,.t 14] [0,0],oA 7 .mov [AV.c (V.nl 1)] [1,0,1],oA 8 .mov [ci 2] [2,0,1,2]] false).seq AC.ret) AC.skip)).seq
 (((rg [mv 15 1,kl 16 72 [.t 15] [0],oA 17 (.un .not) [.t 16] [1],mv 18 17 [2,1],mg 19 2 [3] 3 18 false,oG 20 (.bin .lss) [.t 19,ci 0] [4,3] 3 18 false,oA 21 .pick [.t 18,cb true,.t 20] [3,5]] false).seq
 (AC.cond (.t 21) ((rg [oA 22 (.build [V.nl 1,I 0] []) [],oZ (.store 2) [.t 6,.t 22] [0,0],oA 7 .mov [AV.c (V.nl 1)] [1,0,1],oA 8 .mov [ci 1] [2,0,1,2]] false).seq AC.ret) AC.skip)).seq
 ((rg [fa 23 0 3,ld 24 23 [0],fa 25 1 3,ld 26 25 [2],oA 27 (.build [V.nl 1,I 0] [(0,1),(1,1)]) [.t 24,.t 26] [1,3],oA 28 (.build [V.nl 1,I 0,V.nl 1] [(0,2)]) [.t 27] [4],oA 29 .box [.t 28] [5],mv 9 29 [6,0,1,2,3,4,5,6]] false).seq
 (((rg [mv 30 9,mv 31 1,mv 32 2,kl 33 73 [.t 30,.t 31,.t 32] [0,1,2],mv 10 33 [3,3,0,1,2,3]] false).seq
 ((rg [mv 34 10,oA 35 (.bin .neq) [.t 34,ci 0] [0]] false).seq
 (AC.cond (.t 35) ((rg [oA 36 (.build [V.nl 1,I 0] []) [],mv 37 10,oZ (.store 2) [.t 6,.t 36] [0,0],oA 7 .mov [AV.c (V.nl 1)] [2,0,2],mv 8 37 [1,3,0,1,2,3]] false).seq AC.ret) AC.skip))).seq
 ((rg [fa 38 0 3,ld 39 38 [0],kl 40 59 [.t 39] [1],mv 41 9,oA 42 .nck [.t 41] [3],fa 43 0 42 [4],fa 44 1 43 [5],ld 45 44 [6],oA 46 (.build [V.nl 1,I 0] [(0,1),(1,1)]) [.t 40,.t 45] [2,7],mv 47 9,oA 48 .nck [.t 47] [9],fa 49 2 48 [10],ld 50 49 [11],oZ (.store 2) [.t 6,.t 46] [8,2,0,1,2,3,4,5,6,7,8],mv 7 50 [12,13,0,1,2,3,4,5,6,7,8,9,10,11,12,13],oA 8 .mov [ci 0] [14,0,1,2,3,4,5,6,7,8,9,10,11,12,13,14]] true).seq AC.ret)))))
def R22':List RV:=[.c 6 2 true,.t 7,.t 8]
theorem G22':GoT Tryz.f41.ntmps 41 A22' R22':=goT [] Tryz.func41
def A23':AC :=
 (rg [oA 5 .box [.t 0],oA 9 .box [.t 4],oA 10 .mov [AV.c (V.nl 2)],oA 11 (.alloc [V.nl 1,I 0]) [],oA 12 .mov [ci 0] [2]] false).seq
 ((rg [oA 20 (.load 1 true) [.t 5],kl 21 44 [.t 20] [0],mv 19 21 [1],xt 22 0 19 [2],xt 23 1 19 [2],mv 13 22 [3,1,0,1,2,3],mv 14 23 [4,5,0,1,2,3,4,5]] false).seq
 ((AC.block 0 ((rg [mv 25 14,oA 26 (.un .not) [.t 25] [0],mv 27 26 [1],mg 28 13 [2] 2 27 false,mg 29 1 [2] 2 27 false,oG 30 (.call 45) [.t 28,.t 29] [3,4,2,2] 2 27 false,oG 31 (.un .not) [.t 30] [5,2] 2 27 false,oA 32 .pick [.t 27,cb true,.t 31] [2,6],mv 24 32 [7,5]] false).seq
 (AC.cond (.t 24) ((rg [oA 33 (.build [V.nl 1,I 0] []) [],oA 10 .mov [AV.c (V.nl 2)],oZ (.store 2) [.t 11,.t 33] [0,1,0,1],oA 12 .mov [ci 9] [2,0,1,2]] false).seq AC.ret) ((rg [mv 35 2,kl 36 74 [.t 35] [0],oA 37 (.un .not) [.t 36] [1],mv 38 37 [2,1],mg 39 3 [3] 3 38 false,oG 40 (.bin .lss) [.t 39,ci 1] [4,3] 3 38 false,oA 41 .pick [.t 38,cb true,.t 40] [3,5],mv 42 41 [6,3],mg 43 3 [7] 7 42 false,oG 44 (.fad 0) [.t 5] [7] 7 42 false,oG 45 (.load 1 false) [.t 44] [9,7] 7 42 false,oG 46 (.bin .geq) [.t 43,.t 45] [8,10,7] 7 42 false,oA 47 .pick [.t 42,cb true,.t 46] [7,11],mv 48 47 [12,7],mg 49 3 [13] 13 48 false,oG 50 (.bin .gtr) [.t 49,ci 512] [14,13] 13 48 false,oA 51 .pick [.t 48,cb true,.t 50] [13,15],mv 34 51 [16,13]] false).seq
 (AC.cond (.t 34) ((rg [oA 52 (.build [V.nl 1,I 0] []) [],oA 10 .mov [AV.c (V.nl 2)],oZ (.store 2) [.t 11,.t 52] [0,1,0,1],oA 12 .mov [ci 1] [2,0,1,2]] false).seq AC.ret) AC.skip))))).seq
 ((rg [oA 54 (.load 2 true) [.t 9],fa 55 0 5,ld 56 55 [1],mv 57 2,kl 58 41 [.t 54,.t 56,.t 57] [0,2,3],mv 53 58 [4],xt 59 0 53 [5],xt 60 1 53 [5],xt 61 2 53 [5],oZ (.store 2) [.t 9,.t 59] [6,4,0,1,2,3,4,5,6],mv 15 60 [7,9,0,1,2,3,4,5,6,7,9],mv 16 61 [8,10,0,1,2,3,4,5,6,7,8,9,10]] false).seq
 (((rg [mv 62 16,oA 63 (.bin .neq) [.t 62,ci 0] [0]] false).seq
 (AC.cond (.t 63) ((rg [oA 64 (.build [V.nl 1,I 0] []) [],mv 65 16,oA 10 .mov [AV.c (V.nl 2)],oZ (.store 2) [.t 11,.t 64] [0,2,0,2],mv 12 65 [1,3,0,1,2,3]] false).seq AC.ret) AC.skip)).seq
 ((rg [oA 17 .mov [AV.c (V.nl 1)]] false).seq
 (((rg [mv 66 3,oA 67 .mov [ci 0]] false).seq
 (AC.block 1 ((rg [bn 68 .lss 67 66] false).seq
 ((AC.cond (.t 68) AC.skip (AC.exit 1)).seq
 ((AC.block 2 ((rg [mv 69 67,mv 18 69 [0,0]] false).seq
 (rg [mv 70 17,mv 71 18,oA 72 (.bin .add) [.t 71,ci 1] [1],oA 73 (.bsl 1 [I 0] 1 [0]) [.t 72] [2],oA 74 (.app 1 8) [.t 70,.t 73] [0,3],mv 17 74 [4,4,0,1,2,3,4]] false))).seq
 (rg [oA 75 (.bin .add) [.t 67,ci 1],mv 67 75 [0]] false)))).loop)).seq
 ((rg [mv 76 13,mv 77 1,oA 78 (.bsl 1 [I 0] 1 [0]) [.t 77] [1],mv 79 15,oA 80 (.app 1 8) [.t 78,.t 79] [2,3],mv 81 17,kl 82 75 [.t 76,.t 80,.t 81] [0,4,5,4],oA 83 (.load 2 true) [.t 9],mv 10 82 [6,6,0,1,2,3,4,5,6],oZ (.store 2) [.t 11,.t 83] [7,8,0,1,2,3,4,5,6,7,8],oA 12 .mov [ci 0] [9,0,1,2,3,4,5,6,7,8,9]] true).seq AC.ret)))))))
def R23':List RV:=[.t 10,.c 11 2 true,.t 12]
theorem G23':GoT Tryz.f42.ntmps 42 A23' R23':=goT [] Tryz.func42
def A24':AC :=
 (rg [oA 1 .box [.t 0],oA 2 .mov [cb false]] false).seq
 ((rg [fa 3 0 1,ld 4 3 [0],oA 5 .len [.t 4] [1],oA 6 (.bin .leq) [.t 5,ci 16384] [2],mv 7 6 [3],oG 8 (.fad 1) [.t 1] [4] 4 7 true,oG 9 (.load 1 false) [.t 8] [5,4] 4 7 true,oG 10 (.bin .geq) [.t 9,ci 0] [6,4] 4 7 true,oA 11 .pick [.t 7,.t 10,cb false] [4,7],mv 12 11 [8,4],oG 13 (.fad 1) [.t 1] [9] 9 12 true,oG 14 (.load 1 false) [.t 13] [10,9] 9 12 true,oG 15 (.fad 0) [.t 1] [9] 9 12 true,oG 16 (.load 1 false) [.t 15] [12,9] 9 12 true,oG 17 .len [.t 16] [13,9] 9 12 true,oG 18 (.bin .leq) [.t 14,.t 17] [11,14,9] 9 12 true,oA 19 .pick [.t 12,.t 18,cb false] [9,15],mv 2 19 [16,9,0,1,2,3,4,5,6,7,8,9,10,11,12,13,14,15,16]] false).seq AC.ret)
def R24':List RV:=[.t 2]
theorem G24':GoT Tryz.f71.ntmps 71 A24' R24':=goT [] Tryz.func71
def A25':AC :=
 (rg [oA 2 .box [.t 0],oA 3 .box [.t 1],oA 4 .mov [ci 0]] false).seq
 (((rg [oA 8 (.load 1 true) [.t 2],kl 9 44 [.t 8] [0],mv 7 9 [1],xt 10 0 7 [2],xt 11 1 7 [2],mv 5 10 [3,1,0,1,2,3],mv 6 11 [4,5,0,1,2,3,4,5]] false).seq
 ((rg [mv 12 6,oA 13 (.un .not) [.t 12] [0]] false).seq
 (AC.cond (.t 13) ((rg [oA 4 .mov [ci 9]] false).seq AC.ret) AC.skip))).seq
 (((rg [oA 14 (.load 2 true) [.t 3],kl 15 81 [.t 14] [0],oA 16 (.un .not) [.t 15] [1],mv 17 16 [2,1],oG 18 (.fad 0) [.t 3] [3] 3 17 false,oG 19 (.load 1 false) [.t 18] [4,3] 3 17 false,oG 20 (.fad 0) [.t 2] [3] 3 17 false,oG 21 (.load 1 false) [.t 20] [6,3] 3 17 false,oG 22 (.bin .geq) [.t 19,.t 21] [5,7,3] 3 17 false,oA 23 .pick [.t 17,cb true,.t 22] [3,8]] false).seq
 (AC.cond (.t 23) ((rg [oA 4 .mov [ci 1]] false).seq AC.ret) AC.skip)).seq
 ((rg [oA 4 .mov [ci 0]] false).seq AC.ret)))
def R25':List RV:=[.t 4]
theorem G25':GoT Tryz.f50.ntmps 50 A25' R25':=goT [] Tryz.func50
def A26':AC :=
 (rg [oA 2 .box [.t 0],oA 4 .mov [cb false]] false).seq
 ((rg [mv 5 1,oA 6 (.mkf 77) [.t 2],kl 7 76 [.t 5,.t 6] [0,1],oA 8 (.un .not) [.t 7] [2],mv 4 8 [3,2,0,1,2,3]] false).seq AC.ret)
def R26':List RV:=[.t 4]
theorem G26':GoT Tryz.f46.ntmps 46 A26' R26':=goT [] Tryz.func46
def A27':AC :=
 (rg [oA 3 .box [.t 0],oA 6 .mov [AV.c (V.nl 1)],oA 7 .mov [AV.c (V.nl 1)] [1],oA 8 .mov [ci 0] [2]] false).seq
 ((rg [oA 9 .mov [AV.c (V.nl 1)]] false).seq
 ((rg [oA 10 .mov [AV.c (V.nl 1)]] false).seq
 (((rg [mv 14 1,oA 15 .mov [ci 0]] false).seq
 (AC.block 0 ((rg [bn 16 .lss 15 14] false).seq
 ((AC.cond (.t 16) AC.skip (AC.exit 0)).seq
 ((AC.block 1 ((rg [mv 17 15,mv 11 17 [0,0]] false).seq
 ((rg [mv 19 2,oA 20 (.load 3 true) [.t 3],mv 21 11,oA 22 .callv [.t 19,.t 20,.t 21] [0,1,2],mv 18 22 [3],xt 23 0 18 [4],xt 24 1 18 [4],oA 12 (.alloc [V.nl 1,V.nl 1]) [],oZ (.store 2) [.t 12,.t 23] [7,5,3,0,1,2,3,4,5,7],mv 13 24 [6,8,0,1,2,3,4,5,6,7,8]] false).seq
 (((rg [mv 25 13,oA 26 (.bin .neq) [.t 25,ci 0] [0]] false).seq
 (AC.cond (.t 26) ((rg [oA 6 .mov [AV.c (V.nl 1)],oA 7 .mov [AV.c (V.nl 1)] [0,0],oA 8 .mov [ci 12] [1,0,1]] false).seq AC.ret) AC.skip)).seq
 (rg [mv 27 9,fa 28 0 12,ld 29 28 [1],oA 30 (.bsl 1 [V.nl 1] 1 [0]) [.t 29] [2],oA 31 (.app 1 24) [.t 27,.t 30] [0,3],mv 32 10,fa 33 1 12,ld 34 33 [6],oA 35 (.app 1 8) [.t 32,.t 34] [5,7,4],mv 9 31 [4,8,0,1,2,3,4],mv 10 35 [8,9,0,1,2,3,4,5,6,7,8,9]] true))))).seq
 (rg [oA 36 (.bin .add) [.t 15,ci 1],mv 15 36 [0]] false)))).loop)).seq
 ((rg [mv 37 10,kl 38 82 [.t 37] [0]] false).seq
 ((rg [mv 39 9,mv 40 10,kl 41 83 [.t 40] [1],kl 42 59 [.t 41] [2,2],mv 6 39 [0,3,0],mv 7 42 [3,4,0,1,2,3,4],oA 8 .mov [ci 0] [5,0,1,2,3,4,5]] false).seq AC.ret)))))
def R27':List RV:=[.t 6,.t 7,.t 8]
theorem G27':GoT Tryz.f52.ntmps 52 A27' R27':=goT [] Tryz.func52
def A28':AC :=
 (rg [oA 2 .box [.t 0],oA 4 (.alloc [V.nl 1,V.nl 1]) [],oA 5 .mov [ci 0]] false).seq
 ((rg [oA 6 .mov [AV.c (V.nl 2)]] false).seq
 (((rg [fa 10 2 2,ld 11 10 [0],oA 12 .len [.t 11] [1],oA 13 .mov [ci 0]] false).seq
 (AC.block 0 ((rg [bn 14 .lss 13 12] false).seq
 ((AC.cond (.t 14) AC.skip (AC.exit 0)).seq
 ((AC.block 1 ((rg [oA 15 (.iad 2) [.t 11,.t 13],oA 16 (.load 2 true) [.t 15] [0],oA 8 (.alloc [B false,V.nl 1]) [],oZ (.store 2) [.t 8,.t 16] [2,1,0,1,2]] false).seq
 ((rg [fa 17 0 8,ld 18 17 [0],oA 19 (.build [I 0,B false] [(1,1)]) [.t 18] [1],oA 9 (.alloc [I 0,B false]) [],oZ (.store 2) [.t 9,.t 19] [3,2,0,1,2,3]] false).seq
 (((rg [fa 20 0 8,ld 21 20 [0]] false).seq
 (AC.cond (.t 21) (rg [fa 22 1 8,ld 23 22 [0],mv 24 1,oA 25 (.iad 1) [.t 23,.t 24] [1,2],ld 26 25 [3],fa 27 0 9 [0,1,2,3,4],oZ (.store 1) [.t 27,.t 26] [5,4,0,1,2,3,4]] false) AC.skip)).seq
 (rg [mv 28 6,oA 29 (.load 2 true) [.t 9],oA 30 (.bsl 2 [I 0,B false] 1 [0]) [.t 29] [1],oA 31 (.app 2 16) [.t 28,.t 30] [0,2],mv 6 31 [3,3,0,1,2,3]] false))))).seq
 (rg [oA 32 (.bin .add) [.t 13,ci 1],mv 13 32 [0]] false)))).loop)).seq
 ((rg [fa 33 0 2,oA 34 (.load 1 true) [.t 33] [0],mv 35 6,fa 36 1 2,ld 37 36 [3],kl 38 84 [.t 34,.t 35,.t 37] [1,2,4],xt 39 0 38 [5],xt 40 1 38 [5],oZ (.store 2) [.t 4,.t 39] [6,5,0,1,2,3,4,5,6,7],mv 5 40 [7,8,0,1,2,3,4,5,6,7,8]] false).seq AC.ret)))
def R28':List RV:=[.c 4 2 true,.t 5]
theorem G28':GoT Tryz.f53.ntmps 53 A28' R28':=goT [] Tryz.func53
def A29':AC :=
 (rg [oA 4 .mov [ci 0]] false).seq
 (((rg [mv 5 1,mv 6 0,oA 7 .len [.t 6] [1],bn 8 .lss 5 7 [0,2]] false).seq
 (AC.cond (.t 8) ((rg [mv 9 0,mv 10 1,oA 11 (.iad 1) [.t 9,.t 10] [0,1],ld 12 11 [2],mv 4 12 [3,0,1,2,3]] false).seq AC.ret) AC.skip)).seq
 ((rg [oA 4 .mov [ci 0]] false).seq AC.ret))
def R29':List RV:=[.t 4]
theorem G29':GoT Tryz.f54.ntmps 54 A29' R29':=goT [] Tryz.func54
def A30':AC :=
 (rg [oA 4 .box [.t 0],oA 8 .mov [AV.c (V.nl 1)],oA 9 .mov [ci 0] [1]] false).seq
 ((rg [oA 19 (.load 1 true) [.t 4],kl 20 44 [.t 19] [0],mv 18 20 [1],xt 21 0 18 [2],xt 22 1 18 [2],mv 10 21 [3,1,0,1,2,3],mv 11 22 [4,5,0,1,2,3,4,5]] false).seq
 (((rg [mv 23 11,oA 24 (.un .not) [.t 23] [0]] false).seq
 (AC.cond (.t 24) ((rg [oA 8 .mov [AV.c (V.nl 1)],oA 9 .mov [ci 9] [0,0]] false).seq AC.ret) AC.skip)).seq
 (((rg [mv 25 3,oA 26 (.bin .lss) [.t 25,ci 0] [0],mv 27 26 [1],mg 28 3 [2] 2 27 false,oG 29 (.bin .gtr) [.t 28,ci 64] [3,2] 2 27 false,oA 30 .pick [.t 27,cb true,.t 29] [2,4]] false).seq
 (AC.cond (.t 30) ((rg [oA 8 .mov [AV.c (V.nl 1)],oA 9 .mov [ci 4] [0,0]] false).seq AC.ret) AC.skip)).seq
 (((rg [mv 31 1,oA 32 .len [.t 31] [0],mv 33 2,oA 34 .len [.t 33] [2],bn 35 .neq 32 34 [1,3]] false).seq
 (AC.cond (.t 35) ((rg [oA 8 .mov [AV.c (V.nl 1)],oA 9 .mov [ci 2] [0,0]] false).seq AC.ret) AC.skip)).seq
 ((rg [mv 36 10,mv 37 1,kl 38 46 [.t 36,.t 37] [0,1],mv 12 38 [2,2,0,1,2]] false).seq
 (((rg [mv 39 2,oA 40 .len [.t 39] [0],oA 41 .mov [ci 0]] false).seq
 (AC.block 0 ((rg [bn 42 .lss 41 40] false).seq
 ((AC.cond (.t 42) AC.skip (AC.exit 0)).seq
 ((AC.block 1 ((rg [oA 43 (.iad 1) [.t 39,.t 41],ld 44 43 [0],mv 14 44 [1,0,1]] false).seq
 (((rg [mv 45 14,oA 46 .len [.t 45] [0],mv 47 3,bn 48 .neq 46 47 [1,2]] false).seq
 (AC.cond (.t 48) ((rg [oA 8 .mov [AV.c (V.nl 1)],oA 9 .mov [ci 2] [0,0]] false).seq AC.ret) AC.skip)).seq
 (rg [mv 49 12,mv 50 49 [0],mg 51 10 [1] 1 50 true,mg 52 14 [1] 1 50 true,oG 53 (.call 46) [.t 51,.t 52] [2,3,1,1] 1 50 true,oA 54 .pick [.t 50,.t 53,cb false] [1,4],mv 12 54 [5,4,0,1,2,3,4,5]] false)))).seq
 (rg [oA 55 (.bin .add) [.t 41,ci 1],mv 41 55 [0]] false)))).loop)).seq
 (((rg [mv 56 12,oA 57 (.un .not) [.t 56] [0]] false).seq
 (AC.cond (.t 57) ((rg [oA 8 .mov [AV.c (V.nl 1)],oA 9 .mov [ci 9] [0,0]] false).seq AC.ret) AC.skip)).seq
 ((rg [mv 58 3,oA 59 (.mks 1 [I 0] 8) [.t 58,.t 58] [0,0],mv 15 59 [1,0,1]] false).seq
 (((rg [mv 60 2,oA 61 .len [.t 60] [0],oA 62 .mov [ci 0]] false).seq
 (AC.block 2 ((rg [bn 63 .lss 62 61] false).seq
 ((AC.cond (.t 63) AC.skip (AC.exit 2)).seq
 ((AC.block 3 ((rg [mv 64 62,oA 65 (.iad 1) [.t 60,.t 62],ld 66 65 [1],mv 16 64 [0,0,1,2],mv 17 66 [2,3,0,1,2,3]] false).seq
 (rg [mv 67 10,mv 68 15,mv 69 1,mv 70 16,oA 71 (.iad 1) [.t 69,.t 70] [2,3],ld 72 71 [4],mv 73 17,kl 74 48 [.t 67,.t 68,.t 72,.t 73] [0,1,5,6]] false))).seq
 (rg [oA 75 (.bin .add) [.t 62,ci 1],mv 62 75 [0]] false)))).loop)).seq
 ((rg [mv 76 15,mv 8 76 [0,0],oA 9 .mov [ci 0] [1,0,1]] false).seq AC.ret))))))))))
def R30':List RV:=[.t 8,.t 9]
theorem G30':GoT Tryz.f16.ntmps 16 A30' R30':=goT [] Tryz.func16
def A31':AC :=
 (rg [oA 2 .mov [ci 0]] false).seq
 ((rg [oA 3 .mov [ci 2]] false).seq
 (((rg [mv 6 0,oA 7 .len [.t 6] [0],oA 8 .mov [ci 0]] false).seq
 (AC.block 0 ((rg [bn 9 .lss 8 7] false).seq
 ((AC.cond (.t 9) AC.skip (AC.exit 0)).seq
 ((AC.block 1 ((rg [oA 10 (.iad 1) [.t 6,.t 8],ld 11 10 [0],mv 5 11 [1,0,1]] false).seq
 (rg [mv 12 3,oA 13 (.bin .mul) [.t 12,ci 1000003] [0],mv 14 5,kl 15 70 [.t 14] [2],bn 16 .add 13 15 [1,3],oA 17 (.bin .add) [.t 16,ci 1] [4],oA 18 (.bin .rem) [.t 17,ci 2147483647] [5],mv 3 18 [6,3,0,1,2,3,4,5,6]] false))).seq
 (rg [oA 19 (.bin .add) [.t 8,ci 1],mv 8 19 [0]] false)))).loop)).seq
 ((rg [mv 20 3,mv 2 20 [0,0]] false).seq AC.ret)))
def R31':List RV:=[.t 2]
theorem G31':GoT Tryz.f37.ntmps 37 A31' R31':=goT [] Tryz.func37
def A32':AC :=
 (rg [oA 2 .mov [ci 0]] false).seq
 ((rg [mv 3 0,oA 4 (.bin .rem) [.t 3,ci 2147483647] [0],mv 0 4 [1,0,1]] false).seq
 (((rg [mv 5 0,oA 6 (.bin .lss) [.t 5,ci 0] [0]] false).seq
 (AC.cond (.t 6) (rg [mv 7 0,oA 8 (.bin .add) [.t 7,ci 2147483647] [0],mv 0 8 [1,0,1]] false) AC.skip)).seq
 ((rg [mv 9 0,mv 2 9 [0,0]] false).seq AC.ret)))
def R32':List RV:=[.t 2]
theorem G32':GoT Tryz.f70.ntmps 70 A32' R32':=goT [] Tryz.func70
def A33':AC :=
 (rg [oA 4 .mov [ci 0]] false).seq
 ((rg [mv 5 0,kl 6 70 [.t 5] [0],oA 7 (.bin .mul) [.t 6,ci 1000003] [1],mv 8 1,kl 9 70 [.t 8] [3,1],bn 10 .add 7 9 [2,4],oA 11 (.bin .add) [.t 10,ci 3] [5],oA 12 (.bin .rem) [.t 11,ci 2147483647] [6],mv 4 12 [7,4,0,1,2,3,4,5,6,7]] false).seq AC.ret)
def R33':List RV:=[.t 4]
theorem G33':GoT Tryz.f94.ntmps 94 A33' R33':=goT [] Tryz.func94
def A34':AC :=
 (rg [oA 5 .box [.t 1],oA 8 (.alloc [I 0,I 0,I 0,V.nl 1]) [],oA 9 .mov [ci 0]] false).seq
 ((rg [mv 14 0,oA 15 (.load 1 true) [.t 5],mv 16 2,mv 17 3,oA 18 (.build [I 0,I 0,I 0,V.nl 1] [(0,1),(1,1),(2,1),(3,1)]) [.t 14,.t 15,.t 16,.t 17] [0,1,2,3],oA 10 (.alloc [I 0,I 0,I 0,V.nl 1]) [],oZ (.store 4) [.t 10,.t 18] [5,4,0,1,2,3,4,5]] false).seq
 (((rg [oA 19 (.load 4 true) [.t 10],kl 20 58 [.t 19] [0],mv 11 20 [1,1,0,1]] false).seq
 ((rg [mv 21 11,oA 22 (.bin .neq) [.t 21,ci 0] [0]] false).seq
 (AC.cond (.t 22) ((rg [oA 23 (.build [I 0,I 0,I 0,V.nl 1] []) [],mv 24 11,oZ (.store 4) [.t 8,.t 23] [0,0],mv 9 24 [1,2,0,1,2]] false).seq AC.ret) AC.skip))).seq
 ((rg [fa 25 3 10,oZ (.store 1) [.t 25,AV.c (V.nl 1)] [0]] false).seq
 (((rg [mv 26 3,oA 27 .len [.t 26] [0],oA 28 .mov [ci 0]] false).seq
 (AC.block 0 ((rg [bn 29 .lss 28 27] false).seq
 ((AC.cond (.t 29) AC.skip (AC.exit 0)).seq
 ((AC.block 1 ((rg [oA 30 (.iad 1) [.t 26,.t 28],ld 31 30 [0],mv 13 31 [1,0,1]] false).seq
 (rg [fa 32 3 10,ld 33 32 [0],mv 34 13,kl 35 59 [.t 34] [2],oA 36 (.bsl 1 [V.nl 1] 1 [0]) [.t 35] [3],oA 37 (.app 1 24) [.t 33,.t 36] [1,4,3],fa 38 3 10 [0,1,2,3,4,5],oZ (.store 1) [.t 38,.t 37] [6,5,5,0,1,2,3,4,5]] true))).seq
 (rg [oA 39 (.bin .add) [.t 28,ci 1],mv 28 39 [0]] false)))).loop)).seq
 ((rg [oA 40 (.load 4 true) [.t 10],oZ (.store 4) [.t 8,.t 40] [0,0],oA 9 .mov [ci 0] [1,0,1]] false).seq AC.ret)))))
def R34':List RV:=[.c 8 4 true,.t 9]
theorem G34':GoT Tryz.f26.ntmps 26 A34' R34':=goT [] Tryz.func26
def A35':AC :=
 (rg [oA 1 .box [.t 0],oA 2 .mov [ci 0]] false).seq
 ((rg [fa 8 1 1,oA 9 (.load 1 true) [.t 8] [0],kl 10 44 [.t 9] [1],mv 7 10 [2],xt 11 0 7 [3],xt 12 1 7 [3],mv 3 11 [4,2,0,1,2,3,4],mv 4 12 [5,6,0,1,2,3,4,5,6]] false).seq
 ((AC.block 0 ((rg [fa 14 0 1,ld 15 14 [0],oA 16 (.bin .lss) [.t 15,ci 1] [1],mv 17 16 [2],oG 18 (.fad 0) [.t 1] [3] 3 17 false,oG 19 (.load 1 false) [.t 18] [4,3] 3 17 false,oG 20 (.bin .geq) [.t 19,ci 2147483647] [5,3] 3 17 false,oA 21 .pick [.t 17,cb true,.t 20] [3,6],mv 13 21 [7,3]] false).seq
 (AC.cond (.t 13) ((rg [oA 2 .mov [ci 1]] false).seq AC.ret) ((rg [mv 23 4,oA 24 (.un .not) [.t 23] [0],mv 22 24 [1]] false).seq
 (AC.cond (.t 22) ((rg [oA 2 .mov [ci 9]] false).seq AC.ret) ((rg [fa 26 2 1,ld 27 26 [0],oA 28 (.bin .lss) [.t 27,ci 1] [1],mv 29 28 [2],oG 30 (.fad 2) [.t 1] [3] 3 29 false,oG 31 (.load 1 false) [.t 30] [4,3] 3 29 false,oG 32 (.bin .gtr) [.t 31,ci 64] [5,3] 3 29 false,oA 33 .pick [.t 29,cb true,.t 32] [3,6],mv 25 33 [7,3]] false).seq
 (AC.cond (.t 25) ((rg [oA 2 .mov [ci 1]] false).seq AC.ret) ((rg [fa 35 3 1,ld 36 35 [0],oA 37 .len [.t 36] [1],oA 38 (.bin .gtr) [.t 37,ci 1024] [2],mv 34 38 [3]] false).seq
 (AC.cond (.t 34) ((rg [oA 2 .mov [ci 4]] false).seq AC.ret) AC.skip))))))))).seq
 (((rg [fa 39 3 1,ld 40 39 [0],oA 41 .len [.t 40] [1],oA 42 .mov [ci 0]] false).seq
 (AC.block 1 ((rg [bn 43 .lss 42 41] false).seq
 ((AC.cond (.t 43) AC.skip (AC.exit 1)).seq
 ((AC.block 2 ((rg [oA 44 (.iad 1) [.t 40,.t 42],ld 45 44 [0],mv 6 45 [1,0,1]] false).seq
 (((rg [mv 46 6,oA 47 .len [.t 46] [0],fa 48 2 1,ld 49 48 [2],bn 50 .neq 47 49 [1,3]] false).seq
 (AC.cond (.t 50) ((rg [oA 2 .mov [ci 2]] false).seq AC.ret) AC.skip)).seq
 ((rg [mv 51 3,mv 52 6,kl 53 46 [.t 51,.t 52] [0,1],oA 54 (.un .not) [.t 53] [2]] false).seq
 (AC.cond (.t 54) ((rg [oA 2 .mov [ci 9]] false).seq AC.ret) AC.skip))))).seq
 (rg [oA 55 (.bin .add) [.t 42,ci 1],mv 42 55 [0]] false)))).loop)).seq
 ((rg [oA 2 .mov [ci 0]] false).seq AC.ret))))
def R35':List RV:=[.t 2]
theorem G35':GoT Tryz.f58.ntmps 58 A35' R35':=goT [] Tryz.func58
def A36':AC :=
 (rg [oA 1 .box [.t 0],oA 2 .mov [AV.c (V.nl 1)],oA 3 .mov [ci 0] [1]] false).seq
 (((rg [oA 8 (.load 4 true) [.t 1],kl 9 58 [.t 8] [0],mv 4 9 [1,1,0,1]] false).seq
 ((rg [mv 10 4,oA 11 (.bin .neq) [.t 10,ci 0] [0]] false).seq
 (AC.cond (.t 11) ((rg [mv 12 4,oA 2 .mov [AV.c (V.nl 1)],mv 3 12 [0,1,0,1]] false).seq AC.ret) AC.skip))).seq
 ((rg [oA 5 .mov [AV.c (V.nl 1)]] false).seq
 (((rg [fa 13 3 1,ld 14 13 [0],oA 15 .len [.t 14] [1],oA 16 .mov [ci 0]] false).seq
 (AC.block 0 ((rg [bn 17 .lss 16 15] false).seq
 ((AC.cond (.t 17) AC.skip (AC.exit 0)).seq
 ((AC.block 1 ((rg [oA 18 (.iad 1) [.t 14,.t 16],ld 19 18 [0],mv 7 19 [1,0,1]] false).seq
 (rg [mv 20 5,mv 21 7,kl 22 37 [.t 21] [1],oA 23 (.bsl 1 [I 0] 1 [0]) [.t 22] [2],oA 24 (.app 1 8) [.t 20,.t 23] [0,3,2],mv 5 24 [4,4,0,1,2,3,4]] false))).seq
 (rg [oA 25 (.bin .add) [.t 16,ci 1],mv 16 25 [0]] false)))).loop)).seq
 ((rg [mv 26 5,mv 2 26 [0,0],oA 3 .mov [ci 0] [1,0,1]] false).seq AC.ret))))
def R36':List RV:=[.t 2,.t 3]
theorem G36':GoT Tryz.f29.ntmps 29 A36' R36':=goT [] Tryz.func29
def A37':AC :=
 (rg [oA 1 .box [.t 0],oA 2 (.alloc [I 0,I 0,I 0,I 0,I 0]) [],oA 3 .mov [ci 0]] false).seq
 ((rg [oA 8 (.load 4 true) [.t 1],kl 9 29 [.t 8] [0],mv 7 9 [1],xt 10 0 7 [2],xt 11 1 7 [2],mv 4 10 [3,1,0,1,2,3],mv 5 11 [4,5,0,1,2,3,4,5]] false).seq
 (((rg [mv 12 5,oA 13 (.bin .neq) [.t 12,ci 0] [0]] false).seq
 (AC.cond (.t 13) ((rg [oA 14 (.build [I 0,I 0,I 0,I 0,I 0] []) [],mv 15 5,oZ (.store 5) [.t 2,.t 14] [0,0],mv 3 15 [1,2,0,1,2]] false).seq AC.ret) AC.skip)).seq
 ((rg [mv 17 4,kl 18 66 [.t 17] [0],mv 16 18 [1],xt 19 0 16 [2],xt 20 1 16 [2],mv 6 19 [3,1,0,1,2,3],mv 5 20 [4,5,0,1,2,3,4,5]] false).seq
 (((rg [mv 21 5,oA 22 (.bin .neq) [.t 21,ci 0] [0]] false).seq
 (AC.cond (.t 22) ((rg [oA 23 (.build [I 0,I 0,I 0,I 0,I 0] []) [],mv 24 5,oZ (.store 5) [.t 2,.t 23] [0,0],mv 3 24 [1,2,0,1,2]] false).seq AC.ret) AC.skip)).seq
 ((rg [fa 25 0 1,ld 26 25 [0],fa 27 1 1,fa 28 0 27 [2],ld 29 28 [3],fa 30 3 1,ld 31 30 [5],oA 32 .len [.t 31] [6],fa 33 2 1,ld 34 33 [8],mv 35 6,oA 36 (.build [I 0,I 0,I 0,I 0,I 0] [(0,1),(1,1),(2,1),(3,1),(4,1)]) [.t 26,.t 29,.t 32,.t 34,.t 35] [1,4,7,9,10],oZ (.store 5) [.t 2,.t 36] [11,0,1,2,3,4,5,6,7,8,9,10,11],oA 3 .mov [ci 0] [12,0,1,2,3,4,5,6,7,8,9,10,11,12]] false).seq AC.ret)))))
def R37':List RV:=[.c 2 5 true,.t 3]
theorem G37':GoT Tryz.f31.ntmps 31 A37' R37':=goT [] Tryz.func31
def A38':AC :=
 (rg [oA 2 .box [.t 0],oA 4 .mov [ci 0]] false).seq
 (((rg [mv 7 1,oA 8 .len [.t 7] [0],fa 9 2 2,ld 10 9 [2],bn 11 .neq 8 10 [1,3]] false).seq
 (AC.cond (.t 11) ((rg [oA 4 .mov [ci 2]] false).seq AC.ret) AC.skip)).seq
 ((rg [mv 13 1,kl 14 66 [.t 13] [0],mv 12 14 [1],xt 15 0 12 [2],xt 16 1 12 [2],mv 5 15 [3,1,0,1,2,3],mv 6 16 [4,5,0,1,2,3,4,5]] false).seq
 (((rg [mv 17 6,oA 18 (.bin .eql) [.t 17,ci 0] [0],mv 19 18 [1],mg 20 5 [2] 2 19 true,oG 21 (.fad 4) [.t 2] [2] 2 19 true,oG 22 (.load 1 false) [.t 21] [4,2] 2 19 true,oG 23 (.bin .neq) [.t 20,.t 22] [3,5,2] 2 19 true,oA 24 .pick [.t 19,.t 23,cb false] [2,6]] false).seq
 (AC.cond (.t 24) ((rg [oA 4 .mov [ci 13]] false).seq AC.ret) AC.skip)).seq
 ((rg [mv 25 6,mv 4 25 [0,0]] false).seq AC.ret))))
def R38':List RV:=[.t 4]
theorem G38':GoT Tryz.f32.ntmps 32 A38' R38':=goT [] Tryz.func32
def A39':AC :=
 (rg [oA 4 .box [.t 0],oA 8 .mov [ci 0]] false).seq
 (((rg [oA 12 (.load 5 true) [.t 4],mv 13 1,kl 14 32 [.t 12,.t 13] [0,1],mv 9 14 [2,2,0,1,2]] false).seq
 ((rg [mv 15 9,oA 16 (.bin .neq) [.t 15,ci 0] [0]] false).seq
 (AC.cond (.t 16) ((rg [mv 17 9,mv 8 17 [0,0]] false).seq AC.ret) AC.skip))).seq
 ((rg [fa 19 1 4,ld 20 19 [0],oA 21 (.build [I 0] [(0,1)]) [.t 20] [1],kl 22 44 [.t 21] [2],mv 18 22 [3],xt 23 0 18 [4],xt 24 1 18 [4],mv 10 23 [5,3,0,1,2,3,4,5],mv 11 24 [6,7,0,1,2,3,4,5,6,7]] false).seq
 ((AC.block 0 ((rg [mv 26 2,oA 27 (.bin .lss) [.t 26,ci 0] [0],mv 28 27 [1],mg 29 2 [2] 2 28 false,mg 30 1 [2] 2 28 false,oG 31 .len [.t 30] [4,2] 2 28 false,oG 32 (.bin .geq) [.t 29,.t 31] [3,5,2] 2 28 false,oA 33 .pick [.t 28,cb true,.t 32] [2,6],mv 25 33 [7,2]] false).seq
 (AC.cond (.t 25) ((rg [oA 8 .mov [ci 6]] false).seq AC.ret) ((rg [mv 35 11,oA 36 (.un .not) [.t 35] [0],mv 34 36 [1]] false).seq
 (AC.cond (.t 34) ((rg [oA 8 .mov [ci 9]] false).seq AC.ret) ((rg [mv 38 3,oA 39 .len [.t 38] [0],fa 40 3 4,ld 41 40 [2],bn 42 .neq 39 41 [1,3],mv 37 42 [4]] false).seq
 (AC.cond (.t 37) ((rg [oA 8 .mov [ci 2]] false).seq AC.ret) ((rg [mv 44 10,mv 45 3,kl 46 46 [.t 44,.t 45] [0,1],oA 47 (.un .not) [.t 46] [2],mv 43 47 [3,2]] false).seq
 (AC.cond (.t 43) ((rg [oA 8 .mov [ci 9]] false).seq AC.ret) ((rg [mv 49 3,kl 50 37 [.t 49] [0],mv 51 1,mv 52 2,oA 53 (.iad 1) [.t 51,.t 52] [2,3],ld 54 53 [4],bn 55 .neq 50 54 [1,5],mv 48 55 [6,1]] true).seq
 (AC.cond (.t 48) ((rg [oA 8 .mov [ci 13]] false).seq AC.ret) AC.skip))))))))))).seq
 ((rg [oA 8 .mov [ci 0]] false).seq AC.ret))))
def R39':List RV:=[.t 8]
theorem G39':GoT Tryz.f34.ntmps 34 A39' R39':=goT [] Tryz.func34
def A40':AC :=
 (rg [oA 4 (.alloc [I 0,I 0,V.nl 1]) [],oA 5 .mov [ci 0]] false).seq
 (((rg [mv 10 0,kl 11 67 [.t 10] [0],mv 6 11 [1,1,0,1]] false).seq
 ((rg [mv 12 6,oA 13 (.bin .neq) [.t 12,ci 0] [0]] false).seq
 (AC.cond (.t 13) ((rg [oA 14 (.build [I 0,I 0,V.nl 1] []) [],mv 15 6,oZ (.store 3) [.t 4,.t 14] [0,0],mv 5 15 [1,2,0,1,2]] false).seq AC.ret) AC.skip))).seq
 (((rg [mv 16 1,oA 17 (.bin .lss) [.t 16,ci 0] [0],mv 18 17 [1],mg 19 1 [2] 2 18 false,mg 20 0 [2] 2 18 false,oG 21 .len [.t 20] [4,2] 2 18 false,oG 22 (.bin .geq) [.t 19,.t 21] [3,5,2] 2 18 false,oA 23 .pick [.t 18,cb true,.t 22] [2,6]] false).seq
 (AC.cond (.t 23) ((rg [oA 24 (.build [I 0,I 0,V.nl 1] []) [],oZ (.store 3) [.t 4,.t 24] [0,0],oA 5 .mov [ci 6] [1,0,1]] false).seq AC.ret) AC.skip)).seq
 ((rg [mv 25 1,mv 26 0,oA 27 .len [.t 26] [1],oA 28 (.build [I 0,I 0,V.nl 1] [(0,1),(1,1)]) [.t 25,.t 27] [0,2],oA 7 (.alloc [I 0,I 0,V.nl 1]) [],oZ (.store 3) [.t 7,.t 28] [4,3,0,1,2,3,4]] false).seq
 (((rg [mv 29 1,mv 8 29 [0,0]] false).seq
 (AC.block 0 (((rg [mv 30 0,oA 31 .len [.t 30] [0],oA 32 (.bin .gtr) [.t 31,ci 1] [1]] false).seq
 (AC.cond (.t 32) AC.skip (AC.exit 0))).seq
 ((AC.block 1 ((rg [mv 37 8,oA 38 (.bin .xor) [.t 37,ci 1] [0],mv 9 38 [1,0,1]] false).seq
 ((rg [mv 39 9,mv 40 0,oA 41 .len [.t 40] [1],bn 42 .lss 39 41 [0,2]] false).seq
 (AC.cond (.t 42) (rg [fa 43 2 7,ld 44 43 [0],mv 45 0,mv 46 9,oA 47 (.iad 1) [.t 45,.t 46] [2,3],ld 48 47 [4],oA 49 (.bsl 1 [I 0] 1 [0]) [.t 48] [5],oA 50 (.app 1 8) [.t 44,.t 49] [1,6],fa 51 2 7 [0,1,2,3,4,5,6,7],oZ (.store 1) [.t 51,.t 50] [8,7,7,0,1,2,3,4,5,6,7]] true) AC.skip)))).seq
 (rg [mv 33 8,oA 34 (.bin .quo) [.t 33,ci 2] [0],mv 35 0,kl 36 68 [.t 35] [2],mv 8 34 [1,3,0,1],mv 0 36 [3,4,0,1,2,3,4]] false))).loop)).seq
 ((rg [oA 52 (.load 3 true) [.t 7],oZ (.store 3) [.t 4,.t 52] [0,0],oA 5 .mov [ci 0] [1,0,1]] false).seq AC.ret)))))
def R40':List RV:=[.c 4 3 true,.t 5]
theorem G40':GoT Tryz.f35.ntmps 35 A40' R40':=goT [] Tryz.func35
def A41':AC :=
 (rg [oA 3 .box [.t 0],oA 6 .mov [ci 0]] false).seq
 ((rg [oA 10 (.load 3 true) [.t 3],mv 11 1,kl 12 69 [.t 10,.t 11] [0,1],mv 9 12 [2],xt 13 0 9 [3],xt 14 1 9 [3],mv 7 13 [4,2,0,1,2,3,4],mv 8 14 [5,6,0,1,2,3,4,5,6]] false).seq
 (((rg [mv 15 8,oA 16 (.bin .eql) [.t 15,ci 0] [0],mv 17 16 [1],mg 18 7 [2] 2 17 true,mg 19 2 [2] 2 17 true,oG 20 (.bin .neq) [.t 18,.t 19] [3,4,2] 2 17 true,oA 21 .pick [.t 17,.t 20,cb false] [2,5]] false).seq
 (AC.cond (.t 21) ((rg [oA 6 .mov [ci 13]] false).seq AC.ret) AC.skip)).seq
 ((rg [mv 22 8,mv 6 22 [0,0]] false).seq AC.ret)))
def R41':List RV:=[.t 6]
theorem G41':GoT Tryz.f36.ntmps 36 A41' R41':=goT [] Tryz.func36
def A42':AC :=
 (rg [oA 2 .mov [ci 0],oA 3 .mov [ci 0] [0]] false).seq
 (((rg [mv 6 0,kl 7 67 [.t 6] [0],mv 4 7 [1,1,0,1]] false).seq
 ((rg [mv 8 4,oA 9 (.bin .neq) [.t 8,ci 0] [0]] false).seq
 (AC.cond (.t 9) ((rg [mv 10 4,oA 2 .mov [ci 0],mv 3 10 [0,1,0,1]] false).seq AC.ret) AC.skip))).seq
 ((rg [oA 5 (.alloc [V.d (D.at Value.nilFunc)]) []] false).seq
 ((rg [oA 11 (.mkf 92) [.t 5],oZ (.store 1) [.t 5,.t 11] [0,0]] false).seq
 ((rg [ld 12 5,mv 13 0,oA 14 .callv [.t 12,.t 13] [0,1],mv 2 14 [2,2,0,1,2],oA 3 .mov [ci 0] [3,0,1,2,3]] false).seq AC.ret))))
def R42':List RV:=[.t 2,.t 3]
theorem G42':GoT Tryz.f66.ntmps 66 A42' R42':=goT [] Tryz.func66
def A43':AC :=
 (rg [oA 2 .mov [ci 0]] false).seq
 (((rg [mv 5 0,oA 6 .len [.t 5] [0],oA 7 (.bin .gtr) [.t 6,ci 1024] [1]] false).seq
 (AC.cond (.t 7) ((rg [oA 2 .mov [ci 4]] false).seq AC.ret) AC.skip)).seq
 (((rg [mv 8 0,oA 9 .len [.t 8] [0],oA 10 .mov [ci 0]] false).seq
 (AC.block 0 ((rg [bn 11 .lss 10 9] false).seq
 ((AC.cond (.t 11) AC.skip (AC.exit 0)).seq
 ((AC.block 1 ((rg [oA 12 (.iad 1) [.t 8,.t 10],ld 13 12 [0],mv 4 13 [1,0,1]] false).seq
 ((rg [mv 14 4,kl 15 93 [.t 14] [0],oA 16 (.un .not) [.t 15] [1]] false).seq
 (AC.cond (.t 16) ((rg [oA 2 .mov [ci 1]] false).seq AC.ret) AC.skip)))).seq
 (rg [oA 17 (.bin .add) [.t 10,ci 1],mv 10 17 [0]] false)))).loop)).seq
 ((rg [oA 2 .mov [ci 0]] false).seq AC.ret)))
def R43':List RV:=[.t 2]
theorem G43':GoT Tryz.f67.ntmps 67 A43' R43':=goT [] Tryz.func67
def A44':AC :=
 (rg [oA 2 .mov [AV.c (V.nl 1)]] false).seq
 ((rg [oA 3 .mov [AV.c (V.nl 1)]] false).seq
 (((rg [oA 4 .mov [ci 0]] false).seq
 (AC.block 0 (((rg [mv 5 4,mv 6 0,oA 7 .len [.t 6] [1],bn 8 .lss 5 7 [0,2]] false).seq
 (AC.cond (.t 8) AC.skip (AC.exit 0))).seq
 ((AC.block 1 ((rg [mv 11 4,oA 12 (.bin .add) [.t 11,ci 1] [0],mv 13 0,oA 14 .len [.t 13] [2],bn 15 .eql 12 14 [1,3]] false).seq
 (AC.cond (.t 15) (rg [mv 16 3,mv 17 0,mv 18 4,oA 19 (.iad 1) [.t 17,.t 18] [1,2],ld 20 19 [3],oA 21 (.bsl 1 [I 0] 1 [0]) [.t 20] [4],oA 22 (.app 1 8) [.t 16,.t 21] [0,5],mv 3 22 [6,6,0,1,2,3,4,5,6]] false) (rg [mv 23 3,mv 24 0,mv 25 4,oA 26 (.iad 1) [.t 24,.t 25] [1,2],ld 27 26 [3],mv 28 0,mv 29 4,oA 30 (.bin .add) [.t 29,ci 1] [6],oA 31 (.iad 1) [.t 28,.t 30] [5,7],ld 32 31 [8],kl 33 94 [.t 27,.t 32] [4,9],oA 34 (.bsl 1 [I 0] 1 [0]) [.t 33] [10],oA 35 (.app 1 8) [.t 23,.t 34] [0,11,10],mv 3 35 [12,12,0,1,2,3,4,5,6,7,8,9,10,11,12]] true)))).seq
 (rg [mv 9 4,oA 10 (.bin .add) [.t 9,ci 2] [0],mv 4 10 [1,0,1]] false))).loop)).seq
 ((rg [mv 36 3,mv 2 36 [0,0]] false).seq AC.ret)))
def R44':List RV:=[.t 2]
theorem G44':GoT Tryz.f68.ntmps 68 A44' R44':=goT [] Tryz.func68
def A45':AC :=
 (rg [oA 2 .box [.t 0],oA 4 .mov [ci 0],oA 5 .mov [ci 0] [1]] false).seq
 ((rg [fa 14 1 2,ld 15 14 [0],fa 16 0 2,ld 17 16 [2],kl 18 95 [.t 15,.t 17] [1,3],mv 13 18 [4],xt 19 0 13 [5],xt 20 1 13 [5],mv 6 19 [6,4,0,1,2,3,4,5,6],mv 7 20 [7,8,0,1,2,3,4,5,6,7,8]] false).seq
 (((rg [mv 21 7,oA 22 (.bin .neq) [.t 21,ci 0] [0]] false).seq
 (AC.cond (.t 22) ((rg [mv 23 7,oA 4 .mov [ci 0],mv 5 23 [0,1,0,1]] false).seq AC.ret) AC.skip)).seq
 (((rg [fa 24 2 2,ld 25 24 [0],oA 26 .len [.t 25] [1],mv 27 6,bn 28 .neq 26 27 [2,3]] false).seq
 (AC.cond (.t 28) ((rg [oA 4 .mov [ci 0],oA 5 .mov [ci 2] [0,0]] false).seq AC.ret) AC.skip)).seq
 (((rg [mv 29 1,oA 30 (.bsl 1 [I 0] 1 [0]) [.t 29] [0],fa 31 2 2,ld 32 31 [2],oA 33 (.app 1 8) [.t 30,.t 32] [1,3],oA 34 .len [.t 33] [4],oA 35 .mov [ci 0]] false).seq
 (AC.block 0 ((rg [bn 36 .lss 35 34] false).seq
 ((AC.cond (.t 36) AC.skip (AC.exit 0)).seq
 ((AC.block 1 ((rg [oA 37 (.iad 1) [.t 33,.t 35],ld 38 37 [0],mv 9 38 [1,0,1]] false).seq
 ((rg [mv 39 9,kl 40 93 [.t 39] [0],oA 41 (.un .not) [.t 40] [1]] false).seq
 (AC.cond (.t 41) ((rg [oA 4 .mov [ci 0],oA 5 .mov [ci 1] [0,0]] false).seq AC.ret) AC.skip)))).seq
 (rg [oA 42 (.bin .add) [.t 35,ci 1],mv 35 42 [0]] false)))).loop)).seq
 ((rg [fa 43 2 2,ld 44 43 [0],mv 10 44 [1,0,1]] false).seq
 (((rg [fa 45 0 2,ld 46 45 [0],fa 47 1 2,ld 48 47 [2],mv 11 46 [1,0,1],mv 12 48 [3,4,0,1,2,3,4]] true).seq
 (AC.block 2 (((rg [mv 49 12,oA 50 (.bin .gtr) [.t 49,ci 1] [0]] false).seq
 (AC.cond (.t 50) AC.skip (AC.exit 2))).seq
 ((AC.block 3 ((AC.block 4 ((rg [mv 62 11,oA 63 (.bin .xor) [.t 62,ci 1] [0],mv 64 12,bn 65 .geq 63 64 [1,2],mv 61 65 [3]] false).seq
 (AC.cond (.t 61) (AC.exit 3) ((rg [mv 67 11,oA 68 (.bin .rem) [.t 67,ci 2] [0],oA 69 (.bin .eql) [.t 68,ci 0] [1],mv 66 69 [2]] false).seq
 (AC.cond (.t 66) (rg [mv 70 1,mv 71 10,oA 72 (.iad 1) [.t 71,ci 0] [1],ld 73 72 [2],kl 74 94 [.t 70,.t 73] [0,3],mv 1 74 [4,4,0,1,2,3,4]] false) (rg [mv 56 10,oA 57 (.iad 1) [.t 56,ci 0] [0],ld 58 57 [1],mv 59 1,kl 60 94 [.t 58,.t 59] [2,3],mv 1 60 [4,4,0,1,2,3,4]] false)))))).seq
 (rg [mv 75 10,oA 76 (.slc true false false 1) [.t 75,ci 1] [0],mv 10 76 [1,0,1]] false))).seq
 (rg [mv 51 11,oA 52 (.bin .quo) [.t 51,ci 2] [0],mv 53 12,oA 54 (.bin .add) [.t 53,ci 1] [2],oA 55 (.bin .quo) [.t 54,ci 2] [3],mv 11 52 [1,0,1],mv 12 55 [4,5,0,1,2,3,4,5]] false))).loop)).seq
 ((rg [mv 77 1,mv 4 77 [0,0],oA 5 .mov [ci 0] [1,0,1]] false).seq AC.ret)))))))
def R45':List RV:=[.t 4,.t 5]
theorem G45':GoT Tryz.f69.ntmps 69 A45' R45':=goT [] Tryz.func69
def A46':AC :=
 (rg [oA 4 .mov [ci 0],oA 5 .mov [ci 0] [0]] false).seq
 (((rg [mv 7 0,oA 8 (.bin .lss) [.t 7,ci 0] [0],mv 9 8 [1],mg 10 0 [2] 2 9 false,oG 11 (.bin .gtr) [.t 10,ci 1024] [3,2] 2 9 false,oA 12 .pick [.t 9,cb true,.t 11] [2,4]] false).seq
 (AC.cond (.t 12) ((rg [oA 4 .mov [ci 0],oA 5 .mov [ci 4] [0,0]] false).seq AC.ret) AC.skip)).seq
 (((rg [mv 13 1,oA 14 (.bin .lss) [.t 13,ci 0] [0],mv 15 14 [1],mg 16 1 [2] 2 15 false,mg 17 0 [2] 2 15 false,oG 18 (.bin .geq) [.t 16,.t 17] [3,4,2] 2 15 false,oA 19 .pick [.t 15,cb true,.t 18] [2,5]] false).seq
 (AC.cond (.t 19) ((rg [oA 4 .mov [ci 0],oA 5 .mov [ci 6] [0,0]] false).seq AC.ret) AC.skip)).seq
 ((rg [oA 6 .mov [ci 0]] false).seq
 ((AC.block 0 (((rg [mv 20 0,oA 21 (.bin .gtr) [.t 20,ci 1] [0]] false).seq
 (AC.cond (.t 21) AC.skip (AC.exit 0))).seq
 ((AC.block 1 ((rg [mv 27 1,oA 28 (.bin .xor) [.t 27,ci 1] [0],mv 29 0,bn 30 .lss 28 29 [1,2]] false).seq
 (AC.cond (.t 30) (rg [mv 31 6,oA 32 (.bin .add) [.t 31,ci 1] [0],mv 6 32 [1,0,1]] false) AC.skip))).seq
 (rg [mv 22 1,oA 23 (.bin .quo) [.t 22,ci 2] [0],mv 24 0,oA 25 (.bin .add) [.t 24,ci 1] [2],oA 26 (.bin .quo) [.t 25,ci 2] [3],mv 1 23 [1,0,1],mv 0 26 [4,5,0,1,2,3,4,5]] false))).loop).seq
 ((rg [mv 33 6,mv 4 33 [0,0],oA 5 .mov [ci 0] [1,0,1]] false).seq AC.ret)))))
def R46':List RV:=[.t 4,.t 5]
theorem G46':GoT Tryz.f95.ntmps 95 A46' R46':=goT [] Tryz.func95
def A47':AC :=
 (rg [oA 2 .mov [cb false]] false).seq
 ((rg [mv 3 0,oA 4 (.bin .geq) [.t 3,ci 0] [0],mv 5 4 [1],mg 6 0 [2] 2 5 true,oG 7 (.bin .lss) [.t 6,ci 2147483647] [3,2] 2 5 true,oA 8 .pick [.t 5,.t 7,cb false] [2,4],mv 2 8 [5,2,0,1,2,3,4,5]] false).seq AC.ret)
def R47':List RV:=[.t 2]
theorem G47':GoT Tryz.f93.ntmps 93 A47' R47':=goT [] Tryz.func93
def A48':AC :=
 (rg [oA 2 .box [.t 0],oA 3 .box [.t 1],oA 4 (.alloc [I 0,I 0,I 0,V.nl 2]) [],oA 5 .mov [ci 0]] false).seq
 (((rg [oA 11 (.load 4 true) [.t 2],kl 12 58 [.t 11] [0],mv 6 12 [1,1,0,1]] false).seq
 ((rg [mv 13 6,oA 14 (.bin .neq) [.t 13,ci 0] [0]] false).seq
 (AC.cond (.t 14) ((rg [oA 15 (.build [I 0,I 0,I 0,V.nl 2] []) [],mv 16 6,oZ (.store 4) [.t 4,.t 15] [0,0],mv 5 16 [1,2,0,1,2]] false).seq AC.ret) AC.skip))).seq
 (((rg [oA 17 (.load 4 true) [.t 3],kl 18 58 [.t 17] [0],mv 7 18 [1,1,0,1]] false).seq
 ((rg [mv 19 7,oA 20 (.bin .neq) [.t 19,ci 0] [0]] false).seq
 (AC.cond (.t 20) ((rg [oA 21 (.build [I 0,I 0,I 0,V.nl 2] []) [],mv 22 7,oZ (.store 4) [.t 4,.t 21] [0,0],mv 5 22 [1,2,0,1,2]] false).seq AC.ret) AC.skip))).seq
 (((rg [fa 23 1 2,oA 24 (.load 1 true) [.t 23] [0],fa 25 1 3,oA 26 (.load 1 true) [.t 25] [2],oA 27 (.seq 1 true) [.t 24,.t 26] [1,3],mv 28 27 [4],oG 29 (.fad 2) [.t 2] [5] 5 28 false,oG 30 (.load 1 false) [.t 29] [6,5] 5 28 false,oG 31 (.fad 2) [.t 3] [5] 5 28 false,oG 32 (.load 1 false) [.t 31] [8,5] 5 28 false,oG 33 (.bin .neq) [.t 30,.t 32] [7,9,5] 5 28 false,oA 34 .pick [.t 28,cb true,.t 33] [5,10]] false).seq
 (AC.cond (.t 34) ((rg [oA 35 (.build [I 0,I 0,I 0,V.nl 2] []) [],oZ (.store 4) [.t 4,.t 35] [0,0],oA 5 .mov [ci 2] [1,0,1]] false).seq AC.ret) AC.skip)).seq
 (((rg [fa 36 0 3,ld 37 36 [0],fa 38 0 2,ld 39 38 [2],bn 40 .leq 37 39 [1,3]] false).seq
 (AC.cond (.t 40) ((rg [oA 41 (.build [I 0,I 0,I 0,V.nl 2] []) [],oZ (.store 4) [.t 4,.t 41] [0,0],oA 5 .mov [ci 17] [1,0,1]] false).seq AC.ret) AC.skip)).seq
 ((rg [fa 42 0 2,ld 43 42 [0],fa 44 0 3,ld 45 44 [2],fa 46 3 3,ld 47 46 [4],oA 48 .len [.t 47] [5],oA 49 (.build [I 0,I 0,I 0,V.nl 2] [(0,1),(1,1),(2,1)]) [.t 43,.t 45,.t 48] [1,3,6],oA 8 (.alloc [I 0,I 0,I 0,V.nl 2]) [],oZ (.store 4) [.t 8,.t 49] [8,7,0,1,2,3,4,5,6,7,8]] false).seq
 (((rg [fa 50 3 3,ld 51 50 [0],oA 52 .len [.t 51] [1],oA 53 .mov [ci 0]] false).seq
 (AC.block 0 ((rg [bn 54 .lss 53 52] false).seq
 ((AC.cond (.t 54) AC.skip (AC.exit 0)).seq
 ((AC.block 1 ((rg [mv 55 53,oA 56 (.iad 1) [.t 51,.t 53],ld 57 56 [1],mv 9 55 [0,0,1,2],mv 10 57 [2,3,0,1,2,3]] false).seq
 ((rg [mv 58 9,fa 59 3 2,ld 60 59 [1],oA 61 .len [.t 60] [2],bn 62 .geq 58 61 [0,3],mv 63 62 [4],mg 64 10 [5] 5 63 false,oG 65 (.fad 3) [.t 2] [5] 5 63 false,oG 66 (.load 1 false) [.t 65] [7,5] 5 63 false,mg 67 9 [5] 5 63 false,oG 68 (.iad 1) [.t 66,.t 67] [8,9,5] 5 63 false,oG 69 (.load 1 false) [.t 68] [10,5] 5 63 false,oG 70 (.call 62) [.t 64,.t 69] [6,11,5,5] 5 63 false,oG 71 (.un .not) [.t 70] [12,5] 5 63 false,oA 72 .pick [.t 63,cb true,.t 71] [5,13]] false).seq
 (AC.cond (.t 72) (rg [fa 73 3 8,ld 74 73 [0],mv 75 9,mv 76 10,oA 77 (.build [I 0,V.nl 1] [(0,1),(1,1)]) [.t 75,.t 76] [2,3],kl 78 63 [.t 77] [4],oA 79 (.bsl 2 [I 0,V.nl 1] 1 [0]) [.t 78] [5],oA 80 (.app 2 32) [.t 74,.t 79] [1,6,5],fa 81 3 8 [0,1,2,3,4,5,6,7],oZ (.store 1) [.t 81,.t 80] [8,7,7,0,1,2,3,4,5,6,7]] true) AC.skip)))).seq
 (rg [oA 82 (.bin .add) [.t 53,ci 1],mv 53 82 [0]] false)))).loop)).seq
 ((rg [oA 83 (.load 4 true) [.t 8],oZ (.store 4) [.t 4,.t 83] [0,0],oA 5 .mov [ci 0] [1,0,1]] false).seq AC.ret)))))))
def R48':List RV:=[.c 4 4 true,.t 5]
theorem G48':GoT Tryz.f28.ntmps 28 A48' R48':=goT [] Tryz.func28
def A49':AC :=
 (rg [oA 3 .box [.t 1],oA 4 .mov [AV.c (V.nl 1)],oA 5 .mov [ci 0] [1]] false).seq
 (((rg [oA 9 (.load 4 true) [.t 3],kl 10 64 [.t 9] [0],oA 11 (.un .not) [.t 10] [1],mv 12 11 [2,1],mg 13 0 [3] 3 12 false,oG 14 .len [.t 13] [4,3] 3 12 false,oG 15 (.bin .gtr) [.t 14,ci 1024] [5,3] 3 12 false,oA 16 .pick [.t 12,cb true,.t 15] [3,6],mv 17 16 [7,3],oG 18 (.load 4 true) [.t 3] [8] 8 17 false,mg 19 0 [8] 8 17 false,oG 20 .len [.t 19] [10,8] 8 17 false,oG 21 (.call 65) [.t 18,.t 20] [9,11,8,8] 8 17 false,oG 22 (.fad 2) [.t 3] [8] 8 17 false,oG 23 (.load 1 false) [.t 22] [13,8] 8 17 false,mg 24 0 [8] 8 17 false,oG 25 .len [.t 24] [15,8] 8 17 false,oG 26 (.bin .sub) [.t 23,.t 25] [14,16,8] 8 17 false,oG 27 .mx [ci 0,.t 26] [17,8] 8 17 false,oG 28 (.bin .neq) [.t 21,.t 27] [12,18,8] 8 17 false,oA 29 .pick [.t 17,cb true,.t 28] [8,19]] true).seq
 (AC.cond (.t 29) ((rg [oA 4 .mov [AV.c (V.nl 1)],oA 5 .mov [ci 2] [0,0]] false).seq AC.ret) AC.skip)).seq
 ((rg [fa 30 2 3,ld 31 30 [0],oA 32 (.mks 1 [I 0] 8) [.t 31,.t 31] [1,1],mv 6 32 [2,0,1,2]] false).seq
 ((rg [mv 33 6,mv 34 0,oA 35 (.cpy 1) [.t 33,.t 34] [0,1]] false).seq
 (((rg [fa 36 3 3,ld 37 36 [0],oA 38 .len [.t 37] [1],oA 39 .mov [ci 0]] false).seq
 (AC.block 0 ((rg [bn 40 .lss 39 38] false).seq
 ((AC.cond (.t 40) AC.skip (AC.exit 0)).seq
 ((AC.block 1 ((rg [oA 41 (.iad 2) [.t 37,.t 39],oA 42 (.load 2 true) [.t 41] [0],oA 8 (.alloc [I 0,V.nl 1]) [],oZ (.store 2) [.t 8,.t 42] [2,1,0,1,2]] false).seq
 (rg [mv 43 6,fa 44 0 8,ld 45 44 [1],fa 46 1 8,ld 47 46 [3],kl 48 37 [.t 47] [4],oA 49 (.iad 1) [.t 43,.t 45] [0,2,0,1,2,3,4,5],oZ (.store 1) [.t 49,.t 48] [6,5,5,0,1,2,3,4,5]] true))).seq
 (rg [oA 50 (.bin .add) [.t 39,ci 1],mv 39 50 [0]] false)))).loop)).seq
 ((rg [mv 51 6,mv 4 51 [0,0],oA 5 .mov [ci 0] [1,0,1]] false).seq AC.ret)))))
def R49':List RV:=[.t 4,.t 5]
theorem G49':GoT Tryz.f30.ntmps 30 A49' R49':=goT [] Tryz.func30
def A50':AC :=
 (rg [oA 1 .box [.t 0],oA 2 (.alloc [I 0,V.nl 1]) []] false).seq
 ((rg [fa 3 0 1,ld 4 3 [0],fa 5 1 1,ld 6 5 [2],kl 7 59 [.t 6] [3],oA 8 (.build [I 0,V.nl 1] [(0,1),(1,1)]) [.t 4,.t 7] [1,4],oZ (.store 2) [.t 2,.t 8] [5,4,0,1,2,3,4,5]] true).seq AC.ret)
def R50':List RV:=[.c 2 2 true]
theorem G50':GoT Tryz.f63.ntmps 63 A50' R50':=goT [] Tryz.func63
def A51':AC :=
 (rg [oA 1 .box [.t 0],oA 2 .mov [cb false]] false).seq
 (((rg [fa 6 0 1,ld 7 6 [0],kl 8 91 [.t 7] [1],oA 9 (.un .not) [.t 8] [2],mv 10 9 [3,2],oG 11 (.fad 1) [.t 1] [4] 4 10 false,oG 12 (.load 1 false) [.t 11] [5,4] 4 10 false,oG 13 (.call 91) [.t 12] [6,4,4] 4 10 false,oG 14 (.un .not) [.t 13] [7,4] 4 10 false,oA 15 .pick [.t 10,cb true,.t 14] [4,8],mv 16 15 [9,7],oG 17 (.fad 0) [.t 1] [10] 10 16 false,oG 18 (.load 1 false) [.t 17] [11,10] 10 16 false,oG 19 (.fad 1) [.t 1] [10] 10 16 false,oG 20 (.load 1 false) [.t 19] [13,10] 10 16 false,oG 21 (.bin .geq) [.t 18,.t 20] [12,14,10] 10 16 false,oA 22 .pick [.t 16,cb true,.t 21] [10,15],mv 23 22 [16,10],oG 24 (.fad 2) [.t 1] [17] 17 23 false,oG 25 (.load 1 false) [.t 24] [18,17] 17 23 false,oG 26 (.bin .lss) [.t 25,ci 0] [19,17] 17 23 false,oA 27 .pick [.t 23,cb true,.t 26] [17,20],mv 28 27 [21,17],oG 29 (.fad 2) [.t 1] [22] 22 28 false,oG 30 (.load 1 false) [.t 29] [23,22] 22 28 false,oG 31 (.bin .gtr) [.t 30,ci 1024] [24,22] 22 28 false,oA 32 .pick [.t 28,cb true,.t 31] [22,25]] false).seq
 (AC.cond (.t 32) ((rg [oA 2 .mov [cb false]] false).seq AC.ret) AC.skip)).seq
 ((rg [oA 3 .mov [ci (-1)]] false).seq
 (((rg [fa 33 3 1,ld 34 33 [0],oA 35 .len [.t 34] [1],oA 36 .mov [ci 0]] false).seq
 (AC.block 0 ((rg [bn 37 .lss 36 35] false).seq
 ((AC.cond (.t 37) AC.skip (AC.exit 0)).seq
 ((AC.block 1 ((rg [oA 38 (.iad 2) [.t 34,.t 36],oA 39 (.load 2 true) [.t 38] [0],oA 5 (.alloc [I 0,V.nl 1]) [],oZ (.store 2) [.t 5,.t 39] [2,1,0,1,2]] false).seq
 (((rg [fa 40 0 5,ld 41 40 [0],mv 42 3,bn 43 .leq 41 42 [1,2],mv 44 43 [3],oG 45 (.fad 0) [.t 5] [4] 4 44 false,oG 46 (.load 1 false) [.t 45] [5,4] 4 44 false,oG 47 (.fad 2) [.t 1] [4] 4 44 false,oG 48 (.load 1 false) [.t 47] [7,4] 4 44 false,oG 49 (.bin .geq) [.t 46,.t 48] [6,8,4] 4 44 false,oA 50 .pick [.t 44,cb true,.t 49] [4,9]] false).seq
 (AC.cond (.t 50) ((rg [oA 2 .mov [cb false]] false).seq AC.ret) AC.skip)).seq
 (rg [fa 51 0 5,ld 52 51 [0],mv 3 52 [1,0,1]] false)))).seq
 (rg [oA 53 (.bin .add) [.t 36,ci 1],mv 36 53 [0]] false)))).loop)).seq
 ((rg [oA 2 .mov [cb true]] false).seq AC.ret))))
def R51':List RV:=[.t 2]
theorem G51':GoT Tryz.f64.ntmps 64 A51' R51':=goT [] Tryz.func64
def A52':AC :=
 (rg [oA 2 .box [.t 0],oA 4 .mov [ci 0]] false).seq
 ((rg [oA 5 .mov [ci 0]] false).seq
 (((rg [fa 8 3 2,ld 9 8 [0],oA 10 .len [.t 9] [1],oA 11 .mov [ci 0]] false).seq
 (AC.block 0 ((rg [bn 12 .lss 11 10] false).seq
 ((AC.cond (.t 12) AC.skip (AC.exit 0)).seq
 ((AC.block 1 ((rg [oA 13 (.iad 2) [.t 9,.t 11],oA 14 (.load 2 true) [.t 13] [0],oA 7 (.alloc [I 0,V.nl 1]) [],oZ (.store 2) [.t 7,.t 14] [2,1,0,1,2]] false).seq
 ((rg [fa 15 0 7,ld 16 15 [0],mv 17 1,bn 18 .geq 16 17 [1,2]] false).seq
 (AC.cond (.t 18) (rg [mv 19 5,oA 20 (.bin .add) [.t 19,ci 1] [0],mv 5 20 [1,0,1]] false) AC.skip)))).seq
 (rg [oA 21 (.bin .add) [.t 11,ci 1],mv 11 21 [0]] false)))).loop)).seq
 ((rg [mv 22 5,mv 4 22 [0,0]] false).seq AC.ret)))
def R52':List RV:=[.t 4]
theorem G52':GoT Tryz.f65.ntmps 65 A52' R52':=goT [] Tryz.func65
def A53':AC :=
 (rg [oA 2 .mov [cb false]] false).seq
 ((rg [mv 3 0,oA 4 (.bin .geq) [.t 3,ci 1] [0],mv 5 4 [1],mg 6 0 [2] 2 5 true,oG 7 (.bin .lss) [.t 6,ci 2147483647] [3,2] 2 5 true,oA 8 .pick [.t 5,.t 7,cb false] [2,4],mv 2 8 [5,2,0,1,2,3,4,5]] false).seq AC.ret)
def R53':List RV:=[.t 2]
theorem G53':GoT Tryz.f91.ntmps 91 A53' R53':=goT [] Tryz.func91
def A54':AC :=
 (rg [oA 2 .mov [AV.c (V.nl 1)]] false).seq
 ((rg [oA 3 .mov [AV.c (V.nl 1)]] false).seq
 (((rg [mv 6 0,oA 7 .len [.t 6] [0],oA 8 .mov [ci 0]] false).seq
 (AC.block 0 ((rg [bn 9 .lss 8 7] false).seq
 ((AC.cond (.t 9) AC.skip (AC.exit 0)).seq
 ((AC.block 1 ((rg [oA 10 (.iad 1) [.t 6,.t 8],ld 11 10 [0],mv 5 11 [1,0,1]] false).seq
 (rg [mv 12 3,mv 13 5,oA 14 (.app 1 8) [AV.c (V.nl 1),.t 13] [1],oA 15 (.bsl 1 [V.nl 1] 1 [0]) [.t 14] [2],oA 16 (.app 1 24) [.t 12,.t 15] [0,3,2],mv 3 16 [4,4,0,1,2,3,4]] false))).seq
 (rg [oA 17 (.bin .add) [.t 8,ci 1],mv 8 17 [0]] false)))).loop)).seq
 ((rg [mv 18 3,mv 2 18 [0,0]] false).seq AC.ret)))
def R54':List RV:=[.t 2]
theorem G54':GoT Tryz.f60.ntmps 60 A54' R54':=goT [] Tryz.func60
def A55':AC :=
 (rg [oA 5 .box [.t 1],oA 8 (.alloc [I 0,I 0,I 0,V.nl 1]) [],oA 9 .mov [ci 0]] false).seq
 ((rg [mv 12 0,oA 13 (.load 1 true) [.t 5],mv 14 2,mv 15 3,oA 16 (.build [I 0,I 0,I 0,V.nl 1] [(0,1),(1,1),(2,1),(3,1)]) [.t 12,.t 13,.t 14,.t 15] [0,1,2,3],oA 10 (.alloc [I 0,I 0,I 0,V.nl 1]) [],oZ (.store 4) [.t 10,.t 16] [5,4,0,1,2,3,4,5]] false).seq
 (((rg [oA 17 (.load 4 true) [.t 10],kl 18 90 [.t 17] [0],mv 11 18 [1,1,0,1]] false).seq
 ((rg [mv 19 11,oA 20 (.bin .neq) [.t 19,ci 0] [0]] false).seq
 (AC.cond (.t 20) ((rg [oA 21 (.build [I 0,I 0,I 0,V.nl 1] []) [],mv 22 11,oZ (.store 4) [.t 8,.t 21] [0,0],mv 9 22 [1,2,0,1,2]] false).seq AC.ret) AC.skip))).seq
 ((rg [mv 23 3,kl 24 60 [.t 23] [0],fa 25 3 10 [0,1],oZ (.store 1) [.t 25,.t 24] [2,1,1,0,1]] false).seq
 ((rg [oA 26 (.load 4 true) [.t 10],oZ (.store 4) [.t 8,.t 26] [0,0],oA 9 .mov [ci 0] [1,0,1]] false).seq AC.ret))))
def R55':List RV:=[.c 8 4 true,.t 9]
theorem G55':GoT Tryz.f61.ntmps 61 A55' R55':=goT [] Tryz.func61
def A56':AC :=
 (rg [oA 1 .box [.t 0],oA 2 .mov [ci 0]] false).seq
 (((rg [fa 6 0 1,ld 7 6 [0],oA 8 (.bin .lss) [.t 7,ci 1] [1],mv 9 8 [2],oG 10 (.fad 0) [.t 1] [3] 3 9 false,oG 11 (.load 1 false) [.t 10] [4,3] 3 9 false,oG 12 (.bin .geq) [.t 11,ci 2147483647] [5,3] 3 9 false,oA 13 .pick [.t 9,cb true,.t 12] [3,6]] false).seq
 (AC.cond (.t 13) ((rg [oA 2 .mov [ci 1]] false).seq AC.ret) AC.skip)).seq
 (((rg [fa 14 1 1,oA 15 (.load 1 true) [.t 14] [0],kl 16 104 [.t 15] [1],mv 3 16 [2,2,0,1,2]] false).seq
 ((rg [mv 17 3,oA 18 (.bin .neq) [.t 17,ci 0] [0]] false).seq
 (AC.cond (.t 18) ((rg [mv 19 3,mv 2 19 [0,0]] false).seq AC.ret) AC.skip))).seq
 (((rg [fa 20 2 1,ld 21 20 [0],oA 22 (.bin .lss) [.t 21,ci 1] [1],mv 23 22 [2],oG 24 (.fad 2) [.t 1] [3] 3 23 false,oG 25 (.load 1 false) [.t 24] [4,3] 3 23 false,oG 26 (.bin .gtr) [.t 25,ci 64] [5,3] 3 23 false,oA 27 .pick [.t 23,cb true,.t 26] [3,6]] false).seq
 (AC.cond (.t 27) ((rg [oA 2 .mov [ci 1]] false).seq AC.ret) AC.skip)).seq
 (((rg [fa 28 3 1,ld 29 28 [0],oA 30 .len [.t 29] [1],oA 31 (.bin .gtr) [.t 30,ci 1024] [2]] false).seq
 (AC.cond (.t 31) ((rg [oA 2 .mov [ci 4]] false).seq AC.ret) AC.skip)).seq
 (((rg [fa 32 3 1,ld 33 32 [0],oA 34 .len [.t 33] [1],oA 35 .mov [ci 0]] false).seq
 (AC.block 0 ((rg [bn 36 .lss 35 34] false).seq
 ((AC.cond (.t 36) AC.skip (AC.exit 0)).seq
 ((AC.block 1 ((rg [oA 37 (.iad 1) [.t 33,.t 35],ld 38 37 [0],mv 5 38 [1,0,1]] false).seq
 (((rg [mv 39 5,oA 40 .len [.t 39] [0],fa 41 2 1,ld 42 41 [2],bn 43 .neq 40 42 [1,3]] false).seq
 (AC.cond (.t 43) ((rg [oA 2 .mov [ci 2]] false).seq AC.ret) AC.skip)).seq
 ((rg [fa 44 1 1,oA 45 (.load 1 true) [.t 44] [0],mv 46 5,kl 47 105 [.t 45,.t 46] [1,2],oA 48 (.un .not) [.t 47] [3]] false).seq
 (AC.cond (.t 48) ((rg [oA 2 .mov [ci 9]] false).seq AC.ret) AC.skip))))).seq
 (rg [oA 49 (.bin .add) [.t 35,ci 1],mv 35 49 [0]] false)))).loop)).seq
 ((rg [oA 2 .mov [ci 0]] false).seq AC.ret))))))
def R56':List RV:=[.t 2]
theorem G56':GoT Tryz.f90.ntmps 90 A56' R56':=goT [] Tryz.func90
def A57':AC :=
 (rg [oA 1 .box [.t 0],oA 2 .mov [ci 0]] false).seq
 (((rg [fa 4 0 1,ld 5 4 [0],oA 6 (.bin .lss) [.t 5,ci 2] [1],mv 7 6 [2],oG 8 (.fad 0) [.t 1] [3] 3 7 false,oG 9 (.load 1 false) [.t 8] [4,3] 3 7 false,oG 10 (.bin .gtr) [.t 9,ci 65521] [5,3] 3 7 false,oA 11 .pick [.t 7,cb true,.t 10] [3,6]] false).seq
 (AC.cond (.t 11) ((rg [oA 2 .mov [ci 9]] false).seq AC.ret) AC.skip)).seq
 (((rg [oA 3 .mov [ci 2]] false).seq
 (AC.block 0 (((rg [mv 12 3,mv 13 3,bn 14 .mul 12 13 [0,1],fa 15 0 1,ld 16 15 [3],bn 17 .leq 14 16 [2,4]] false).seq
 (AC.cond (.t 17) AC.skip (AC.exit 0))).seq
 ((AC.block 1 ((rg [fa 20 0 1,ld 21 20 [0],mv 22 3,bn 23 .rem 21 22 [1,2],oA 24 (.bin .eql) [.t 23,ci 0] [3]] false).seq
 (AC.cond (.t 24) ((rg [oA 2 .mov [ci 9]] false).seq AC.ret) AC.skip))).seq
 (rg [mv 18 3,oA 19 (.bin .add) [.t 18,ci 1] [0],mv 3 19 [1,0,1]] false))).loop)).seq
 ((rg [oA 2 .mov [ci 0]] false).seq AC.ret)))
def R57':List RV:=[.t 2]
theorem G57':GoT Tryz.f104.ntmps 104 A57' R57':=goT [] Tryz.func104
def A58':AC :=
 (rg [oA 2 .box [.t 0],oA 4 .mov [cb false]] false).seq
 (((rg [oA 7 (.load 1 true) [.t 2],kl 8 104 [.t 7] [0],oA 9 (.bin .neq) [.t 8,ci 0] [1]] false).seq
 (AC.cond (.t 9) ((rg [oA 4 .mov [cb false]] false).seq AC.ret) AC.skip)).seq
 (((rg [mv 10 1,oA 11 .len [.t 10] [0],oA 12 .mov [ci 0]] false).seq
 (AC.block 0 ((rg [bn 13 .lss 12 11] false).seq
 ((AC.cond (.t 13) AC.skip (AC.exit 0)).seq
 ((AC.block 1 ((rg [oA 14 (.iad 1) [.t 10,.t 12],ld 15 14 [0],mv 6 15 [1,0,1]] false).seq
 ((rg [mv 16 6,oA 17 (.bin .lss) [.t 16,ci 0] [0],mv 18 17 [1],mg 19 6 [2] 2 18 false,oG 20 (.fad 0) [.t 2] [2] 2 18 false,oG 21 (.load 1 false) [.t 20] [4,2] 2 18 false,oG 22 (.bin .geq) [.t 19,.t 21] [3,5,2] 2 18 false,oA 23 .pick [.t 18,cb true,.t 22] [2,6]] false).seq
 (AC.cond (.t 23) ((rg [oA 4 .mov [cb false]] false).seq AC.ret) AC.skip)))).seq
 (rg [oA 24 (.bin .add) [.t 12,ci 1],mv 12 24 [0]] false)))).loop)).seq
 ((rg [oA 4 .mov [cb true]] false).seq AC.ret)))
def R58':List RV:=[.t 4]
theorem G58':GoT Tryz.f105.ntmps 105 A58' R58':=goT [] Tryz.func105
def A59':AC :=
 (rg [oA 4 .mov [cb false]] false).seq
 (((rg [mv 6 0,oA 7 .len [.t 6] [0],mv 8 1,oA 9 .len [.t 8] [2],bn 10 .neq 7 9 [1,3]] false).seq
 (AC.cond (.t 10) ((rg [oA 4 .mov [cb false]] false).seq AC.ret) AC.skip)).seq
 (((rg [mv 11 0,oA 12 .len [.t 11] [0],oA 13 .mov [ci 0]] false).seq
 (AC.block 0 ((rg [bn 14 .lss 13 12] false).seq
 ((AC.cond (.t 14) AC.skip (AC.exit 0)).seq
 ((AC.block 1 ((rg [mv 15 13,mv 5 15 [0,0]] false).seq
 ((rg [mv 16 0,mv 17 5,oA 18 (.iad 1) [.t 16,.t 17] [0,1],ld 19 18 [2],mv 20 1,mv 21 5,oA 22 (.iad 1) [.t 20,.t 21] [4,5],ld 23 22 [6],bn 24 .neq 19 23 [3,7]] true).seq
 (AC.cond (.t 24) ((rg [oA 4 .mov [cb false]] false).seq AC.ret) AC.skip)))).seq
 (rg [oA 25 (.bin .add) [.t 13,ci 1],mv 13 25 [0]] false)))).loop)).seq
 ((rg [oA 4 .mov [cb true]] false).seq AC.ret)))
def R59':List RV:=[.t 4]
theorem G59':GoT Tryz.f62.ntmps 62 A59' R59':=goT [] Tryz.func62
def A60':AC :=
 (rg [oA 5 .box [.t 0],oA 10 .mov [ci 0]] false).seq
 (((rg [mv 15 1,oA 16 (.bin .lss) [.t 15,ci 0] [0],mv 17 16 [1],mg 18 1 [2] 2 17 false,oG 19 (.bin .gtr) [.t 18,ci 64] [3,2] 2 17 false,oA 20 .pick [.t 17,cb true,.t 19] [2,4]] false).seq
 (AC.cond (.t 20) ((rg [oA 10 .mov [ci 4]] false).seq AC.ret) AC.skip)).seq
 (((rg [mv 21 4,oA 22 .len [.t 21] [0],mv 23 2,bn 24 .neq 22 23 [1,2]] false).seq
 (AC.cond (.t 24) ((rg [oA 10 .mov [ci 2]] false).seq AC.ret) AC.skip)).seq
 ((rg [oA 11 .mov [ci 0],oA 12 .mov [cb true] [0,0]] false).seq
 (((rg [mv 25 4,oA 26 .len [.t 25] [0],oA 27 .mov [ci 0]] false).seq
 (AC.block 0 ((rg [bn 28 .lss 27 26] false).seq
 ((AC.cond (.t 28) AC.skip (AC.exit 0)).seq
 ((AC.block 1 ((rg [oA 29 (.iad 2) [.t 25,.t 27],oA 30 (.load 2 true) [.t 29] [0],oA 14 (.alloc [B false,V.nl 1]) [],oZ (.store 2) [.t 14,.t 30] [2,1,0,1,2]] false).seq
 (((rg [fa 31 0 14,ld 32 31 [0],oA 33 (.un .not) [.t 32] [1]] false).seq
 (AC.cond (.t 33) (AC.exit 1) AC.skip)).seq
 (((rg [fa 34 1 14,ld 35 34 [0],oA 36 .len [.t 35] [1],mv 37 1,bn 38 .neq 36 37 [2,3]] false).seq
 (AC.cond (.t 38) ((rg [oA 10 .mov [ci 2]] false).seq AC.ret) AC.skip)).seq
 ((rg [mv 39 11,oA 40 (.bin .add) [.t 39,ci 1] [0],mv 11 40 [1,0,1]] false).seq
 (rg [mv 41 12,mv 42 41 [0],oG 43 (.fad 0) [.t 5] [1] 1 42 true,oG 44 (.load 1 false) [.t 43] [2,1] 1 42 true,oG 45 (.fad 1) [.t 14] [1] 1 42 true,oG 46 (.load 1 false) [.t 45] [4,1] 1 42 true,oG 47 (.call 46) [.t 44,.t 46] [3,5,1,1] 1 42 true,oA 48 .pick [.t 42,.t 47,cb false] [1,6],mv 12 48 [7,6,0,1,2,3,4,5,6,7]] false)))))).seq
 (rg [oA 49 (.bin .add) [.t 27,ci 1],mv 27 49 [0]] false)))).loop)).seq
 ((AC.block 2 ((rg [mv 51 12,oA 52 (.un .not) [.t 51] [0],mv 50 52 [1]] false).seq
 (AC.cond (.t 50) ((rg [oA 10 .mov [ci 9]] false).seq AC.ret) ((rg [mv 54 11,mv 55 3,bn 56 .lss 54 55 [0,1],mv 53 56 [2]] false).seq
 (AC.cond (.t 53) ((rg [oA 10 .mov [ci 11]] false).seq AC.ret) AC.skip))))).seq
 ((rg [oA 10 .mov [ci 0]] false).seq AC.ret))))))
def R60':List RV:=[.t 10]
theorem G60':GoT Tryz.f51.ntmps 51 A60' R60':=goT [] Tryz.func51
def A61':AC :=
 (rg [oA 4 .mov [cb false]] false).seq
 ((rg [mv 5 0,mv 6 1,kl 7 97 [.t 5,.t 6] [0,1],oA 8 (.bin .geq) [.t 7,ci 0] [2],mv 4 8 [3,2,0,1,2,3]] false).seq AC.ret)
def R61':List RV:=[.t 4]
theorem G61':GoT Tryz.f76.ntmps 76 A61' R61':=goT [] Tryz.func76
def A62':AC :=
 (rg [oA 2 .mov [cb false]] false).seq
 ((rg [mv 3 0,oA 4 (.bin .geq) [.t 3,ci 1] [0],mv 5 4 [1],mg 6 0 [2] 2 5 true,oG 7 (.bin .leq) [.t 6,ci 2147483647] [3,2] 2 5 true,oA 8 .pick [.t 5,.t 7,cb false] [2,4],mv 2 8 [5,2,0,1,2,3,4,5]] false).seq AC.ret)
def R62':List RV:=[.t 2]
theorem G62':GoT Tryz.f72.ntmps 72 A62' R62':=goT [] Tryz.func72
def A63':AC :=
 (rg [oA 6 .mov [ci 0]] false).seq
 (((rg [oA 7 .mov [ci 0]] false).seq
 (AC.block 0 (((rg [mv 10 7,mv 11 2,bn 12 .lss 10 11 [0,1]] false).seq
 (AC.cond (.t 12) AC.skip (AC.exit 0))).seq
 ((AC.block 1 ((rg [mv 16 0,oA 17 .nck [.t 16] [0],fa 18 0 17 [1],mv 19 1,kl 20 96 [.t 18,.t 19] [2,3],mv 15 20 [4],xt 21 0 15 [5],xt 22 1 15 [5],mv 8 21 [6,4,0,1,2,3,4,5,6],mv 9 22 [7,8,0,1,2,3,4,5,6,7,8]] false).seq
 (((rg [mv 23 9,oA 24 (.bin .neq) [.t 23,ci 0] [0]] false).seq
 (AC.cond (.t 24) ((rg [mv 25 9,mv 6 25 [0,0]] false).seq AC.ret) AC.skip)).seq
 (rg [mv 26 0,mv 27 0,oA 28 .nck [.t 27] [1],fa 29 2 28 [2],ld 30 29 [3],mv 31 8,oA 32 (.bsl 1 [I 0] 1 [0]) [.t 31] [5],oA 33 (.app 1 8) [.t 30,.t 32] [4,6],oA 34 .nck [.t 26] [0,0,1,2,3,4,5,6,7],fa 35 2 34 [8,0,1,2,3,4,5,6,7],oZ (.store 1) [.t 35,.t 33] [9,7,7,0,1,2,3,4,5,6,7]] false)))).seq
 (rg [mv 13 7,oA 14 (.bin .add) [.t 13,ci 1] [0],mv 7 14 [1,0,1]] false))).loop)).seq
 ((rg [oA 6 .mov [ci 0]] false).seq AC.ret))
def R63':List RV:=[.t 6]
theorem G63':GoT Tryz.f73.ntmps 73 A63' R63':=goT [] Tryz.func73
def A64':AC :=
 (rg [oA 2 .mov [AV.c (V.nl 1)]] false).seq
 (((rg [mv 3 0,oA 4 (.isn false) [.t 3,AV.c (V.nl 1)] [0]] false).seq
 (AC.cond (.t 4) ((rg [oA 2 .mov [AV.c (V.nl 1)]] false).seq AC.ret) AC.skip)).seq
 ((rg [oA 5 (.bsl 1 [I 0] 0 []) [],mv 6 0,oA 7 (.app 1 8) [.t 5,.t 6] [0,1],mv 2 7 [2,2,0,1,2]] false).seq AC.ret))
def R64':List RV:=[.t 2]
theorem G64':GoT Tryz.f59.ntmps 59 A64' R64':=goT [] Tryz.func59
def A65':AC :=
 (rg [oA 1 .box [.t 0],oA 2 .mov [ci 0],oA 3 .mov [cb false] [1]] false).seq
 (((rg [fa 5 0 1,ld 6 5 [0],oA 7 (.bin .lss) [.t 6,ci 2] [1],mv 8 7 [2],oG 9 (.fad 0) [.t 1] [3] 3 8 false,oG 10 (.load 1 false) [.t 9] [4,3] 3 8 false,oG 11 (.bin .gtr) [.t 10,ci 65521] [5,3] 3 8 false,oA 12 .pick [.t 8,cb true,.t 11] [3,6]] false).seq
 (AC.cond (.t 12) ((rg [oA 2 .mov [ci 0],oA 3 .mov [cb false] [0,0]] false).seq AC.ret) AC.skip)).seq
 (((rg [oA 4 .mov [ci 2]] false).seq
 (AC.block 0 (((rg [mv 13 4,mv 14 4,bn 15 .mul 13 14 [0,1],fa 16 0 1,ld 17 16 [3],bn 18 .leq 15 17 [2,4]] false).seq
 (AC.cond (.t 18) AC.skip (AC.exit 0))).seq
 ((AC.block 1 ((rg [fa 21 0 1,ld 22 21 [0],mv 23 4,bn 24 .rem 22 23 [1,2],oA 25 (.bin .eql) [.t 24,ci 0] [3]] false).seq
 (AC.cond (.t 25) ((rg [oA 2 .mov [ci 0],oA 3 .mov [cb false] [0,0]] false).seq AC.ret) AC.skip))).seq
 (rg [mv 19 4,oA 20 (.bin .add) [.t 19,ci 1] [0],mv 4 20 [1,0,1]] false))).loop)).seq
 ((rg [fa 26 0 1,ld 27 26 [0],mv 2 27 [1,0,1],oA 3 .mov [cb true] [2,0,1,2]] false).seq AC.ret)))
def R65':List RV:=[.t 2,.t 3]
theorem G65':GoT Tryz.f44.ntmps 44 A65' R65':=goT [] Tryz.func44
def A66':AC :=
 (rg [oA 4 .mov [cb false]] false).seq
 ((rg [mv 5 1,oA 6 (.bin .geq) [.t 5,ci 0] [0],mv 7 6 [1],mg 8 1 [2] 2 7 true,mg 9 0 [2] 2 7 true,oG 10 (.bin .lss) [.t 8,.t 9] [3,4,2] 2 7 true,oA 11 .pick [.t 7,.t 10,cb false] [2,5],mv 4 11 [6,2,0,1,2,3,4,5,6]] false).seq AC.ret)
def R66':List RV:=[.t 4]
theorem G66':GoT Tryz.f45.ntmps 45 A66' R66':=goT [] Tryz.func45
def A67':AC :=
 (rg [oA 2 .mov [cb false]] false).seq
 ((rg [mv 3 0,oA 4 (.bin .geq) [.t 3,ci 0] [0],mv 5 4 [1],mg 6 0 [2] 2 5 true,oG 7 (.bin .leq) [.t 6,ci 9] [3,2] 2 5 true,oA 8 .pick [.t 5,.t 7,cb false] [2,4],mv 2 8 [5,2,0,1,2,3,4,5]] false).seq AC.ret)
def R67':List RV:=[.t 2]
theorem G67':GoT Tryz.f74.ntmps 74 A67' R67':=goT [] Tryz.func74
def A68':AC :=
 (rg [oA 6 .mov [AV.c (V.nl 2)]] false).seq
 ((rg [oA 7 .mov [AV.c (V.nl 2)]] false).seq
 (((rg [mv 10 2,oA 11 .len [.t 10] [0],oA 12 .mov [ci 0]] false).seq
 (AC.block 0 ((rg [bn 13 .lss 12 11] false).seq
 ((AC.cond (.t 13) AC.skip (AC.exit 0)).seq
 ((AC.block 1 ((rg [oA 14 (.iad 1) [.t 10,.t 12],ld 15 14 [0],mv 9 15 [1,0,1]] false).seq
 (rg [mv 16 7,mv 17 9,mv 18 0,mv 19 1,mv 20 9,kl 21 47 [.t 18,.t 19,.t 20] [2,3,4],oA 22 (.build [I 0,I 0] [(0,1),(1,1)]) [.t 17,.t 21] [1,5],oA 23 (.bsl 2 [I 0,I 0] 1 [0]) [.t 22] [6],oA 24 (.app 2 16) [.t 16,.t 23] [0,7,5],mv 7 24 [8,8,0,1,2,3,4,5,6,7,8]] false))).seq
 (rg [oA 25 (.bin .add) [.t 12,ci 1],mv 12 25 [0]] false)))).loop)).seq
 ((rg [mv 26 7,mv 6 26 [0,0]] false).seq AC.ret)))
def R68':List RV:=[.t 6]
theorem G68':GoT Tryz.f75.ntmps 75 A68' R68':=goT [] Tryz.func75
def A69':AC :=
 (rg [oA 1 .box [.t 0],oA 2 .mov [cb false]] false).seq
 ((rg [fa 3 0 1,ld 4 3 [0],oA 5 (.bin .geq) [.t 4,ci 2] [1],mv 6 5 [2],oG 7 (.fad 0) [.t 1] [3] 3 6 true,oG 8 (.load 1 false) [.t 7] [4,3] 3 6 true,oG 9 (.bin .leq) [.t 8,ci 10] [5,3] 3 6 true,oA 10 .pick [.t 6,.t 9,cb false] [3,6],mv 11 10 [7,3],oG 12 (.fad 1) [.t 1] [8] 8 11 true,oG 13 (.load 1 false) [.t 12] [9,8] 8 11 true,oG 14 (.bin .geq) [.t 13,ci 1] [10,8] 8 11 true,oA 15 .pick [.t 11,.t 14,cb false] [8,11],mv 16 15 [12,8],oG 17 (.fad 1) [.t 1] [13] 13 16 true,oG 18 (.load 1 false) [.t 17] [14,13] 13 16 true,oG 19 (.fad 0) [.t 1] [13] 13 16 true,oG 20 (.load 1 false) [.t 19] [16,13] 13 16 true,oG 21 (.bin .lss) [.t 18,.t 20] [15,17,13] 13 16 true,oA 22 .pick [.t 16,.t 21,cb false] [13,18],mv 2 22 [19,13,0,1,2,3,4,5,6,7,8,9,10,11,12,13,14,15,16,17,18,19]] false).seq AC.ret)
def R69':List RV:=[.t 2]
theorem G69':GoT Tryz.f81.ntmps 81 A69' R69':=goT [] Tryz.func81
def A70':AC :=
 (rg [oA 3 .mov [cb false]] false).seq
 ((rg [ld 4 1,mv 5 0,kl 6 45 [.t 4,.t 5] [0,1],oA 7 (.un .not) [.t 6] [2],mv 3 7 [3,2,0,1,2,3]] false).seq AC.ret)
def R70':List RV:=[.t 3]
theorem G70':GoT Tryz.f77.ntmps 77 A70' R70':=goT [] Tryz.func77
def A71':AC :=
 (rg [mv 3 0,oA 4 .len [.t 3] [0],mv 2 4 [1,0,1]] false).seq
 (rg [mv 5 0,mv 6 2,mv 7 2,oA 8 (.conv .u64) [.t 7] [2],kl 9 100 [.t 8] [3],kl 10 99 [.t 5,ci 0,.t 6,.t 9] [0,1,4,4]] false)
def R71':List RV:=[]
theorem G71':GoT Tryz.f82.ntmps 82 A71' R71':=goT [] Tryz.func82
def A72':AC :=
 (rg [oA 2 .mov [AV.c (V.nl 1)]] false).seq
 (((rg [mv 6 0,oA 7 .len [.t 6] [0],oA 8 (.bin .lss) [.t 7,ci 2] [1]] false).seq
 (AC.cond (.t 8) ((rg [mv 9 0,mv 2 9 [0,0]] false).seq AC.ret) AC.skip)).seq
 (((rg [oA 3 .mov [ci 1]] false).seq
 (AC.block 0 (((rg [mv 10 3,mv 11 0,oA 12 .len [.t 11] [1],bn 13 .lss 10 12 [0,2]] false).seq
 (AC.cond (.t 13) AC.skip (AC.exit 0))).seq
 ((AC.block 1 ((rg [mv 16 0,mv 17 3,oA 18 (.iad 1) [.t 16,.t 17] [0,1],ld 19 18 [2],mv 20 0,mv 21 3,oA 22 (.bin .sub) [.t 21,ci 1] [5],oA 23 (.iad 1) [.t 20,.t 22] [4,6],ld 24 23 [7],bn 25 .eql 19 24 [3,8]] true).seq
 (AC.cond (.t 25) ((rg [mv 26 0,mv 27 3,oA 28 (.slc true false false 1) [.t 26,.t 27] [0,1],mv 4 28 [2,0,1,2]] false).seq
 (((rg [oA 5 .mov [ci 1]] false).seq
 (AC.block 2 (((rg [mv 29 5,mv 30 4,oA 31 .len [.t 30] [1],bn 32 .lss 29 31 [0,2]] false).seq
 (AC.cond (.t 32) AC.skip (AC.exit 2))).seq
 ((AC.block 3 ((rg [mv 35 4,mv 36 5,oA 37 (.iad 1) [.t 35,.t 36] [0,1],ld 38 37 [2],mv 39 4,mv 40 5,oA 41 (.bin .sub) [.t 40,ci 1] [5],oA 42 (.iad 1) [.t 39,.t 41] [4,6],ld 43 42 [7],bn 44 .neq 38 43 [3,8]] true).seq
 (AC.cond (.t 44) ((rg [mv 45 0,mv 46 3,mv 47 4,mv 48 5,oA 49 (.iad 1) [.t 47,.t 48] [2,3],ld 50 49 [4],oA 51 (.iad 1) [.t 45,.t 46] [0,1,0,1,2,3,4,5],oZ (.store 1) [.t 51,.t 50] [6,5,0,1,2,3,4,5]] false).seq
 (rg [mv 52 3,oA 53 (.bin .add) [.t 52,ci 1] [0],mv 3 53 [1,0,1]] false)) AC.skip))).seq
 (rg [mv 33 5,oA 34 (.bin .add) [.t 33,ci 1] [0],mv 5 34 [1,0,1]] false))).loop)).seq
 ((AC.clr { sl:=0,il:=3,d1:=54,d2:=55,d3:=56,k:=1,z:=[I 0] }).seq
 ((rg [mv 57 0,mv 58 3,oA 59 (.slc false true false 1) [.t 57,.t 58] [0,1],mv 2 59 [2,0,1,2]] false).seq AC.ret)))) AC.skip))).seq
 (rg [mv 14 3,oA 15 (.bin .add) [.t 14,ci 1] [0],mv 3 15 [1,0,1]] false))).loop)).seq
 ((rg [mv 60 0,mv 2 60 [0,0]] false).seq AC.ret)))
def R72':List RV:=[.t 2]
theorem G72':GoT Tryz.f83.ntmps 83 A72' R72':=goT [] Tryz.func83
def A73':AC :=
 (rg [oA 3 .box [.t 0],oA 6 (.alloc [V.nl 1,V.nl 1]) [],oA 7 .mov [ci 0]] false).seq
 ((rg [oA 11 (.load 1 true) [.t 3],mv 12 1,mv 13 2,kl 14 101 [.t 11,.t 12,.t 13] [0,1,2],mv 10 14 [3],xt 15 0 10 [4],xt 16 1 10 [4],oA 8 (.alloc [V.nl 1,V.nl 1]) [],oZ (.store 2) [.t 8,.t 15] [7,5,3,0,1,2,3,4,5,7],mv 9 16 [6,8,0,1,2,3,4,5,6,7,8]] false).seq
 (((rg [mv 17 9,oA 18 (.ldg 0) [],kl 19 102 [.t 17,.t 18] [0,1]] false).seq
 (AC.cond (.t 19) ((rg [oA 20 (.build [V.nl 1,V.nl 1] []) [],oZ (.store 2) [.t 6,.t 20] [0,0],oA 7 .mov [ci 12] [1,0,1]] false).seq AC.ret) AC.skip)).seq
 ((rg [oA 21 (.load 2 true) [.t 8],mv 22 9,kl 23 103 [.t 22] [1],oZ (.store 2) [.t 6,.t 21] [0,2,0],mv 7 23 [2,3,0,1,2,3]] true).seq AC.ret)))
def R73':List RV:=[.c 6 2 true,.t 7]
theorem G73':GoT Tryz.f84.ntmps 84 A73' R73':=goT [] Tryz.func84
def A74':AC :=
 (rg [mv 10 3,oA 11 .len [.t 10] [0],oA 12 .mov [ci 0]] false).seq
 (AC.block 0 ((rg [bn 13 .lss 12 11] false).seq
 ((AC.cond (.t 13) AC.skip (AC.exit 0)).seq
 ((AC.block 1 ((rg [mv 14 12,oA 15 (.iad 1) [.t 10,.t 12],ld 16 15 [1],mv 8 14 [0,0,1,2],mv 9 16 [2,3,0,1,2,3]] false).seq
 (rg [mv 17 1,mv 18 8,mv 19 0,mv 20 1,mv 21 8,oA 22 (.iad 1) [.t 20,.t 21] [3,4],ld 23 22 [5],mv 24 0,mv 25 2,mv 26 9,kl 27 80 [.t 24,.t 25,.t 26] [7,8,9],kl 28 79 [.t 19,.t 23,.t 27] [2,6,10,10],oA 29 (.iad 1) [.t 17,.t 18] [0,1,0,1,2,3,4,5,6,7,8,9,10,11],oZ (.store 1) [.t 29,.t 28] [12,11,11,0,1,2,3,4,5,6,7,8,9,10,11]] true))).seq
 (rg [oA 30 (.bin .add) [.t 12,ci 1],mv 12 30 [0]] false)))).loop)
def R74':List RV:=[]
theorem G74':GoT Tryz.f48.ntmps 48 A74' R74':=goT [] Tryz.func48
def A75':AC :=
 (rg [oA 4 .mov [ci 0]] false).seq
 (((rg [mv 6 0,oA 7 .len [.t 6] [0],oA 8 .mov [ci 0]] false).seq
 (AC.block 0 ((rg [bn 9 .lss 8 7] false).seq
 ((AC.cond (.t 9) AC.skip (AC.exit 0)).seq
 ((AC.block 1 ((rg [mv 10 8,mv 5 10 [0,0]] false).seq
 ((rg [mv 11 1,mv 12 0,mv 13 5,oA 14 (.iad 1) [.t 12,.t 13] [1,2],ld 15 14 [3],oA 16 .callv [.t 11,.t 15] [0,4]] false).seq
 (AC.cond (.t 16) ((rg [mv 17 5,mv 4 17 [0,0]] false).seq AC.ret) AC.skip)))).seq
 (rg [oA 18 (.bin .add) [.t 8,ci 1],mv 8 18 [0]] false)))).loop)).seq
 ((rg [oA 4 .mov [ci (-1)]] false).seq AC.ret))
def R75':List RV:=[.t 4]
theorem G75':GoT Tryz.f97.ntmps 97 A75' R75':=goT [] Tryz.func97
def A76':AC :=
 (rg [oA 4 .mov [ci 0],oA 5 .mov [ci 0] [0]] false).seq
 (((rg [mv 7 0,oA 8 .nck [.t 7] [0],fa 9 1 8 [1],ld 10 9 [2],mv 11 0,oA 12 .nck [.t 11] [4],fa 13 0 12 [5],ld 14 13 [6],oA 15 .len [.t 14] [7],bn 16 .eql 10 15 [3,8]] true).seq
 (AC.cond (.t 16) ((rg [oA 4 .mov [ci 0],oA 5 .mov [ci 3] [0,0]] false).seq AC.ret) AC.skip)).seq
 ((rg [mv 17 0,oA 18 .nck [.t 17] [0],fa 19 0 18 [1],ld 20 19 [2],mv 21 0,oA 22 .nck [.t 21] [4],fa 23 1 22 [5],ld 24 23 [6],oA 25 (.iad 1) [.t 20,.t 24] [3,7],ld 26 25 [8],mv 6 26 [9,0,1,2,3,4,5,6,7,8,9]] true).seq
 (((rg [mv 27 6,oA 28 (.bin .lss) [.t 27,ci 0] [0],mv 29 28 [1],mg 30 6 [2] 2 29 false,mg 31 1 [2] 2 29 false,oG 32 (.bin .geq) [.t 30,.t 31] [3,4,2] 2 29 false,oA 33 .pick [.t 29,cb true,.t 32] [2,5]] false).seq
 (AC.cond (.t 33) ((rg [oA 4 .mov [ci 0],oA 5 .mov [ci 8] [0,0]] false).seq AC.ret) AC.skip)).seq
 ((rg [mv 34 0,oA 35 .nck [.t 34] [0],fa 36 1 35 [1],ld 37 36 [2],oA 38 (.bin .add) [.t 37,ci 1] [3],oA 39 .nck [.t 34] [0,0,1,2,3,4],fa 40 1 39 [5,0,1,2,3,4],oZ (.store 1) [.t 40,.t 38] [6,4,0,1,2,3,4]] false).seq
 ((rg [mv 41 6,mv 4 41 [0,0],oA 5 .mov [ci 0] [1,0,1]] false).seq AC.ret)))))
def R76':List RV:=[.t 4,.t 5]
theorem c_tape_position_next:compile Tryz.prog ⟨Go.Func.ntmps Tryz.f96,[]⟩ (Tryz.f96.body.getD .skip)=some A76':=by kernel_rfl
def A77':AC :=
 (rg [oA 8 .mov [cb true]] false).seq
 ((rg [oA 9 .mov [cb true]] false).seq
 (AC.block 0 (AC.block 1 ((rg [mv 19 2,mv 20 1,bn 21 .sub 19 20 [0,1],mv 10 21 [2,0,1,2]] false).seq
 (((rg [mv 22 10,oA 23 (.bin .leq) [.t 22,ci 12] [0]] false).seq
 (AC.cond (.t 23) ((rg [mv 24 0,mv 25 1,mv 26 2,kl 27 106 [.t 24,.t 25,.t 26] [0,1,2]] false).seq AC.ret) AC.skip)).seq
 (((rg [mv 28 3,oA 29 (.bin .eql) [.t 28,ci 0] [0]] false).seq
 (AC.cond (.t 29) ((rg [mv 30 0,mv 31 1,mv 32 2,kl 33 107 [.t 30,.t 31,.t 32] [0,1,2]] false).seq AC.ret) AC.skip)).seq
 (((rg [mv 34 8,oA 35 (.un .not) [.t 34] [0]] false).seq
 (AC.cond (.t 35) ((rg [mv 36 0,mv 37 1,mv 38 2,kl 39 108 [.t 36,.t 37,.t 38] [0,1,2]] false).seq
 (rg [mv 40 3,oA 41 (.bin .sub) [.t 40,ci 1] [0],mv 3 41 [1,0,1]] false)) AC.skip)).seq
 ((rg [mv 43 0,mv 44 1,mv 45 2,kl 46 109 [.t 43,.t 44,.t 45] [0,1,2],mv 42 46 [3],xt 47 0 42 [4],xt 48 1 42 [4],mv 11 47 [5,3,0,1,2,3,4,5],mv 12 48 [6,7,0,1,2,3,4,5,6,7]] false).seq
 (((rg [mv 49 12,oA 50 (.bin .eql) [.t 49,ci 2] [0]] false).seq
 (AC.cond (.t 50) ((rg [mv 51 0,mv 52 1,mv 53 2,kl 54 110 [.t 51,.t 52,.t 53] [0,1,2]] false).seq
 ((rg [mv 55 2,oA 56 (.bin .sub) [.t 55,ci 1] [0],mv 57 11,mv 58 1,bn 59 .sub 57 58 [2,3],bn 60 .sub 56 59 [1,4],mv 11 60 [5,0,1,2,3,4,5]] false).seq
 (rg [oA 12 .mov [ci 1]] false))) AC.skip)).seq
 (((rg [mv 61 8,mv 62 61 [0],mg 63 9 [1] 1 62 true,oA 64 .pick [.t 62,.t 63,cb false] [1,2],mv 65 64 [3,1],mg 66 12 [4] 4 65 true,oG 67 (.bin .eql) [.t 66,ci 1] [5,4] 4 65 true,oA 68 .pick [.t 65,.t 67,cb false] [4,6]] false).seq
 (AC.cond (.t 68) ((rg [mv 69 0,mv 70 1,mv 71 2,kl 72 111 [.t 69,.t 70,.t 71] [0,1,2]] false).seq
 (AC.cond (.t 72) AC.ret AC.skip)) AC.skip)).seq
 (((rg [mv 73 1,oA 74 (.bin .gtr) [.t 73,ci 0] [0],mv 75 74 [1],mg 76 0 [2] 2 75 true,mg 77 1 [2] 2 75 true,oG 78 (.bin .sub) [.t 77,ci 1] [4,2] 2 75 true,oG 79 (.iad 1) [.t 76,.t 78] [3,5,2] 2 75 true,oG 80 (.load 1 false) [.t 79] [6,2] 2 75 true,mg 81 0 [2] 2 75 true,mg 82 11 [2] 2 75 true,oG 83 (.iad 1) [.t 81,.t 82] [8,9,2] 2 75 true,oG 84 (.load 1 false) [.t 83] [10,2] 2 75 true,oG 85 (.call 112) [.t 80,.t 84] [7,11,2,2] 2 75 true,oG 86 (.un .not) [.t 85] [12,2] 2 75 true,oA 87 .pick [.t 75,.t 86,cb false] [2,13]] true).seq
 (AC.cond (.t 87) ((rg [mv 88 0,mv 89 1,mv 90 2,mv 91 11,kl 92 113 [.t 88,.t 89,.t 90,.t 91] [0,1,2,3],mv 13 92 [4,4,0,1,2,3,4]] false).seq
 ((rg [mv 93 13,mv 1 93 [0,0]] false).seq
 (AC.exit 1))) AC.skip)).seq
 ((rg [mv 95 0,mv 96 1,mv 97 2,mv 98 11,kl 99 114 [.t 95,.t 96,.t 97,.t 98] [0,1,2,3],mv 94 99 [4],xt 100 0 94 [5],xt 101 1 94 [5],mv 14 100 [6,4,0,1,2,3,4,5,6],mv 15 101 [7,8,0,1,2,3,4,5,6,7,8]] false).seq
 ((rg [mv 102 15,mv 9 102 [0,0]] false).seq
 ((rg [mv 103 14,mv 104 1,bn 105 .sub 103 104 [0,1],mv 106 2,mv 107 14,bn 108 .sub 106 107 [3,4],mv 16 105 [2,0,1,2],mv 17 108 [5,6,0,1,2,3,4,5,6]] false).seq
 ((rg [mv 109 10,oA 110 (.bin .quo) [.t 109,ci 8] [0],mv 18 110 [1,0,1]] false).seq
 ((rg [mv 111 16,mv 112 17,bn 113 .lss 111 112 [0,1]] false).seq
 (AC.cond (.t 113) ((rg [mv 114 16,mv 115 18,bn 116 .geq 114 115 [0,1],mv 8 116 [2,0,1,2]] false).seq
 ((rg [mv 117 0,mv 118 1,mv 119 14,mv 120 3,kl 121 99 [.t 117,.t 118,.t 119,.t 120] [0,1,2,3]] false).seq
 (rg [mv 122 14,oA 123 (.bin .add) [.t 122,ci 1] [0],mv 1 123 [1,0,1]] false))) ((rg [mv 124 17,mv 125 18,bn 126 .geq 124 125 [0,1],mv 8 126 [2,0,1,2]] false).seq
 ((rg [mv 127 0,mv 128 14,oA 129 (.bin .add) [.t 128,ci 1] [1],mv 130 2,mv 131 3,kl 132 99 [.t 127,.t 129,.t 130,.t 131] [0,2,3,4]] false).seq
 (rg [mv 133 14,mv 2 133 [0,0]] false)))))))))))))))))).loop))
def R77':List RV:=[]
theorem G77':GoT Tryz.f99.ntmps 99 A77' R77':=goT [] Tryz.func99
def A78':AC :=
 (rg [oA 2 .mov [ci 0]] false).seq
 ((AC.cond (cb false) ((rg [mv 3 0,oA 4 (.conv .u32) [.t 3] [0],kl 5 115 [.t 4] [1],mv 2 5 [2,2,0,1,2]] false).seq AC.ret) AC.skip).seq
 ((rg [mv 6 0,kl 7 116 [.t 6] [0],mv 2 7 [1,1,0,1]] false).seq AC.ret))
def R78':List RV:=[.t 2]
theorem G78':GoT Tryz.f100.ntmps 100 A78' R78':=goT [] Tryz.func100
def A79':AC :=
 (rg [oA 3 .box [.t 0],oA 6 (.alloc [V.nl 1,V.nl 1]) [],oA 7 .mov [AV.c (V.d (D.at Value.nilIface))]] false).seq
 (((rg [oA 21 (.load 1 true) [.t 3],mv 22 1,mv 23 2,kl 24 117 [.t 21,.t 22,.t 23] [0,1,2],mv 20 24 [3],xt 25 0 20 [4],xt 26 1 20 [4],mv 8 25 [5,3,0,1,2,3,4,5],mv 9 26 [6,7,0,1,2,3,4,5,6,7]] false).seq
 ((rg [mv 27 9,oA 28 (.bin .neq) [.t 27,ci 0] [0]] false).seq
 (AC.cond (.t 28) ((rg [oA 29 (.build [V.nl 1,V.nl 1] []) [],mv 30 9,kl 31 118 [.t 30] [1],oZ (.store 2) [.t 6,.t 29] [0,2,0],mv 7 31 [2,3,0,1,2,3]] false).seq AC.ret) AC.skip))).seq
 ((rg [mv 33 1,kl 34 120 [.t 33] [0],mv 35 2,kl 36 119 [.t 34,.t 35] [1,2,1],mv 32 36 [3],xt 37 0 32 [4],xt 38 1 32 [4],mv 10 37 [5,3,0,1,2,3,4,5],mv 11 38 [6,7,0,1,2,3,4,5,6,7]] false).seq
 ((rg [oA 40 (.load 1 true) [.t 3],mv 41 1,mv 42 2,mv 43 10,kl 44 121 [.t 40,.t 41,.t 42,.t 43] [0,1,2,3],mv 39 44 [4],xt 45 0 39 [5],xt 46 1 39 [5],oA 12 (.alloc [I 0,I 0,I 0,V.nl 1,V.nl 1]) [],oZ (.store 5) [.t 12,.t 45] [8,6,4,0,1,2,3,4,5,6,8],mv 13 46 [7,9,0,1,2,3,4,5,6,7,8,9]] false).seq
 (((rg [mv 47 13,oA 48 (.bin .neq) [.t 47,ci 0] [0]] false).seq
 (AC.cond (.t 48) ((rg [oA 49 (.build [V.nl 1,V.nl 1] []) [],mv 50 13,kl 51 118 [.t 50] [1],oZ (.store 2) [.t 6,.t 49] [0,2,0],mv 7 51 [2,3,0,1,2,3]] false).seq AC.ret) AC.skip)).seq
 ((rg [oA 53 (.load 5 true) [.t 12],kl 54 122 [.t 53] [0],mv 52 54 [1],xt 55 0 52 [2],xt 56 1 52 [2],mv 14 55 [3,1,0,1,2,3],mv 13 56 [4,5,0,1,2,3,4,5]] false).seq
 (((rg [mv 57 13,oA 58 (.bin .neq) [.t 57,ci 0] [0]] false).seq
 (AC.cond (.t 58) ((rg [oA 59 (.build [V.nl 1,V.nl 1] []) [],oA 60 (.ldg 0) [],oZ (.store 2) [.t 6,.t 59] [0,0],mv 7 60 [1,2,0,1,2]] true).seq AC.ret) AC.skip)).seq
 ((rg [mv 61 14,mv 62 2,mv 63 10,bn 64 .add 62 63 [1,2],oA 65 (.slc false true false 1) [.t 61,.t 64] [0,3],mv 66 14,mv 67 2,mv 68 10,bn 69 .add 67 68 [6,7],oA 70 (.slc true false false 1) [.t 66,.t 69] [5,8],kl 71 59 [.t 70] [9],oA 72 (.bsl 1 [I 0] 1 [0]) [ci 1],oA 73 (.app 1 8) [.t 71,.t 72] [10,11,10],mv 15 65 [4,12,0,1,2,3,4],mv 16 73 [12,13,0,1,2,3,4,5,6,7,8,9,10,11,12,13]] true).seq
 ((rg [oA 75 (.load 1 true) [.t 3],mv 76 15,mv 77 16,kl 78 123 [.t 75,.t 76,.t 77] [0,1,2],mv 74 78 [3],xt 79 0 74 [4],xt 80 1 74 [4],xt 81 2 74 [4],mv 17 79 [5,3,0,1,2,3,4,5],mv 18 80 [6,8,0,1,2,3,4,5,6,8],mv 13 81 [7,9,0,1,2,3,4,5,6,7,8,9]] false).seq
 (((rg [mv 82 13,oA 83 (.bin .neq) [.t 82,ci 0] [0],mv 84 83 [1],mg 85 18 [2] 2 84 false,oG 86 .len [.t 85] [3,2] 2 84 false,oG 87 (.bin .gtr) [.t 86,ci 0] [4,2] 2 84 false,oA 88 .pick [.t 84,cb true,.t 87] [2,5],mv 89 88 [6,2],mg 90 17 [7] 7 89 false,oG 91 .len [.t 90] [8,7] 7 89 false,mg 92 2 [7] 7 89 false,oG 93 (.bin .gtr) [.t 91,.t 92] [9,10,7] 7 89 false,oA 94 .pick [.t 89,cb true,.t 93] [7,11]] false).seq
 (AC.cond (.t 94) ((rg [oA 95 (.build [V.nl 1,V.nl 1] []) [],oA 96 (.ldg 0) [],oZ (.store 2) [.t 6,.t 95] [0,0],mv 7 96 [1,2,0,1,2]] true).seq AC.ret) AC.skip)).seq
 ((rg [mv 97 17,fa 98 0 3,ld 99 98 [1],mv 100 1,mv 101 17,kl 102 124 [.t 99,.t 100,.t 101] [2,3,4],oA 103 (.build [V.nl 1,V.nl 1] [(0,1),(1,1)]) [.t 97,.t 102] [0,5],oA 19 (.alloc [V.nl 1,V.nl 1]) [],oZ (.store 2) [.t 19,.t 103] [7,6,5,0,1,2,3,4,5,6,7]] false).seq
 (((rg [fa 104 1 19,ld 105 104 [0],oA 106 .len [.t 105] [1],mv 107 10,bn 108 .gtr 106 107 [2,3]] false).seq
 (AC.cond (.t 108) ((rg [oA 109 (.build [V.nl 1,V.nl 1] []) [],oA 110 (.ldg 0) [],oZ (.store 2) [.t 6,.t 109] [0,0],mv 7 110 [1,2,0,1,2]] true).seq AC.ret) AC.skip)).seq
 ((rg [oA 111 (.load 2 true) [.t 19],oZ (.store 2) [.t 6,.t 111] [0,0],oA 7 .mov [AV.c (V.d (D.at Value.nilIface))] [1,0,1]] false).seq AC.ret))))))))))))
def R79':List RV:=[.c 6 2 true,.t 7]
theorem G79':GoT Tryz.f101.ntmps 101 A79' R79':=goT [] Tryz.func101
def A80':AC :=
 (rg [oA 2 .mov [ci 0]] false).seq
 (((rg [mv 5 0,oA 6 (.ifn false) [.t 5,AV.c (V.d (D.at Value.nilIface))] [0]] false).seq
 (AC.cond (.t 6) ((rg [oA 2 .mov [ci 0]] false).seq AC.ret) AC.skip)).seq
 (((rg [mv 8 0,oA 9 .bad [] [0],mv 7 9 [1],xt 10 0 7 [2],xt 11 1 7 [2],oA 3 (.alloc [I 0]) [],oZ (.store 1) [.t 3,.t 10] [5,3,0,1,2,3,5],mv 4 11 [4,6,0,1,2,3,4,5,6]] false).seq
 ((rg [mv 12 4] false).seq
 (AC.cond (.t 12) ((rg [fa 13 0 3,ld 14 13 [0],mv 2 14 [1,0,1]] false).seq AC.ret) AC.skip))).seq
 ((rg [oA 2 .mov [ci 2]] false).seq AC.ret)))
def R80':List RV:=[.t 2]
theorem G80':GoT Tryz.f103.ntmps 103 A80' R80':=goT [] Tryz.func103
def A81':AC :=
 (rg [oA 6 .mov [ci 0]] false).seq
 ((rg [mv 7 1,mv 8 2,bn 9 .add 7 8 [0,1],mv 10 0,bn 11 .rem 9 10 [2,3],mv 6 11 [4,0,1,2,3,4]] false).seq AC.ret)
def R81':List RV:=[.t 6]
theorem G81':GoT Tryz.f79.ntmps 79 A81' R81':=goT [] Tryz.func79
def A82':AC :=
 (rg [oA 6 .mov [ci 0]] false).seq
 ((rg [mv 7 1,mv 8 2,bn 9 .mul 7 8 [0,1],mv 10 0,bn 11 .rem 9 10 [2,3],mv 6 11 [4,0,1,2,3,4]] false).seq AC.ret)
def R82':List RV:=[.t 6]
theorem G82':GoT Tryz.f80.ntmps 80 A82' R82':=goT [] Tryz.func80
def A83':AC :=
 (rg [mv 8 1,oA 9 (.bin .add) [.t 8,ci 1] [0],mv 6 9 [1,0,1]] false).seq
 (AC.block 0 (((rg [mv 10 6,mv 11 2,bn 12 .lss 10 11 [0,1]] false).seq
 (AC.cond (.t 12) AC.skip (AC.exit 0))).seq
 ((AC.block 1 ((rg [mv 15 6,mv 7 15 [0,0]] false).seq
 (AC.block 2 (((rg [mv 16 7,mv 17 1,bn 18 .gtr 16 17 [0,1],mv 19 18 [2],mg 20 0 [3] 3 19 true,mg 21 7 [3] 3 19 true,oG 22 (.iad 1) [.t 20,.t 21] [4,5,3] 3 19 true,oG 23 (.load 1 false) [.t 22] [6,3] 3 19 true,mg 24 0 [3] 3 19 true,mg 25 7 [3] 3 19 true,oG 26 (.bin .sub) [.t 25,ci 1] [9,3] 3 19 true,oG 27 (.iad 1) [.t 24,.t 26] [8,10,3] 3 19 true,oG 28 (.load 1 false) [.t 27] [11,3] 3 19 true,oG 29 (.call 112) [.t 23,.t 28] [7,12,3,3] 3 19 true,oA 30 .pick [.t 19,.t 29,cb false] [3,13]] true).seq
 (AC.cond (.t 30) AC.skip (AC.exit 2))).seq
 ((AC.block 3 (rg [mv 33 0,mv 34 7,mv 35 0,mv 36 7,oA 37 (.bin .sub) [.t 36,ci 1] [3],mv 38 0,mv 39 7,oA 40 (.bin .sub) [.t 39,ci 1] [6],oA 41 (.iad 1) [.t 38,.t 40] [5,7],ld 42 41 [8],mv 43 0,mv 44 7,oA 45 (.iad 1) [.t 43,.t 44] [10,11],ld 46 45 [12],oA 47 (.iad 1) [.t 33,.t 34] [0,1,0,1,5,6,7,8,9,13],oZ (.store 1) [.t 47,.t 42] [14,9,0,1,5,6,7,8,9,13],oA 48 (.iad 1) [.t 35,.t 37] [2,4,0,1,2,3,4,5,6,7,8,9,10,11,12,13,14,15],oZ (.store 1) [.t 48,.t 46] [16,13,15,0,1,2,3,4,5,6,7,8,9,10,11,12,13,14,15]] true)).seq
 (rg [mv 31 7,oA 32 (.bin .sub) [.t 31,ci 1] [0],mv 7 32 [1,0,1]] false))).loop))).seq
 (rg [mv 13 6,oA 14 (.bin .add) [.t 13,ci 1] [0],mv 6 14 [1,0,1]] false))).loop)
def R83':List RV:=[]
theorem G83':GoT Tryz.f106.ntmps 106 A83' R83':=goT [] Tryz.func106
def A84':AC :=
 (rg [oA 4 .mov [cb false]] false).seq
 ((rg [mv 5 0,kl 6 132 [.t 5] [0],mv 7 6 [1,1],mg 8 1 [2] 2 7 true,oG 9 (.call 132) [.t 8] [3,2,2] 2 7 true,oG 10 (.un .not) [.t 9] [4,2] 2 7 true,oA 11 .pick [.t 7,.t 10,cb false] [2,5],mv 12 11 [6,4],mg 13 0 [7] 7 12 false,mg 14 1 [7] 7 12 false,oG 15 (.bin .lss) [.t 13,.t 14] [8,9,7] 7 12 false,oA 16 .pick [.t 12,cb true,.t 15] [7,10],mv 4 16 [11,7,0,1,2,3,4,5,6,7,8,9,10,11]] false).seq AC.ret)
def R84':List RV:=[.t 4]
theorem G84':GoT Tryz.f112.ntmps 112 A84' R84':=goT [] Tryz.func112
def A85':AC :=
 (rg [oA 2 .mov [ci 0]] false).seq
 (((rg [mv 3 0,oA 4 (.bin .geq) [.t 3,AV.c (V.d (D.at (Value.int .u64 4294967296)))] [0]] false).seq
 (AC.cond (.t 4) ((rg [mv 5 0,oA 6 (.bin .shr) [.t 5,AV.c (V.d (D.at (Value.int .u64 32)))] [0],mv 0 6 [1,0,1]] false).seq
 (rg [oA 2 .mov [ci 32]] false)) AC.skip)).seq
 (((rg [mv 7 0,oA 8 (.bin .geq) [.t 7,AV.c (V.d (D.at (Value.int .u64 65536)))] [0]] false).seq
 (AC.cond (.t 8) ((rg [mv 9 0,oA 10 (.bin .shr) [.t 9,AV.c (V.d (D.at (Value.int .u64 16)))] [0],mv 0 10 [1,0,1]] false).seq
 (rg [mv 11 2,oA 12 (.bin .add) [.t 11,ci 16] [0],mv 2 12 [1,0,1]] false)) AC.skip)).seq
 (((rg [mv 13 0,oA 14 (.bin .geq) [.t 13,AV.c (V.d (D.at (Value.int .u64 256)))] [0]] false).seq
 (AC.cond (.t 14) ((rg [mv 15 0,oA 16 (.bin .shr) [.t 15,AV.c (V.d (D.at (Value.int .u64 8)))] [0],mv 0 16 [1,0,1]] false).seq
 (rg [mv 17 2,oA 18 (.bin .add) [.t 17,ci 8] [0],mv 2 18 [1,0,1]] false)) AC.skip)).seq
 ((rg [mv 19 2,mv 20 0,oA 21 (.conv .u8) [.t 20] [1],oA 22 .ixs [AV.c (V.d (D.at (Value.string ⟨#[0,1,2,2,3,3,3,3,4,4,4,4,4,4,4,4,5,5,5,5,5,5,5,5,5,5,5,5,5,5,5,5,6,6,6,6,6,6,6,6,6,6,6,6,6,6,6,6,6,6,6,6,6,6,6,6,6,6,6,6,6,6,6,6,7,7,7,7,7,7,7,7,7,7,7,7,7,7,7,7,7,7,7,7,7,7,7,7,7,7,7,7,7,7,7,7,7,7,7,7,7,7,7,7,7,7,7,7,7,7,7,7,7,7,7,7,7,7,7,7,7,7,7,7,7,7,7,7,8,8,8,8,8,8,8,8,8,8,8,8,8,8,8,8,8,8,8,8,8,8,8,8,8,8,8,8,8,8,8,8,8,8,8,8,8,8,8,8,8,8,8,8,8,8,8,8,8,8,8,8,8,8,8,8,8,8,8,8,8,8,8,8,8,8,8,8,8,8,8,8,8,8,8,8,8,8,8,8,8,8,8,8,8,8,8,8,8,8,8,8,8,8,8,8,8,8,8,8,8,8,8,8,8,8,8,8,8,8,8,8,8,8,8,8,8,8,8,8,8,8,8,8,8,8,8,8]⟩))),.t 21] [2],oA 23 (.conv .i64) [.t 22] [3],bn 24 .add 19 23 [0,4],mv 2 24 [5,0,1,2,3,4,5]] false).seq AC.ret))))
def R85':List RV:=[.t 2]
theorem G85':GoT Tryz.f116.ntmps 116 A85' R85':=goT [] Tryz.func116
def A86':AC :=
 (rg [oA 3 .box [.t 0],oA 6 .mov [AV.c (V.nl 1)],oA 7 .mov [ci 0] [1]] false).seq
 ((rg [oA 12 (.load 1 true) [.t 3],mv 13 1,kl 14 133 [.t 12,.t 13] [0,1],mv 11 14 [2],xt 15 0 11 [3],xt 16 1 11 [3],xt 17 2 11 [3],mv 8 15 [4,2,0,1,2,3,4],mv 9 16 [5,7,0,1,2,3,4,5,7],mv 10 17 [6,8,0,1,2,3,4,5,6,7,8]] false).seq
 ((AC.block 0 ((rg [mv 19 10,oA 20 (.bin .neq) [.t 19,ci 0] [0],mv 18 20 [1]] false).seq
 (AC.cond (.t 18) ((rg [mv 21 10,oA 6 .mov [AV.c (V.nl 1)],mv 7 21 [0,1,0,1]] false).seq AC.ret) ((rg [mv 23 2,oA 24 (.bin .lss) [.t 23,ci 1] [0],mv 25 24 [1],mg 26 2 [2] 2 25 false,mg 27 1 [2] 2 25 false,oG 28 .len [.t 27] [4,2] 2 25 false,oG 29 (.bin .gtr) [.t 26,.t 28] [3,5,2] 2 25 false,oA 30 .pick [.t 25,cb true,.t 29] [2,6],mv 22 30 [7,2]] false).seq
 (AC.cond (.t 22) ((rg [oA 6 .mov [AV.c (V.nl 1)],oA 7 .mov [ci 1] [0,0]] false).seq AC.ret) ((rg [mv 32 9,mv 33 2,bn 34 .lss 32 33 [0,1],mv 31 34 [2]] false).seq
 (AC.cond (.t 31) ((rg [oA 6 .mov [AV.c (V.nl 1)],oA 7 .mov [ci 11] [0,0]] false).seq AC.ret) AC.skip))))))).seq
 ((rg [oA 35 (.load 1 true) [.t 3],mv 36 1,mv 37 2,kl 38 135 [.t 36,.t 37] [1,2],kl 39 134 [.t 35,.t 38] [0,3,3],xt 40 0 39 [4],xt 41 1 39 [4],mv 6 40 [5,4,0,1,2,3,4,5,6],mv 7 41 [6,7,0,1,2,3,4,5,6,7]] true).seq AC.ret)))
def R86':List RV:=[.t 6,.t 7]
theorem G86':GoT Tryz.f117.ntmps 117 A86' R86':=goT [] Tryz.func117
def A87':AC :=
 (rg [oA 4 .mov [ci 0],oA 5 .mov [ci 0] [0]] false).seq
 (((rg [mv 6 1,oA 7 (.bin .lss) [.t 6,ci 1] [0],mv 8 7 [1],mg 9 0 [2] 2 8 false,oG 10 (.bin .lss) [.t 9,ci 0] [3,2] 2 8 false,oA 11 .pick [.t 8,cb true,.t 10] [2,4],mv 12 11 [5,2],mg 13 0 [6] 6 12 false,oG 14 (.bin .gtr) [.t 13,ci 32] [7,6] 6 12 false,oA 15 .pick [.t 12,cb true,.t 14] [6,8]] false).seq
 (AC.cond (.t 15) ((rg [oA 4 .mov [ci 0],oA 5 .mov [ci 1] [0,0]] false).seq AC.ret) AC.skip)).seq
 (((rg [mv 16 0,mv 17 1,bn 18 .lss 16 17 [0,1]] false).seq
 (AC.cond (.t 18) ((rg [oA 4 .mov [ci 0],oA 5 .mov [ci 11] [0,0]] false).seq AC.ret) AC.skip)).seq
 ((rg [mv 19 0,mv 20 1,bn 21 .sub 19 20 [0,1],oA 22 (.bin .quo) [.t 21,ci 2] [2],mv 4 22 [3,0,1,2,3],oA 5 .mov [ci 0] [4,0,1,2,3,4]] false).seq AC.ret)))
def R87':List RV:=[.t 4,.t 5]
theorem G87':GoT Tryz.f119.ntmps 119 A87' R87':=goT [] Tryz.func119
def A88':AC :=
 (rg [oA 2 .mov [ci 0]] false).seq
 ((rg [oA 3 .mov [ci 0]] false).seq
 (((rg [mv 6 0,oA 7 .len [.t 6] [0],oA 8 .mov [ci 0]] false).seq
 (AC.block 0 ((rg [bn 9 .lss 8 7] false).seq
 ((AC.cond (.t 9) AC.skip (AC.exit 0)).seq
 ((AC.block 1 ((rg [oA 10 (.iad 2) [.t 6,.t 8],oA 11 (.load 2 true) [.t 10] [0],oA 5 (.alloc [I 0,B false]) [],oZ (.store 2) [.t 5,.t 11] [2,1,0,1,2]] false).seq
 ((rg [fa 12 1 5,ld 13 12 [0]] false).seq
 (AC.cond (.t 13) (rg [mv 14 3,oA 15 (.bin .add) [.t 14,ci 1] [0],mv 3 15 [1,0,1]] false) AC.skip)))).seq
 (rg [oA 16 (.bin .add) [.t 8,ci 1],mv 8 16 [0]] false)))).loop)).seq
 ((rg [mv 17 3,mv 2 17 [0,0]] false).seq AC.ret)))
def R88':List RV:=[.t 2]
theorem G88':GoT Tryz.f120.ntmps 120 A88' R88':=goT [] Tryz.func120
def A89':AC :=
 (rg [oA 4 .box [.t 0],oA 8 (.alloc [I 0,I 0,I 0,V.nl 1,V.nl 1]) [],oA 9 .mov [ci 0]] false).seq
 (((rg [oA 21 (.load 1 true) [.t 4],mv 22 1,mv 23 2,kl 24 117 [.t 21,.t 22,.t 23] [0,1,2],mv 20 24 [3],xt 25 0 20 [4],xt 26 1 20 [4],mv 10 25 [5,3,0,1,2,3,4,5],mv 11 26 [6,7,0,1,2,3,4,5,6,7]] false).seq
 ((rg [mv 27 11,oA 28 (.bin .neq) [.t 27,ci 0] [0],mv 29 28 [1],mg 30 11 [2] 2 29 true,oG 31 (.bin .neq) [.t 30,ci 11] [3,2] 2 29 true,oA 32 .pick [.t 29,.t 31,cb false] [2,4]] false).seq
 (AC.cond (.t 32) ((rg [oA 33 (.build [I 0,I 0,I 0,V.nl 1,V.nl 1] []) [],mv 34 11,oZ (.store 5) [.t 8,.t 33] [0,0],mv 9 34 [1,2,0,1,2]] false).seq AC.ret) AC.skip))).seq
 (((rg [mv 35 3,oA 36 (.bin .lss) [.t 35,ci 0] [0],mv 37 36 [1],mg 38 3 [2] 2 37 false,oG 39 (.bin .gtr) [.t 38,ci 32] [3,2] 2 37 false,oA 40 .pick [.t 37,cb true,.t 39] [2,4],mv 41 40 [5,2],mg 42 2 [6] 6 41 false,mg 43 3 [6] 6 41 false,oG 44 (.bin .mul) [ci 2,.t 43] [8,6] 6 41 false,oG 45 (.bin .add) [.t 42,.t 44] [7,9,6] 6 41 false,oG 46 (.bin .gtr) [.t 45,ci 32] [10,6] 6 41 false,oA 47 .pick [.t 41,cb true,.t 46] [6,11]] false).seq
 (AC.cond (.t 47) ((rg [oA 48 (.build [I 0,I 0,I 0,V.nl 1,V.nl 1] []) [],oZ (.store 5) [.t 8,.t 48] [0,0],oA 9 .mov [ci 1] [1,0,1]] false).seq AC.ret) AC.skip)).seq
 ((rg [fa 49 0 4,ld 50 49 [0],mv 12 50 [1,0,1]] false).seq
 ((rg [oA 51 (.load 1 true) [.t 4],mv 52 2,mv 53 3,oA 54 (.bin .mul) [ci 2,.t 53] [2],bn 55 .add 52 54 [1,3],oA 56 (.build [I 0,I 0,I 0,V.nl 1,V.nl 1] [(0,1),(2,1)]) [.t 51,.t 55] [0,4],oA 13 (.alloc [I 0,I 0,I 0,V.nl 1,V.nl 1]) [],oZ (.store 5) [.t 13,.t 56] [6,5,0,1,2,3,4,5,6]] false).seq
 (((rg [mv 57 1,oA 58 .len [.t 57] [0],oA 59 .mov [ci 0]] false).seq
 (AC.block 0 ((rg [bn 60 .lss 59 58] false).seq
 ((AC.cond (.t 60) AC.skip (AC.exit 0)).seq
 ((AC.block 1 ((rg [mv 61 59,oA 62 (.iad 2) [.t 57,.t 59],oA 63 (.load 2 true) [.t 62] [1],oA 15 (.alloc [I 0,B false]) [],mv 14 61 [0,0,1,2,3],oZ (.store 2) [.t 15,.t 63] [3,2,4,0,1,2,3,4]] false).seq
 (((rg [fa 64 1 15,ld 65 64 [0],oA 66 (.un .not) [.t 65] [1]] false).seq
 (AC.cond (.t 66) (AC.exit 1) AC.skip)).seq
 ((rg [oA 16 .mov [ci 1]] false).seq
 ((rg [oA 17 .mov [AV.c (V.nl 1)]] false).seq
 (((rg [mv 67 2,mv 68 3,bn 69 .add 67 68 [0,1],oA 70 (.bin .add) [.t 69,ci 1] [2],oA 71 .mov [ci 0]] false).seq
 (AC.block 2 ((rg [bn 72 .lss 71 70] false).seq
 ((AC.cond (.t 72) AC.skip (AC.exit 2)).seq
 ((AC.block 3 ((rg [mv 73 17,mv 74 16,oA 75 (.bsl 1 [I 0] 1 [0]) [.t 74] [1],oA 76 (.app 1 8) [.t 73,.t 75] [0,2],mv 17 76 [3,3,0,1,2,3]] false).seq
 (rg [mv 77 12,mv 78 16,mv 79 14,oA 80 (.bin .add) [.t 79,ci 1] [2],kl 81 80 [.t 77,.t 78,.t 80] [0,1,3],mv 16 81 [4,4,0,1,2,3,4]] false))).seq
 (rg [oA 82 (.bin .add) [.t 71,ci 1],mv 71 82 [0]] false)))).loop)).seq
 ((rg [fa 83 3 13,ld 84 83 [0],mv 85 17,mv 86 2,mv 87 3,bn 88 .add 86 87 [3,4],oA 89 (.slc false true false 1) [.t 85,.t 88] [2,5],oA 90 (.app 1 8) [.t 84,.t 89] [1,6],fa 91 3 13 [0,1,2,3,4,5,6,7],oZ (.store 1) [.t 91,.t 90] [8,7,7,0,1,2,3,4,5,6,7]] true).seq
 (((rg [mv 92 17,mv 93 3,oA 94 (.slc false true false 1) [.t 92,.t 93] [0,1],oA 95 .len [.t 94] [2],oA 96 .mov [ci 0]] false).seq
 (AC.block 4 ((rg [bn 97 .lss 96 95] false).seq
 ((AC.cond (.t 97) AC.skip (AC.exit 4)).seq
 ((AC.block 5 ((rg [oA 98 (.iad 1) [.t 94,.t 96],ld 99 98 [0],mv 19 99 [1,0,1]] false).seq
 (rg [fa 100 3 13,ld 101 100 [0],mv 102 12,mv 103 12,fa 104 0 15,ld 105 104 [4],mv 106 19,kl 107 80 [.t 103,.t 105,.t 106] [3,5,6],kl 108 136 [.t 102,ci 0,.t 107] [2,7,7],oA 109 (.bsl 1 [I 0] 1 [0]) [.t 108] [8],oA 110 (.app 1 8) [.t 101,.t 109] [1,9,8],fa 111 3 13 [0,1,2,3,4,5,6,7,8,9,10],oZ (.store 1) [.t 111,.t 110] [11,10,10,0,1,2,3,4,5,6,7,8,9,10]] true))).seq
 (rg [oA 112 (.bin .add) [.t 96,ci 1],mv 96 112 [0]] false)))).loop)).seq
 ((rg [fa 113 4 13,ld 114 113 [0],mv 115 12,fa 116 0 15,ld 117 116 [3],mv 118 17,mv 119 3,oA 120 (.iad 1) [.t 118,.t 119] [5,6],ld 121 120 [7],kl 122 80 [.t 115,.t 117,.t 121] [2,4,8],oA 123 (.bsl 1 [I 0] 1 [0]) [.t 122] [9],oA 124 (.app 1 8) [.t 114,.t 123] [1,10,9],fa 125 4 13 [0,1,2,3,4,5,6,7,8,9,10,11],oZ (.store 1) [.t 125,.t 124] [12,11,11,0,1,2,3,4,5,6,7,8,9,10,11]] true).seq
 (rg [fa 126 1 13,ld 127 126 [0],oA 128 (.bin .add) [.t 127,ci 1] [1],fa 129 1 13 [0,1,2],oZ (.store 1) [.t 129,.t 128] [3,2,0,1,2]] false)))))))))).seq
 (rg [oA 130 (.bin .add) [.t 59,ci 1],mv 59 130 [0]] false)))).loop)).seq
 ((rg [oA 131 (.load 5 true) [.t 13],oZ (.store 5) [.t 8,.t 131] [0,0],oA 9 .mov [ci 0] [1,0,1]] false).seq AC.ret))))))
def R89':List RV:=[.c 8 5 true,.t 9]
theorem G89':GoT Tryz.f121.ntmps 121 A89' R89':=goT [] Tryz.func121
def A90':AC :=
 (rg [oA 1 .box [.t 0],oA 2 .mov [AV.c (V.nl 1)],oA 3 .mov [ci 0] [1]] false).seq
 (((rg [oA 9 (.load 5 true) [.t 1],kl 10 137 [.t 9] [0],mv 4 10 [1,1,0,1]] false).seq
 ((rg [mv 11 4,oA 12 (.bin .neq) [.t 11,ci 0] [0]] false).seq
 (AC.cond (.t 12) ((rg [mv 13 4,oA 2 .mov [AV.c (V.nl 1)],mv 3 13 [0,1,0,1]] false).seq AC.ret) AC.skip))).seq
 ((rg [oA 14 (.load 5 true) [.t 1],kl 15 138 [.t 14] [0],mv 5 15 [1,1,0,1]] false).seq
 (((rg [mv 16 5,kl 17 139 [.t 16] [0],oA 18 (.un .not) [.t 17] [1]] false).seq
 (AC.cond (.t 18) ((rg [oA 2 .mov [AV.c (V.nl 1)],oA 3 .mov [ci 6] [0,0]] false).seq AC.ret) AC.skip)).seq
 ((rg [fa 19 2 1,ld 20 19 [0],oA 21 (.mks 1 [I 0] 8) [.t 20,.t 20] [1,1],mv 6 21 [2,0,1,2]] false).seq
 (((rg [mv 22 6,oA 23 .len [.t 22] [0],oA 24 .mov [ci 0]] false).seq
 (AC.block 0 ((rg [bn 25 .lss 24 23] false).seq
 ((AC.cond (.t 25) AC.skip (AC.exit 0)).seq
 ((AC.block 1 ((rg [mv 26 24,mv 7 26 [0,0]] false).seq
 ((rg [mv 27 5,mv 28 7,oA 29 .nck [.t 27] [0],fa 30 4 29 [2],oA 31 (.iada 32 1) [.t 30,.t 28] [3,1],ld 32 31 [4],mv 8 32 [5,0,1,2,3,4,5]] false).seq
 ((rg [mv 33 8,oA 34 (.bin .gtr) [.t 33,ci 0] [0]] false).seq
 (AC.cond (.t 34) (rg [mv 35 6,mv 36 7,mv 37 5,oA 38 .nck [.t 37] [2],fa 39 2 38 [3],ld 40 39 [4],mv 41 8,oA 42 (.bin .sub) [.t 41,ci 1] [6],oA 43 (.iad 1) [.t 40,.t 42] [5,7],ld 44 43 [8],fa 45 2 1,ld 46 45 [10],oA 47 (.iad 1) [.t 44,.t 46] [9,11],ld 48 47 [12],oA 49 (.iad 1) [.t 35,.t 36] [0,1,0,1,2,3,4,5,6,7,8,9,10,11,12,13],oZ (.store 1) [.t 49,.t 48] [14,13,0,1,2,3,4,5,6,7,8,9,10,11,12,13]] true) AC.skip))))).seq
 (rg [oA 50 (.bin .add) [.t 24,ci 1],mv 24 50 [0]] false)))).loop)).seq
 ((rg [mv 51 6,mv 2 51 [0,0],oA 3 .mov [ci 0] [1,0,1]] false).seq AC.ret))))))
def R90':List RV:=[.t 2,.t 3]
theorem G90':GoT Tryz.f122.ntmps 122 A90' R90':=goT [] Tryz.func122
def A91':AC :=
 (rg [oA 3 .box [.t 0],oA 6 .mov [AV.c (V.nl 1)],oA 7 .mov [AV.c (V.nl 1)] [1],oA 8 .mov [ci 0] [2]] false).seq
 ((rg [oA 18 (.load 1 true) [.t 3],mv 19 1,mv 20 2,oA 21 (.bsl 1 [V.nl 1] 2 [0,1]) [.t 19,.t 20] [1,2],kl 22 140 [.t 18,.t 21] [0,3],mv 17 22 [4],xt 23 0 17 [5],xt 24 1 17 [5],mv 9 23 [6,4,0,1,2,3,4,5,6],mv 10 24 [7,8,0,1,2,3,4,5,6,7,8]] false).seq
 (((rg [mv 25 10,oA 26 (.bin .neq) [.t 25,ci 0] [0]] false).seq
 (AC.cond (.t 26) ((rg [mv 27 10,oA 6 .mov [AV.c (V.nl 1)],oA 7 .mov [AV.c (V.nl 1)] [1,1],mv 8 27 [0,2,0,1,2]] false).seq AC.ret) AC.skip)).seq
 ((rg [mv 28 1,kl 29 141 [.t 28] [0],mv 30 2,kl 31 142 [.t 30] [2,1],mv 11 29 [1,3,0,1],mv 2 31 [3,4,0,1,2,3,4]] false).seq
 ((rg [mv 32 2,oA 33 .len [.t 32] [0],mv 12 33 [1,0,1]] false).seq
 (((rg [mv 34 12,oA 35 (.bin .eql) [.t 34,ci 0] [0]] false).seq
 (AC.cond (.t 35) ((rg [oA 6 .mov [AV.c (V.nl 1)],oA 7 .mov [AV.c (V.nl 1)] [0,0],oA 8 .mov [ci 10] [1,0,1]] false).seq AC.ret) AC.skip)).seq
 ((rg [mv 36 11,oA 37 .len [.t 36] [0],mv 38 12,bn 39 .sub 37 38 [1,2],oA 40 (.bin .add) [.t 39,ci 1] [3],oA 41 .mx [ci 0,.t 40] [4],oA 42 (.mks 1 [I 0] 8) [.t 41,.t 41] [5,5],mv 13 42 [6,0,1,2,3,4,5,6]] false).seq
 ((rg [mv 43 9,mv 44 2,mv 45 12,oA 46 (.bin .sub) [.t 45,ci 1] [2],oA 47 (.iad 1) [.t 44,.t 46] [1,3],ld 48 47 [4],kl 49 143 [.t 43,.t 48] [0,5],mv 14 49 [6,6,0,1,2,3,4,5,6]] false).seq
 ((AC.block 0 (((rg [mv 50 11,oA 51 .len [.t 50] [0],mv 52 12,bn 53 .geq 51 52 [1,2]] false).seq
 (AC.cond (.t 53) AC.skip (AC.exit 0))).seq
 (AC.block 1 ((rg [mv 54 11,oA 55 .len [.t 54] [0],mv 56 12,bn 57 .sub 55 56 [1,2],mv 15 57 [3,0,1,2,3]] false).seq
 ((rg [mv 58 9,mv 59 11,mv 60 11,oA 61 .len [.t 60] [2],oA 62 (.bin .sub) [.t 61,ci 1] [3],oA 63 (.iad 1) [.t 59,.t 62] [1,4],ld 64 63 [5],mv 65 14,kl 66 80 [.t 58,.t 64,.t 65] [0,6,7],mv 16 66 [8,8,0,1,2,3,4,5,6,7,8]] false).seq
 ((rg [mv 67 13,mv 68 15,mv 69 16,oA 70 (.iad 1) [.t 67,.t 68] [0,1,0,1,2],oZ (.store 1) [.t 70,.t 69] [3,2,0,1,2]] false).seq
 ((rg [mv 71 9,mv 72 11,mv 73 15,oA 74 (.tail 1) [.t 72,.t 73] [1,2],mv 75 9,mv 76 16,kl 77 136 [.t 75,ci 0,.t 76] [4,5],mv 78 2,kl 79 48 [.t 71,.t 74,.t 77,.t 78] [0,3,6,7,6]] true).seq
 (rg [mv 80 11,mv 81 11,oA 82 .len [.t 81] [1],oA 83 (.bin .sub) [.t 82,ci 1] [2],mv 84 11,oA 85 .len [.t 84] [4],oA 86 (.bin .sub) [.t 85,ci 1] [5],oA 87 (.cutm 1) [.t 80,.t 83,.t 86] [0,3,6],kl 88 142 [.t 87] [7],mv 11 88 [8,8,0,1,2,3,4,5,6,7,8]] false))))))).loop).seq
 ((rg [mv 89 13,kl 90 141 [.t 89] [0],mv 91 11,kl 92 141 [.t 91] [2,1],mv 6 90 [1,3,0,1],mv 7 92 [3,4,0,1,2,3,4],oA 8 .mov [ci 0] [5,0,1,2,3,4,5]] false).seq AC.ret)))))))))
def R91':List RV:=[.t 6,.t 7,.t 8]
theorem G91':GoT Tryz.f123.ntmps 123 A91' R91':=goT [74,87] Tryz.func123
def A92':AC :=
 (rg [oA 6 .mov [AV.c (V.nl 1)]] false).seq
 ((rg [oA 7 .mov [AV.c (V.nl 1)]] false).seq
 (((rg [mv 10 1,oA 11 .len [.t 10] [0],oA 12 .mov [ci 0]] false).seq
 (AC.block 0 ((rg [bn 13 .lss 12 11] false).seq
 ((AC.cond (.t 13) AC.skip (AC.exit 0)).seq
 ((AC.block 1 ((rg [mv 14 12,oA 15 (.iad 2) [.t 10,.t 12],oA 16 (.load 2 true) [.t 15] [1],oA 9 (.alloc [I 0,B false]) [],mv 8 14 [0,0,1,2,3],oZ (.store 2) [.t 9,.t 16] [3,2,4,0,1,2,3,4]] false).seq
 ((rg [fa 17 1 9,ld 18 17 [0],mv 19 18 [1],mg 20 0 [2] 2 19 true,mg 21 2 [2] 2 19 true,mg 22 8 [2] 2 19 true,oG 23 (.bin .add) [.t 22,ci 1] [5,2] 2 19 true,oG 24 (.call 47) [.t 20,.t 21,.t 23] [3,4,6,2,2] 2 19 true,oG 25 (.fad 0) [.t 9] [2] 2 19 true,oG 26 (.load 1 false) [.t 25] [8,2] 2 19 true,oG 27 (.bin .neq) [.t 24,.t 26] [7,9,2] 2 19 true,oA 28 .pick [.t 19,.t 27,cb false] [2,10]] true).seq
 (AC.cond (.t 28) (rg [mv 29 7,mv 30 8,oA 31 (.bin .add) [.t 30,ci 1] [1],oA 32 (.bsl 1 [I 0] 1 [0]) [.t 31] [2],oA 33 (.app 1 8) [.t 29,.t 32] [0,3],mv 7 33 [4,4,0,1,2,3,4]] false) AC.skip)))).seq
 (rg [oA 34 (.bin .add) [.t 12,ci 1],mv 12 34 [0]] false)))).loop)).seq
 ((rg [mv 35 7,mv 6 35 [0,0]] false).seq AC.ret)))
def R92':List RV:=[.t 6]
theorem G92':GoT Tryz.f124.ntmps 124 A92' R92':=goT [] Tryz.func124
def A93':AC :=
 (rg [oA 2 .mov [cb false]] false).seq
 ((rg [mv 3 0,mv 4 0,bn 5 .neq 3 4 [0,1],mv 2 5 [2,0,1,2]] false).seq AC.ret)
def R93':List RV:=[.t 2]
theorem G93':GoT Tryz.f132.ntmps 132 A93' R93':=goT [] Tryz.func132
def A94':AC :=
 (rg [oA 2 .box [.t 0],oA 4 .mov [AV.c (V.nl 1)],oA 5 .mov [ci 0] [1]] false).seq
 ((rg [oA 6 .mov [AV.c (V.nl 1)],oA 7 .mov [AV.c (V.nl 1)] [0]] false).seq
 (((rg [mv 21 1,oA 22 .len [.t 21] [0],oA 23 .mov [ci 0]] false).seq
 (AC.block 0 ((rg [bn 24 .lss 23 22] false).seq
 ((AC.cond (.t 24) AC.skip (AC.exit 0)).seq
 ((AC.block 1 ((rg [oA 25 (.iad 2) [.t 21,.t 23],oA 26 (.load 2 true) [.t 25] [0],oA 9 (.alloc [I 0,I 0]) [],oZ (.store 2) [.t 9,.t 26] [2,1,0,1,2]] false).seq
 (rg [mv 27 6,fa 28 0 9,ld 29 28 [1],oA 30 (.bsl 1 [I 0] 1 [0]) [.t 29] [2],oA 31 (.app 1 8) [.t 27,.t 30] [0,3],mv 32 7,fa 33 1 9,ld 34 33 [6],oA 35 (.bsl 1 [I 0] 1 [0]) [.t 34] [7],oA 36 (.app 1 8) [.t 32,.t 35] [5,8,4],mv 6 31 [4,9,0,1,2,3,4],mv 7 36 [9,10,0,1,2,3,4,5,6,7,8,9,10]] true))).seq
 (rg [oA 37 (.bin .add) [.t 23,ci 1],mv 23 37 [0]] false)))).loop)).seq
 ((rg [oA 39 (.load 1 true) [.t 2],mv 40 6,mv 41 7,oA 42 (.bsl 1 [V.nl 1] 2 [0,1]) [.t 40,.t 41] [1,2],kl 43 140 [.t 39,.t 42] [0,3],mv 38 43 [4],xt 44 0 38 [5],xt 45 1 38 [5],mv 10 44 [6,4,0,1,2,3,4,5,6],mv 11 45 [7,8,0,1,2,3,4,5,6,7,8]] false).seq
 (((rg [mv 46 11,oA 47 (.bin .neq) [.t 46,ci 0] [0]] false).seq
 (AC.cond (.t 47) ((rg [mv 48 11,oA 4 .mov [AV.c (V.nl 1)],mv 5 48 [0,1,0,1]] false).seq AC.ret) AC.skip)).seq
 ((rg [oA 49 .mkm [],mv 12 49 [0,0]] false).seq
 (((rg [mv 50 6,oA 51 .len [.t 50] [0],oA 52 .mov [ci 0]] false).seq
 (AC.block 2 ((rg [bn 53 .lss 52 51] false).seq
 ((AC.cond (.t 53) AC.skip (AC.exit 2)).seq
 ((AC.block 3 ((rg [oA 54 (.iad 1) [.t 50,.t 52],ld 55 54 [0],mv 14 55 [1,0,1]] false).seq
 (((rg [mv 56 12,mv 57 14,oA 58 .lkp [.t 56,.t 57] [0,1]] false).seq
 (AC.cond (.t 58) ((rg [oA 4 .mov [AV.c (V.nl 1)],oA 5 .mov [ci 7] [0,0]] false).seq AC.ret) AC.skip)).seq
 (rg [mv 59 12,mv 60 14,oZ .mup [.t 59,.t 60] [0,1,0,1]] false)))).seq
 (rg [oA 61 (.bin .add) [.t 52,ci 1],mv 52 61 [0]] false)))).loop)).seq
 ((rg [oA 15 .mov [AV.c (V.nl 1)]] false).seq
 ((rg [oA 62 (.bsl 1 [I 0] 1 [0]) [ci 1],mv 16 62 [0,0]] false).seq
 (((rg [mv 63 6,oA 64 .len [.t 63] [0],oA 65 .mov [ci 0]] false).seq
 (AC.block 4 ((rg [bn 66 .lss 65 64] false).seq
 ((AC.cond (.t 66) AC.skip (AC.exit 4)).seq
 ((AC.block 5 ((rg [mv 67 65,oA 68 (.iad 1) [.t 63,.t 65],ld 69 68 [1],mv 17 67 [0,0,1,2],mv 18 69 [2,3,0,1,2,3]] false).seq
 ((rg [mv 70 10,mv 71 10,mv 72 7,mv 73 17,oA 74 (.iad 1) [.t 72,.t 73] [2,3],ld 75 74 [4],mv 76 10,mv 77 15,mv 78 18,kl 79 47 [.t 76,.t 77,.t 78] [6,7,8],kl 80 136 [.t 71,.t 75,.t 79] [1,5,9,9],mv 81 10,mv 82 10,mv 83 16,mv 84 18,kl 85 47 [.t 82,.t 83,.t 84] [12,13,14,10],kl 86 143 [.t 81,.t 85] [11,15,15],kl 87 80 [.t 70,.t 80,.t 86] [0,10,16,16],mv 19 87 [17,17,0,1,2,3,4,5,6,7,8,9,10,11,12,13,14,15,16,17]] true).seq
 ((rg [mv 88 16,oA 89 .len [.t 88] [0],oA 90 (.mks 1 [I 0] 8) [.t 89,.t 89] [1,1],mv 20 90 [2,0,1,2]] false).seq
 ((rg [mv 91 20,mv 92 15,oA 93 (.cpy 1) [.t 91,.t 92] [0,1]] false).seq
 ((rg [mv 94 10,mv 95 20,mv 96 19,mv 97 16,kl 98 48 [.t 94,.t 95,.t 96,.t 97] [0,1,2,3]] false).seq
 ((rg [mv 99 20,mv 15 99 [0,0]] false).seq
 (rg [mv 100 10,mv 101 16,mv 102 10,mv 103 18,kl 104 136 [.t 102,ci 0,.t 103] [2,3],oA 105 (.bsl 1 [I 0] 2 [0,1]) [.t 104,ci 1] [4],kl 106 146 [.t 100,.t 101,.t 105] [0,1,5,4],mv 16 106 [6,6,0,1,2,3,4,5,6]] false)))))))).seq
 (rg [oA 107 (.bin .add) [.t 65,ci 1],mv 65 107 [0]] false)))).loop)).seq
 ((rg [mv 108 15,kl 109 141 [.t 108] [0],mv 4 109 [1,1,0,1],oA 5 .mov [ci 0] [2,0,1,2]] false).seq AC.ret))))))))))
def R94':List RV:=[.t 4,.t 5]
theorem G94':GoT Tryz.f134.ntmps 134 A94' R94':=goT [] Tryz.func134
def A95':AC :=
 (rg [oA 6 .mov [ci 0]] false).seq
 ((rg [mv 7 1,mv 8 2,bn 9 .sub 7 8 [0,1],mv 10 0,bn 11 .add 9 10 [2,3],mv 12 0,bn 13 .rem 11 12 [4,5],mv 6 13 [6,0,1,2,3,4,5,6]] false).seq AC.ret)
def R95':List RV:=[.t 6]
theorem G95':GoT Tryz.f136.ntmps 136 A95' R95':=goT [] Tryz.func136
def A96':AC :=
 (rg [oA 1 .box [.t 0],oA 2 .mov [ci 0]] false).seq
 ((rg [fa 6 0 1,oA 7 (.load 1 true) [.t 6] [0],kl 8 44 [.t 7] [1],mv 5 8 [2],xt 9 0 5 [3],xt 10 1 5 [3],mv 3 9 [4,2,0,1,2,3,4],mv 4 10 [5,6,0,1,2,3,4,5,6]] false).seq
 ((AC.block 0 ((rg [mv 12 4,oA 13 (.un .not) [.t 12] [0],mv 11 13 [1]] false).seq
 (AC.cond (.t 11) ((rg [oA 2 .mov [ci 9]] false).seq AC.ret) ((rg [fa 15 1 1,ld 16 15 [0],oA 17 (.bin .lss) [.t 16,ci 0] [1],mv 18 17 [2],oG 19 (.fad 1) [.t 1] [3] 3 18 false,oG 20 (.load 1 false) [.t 19] [4,3] 3 18 false,oG 21 (.bin .gtr) [.t 20,ci 32] [5,3] 3 18 false,oA 22 .pick [.t 18,cb true,.t 21] [3,6],mv 23 22 [7,3],oG 24 (.fad 2) [.t 1] [8] 8 23 false,oG 25 (.load 1 false) [.t 24] [9,8] 8 23 false,oG 26 (.bin .lss) [.t 25,ci 0] [10,8] 8 23 false,oA 27 .pick [.t 23,cb true,.t 26] [8,11],mv 28 27 [12,8],oG 29 (.fad 2) [.t 1] [13] 13 28 false,oG 30 (.load 1 false) [.t 29] [14,13] 13 28 false,oG 31 (.bin .gtr) [.t 30,ci 32] [15,13] 13 28 false,oA 32 .pick [.t 28,cb true,.t 31] [13,16],mv 14 32 [17,13]] false).seq
 (AC.cond (.t 14) ((rg [oA 2 .mov [ci 4]] false).seq AC.ret) ((rg [fa 34 3 1,ld 35 34 [0],oA 36 .len [.t 35] [1],fa 37 1 1,ld 38 37 [3],fa 39 2 1,ld 40 39 [5],bn 41 .mul 38 40 [4,6],bn 42 .neq 36 41 [2,7],mv 43 42 [8],oG 44 (.fad 4) [.t 1] [9] 9 43 false,oG 45 (.load 1 false) [.t 44] [10,9] 9 43 false,oG 46 .len [.t 45] [11,9] 9 43 false,oG 47 (.fad 1) [.t 1] [9] 9 43 false,oG 48 (.load 1 false) [.t 47] [13,9] 9 43 false,oG 49 (.bin .neq) [.t 46,.t 48] [12,14,9] 9 43 false,oA 50 .pick [.t 43,cb true,.t 49] [9,15],mv 33 50 [16,9]] false).seq
 (AC.cond (.t 33) ((rg [oA 2 .mov [ci 2]] false).seq AC.ret) ((rg [mv 52 3,fa 53 3 1,ld 54 53 [1],kl 55 46 [.t 52,.t 54] [0,2],oA 56 (.un .not) [.t 55] [3],mv 57 56 [4,3],mg 58 3 [5] 5 57 false,oG 59 (.fad 4) [.t 1] [5] 5 57 false,oG 60 (.load 1 false) [.t 59] [7,5] 5 57 false,oG 61 (.call 46) [.t 58,.t 60] [6,8,5,5] 5 57 false,oG 62 (.un .not) [.t 61] [9,5] 5 57 false,oA 63 .pick [.t 57,cb true,.t 62] [5,10],mv 51 63 [11,9]] false).seq
 (AC.cond (.t 51) ((rg [oA 2 .mov [ci 9]] false).seq AC.ret) AC.skip))))))))).seq
 ((rg [oA 2 .mov [ci 0]] false).seq AC.ret)))
def R96':List RV:=[.t 2]
theorem G96':GoT Tryz.f137.ntmps 137 A96' R96':=goT [] Tryz.func137
def A97':AC :=
 (rg [oA 1 .box [.t 0],oA 2 .mov [AV.c (V.d (D.at (Value.pointer none)))]] false).seq
 ((rg [fa 7 0 1,fa 8 0 7 [0],ld 9 8 [1],fa 10 2 1,ld 11 10 [3],oA 12 (.build [I 0,I 0,V.nl 1,I 0,I 0,I 0,I 0,I 0,I 0,I 0,I 0,I 0,I 0,I 0,I 0,I 0,I 0,I 0,I 0,I 0,I 0,I 0,I 0,I 0,I 0,I 0,I 0,I 0,I 0,I 0,I 0,I 0,I 0,I 0,I 0,I 0] [(0,1),(1,1)]) [.t 9,.t 11] [2,4],oA 13 .box [.t 12] [5],mv 3 13 [6,0,1,2,3,4,5,6]] false).seq
 (((rg [fa 14 1 1,ld 15 14 [0],oA 16 .mov [ci 0]] false).seq
 (AC.block 0 ((rg [bn 17 .lss 16 15] false).seq
 ((AC.cond (.t 17) AC.skip (AC.exit 0)).seq
 ((AC.block 1 ((rg [mv 18 16,mv 4 18 [0,0]] false).seq
 ((rg [fa 19 3 1,ld 20 19 [0],mv 21 4,fa 22 2 1,ld 23 22 [3],bn 24 .mul 21 23 [2,4],mv 25 4,oA 26 (.bin .add) [.t 25,ci 1] [6],fa 27 2 1,ld 28 27 [8],bn 29 .mul 26 28 [7,9],oA 30 (.slc true true false 1) [.t 20,.t 24,.t 29] [1,5,10],oA 31 (.app 1 8) [AV.c (V.nl 1),.t 30] [11],mv 5 31 [12,12,0,1,2,3,4,5,6,7,8,9,10,11,12]] false).seq
 (rg [mv 32 3,mv 33 3,oA 34 .nck [.t 33] [1],fa 35 2 34 [2],ld 36 35 [3],mv 37 5,fa 38 4 1,ld 39 38 [6],mv 40 4,oA 41 (.iad 1) [.t 39,.t 40] [7,8],ld 42 41 [9],oA 43 (.bsl 1 [I 0] 1 [0]) [.t 42] [10],oA 44 (.app 1 8) [.t 37,.t 43] [5,11],oA 45 (.bslv 1) [.t 44] [12],oA 46 (.app 1 24) [.t 36,.t 45] [4,13,12],oA 47 .nck [.t 32] [0,0,1,2,3,4,5,6,7,8,9,10,11,12,13,14],fa 48 2 47 [15,0,1,2,3,4,5,6,7,8,9,10,11,12,13,14],oZ (.store 1) [.t 48,.t 46] [16,14,14,0,1,2,3,4,5,6,7,8,9,10,11,12,13,14]] true)))).seq
 (rg [oA 49 (.bin .add) [.t 16,ci 1],mv 16 49 [0]] false)))).loop)).seq
 (((rg [fa 50 2 1,ld 51 50 [0],oA 52 .mov [ci 0]] false).seq
 (AC.block 2 ((rg [bn 53 .lss 52 51] false).seq
 ((AC.cond (.t 53) AC.skip (AC.exit 2)).seq
 ((AC.block 3 ((rg [mv 54 52,mv 6 54 [0,0]] false).seq
 (rg [mv 55 3,mv 56 6,kl 57 147 [.t 55,.t 56] [0,1]] false))).seq
 (rg [oA 58 (.bin .add) [.t 52,ci 1],mv 52 58 [0]] false)))).loop)).seq
 ((rg [mv 59 3,mv 2 59 [0,0]] false).seq AC.ret))))
def R97':List RV:=[.t 2]
theorem G97':GoT Tryz.f138.ntmps 138 A97' R97':=goT [45] Tryz.func138
def A98':AC :=
 (rg [oA 2 .mov [cb false]] false).seq
 (((rg [mv 5 0,oA 6 .nck [.t 5] [0],fa 7 2 6 [1],ld 8 7 [2],mv 9 0,oA 10 .nck [.t 9] [4],fa 11 3 10 [5],ld 12 11 [6],oA 13 (.slc true false false 1) [.t 8,.t 12] [3,7],oA 14 .len [.t 13] [8],oA 15 .mov [ci 0]] true).seq
 (AC.block 0 ((rg [bn 16 .lss 15 14] false).seq
 ((AC.cond (.t 16) AC.skip (AC.exit 0)).seq
 ((AC.block 1 ((rg [oA 17 (.iad 1) [.t 13,.t 15],ld 18 17 [0],mv 4 18 [1,0,1]] false).seq
 ((rg [mv 19 4,mv 20 0,oA 21 .nck [.t 20] [1],fa 22 1 21 [2],ld 23 22 [3],oA 24 (.iad 1) [.t 19,.t 23] [0,4],ld 25 24 [5],oA 26 (.bin .neq) [.t 25,ci 0] [6]] false).seq
 (AC.cond (.t 26) ((rg [oA 2 .mov [cb false]] false).seq AC.ret) AC.skip)))).seq
 (rg [oA 27 (.bin .add) [.t 15,ci 1],mv 15 27 [0]] false)))).loop)).seq
 ((rg [oA 2 .mov [cb true]] false).seq AC.ret))
def R98':List RV:=[.t 2]
theorem G98':GoT Tryz.f139.ntmps 139 A98' R98':=goT [] Tryz.func139
def A99':AC :=
 (rg [oA 2 .box [.t 0],oA 4 .mov [ci 0],oA 5 .mov [ci 0] [1]] false).seq
 ((rg [oA 12 (.load 1 true) [.t 2],kl 13 44 [.t 12] [0],mv 11 13 [1],xt 14 0 11 [2],xt 15 1 11 [2],mv 6 14 [3,1,0,1,2,3],mv 7 15 [4,5,0,1,2,3,4,5]] false).seq
 (((rg [mv 16 7,oA 17 (.un .not) [.t 16] [0]] false).seq
 (AC.cond (.t 17) ((rg [oA 4 .mov [ci 0],oA 5 .mov [ci 9] [0,0]] false).seq AC.ret) AC.skip)).seq
 ((rg [oA 8 .mov [cb false]] false).seq
 (((rg [mv 18 1,oA 19 .len [.t 18] [0],oA 20 .mov [ci 0]] false).seq
 (AC.block 0 ((rg [bn 21 .lss 20 19] false).seq
 ((AC.cond (.t 21) AC.skip (AC.exit 0)).seq
 ((AC.block 1 ((rg [oA 22 (.iad 1) [.t 18,.t 20],ld 23 22 [0],mv 10 23 [1,0,1]] false).seq
 (((rg [mv 24 6,mv 25 10,kl 26 46 [.t 24,.t 25] [0,1],oA 27 (.un .not) [.t 26] [2]] false).seq
 (AC.cond (.t 27) ((rg [oA 4 .mov [ci 0],oA 5 .mov [ci 9] [0,0]] false).seq AC.ret) AC.skip)).seq
 (rg [mv 28 8,mv 29 28 [0],mg 30 10 [1] 1 29 false,oG 31 .len [.t 30] [2,1] 1 29 false,oG 32 (.bin .gtr) [.t 31,ci 512] [3,1] 1 29 false,oA 33 .pick [.t 29,cb true,.t 32] [1,4],mv 8 33 [5,1,0,1,2,3,4,5]] false)))).seq
 (rg [oA 34 (.bin .add) [.t 20,ci 1],mv 20 34 [0]] false)))).loop)).seq
 (((rg [mv 35 8] false).seq
 (AC.cond (.t 35) ((rg [oA 4 .mov [ci 0],oA 5 .mov [ci 4] [0,0]] false).seq AC.ret) AC.skip)).seq
 ((rg [mv 36 6,mv 4 36 [0,0],oA 5 .mov [ci 0] [1,0,1]] false).seq AC.ret))))))
def R99':List RV:=[.t 4,.t 5]
theorem G99':GoT Tryz.f140.ntmps 140 A99' R99':=goT [] Tryz.func140
def A100':AC :=
 (rg [oA 2 .mov [AV.c (V.nl 1)]] false).seq
 ((rg [mv 3 0,kl 4 142 [.t 3] [0],oA 5 (.app 1 8) [AV.c (V.nl 1),.t 4] [1,1],mv 2 5 [2,2,0,1,2]] false).seq AC.ret)
def R100':List RV:=[.t 2]
theorem G100':GoT Tryz.f141.ntmps 141 A100' R100':=goT [] Tryz.func141
def A101':AC :=
 (rg [oA 2 .mov [AV.c (V.nl 1)]] false).seq
 ((rg [mv 4 0,oA 5 .len [.t 4] [0],mv 3 5 [1,0,1]] false).seq
 ((AC.block 0 (((rg [mv 6 3,oA 7 (.bin .gtr) [.t 6,ci 0] [0],mv 8 7 [1],mg 9 0 [2] 2 8 true,mg 10 3 [2] 2 8 true,oG 11 (.bin .sub) [.t 10,ci 1] [4,2] 2 8 true,oG 12 (.iad 1) [.t 9,.t 11] [3,5,2] 2 8 true,oG 13 (.load 1 false) [.t 12] [6,2] 2 8 true,oG 14 (.bin .eql) [.t 13,ci 0] [7,2] 2 8 true,oA 15 .pick [.t 8,.t 14,cb false] [2,8]] false).seq
 (AC.cond (.t 15) AC.skip (AC.exit 0))).seq
 (AC.block 1 (rg [mv 16 3,oA 17 (.bin .sub) [.t 16,ci 1] [0],mv 3 17 [1,0,1]] false))).loop).seq
 ((rg [mv 18 0,mv 19 3,oA 20 (.slc false true false 1) [.t 18,.t 19] [0,1],mv 2 20 [2,0,1,2]] false).seq AC.ret)))
def R101':List RV:=[.t 2]
theorem G101':GoT Tryz.f142.ntmps 142 A101' R101':=goT [] Tryz.func142
def A102':AC :=
 (rg [oA 6 .mov [AV.c (V.nl 1)]] false).seq
 ((rg [mv 10 1,oA 11 .len [.t 10] [0],mv 12 2,oA 13 .len [.t 12] [2],bn 14 .add 11 13 [1,3],oA 15 (.bin .sub) [.t 14,ci 1] [4],oA 16 (.mks 1 [I 0] 8) [.t 15,.t 15] [5,5],mv 7 16 [6,0,1,2,3,4,5,6]] false).seq
 (((rg [mv 17 1,oA 18 .len [.t 17] [0],oA 19 .mov [ci 0]] false).seq
 (AC.block 0 ((rg [bn 20 .lss 19 18] false).seq
 ((AC.cond (.t 20) AC.skip (AC.exit 0)).seq
 ((AC.block 1 ((rg [mv 21 19,oA 22 (.iad 1) [.t 17,.t 19],ld 23 22 [1],mv 8 21 [0,0,1,2],mv 9 23 [2,3,0,1,2,3]] false).seq
 (rg [mv 24 0,mv 25 7,mv 26 8,oA 27 (.tail 1) [.t 25,.t 26] [1,2],mv 28 9,mv 29 2,kl 30 48 [.t 24,.t 27,.t 28,.t 29] [0,3,4,5]] false))).seq
 (rg [oA 31 (.bin .add) [.t 19,ci 1],mv 19 31 [0]] false)))).loop)).seq
 ((rg [mv 32 7,mv 6 32 [0,0]] false).seq AC.ret)))
def R102':List RV:=[.t 6]
theorem G102':GoT Tryz.f146.ntmps 146 A102' R102':=goT [27] Tryz.func146
def A103':AC :=
 (rg [mv 11 0,oA 12 .nck [.t 11] [0],fa 13 3 12 [1],ld 14 13 [2],mv 4 14 [3,0,1,2,3]] false).seq
 ((AC.block 0 (((rg [mv 15 4,mv 16 0,oA 17 .nck [.t 16] [1],fa 18 2 17 [2],ld 19 18 [3],oA 20 .len [.t 19] [4],bn 21 .lss 15 20 [0,5],mv 22 21 [6],mg 23 0 [7] 7 22 true,oG 24 .nck [.t 23] [8,7] 7 22 true,oG 25 (.fad 2) [.t 24] [9,7] 7 22 true,oG 26 (.load 1 false) [.t 25] [10,7] 7 22 true,mg 27 4 [7] 7 22 true,oG 28 (.iad 1) [.t 26,.t 27] [11,12,7] 7 22 true,oG 29 (.load 1 false) [.t 28] [13,7] 7 22 true,mg 30 1 [7] 7 22 true,oG 31 (.iad 1) [.t 29,.t 30] [14,15,7] 7 22 true,oG 32 (.load 1 false) [.t 31] [16,7] 7 22 true,oG 33 (.bin .eql) [.t 32,ci 0] [17,7] 7 22 true,oA 34 .pick [.t 22,.t 33,cb false] [7,18]] false).seq
 (AC.cond (.t 34) AC.skip (AC.exit 0))).seq
 (AC.block 1 (rg [mv 35 4,oA 36 (.bin .add) [.t 35,ci 1] [0],mv 4 36 [1,0,1]] false))).loop).seq
 (((rg [mv 37 4,mv 38 0,oA 39 .nck [.t 38] [1],fa 40 2 39 [2],ld 41 40 [3],oA 42 .len [.t 41] [4],bn 43 .eql 37 42 [0,5]] false).seq
 (AC.cond (.t 43) AC.ret AC.skip)).seq
 ((rg [mv 44 0,oA 45 .nck [.t 44] [0],fa 46 2 45 [1],ld 47 46 [2],mv 48 0,oA 49 .nck [.t 48] [4],fa 50 3 49 [5],ld 51 50 [6],mv 52 0,oA 53 .nck [.t 52] [8],fa 54 2 53 [9],ld 55 54 [10],mv 56 4,mv 57 0,oA 58 .nck [.t 57] [13],fa 59 2 58 [14],ld 60 59 [15],mv 61 4,oA 62 (.iad 1) [.t 60,.t 61] [16,17],ld 63 62 [18],mv 64 0,oA 65 .nck [.t 64] [20],fa 66 2 65 [21],ld 67 66 [22],mv 68 0,oA 69 .nck [.t 68] [24],fa 70 3 69 [25],ld 71 70 [26],oA 72 (.iad 1) [.t 67,.t 71] [23,27],ld 73 72 [28],oA 74 (.iad 1) [.t 47,.t 51] [3,7,0,1,2,3,4,5,6,7,11,13,14,15,16,17,18,19,23,27,29],oZ (.store 1) [.t 74,.t 63] [30,19,0,1,2,3,4,5,6,7,11,13,14,15,16,17,18,19,23,27,29],oA 75 (.iad 1) [.t 55,.t 56] [11,12,0,1,2,3,4,5,6,7,8,9,10,11,12,13,14,15,16,17,18,19,20,21,22,23,24,25,26,27,28,29,30,31],oZ (.store 1) [.t 75,.t 73] [32,29,31,0,1,2,3,4,5,6,7,8,9,10,11,12,13,14,15,16,17,18,19,20,21,22,23,24,25,26,27,28,29,30,31]] true).seq
 ((rg [mv 76 0,oA 77 .nck [.t 76] [0],fa 78 2 77 [1],ld 79 78 [2],mv 80 0,oA 81 .nck [.t 80] [4],fa 82 3 81 [5],ld 83 82 [6],oA 84 (.iad 1) [.t 79,.t 83] [3,7],ld 85 84 [8],mv 5 85 [9,0,1,2,3,4,5,6,7,8,9]] true).seq
 ((rg [mv 86 0,oA 87 .nck [.t 86] [0],fa 88 0 87 [1],ld 89 88 [2],mv 90 5,mv 91 1,oA 92 (.iad 1) [.t 90,.t 91] [4,5],ld 93 92 [6],kl 94 143 [.t 89,.t 93] [3,7],mv 6 94 [8,8,0,1,2,3,4,5,6,7,8]] true).seq
 (((rg [mv 95 5,oA 96 .len [.t 95] [0],oA 97 .mov [ci 0]] false).seq
 (AC.block 2 ((rg [bn 98 .lss 97 96] false).seq
 ((AC.cond (.t 98) AC.skip (AC.exit 2)).seq
 ((AC.block 3 ((rg [mv 99 97,oA 100 (.iad 1) [.t 95,.t 97],ld 101 100 [1],mv 7 99 [0,0,1,2],mv 8 101 [2,3,0,1,2,3]] false).seq
 (rg [mv 102 5,mv 103 7,mv 104 0,oA 105 .nck [.t 104] [2],fa 106 0 105 [3],ld 107 106 [4],mv 108 8,mv 109 6,kl 110 80 [.t 107,.t 108,.t 109] [5,6,7],oA 111 (.iad 1) [.t 102,.t 103] [0,1,0,1,2,3,4,5,6,7,8],oZ (.store 1) [.t 111,.t 110] [9,8,8,0,1,2,3,4,5,6,7,8]] false))).seq
 (rg [oA 112 (.bin .add) [.t 97,ci 1],mv 97 112 [0]] false)))).loop)).seq
 (((rg [mv 113 0,oA 114 .nck [.t 113] [0],fa 115 2 114 [1],ld 116 115 [2],oA 117 .len [.t 116] [3],oA 118 .mov [ci 0]] false).seq
 (AC.block 4 ((rg [bn 119 .lss 118 117] false).seq
 ((AC.cond (.t 119) AC.skip (AC.exit 4)).seq
 ((AC.block 5 ((rg [mv 120 118,oA 121 (.iad 1) [.t 116,.t 118],ld 122 121 [1],mv 9 120 [0,0,1,2],mv 10 122 [2,3,0,1,2,3]] false).seq
 ((rg [mv 123 9,mv 124 0,oA 125 .nck [.t 124] [1],fa 126 3 125 [2],ld 127 126 [3],bn 128 .neq 123 127 [0,4],mv 129 128 [5],mg 130 10 [6] 6 129 true,mg 131 1 [6] 6 129 true,oG 132 (.iad 1) [.t 130,.t 131] [7,8,6] 6 129 true,oG 133 (.load 1 false) [.t 132] [9,6] 6 129 true,oG 134 (.bin .neq) [.t 133,ci 0] [10,6] 6 129 true,oA 135 .pick [.t 129,.t 134,cb false] [6,11]] false).seq
 (AC.cond (.t 135) (rg [mv 136 0,oA 137 .nck [.t 136] [0],fa 138 0 137 [1],ld 139 138 [2],mv 140 10,mv 141 0,oA 142 .nck [.t 141] [5],fa 143 0 142 [6],ld 144 143 [7],mv 145 10,mv 146 1,oA 147 (.iad 1) [.t 145,.t 146] [9,10],ld 148 147 [11],kl 149 136 [.t 144,ci 0,.t 148] [8,12],mv 150 5,kl 151 48 [.t 139,.t 140,.t 149,.t 150] [3,4,13,14,13]] true) AC.skip)))).seq
 (rg [oA 152 (.bin .add) [.t 118,ci 1],mv 118 152 [0]] false)))).loop)).seq
 ((rg [mv 153 0,oA 154 .nck [.t 153] [0],fa 155 3 154 [1],ld 156 155 [2],oA 157 (.bin .add) [.t 156,ci 1] [3],oA 158 .nck [.t 153] [0,0,1,2,3,4],fa 159 3 158 [5,0,1,2,3,4],oZ (.store 1) [.t 159,.t 157] [6,4,0,1,2,3,4]] false).seq
 (rg [mv 160 0,mv 161 1,mv 162 0,oA 163 .nck [.t 162] [2],fa 164 3 163 [3],ld 165 164 [4],oA 166 .nck [.t 160] [0],fa 167 4 166 [6],oA 168 (.iada 32 1) [.t 167,.t 161] [7,1,0,1,2,3,4,5],oZ (.store 1) [.t 168,.t 165] [8,5,0,1,2,3,4,5]] true)))))))))
theorem c_solve_reduced_lead:compile Tryz.prog ⟨Go.Func.ntmps Tryz.f147,[]⟩ (Tryz.f147.body.getD .skip)=some A103':=by kernel_rfl
end Go.Proofs.YtacfbiegbdlldaaGreatDoor.Sim
