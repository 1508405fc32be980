/- Functions of the program, as the walk has them. -/
import Derived.Test.YtacfbiegbdlldaaGreatDoorMSimZ
import Derived.Test.YtacfbiegbdlldaaGreatDoorProg
import Derived.ProofKit
namespace Go.Proofs.YtacfbiegbdlldaaGreatDoor.Sim
open Go
set_option maxRecDepth 100000
abbrev GoT (n:Nat) (f:FuncId) (ac:AC) (rs:List RV):Prop:=∀ {xs:List V} {bx bx':U} {r:V} {ns:List O},decide (xs.length≤n)=true→BxOK bx bx'→(∀ cx:Cx,cx.m0=ups M0 bx→Awp Tryz.prog cx ac (RetE rs r bx' ns) ⟨tl (idx 0 xs),ups M0 bx⟩)→Does Tryz.prog f xs bx r bx' ns
theorem goT {f:FuncId} {fn:Func} {slots:List Nat} {ac:AC} {rs:List RV} (hf:Tryz.prog.funcs[f]?=some fn) (hb:fn.body=some (fn.body.getD .skip)) (hc:compile Tryz.prog ⟨fn.ntmps,slots⟩ (fn.body.getD .skip)=some ac) (hr:rvsOf Tryz.prog fn.results.toList=some rs):GoT fn.ntmps f ac rs :=
 fun hxs hbx h=>does_of hf hb rfl hc hr (of_decide_eq_true hxs) hbx fun cx _ hm=>h cx hm
abbrev rg (l:List AO) (d:Bool):AC:=.region l d
abbrev mv (d x:Nat) (a:List Nat:=[]):AO:=⟨some d,.mov,[.t x],a,none⟩
abbrev ld (d x:Nat) (a:List Nat:=[]):AO:=⟨some d,.load 1 false,[.t x],a,none⟩
abbrev xt (d j x:Nat) (a:List Nat:=[]):AO:=⟨some d,.ext j,[.t x],a,none⟩
abbrev fa (d o x:Nat) (a:List Nat:=[]):AO:=⟨some d,.fad o,[.t x],a,none⟩
abbrev bn (d:Nat) (o:BinOp) (x y:Nat) (a:List Nat:=[]):AO:=⟨some d,.bin o,[.t x,.t y],a,none⟩
def ac_top_TopEvidence:AC :=
 (rg [⟨some 4,.mov,[cb false],[],none⟩] false).seq
 (((rg [⟨some 41,.call 5,[],[],none⟩,⟨some 42,.un .not,[.t 41],[0],none⟩] false).seq
 (AC.cond (.t 42) ((rg [⟨some 4,.mov,[cb false],[],none⟩] false).seq AC.ret) AC.skip)).seq
 (((rg [mv 43 0,⟨some 44,.call 6,[.t 43],[0],none⟩,⟨some 45,.un .not,[.t 44],[1],none⟩] false).seq
 (AC.cond (.t 45) ((rg [⟨some 4,.mov,[cb true],[],none⟩] false).seq AC.ret) AC.skip)).seq
 ((rg [mv 46 0,⟨some 47,.call 7,[.t 46],[0],none⟩,mv 5 47 [1,1,0,1]] false).seq
 ((rg [mv 49 5,⟨some 50,.call 8,[.t 49],[0],none⟩,mv 48 50 [1],xt 51 0 48 [2],xt 52 1 48 [2],⟨some 6,.alloc [I 0],[],[],none⟩,⟨some 7,.alloc [I 0,I 0],[],[],none⟩,⟨none,.store 1,[.t 6,.t 51],[5,3,1,0,1,2,3,5,6],none⟩,⟨none,.store 2,[.t 7,.t 52],[6,4,7,0,1,2,3,4,5,6,7],none⟩] false).seq
 ((rg [mv 53 5,⟨some 54,.call 9,[.t 53,ci 5],[0],none⟩,⟨some 55,.bin .add,[ci 1,.t 54],[1],none⟩,mv 56 5,⟨some 57,.call 9,[.t 56,ci 4],[3,1],none⟩,⟨some 58,.bin .add,[ci 1,.t 57],[4],none⟩,mv 8 55 [2,4,0,1,2],mv 9 58 [5,6,0,1,2,3,4,5,6]] false).seq
 ((rg [mv 59 5,⟨some 60,.load 1 true,[.t 6],[],none⟩,mv 61 8,mv 62 9,⟨some 63,.call 10,[.t 59,.t 60,.t 61,.t 62],[0,1,2,3],none⟩,mv 10 63 [4,4,0,1,2,3,4]] false).seq
 ((rg [mv 64 5,fa 65 0 7,ld 66 65 [1],⟨some 67,.call 11,[.t 64,.t 66],[0,2],none⟩,mv 11 67 [3,3,0,1,2,3]] false).seq
 ((rg [⟨some 69,.load 1 true,[.t 6],[],none⟩,⟨some 70,.load 2 true,[.t 7],[],none⟩,mv 71 8,⟨some 72,.call 12,[.t 69,.t 70,.t 71],[0,1,2],none⟩,mv 68 72 [3],xt 73 0 68 [4],xt 74 1 68 [4],mv 12 73 [5,3,0,1,2,3,4,5],mv 13 74 [6,7,0,1,2,3,4,5,6,7]] false).seq
 ((rg [⟨some 76,.load 1 true,[.t 6],[],none⟩,⟨some 77,.load 2 true,[.t 7],[],none⟩,mv 78 8,mv 79 1,⟨some 80,.conv .i64,[.t 79],[3],none⟩,mv 81 8,bn 82 .rem 80 81 [4,5],mv 83 5,mv 84 12,⟨some 85,.call 14,[.t 83,.t 84],[7,8],none⟩,⟨some 86,.call 13,[.t 76,.t 77,.t 78,.t 82,.t 85],[0,1,2,6,9,9],none⟩,mv 75 86 [10],xt 87 0 75 [11],xt 88 1 75 [11],xt 89 2 75 [11],⟨some 15,.alloc [V.nl 1,I 0],[],[],none⟩,mv 14 87 [12,10,0,1,2,3,4,5,6,7,8,9,10,11,12,15],⟨none,.store 2,[.t 15,.t 88],[15,13,16,0,1,2,3,4,5,6,7,8,9,10,11,12,13,15,16],none⟩,mv 16 89 [14,17,0,1,2,3,4,5,6,7,8,9,10,11,12,13,14,15,16,17]] true).seq
 ((rg [mv 90 5,fa 91 0 6,ld 92 91 [1],⟨some 93,.call 9,[.t 90,.t 92],[0,2],none⟩,mv 17 93 [3,3,0,1,2,3]] false).seq
 ((rg [⟨some 95,.load 1 true,[.t 6],[],none⟩,mv 96 17,mv 97 10,⟨some 98,.call 15,[.t 95,.t 96,.t 97],[0,1,2],none⟩,mv 94 98 [3],xt 99 0 94 [4],xt 100 1 94 [4],mv 18 99 [5,3,0,1,2,3,4,5],mv 19 100 [6,7,0,1,2,3,4,5,6,7]] false).seq
 (((rg [mv 101 13,⟨some 102,.bin .neq,[.t 101,ci 0],[0],none⟩,mv 103 102 [1],⟨some 104,.mov,[.t 16],[2],some (2,103,false)⟩,⟨some 105,.bin .neq,[.t 104,ci 0],[3,2],some (2,103,false)⟩,⟨some 106,.pick,[.t 103,cb true,.t 105],[2,4],none⟩,mv 107 106 [5,2],⟨some 108,.mov,[.t 19],[6],some (6,107,false)⟩,⟨some 109,.bin .neq,[.t 108,ci 0],[7,6],some (6,107,false)⟩,⟨some 110,.pick,[.t 107,cb true,.t 109],[6,8],none⟩,mv 111 110 [9,6],⟨some 112,.mov,[.t 14],[10],some (10,111,false)⟩,⟨some 113,.len,[.t 112],[11,10],some (10,111,false)⟩,⟨some 114,.fad 0,[.t 7],[10],some (10,111,false)⟩,⟨some 115,.load 1 false,[.t 114],[13,10],some (10,111,false)⟩,⟨some 116,.bin .neq,[.t 113,.t 115],[12,14,10],some (10,111,false)⟩,⟨some 117,.pick,[.t 111,cb true,.t 116],[10,15],none⟩,mv 118 117 [16,10],⟨some 119,.mov,[.t 11],[17],some (17,118,false)⟩,⟨some 120,.len,[.t 119],[18,17],some (17,118,false)⟩,⟨some 121,.bin .gtr,[.t 120,ci 16],[19,17],some (17,118,false)⟩,⟨some 122,.pick,[.t 118,cb true,.t 121],[17,20],none⟩] false).seq
 (AC.cond (.t 122) ((rg [⟨some 4,.mov,[cb false],[],none⟩] false).seq AC.ret) AC.skip)).seq
 ((rg [⟨some 20,.mov,[AV.c (V.nl 1)],[],none⟩] false).seq
 (((rg [mv 123 14,⟨some 124,.len,[.t 123],[0],none⟩,⟨some 125,.mov,[ci 0],[],none⟩] false).seq
 (AC.block 0 ((rg [bn 126 .lss 125 124] false).seq
 ((AC.cond (.t 126) AC.skip (AC.exit 0)).seq
 ((AC.block 1 ((rg [⟨some 127,.iad 1,[.t 123,.t 125],[],none⟩,ld 128 127 [0],mv 22 128 [1,0,1]] false).seq
 ((rg [⟨some 130,.load 1 true,[.t 6],[],none⟩,mv 131 22,mv 132 10,mv 133 9,⟨some 134,.call 16,[.t 130,.t 131,.t 132,.t 133],[0,1,2,3],none⟩,mv 129 134 [4],xt 135 0 129 [5],xt 136 1 129 [5],mv 23 135 [6,4,0,1,2,3,4,5,6],mv 24 136 [7,8,0,1,2,3,4,5,6,7,8]] false).seq
 (((rg [mv 137 24,⟨some 138,.bin .neq,[.t 137,ci 0],[0],none⟩] false).seq
 (AC.cond (.t 138) ((rg [⟨some 4,.mov,[cb false],[],none⟩] false).seq AC.ret) AC.skip)).seq
 (rg [mv 139 20,mv 140 23,⟨some 141,.bsl 1 [V.nl 1] 1 [0],[.t 140],[1],none⟩,⟨some 142,.app 1 24,[.t 139,.t 141],[0,2],none⟩,mv 20 142 [3,3,0,1,2,3]] false))))).seq
 (rg [⟨some 143,.bin .add,[.t 125,ci 1],[],none⟩,mv 125 143 [0]] false)))).loop)).seq
 ((rg [mv 145 5,⟨some 146,.load 2 true,[.t 7],[],none⟩,⟨some 147,.call 17,[.t 145,.t 146],[0,1],none⟩,mv 144 147 [2],xt 148 0 144 [3],xt 149 1 144 [3],mv 25 148 [4,2,0,1,2,3,4],mv 26 149 [5,6,0,1,2,3,4,5,6]] false).seq
 ((rg [mv 151 5,⟨some 152,.load 1 true,[.t 6],[],none⟩,mv 153 20,mv 154 26,mv 155 25,⟨some 156,.call 18,[.t 151,.t 152,.t 153,.t 154,.t 155],[0,1,2,3,4],none⟩,mv 150 156 [5],xt 157 0 150 [6],xt 158 1 150 [6],mv 27 157 [7,5,0,1,2,3,4,5,6,7],mv 28 158 [8,9,0,1,2,3,4,5,6,7,8,9]] false).seq
 ((rg [⟨some 160,.load 1 true,[.t 6],[],none⟩,⟨some 161,.load 2 true,[.t 7],[],none⟩,mv 162 9,mv 163 27,⟨some 164,.call 19,[.t 160,.t 161,.t 162,.t 163],[0,1,2,3],none⟩,mv 159 164 [4],xt 165 0 159 [5],xt 166 1 159 [5],⟨some 29,.alloc [V.nl 1,V.nl 1],[],[],none⟩,⟨none,.store 2,[.t 29,.t 165],[8,6,4,0,1,2,3,4,5,6,8],none⟩,mv 30 166 [7,9,0,1,2,3,4,5,6,7,8,9]] false).seq
 (((rg [mv 167 30,⟨some 168,.bin .neq,[.t 167,ci 0],[0],none⟩,mv 169 168 [1],⟨some 170,.fad 1,[.t 29],[2],some (2,169,false)⟩,⟨some 171,.load 1 false,[.t 170],[3,2],some (2,169,false)⟩,⟨some 172,.mov,[.t 28],[2],some (2,169,false)⟩,⟨some 173,.call 20,[.t 171,.t 172],[4,5,2,2],some (2,169,false)⟩,⟨some 174,.un .not,[.t 173],[6,2],some (2,169,false)⟩,⟨some 175,.pick,[.t 169,cb true,.t 174],[2,7],none⟩] false).seq
 (AC.cond (.t 175) ((rg [⟨some 4,.mov,[cb false],[],none⟩] false).seq AC.ret) AC.skip)).seq
 ((rg [⟨some 31,.mov,[AV.c (V.nl 1)],[],none⟩] false).seq
 (((rg [mv 176 27,⟨some 177,.len,[.t 176],[0],none⟩,⟨some 178,.mov,[ci 0],[],none⟩] false).seq
 (AC.block 2 ((rg [bn 179 .lss 178 177] false).seq
 ((AC.cond (.t 179) AC.skip (AC.exit 2)).seq
 ((AC.block 3 ((rg [mv 180 178,⟨some 181,.iad 2,[.t 176,.t 178],[],none⟩,⟨some 182,.load 2 true,[.t 181],[1],none⟩,⟨some 33,.alloc [B false,V.nl 1],[],[],none⟩,mv 32 180 [0,0,1,2,3],⟨none,.store 2,[.t 33,.t 182],[3,2,4,0,1,2,3,4],none⟩] false).seq
 (((rg [fa 183 0 33,ld 184 183 [0],⟨some 185,.un .not,[.t 184],[1],none⟩] false).seq
 (AC.cond (.t 185) (AC.exit 3) AC.skip)).seq
 ((rg [⟨some 186,.bsl 1 [I 0] 1 [0],[ci 7],[],none⟩,mv 187 14,mv 188 32,⟨some 189,.iad 1,[.t 187,.t 188],[1,2],none⟩,ld 190 189 [3],⟨some 191,.app 1 8,[.t 186,.t 190],[0,4],none⟩,fa 192 1 33,ld 193 192 [6],⟨some 194,.app 1 8,[.t 191,.t 193],[5,7,5],none⟩,mv 34 194 [8,8,0,1,2,3,4,5,6,7,8]] true).seq
 ((rg [mv 196 11,mv 197 32,⟨some 198,.iad 2,[.t 196,.t 197],[0,1],none⟩,fa 199 1 198 [2],ld 200 199 [3],mv 201 34,⟨some 202,.call 21,[.t 200,.t 201],[4,5],none⟩,mv 195 202 [6],xt 203 0 195 [7],xt 204 1 195 [7],mv 35 203 [8,6,0,1,2,3,4,5,6,7,8],mv 36 204 [9,10,0,1,2,3,4,5,6,7,8,9,10]] false).seq
 (((rg [mv 205 36,⟨some 206,.bin .neq,[.t 205,ci 0],[0],none⟩,mv 207 206 [1],⟨some 208,.mov,[.t 11],[2],some (2,207,false)⟩,⟨some 209,.mov,[.t 32],[2],some (2,207,false)⟩,⟨some 210,.bin .add,[.t 209,ci 1],[4,2],some (2,207,false)⟩,⟨some 211,.mov,[.t 34],[2],some (2,207,false)⟩,⟨some 212,.mov,[.t 35],[2],some (2,207,false)⟩,⟨some 213,.call 22,[.t 208,.t 210,.t 211,.t 212],[3,5,6,7,2,2],some (2,207,false)⟩,⟨some 214,.un .not,[.t 213],[8,2],some (2,207,false)⟩,⟨some 215,.pick,[.t 207,cb true,.t 214],[2,9],none⟩,mv 216 215 [10,8],⟨some 217,.mov,[.t 11],[11],some (11,216,false)⟩,⟨some 218,.mov,[.t 32],[11],some (11,216,false)⟩,⟨some 219,.bin .add,[.t 218,ci 1],[13,11],some (11,216,false)⟩,⟨some 220,.fad 0,[.t 7],[11],some (11,216,false)⟩,⟨some 221,.load 1 false,[.t 220],[15,11],some (11,216,false)⟩,⟨some 222,.bin .rem,[.t 219,.t 221],[14,16,11],some (11,216,false)⟩,⟨some 223,.bin .add,[ci 1,.t 222],[17,11],some (11,216,false)⟩,⟨some 224,.mov,[.t 34],[11],some (11,216,false)⟩,⟨some 225,.mov,[.t 35],[11],some (11,216,false)⟩,⟨some 226,.call 22,[.t 217,.t 223,.t 224,.t 225],[12,18,19,20,11,11],some (11,216,false)⟩,⟨some 227,.pick,[.t 216,cb true,.t 226],[11,21],none⟩] false).seq
 (AC.cond (.t 227) ((rg [⟨some 4,.mov,[cb false],[],none⟩] false).seq AC.ret) AC.skip)).seq
 ((rg [⟨some 229,.load 1 true,[.t 6],[],none⟩,mv 230 9,mv 231 10,mv 232 14,mv 233 32,⟨some 234,.iad 1,[.t 232,.t 233],[3,4],none⟩,ld 235 234 [5],⟨some 236,.call 23,[.t 229,.t 230,.t 231,.t 235],[0,1,2,6],none⟩,mv 228 236 [7],xt 237 0 228 [8],xt 238 1 228 [8],mv 37 237 [9,7,0,1,2,3,4,5,6,7,8,9],mv 38 238 [10,11,0,1,2,3,4,5,6,7,8,9,10,11]] true).seq
 ((rg [⟨some 240,.load 1 true,[.t 6],[],none⟩,mv 241 17,mv 242 18,mv 243 14,mv 244 32,⟨some 245,.iad 1,[.t 243,.t 244],[3,4],none⟩,ld 246 245 [5],fa 247 1 33,ld 248 247 [7],⟨some 249,.call 24,[.t 240,.t 241,.t 242,.t 246,.t 248],[0,1,2,6,8],none⟩,mv 239 249 [9],xt 250 0 239 [10],xt 251 1 239 [10],mv 39 250 [11,9,0,1,2,3,4,5,6,7,8,9,10,11],mv 40 251 [12,13,0,1,2,3,4,5,6,7,8,9,10,11,12,13]] true).seq
 (((rg [mv 252 38,⟨some 253,.bin .neq,[.t 252,ci 0],[0],none⟩,mv 254 253 [1],⟨some 255,.mov,[.t 40],[2],some (2,254,false)⟩,⟨some 256,.bin .neq,[.t 255,ci 0],[3,2],some (2,254,false)⟩,⟨some 257,.pick,[.t 254,cb true,.t 256],[2,4],none⟩] false).seq
 (AC.cond (.t 257) ((rg [⟨some 4,.mov,[cb false],[],none⟩] false).seq AC.ret) AC.skip)).seq
 ((rg [mv 258 37,fa 259 1 33,ld 260 259 [1],⟨some 261,.call 20,[.t 258,.t 260],[0,2],none⟩,⟨some 262,.un .not,[.t 261],[3],none⟩] false).seq
 (AC.cond (.t 262) (rg [mv 263 31,mv 264 32,⟨some 265,.bin .add,[.t 264,ci 1],[1],none⟩,⟨some 266,.bsl 1 [I 0] 1 [0],[.t 265],[2],none⟩,⟨some 267,.app 1 8,[.t 263,.t 266],[0,3],none⟩,mv 31 267 [4,4,0,1,2,3,4]] false) ((rg [mv 268 39,⟨some 269,.un .not,[.t 268],[0],none⟩] false).seq
 (AC.cond (.t 269) ((rg [⟨some 4,.mov,[cb false],[],none⟩] false).seq AC.ret) AC.skip))))))))))))).seq
 (rg [⟨some 270,.bin .add,[.t 178,ci 1],[],none⟩,mv 178 270 [0]] false)))).loop)).seq
 ((rg [mv 271 31,mv 272 28,⟨some 273,.call 20,[.t 271,.t 272],[0,1],none⟩,mv 4 273 [2,2,0,1,2]] false).seq AC.ret)))))))))))))))))))))
def rs_top_TopEvidence:List RV:=[.t 4]
theorem c_top_TopEvidence:compile Tryz.prog ⟨Go.Func.ntmps Tryz.f3,[]⟩ (Tryz.f3.body.getD .skip)=some ac_top_TopEvidence:=by kernel_rfl
theorem go_top_TopEvidence:GoT Tryz.f3.ntmps 3 ac_top_TopEvidence rs_top_TopEvidence:=goT Tryz.func3 (by kernel_rfl) c_top_TopEvidence (by kernel_rfl)
def ac_top_awake:AC :=
 (rg [⟨some 0,.mov,[cb false],[],none⟩] false).seq
 ((rg [⟨some 13,.build [I 0] [(0,1)],[ci 5],[],none⟩,⟨some 1,.alloc [I 0],[],[],none⟩,⟨none,.store 1,[.t 1,.t 13],[1,0,0,1],none⟩] false).seq
 ((rg [⟨some 14,.build [I 0,I 0] [(0,1),(1,1)],[ci 3,ci 1],[],none⟩,⟨some 2,.alloc [I 0,I 0],[],[],none⟩,⟨none,.store 2,[.t 2,.t 14],[1,0,0,1],none⟩] false).seq
 ((rg [⟨some 15,.bsl 1 [I 0] 2 [0,1],[ci 1,ci 2],[],none⟩,⟨some 16,.bsl 1 [I 0] 2 [0,1],[ci 3,ci 4],[],none⟩,⟨some 17,.bsl 1 [V.nl 1] 2 [0,1],[.t 15,.t 16],[0,1],none⟩,mv 3 17 [2,0,1,2]] false).seq
 ((rg [⟨some 19,.load 1 true,[.t 1],[],none⟩,⟨some 20,.load 2 true,[.t 2],[],none⟩,⟨some 21,.bsl 1 [I 0] 2 [0,1],[ci 4,ci 2],[],none⟩,⟨some 22,.build [V.nl 1,I 0] [(0,1)],[.t 21],[2],none⟩,⟨some 23,.call 13,[.t 19,.t 20,ci 2,ci 1,.t 22],[0,1,3],none⟩,mv 18 23 [4],xt 24 0 18 [5],xt 25 1 18 [5],xt 26 2 18 [5],⟨some 5,.alloc [V.nl 1,I 0],[],[],none⟩,mv 4 24 [6,4,0,1,2,3,4,5,6,9],⟨none,.store 2,[.t 5,.t 25],[9,7,10,0,1,2,3,4,5,6,7,9,10],none⟩,mv 6 26 [8,11,0,1,2,3,4,5,6,7,8,9,10,11]] false).seq
 (((rg [mv 27 6,⟨some 28,.bin .neq,[.t 27,ci 0],[0],none⟩,mv 29 28 [1],⟨some 30,.mov,[.t 4],[2],some (2,29,false)⟩,⟨some 31,.len,[.t 30],[3,2],some (2,29,false)⟩,⟨some 32,.bin .neq,[.t 31,ci 3],[4,2],some (2,29,false)⟩,⟨some 33,.pick,[.t 29,cb true,.t 32],[2,5],none⟩] false).seq
 (AC.cond (.t 33) ((rg [⟨some 0,.mov,[cb false],[],none⟩] false).seq AC.ret) AC.skip)).seq
 ((rg [⟨some 35,.load 1 true,[.t 1],[],none⟩,mv 36 3,mv 37 4,⟨some 38,.iad 1,[.t 37,ci 0],[2],none⟩,ld 39 38 [3],⟨some 40,.call 23,[.t 35,ci 2,.t 36,.t 39],[0,1,4],none⟩,mv 34 40 [5],xt 41 0 34 [6],xt 42 1 34 [6],mv 7 41 [7,5,0,1,2,3,4,5,6,7],mv 8 42 [8,9,0,1,2,3,4,5,6,7,8,9]] true).seq
 ((rg [⟨some 44,.load 1 true,[.t 1],[],none⟩,mv 45 3,mv 46 4,⟨some 47,.iad 1,[.t 46,ci 2],[2],none⟩,ld 48 47 [3],⟨some 49,.call 23,[.t 44,ci 2,.t 45,.t 48],[0,1,4],none⟩,mv 43 49 [5],xt 50 0 43 [6],xt 51 1 43 [6],mv 9 50 [7,5,0,1,2,3,4,5,6,7],mv 10 51 [8,9,0,1,2,3,4,5,6,7,8,9]] true).seq
 ((rg [⟨some 53,.load 1 true,[.t 1],[],none⟩,⟨some 54,.load 2 true,[.t 2],[],none⟩,mv 55 7,⟨some 56,.build [B false,V.nl 1] [(0,1),(1,1)],[cb true,.t 55],[2],none⟩,⟨some 57,.build [B false,V.nl 1] [],[],[],none⟩,mv 58 9,⟨some 59,.build [B false,V.nl 1] [(0,1),(1,1)],[cb true,.t 58],[5],none⟩,⟨some 60,.bsl 2 [B false,V.nl 1] 3 [0,1,2],[.t 56,.t 57,.t 59],[3,4,6],none⟩,⟨some 61,.call 19,[.t 53,.t 54,ci 2,.t 60],[0,1,7],none⟩,mv 52 61 [8],xt 62 0 52 [9],xt 63 1 52 [9],⟨some 11,.alloc [V.nl 1,V.nl 1],[],[],none⟩,⟨none,.store 2,[.t 11,.t 62],[12,10,8,0,1,2,3,4,5,6,7,8,9,10,12],none⟩,mv 12 63 [11,13,0,1,2,3,4,5,6,7,8,9,10,11,12,13]] false).seq
 ((rg [mv 64 8,⟨some 65,.bin .eql,[.t 64,ci 0],[0],none⟩,mv 66 65 [1],⟨some 67,.mov,[.t 10],[2],some (2,66,true)⟩,⟨some 68,.bin .eql,[.t 67,ci 0],[3,2],some (2,66,true)⟩,⟨some 69,.pick,[.t 66,.t 68,cb false],[2,4],none⟩,mv 70 69 [5,2],⟨some 71,.mov,[.t 12],[6],some (6,70,true)⟩,⟨some 72,.bin .eql,[.t 71,ci 0],[7,6],some (6,70,true)⟩,⟨some 73,.pick,[.t 70,.t 72,cb false],[6,8],none⟩,mv 74 73 [9,6],⟨some 75,.fad 0,[.t 11],[10],some (10,74,true)⟩,⟨some 76,.load 1 false,[.t 75],[11,10],some (10,74,true)⟩,⟨some 77,.bsl 1 [I 0] 2 [0,1],[ci 3,ci 4],[10],some (10,74,true)⟩,⟨some 78,.call 20,[.t 76,.t 77],[12,13,10,10],some (10,74,true)⟩,⟨some 79,.pick,[.t 74,.t 78,cb false],[10,14],none⟩,mv 0 79 [15,14,0,1,2,3,4,5,6,7,8,9,10,11,12,13,14,15]] false).seq AC.ret)))))))))
def rs_top_awake:List RV:=[.t 0]
theorem c_top_awake:compile Tryz.prog ⟨Go.Func.ntmps Tryz.f5,[]⟩ (Tryz.f5.body.getD .skip)=some ac_top_awake:=by kernel_rfl
theorem go_top_awake:GoT Tryz.f5.ntmps 5 ac_top_awake rs_top_awake:=goT Tryz.func5 (by kernel_rfl) c_top_awake (by kernel_rfl)
def ac_top_faults:AC :=
 (rg [⟨some 3,.box,[.t 1],[],none⟩,⟨some 4,.mov,[ci 0],[],none⟩,⟨some 5,.mov,[ci 0],[1],none⟩] false).seq
 ((rg [fa 8 0 3,ld 9 8 [0],fa 10 1 3,ld 11 10 [2],bn 12 .sub 9 11 [1,3],⟨some 13,.bin .sub,[.t 12,ci 1],[4],none⟩,mv 6 13 [5,0,1,2,3,4,5]] false).seq
 ((rg [mv 14 0,mv 15 6,⟨some 16,.bin .quo,[.t 15,ci 2],[1],none⟩,⟨some 17,.bin .add,[.t 16,ci 1],[2],none⟩,⟨some 18,.call 9,[.t 14,.t 17],[0,3],none⟩,mv 7 18 [4,4,0,1,2,3,4]] false).seq
 ((rg [mv 19 0,mv 20 6,mv 21 7,⟨some 22,.bin .mul,[ci 2,.t 21],[2],none⟩,bn 23 .sub 20 22 [1,3],⟨some 24,.bin .add,[.t 23,ci 1],[4],none⟩,⟨some 25,.call 9,[.t 19,.t 24],[0,5],none⟩,mv 26 7,mv 4 25 [6,6,0,1,2,3,4,5,6],mv 5 26 [7,8,0,1,2,3,4,5,6,7,8]] false).seq AC.ret)))
def rs_top_faults:List RV:=[.t 4,.t 5]
theorem c_top_faults:compile Tryz.prog ⟨Go.Func.ntmps Tryz.f17,[]⟩ (Tryz.f17.body.getD .skip)=some ac_top_faults:=by kernel_rfl
theorem go_top_faults:GoT Tryz.f17.ntmps 17 ac_top_faults rs_top_faults:=goT Tryz.func17 (by kernel_rfl) c_top_faults (by kernel_rfl)
def ac_make_Few:AC :=
 (rg [⟨some 2,.mov,[cb false],[],none⟩] false).seq
 ((rg [mv 3 0,⟨some 4,.len,[.t 3],[0],none⟩,⟨some 5,.bin .leq,[.t 4,ci 500],[1],none⟩,mv 2 5 [2,0,1,2]] false).seq AC.ret)
def rs_make_Few:List RV:=[.t 2]
theorem c_make_Few:compile Tryz.prog ⟨Go.Func.ntmps Tryz.f6,[]⟩ (Tryz.f6.body.getD .skip)=some ac_make_Few:=by kernel_rfl
theorem go_make_Few:GoT Tryz.f6.ntmps 6 ac_make_Few rs_make_Few:=goT Tryz.func6 (by kernel_rfl) c_make_Few (by kernel_rfl)
def ac_make_New:AC :=
 (rg [⟨some 2,.mov,[AV.c (V.d (D.at (Value.pointer none)))],[],none⟩] false).seq
 ((rg [mv 3 0,⟨some 4,.build [V.nl 1,I 0] [(0,1)],[.t 3],[0],none⟩,⟨some 5,.box,[.t 4],[1],none⟩,mv 2 5 [2,0,1,2]] false).seq AC.ret)
def rs_make_New:List RV:=[.t 2]
theorem c_make_New:compile Tryz.prog ⟨Go.Func.ntmps Tryz.f7,[]⟩ (Tryz.f7.body.getD .skip)=some ac_make_New:=by kernel_rfl
theorem go_make_New:GoT Tryz.f7.ntmps 7 ac_make_New rs_make_New:=goT Tryz.func7 (by kernel_rfl) c_make_New (by kernel_rfl)
def ac_make_Deck_Next:AC :=
 (rg [⟨some 4,.mov,[ci 0],[],none⟩] false).seq
 (((rg [mv 6 1,⟨some 7,.bin .lss,[.t 6,ci 1],[0],none⟩,mv 8 7 [1],⟨some 9,.mov,[.t 0],[2],some (2,8,false)⟩,⟨some 10,.nck,[.t 9],[3,2],some (2,8,false)⟩,⟨some 11,.fad 1,[.t 10],[4,2],some (2,8,false)⟩,⟨some 12,.load 1 false,[.t 11],[5,2],some (2,8,false)⟩,⟨some 13,.mov,[.t 0],[2],some (2,8,false)⟩,⟨some 14,.nck,[.t 13],[7,2],some (2,8,false)⟩,⟨some 15,.fad 0,[.t 14],[8,2],some (2,8,false)⟩,⟨some 16,.load 1 false,[.t 15],[9,2],some (2,8,false)⟩,⟨some 17,.len,[.t 16],[10,2],some (2,8,false)⟩,⟨some 18,.bin .geq,[.t 12,.t 17],[6,11,2],some (2,8,false)⟩,⟨some 19,.pick,[.t 8,cb true,.t 18],[2,12],none⟩] true).seq
 (AC.cond (.t 19) ((rg [⟨some 4,.mov,[ci 0],[],none⟩] false).seq AC.ret) AC.skip)).seq
 ((rg [mv 20 0,⟨some 21,.nck,[.t 20],[0],none⟩,fa 22 0 21 [1],ld 23 22 [2],mv 24 0,⟨some 25,.nck,[.t 24],[4],none⟩,fa 26 1 25 [5],ld 27 26 [6],⟨some 28,.iad 1,[.t 23,.t 27],[3,7],none⟩,ld 29 28 [8],mv 5 29 [9,0,1,2,3,4,5,6,7,8,9]] true).seq
 ((rg [mv 30 0,⟨some 31,.nck,[.t 30],[0],none⟩,fa 32 1 31 [1],ld 33 32 [2],⟨some 34,.bin .add,[.t 33,ci 1],[3],none⟩,⟨some 35,.nck,[.t 30],[0,0,1,2,3,4],none⟩,fa 36 1 35 [5,0,1,2,3,4],⟨none,.store 1,[.t 36,.t 34],[6,4,0,1,2,3,4],none⟩] false).seq
 ((rg [mv 37 5,mv 38 1,⟨some 39,.call 38,[.t 37,.t 38],[0,1],none⟩,mv 4 39 [2,2,0,1,2]] false).seq AC.ret))))
def rs_make_Deck_Next:List RV:=[.t 4]
theorem c_make_Deck_Next:compile Tryz.prog ⟨Go.Func.ntmps Tryz.f9,[]⟩ (Tryz.f9.body.getD .skip)=some ac_make_Deck_Next:=by kernel_rfl
theorem go_make_Deck_Next:GoT Tryz.f9.ntmps 9 ac_make_Deck_Next rs_make_Deck_Next:=goT Tryz.func9 (by kernel_rfl) c_make_Deck_Next (by kernel_rfl)
def ac_make_Plan:AC :=
 (rg [⟨some 2,.alloc [I 0],[],[],none⟩,⟨some 3,.alloc [I 0,I 0],[],[],none⟩] false).seq
 ((rg [mv 5 0,⟨some 6,.call 9,[.t 5,ci 6],[0],none⟩,⟨some 7,.bin .add,[ci 2,.t 6],[1],none⟩,⟨some 8,.build [I 0,I 0] [(0,1)],[.t 7],[2],none⟩,⟨some 4,.alloc [I 0,I 0],[],[],none⟩,⟨none,.store 2,[.t 4,.t 8],[4,3,1,0,1,2,3,4],none⟩] false).seq
 ((rg [mv 9 0,fa 10 0 4,ld 11 10 [1],⟨some 12,.bin .sub,[.t 11,ci 1],[2],none⟩,⟨some 13,.call 9,[.t 9,.t 12],[0,3],none⟩,⟨some 14,.bin .add,[ci 1,.t 13],[4],none⟩,fa 15 1 4 [0,1,2,3,4,5],⟨none,.store 1,[.t 15,.t 14],[6,5,4,0,1,2,3,4,5],none⟩] false).seq
 ((rg [mv 16 0,fa 17 0 4,ld 18 17 [1],⟨some 19,.call 25,[.t 16,.t 18],[0,2],none⟩,⟨some 20,.load 2 true,[.t 4],[],none⟩,⟨none,.store 1,[.t 2,.t 19],[3,3,0,1,2,3],none⟩,⟨none,.store 2,[.t 3,.t 20],[4,5,0,1,2,3,4,5],none⟩] true).seq AC.ret)))
def rs_make_Plan:List RV:=[.c 2 1 true,.c 3 2 true]
theorem c_make_Plan:compile Tryz.prog ⟨Go.Func.ntmps Tryz.f8,[]⟩ (Tryz.f8.body.getD .skip)=some ac_make_Plan:=by kernel_rfl
theorem go_make_Plan:GoT Tryz.f8.ntmps 8 ac_make_Plan rs_make_Plan:=goT Tryz.func8 (by kernel_rfl) c_make_Plan (by kernel_rfl)
def ac_make_Big:AC :=
 (rg [⟨some 4,.alloc [I 0],[],[],none⟩] false).seq
 ((rg [⟨some 6,.bsl 1 [I 0] 9 [0,1,2,3,4,5,6,7,8],[ci 2,ci 3,ci 5,ci 7,ci 11,ci 13,ci 17,ci 257,ci 65521],[],none⟩,mv 5 6 [0,0]] false).seq
 ((AC.block 0 (((rg [mv 7 5,⟨some 8,.iad 1,[.t 7,ci 0],[0],none⟩,ld 9 8 [1],mv 10 1,bn 11 .leq 9 10 [2,3]] false).seq
 (AC.cond (.t 11) AC.skip (AC.exit 0))).seq
 (AC.block 1 (rg [mv 12 5,⟨some 13,.slc true false false 1,[.t 12,ci 1],[0],none⟩,mv 5 13 [1,0,1]] false))).loop).seq
 ((rg [mv 14 5,mv 15 0,mv 16 5,⟨some 17,.len,[.t 16],[2],none⟩,⟨some 18,.call 9,[.t 15,.t 17],[1,3],none⟩,⟨some 19,.iad 1,[.t 14,.t 18],[0,4],none⟩,ld 20 19 [5],⟨some 21,.build [I 0] [(0,1)],[.t 20],[6],none⟩,⟨none,.store 1,[.t 4,.t 21],[7,4,0,1,2,3,4,5,6,7],none⟩] false).seq AC.ret)))
def rs_make_Big:List RV:=[.c 4 1 true]
theorem c_make_Big:compile Tryz.prog ⟨Go.Func.ntmps Tryz.f25,[]⟩ (Tryz.f25.body.getD .skip)=some ac_make_Big:=by kernel_rfl
theorem go_make_Big:GoT Tryz.f25.ntmps 25 ac_make_Big rs_make_Big:=goT Tryz.func25 (by kernel_rfl) c_make_Big (by kernel_rfl)
def ac_make_Rows:AC :=
 (rg [⟨some 5,.box,[.t 1],[],none⟩,⟨some 8,.mov,[AV.c (V.nl 1)],[],none⟩] false).seq
 ((rg [⟨some 9,.mov,[AV.c (V.nl 1)],[],none⟩] false).seq
 (((rg [mv 10 2,⟨some 11,.mov,[ci 0],[],none⟩] false).seq
 (AC.block 0 ((rg [bn 12 .lss 11 10] false).seq
 ((AC.cond (.t 12) AC.skip (AC.exit 0)).seq
 ((AC.block 1 (rg [mv 13 9,mv 14 0,⟨some 15,.load 1 true,[.t 5],[],none⟩,mv 16 3,⟨some 17,.call 39,[.t 14,.t 15,.t 16],[1,2,3],none⟩,⟨some 18,.bsl 1 [V.nl 1] 1 [0],[.t 17],[4],none⟩,⟨some 19,.app 1 24,[.t 13,.t 18],[0,5,4],none⟩,mv 9 19 [6,6,0,1,2,3,4,5,6]] false)).seq
 (rg [⟨some 20,.bin .add,[.t 11,ci 1],[],none⟩,mv 11 20 [0]] false)))).loop)).seq
 ((rg [mv 21 9,mv 8 21 [0,0]] false).seq AC.ret)))
def rs_make_Rows:List RV:=[.t 8]
theorem c_make_Rows:compile Tryz.prog ⟨Go.Func.ntmps Tryz.f10,[]⟩ (Tryz.f10.body.getD .skip)=some ac_make_Rows:=by kernel_rfl
theorem go_make_Rows:GoT Tryz.f10.ntmps 10 ac_make_Rows rs_make_Rows:=goT Tryz.func10 (by kernel_rfl) c_make_Rows (by kernel_rfl)
def ac_make_Elements:AC :=
 (rg [⟨some 4,.box,[.t 1],[],none⟩,⟨some 6,.mov,[AV.c (V.nl 1)],[],none⟩] false).seq
 ((rg [⟨some 7,.mov,[AV.c (V.nl 1)],[],none⟩] false).seq
 (((rg [mv 8 2,⟨some 9,.mov,[ci 0],[],none⟩] false).seq
 (AC.block 0 ((rg [bn 10 .lss 9 8] false).seq
 ((AC.cond (.t 10) AC.skip (AC.exit 0)).seq
 ((AC.block 1 (rg [mv 11 7,mv 12 0,fa 13 0 4,ld 14 13 [2],⟨some 15,.call 9,[.t 12,.t 14],[1,3],none⟩,⟨some 16,.bsl 1 [I 0] 1 [0],[.t 15],[4],none⟩,⟨some 17,.app 1 8,[.t 11,.t 16],[0,5,4],none⟩,mv 7 17 [6,6,0,1,2,3,4,5,6]] false)).seq
 (rg [⟨some 18,.bin .add,[.t 9,ci 1],[],none⟩,mv 9 18 [0]] false)))).loop)).seq
 ((rg [mv 19 7,mv 6 19 [0,0]] false).seq AC.ret)))
def rs_make_Elements:List RV:=[.t 6]
theorem c_make_Elements:compile Tryz.prog ⟨Go.Func.ntmps Tryz.f39,[]⟩ (Tryz.f39.body.getD .skip)=some ac_make_Elements:=by kernel_rfl
theorem go_make_Elements:GoT Tryz.f39.ntmps 39 ac_make_Elements rs_make_Elements:=goT Tryz.func39 (by kernel_rfl) c_make_Elements (by kernel_rfl)
def ac_make_People:AC :=
 (rg [⟨some 4,.mov,[AV.c (V.nl 2)],[],none⟩] false).seq
 ((rg [⟨some 5,.mov,[AV.c (V.nl 2)],[],none⟩] false).seq
 ((rg [⟨some 6,.mov,[ci 0],[],none⟩] false).seq
 (((rg [⟨some 7,.mov,[ci 1],[],none⟩] false).seq
 (AC.block 0 (((rg [mv 8 7,mv 9 1,bn 10 .leq 8 9 [0,1]] false).seq
 (AC.cond (.t 10) AC.skip (AC.exit 0))).seq
 ((AC.block 1 ((rg [mv 13 6,mv 14 0,⟨some 15,.call 9,[.t 14,ci 50],[1],none⟩,⟨some 16,.bin .add,[ci 1,.t 15],[2],none⟩,bn 17 .add 13 16 [0,3],mv 6 17 [4,2,0,1,2,3,4]] false).seq
 (rg [mv 18 5,mv 19 7,mv 20 6,⟨some 21,.build [I 0,I 0] [(0,1),(1,1)],[.t 19,.t 20],[1,2],none⟩,⟨some 22,.bsl 2 [I 0,I 0] 1 [0],[.t 21],[3],none⟩,⟨some 23,.app 2 16,[.t 18,.t 22],[0,4],none⟩,mv 5 23 [5,5,0,1,2,3,4,5]] false))).seq
 (rg [mv 11 7,⟨some 12,.bin .add,[.t 11,ci 1],[0],none⟩,mv 7 12 [1,0,1]] false))).loop)).seq
 ((rg [mv 24 5,mv 4 24 [0,0]] false).seq AC.ret))))
def rs_make_People:List RV:=[.t 4]
theorem c_make_People:compile Tryz.prog ⟨Go.Func.ntmps Tryz.f11,[]⟩ (Tryz.f11.body.getD .skip)=some ac_make_People:=by kernel_rfl
theorem go_make_People:GoT Tryz.f11.ntmps 11 ac_make_People rs_make_People:=goT Tryz.func11 (by kernel_rfl) c_make_People (by kernel_rfl)
def ac_make_Seed:AC :=
 (rg [⟨some 4,.alloc [V.nl 1,I 0],[],[],none⟩] false).seq
 ((rg [mv 8 0,⟨some 9,.call 9,[.t 8,ci 2147483646],[0],none⟩,⟨some 10,.bin .add,[ci 1,.t 9],[1],none⟩,mv 11 1,⟨some 12,.call 43,[.t 10,.t 11],[2,3,1],none⟩,mv 7 12 [4],xt 13 0 7 [5],xt 14 1 7 [5],⟨some 5,.alloc [V.nl 1,I 0],[],[],none⟩,⟨none,.store 2,[.t 5,.t 13],[8,6,4,0,1,2,3,4,5,6,8],none⟩,mv 6 14 [7,9,0,1,2,3,4,5,6,7,8,9]] false).seq
 ((rg [⟨some 15,.load 2 true,[.t 5],[],none⟩,⟨none,.store 2,[.t 4,.t 15],[0,0],none⟩] false).seq AC.ret))
def rs_make_Seed:List RV:=[.c 4 2 true]
theorem c_make_Seed:compile Tryz.prog ⟨Go.Func.ntmps Tryz.f14,[]⟩ (Tryz.f14.body.getD .skip)=some ac_make_Seed:=by kernel_rfl
theorem go_make_Seed:GoT Tryz.f14.ntmps 14 ac_make_Seed rs_make_Seed:=goT Tryz.func14 (by kernel_rfl) c_make_Seed (by kernel_rfl)
def ac_make_Answers:AC :=
 (rg [⟨some 6,.box,[.t 1],[],none⟩,⟨some 10,.mov,[AV.c (V.nl 2)],[],none⟩,⟨some 11,.mov,[AV.c (V.nl 1)],[1],none⟩] false).seq
 ((rg [⟨some 12,.mov,[AV.c (V.nl 2)],[],none⟩] false).seq
 (((rg [mv 22 2,⟨some 23,.len,[.t 22],[0],none⟩,⟨some 24,.mov,[ci 0],[],none⟩] false).seq
 (AC.block 0 ((rg [bn 25 .lss 24 23] false).seq
 ((AC.cond (.t 25) AC.skip (AC.exit 0)).seq
 ((AC.block 1 ((rg [⟨some 26,.iad 1,[.t 22,.t 24],[],none⟩,ld 27 26 [0],mv 14 27 [1,0,1]] false).seq
 (rg [mv 28 12,mv 29 14,⟨some 30,.app 1 8,[AV.c (V.nl 1),.t 29],[1],none⟩,⟨some 31,.build [B false,V.nl 1] [(0,1),(1,1)],[cb true,.t 30],[2],none⟩,⟨some 32,.bslw 2,[.t 31],[3],none⟩,⟨some 33,.app 2 32,[.t 28,.t 32],[0,4,2],none⟩,mv 12 33 [5,5,0,1,2,3,4,5]] false))).seq
 (rg [⟨some 34,.bin .add,[.t 24,ci 1],[],none⟩,mv 24 34 [0]] false)))).loop)).seq
 ((rg [mv 35 2,⟨some 36,.len,[.t 35],[0],none⟩,⟨some 37,.mks 1 [B false] 1,[.t 36,.t 36],[1,1],none⟩,mv 15 37 [2,0,1,2]] false).seq
 (((rg [mv 38 0,mv 39 2,⟨some 40,.len,[.t 39],[1],none⟩,⟨some 41,.call 49,[.t 38,.t 40],[0,2],none⟩,⟨some 42,.len,[.t 41],[3],none⟩,⟨some 43,.mov,[ci 0],[],none⟩] false).seq
 (AC.block 2 ((rg [bn 44 .lss 43 42] false).seq
 ((AC.cond (.t 44) AC.skip (AC.exit 2)).seq
 ((AC.block 3 ((rg [mv 45 43,⟨some 46,.iad 1,[.t 41,.t 43],[],none⟩,ld 47 46 [1],mv 16 45 [0,0,1,2],mv 17 47 [2,3,0,1,2,3]] false).seq
 ((rg [mv 48 16,mv 49 3,bn 50 .lss 48 49 [0,1],mv 51 50 [2],⟨some 52,.mov,[.t 2],[3],some (3,51,true)⟩,⟨some 53,.mov,[.t 17],[3],some (3,51,true)⟩,⟨some 54,.iad 1,[.t 52,.t 53],[4,5,3],some (3,51,true)⟩,⟨some 55,.load 1 false,[.t 54],[6,3],some (3,51,true)⟩,⟨some 56,.len,[.t 55],[7,3],some (3,51,true)⟩,⟨some 57,.bin .gtr,[.t 56,ci 0],[8,3],some (3,51,true)⟩,⟨some 58,.pick,[.t 51,.t 57,cb false],[3,9],none⟩] false).seq
 (AC.cond (.t 58) ((rg [mv 59 0,mv 60 2,mv 61 17,⟨some 62,.iad 1,[.t 60,.t 61],[1,2],none⟩,ld 63 62 [3],⟨some 64,.len,[.t 63],[4],none⟩,⟨some 65,.call 9,[.t 59,.t 64],[0,5],none⟩,mv 18 65 [6,6,0,1,2,3,4,5,6]] false).seq
 ((rg [mv 66 12,mv 67 17,⟨some 68,.iad 2,[.t 66,.t 67],[0,1],none⟩,fa 69 1 68 [2],ld 70 69 [3],mv 71 18,mv 72 12,mv 73 17,⟨some 74,.iad 2,[.t 72,.t 73],[6,7],none⟩,fa 75 1 74 [8],ld 76 75 [9],mv 77 18,⟨some 78,.iad 1,[.t 76,.t 77],[10,11],none⟩,ld 79 78 [12],⟨some 80,.bin .add,[.t 79,ci 1],[13],none⟩,mv 81 0,fa 82 0 6,ld 83 82 [16],⟨some 84,.bin .sub,[.t 83,ci 1],[17],none⟩,⟨some 85,.call 9,[.t 81,.t 84],[15,18],none⟩,bn 86 .add 80 85 [14,19],fa 87 0 6,ld 88 87 [21],bn 89 .rem 86 88 [20,22],⟨some 90,.iad 1,[.t 70,.t 71],[4,5,0,1,2,3,4,5,6,7,8,9,10,11,12,13,14,15,16,17,18,19,20,21,22,23],none⟩,⟨none,.store 1,[.t 90,.t 89],[24,23,19,0,1,2,3,4,5,6,7,8,9,10,11,12,13,14,15,16,17,18,19,20,21,22,23],none⟩] true).seq
 (rg [mv 91 15,mv 92 17,⟨some 93,.iad 1,[.t 91,.t 92],[0,1,0,1],none⟩,⟨none,.store 1,[.t 93,cb true],[2,0,1],none⟩] false))) ((rg [mv 94 16,mv 95 3,bn 96 .geq 94 95 [0,1],mv 97 96 [2],⟨some 98,.mov,[.t 16],[3],some (3,97,true)⟩,⟨some 99,.mov,[.t 3],[3],some (3,97,true)⟩,⟨some 100,.mov,[.t 4],[3],some (3,97,true)⟩,⟨some 101,.bin .add,[.t 99,.t 100],[5,6,3],some (3,97,true)⟩,⟨some 102,.bin .lss,[.t 98,.t 101],[4,7,3],some (3,97,true)⟩,⟨some 103,.pick,[.t 97,.t 102,cb false],[3,8],none⟩] false).seq
 (AC.cond (.t 103) (rg [mv 104 12,mv 105 17,⟨some 106,.build [B false,V.nl 1] [],[],[],none⟩,⟨some 107,.iad 2,[.t 104,.t 105],[0,1,0,1,2],none⟩,⟨none,.store 2,[.t 107,.t 106],[3,2,0,1,2],none⟩] false) AC.skip)))))).seq
 (rg [⟨some 108,.bin .add,[.t 43,ci 1],[],none⟩,mv 43 108 [0]] false)))).loop)).seq
 ((rg [⟨some 19,.mov,[AV.c (V.nl 1)],[],none⟩] false).seq
 (((rg [mv 109 15,⟨some 110,.len,[.t 109],[0],none⟩,⟨some 111,.mov,[ci 0],[],none⟩] false).seq
 (AC.block 4 ((rg [bn 112 .lss 111 110] false).seq
 ((AC.cond (.t 112) AC.skip (AC.exit 4)).seq
 ((AC.block 5 ((rg [mv 113 111,⟨some 114,.iad 1,[.t 109,.t 111],[],none⟩,ld 115 114 [1],mv 20 113 [0,0,1,2],mv 21 115 [2,3,0,1,2,3]] false).seq
 ((rg [mv 116 21] false).seq
 (AC.cond (.t 116) (rg [mv 117 19,mv 118 20,⟨some 119,.bin .add,[.t 118,ci 1],[1],none⟩,⟨some 120,.bsl 1 [I 0] 1 [0],[.t 119],[2],none⟩,⟨some 121,.app 1 8,[.t 117,.t 120],[0,3],none⟩,mv 19 121 [4,4,0,1,2,3,4]] false) AC.skip)))).seq
 (rg [⟨some 122,.bin .add,[.t 111,ci 1],[],none⟩,mv 111 122 [0]] false)))).loop)).seq
 ((rg [mv 123 12,mv 124 19,mv 10 123 [0,0],mv 11 124 [1,2,0,1,2]] false).seq AC.ret)))))))
def rs_make_Answers:List RV:=[.t 10,.t 11]
theorem c_make_Answers:compile Tryz.prog ⟨Go.Func.ntmps Tryz.f18,[32]⟩ (Tryz.f18.body.getD .skip)=some ac_make_Answers:=by kernel_rfl
theorem go_make_Answers:GoT Tryz.f18.ntmps 18 ac_make_Answers rs_make_Answers:=goT Tryz.func18 (by kernel_rfl) c_make_Answers (by kernel_rfl)
def ac_make_Order:AC :=
 (rg [⟨some 4,.mov,[AV.c (V.nl 1)],[],none⟩] false).seq
 ((rg [⟨some 5,.mov,[AV.c (V.nl 1)],[],none⟩,⟨some 6,.mov,[AV.c (V.nl 1)],[0],none⟩] false).seq
 (((rg [mv 9 1,⟨some 10,.mov,[ci 0],[],none⟩] false).seq
 (AC.block 0 ((rg [bn 11 .lss 10 9] false).seq
 ((AC.cond (.t 11) AC.skip (AC.exit 0)).seq
 ((AC.block 1 ((rg [mv 12 10,mv 7 12 [0,0]] false).seq
 (rg [mv 13 5,mv 14 7,⟨some 15,.bsl 1 [I 0] 1 [0],[.t 14],[1],none⟩,⟨some 16,.app 1 8,[.t 13,.t 15],[0,2],none⟩,mv 5 16 [3,3,0,1,2,3]] false))).seq
 (rg [⟨some 17,.bin .add,[.t 10,ci 1],[],none⟩,mv 10 17 [0]] false)))).loop)).seq
 ((AC.block 2 (((rg [mv 18 5,⟨some 19,.len,[.t 18],[0],none⟩,⟨some 20,.bin .gtr,[.t 19,ci 0],[1],none⟩] false).seq
 (AC.cond (.t 20) AC.skip (AC.exit 2))).seq
 (AC.block 3 ((rg [mv 21 0,mv 22 5,⟨some 23,.len,[.t 22],[1],none⟩,⟨some 24,.call 9,[.t 21,.t 23],[0,2],none⟩,mv 8 24 [3,3,0,1,2,3]] false).seq
 ((rg [mv 25 6,mv 26 5,mv 27 8,⟨some 28,.iad 1,[.t 26,.t 27],[1,2],none⟩,ld 29 28 [3],⟨some 30,.bsl 1 [I 0] 1 [0],[.t 29],[4],none⟩,⟨some 31,.app 1 8,[.t 25,.t 30],[0,5],none⟩,mv 6 31 [6,6,0,1,2,3,4,5,6]] false).seq
 (rg [mv 32 5,mv 33 8,mv 34 8,⟨some 35,.fxc 1,[.t 32,.t 33,.t 34],[0,1,2],none⟩,mv 36 5,mv 37 8,⟨some 38,.bin .add,[.t 37,ci 1],[5],none⟩,⟨some 39,.slc true false false 1,[.t 36,.t 38],[4,6],none⟩,⟨some 40,.app 1 8,[.t 35,.t 39],[3,7],none⟩,mv 5 40 [8,8,0,1,2,3,4,5,6,7,8]] true))))).loop).seq
 ((rg [mv 41 6,mv 4 41 [0,0]] false).seq AC.ret))))
def rs_make_Order:List RV:=[.t 4]
theorem c_make_Order:compile Tryz.prog ⟨Go.Func.ntmps Tryz.f49,[1000035]⟩ (Tryz.f49.body.getD .skip)=some ac_make_Order:=by kernel_rfl
theorem go_make_Order:GoT Tryz.f49.ntmps 49 ac_make_Order rs_make_Order:=goT Tryz.func49 (by kernel_rfl) c_make_Order (by kernel_rfl)
def ac_make_Mod:AC :=
 (rg [⟨some 4,.mov,[ci 0],[],none⟩] false).seq
 ((rg [mv 5 0,mv 6 1,bn 7 .rem 5 6 [0,1],mv 8 1,bn 9 .add 7 8 [2,3],mv 10 1,bn 11 .rem 9 10 [4,5],mv 4 11 [6,0,1,2,3,4,5,6]] false).seq AC.ret)
def rs_make_Mod:List RV:=[.t 4]
theorem c_make_Mod:compile Tryz.prog ⟨Go.Func.ntmps Tryz.f38,[]⟩ (Tryz.f38.body.getD .skip)=some ac_make_Mod:=by kernel_rfl
theorem go_make_Mod:GoT Tryz.f38.ntmps 38 ac_make_Mod rs_make_Mod:=goT Tryz.func38 (by kernel_rfl) c_make_Mod (by kernel_rfl)
def ac_ref02_Seeded:AC :=
 (rg [⟨some 4,.alloc [V.nl 1,I 0],[],[],none⟩,⟨some 5,.mov,[ci 0],[],none⟩] false).seq
 (((rg [mv 11 0,⟨some 12,.bin .lss,[.t 11,ci 1],[0],none⟩,mv 13 12 [1],⟨some 14,.mov,[.t 0],[2],some (2,13,false)⟩,⟨some 15,.bin .geq,[.t 14,ci 2147483647],[3,2],some (2,13,false)⟩,⟨some 16,.pick,[.t 13,cb true,.t 15],[2,4],none⟩] false).seq
 (AC.cond (.t 16) ((rg [⟨some 17,.build [V.nl 1,I 0] [],[],[],none⟩,⟨none,.store 2,[.t 4,.t 17],[0,0],none⟩,⟨some 5,.mov,[ci 1],[1,0,1],none⟩] false).seq AC.ret) AC.skip)).seq
 (((rg [mv 18 1,⟨some 19,.len,[.t 18],[0],none⟩,⟨some 20,.bin .gtr,[.t 19,ci 16384],[1],none⟩] false).seq
 (AC.cond (.t 20) ((rg [⟨some 21,.build [V.nl 1,I 0] [],[],[],none⟩,⟨none,.store 2,[.t 4,.t 21],[0,0],none⟩,⟨some 5,.mov,[ci 4],[1,0,1],none⟩] false).seq AC.ret) AC.skip)).seq
 (((rg [mv 22 1,⟨some 23,.len,[.t 22],[0],none⟩,⟨some 24,.mov,[ci 0],[],none⟩] false).seq
 (AC.block 0 ((rg [bn 25 .lss 24 23] false).seq
 ((AC.cond (.t 25) AC.skip (AC.exit 0)).seq
 ((AC.block 1 ((rg [⟨some 26,.iad 1,[.t 22,.t 24],[],none⟩,ld 27 26 [0],mv 7 27 [1,0,1]] false).seq
 ((rg [mv 28 7,⟨some 29,.bin .lss,[.t 28,ci 1],[0],none⟩,mv 30 29 [1],⟨some 31,.mov,[.t 7],[2],some (2,30,false)⟩,⟨some 32,.bin .gtr,[.t 31,ci 2147483647],[3,2],some (2,30,false)⟩,⟨some 33,.pick,[.t 30,cb true,.t 32],[2,4],none⟩] false).seq
 (AC.cond (.t 33) ((rg [⟨some 34,.build [V.nl 1,I 0] [],[],[],none⟩,⟨none,.store 2,[.t 4,.t 34],[0,0],none⟩,⟨some 5,.mov,[ci 4],[1,0,1],none⟩] false).seq AC.ret) AC.skip)))).seq
 (rg [⟨some 35,.bin .add,[.t 24,ci 1],[],none⟩,mv 24 35 [0]] false)))).loop)).seq
 ((rg [⟨some 8,.alloc [V.nl 1,I 0],[],[],none⟩] false).seq
 (((rg [mv 36 1,⟨some 37,.len,[.t 36],[0],none⟩,⟨some 38,.mov,[ci 0],[],none⟩] false).seq
 (AC.block 2 ((rg [bn 39 .lss 38 37] false).seq
 ((AC.cond (.t 39) AC.skip (AC.exit 2)).seq
 ((AC.block 3 ((rg [⟨some 40,.iad 1,[.t 36,.t 38],[],none⟩,ld 41 40 [0],mv 10 41 [1,0,1]] false).seq
 ((rg [mv 42 0,⟨some 43,.bin .mul,[.t 42,ci 48271],[0],none⟩,⟨some 44,.bin .rem,[.t 43,ci 2147483647],[1],none⟩,mv 0 44 [2,0,1,2]] false).seq
 (rg [fa 45 0 8,ld 46 45 [0],mv 47 0,mv 48 10,bn 49 .rem 47 48 [2,3],⟨some 50,.bsl 1 [I 0] 1 [0],[.t 49],[4],none⟩,⟨some 51,.app 1 8,[.t 46,.t 50],[1,5],none⟩,fa 52 0 8 [0,1,2,3,4,5,6],⟨none,.store 1,[.t 52,.t 51],[7,6,6,0,1,2,3,4,5,6],none⟩] true)))).seq
 (rg [⟨some 53,.bin .add,[.t 38,ci 1],[],none⟩,mv 38 53 [0]] false)))).loop)).seq
 ((rg [⟨some 54,.load 2 true,[.t 8],[],none⟩,⟨none,.store 2,[.t 4,.t 54],[0,0],none⟩,⟨some 5,.mov,[ci 0],[1,0,1],none⟩] false).seq AC.ret))))))
def rs_ref02_Seeded:List RV:=[.c 4 2 true,.t 5]
theorem c_ref02_Seeded:compile Tryz.prog ⟨Go.Func.ntmps Tryz.f43,[]⟩ (Tryz.f43.body.getD .skip)=some ac_ref02_Seeded:=by kernel_rfl
theorem go_ref02_Seeded:GoT Tryz.f43.ntmps 43 ac_ref02_Seeded rs_ref02_Seeded:=goT Tryz.func43 (by kernel_rfl) c_ref02_Seeded (by kernel_rfl)
def ac_curve_Limits:AC :=
 (rg [⟨some 3,.box,[.t 0],[],none⟩,⟨some 4,.box,[.t 1],[],none⟩,⟨some 6,.mov,[AV.c (V.nl 1)],[],none⟩,⟨some 7,.mov,[ci 0],[2],none⟩] false).seq
 (((rg [⟨some 10,.load 1 true,[.t 3],[],none⟩,⟨some 11,.load 2 true,[.t 4],[],none⟩,mv 12 2,⟨some 13,.call 40,[.t 10,.t 11,.t 12],[0,1,2],none⟩,mv 8 13 [3,3,0,1,2,3]] false).seq
 ((rg [mv 14 8,⟨some 15,.bin .neq,[.t 14,ci 0],[0],none⟩] false).seq
 (AC.cond (.t 15) ((rg [mv 16 8,⟨some 6,.mov,[AV.c (V.nl 1)],[],none⟩,mv 7 16 [0,1,0,1]] false).seq AC.ret) AC.skip))).seq
 ((rg [⟨some 9,.mov,[AV.c (V.nl 1)],[],none⟩] false).seq
 (((rg [mv 17 2,fa 18 1 4,ld 19 18 [1],bn 20 .mul 17 19 [0,2],⟨some 21,.mov,[ci 0],[],none⟩] false).seq
 (AC.block 0 ((rg [bn 22 .lss 21 20] false).seq
 ((AC.cond (.t 22) AC.skip (AC.exit 0)).seq
 ((AC.block 1 (rg [mv 23 9,fa 24 0 3,ld 25 24 [1],⟨some 26,.bsl 1 [I 0] 1 [0],[.t 25],[2],none⟩,⟨some 27,.app 1 8,[.t 23,.t 26],[0,3],none⟩,mv 9 27 [4,4,0,1,2,3,4]] false)).seq
 (rg [⟨some 28,.bin .add,[.t 21,ci 1],[],none⟩,mv 21 28 [0]] false)))).loop)).seq
 ((rg [mv 29 9,mv 6 29 [0,0],⟨some 7,.mov,[ci 0],[1,0,1],none⟩] false).seq AC.ret))))
def rs_curve_Limits:List RV:=[.t 6,.t 7]
theorem c_curve_Limits:compile Tryz.prog ⟨Go.Func.ntmps Tryz.f12,[]⟩ (Tryz.f12.body.getD .skip)=some ac_curve_Limits:=by kernel_rfl
theorem go_curve_Limits:GoT Tryz.f12.ntmps 12 ac_curve_Limits rs_curve_Limits:=goT Tryz.func12 (by kernel_rfl) c_curve_Limits (by kernel_rfl)
def ac_curve_Queries:AC :=
 (rg [⟨some 5,.box,[.t 0],[],none⟩,⟨some 6,.box,[.t 1],[],none⟩,⟨some 9,.box,[.t 4],[],none⟩,⟨some 10,.mov,[AV.c (V.nl 1)],[],none⟩,⟨some 11,.alloc [V.nl 1,I 0],[],[],none⟩,⟨some 12,.mov,[ci 0],[3],none⟩] false).seq
 (((rg [⟨some 25,.load 1 true,[.t 5],[],none⟩,⟨some 26,.load 2 true,[.t 6],[],none⟩,mv 27 2,⟨some 28,.call 40,[.t 25,.t 26,.t 27],[0,1,2],none⟩,mv 13 28 [3,3,0,1,2,3]] false).seq
 ((rg [mv 29 13,⟨some 30,.bin .neq,[.t 29,ci 0],[0],none⟩] false).seq
 (AC.cond (.t 30) ((rg [⟨some 31,.build [V.nl 1,I 0] [],[],[],none⟩,mv 32 13,⟨some 10,.mov,[AV.c (V.nl 1)],[],none⟩,⟨none,.store 2,[.t 11,.t 31],[0,2,0,2],none⟩,mv 12 32 [1,3,0,1,2,3]] false).seq AC.ret) AC.skip))).seq
 (((rg [mv 33 3,⟨some 34,.bin .lss,[.t 33,ci 0],[0],none⟩,mv 35 34 [1],⟨some 36,.mov,[.t 3],[2],some (2,35,false)⟩,⟨some 37,.mov,[.t 2],[2],some (2,35,false)⟩,⟨some 38,.bin .geq,[.t 36,.t 37],[3,4,2],some (2,35,false)⟩,⟨some 39,.pick,[.t 35,cb true,.t 38],[2,5],none⟩] false).seq
 (AC.cond (.t 39) ((rg [⟨some 40,.build [V.nl 1,I 0] [],[],[],none⟩,⟨some 10,.mov,[AV.c (V.nl 1)],[],none⟩,⟨none,.store 2,[.t 11,.t 40],[0,1,0,1],none⟩,⟨some 12,.mov,[ci 6],[2,0,1,2],none⟩] false).seq AC.ret) AC.skip)).seq
 ((rg [⟨some 42,.load 2 true,[.t 9],[],none⟩,fa 43 0 5,ld 44 43 [1],mv 45 2,fa 46 1 6,ld 47 46 [4],bn 48 .mul 45 47 [3,5],⟨some 49,.call 41,[.t 42,.t 44,.t 48],[0,2,6],none⟩,mv 41 49 [7],xt 50 0 41 [8],xt 51 1 41 [8],xt 52 2 41 [8],⟨some 14,.alloc [V.nl 1,I 0],[],[],none⟩,⟨none,.store 2,[.t 14,.t 50],[12,9,7,0,1,2,3,4,5,6,7,8,9,12],none⟩,mv 15 51 [10,13,0,1,2,3,4,5,6,7,8,9,10,12,13],mv 16 52 [11,14,0,1,2,3,4,5,6,7,8,9,10,11,12,13,14]] false).seq
 (((rg [mv 53 16,⟨some 54,.bin .neq,[.t 53,ci 0],[0],none⟩] false).seq
 (AC.cond (.t 54) ((rg [⟨some 55,.build [V.nl 1,I 0] [],[],[],none⟩,mv 56 16,⟨some 10,.mov,[AV.c (V.nl 1)],[],none⟩,⟨none,.store 2,[.t 11,.t 55],[0,2,0,2],none⟩,mv 12 56 [1,3,0,1,2,3]] false).seq AC.ret) AC.skip)).seq
 ((rg [fa 57 0 6,ld 58 57 [0],⟨some 59,.mks 1 [] 24,[.t 58,.t 58],[1,1],none⟩,mv 17 59 [2,0,1,2]] false).seq
 (((rg [mv 60 2,⟨some 61,.mov,[ci 0],[],none⟩] false).seq
 (AC.block 0 ((rg [bn 62 .lss 61 60] false).seq
 ((AC.cond (.t 62) AC.skip (AC.exit 0)).seq
 ((AC.block 1 ((rg [mv 63 61,mv 18 63 [0,0]] false).seq
 ((rg [⟨some 19,.mov,[ci 0],[],none⟩] false).seq
 (((rg [mv 64 18,mv 65 3,bn 66 .eql 64 65 [0,1]] false).seq
 (AC.cond (.t 66) (rg [⟨some 19,.mov,[ci 1],[],none⟩] false) AC.skip)).seq
 ((rg [⟨some 68,.load 1 true,[.t 5],[],none⟩,mv 69 19,fa 70 1 6,ld 71 70 [2],fa 72 0 6,ld 73 72 [4],mv 74 15,mv 75 18,fa 76 1 6,ld 77 76 [8],bn 78 .mul 75 77 [7,9],mv 79 18,⟨some 80,.bin .add,[.t 79,ci 1],[11],none⟩,fa 81 1 6,ld 82 81 [13],bn 83 .mul 80 82 [12,14],⟨some 84,.slc true true false 1,[.t 74,.t 78,.t 83],[6,10,15],none⟩,⟨some 85,.build [V.nl 1,I 0] [(0,1)],[.t 84],[16],none⟩,⟨some 86,.call 42,[.t 68,.t 69,.t 71,.t 73,.t 85],[0,1,3,5,17],none⟩,mv 67 86 [18],xt 87 0 67 [19],xt 88 1 67 [19],xt 89 2 67 [19],⟨some 21,.alloc [V.nl 1,I 0],[],[],none⟩,mv 20 87 [20,18,0,1,2,3,4,5,6,7,8,9,10,11,12,13,14,15,16,17,18,19,20,23],⟨none,.store 2,[.t 21,.t 88],[23,21,24,0,1,2,3,4,5,6,7,8,9,10,11,12,13,14,15,16,17,18,19,20,21,23,24],none⟩,mv 22 89 [22,25,0,1,2,3,4,5,6,7,8,9,10,11,12,13,14,15,16,17,18,19,20,21,22,23,24,25]] true).seq
 (((rg [mv 90 22,⟨some 91,.bin .neq,[.t 90,ci 0],[0],none⟩] false).seq
 (AC.cond (.t 91) ((rg [⟨some 92,.build [V.nl 1,I 0] [],[],[],none⟩,mv 93 22,⟨some 10,.mov,[AV.c (V.nl 1)],[],none⟩,⟨none,.store 2,[.t 11,.t 92],[0,2,0,2],none⟩,mv 12 93 [1,3,0,1,2,3]] false).seq AC.ret) AC.skip)).seq
 ((rg [mv 94 20,⟨some 95,.len,[.t 94],[0],none⟩,⟨some 96,.mov,[ci 0],[],none⟩] false).seq
 (AC.block 2 ((rg [bn 97 .lss 96 95] false).seq
 ((AC.cond (.t 97) AC.skip (AC.exit 2)).seq
 ((AC.block 3 ((rg [mv 98 96,⟨some 99,.iad 2,[.t 94,.t 96],[],none⟩,⟨some 100,.load 2 true,[.t 99],[1],none⟩,⟨some 24,.alloc [I 0,I 0],[],[],none⟩,mv 23 98 [0,0,1,2,3],⟨none,.store 2,[.t 24,.t 100],[3,2,4,0,1,2,3,4],none⟩] false).seq
 (rg [mv 101 17,mv 102 23,mv 103 17,mv 104 23,⟨some 105,.iad 1,[.t 103,.t 104],[2,3],none⟩,ld 106 105 [4],fa 107 1 24,ld 108 107 [6],⟨some 109,.bsl 1 [I 0] 1 [0],[.t 108],[7],none⟩,⟨some 110,.app 1 8,[.t 106,.t 109],[5,8],none⟩,⟨some 111,.iad 1,[.t 101,.t 102],[0,1,0,1,2,3,4,5,6,7,8,9],none⟩,⟨none,.store 1,[.t 111,.t 110],[10,9,9,0,1,2,3,4,5,6,7,8,9],none⟩] true))).seq
 (rg [⟨some 112,.bin .add,[.t 96,ci 1],[],none⟩,mv 96 112 [0]] false)))).loop)))))))).seq
 (rg [⟨some 113,.bin .add,[.t 61,ci 1],[],none⟩,mv 61 113 [0]] false)))).loop)).seq
 ((rg [fa 114 0 9,ld 115 114 [0],⟨some 116,.app 1 8,[AV.c (V.nl 1),.t 115],[1],none⟩,fa 117 0 9 [0,1,2],⟨none,.store 1,[.t 117,.t 116],[3,2,2,0,1,2],none⟩] false).seq
 ((rg [fa 118 1 9,ld 119 118 [0],mv 120 15,⟨some 121,.len,[.t 120],[2],none⟩,bn 122 .add 119 121 [1,3],fa 123 1 9 [0,1,2,3,4],⟨none,.store 1,[.t 123,.t 122],[5,4,0,1,2,3,4],none⟩] false).seq
 ((rg [mv 124 17,⟨some 125,.load 2 true,[.t 9],[],none⟩,mv 10 124 [0,0],⟨none,.store 2,[.t 11,.t 125],[1,2,0,1,2],none⟩,⟨some 12,.mov,[ci 0],[3,0,1,2,3],none⟩] true).seq AC.ret)))))))))
def rs_curve_Queries:List RV:=[.t 10,.c 11 2 true,.t 12]
theorem c_curve_Queries:compile Tryz.prog ⟨Go.Func.ntmps Tryz.f13,[]⟩ (Tryz.f13.body.getD .skip)=some ac_curve_Queries:=by kernel_rfl
theorem go_curve_Queries:GoT Tryz.f13.ntmps 13 ac_curve_Queries rs_curve_Queries:=goT Tryz.func13 (by kernel_rfl) c_curve_Queries (by kernel_rfl)
def ac_ref04_Same:AC :=
 (rg [⟨some 4,.mov,[cb false],[],none⟩] false).seq
 (((rg [mv 6 0,⟨some 7,.len,[.t 6],[0],none⟩,mv 8 1,⟨some 9,.len,[.t 8],[2],none⟩,bn 10 .neq 7 9 [1,3]] false).seq
 (AC.cond (.t 10) ((rg [⟨some 4,.mov,[cb false],[],none⟩] false).seq AC.ret) AC.skip)).seq
 (((rg [mv 11 0,⟨some 12,.len,[.t 11],[0],none⟩,⟨some 13,.mov,[ci 0],[],none⟩] false).seq
 (AC.block 0 ((rg [bn 14 .lss 13 12] false).seq
 ((AC.cond (.t 14) AC.skip (AC.exit 0)).seq
 ((AC.block 1 ((rg [mv 15 13,mv 5 15 [0,0]] false).seq
 ((rg [mv 16 0,mv 17 5,⟨some 18,.iad 1,[.t 16,.t 17],[0,1],none⟩,ld 19 18 [2],mv 20 1,mv 21 5,⟨some 22,.iad 1,[.t 20,.t 21],[4,5],none⟩,ld 23 22 [6],bn 24 .neq 19 23 [3,7]] true).seq
 (AC.cond (.t 24) ((rg [⟨some 4,.mov,[cb false],[],none⟩] false).seq AC.ret) AC.skip)))).seq
 (rg [⟨some 25,.bin .add,[.t 13,ci 1],[],none⟩,mv 13 25 [0]] false)))).loop)).seq
 ((rg [⟨some 4,.mov,[cb true],[],none⟩] false).seq AC.ret)))
def rs_ref04_Same:List RV:=[.t 4]
theorem c_ref04_Same:compile Tryz.prog ⟨Go.Func.ntmps Tryz.f20,[]⟩ (Tryz.f20.body.getD .skip)=some ac_ref04_Same:=by kernel_rfl
theorem go_ref04_Same:GoT Tryz.f20.ntmps 20 ac_ref04_Same rs_ref04_Same:=goT Tryz.func20 (by kernel_rfl) c_ref04_Same (by kernel_rfl)
def ac_parity_Answer:AC :=
 (rg [⟨some 4,.box,[.t 0],[],none⟩,⟨some 8,.mov,[AV.c (V.nl 1)],[],none⟩,⟨some 9,.mov,[ci 0],[1],none⟩] false).seq
 ((rg [⟨some 10,.load 1 true,[.t 4],[],none⟩,mv 11 3,mv 12 2,mv 13 1,⟨some 14,.call 16,[.t 10,.t 11,.t 12,.t 13],[0,1,2,3],none⟩,xt 15 0 14 [4],xt 16 1 14 [4],mv 8 15 [5,4,0,1,2,3,4,5,6],mv 9 16 [6,7,0,1,2,3,4,5,6,7]] false).seq AC.ret)
def rs_parity_Answer:List RV:=[.t 8,.t 9]
theorem c_parity_Answer:compile Tryz.prog ⟨Go.Func.ntmps Tryz.f23,[]⟩ (Tryz.f23.body.getD .skip)=some ac_parity_Answer:=by kernel_rfl
theorem go_parity_Answer:GoT Tryz.f23.ntmps 23 ac_parity_Answer rs_parity_Answer:=goT Tryz.func23 (by kernel_rfl) c_parity_Answer (by kernel_rfl)
def ac_curve_Decode:AC :=
 (rg [⟨some 4,.box,[.t 0],[],none⟩,⟨some 5,.box,[.t 1],[],none⟩,⟨some 8,.alloc [V.nl 1,V.nl 1],[],[],none⟩,⟨some 9,.mov,[ci 0],[],none⟩] false).seq
 (((rg [⟨some 19,.load 1 true,[.t 4],[],none⟩,⟨some 20,.load 2 true,[.t 5],[],none⟩,⟨some 21,.call 50,[.t 19,.t 20],[0,1],none⟩,mv 10 21 [2,2,0,1,2]] false).seq
 ((rg [mv 22 10,⟨some 23,.bin .neq,[.t 22,ci 0],[0],none⟩] false).seq
 (AC.cond (.t 23) ((rg [⟨some 24,.build [V.nl 1,V.nl 1] [],[],[],none⟩,mv 25 10,⟨none,.store 2,[.t 8,.t 24],[0,0],none⟩,mv 9 25 [1,2,0,1,2]] false).seq AC.ret) AC.skip))).seq
 (((rg [⟨some 26,.load 1 true,[.t 4],[],none⟩,mv 27 2,fa 28 0 5,ld 29 28 [2],fa 30 1 5,ld 31 30 [4],⟨some 32,.bin .add,[.t 31,ci 1],[5],none⟩,mv 33 3,⟨some 34,.call 51,[.t 26,.t 27,.t 29,.t 32,.t 33],[0,1,3,6,7],none⟩,mv 11 34 [8,8,0,1,2,3,4,5,6,7,8]] false).seq
 ((rg [mv 35 11,⟨some 36,.bin .neq,[.t 35,ci 0],[0],none⟩] false).seq
 (AC.cond (.t 36) ((rg [⟨some 37,.build [V.nl 1,V.nl 1] [],[],[],none⟩,mv 38 11,⟨none,.store 2,[.t 8,.t 37],[0,0],none⟩,mv 9 38 [1,2,0,1,2]] false).seq AC.ret) AC.skip))).seq
 ((rg [⟨some 39,.load 1 true,[.t 4],[],none⟩,fa 40 1 5,ld 41 40 [1],⟨some 42,.bin .add,[.t 41,ci 1],[2],none⟩,mv 43 3,⟨some 44,.build [I 0,I 0,V.nl 2] [(0,1),(1,1),(2,1)],[.t 39,.t 42,.t 43],[0,3,4],none⟩,⟨some 12,.alloc [I 0,I 0,V.nl 2],[],[],none⟩,⟨none,.store 3,[.t 12,.t 44],[6,5,0,1,2,3,4,5,6],none⟩] false).seq
 ((rg [⟨some 46,.load 3 true,[.t 12],[],none⟩,mv 47 2,⟨some 48,.call 52,[.t 46,.t 47,AV.c (V.cl 53 [])],[0,1],none⟩,mv 45 48 [2],xt 49 0 45 [3],xt 50 1 45 [3],xt 51 2 45 [3],mv 13 49 [4,2,0,1,2,3,4],mv 14 50 [5,7,0,1,2,3,4,5,7],mv 15 51 [6,8,0,1,2,3,4,5,6,7,8]] false).seq
 (((rg [mv 52 15,⟨some 53,.bin .neq,[.t 52,ci 0],[0],none⟩] false).seq
 (AC.cond (.t 53) ((rg [⟨some 54,.build [V.nl 1,V.nl 1] [],[],[],none⟩,mv 55 15,⟨none,.store 2,[.t 8,.t 54],[0,0],none⟩,mv 9 55 [1,2,0,1,2]] false).seq AC.ret) AC.skip)).seq
 ((rg [mv 56 14,⟨some 57,.build [V.nl 1,V.nl 1] [(1,1)],[.t 56],[0],none⟩,⟨some 16,.alloc [V.nl 1,V.nl 1],[],[],none⟩,⟨none,.store 2,[.t 16,.t 57],[2,1,0,1,2],none⟩] false).seq
 (((rg [mv 58 13,⟨some 59,.len,[.t 58],[0],none⟩,⟨some 60,.mov,[ci 0],[],none⟩] false).seq
 (AC.block 0 ((rg [bn 61 .lss 60 59] false).seq
 ((AC.cond (.t 61) AC.skip (AC.exit 0)).seq
 ((AC.block 1 ((rg [⟨some 62,.iad 1,[.t 58,.t 60],[],none⟩,ld 63 62 [0],mv 18 63 [1,0,1]] false).seq
 (rg [fa 64 0 16,ld 65 64 [0],mv 66 18,⟨some 67,.call 54,[.t 66,ci 0],[2],none⟩,⟨some 68,.bsl 1 [I 0] 1 [0],[.t 67],[3],none⟩,⟨some 69,.app 1 8,[.t 65,.t 68],[1,4,3],none⟩,fa 70 0 16 [0,1,2,3,4,5],⟨none,.store 1,[.t 70,.t 69],[6,5,5,0,1,2,3,4,5],none⟩] true))).seq
 (rg [⟨some 71,.bin .add,[.t 60,ci 1],[],none⟩,mv 60 71 [0]] false)))).loop)).seq
 ((rg [⟨some 72,.load 2 true,[.t 16],[],none⟩,⟨none,.store 2,[.t 8,.t 72],[0,0],none⟩,⟨some 9,.mov,[ci 0],[1,0,1],none⟩] false).seq AC.ret))))))))
def rs_curve_Decode:List RV:=[.c 8 2 true,.t 9]
theorem c_curve_Decode:compile Tryz.prog ⟨Go.Func.ntmps Tryz.f19,[]⟩ (Tryz.f19.body.getD .skip)=some ac_curve_Decode:=by kernel_rfl
theorem go_curve_Decode:GoT Tryz.f19.ntmps 19 ac_curve_Decode rs_curve_Decode:=goT Tryz.func19 (by kernel_rfl) c_curve_Decode (by kernel_rfl)
def ac_curve_check:AC :=
 (rg [⟨some 3,.box,[.t 0],[],none⟩,⟨some 4,.box,[.t 1],[],none⟩,⟨some 6,.mov,[ci 0],[],none⟩] false).seq
 ((rg [⟨some 8,.load 1 true,[.t 3],[],none⟩,⟨some 9,.load 2 true,[.t 4],[],none⟩,⟨some 10,.call 50,[.t 8,.t 9],[0,1],none⟩,mv 7 10 [2,2,0,1,2]] false).seq
 (((rg [mv 11 7,⟨some 12,.bin .eql,[.t 11,ci 0],[0],none⟩,mv 13 12 [1],⟨some 14,.mov,[.t 2],[2],some (2,13,true)⟩,⟨some 15,.bin .lss,[.t 14,ci 1],[3,2],some (2,13,true)⟩,⟨some 16,.mov,[.t 15],[4,2,2],some (2,13,true)⟩,⟨some 17,.mov,[.t 2],[5],some (5,16,false)⟩,⟨some 18,.bin .gtr,[.t 17,ci 1024],[6,5],some (5,16,false)⟩,⟨some 19,.pick,[.t 16,cb true,.t 18],[5,7,2],some (2,13,true)⟩,⟨some 20,.pick,[.t 13,.t 19,cb false],[2,8],none⟩] false).seq
 (AC.cond (.t 20) ((rg [⟨some 6,.mov,[ci 1],[],none⟩] false).seq AC.ret) AC.skip)).seq
 ((rg [mv 21 7,mv 6 21 [0,0]] false).seq AC.ret)))
def rs_curve_check:List RV:=[.t 6]
theorem c_curve_check:compile Tryz.prog ⟨Go.Func.ntmps Tryz.f40,[]⟩ (Tryz.f40.body.getD .skip)=some ac_curve_check:=by kernel_rfl
theorem go_curve_check:GoT Tryz.f40.ntmps 40 ac_curve_check rs_curve_check:=goT Tryz.func40 (by kernel_rfl) c_curve_check (by kernel_rfl)
def ac_tape_Draws:AC :=
 (rg [⟨some 3,.box,[.t 0],[],none⟩,⟨some 6,.alloc [V.nl 1,I 0],[],[],none⟩,⟨some 7,.mov,[AV.c (V.nl 1)],[],none⟩,⟨some 8,.mov,[ci 0],[2],none⟩] false).seq
 (((rg [⟨some 11,.load 2 true,[.t 3],[],none⟩,⟨some 12,.call 71,[.t 11],[0],none⟩,⟨some 13,.un .not,[.t 12],[1],none⟩] false).seq
 (AC.cond (.t 13) ((rg [⟨some 14,.build [V.nl 1,I 0] [],[],[],none⟩,⟨none,.store 2,[.t 6,.t 14],[0,0],none⟩,⟨some 7,.mov,[AV.c (V.nl 1)],[1,0,1],none⟩,⟨some 8,.mov,[ci 2],[2,0,1,2],none⟩] false).seq AC.ret) AC.skip)).seq
 (((rg [mv 15 1,⟨some 16,.call 72,[.t 15],[0],none⟩,⟨some 17,.un .not,[.t 16],[1],none⟩,mv 18 17 [2,1],⟨some 19,.mov,[.t 2],[3],some (3,18,false)⟩,⟨some 20,.bin .lss,[.t 19,ci 0],[4,3],some (3,18,false)⟩,⟨some 21,.pick,[.t 18,cb true,.t 20],[3,5],none⟩] false).seq
 (AC.cond (.t 21) ((rg [⟨some 22,.build [V.nl 1,I 0] [],[],[],none⟩,⟨none,.store 2,[.t 6,.t 22],[0,0],none⟩,⟨some 7,.mov,[AV.c (V.nl 1)],[1,0,1],none⟩,⟨some 8,.mov,[ci 1],[2,0,1,2],none⟩] false).seq AC.ret) AC.skip)).seq
 ((rg [fa 23 0 3,ld 24 23 [0],fa 25 1 3,ld 26 25 [2],⟨some 27,.build [V.nl 1,I 0] [(0,1),(1,1)],[.t 24,.t 26],[1,3],none⟩,⟨some 28,.build [V.nl 1,I 0,V.nl 1] [(0,2)],[.t 27],[4],none⟩,⟨some 29,.box,[.t 28],[5],none⟩,mv 9 29 [6,0,1,2,3,4,5,6]] false).seq
 (((rg [mv 30 9,mv 31 1,mv 32 2,⟨some 33,.call 73,[.t 30,.t 31,.t 32],[0,1,2],none⟩,mv 10 33 [3,3,0,1,2,3]] false).seq
 ((rg [mv 34 10,⟨some 35,.bin .neq,[.t 34,ci 0],[0],none⟩] false).seq
 (AC.cond (.t 35) ((rg [⟨some 36,.build [V.nl 1,I 0] [],[],[],none⟩,mv 37 10,⟨none,.store 2,[.t 6,.t 36],[0,0],none⟩,⟨some 7,.mov,[AV.c (V.nl 1)],[2,0,2],none⟩,mv 8 37 [1,3,0,1,2,3]] false).seq AC.ret) AC.skip))).seq
 ((rg [fa 38 0 3,ld 39 38 [0],⟨some 40,.call 59,[.t 39],[1],none⟩,mv 41 9,⟨some 42,.nck,[.t 41],[3],none⟩,fa 43 0 42 [4],fa 44 1 43 [5],ld 45 44 [6],⟨some 46,.build [V.nl 1,I 0] [(0,1),(1,1)],[.t 40,.t 45],[2,7],none⟩,mv 47 9,⟨some 48,.nck,[.t 47],[9],none⟩,fa 49 2 48 [10],ld 50 49 [11],⟨none,.store 2,[.t 6,.t 46],[8,2,0,1,2,3,4,5,6,7,8],none⟩,mv 7 50 [12,13,0,1,2,3,4,5,6,7,8,9,10,11,12,13],⟨some 8,.mov,[ci 0],[14,0,1,2,3,4,5,6,7,8,9,10,11,12,13,14],none⟩] true).seq AC.ret)))))
def rs_tape_Draws:List RV:=[.c 6 2 true,.t 7,.t 8]
theorem c_tape_Draws:compile Tryz.prog ⟨Go.Func.ntmps Tryz.f41,[]⟩ (Tryz.f41.body.getD .skip)=some ac_tape_Draws:=by kernel_rfl
theorem go_tape_Draws:GoT Tryz.f41.ntmps 41 ac_tape_Draws rs_tape_Draws:=goT Tryz.func41 (by kernel_rfl) c_tape_Draws (by kernel_rfl)
def ac_share_Split:AC :=
 (rg [⟨some 5,.box,[.t 0],[],none⟩,⟨some 9,.box,[.t 4],[],none⟩,⟨some 10,.mov,[AV.c (V.nl 2)],[],none⟩,⟨some 11,.alloc [V.nl 1,I 0],[],[],none⟩,⟨some 12,.mov,[ci 0],[2],none⟩] false).seq
 ((rg [⟨some 20,.load 1 true,[.t 5],[],none⟩,⟨some 21,.call 44,[.t 20],[0],none⟩,mv 19 21 [1],xt 22 0 19 [2],xt 23 1 19 [2],mv 13 22 [3,1,0,1,2,3],mv 14 23 [4,5,0,1,2,3,4,5]] false).seq
 ((AC.block 0 ((rg [mv 25 14,⟨some 26,.un .not,[.t 25],[0],none⟩,mv 27 26 [1],⟨some 28,.mov,[.t 13],[2],some (2,27,false)⟩,⟨some 29,.mov,[.t 1],[2],some (2,27,false)⟩,⟨some 30,.call 45,[.t 28,.t 29],[3,4,2,2],some (2,27,false)⟩,⟨some 31,.un .not,[.t 30],[5,2],some (2,27,false)⟩,⟨some 32,.pick,[.t 27,cb true,.t 31],[2,6],none⟩,mv 24 32 [7,5]] false).seq
 (AC.cond (.t 24) ((rg [⟨some 33,.build [V.nl 1,I 0] [],[],[],none⟩,⟨some 10,.mov,[AV.c (V.nl 2)],[],none⟩,⟨none,.store 2,[.t 11,.t 33],[0,1,0,1],none⟩,⟨some 12,.mov,[ci 9],[2,0,1,2],none⟩] false).seq AC.ret) ((rg [mv 35 2,⟨some 36,.call 74,[.t 35],[0],none⟩,⟨some 37,.un .not,[.t 36],[1],none⟩,mv 38 37 [2,1],⟨some 39,.mov,[.t 3],[3],some (3,38,false)⟩,⟨some 40,.bin .lss,[.t 39,ci 1],[4,3],some (3,38,false)⟩,⟨some 41,.pick,[.t 38,cb true,.t 40],[3,5],none⟩,mv 42 41 [6,3],⟨some 43,.mov,[.t 3],[7],some (7,42,false)⟩,⟨some 44,.fad 0,[.t 5],[7],some (7,42,false)⟩,⟨some 45,.load 1 false,[.t 44],[9,7],some (7,42,false)⟩,⟨some 46,.bin .geq,[.t 43,.t 45],[8,10,7],some (7,42,false)⟩,⟨some 47,.pick,[.t 42,cb true,.t 46],[7,11],none⟩,mv 48 47 [12,7],⟨some 49,.mov,[.t 3],[13],some (13,48,false)⟩,⟨some 50,.bin .gtr,[.t 49,ci 512],[14,13],some (13,48,false)⟩,⟨some 51,.pick,[.t 48,cb true,.t 50],[13,15],none⟩,mv 34 51 [16,13]] false).seq
 (AC.cond (.t 34) ((rg [⟨some 52,.build [V.nl 1,I 0] [],[],[],none⟩,⟨some 10,.mov,[AV.c (V.nl 2)],[],none⟩,⟨none,.store 2,[.t 11,.t 52],[0,1,0,1],none⟩,⟨some 12,.mov,[ci 1],[2,0,1,2],none⟩] false).seq AC.ret) AC.skip))))).seq
 ((rg [⟨some 54,.load 2 true,[.t 9],[],none⟩,fa 55 0 5,ld 56 55 [1],mv 57 2,⟨some 58,.call 41,[.t 54,.t 56,.t 57],[0,2,3],none⟩,mv 53 58 [4],xt 59 0 53 [5],xt 60 1 53 [5],xt 61 2 53 [5],⟨none,.store 2,[.t 9,.t 59],[6,4,0,1,2,3,4,5,6],none⟩,mv 15 60 [7,9,0,1,2,3,4,5,6,7,9],mv 16 61 [8,10,0,1,2,3,4,5,6,7,8,9,10]] false).seq
 (((rg [mv 62 16,⟨some 63,.bin .neq,[.t 62,ci 0],[0],none⟩] false).seq
 (AC.cond (.t 63) ((rg [⟨some 64,.build [V.nl 1,I 0] [],[],[],none⟩,mv 65 16,⟨some 10,.mov,[AV.c (V.nl 2)],[],none⟩,⟨none,.store 2,[.t 11,.t 64],[0,2,0,2],none⟩,mv 12 65 [1,3,0,1,2,3]] false).seq AC.ret) AC.skip)).seq
 ((rg [⟨some 17,.mov,[AV.c (V.nl 1)],[],none⟩] false).seq
 (((rg [mv 66 3,⟨some 67,.mov,[ci 0],[],none⟩] false).seq
 (AC.block 1 ((rg [bn 68 .lss 67 66] false).seq
 ((AC.cond (.t 68) AC.skip (AC.exit 1)).seq
 ((AC.block 2 ((rg [mv 69 67,mv 18 69 [0,0]] false).seq
 (rg [mv 70 17,mv 71 18,⟨some 72,.bin .add,[.t 71,ci 1],[1],none⟩,⟨some 73,.bsl 1 [I 0] 1 [0],[.t 72],[2],none⟩,⟨some 74,.app 1 8,[.t 70,.t 73],[0,3],none⟩,mv 17 74 [4,4,0,1,2,3,4]] false))).seq
 (rg [⟨some 75,.bin .add,[.t 67,ci 1],[],none⟩,mv 67 75 [0]] false)))).loop)).seq
 ((rg [mv 76 13,mv 77 1,⟨some 78,.bsl 1 [I 0] 1 [0],[.t 77],[1],none⟩,mv 79 15,⟨some 80,.app 1 8,[.t 78,.t 79],[2,3],none⟩,mv 81 17,⟨some 82,.call 75,[.t 76,.t 80,.t 81],[0,4,5,4],none⟩,⟨some 83,.load 2 true,[.t 9],[],none⟩,mv 10 82 [6,6,0,1,2,3,4,5,6],⟨none,.store 2,[.t 11,.t 83],[7,8,0,1,2,3,4,5,6,7,8],none⟩,⟨some 12,.mov,[ci 0],[9,0,1,2,3,4,5,6,7,8,9],none⟩] true).seq AC.ret)))))))
def rs_share_Split:List RV:=[.t 10,.c 11 2 true,.t 12]
theorem c_share_Split:compile Tryz.prog ⟨Go.Func.ntmps Tryz.f42,[]⟩ (Tryz.f42.body.getD .skip)=some ac_share_Split:=by kernel_rfl
theorem go_share_Split:GoT Tryz.f42.ntmps 42 ac_share_Split rs_share_Split:=goT Tryz.func42 (by kernel_rfl) c_share_Split (by kernel_rfl)
def ac_tape_valid:AC :=
 (rg [⟨some 1,.box,[.t 0],[],none⟩,⟨some 2,.mov,[cb false],[],none⟩] false).seq
 ((rg [fa 3 0 1,ld 4 3 [0],⟨some 5,.len,[.t 4],[1],none⟩,⟨some 6,.bin .leq,[.t 5,ci 16384],[2],none⟩,mv 7 6 [3],⟨some 8,.fad 1,[.t 1],[4],some (4,7,true)⟩,⟨some 9,.load 1 false,[.t 8],[5,4],some (4,7,true)⟩,⟨some 10,.bin .geq,[.t 9,ci 0],[6,4],some (4,7,true)⟩,⟨some 11,.pick,[.t 7,.t 10,cb false],[4,7],none⟩,mv 12 11 [8,4],⟨some 13,.fad 1,[.t 1],[9],some (9,12,true)⟩,⟨some 14,.load 1 false,[.t 13],[10,9],some (9,12,true)⟩,⟨some 15,.fad 0,[.t 1],[9],some (9,12,true)⟩,⟨some 16,.load 1 false,[.t 15],[12,9],some (9,12,true)⟩,⟨some 17,.len,[.t 16],[13,9],some (9,12,true)⟩,⟨some 18,.bin .leq,[.t 14,.t 17],[11,14,9],some (9,12,true)⟩,⟨some 19,.pick,[.t 12,.t 18,cb false],[9,15],none⟩,mv 2 19 [16,9,0,1,2,3,4,5,6,7,8,9,10,11,12,13,14,15,16]] false).seq AC.ret)
def rs_tape_valid:List RV:=[.t 2]
theorem c_tape_valid:compile Tryz.prog ⟨Go.Func.ntmps Tryz.f71,[]⟩ (Tryz.f71.body.getD .skip)=some ac_tape_valid:=by kernel_rfl
theorem go_tape_valid:GoT Tryz.f71.ntmps 71 ac_tape_valid rs_tape_valid:=goT Tryz.func71 (by kernel_rfl) c_tape_valid (by kernel_rfl)
def ac_curve_Check:AC :=
 (rg [⟨some 2,.box,[.t 0],[],none⟩,⟨some 3,.box,[.t 1],[],none⟩,⟨some 4,.mov,[ci 0],[],none⟩] false).seq
 (((rg [⟨some 8,.load 1 true,[.t 2],[],none⟩,⟨some 9,.call 44,[.t 8],[0],none⟩,mv 7 9 [1],xt 10 0 7 [2],xt 11 1 7 [2],mv 5 10 [3,1,0,1,2,3],mv 6 11 [4,5,0,1,2,3,4,5]] false).seq
 ((rg [mv 12 6,⟨some 13,.un .not,[.t 12],[0],none⟩] false).seq
 (AC.cond (.t 13) ((rg [⟨some 4,.mov,[ci 9],[],none⟩] false).seq AC.ret) AC.skip))).seq
 (((rg [⟨some 14,.load 2 true,[.t 3],[],none⟩,⟨some 15,.call 81,[.t 14],[0],none⟩,⟨some 16,.un .not,[.t 15],[1],none⟩,mv 17 16 [2,1],⟨some 18,.fad 0,[.t 3],[3],some (3,17,false)⟩,⟨some 19,.load 1 false,[.t 18],[4,3],some (3,17,false)⟩,⟨some 20,.fad 0,[.t 2],[3],some (3,17,false)⟩,⟨some 21,.load 1 false,[.t 20],[6,3],some (3,17,false)⟩,⟨some 22,.bin .geq,[.t 19,.t 21],[5,7,3],some (3,17,false)⟩,⟨some 23,.pick,[.t 17,cb true,.t 22],[3,8],none⟩] false).seq
 (AC.cond (.t 23) ((rg [⟨some 4,.mov,[ci 1],[],none⟩] false).seq AC.ret) AC.skip)).seq
 ((rg [⟨some 4,.mov,[ci 0],[],none⟩] false).seq AC.ret)))
def rs_curve_Check:List RV:=[.t 4]
theorem c_curve_Check:compile Tryz.prog ⟨Go.Func.ntmps Tryz.f50,[]⟩ (Tryz.f50.body.getD .skip)=some ac_curve_Check:=by kernel_rfl
theorem go_curve_Check:GoT Tryz.f50.ntmps 50 ac_curve_Check rs_curve_Check:=goT Tryz.func50 (by kernel_rfl) c_curve_Check (by kernel_rfl)
def ac_residue_Field_All:AC :=
 (rg [⟨some 2,.box,[.t 0],[],none⟩,⟨some 4,.mov,[cb false],[],none⟩] false).seq
 ((rg [mv 5 1,⟨some 6,.mkf 77,[.t 2],[],none⟩,⟨some 7,.call 76,[.t 5,.t 6],[0,1],none⟩,⟨some 8,.un .not,[.t 7],[2],none⟩,mv 4 8 [3,2,0,1,2,3]] false).seq AC.ret)
def rs_residue_Field_All:List RV:=[.t 4]
theorem c_residue_Field_All:compile Tryz.prog ⟨Go.Func.ntmps Tryz.f46,[]⟩ (Tryz.f46.body.getD .skip)=some ac_residue_Field_All:=by kernel_rfl
theorem go_residue_Field_All:GoT Tryz.f46.ntmps 46 ac_residue_Field_All rs_residue_Field_All:=goT Tryz.func46 (by kernel_rfl) c_residue_Field_All (by kernel_rfl)
def ac_columns_Columns_All:AC :=
 (rg [⟨some 3,.box,[.t 0],[],none⟩,⟨some 6,.mov,[AV.c (V.nl 1)],[],none⟩,⟨some 7,.mov,[AV.c (V.nl 1)],[1],none⟩,⟨some 8,.mov,[ci 0],[2],none⟩] false).seq
 ((rg [⟨some 9,.mov,[AV.c (V.nl 1)],[],none⟩] false).seq
 ((rg [⟨some 10,.mov,[AV.c (V.nl 1)],[],none⟩] false).seq
 (((rg [mv 14 1,⟨some 15,.mov,[ci 0],[],none⟩] false).seq
 (AC.block 0 ((rg [bn 16 .lss 15 14] false).seq
 ((AC.cond (.t 16) AC.skip (AC.exit 0)).seq
 ((AC.block 1 ((rg [mv 17 15,mv 11 17 [0,0]] false).seq
 ((rg [mv 19 2,⟨some 20,.load 3 true,[.t 3],[],none⟩,mv 21 11,⟨some 22,.callv,[.t 19,.t 20,.t 21],[0,1,2],none⟩,mv 18 22 [3],xt 23 0 18 [4],xt 24 1 18 [4],⟨some 12,.alloc [V.nl 1,V.nl 1],[],[],none⟩,⟨none,.store 2,[.t 12,.t 23],[7,5,3,0,1,2,3,4,5,7],none⟩,mv 13 24 [6,8,0,1,2,3,4,5,6,7,8]] false).seq
 (((rg [mv 25 13,⟨some 26,.bin .neq,[.t 25,ci 0],[0],none⟩] false).seq
 (AC.cond (.t 26) ((rg [⟨some 6,.mov,[AV.c (V.nl 1)],[],none⟩,⟨some 7,.mov,[AV.c (V.nl 1)],[0,0],none⟩,⟨some 8,.mov,[ci 12],[1,0,1],none⟩] false).seq AC.ret) AC.skip)).seq
 (rg [mv 27 9,fa 28 0 12,ld 29 28 [1],⟨some 30,.bsl 1 [V.nl 1] 1 [0],[.t 29],[2],none⟩,⟨some 31,.app 1 24,[.t 27,.t 30],[0,3],none⟩,mv 32 10,fa 33 1 12,ld 34 33 [6],⟨some 35,.app 1 8,[.t 32,.t 34],[5,7,4],none⟩,mv 9 31 [4,8,0,1,2,3,4],mv 10 35 [8,9,0,1,2,3,4,5,6,7,8,9]] true))))).seq
 (rg [⟨some 36,.bin .add,[.t 15,ci 1],[],none⟩,mv 15 36 [0]] false)))).loop)).seq
 ((rg [mv 37 10,⟨some 38,.call 82,[.t 37],[0],none⟩] false).seq
 ((rg [mv 39 9,mv 40 10,⟨some 41,.call 83,[.t 40],[1],none⟩,⟨some 42,.call 59,[.t 41],[2,2],none⟩,mv 6 39 [0,3,0],mv 7 42 [3,4,0,1,2,3,4],⟨some 8,.mov,[ci 0],[5,0,1,2,3,4,5],none⟩] false).seq AC.ret)))))
def rs_columns_Columns_All:List RV:=[.t 6,.t 7,.t 8]
theorem c_columns_Columns_All:compile Tryz.prog ⟨Go.Func.ntmps Tryz.f52,[]⟩ (Tryz.f52.body.getD .skip)=some ac_columns_Columns_All:=by kernel_rfl
theorem go_columns_Columns_All:GoT Tryz.f52.ntmps 52 ac_columns_Columns_All rs_columns_Columns_All:=goT Tryz.func52 (by kernel_rfl) c_columns_Columns_All (by kernel_rfl)
def ac_columns_Columns_Decode:AC :=
 (rg [⟨some 2,.box,[.t 0],[],none⟩,⟨some 4,.alloc [V.nl 1,V.nl 1],[],[],none⟩,⟨some 5,.mov,[ci 0],[],none⟩] false).seq
 ((rg [⟨some 6,.mov,[AV.c (V.nl 2)],[],none⟩] false).seq
 (((rg [fa 10 2 2,ld 11 10 [0],⟨some 12,.len,[.t 11],[1],none⟩,⟨some 13,.mov,[ci 0],[],none⟩] false).seq
 (AC.block 0 ((rg [bn 14 .lss 13 12] false).seq
 ((AC.cond (.t 14) AC.skip (AC.exit 0)).seq
 ((AC.block 1 ((rg [⟨some 15,.iad 2,[.t 11,.t 13],[],none⟩,⟨some 16,.load 2 true,[.t 15],[0],none⟩,⟨some 8,.alloc [B false,V.nl 1],[],[],none⟩,⟨none,.store 2,[.t 8,.t 16],[2,1,0,1,2],none⟩] false).seq
 ((rg [fa 17 0 8,ld 18 17 [0],⟨some 19,.build [I 0,B false] [(1,1)],[.t 18],[1],none⟩,⟨some 9,.alloc [I 0,B false],[],[],none⟩,⟨none,.store 2,[.t 9,.t 19],[3,2,0,1,2,3],none⟩] false).seq
 (((rg [fa 20 0 8,ld 21 20 [0]] false).seq
 (AC.cond (.t 21) (rg [fa 22 1 8,ld 23 22 [0],mv 24 1,⟨some 25,.iad 1,[.t 23,.t 24],[1,2],none⟩,ld 26 25 [3],fa 27 0 9 [0,1,2,3,4],⟨none,.store 1,[.t 27,.t 26],[5,4,0,1,2,3,4],none⟩] false) AC.skip)).seq
 (rg [mv 28 6,⟨some 29,.load 2 true,[.t 9],[],none⟩,⟨some 30,.bsl 2 [I 0,B false] 1 [0],[.t 29],[1],none⟩,⟨some 31,.app 2 16,[.t 28,.t 30],[0,2],none⟩,mv 6 31 [3,3,0,1,2,3]] false))))).seq
 (rg [⟨some 32,.bin .add,[.t 13,ci 1],[],none⟩,mv 13 32 [0]] false)))).loop)).seq
 ((rg [fa 33 0 2,⟨some 34,.load 1 true,[.t 33],[0],none⟩,mv 35 6,fa 36 1 2,ld 37 36 [3],⟨some 38,.call 84,[.t 34,.t 35,.t 37],[1,2,4],none⟩,xt 39 0 38 [5],xt 40 1 38 [5],⟨none,.store 2,[.t 4,.t 39],[6,5,0,1,2,3,4,5,6,7],none⟩,mv 5 40 [7,8,0,1,2,3,4,5,6,7,8]] false).seq AC.ret)))
def rs_columns_Columns_Decode:List RV:=[.c 4 2 true,.t 5]
theorem c_columns_Columns_Decode:compile Tryz.prog ⟨Go.Func.ntmps Tryz.f53,[]⟩ (Tryz.f53.body.getD .skip)=some ac_columns_Columns_Decode:=by kernel_rfl
theorem go_columns_Columns_Decode:GoT Tryz.f53.ntmps 53 ac_columns_Columns_Decode rs_columns_Columns_Decode:=goT Tryz.func53 (by kernel_rfl) c_columns_Columns_Decode (by kernel_rfl)
def ac_columns_Coefficient:AC :=
 (rg [⟨some 4,.mov,[ci 0],[],none⟩] false).seq
 (((rg [mv 5 1,mv 6 0,⟨some 7,.len,[.t 6],[1],none⟩,bn 8 .lss 5 7 [0,2]] false).seq
 (AC.cond (.t 8) ((rg [mv 9 0,mv 10 1,⟨some 11,.iad 1,[.t 9,.t 10],[0,1],none⟩,ld 12 11 [2],mv 4 12 [3,0,1,2,3]] false).seq AC.ret) AC.skip)).seq
 ((rg [⟨some 4,.mov,[ci 0],[],none⟩] false).seq AC.ret))
def rs_columns_Coefficient:List RV:=[.t 4]
theorem c_columns_Coefficient:compile Tryz.prog ⟨Go.Func.ntmps Tryz.f54,[]⟩ (Tryz.f54.body.getD .skip)=some ac_columns_Coefficient:=by kernel_rfl
theorem go_columns_Coefficient:GoT Tryz.f54.ntmps 54 ac_columns_Coefficient rs_columns_Coefficient:=goT Tryz.func54 (by kernel_rfl) c_columns_Coefficient (by kernel_rfl)
def ac_vector_Combine:AC :=
 (rg [⟨some 4,.box,[.t 0],[],none⟩,⟨some 8,.mov,[AV.c (V.nl 1)],[],none⟩,⟨some 9,.mov,[ci 0],[1],none⟩] false).seq
 ((rg [⟨some 19,.load 1 true,[.t 4],[],none⟩,⟨some 20,.call 44,[.t 19],[0],none⟩,mv 18 20 [1],xt 21 0 18 [2],xt 22 1 18 [2],mv 10 21 [3,1,0,1,2,3],mv 11 22 [4,5,0,1,2,3,4,5]] false).seq
 (((rg [mv 23 11,⟨some 24,.un .not,[.t 23],[0],none⟩] false).seq
 (AC.cond (.t 24) ((rg [⟨some 8,.mov,[AV.c (V.nl 1)],[],none⟩,⟨some 9,.mov,[ci 9],[0,0],none⟩] false).seq AC.ret) AC.skip)).seq
 (((rg [mv 25 3,⟨some 26,.bin .lss,[.t 25,ci 0],[0],none⟩,mv 27 26 [1],⟨some 28,.mov,[.t 3],[2],some (2,27,false)⟩,⟨some 29,.bin .gtr,[.t 28,ci 64],[3,2],some (2,27,false)⟩,⟨some 30,.pick,[.t 27,cb true,.t 29],[2,4],none⟩] false).seq
 (AC.cond (.t 30) ((rg [⟨some 8,.mov,[AV.c (V.nl 1)],[],none⟩,⟨some 9,.mov,[ci 4],[0,0],none⟩] false).seq AC.ret) AC.skip)).seq
 (((rg [mv 31 1,⟨some 32,.len,[.t 31],[0],none⟩,mv 33 2,⟨some 34,.len,[.t 33],[2],none⟩,bn 35 .neq 32 34 [1,3]] false).seq
 (AC.cond (.t 35) ((rg [⟨some 8,.mov,[AV.c (V.nl 1)],[],none⟩,⟨some 9,.mov,[ci 2],[0,0],none⟩] false).seq AC.ret) AC.skip)).seq
 ((rg [mv 36 10,mv 37 1,⟨some 38,.call 46,[.t 36,.t 37],[0,1],none⟩,mv 12 38 [2,2,0,1,2]] false).seq
 (((rg [mv 39 2,⟨some 40,.len,[.t 39],[0],none⟩,⟨some 41,.mov,[ci 0],[],none⟩] false).seq
 (AC.block 0 ((rg [bn 42 .lss 41 40] false).seq
 ((AC.cond (.t 42) AC.skip (AC.exit 0)).seq
 ((AC.block 1 ((rg [⟨some 43,.iad 1,[.t 39,.t 41],[],none⟩,ld 44 43 [0],mv 14 44 [1,0,1]] false).seq
 (((rg [mv 45 14,⟨some 46,.len,[.t 45],[0],none⟩,mv 47 3,bn 48 .neq 46 47 [1,2]] false).seq
 (AC.cond (.t 48) ((rg [⟨some 8,.mov,[AV.c (V.nl 1)],[],none⟩,⟨some 9,.mov,[ci 2],[0,0],none⟩] false).seq AC.ret) AC.skip)).seq
 (rg [mv 49 12,mv 50 49 [0],⟨some 51,.mov,[.t 10],[1],some (1,50,true)⟩,⟨some 52,.mov,[.t 14],[1],some (1,50,true)⟩,⟨some 53,.call 46,[.t 51,.t 52],[2,3,1,1],some (1,50,true)⟩,⟨some 54,.pick,[.t 50,.t 53,cb false],[1,4],none⟩,mv 12 54 [5,4,0,1,2,3,4,5]] false)))).seq
 (rg [⟨some 55,.bin .add,[.t 41,ci 1],[],none⟩,mv 41 55 [0]] false)))).loop)).seq
 (((rg [mv 56 12,⟨some 57,.un .not,[.t 56],[0],none⟩] false).seq
 (AC.cond (.t 57) ((rg [⟨some 8,.mov,[AV.c (V.nl 1)],[],none⟩,⟨some 9,.mov,[ci 9],[0,0],none⟩] false).seq AC.ret) AC.skip)).seq
 ((rg [mv 58 3,⟨some 59,.mks 1 [I 0] 8,[.t 58,.t 58],[0,0],none⟩,mv 15 59 [1,0,1]] false).seq
 (((rg [mv 60 2,⟨some 61,.len,[.t 60],[0],none⟩,⟨some 62,.mov,[ci 0],[],none⟩] false).seq
 (AC.block 2 ((rg [bn 63 .lss 62 61] false).seq
 ((AC.cond (.t 63) AC.skip (AC.exit 2)).seq
 ((AC.block 3 ((rg [mv 64 62,⟨some 65,.iad 1,[.t 60,.t 62],[],none⟩,ld 66 65 [1],mv 16 64 [0,0,1,2],mv 17 66 [2,3,0,1,2,3]] false).seq
 (rg [mv 67 10,mv 68 15,mv 69 1,mv 70 16,⟨some 71,.iad 1,[.t 69,.t 70],[2,3],none⟩,ld 72 71 [4],mv 73 17,⟨some 74,.call 48,[.t 67,.t 68,.t 72,.t 73],[0,1,5,6],none⟩] false))).seq
 (rg [⟨some 75,.bin .add,[.t 62,ci 1],[],none⟩,mv 62 75 [0]] false)))).loop)).seq
 ((rg [mv 76 15,mv 8 76 [0,0],⟨some 9,.mov,[ci 0],[1,0,1],none⟩] false).seq AC.ret))))))))))
def rs_vector_Combine:List RV:=[.t 8,.t 9]
theorem c_vector_Combine:compile Tryz.prog ⟨Go.Func.ntmps Tryz.f16,[]⟩ (Tryz.f16.body.getD .skip)=some ac_vector_Combine:=by kernel_rfl
theorem go_vector_Combine:GoT Tryz.f16.ntmps 16 ac_vector_Combine rs_vector_Combine:=goT Tryz.func16 (by kernel_rfl) c_vector_Combine (by kernel_rfl)
def ac_vector_Dot:AC :=
 (rg [⟨some 3,.box,[.t 0],[],none⟩,⟨some 6,.mov,[ci 0],[],none⟩,⟨some 7,.mov,[ci 0],[1],none⟩] false).seq
 ((rg [⟨some 14,.load 1 true,[.t 3],[],none⟩,⟨some 15,.call 44,[.t 14],[0],none⟩,mv 13 15 [1],xt 16 0 13 [2],xt 17 1 13 [2],mv 8 16 [3,1,0,1,2,3],mv 9 17 [4,5,0,1,2,3,4,5]] false).seq
 (((rg [mv 18 9,⟨some 19,.un .not,[.t 18],[0],none⟩,mv 20 19 [1],⟨some 21,.mov,[.t 8],[2],some (2,20,false)⟩,⟨some 22,.mov,[.t 1],[2],some (2,20,false)⟩,⟨some 23,.call 46,[.t 21,.t 22],[3,4,2,2],some (2,20,false)⟩,⟨some 24,.un .not,[.t 23],[5,2],some (2,20,false)⟩,⟨some 25,.pick,[.t 20,cb true,.t 24],[2,6],none⟩,mv 26 25 [7,5],⟨some 27,.mov,[.t 8],[8],some (8,26,false)⟩,⟨some 28,.mov,[.t 2],[8],some (8,26,false)⟩,⟨some 29,.call 46,[.t 27,.t 28],[9,10,8,8],some (8,26,false)⟩,⟨some 30,.un .not,[.t 29],[11,8],some (8,26,false)⟩,⟨some 31,.pick,[.t 26,cb true,.t 30],[8,12],none⟩] false).seq
 (AC.cond (.t 31) ((rg [⟨some 6,.mov,[ci 0],[],none⟩,⟨some 7,.mov,[ci 9],[0,0],none⟩] false).seq AC.ret) AC.skip)).seq
 (((rg [mv 32 1,⟨some 33,.len,[.t 32],[0],none⟩,mv 34 2,⟨some 35,.len,[.t 34],[2],none⟩,bn 36 .neq 33 35 [1,3]] false).seq
 (AC.cond (.t 36) ((rg [⟨some 6,.mov,[ci 0],[],none⟩,⟨some 7,.mov,[ci 2],[0,0],none⟩] false).seq AC.ret) AC.skip)).seq
 ((rg [⟨some 10,.mov,[ci 0],[],none⟩] false).seq
 (((rg [mv 37 1,mv 38 2,mv 39 8,⟨some 40,.mkf 1000080,[.t 39],[2],none⟩,⟨some 41,.call 89,[.t 37,.t 38,.t 40],[0,1,3],none⟩,⟨some 42,.len,[.t 41],[4],none⟩,⟨some 43,.mov,[ci 0],[],none⟩] false).seq
 (AC.block 0 ((rg [bn 44 .lss 43 42] false).seq
 ((AC.cond (.t 44) AC.skip (AC.exit 0)).seq
 ((AC.block 1 ((rg [⟨some 45,.iad 1,[.t 41,.t 43],[],none⟩,ld 46 45 [0],mv 12 46 [1,0,1]] false).seq
 (rg [mv 47 8,mv 48 10,mv 49 12,⟨some 50,.call 79,[.t 47,.t 48,.t 49],[0,1,2],none⟩,mv 10 50 [3,3,0,1,2,3]] false))).seq
 (rg [⟨some 51,.bin .add,[.t 43,ci 1],[],none⟩,mv 43 51 [0]] false)))).loop)).seq
 ((rg [mv 52 10,mv 6 52 [0,0],⟨some 7,.mov,[ci 0],[1,0,1],none⟩] false).seq AC.ret))))))
def rs_vector_Dot:List RV:=[.t 6,.t 7]
theorem c_vector_Dot:compile Tryz.prog ⟨Go.Func.ntmps Tryz.f57,[]⟩ (Tryz.f57.body.getD .skip)=some ac_vector_Dot:=by kernel_rfl
theorem go_vector_Dot:GoT Tryz.f57.ntmps 57 ac_vector_Dot rs_vector_Dot:=goT Tryz.func57 (by kernel_rfl) c_vector_Dot (by kernel_rfl)
def ac_vector_join_int:AC :=
 (rg [⟨some 6,.mov,[AV.c (V.nl 1)],[],none⟩] false).seq
 ((rg [⟨some 7,.mov,[AV.c (V.nl 1)],[],none⟩] false).seq
 (((rg [mv 10 0,⟨some 11,.len,[.t 10],[0],none⟩,⟨some 12,.mov,[ci 0],[],none⟩] false).seq
 (AC.block 0 ((rg [bn 13 .lss 12 11] false).seq
 ((AC.cond (.t 13) AC.skip (AC.exit 0)).seq
 ((AC.block 1 ((rg [mv 14 12,⟨some 15,.iad 1,[.t 10,.t 12],[],none⟩,ld 16 15 [1],mv 8 14 [0,0,1,2],mv 9 16 [2,3,0,1,2,3]] false).seq
 (rg [mv 17 7,mv 18 2,mv 19 9,mv 20 1,mv 21 8,⟨some 22,.iad 1,[.t 20,.t 21],[3,4],none⟩,ld 23 22 [5],⟨some 24,.callv,[.t 18,.t 19,.t 23],[1,2,6],none⟩,⟨some 25,.bsl 1 [I 0] 1 [0],[.t 24],[7],none⟩,⟨some 26,.app 1 8,[.t 17,.t 25],[0,8,7],none⟩,mv 7 26 [9,9,0,1,2,3,4,5,6,7,8,9]] false))).seq
 (rg [⟨some 27,.bin .add,[.t 12,ci 1],[],none⟩,mv 12 27 [0]] false)))).loop)).seq
 ((rg [mv 28 7,mv 6 28 [0,0]] false).seq AC.ret)))
def rs_vector_join_int:List RV:=[.t 6]
theorem c_vector_join_int:compile Tryz.prog ⟨Go.Func.ntmps Tryz.f89,[]⟩ (Tryz.f89.body.getD .skip)=some ac_vector_join_int:=by kernel_rfl
theorem go_vector_join_int:GoT Tryz.f89.ntmps 89 ac_vector_join_int rs_vector_join_int:=goT Tryz.func89 (by kernel_rfl) c_vector_join_int (by kernel_rfl)
def ac_digest_Lines:AC :=
 (rg [⟨some 3,.box,[.t 0],[],none⟩,⟨some 6,.mov,[AV.c (V.nl 1)],[],none⟩,⟨some 7,.mov,[ci 0],[1],none⟩] false).seq
 ((rg [⟨some 15,.load 1 true,[.t 3],[],none⟩,⟨some 16,.call 44,[.t 15],[0],none⟩,mv 14 16 [1],xt 17 0 14 [2],xt 18 1 14 [2],mv 8 17 [3,1,0,1,2,3],mv 9 18 [4,5,0,1,2,3,4,5]] false).seq
 (((rg [mv 19 9,⟨some 20,.un .not,[.t 19],[0],none⟩,mv 21 20 [1],⟨some 22,.mov,[.t 8],[2],some (2,21,false)⟩,⟨some 23,.mov,[.t 1],[2],some (2,21,false)⟩,⟨some 24,.call 45,[.t 22,.t 23],[3,4,2,2],some (2,21,false)⟩,⟨some 25,.un .not,[.t 24],[5,2],some (2,21,false)⟩,⟨some 26,.pick,[.t 21,cb true,.t 25],[2,6],none⟩] false).seq
 (AC.cond (.t 26) ((rg [⟨some 6,.mov,[AV.c (V.nl 1)],[],none⟩,⟨some 7,.mov,[ci 9],[0,0],none⟩] false).seq AC.ret) AC.skip)).seq
 ((rg [mv 27 2,⟨some 28,.len,[.t 27],[0],none⟩,⟨some 29,.bin .gtr,[.t 28,ci 1024],[1],none⟩,mv 10 29 [2,0,1,2]] false).seq
 ((rg [⟨some 11,.mov,[AV.c (V.nl 1)],[],none⟩] false).seq
 (((rg [mv 30 2,⟨some 31,.len,[.t 30],[0],none⟩,⟨some 32,.mov,[ci 0],[],none⟩] false).seq
 (AC.block 0 ((rg [bn 33 .lss 32 31] false).seq
 ((AC.cond (.t 33) AC.skip (AC.exit 0)).seq
 ((AC.block 1 ((rg [⟨some 34,.iad 1,[.t 30,.t 32],[],none⟩,ld 35 34 [0],mv 13 35 [1,0,1]] false).seq
 (((rg [mv 36 8,mv 37 13,⟨some 38,.call 46,[.t 36,.t 37],[0,1],none⟩,⟨some 39,.un .not,[.t 38],[2],none⟩] false).seq
 (AC.cond (.t 39) ((rg [⟨some 6,.mov,[AV.c (V.nl 1)],[],none⟩,⟨some 7,.mov,[ci 9],[0,0],none⟩] false).seq AC.ret) AC.skip)).seq
 ((rg [mv 40 10,mv 41 40 [0],⟨some 42,.mov,[.t 13],[1],some (1,41,false)⟩,⟨some 43,.len,[.t 42],[2,1],some (1,41,false)⟩,⟨some 44,.bin .gtr,[.t 43,ci 64],[3,1],some (1,41,false)⟩,⟨some 45,.pick,[.t 41,cb true,.t 44],[1,4],none⟩,mv 10 45 [5,1,0,1,2,3,4,5]] false).seq
 (rg [mv 46 11,mv 47 8,mv 48 13,mv 49 1,⟨some 50,.call 47,[.t 47,.t 48,.t 49],[1,2,3],none⟩,⟨some 51,.bsl 1 [I 0] 1 [0],[.t 50],[4],none⟩,⟨some 52,.app 1 8,[.t 46,.t 51],[0,5,4],none⟩,mv 11 52 [6,6,0,1,2,3,4,5,6]] false))))).seq
 (rg [⟨some 53,.bin .add,[.t 32,ci 1],[],none⟩,mv 32 53 [0]] false)))).loop)).seq
 (((rg [mv 54 10] false).seq
 (AC.cond (.t 54) ((rg [⟨some 6,.mov,[AV.c (V.nl 1)],[],none⟩,⟨some 7,.mov,[ci 4],[0,0],none⟩] false).seq AC.ret) AC.skip)).seq
 ((rg [mv 55 11,mv 6 55 [0,0],⟨some 7,.mov,[ci 0],[1,0,1],none⟩] false).seq AC.ret)))))))
def rs_digest_Lines:List RV:=[.t 6,.t 7]
theorem c_digest_Lines:compile Tryz.prog ⟨Go.Func.ntmps Tryz.f15,[]⟩ (Tryz.f15.body.getD .skip)=some ac_digest_Lines:=by kernel_rfl
theorem go_digest_Lines:GoT Tryz.f15.ntmps 15 ac_digest_Lines rs_digest_Lines:=goT Tryz.func15 (by kernel_rfl) c_digest_Lines (by kernel_rfl)
def ac_digest_Fits:AC :=
 (rg [⟨some 5,.box,[.t 0],[],none⟩,⟨some 10,.mov,[cb false],[],none⟩,⟨some 11,.mov,[ci 0],[1],none⟩] false).seq
 ((rg [⟨some 17,.load 1 true,[.t 5],[],none⟩,⟨some 18,.call 44,[.t 17],[0],none⟩,mv 16 18 [1],xt 19 0 16 [2],xt 20 1 16 [2],mv 12 19 [3,1,0,1,2,3],mv 13 20 [4,5,0,1,2,3,4,5]] false).seq
 ((AC.block 0 ((rg [mv 22 13,⟨some 23,.un .not,[.t 22],[0],none⟩,mv 24 23 [1],⟨some 25,.mov,[.t 12],[2],some (2,24,false)⟩,⟨some 26,.mov,[.t 1],[2],some (2,24,false)⟩,⟨some 27,.call 45,[.t 25,.t 26],[3,4,2,2],some (2,24,false)⟩,⟨some 28,.un .not,[.t 27],[5,2],some (2,24,false)⟩,⟨some 29,.pick,[.t 24,cb true,.t 28],[2,6],none⟩,mv 30 29 [7,5],⟨some 31,.mov,[.t 12],[8],some (8,30,false)⟩,⟨some 32,.mov,[.t 2],[8],some (8,30,false)⟩,⟨some 33,.call 46,[.t 31,.t 32],[9,10,8,8],some (8,30,false)⟩,⟨some 34,.un .not,[.t 33],[11,8],some (8,30,false)⟩,⟨some 35,.pick,[.t 30,cb true,.t 34],[8,12],none⟩,mv 36 35 [13,11],⟨some 37,.mov,[.t 12],[14],some (14,36,false)⟩,⟨some 38,.mov,[.t 3],[14],some (14,36,false)⟩,⟨some 39,.call 46,[.t 37,.t 38],[15,16,14,14],some (14,36,false)⟩,⟨some 40,.un .not,[.t 39],[17,14],some (14,36,false)⟩,⟨some 41,.pick,[.t 36,cb true,.t 40],[14,18],none⟩,mv 42 41 [19,17],⟨some 43,.mov,[.t 12],[20],some (20,42,false)⟩,⟨some 44,.mov,[.t 4],[20],some (20,42,false)⟩,⟨some 45,.call 46,[.t 43,.t 44],[21,22,20,20],some (20,42,false)⟩,⟨some 46,.un .not,[.t 45],[23,20],some (20,42,false)⟩,⟨some 47,.pick,[.t 42,cb true,.t 46],[20,24],none⟩,mv 21 47 [25,23]] false).seq
 (AC.cond (.t 21) ((rg [⟨some 10,.mov,[cb false],[],none⟩,⟨some 11,.mov,[ci 9],[0,0],none⟩] false).seq AC.ret) ((rg [mv 49 4,⟨some 50,.len,[.t 49],[0],none⟩,⟨some 51,.bin .gtr,[.t 50,ci 64],[1],none⟩,mv 52 51 [2],⟨some 53,.mov,[.t 2],[3],some (3,52,false)⟩,⟨some 54,.len,[.t 53],[4,3],some (3,52,false)⟩,⟨some 55,.bin .gtr,[.t 54,ci 1024],[5,3],some (3,52,false)⟩,⟨some 56,.pick,[.t 52,cb true,.t 55],[3,6],none⟩,mv 57 56 [7,3],⟨some 58,.mov,[.t 3],[8],some (8,57,false)⟩,⟨some 59,.len,[.t 58],[9,8],some (8,57,false)⟩,⟨some 60,.bin .gtr,[.t 59,ci 1024],[10,8],some (8,57,false)⟩,⟨some 61,.pick,[.t 57,cb true,.t 60],[8,11],none⟩,mv 48 61 [12,8]] false).seq
 (AC.cond (.t 48) ((rg [⟨some 10,.mov,[cb false],[],none⟩,⟨some 11,.mov,[ci 4],[0,0],none⟩] false).seq AC.ret) AC.skip))))).seq
 ((rg [⟨some 63,.load 1 true,[.t 5],[],none⟩,mv 64 3,mv 65 2,⟨some 66,.call 57,[.t 63,.t 64,.t 65],[0,1,2],none⟩,mv 62 66 [3],xt 67 0 62 [4],xt 68 1 62 [4],mv 14 67 [5,3,0,1,2,3,4,5],mv 15 68 [6,7,0,1,2,3,4,5,6,7]] false).seq
 (((rg [mv 69 15,⟨some 70,.bin .neq,[.t 69,ci 0],[0],none⟩] false).seq
 (AC.cond (.t 70) ((rg [mv 71 15,⟨some 10,.mov,[cb false],[],none⟩,mv 11 71 [0,1,0,1]] false).seq AC.ret) AC.skip)).seq
 ((rg [mv 72 12,mv 73 4,mv 74 1,⟨some 75,.call 47,[.t 72,.t 73,.t 74],[0,1,2],none⟩,mv 76 14,bn 77 .eql 75 76 [3,4],mv 10 77 [5,3,0,1,2,3,4,5],⟨some 11,.mov,[ci 0],[6,0,1,2,3,4,5,6],none⟩] false).seq AC.ret)))))
def rs_digest_Fits:List RV:=[.t 10,.t 11]
theorem c_digest_Fits:compile Tryz.prog ⟨Go.Func.ntmps Tryz.f24,[]⟩ (Tryz.f24.body.getD .skip)=some ac_digest_Fits:=by kernel_rfl
theorem go_digest_Fits:GoT Tryz.f24.ntmps 24 ac_digest_Fits rs_digest_Fits:=goT Tryz.func24 (by kernel_rfl) c_digest_Fits (by kernel_rfl)
def ac_digest_Row:AC :=
 (rg [⟨some 2,.mov,[ci 0],[],none⟩] false).seq
 ((rg [⟨some 3,.mov,[ci 2],[],none⟩] false).seq
 (((rg [mv 6 0,⟨some 7,.len,[.t 6],[0],none⟩,⟨some 8,.mov,[ci 0],[],none⟩] false).seq
 (AC.block 0 ((rg [bn 9 .lss 8 7] false).seq
 ((AC.cond (.t 9) AC.skip (AC.exit 0)).seq
 ((AC.block 1 ((rg [⟨some 10,.iad 1,[.t 6,.t 8],[],none⟩,ld 11 10 [0],mv 5 11 [1,0,1]] false).seq
 (rg [mv 12 3,⟨some 13,.bin .mul,[.t 12,ci 1000003],[0],none⟩,mv 14 5,⟨some 15,.call 70,[.t 14],[2],none⟩,bn 16 .add 13 15 [1,3],⟨some 17,.bin .add,[.t 16,ci 1],[4],none⟩,⟨some 18,.bin .rem,[.t 17,ci 2147483647],[5],none⟩,mv 3 18 [6,3,0,1,2,3,4,5,6]] false))).seq
 (rg [⟨some 19,.bin .add,[.t 8,ci 1],[],none⟩,mv 8 19 [0]] false)))).loop)).seq
 ((rg [mv 20 3,mv 2 20 [0,0]] false).seq AC.ret)))
def rs_digest_Row:List RV:=[.t 2]
theorem c_digest_Row:compile Tryz.prog ⟨Go.Func.ntmps Tryz.f37,[]⟩ (Tryz.f37.body.getD .skip)=some ac_digest_Row:=by kernel_rfl
theorem go_digest_Row:GoT Tryz.f37.ntmps 37 ac_digest_Row rs_digest_Row:=goT Tryz.func37 (by kernel_rfl) c_digest_Row (by kernel_rfl)
def ac_digest_mod:AC :=
 (rg [⟨some 2,.mov,[ci 0],[],none⟩] false).seq
 ((rg [mv 3 0,⟨some 4,.bin .rem,[.t 3,ci 2147483647],[0],none⟩,mv 0 4 [1,0,1]] false).seq
 (((rg [mv 5 0,⟨some 6,.bin .lss,[.t 5,ci 0],[0],none⟩] false).seq
 (AC.cond (.t 6) (rg [mv 7 0,⟨some 8,.bin .add,[.t 7,ci 2147483647],[0],none⟩,mv 0 8 [1,0,1]] false) AC.skip)).seq
 ((rg [mv 9 0,mv 2 9 [0,0]] false).seq AC.ret)))
def rs_digest_mod:List RV:=[.t 2]
theorem c_digest_mod:compile Tryz.prog ⟨Go.Func.ntmps Tryz.f70,[]⟩ (Tryz.f70.body.getD .skip)=some ac_digest_mod:=by kernel_rfl
theorem go_digest_mod:GoT Tryz.f70.ntmps 70 ac_digest_mod rs_digest_mod:=goT Tryz.func70 (by kernel_rfl) c_digest_mod (by kernel_rfl)
def ac_mark_Sign:AC :=
 (rg [⟨some 4,.mov,[ci 0],[],none⟩,⟨some 5,.mov,[ci 0],[0],none⟩] false).seq
 (((rg [mv 6 0,⟨some 7,.call 55,[.t 6],[0],none⟩,⟨some 8,.un .not,[.t 7],[1],none⟩] false).seq
 (AC.cond (.t 8) ((rg [⟨some 4,.mov,[ci 0],[],none⟩,⟨some 5,.mov,[ci 1],[0,0],none⟩] false).seq AC.ret) AC.skip)).seq
 (((rg [mv 9 1,⟨some 10,.len,[.t 9],[0],none⟩,⟨some 11,.bin .gtr,[.t 10,ci 16384],[1],none⟩] false).seq
 (AC.cond (.t 11) ((rg [⟨some 4,.mov,[ci 0],[],none⟩,⟨some 5,.mov,[ci 4],[0,0],none⟩] false).seq AC.ret) AC.skip)).seq
 ((rg [mv 12 0,⟨some 13,.bsl 1 [I 0] 1 [0],[.t 12],[0],none⟩,mv 14 1,⟨some 15,.app 1 8,[.t 13,.t 14],[1,2],none⟩,⟨some 16,.call 37,[.t 15],[3,3],none⟩,mv 4 16 [4,4,0,1,2,3,4],⟨some 5,.mov,[ci 0],[5,0,1,2,3,4,5],none⟩] false).seq AC.ret)))
def rs_mark_Sign:List RV:=[.t 4,.t 5]
theorem c_mark_Sign:compile Tryz.prog ⟨Go.Func.ntmps Tryz.f21,[]⟩ (Tryz.f21.body.getD .skip)=some ac_mark_Sign:=by kernel_rfl
theorem go_mark_Sign:GoT Tryz.f21.ntmps 21 ac_mark_Sign rs_mark_Sign:=goT Tryz.func21 (by kernel_rfl) c_mark_Sign (by kernel_rfl)
def ac_mark_Verify:AC :=
 (rg [⟨some 8,.mov,[cb false],[],none⟩] false).seq
 ((rg [mv 14 0,mv 15 1,⟨some 16,.call 56,[.t 14,.t 15],[0,1],none⟩,mv 13 16 [2],xt 17 0 13 [3],xt 18 1 13 [3],⟨some 9,.alloc [I 0,I 0],[],[],none⟩,⟨none,.store 2,[.t 9,.t 17],[6,4,2,0,1,2,3,4,6],none⟩,mv 10 18 [5,7,0,1,2,3,4,5,6,7]] false).seq
 (((rg [mv 19 10,⟨some 20,.un .not,[.t 19],[0],none⟩] false).seq
 (AC.cond (.t 20) ((rg [⟨some 8,.mov,[cb false],[],none⟩] false).seq AC.ret) AC.skip)).seq
 ((rg [fa 22 1 9,ld 23 22 [0],mv 24 2,⟨some 25,.call 21,[.t 23,.t 24],[1,2],none⟩,mv 21 25 [3],xt 26 0 21 [4],xt 27 1 21 [4],mv 11 26 [5,3,0,1,2,3,4,5],mv 12 27 [6,7,0,1,2,3,4,5,6,7]] false).seq
 ((rg [mv 28 12,⟨some 29,.bin .eql,[.t 28,ci 0],[0],none⟩,mv 30 29 [1],⟨some 31,.mov,[.t 3],[2],some (2,30,true)⟩,⟨some 32,.mov,[.t 11],[2],some (2,30,true)⟩,⟨some 33,.bin .eql,[.t 31,.t 32],[3,4,2],some (2,30,true)⟩,⟨some 34,.pick,[.t 30,.t 33,cb false],[2,5],none⟩,mv 8 34 [6,2,0,1,2,3,4,5,6]] false).seq AC.ret))))
def rs_mark_Verify:List RV:=[.t 8]
theorem c_mark_Verify:compile Tryz.prog ⟨Go.Func.ntmps Tryz.f22,[]⟩ (Tryz.f22.body.getD .skip)=some ac_mark_Verify:=by kernel_rfl
theorem go_mark_Verify:GoT Tryz.f22.ntmps 22 ac_mark_Verify rs_mark_Verify:=goT Tryz.func22 (by kernel_rfl) c_mark_Verify (by kernel_rfl)
def ac_mark_Find:AC :=
 (rg [⟨some 4,.alloc [I 0,I 0],[],[],none⟩,⟨some 5,.mov,[cb false],[],none⟩] false).seq
 (((rg [mv 9 0,⟨some 10,.call 85,[.t 9],[0],none⟩,⟨some 11,.bin .neq,[.t 10,ci 0],[1],none⟩,mv 12 11 [2,1],⟨some 13,.mov,[.t 1],[3],some (3,12,false)⟩,⟨some 14,.call 55,[.t 13],[4,3,3],some (3,12,false)⟩,⟨some 15,.un .not,[.t 14],[5,3],some (3,12,false)⟩,⟨some 16,.pick,[.t 12,cb true,.t 15],[3,6],none⟩] false).seq
 (AC.cond (.t 16) ((rg [⟨some 17,.build [I 0,I 0] [],[],[],none⟩,⟨none,.store 2,[.t 4,.t 17],[0,0],none⟩,⟨some 5,.mov,[cb false],[1,0,1],none⟩] false).seq AC.ret) AC.skip)).seq
 ((rg [⟨some 6,.alloc [V.d (D.at Value.nilFunc)],[],[],none⟩,⟨none,.store 1,[.t 6,AV.c (V.cl 86 [])],[0,0],none⟩] false).seq
 ((rg [mv 19 0,mv 20 1,⟨some 21,.mkf 88,[.t 6],[],none⟩,⟨some 22,.call 87,[.t 19,.t 20,.t 21],[0,1,2],none⟩,mv 18 22 [3],xt 23 0 18 [4],xt 24 1 18 [4],mv 7 23 [5,3,0,1,2,3,4,5],mv 8 24 [6,7,0,1,2,3,4,5,6,7]] false).seq
 (((rg [mv 25 8,⟨some 26,.un .not,[.t 25],[0],none⟩] false).seq
 (AC.cond (.t 26) ((rg [⟨some 27,.build [I 0,I 0] [],[],[],none⟩,⟨none,.store 2,[.t 4,.t 27],[0,0],none⟩,⟨some 5,.mov,[cb false],[1,0,1],none⟩] false).seq AC.ret) AC.skip)).seq
 ((rg [mv 28 0,mv 29 7,⟨some 30,.iad 2,[.t 28,.t 29],[0,1],none⟩,⟨some 31,.load 2 true,[.t 30],[2],none⟩,⟨none,.store 2,[.t 4,.t 31],[3,0,1,2,3],none⟩,⟨some 5,.mov,[cb true],[4,0,1,2,3,4],none⟩] false).seq AC.ret)))))
def rs_mark_Find:List RV:=[.c 4 2 true,.t 5]
theorem c_mark_Find:compile Tryz.prog ⟨Go.Func.ntmps Tryz.f56,[]⟩ (Tryz.f56.body.getD .skip)=some ac_mark_Find:=by kernel_rfl
theorem go_mark_Find:GoT Tryz.f56.ntmps 56 ac_mark_Find rs_mark_Find:=goT Tryz.func56 (by kernel_rfl) c_mark_Find (by kernel_rfl)
def ac_mark_Find_1:AC :=
 (rg [⟨some 3,.box,[.t 0],[],none⟩,⟨some 5,.mov,[ci 0],[],none⟩] false).seq
 ((rg [ld 6 2,mv 7 1,⟨some 8,.load 2 true,[.t 3],[],none⟩,⟨some 9,.callv,[.t 6,.t 7,.t 8],[0,1,2],none⟩,mv 5 9 [3,3,0,1,2,3]] false).seq AC.ret)
def rs_mark_Find_1:List RV:=[.t 5]
theorem c_mark_Find_1:compile Tryz.prog ⟨Go.Func.ntmps Tryz.f88,[]⟩ (Tryz.f88.body.getD .skip)=some ac_mark_Find_1:=by kernel_rfl
theorem go_mark_Find_1:GoT Tryz.f88.ntmps 88 ac_mark_Find_1 rs_mark_Find_1:=goT Tryz.func88 (by kernel_rfl) c_mark_Find_1 (by kernel_rfl)
def ac_mark_Check:AC :=
 (rg [⟨some 2,.mov,[ci 0],[],none⟩] false).seq
 (((rg [mv 6 0,⟨some 7,.len,[.t 6],[0],none⟩,⟨some 8,.bin .gtr,[.t 7,ci 16],[1],none⟩] false).seq
 (AC.cond (.t 8) ((rg [⟨some 2,.mov,[ci 4],[],none⟩] false).seq AC.ret) AC.skip)).seq
 ((rg [⟨some 9,.mkm,[],[],none⟩,mv 3 9 [0,0]] false).seq
 (((rg [mv 10 0,⟨some 11,.len,[.t 10],[0],none⟩,⟨some 12,.mov,[ci 0],[],none⟩] false).seq
 (AC.block 0 ((rg [bn 13 .lss 12 11] false).seq
 ((AC.cond (.t 13) AC.skip (AC.exit 0)).seq
 ((AC.block 1 ((rg [mv 14 12,⟨some 15,.iad 2,[.t 10,.t 12],[],none⟩,⟨some 16,.load 2 true,[.t 15],[1],none⟩,⟨some 5,.alloc [I 0,I 0],[],[],none⟩,mv 4 14 [0,0,1,2,3],⟨none,.store 2,[.t 5,.t 16],[3,2,4,0,1,2,3,4],none⟩] false).seq
 ((AC.block 2 ((rg [fa 18 0 5,ld 19 18 [0],⟨some 20,.call 55,[.t 19],[1],none⟩,⟨some 21,.un .not,[.t 20],[2],none⟩,mv 22 21 [3,2],⟨some 23,.fad 1,[.t 5],[4],some (4,22,false)⟩,⟨some 24,.load 1 false,[.t 23],[5,4],some (4,22,false)⟩,⟨some 25,.call 55,[.t 24],[6,4,4],some (4,22,false)⟩,⟨some 26,.un .not,[.t 25],[7,4],some (4,22,false)⟩,⟨some 27,.pick,[.t 22,cb true,.t 26],[4,8],none⟩,mv 17 27 [9,7]] false).seq
 (AC.cond (.t 17) ((rg [⟨some 2,.mov,[ci 1],[],none⟩] false).seq AC.ret) ((rg [mv 29 4,⟨some 30,.bin .gtr,[.t 29,ci 0],[0],none⟩,mv 31 30 [1],⟨some 32,.fad 0,[.t 5],[2],some (2,31,true)⟩,⟨some 33,.load 1 false,[.t 32],[3,2],some (2,31,true)⟩,⟨some 34,.mov,[.t 0],[2],some (2,31,true)⟩,⟨some 35,.mov,[.t 4],[2],some (2,31,true)⟩,⟨some 36,.bin .sub,[.t 35,ci 1],[6,2],some (2,31,true)⟩,⟨some 37,.iad 2,[.t 34,.t 36],[5,7,2],some (2,31,true)⟩,⟨some 38,.fad 0,[.t 37],[8,2],some (2,31,true)⟩,⟨some 39,.load 1 false,[.t 38],[9,2],some (2,31,true)⟩,⟨some 40,.bin .leq,[.t 33,.t 39],[4,10,2],some (2,31,true)⟩,⟨some 41,.pick,[.t 31,.t 40,cb false],[2,11],none⟩,mv 28 41 [12,2]] true).seq
 (AC.cond (.t 28) ((rg [⟨some 2,.mov,[ci 5],[],none⟩] false).seq AC.ret) ((rg [mv 43 3,fa 44 1 5,ld 45 44 [1],⟨some 46,.lkp,[.t 43,.t 45],[0,2],none⟩,mv 42 46 [3]] false).seq
 (AC.cond (.t 42) ((rg [⟨some 2,.mov,[ci 7],[],none⟩] false).seq AC.ret) AC.skip))))))).seq
 (rg [mv 47 3,fa 48 1 5,ld 49 48 [1],⟨none,.mup,[.t 47,.t 49],[0,2,0,1,2],none⟩] false)))).seq
 (rg [⟨some 50,.bin .add,[.t 12,ci 1],[],none⟩,mv 12 50 [0]] false)))).loop)).seq
 ((rg [⟨some 2,.mov,[ci 0],[],none⟩] false).seq AC.ret))))
def rs_mark_Check:List RV:=[.t 2]
theorem c_mark_Check:compile Tryz.prog ⟨Go.Func.ntmps Tryz.f85,[]⟩ (Tryz.f85.body.getD .skip)=some ac_mark_Check:=by kernel_rfl
theorem go_mark_Check:GoT Tryz.f85.ntmps 85 ac_mark_Check rs_mark_Check:=goT Tryz.func85 (by kernel_rfl) c_mark_Check (by kernel_rfl)
def ac_mark_within:AC :=
 (rg [⟨some 2,.mov,[cb false],[],none⟩] false).seq
 ((rg [mv 3 0,⟨some 4,.bin .geq,[.t 3,ci 1],[0],none⟩,mv 5 4 [1],⟨some 6,.mov,[.t 0],[2],some (2,5,true)⟩,⟨some 7,.bin .lss,[.t 6,ci 2147483647],[3,2],some (2,5,true)⟩,⟨some 8,.pick,[.t 5,.t 7,cb false],[2,4],none⟩,mv 2 8 [5,2,0,1,2,3,4,5]] false).seq AC.ret)
def rs_mark_within:List RV:=[.t 2]
theorem c_mark_within:compile Tryz.prog ⟨Go.Func.ntmps Tryz.f55,[]⟩ (Tryz.f55.body.getD .skip)=some ac_mark_within:=by kernel_rfl
theorem go_mark_within:GoT Tryz.f55.ntmps 55 ac_mark_within rs_mark_within:=goT Tryz.func55 (by kernel_rfl) c_mark_within (by kernel_rfl)
def ac_mark_number_compare:AC :=
 (rg [⟨some 3,.box,[.t 1],[],none⟩,⟨some 4,.mov,[ci 0],[],none⟩] false).seq
 ((rg [fa 5 0 3,ld 6 5 [0],mv 7 0,bn 8 .sub 6 7 [1,2],mv 4 8 [3,0,1,2,3]] false).seq AC.ret)
def rs_mark_number_compare:List RV:=[.t 4]
theorem c_mark_number_compare:compile Tryz.prog ⟨Go.Func.ntmps Tryz.f86,[]⟩ (Tryz.f86.body.getD .skip)=some ac_mark_number_compare:=by kernel_rfl
theorem go_mark_number_compare:GoT Tryz.f86.ntmps 86 ac_mark_number_compare rs_mark_number_compare:=goT Tryz.func86 (by kernel_rfl) c_mark_number_compare (by kernel_rfl)
def ac_slices_BinarySearchFunc_api_Person_api_Person_mark_number:AC :=
 (rg [⟨some 6,.mov,[ci 0],[],none⟩,⟨some 7,.mov,[cb false],[0],none⟩] false).seq
 ((rg [mv 12 0,⟨some 13,.len,[.t 12],[0],none⟩,mv 8 13 [1,0,1]] false).seq
 ((rg [mv 14 8,⟨some 9,.mov,[ci 0],[],none⟩,mv 10 14 [0,1,0,1]] false).seq
 ((AC.block 0 (((rg [mv 15 9,mv 16 10,bn 17 .lss 15 16 [0,1]] false).seq
 (AC.cond (.t 17) AC.skip (AC.exit 0))).seq
 (AC.block 1 ((rg [mv 18 9,mv 19 10,bn 20 .add 18 19 [0,1],⟨some 21,.conv .u64,[.t 20],[2],none⟩,⟨some 22,.bin .shr,[.t 21,AV.c (V.d (D.at (Value.int .u64 1)))],[3],none⟩,⟨some 23,.conv .i64,[.t 22],[4],none⟩,mv 11 23 [5,0,1,2,3,4,5]] false).seq
 ((rg [mv 24 2,mv 25 0,mv 26 11,⟨some 27,.iad 2,[.t 25,.t 26],[1,2],none⟩,⟨some 28,.load 2 true,[.t 27],[3],none⟩,mv 29 1,⟨some 30,.callv,[.t 24,.t 28,.t 29],[0,4,5],none⟩,⟨some 31,.bin .lss,[.t 30,ci 0],[6],none⟩] false).seq
 (AC.cond (.t 31) (rg [mv 32 11,⟨some 33,.bin .add,[.t 32,ci 1],[0],none⟩,mv 9 33 [1,0,1]] false) (rg [mv 34 11,mv 10 34 [0,0]] false)))))).loop).seq
 ((rg [mv 35 9,mv 36 9,mv 37 8,bn 38 .lss 36 37 [1,2],mv 39 38 [3],⟨some 40,.mov,[.t 2],[4],some (4,39,true)⟩,⟨some 41,.mov,[.t 0],[4],some (4,39,true)⟩,⟨some 42,.mov,[.t 9],[4],some (4,39,true)⟩,⟨some 43,.iad 2,[.t 41,.t 42],[6,7,4],some (4,39,true)⟩,⟨some 44,.load 2 true,[.t 43],[8,4],some (4,39,true)⟩,⟨some 45,.mov,[.t 1],[4],some (4,39,true)⟩,⟨some 46,.callv,[.t 40,.t 44,.t 45],[5,9,10,4,4],some (4,39,true)⟩,⟨some 47,.bin .eql,[.t 46,ci 0],[11,4],some (4,39,true)⟩,⟨some 48,.pick,[.t 39,.t 47,cb false],[4,12],none⟩,mv 6 35 [0,11,0],mv 7 48 [13,14,0,1,2,3,4,5,6,7,8,9,10,11,12,13,14]] false).seq AC.ret))))
def rs_slices_BinarySearchFunc_api_Person_api_Person_mark_number:List RV:=[.t 6,.t 7]
theorem c_slices_BinarySearchFunc_api_Person_api_Person_mark_number:compile Tryz.prog ⟨Go.Func.ntmps Tryz.f87,[]⟩ (Tryz.f87.body.getD .skip)=some ac_slices_BinarySearchFunc_api_Person_api_Person_mark_number:=by kernel_rfl
theorem go_slices_BinarySearchFunc_api_Person_api_Person_mark_number:GoT Tryz.f87.ntmps 87 ac_slices_BinarySearchFunc_api_Person_api_Person_mark_number rs_slices_BinarySearchFunc_api_Person_api_Person_mark_number:=goT Tryz.func87 (by kernel_rfl) c_slices_BinarySearchFunc_api_Person_api_Person_mark_number (by kernel_rfl)
def ac_columns_Check:AC :=
 (rg [⟨some 5,.box,[.t 0],[],none⟩,⟨some 10,.mov,[ci 0],[],none⟩] false).seq
 (((rg [mv 15 1,⟨some 16,.bin .lss,[.t 15,ci 0],[0],none⟩,mv 17 16 [1],⟨some 18,.mov,[.t 1],[2],some (2,17,false)⟩,⟨some 19,.bin .gtr,[.t 18,ci 64],[3,2],some (2,17,false)⟩,⟨some 20,.pick,[.t 17,cb true,.t 19],[2,4],none⟩] false).seq
 (AC.cond (.t 20) ((rg [⟨some 10,.mov,[ci 4],[],none⟩] false).seq AC.ret) AC.skip)).seq
 (((rg [mv 21 4,⟨some 22,.len,[.t 21],[0],none⟩,mv 23 2,bn 24 .neq 22 23 [1,2]] false).seq
 (AC.cond (.t 24) ((rg [⟨some 10,.mov,[ci 2],[],none⟩] false).seq AC.ret) AC.skip)).seq
 ((rg [⟨some 11,.mov,[ci 0],[],none⟩,⟨some 12,.mov,[cb true],[0,0],none⟩] false).seq
 (((rg [mv 25 4,⟨some 26,.len,[.t 25],[0],none⟩,⟨some 27,.mov,[ci 0],[],none⟩] false).seq
 (AC.block 0 ((rg [bn 28 .lss 27 26] false).seq
 ((AC.cond (.t 28) AC.skip (AC.exit 0)).seq
 ((AC.block 1 ((rg [⟨some 29,.iad 2,[.t 25,.t 27],[],none⟩,⟨some 30,.load 2 true,[.t 29],[0],none⟩,⟨some 14,.alloc [B false,V.nl 1],[],[],none⟩,⟨none,.store 2,[.t 14,.t 30],[2,1,0,1,2],none⟩] false).seq
 (((rg [fa 31 0 14,ld 32 31 [0],⟨some 33,.un .not,[.t 32],[1],none⟩] false).seq
 (AC.cond (.t 33) (AC.exit 1) AC.skip)).seq
 (((rg [fa 34 1 14,ld 35 34 [0],⟨some 36,.len,[.t 35],[1],none⟩,mv 37 1,bn 38 .neq 36 37 [2,3]] false).seq
 (AC.cond (.t 38) ((rg [⟨some 10,.mov,[ci 2],[],none⟩] false).seq AC.ret) AC.skip)).seq
 ((rg [mv 39 11,⟨some 40,.bin .add,[.t 39,ci 1],[0],none⟩,mv 11 40 [1,0,1]] false).seq
 (rg [mv 41 12,mv 42 41 [0],⟨some 43,.fad 0,[.t 5],[1],some (1,42,true)⟩,⟨some 44,.load 1 false,[.t 43],[2,1],some (1,42,true)⟩,⟨some 45,.fad 1,[.t 14],[1],some (1,42,true)⟩,⟨some 46,.load 1 false,[.t 45],[4,1],some (1,42,true)⟩,⟨some 47,.call 46,[.t 44,.t 46],[3,5,1,1],some (1,42,true)⟩,⟨some 48,.pick,[.t 42,.t 47,cb false],[1,6],none⟩,mv 12 48 [7,6,0,1,2,3,4,5,6,7]] false)))))).seq
 (rg [⟨some 49,.bin .add,[.t 27,ci 1],[],none⟩,mv 27 49 [0]] false)))).loop)).seq
 ((AC.block 2 ((rg [mv 51 12,⟨some 52,.un .not,[.t 51],[0],none⟩,mv 50 52 [1]] false).seq
 (AC.cond (.t 50) ((rg [⟨some 10,.mov,[ci 9],[],none⟩] false).seq AC.ret) ((rg [mv 54 11,mv 55 3,bn 56 .lss 54 55 [0,1],mv 53 56 [2]] false).seq
 (AC.cond (.t 53) ((rg [⟨some 10,.mov,[ci 11],[],none⟩] false).seq AC.ret) AC.skip))))).seq
 ((rg [⟨some 10,.mov,[ci 0],[],none⟩] false).seq AC.ret))))))
def rs_columns_Check:List RV:=[.t 10]
theorem c_columns_Check:compile Tryz.prog ⟨Go.Func.ntmps Tryz.f51,[]⟩ (Tryz.f51.body.getD .skip)=some ac_columns_Check:=by kernel_rfl
theorem go_columns_Check:GoT Tryz.f51.ntmps 51 ac_columns_Check rs_columns_Check:=goT Tryz.func51 (by kernel_rfl) c_columns_Check (by kernel_rfl)
def ac_slices_ContainsFunc_int_int:AC :=
 (rg [⟨some 4,.mov,[cb false],[],none⟩] false).seq
 ((rg [mv 5 0,mv 6 1,⟨some 7,.call 97,[.t 5,.t 6],[0,1],none⟩,⟨some 8,.bin .geq,[.t 7,ci 0],[2],none⟩,mv 4 8 [3,2,0,1,2,3]] false).seq AC.ret)
def rs_slices_ContainsFunc_int_int:List RV:=[.t 4]
theorem c_slices_ContainsFunc_int_int:compile Tryz.prog ⟨Go.Func.ntmps Tryz.f76,[]⟩ (Tryz.f76.body.getD .skip)=some ac_slices_ContainsFunc_int_int:=by kernel_rfl
theorem go_slices_ContainsFunc_int_int:GoT Tryz.f76.ntmps 76 ac_slices_ContainsFunc_int_int rs_slices_ContainsFunc_int_int:=goT Tryz.func76 (by kernel_rfl) c_slices_ContainsFunc_int_int (by kernel_rfl)
def ac_tape_limit:AC :=
 (rg [⟨some 2,.mov,[cb false],[],none⟩] false).seq
 ((rg [mv 3 0,⟨some 4,.bin .geq,[.t 3,ci 1],[0],none⟩,mv 5 4 [1],⟨some 6,.mov,[.t 0],[2],some (2,5,true)⟩,⟨some 7,.bin .leq,[.t 6,ci 2147483647],[3,2],some (2,5,true)⟩,⟨some 8,.pick,[.t 5,.t 7,cb false],[2,4],none⟩,mv 2 8 [5,2,0,1,2,3,4,5]] false).seq AC.ret)
def rs_tape_limit:List RV:=[.t 2]
theorem c_tape_limit:compile Tryz.prog ⟨Go.Func.ntmps Tryz.f72,[]⟩ (Tryz.f72.body.getD .skip)=some ac_tape_limit:=by kernel_rfl
theorem go_tape_limit:GoT Tryz.f72.ntmps 72 ac_tape_limit rs_tape_limit:=goT Tryz.func72 (by kernel_rfl) c_tape_limit (by kernel_rfl)
def ac_tape_drawing_draw:AC :=
 (rg [⟨some 6,.mov,[ci 0],[],none⟩] false).seq
 (((rg [⟨some 7,.mov,[ci 0],[],none⟩] false).seq
 (AC.block 0 (((rg [mv 10 7,mv 11 2,bn 12 .lss 10 11 [0,1]] false).seq
 (AC.cond (.t 12) AC.skip (AC.exit 0))).seq
 ((AC.block 1 ((rg [mv 16 0,⟨some 17,.nck,[.t 16],[0],none⟩,fa 18 0 17 [1],mv 19 1,⟨some 20,.call 96,[.t 18,.t 19],[2,3],none⟩,mv 15 20 [4],xt 21 0 15 [5],xt 22 1 15 [5],mv 8 21 [6,4,0,1,2,3,4,5,6],mv 9 22 [7,8,0,1,2,3,4,5,6,7,8]] false).seq
 (((rg [mv 23 9,⟨some 24,.bin .neq,[.t 23,ci 0],[0],none⟩] false).seq
 (AC.cond (.t 24) ((rg [mv 25 9,mv 6 25 [0,0]] false).seq AC.ret) AC.skip)).seq
 (rg [mv 26 0,mv 27 0,⟨some 28,.nck,[.t 27],[1],none⟩,fa 29 2 28 [2],ld 30 29 [3],mv 31 8,⟨some 32,.bsl 1 [I 0] 1 [0],[.t 31],[5],none⟩,⟨some 33,.app 1 8,[.t 30,.t 32],[4,6],none⟩,⟨some 34,.nck,[.t 26],[0,0,1,2,3,4,5,6,7],none⟩,fa 35 2 34 [8,0,1,2,3,4,5,6,7],⟨none,.store 1,[.t 35,.t 33],[9,7,7,0,1,2,3,4,5,6,7],none⟩] false)))).seq
 (rg [mv 13 7,⟨some 14,.bin .add,[.t 13,ci 1],[0],none⟩,mv 7 14 [1,0,1]] false))).loop)).seq
 ((rg [⟨some 6,.mov,[ci 0],[],none⟩] false).seq AC.ret))
def rs_tape_drawing_draw:List RV:=[.t 6]
theorem c_tape_drawing_draw:compile Tryz.prog ⟨Go.Func.ntmps Tryz.f73,[]⟩ (Tryz.f73.body.getD .skip)=some ac_tape_drawing_draw:=by kernel_rfl
theorem go_tape_drawing_draw:GoT Tryz.f73.ntmps 73 ac_tape_drawing_draw rs_tape_drawing_draw:=goT Tryz.func73 (by kernel_rfl) c_tape_drawing_draw (by kernel_rfl)
def ac_slices_Clone_int_int:AC :=
 (rg [⟨some 2,.mov,[AV.c (V.nl 1)],[],none⟩] false).seq
 (((rg [mv 3 0,⟨some 4,.isn false,[.t 3,AV.c (V.nl 1)],[0],none⟩] false).seq
 (AC.cond (.t 4) ((rg [⟨some 2,.mov,[AV.c (V.nl 1)],[],none⟩] false).seq AC.ret) AC.skip)).seq
 ((rg [⟨some 5,.bsl 1 [I 0] 0 [],[],[],none⟩,mv 6 0,⟨some 7,.app 1 8,[.t 5,.t 6],[0,1],none⟩,mv 2 7 [2,2,0,1,2]] false).seq AC.ret))
def rs_slices_Clone_int_int:List RV:=[.t 2]
theorem c_slices_Clone_int_int:compile Tryz.prog ⟨Go.Func.ntmps Tryz.f59,[]⟩ (Tryz.f59.body.getD .skip)=some ac_slices_Clone_int_int:=by kernel_rfl
theorem go_slices_Clone_int_int:GoT Tryz.f59.ntmps 59 ac_slices_Clone_int_int rs_slices_Clone_int_int:=goT Tryz.func59 (by kernel_rfl) c_slices_Clone_int_int (by kernel_rfl)
def ac_residue_Of:AC :=
 (rg [⟨some 1,.box,[.t 0],[],none⟩,⟨some 2,.mov,[ci 0],[],none⟩,⟨some 3,.mov,[cb false],[1],none⟩] false).seq
 (((rg [fa 5 0 1,ld 6 5 [0],⟨some 7,.bin .lss,[.t 6,ci 2],[1],none⟩,mv 8 7 [2],⟨some 9,.fad 0,[.t 1],[3],some (3,8,false)⟩,⟨some 10,.load 1 false,[.t 9],[4,3],some (3,8,false)⟩,⟨some 11,.bin .gtr,[.t 10,ci 65521],[5,3],some (3,8,false)⟩,⟨some 12,.pick,[.t 8,cb true,.t 11],[3,6],none⟩] false).seq
 (AC.cond (.t 12) ((rg [⟨some 2,.mov,[ci 0],[],none⟩,⟨some 3,.mov,[cb false],[0,0],none⟩] false).seq AC.ret) AC.skip)).seq
 (((rg [⟨some 4,.mov,[ci 2],[],none⟩] false).seq
 (AC.block 0 (((rg [mv 13 4,mv 14 4,bn 15 .mul 13 14 [0,1],fa 16 0 1,ld 17 16 [3],bn 18 .leq 15 17 [2,4]] false).seq
 (AC.cond (.t 18) AC.skip (AC.exit 0))).seq
 ((AC.block 1 ((rg [fa 21 0 1,ld 22 21 [0],mv 23 4,bn 24 .rem 22 23 [1,2],⟨some 25,.bin .eql,[.t 24,ci 0],[3],none⟩] false).seq
 (AC.cond (.t 25) ((rg [⟨some 2,.mov,[ci 0],[],none⟩,⟨some 3,.mov,[cb false],[0,0],none⟩] false).seq AC.ret) AC.skip))).seq
 (rg [mv 19 4,⟨some 20,.bin .add,[.t 19,ci 1],[0],none⟩,mv 4 20 [1,0,1]] false))).loop)).seq
 ((rg [fa 26 0 1,ld 27 26 [0],mv 2 27 [1,0,1],⟨some 3,.mov,[cb true],[2,0,1,2],none⟩] false).seq AC.ret)))
def rs_residue_Of:List RV:=[.t 2,.t 3]
theorem c_residue_Of:compile Tryz.prog ⟨Go.Func.ntmps Tryz.f44,[]⟩ (Tryz.f44.body.getD .skip)=some ac_residue_Of:=by kernel_rfl
theorem go_residue_Of:GoT Tryz.f44.ntmps 44 ac_residue_Of rs_residue_Of:=goT Tryz.func44 (by kernel_rfl) c_residue_Of (by kernel_rfl)
def ac_residue_Field_Has:AC :=
 (rg [⟨some 4,.mov,[cb false],[],none⟩] false).seq
 ((rg [mv 5 1,⟨some 6,.bin .geq,[.t 5,ci 0],[0],none⟩,mv 7 6 [1],⟨some 8,.mov,[.t 1],[2],some (2,7,true)⟩,⟨some 9,.mov,[.t 0],[2],some (2,7,true)⟩,⟨some 10,.bin .lss,[.t 8,.t 9],[3,4,2],some (2,7,true)⟩,⟨some 11,.pick,[.t 7,.t 10,cb false],[2,5],none⟩,mv 4 11 [6,2,0,1,2,3,4,5,6]] false).seq AC.ret)
def rs_residue_Field_Has:List RV:=[.t 4]
theorem c_residue_Field_Has:compile Tryz.prog ⟨Go.Func.ntmps Tryz.f45,[]⟩ (Tryz.f45.body.getD .skip)=some ac_residue_Field_Has:=by kernel_rfl
theorem go_residue_Field_Has:GoT Tryz.f45.ntmps 45 ac_residue_Field_Has rs_residue_Field_Has:=goT Tryz.func45 (by kernel_rfl) c_residue_Field_Has (by kernel_rfl)
def ac_share_threshold:AC :=
 (rg [⟨some 2,.mov,[cb false],[],none⟩] false).seq
 ((rg [mv 3 0,⟨some 4,.bin .geq,[.t 3,ci 0],[0],none⟩,mv 5 4 [1],⟨some 6,.mov,[.t 0],[2],some (2,5,true)⟩,⟨some 7,.bin .leq,[.t 6,ci 9],[3,2],some (2,5,true)⟩,⟨some 8,.pick,[.t 5,.t 7,cb false],[2,4],none⟩,mv 2 8 [5,2,0,1,2,3,4,5]] false).seq AC.ret)
def rs_share_threshold:List RV:=[.t 2]
theorem c_share_threshold:compile Tryz.prog ⟨Go.Func.ntmps Tryz.f74,[]⟩ (Tryz.f74.body.getD .skip)=some ac_share_threshold:=by kernel_rfl
theorem go_share_threshold:GoT Tryz.f74.ntmps 74 ac_share_threshold rs_share_threshold:=goT Tryz.func74 (by kernel_rfl) c_share_threshold (by kernel_rfl)
def ac_share_shares:AC :=
 (rg [⟨some 6,.mov,[AV.c (V.nl 2)],[],none⟩] false).seq
 ((rg [⟨some 7,.mov,[AV.c (V.nl 2)],[],none⟩] false).seq
 (((rg [mv 10 2,⟨some 11,.len,[.t 10],[0],none⟩,⟨some 12,.mov,[ci 0],[],none⟩] false).seq
 (AC.block 0 ((rg [bn 13 .lss 12 11] false).seq
 ((AC.cond (.t 13) AC.skip (AC.exit 0)).seq
 ((AC.block 1 ((rg [⟨some 14,.iad 1,[.t 10,.t 12],[],none⟩,ld 15 14 [0],mv 9 15 [1,0,1]] false).seq
 (rg [mv 16 7,mv 17 9,mv 18 0,mv 19 1,mv 20 9,⟨some 21,.call 47,[.t 18,.t 19,.t 20],[2,3,4],none⟩,⟨some 22,.build [I 0,I 0] [(0,1),(1,1)],[.t 17,.t 21],[1,5],none⟩,⟨some 23,.bsl 2 [I 0,I 0] 1 [0],[.t 22],[6],none⟩,⟨some 24,.app 2 16,[.t 16,.t 23],[0,7,5],none⟩,mv 7 24 [8,8,0,1,2,3,4,5,6,7,8]] false))).seq
 (rg [⟨some 25,.bin .add,[.t 12,ci 1],[],none⟩,mv 12 25 [0]] false)))).loop)).seq
 ((rg [mv 26 7,mv 6 26 [0,0]] false).seq AC.ret)))
def rs_share_shares:List RV:=[.t 6]
theorem c_share_shares:compile Tryz.prog ⟨Go.Func.ntmps Tryz.f75,[]⟩ (Tryz.f75.body.getD .skip)=some ac_share_shares:=by kernel_rfl
theorem go_share_shares:GoT Tryz.f75.ntmps 75 ac_share_shares rs_share_shares:=goT Tryz.func75 (by kernel_rfl) c_share_shares (by kernel_rfl)
def ac_curve_valid:AC :=
 (rg [⟨some 1,.box,[.t 0],[],none⟩,⟨some 2,.mov,[cb false],[],none⟩] false).seq
 ((rg [fa 3 0 1,ld 4 3 [0],⟨some 5,.bin .geq,[.t 4,ci 2],[1],none⟩,mv 6 5 [2],⟨some 7,.fad 0,[.t 1],[3],some (3,6,true)⟩,⟨some 8,.load 1 false,[.t 7],[4,3],some (3,6,true)⟩,⟨some 9,.bin .leq,[.t 8,ci 10],[5,3],some (3,6,true)⟩,⟨some 10,.pick,[.t 6,.t 9,cb false],[3,6],none⟩,mv 11 10 [7,3],⟨some 12,.fad 1,[.t 1],[8],some (8,11,true)⟩,⟨some 13,.load 1 false,[.t 12],[9,8],some (8,11,true)⟩,⟨some 14,.bin .geq,[.t 13,ci 1],[10,8],some (8,11,true)⟩,⟨some 15,.pick,[.t 11,.t 14,cb false],[8,11],none⟩,mv 16 15 [12,8],⟨some 17,.fad 1,[.t 1],[13],some (13,16,true)⟩,⟨some 18,.load 1 false,[.t 17],[14,13],some (13,16,true)⟩,⟨some 19,.fad 0,[.t 1],[13],some (13,16,true)⟩,⟨some 20,.load 1 false,[.t 19],[16,13],some (13,16,true)⟩,⟨some 21,.bin .lss,[.t 18,.t 20],[15,17,13],some (13,16,true)⟩,⟨some 22,.pick,[.t 16,.t 21,cb false],[13,18],none⟩,mv 2 22 [19,13,0,1,2,3,4,5,6,7,8,9,10,11,12,13,14,15,16,17,18,19]] false).seq AC.ret)
def rs_curve_valid:List RV:=[.t 2]
theorem c_curve_valid:compile Tryz.prog ⟨Go.Func.ntmps Tryz.f81,[]⟩ (Tryz.f81.body.getD .skip)=some ac_curve_valid:=by kernel_rfl
theorem go_curve_valid:GoT Tryz.f81.ntmps 81 ac_curve_valid rs_curve_valid:=goT Tryz.func81 (by kernel_rfl) c_curve_valid (by kernel_rfl)
def ac_residue_Field_All_1:AC :=
 (rg [⟨some 3,.mov,[cb false],[],none⟩] false).seq
 ((rg [ld 4 1,mv 5 0,⟨some 6,.call 45,[.t 4,.t 5],[0,1],none⟩,⟨some 7,.un .not,[.t 6],[2],none⟩,mv 3 7 [3,2,0,1,2,3]] false).seq AC.ret)
def rs_residue_Field_All_1:List RV:=[.t 3]
theorem c_residue_Field_All_1:compile Tryz.prog ⟨Go.Func.ntmps Tryz.f77,[]⟩ (Tryz.f77.body.getD .skip)=some ac_residue_Field_All_1:=by kernel_rfl
theorem go_residue_Field_All_1:GoT Tryz.f77.ntmps 77 ac_residue_Field_All_1 rs_residue_Field_All_1:=goT Tryz.func77 (by kernel_rfl) c_residue_Field_All_1 (by kernel_rfl)
def ac_slices_Sort_int_int:AC :=
 (rg [mv 3 0,⟨some 4,.len,[.t 3],[0],none⟩,mv 2 4 [1,0,1]] false).seq
 (rg [mv 5 0,mv 6 2,mv 7 2,⟨some 8,.conv .u64,[.t 7],[2],none⟩,⟨some 9,.call 100,[.t 8],[3],none⟩,⟨some 10,.call 99,[.t 5,ci 0,.t 6,.t 9],[0,1,4,4],none⟩] false)
def rs_slices_Sort_int_int:List RV:=[]
theorem c_slices_Sort_int_int:compile Tryz.prog ⟨Go.Func.ntmps Tryz.f82,[]⟩ (Tryz.f82.body.getD .skip)=some ac_slices_Sort_int_int:=by kernel_rfl
theorem go_slices_Sort_int_int:GoT Tryz.f82.ntmps 82 ac_slices_Sort_int_int rs_slices_Sort_int_int:=goT Tryz.func82 (by kernel_rfl) c_slices_Sort_int_int (by kernel_rfl)
def ac_slices_Compact_int_int:AC :=
 (rg [⟨some 2,.mov,[AV.c (V.nl 1)],[],none⟩] false).seq
 (((rg [mv 6 0,⟨some 7,.len,[.t 6],[0],none⟩,⟨some 8,.bin .lss,[.t 7,ci 2],[1],none⟩] false).seq
 (AC.cond (.t 8) ((rg [mv 9 0,mv 2 9 [0,0]] false).seq AC.ret) AC.skip)).seq
 (((rg [⟨some 3,.mov,[ci 1],[],none⟩] false).seq
 (AC.block 0 (((rg [mv 10 3,mv 11 0,⟨some 12,.len,[.t 11],[1],none⟩,bn 13 .lss 10 12 [0,2]] false).seq
 (AC.cond (.t 13) AC.skip (AC.exit 0))).seq
 ((AC.block 1 ((rg [mv 16 0,mv 17 3,⟨some 18,.iad 1,[.t 16,.t 17],[0,1],none⟩,ld 19 18 [2],mv 20 0,mv 21 3,⟨some 22,.bin .sub,[.t 21,ci 1],[5],none⟩,⟨some 23,.iad 1,[.t 20,.t 22],[4,6],none⟩,ld 24 23 [7],bn 25 .eql 19 24 [3,8]] true).seq
 (AC.cond (.t 25) ((rg [mv 26 0,mv 27 3,⟨some 28,.slc true false false 1,[.t 26,.t 27],[0,1],none⟩,mv 4 28 [2,0,1,2]] false).seq
 (((rg [⟨some 5,.mov,[ci 1],[],none⟩] false).seq
 (AC.block 2 (((rg [mv 29 5,mv 30 4,⟨some 31,.len,[.t 30],[1],none⟩,bn 32 .lss 29 31 [0,2]] false).seq
 (AC.cond (.t 32) AC.skip (AC.exit 2))).seq
 ((AC.block 3 ((rg [mv 35 4,mv 36 5,⟨some 37,.iad 1,[.t 35,.t 36],[0,1],none⟩,ld 38 37 [2],mv 39 4,mv 40 5,⟨some 41,.bin .sub,[.t 40,ci 1],[5],none⟩,⟨some 42,.iad 1,[.t 39,.t 41],[4,6],none⟩,ld 43 42 [7],bn 44 .neq 38 43 [3,8]] true).seq
 (AC.cond (.t 44) ((rg [mv 45 0,mv 46 3,mv 47 4,mv 48 5,⟨some 49,.iad 1,[.t 47,.t 48],[2,3],none⟩,ld 50 49 [4],⟨some 51,.iad 1,[.t 45,.t 46],[0,1,0,1,2,3,4,5],none⟩,⟨none,.store 1,[.t 51,.t 50],[6,5,0,1,2,3,4,5],none⟩] false).seq
 (rg [mv 52 3,⟨some 53,.bin .add,[.t 52,ci 1],[0],none⟩,mv 3 53 [1,0,1]] false)) AC.skip))).seq
 (rg [mv 33 5,⟨some 34,.bin .add,[.t 33,ci 1],[0],none⟩,mv 5 34 [1,0,1]] false))).loop)).seq
 ((AC.clr { sl:=0,il:=3,d1:=54,d2:=55,d3:=56,k:=1,z:=[I 0] }).seq
 ((rg [mv 57 0,mv 58 3,⟨some 59,.slc false true false 1,[.t 57,.t 58],[0,1],none⟩,mv 2 59 [2,0,1,2]] false).seq AC.ret)))) AC.skip))).seq
 (rg [mv 14 3,⟨some 15,.bin .add,[.t 14,ci 1],[0],none⟩,mv 3 15 [1,0,1]] false))).loop)).seq
 ((rg [mv 60 0,mv 2 60 [0,0]] false).seq AC.ret)))
def rs_slices_Compact_int_int:List RV:=[.t 2]
theorem c_slices_Compact_int_int:compile Tryz.prog ⟨Go.Func.ntmps Tryz.f83,[]⟩ (Tryz.f83.body.getD .skip)=some ac_slices_Compact_int_int:=by kernel_rfl
theorem go_slices_Compact_int_int:GoT Tryz.f83.ntmps 83 ac_slices_Compact_int_int rs_slices_Compact_int_int:=goT Tryz.func83 (by kernel_rfl) c_slices_Compact_int_int (by kernel_rfl)
def ac_unique_Decode:AC :=
 (rg [⟨some 3,.box,[.t 0],[],none⟩,⟨some 6,.alloc [V.nl 1,V.nl 1],[],[],none⟩,⟨some 7,.mov,[ci 0],[],none⟩] false).seq
 ((rg [⟨some 11,.load 1 true,[.t 3],[],none⟩,mv 12 1,mv 13 2,⟨some 14,.call 101,[.t 11,.t 12,.t 13],[0,1,2],none⟩,mv 10 14 [3],xt 15 0 10 [4],xt 16 1 10 [4],⟨some 8,.alloc [V.nl 1,V.nl 1],[],[],none⟩,⟨none,.store 2,[.t 8,.t 15],[7,5,3,0,1,2,3,4,5,7],none⟩,mv 9 16 [6,8,0,1,2,3,4,5,6,7,8]] false).seq
 (((rg [mv 17 9,⟨some 18,.ldg 0,[],[],none⟩,⟨some 19,.call 102,[.t 17,.t 18],[0,1],none⟩] false).seq
 (AC.cond (.t 19) ((rg [⟨some 20,.build [V.nl 1,V.nl 1] [],[],[],none⟩,⟨none,.store 2,[.t 6,.t 20],[0,0],none⟩,⟨some 7,.mov,[ci 12],[1,0,1],none⟩] false).seq AC.ret) AC.skip)).seq
 ((rg [⟨some 21,.load 2 true,[.t 8],[],none⟩,mv 22 9,⟨some 23,.call 103,[.t 22],[1],none⟩,⟨none,.store 2,[.t 6,.t 21],[0,2,0],none⟩,mv 7 23 [2,3,0,1,2,3]] true).seq AC.ret)))
def rs_unique_Decode:List RV:=[.c 6 2 true,.t 7]
theorem c_unique_Decode:compile Tryz.prog ⟨Go.Func.ntmps Tryz.f84,[]⟩ (Tryz.f84.body.getD .skip)=some ac_unique_Decode:=by kernel_rfl
theorem go_unique_Decode:GoT Tryz.f84.ntmps 84 ac_unique_Decode rs_unique_Decode:=goT Tryz.func84 (by kernel_rfl) c_unique_Decode (by kernel_rfl)
def ac_residue_Field_AddTimes:AC :=
 (rg [mv 10 3,⟨some 11,.len,[.t 10],[0],none⟩,⟨some 12,.mov,[ci 0],[],none⟩] false).seq
 (AC.block 0 ((rg [bn 13 .lss 12 11] false).seq
 ((AC.cond (.t 13) AC.skip (AC.exit 0)).seq
 ((AC.block 1 ((rg [mv 14 12,⟨some 15,.iad 1,[.t 10,.t 12],[],none⟩,ld 16 15 [1],mv 8 14 [0,0,1,2],mv 9 16 [2,3,0,1,2,3]] false).seq
 (rg [mv 17 1,mv 18 8,mv 19 0,mv 20 1,mv 21 8,⟨some 22,.iad 1,[.t 20,.t 21],[3,4],none⟩,ld 23 22 [5],mv 24 0,mv 25 2,mv 26 9,⟨some 27,.call 80,[.t 24,.t 25,.t 26],[7,8,9],none⟩,⟨some 28,.call 79,[.t 19,.t 23,.t 27],[2,6,10,10],none⟩,⟨some 29,.iad 1,[.t 17,.t 18],[0,1,0,1,2,3,4,5,6,7,8,9,10,11],none⟩,⟨none,.store 1,[.t 29,.t 28],[12,11,11,0,1,2,3,4,5,6,7,8,9,10,11],none⟩] true))).seq
 (rg [⟨some 30,.bin .add,[.t 12,ci 1],[],none⟩,mv 12 30 [0]] false)))).loop)
def rs_residue_Field_AddTimes:List RV:=[]
theorem c_residue_Field_AddTimes:compile Tryz.prog ⟨Go.Func.ntmps Tryz.f48,[]⟩ (Tryz.f48.body.getD .skip)=some ac_residue_Field_AddTimes:=by kernel_rfl
theorem go_residue_Field_AddTimes:GoT Tryz.f48.ntmps 48 ac_residue_Field_AddTimes rs_residue_Field_AddTimes:=goT Tryz.func48 (by kernel_rfl) c_residue_Field_AddTimes (by kernel_rfl)
def ac_slices_IndexFunc_int_int:AC :=
 (rg [⟨some 4,.mov,[ci 0],[],none⟩] false).seq
 (((rg [mv 6 0,⟨some 7,.len,[.t 6],[0],none⟩,⟨some 8,.mov,[ci 0],[],none⟩] false).seq
 (AC.block 0 ((rg [bn 9 .lss 8 7] false).seq
 ((AC.cond (.t 9) AC.skip (AC.exit 0)).seq
 ((AC.block 1 ((rg [mv 10 8,mv 5 10 [0,0]] false).seq
 ((rg [mv 11 1,mv 12 0,mv 13 5,⟨some 14,.iad 1,[.t 12,.t 13],[1,2],none⟩,ld 15 14 [3],⟨some 16,.callv,[.t 11,.t 15],[0,4],none⟩] false).seq
 (AC.cond (.t 16) ((rg [mv 17 5,mv 4 17 [0,0]] false).seq AC.ret) AC.skip)))).seq
 (rg [⟨some 18,.bin .add,[.t 8,ci 1],[],none⟩,mv 8 18 [0]] false)))).loop)).seq
 ((rg [⟨some 4,.mov,[ci (-1)],[],none⟩] false).seq AC.ret))
def rs_slices_IndexFunc_int_int:List RV:=[.t 4]
theorem c_slices_IndexFunc_int_int:compile Tryz.prog ⟨Go.Func.ntmps Tryz.f97,[]⟩ (Tryz.f97.body.getD .skip)=some ac_slices_IndexFunc_int_int:=by kernel_rfl
theorem go_slices_IndexFunc_int_int:GoT Tryz.f97.ntmps 97 ac_slices_IndexFunc_int_int rs_slices_IndexFunc_int_int:=goT Tryz.func97 (by kernel_rfl) c_slices_IndexFunc_int_int (by kernel_rfl)
def ac_tape_position_next:AC :=
 (rg [⟨some 4,.mov,[ci 0],[],none⟩,⟨some 5,.mov,[ci 0],[0],none⟩] false).seq
 (((rg [mv 7 0,⟨some 8,.nck,[.t 7],[0],none⟩,fa 9 1 8 [1],ld 10 9 [2],mv 11 0,⟨some 12,.nck,[.t 11],[4],none⟩,fa 13 0 12 [5],ld 14 13 [6],⟨some 15,.len,[.t 14],[7],none⟩,bn 16 .eql 10 15 [3,8]] true).seq
 (AC.cond (.t 16) ((rg [⟨some 4,.mov,[ci 0],[],none⟩,⟨some 5,.mov,[ci 3],[0,0],none⟩] false).seq AC.ret) AC.skip)).seq
 ((rg [mv 17 0,⟨some 18,.nck,[.t 17],[0],none⟩,fa 19 0 18 [1],ld 20 19 [2],mv 21 0,⟨some 22,.nck,[.t 21],[4],none⟩,fa 23 1 22 [5],ld 24 23 [6],⟨some 25,.iad 1,[.t 20,.t 24],[3,7],none⟩,ld 26 25 [8],mv 6 26 [9,0,1,2,3,4,5,6,7,8,9]] true).seq
 (((rg [mv 27 6,⟨some 28,.bin .lss,[.t 27,ci 0],[0],none⟩,mv 29 28 [1],⟨some 30,.mov,[.t 6],[2],some (2,29,false)⟩,⟨some 31,.mov,[.t 1],[2],some (2,29,false)⟩,⟨some 32,.bin .geq,[.t 30,.t 31],[3,4,2],some (2,29,false)⟩,⟨some 33,.pick,[.t 29,cb true,.t 32],[2,5],none⟩] false).seq
 (AC.cond (.t 33) ((rg [⟨some 4,.mov,[ci 0],[],none⟩,⟨some 5,.mov,[ci 8],[0,0],none⟩] false).seq AC.ret) AC.skip)).seq
 ((rg [mv 34 0,⟨some 35,.nck,[.t 34],[0],none⟩,fa 36 1 35 [1],ld 37 36 [2],⟨some 38,.bin .add,[.t 37,ci 1],[3],none⟩,⟨some 39,.nck,[.t 34],[0,0,1,2,3,4],none⟩,fa 40 1 39 [5,0,1,2,3,4],⟨none,.store 1,[.t 40,.t 38],[6,4,0,1,2,3,4],none⟩] false).seq
 ((rg [mv 41 6,mv 4 41 [0,0],⟨some 5,.mov,[ci 0],[1,0,1],none⟩] false).seq AC.ret)))))
def rs_tape_position_next:List RV:=[.t 4,.t 5]
theorem c_tape_position_next:compile Tryz.prog ⟨Go.Func.ntmps Tryz.f96,[]⟩ (Tryz.f96.body.getD .skip)=some ac_tape_position_next:=by kernel_rfl
def ac_slices_pdqsortOrdered_int:AC :=
 (rg [⟨some 8,.mov,[cb true],[],none⟩] false).seq
 ((rg [⟨some 9,.mov,[cb true],[],none⟩] false).seq
 (AC.block 0 (AC.block 1 ((rg [mv 19 2,mv 20 1,bn 21 .sub 19 20 [0,1],mv 10 21 [2,0,1,2]] false).seq
 (((rg [mv 22 10,⟨some 23,.bin .leq,[.t 22,ci 12],[0],none⟩] false).seq
 (AC.cond (.t 23) ((rg [mv 24 0,mv 25 1,mv 26 2,⟨some 27,.call 106,[.t 24,.t 25,.t 26],[0,1,2],none⟩] false).seq AC.ret) AC.skip)).seq
 (((rg [mv 28 3,⟨some 29,.bin .eql,[.t 28,ci 0],[0],none⟩] false).seq
 (AC.cond (.t 29) ((rg [mv 30 0,mv 31 1,mv 32 2,⟨some 33,.call 107,[.t 30,.t 31,.t 32],[0,1,2],none⟩] false).seq AC.ret) AC.skip)).seq
 (((rg [mv 34 8,⟨some 35,.un .not,[.t 34],[0],none⟩] false).seq
 (AC.cond (.t 35) ((rg [mv 36 0,mv 37 1,mv 38 2,⟨some 39,.call 108,[.t 36,.t 37,.t 38],[0,1,2],none⟩] false).seq
 (rg [mv 40 3,⟨some 41,.bin .sub,[.t 40,ci 1],[0],none⟩,mv 3 41 [1,0,1]] false)) AC.skip)).seq
 ((rg [mv 43 0,mv 44 1,mv 45 2,⟨some 46,.call 109,[.t 43,.t 44,.t 45],[0,1,2],none⟩,mv 42 46 [3],xt 47 0 42 [4],xt 48 1 42 [4],mv 11 47 [5,3,0,1,2,3,4,5],mv 12 48 [6,7,0,1,2,3,4,5,6,7]] false).seq
 (((rg [mv 49 12,⟨some 50,.bin .eql,[.t 49,ci 2],[0],none⟩] false).seq
 (AC.cond (.t 50) ((rg [mv 51 0,mv 52 1,mv 53 2,⟨some 54,.call 110,[.t 51,.t 52,.t 53],[0,1,2],none⟩] false).seq
 ((rg [mv 55 2,⟨some 56,.bin .sub,[.t 55,ci 1],[0],none⟩,mv 57 11,mv 58 1,bn 59 .sub 57 58 [2,3],bn 60 .sub 56 59 [1,4],mv 11 60 [5,0,1,2,3,4,5]] false).seq
 (rg [⟨some 12,.mov,[ci 1],[],none⟩] false))) AC.skip)).seq
 (((rg [mv 61 8,mv 62 61 [0],⟨some 63,.mov,[.t 9],[1],some (1,62,true)⟩,⟨some 64,.pick,[.t 62,.t 63,cb false],[1,2],none⟩,mv 65 64 [3,1],⟨some 66,.mov,[.t 12],[4],some (4,65,true)⟩,⟨some 67,.bin .eql,[.t 66,ci 1],[5,4],some (4,65,true)⟩,⟨some 68,.pick,[.t 65,.t 67,cb false],[4,6],none⟩] false).seq
 (AC.cond (.t 68) ((rg [mv 69 0,mv 70 1,mv 71 2,⟨some 72,.call 111,[.t 69,.t 70,.t 71],[0,1,2],none⟩] false).seq
 (AC.cond (.t 72) AC.ret AC.skip)) AC.skip)).seq
 (((rg [mv 73 1,⟨some 74,.bin .gtr,[.t 73,ci 0],[0],none⟩,mv 75 74 [1],⟨some 76,.mov,[.t 0],[2],some (2,75,true)⟩,⟨some 77,.mov,[.t 1],[2],some (2,75,true)⟩,⟨some 78,.bin .sub,[.t 77,ci 1],[4,2],some (2,75,true)⟩,⟨some 79,.iad 1,[.t 76,.t 78],[3,5,2],some (2,75,true)⟩,⟨some 80,.load 1 false,[.t 79],[6,2],some (2,75,true)⟩,⟨some 81,.mov,[.t 0],[2],some (2,75,true)⟩,⟨some 82,.mov,[.t 11],[2],some (2,75,true)⟩,⟨some 83,.iad 1,[.t 81,.t 82],[8,9,2],some (2,75,true)⟩,⟨some 84,.load 1 false,[.t 83],[10,2],some (2,75,true)⟩,⟨some 85,.call 112,[.t 80,.t 84],[7,11,2,2],some (2,75,true)⟩,⟨some 86,.un .not,[.t 85],[12,2],some (2,75,true)⟩,⟨some 87,.pick,[.t 75,.t 86,cb false],[2,13],none⟩] true).seq
 (AC.cond (.t 87) ((rg [mv 88 0,mv 89 1,mv 90 2,mv 91 11,⟨some 92,.call 113,[.t 88,.t 89,.t 90,.t 91],[0,1,2,3],none⟩,mv 13 92 [4,4,0,1,2,3,4]] false).seq
 ((rg [mv 93 13,mv 1 93 [0,0]] false).seq
 (AC.exit 1))) AC.skip)).seq
 ((rg [mv 95 0,mv 96 1,mv 97 2,mv 98 11,⟨some 99,.call 114,[.t 95,.t 96,.t 97,.t 98],[0,1,2,3],none⟩,mv 94 99 [4],xt 100 0 94 [5],xt 101 1 94 [5],mv 14 100 [6,4,0,1,2,3,4,5,6],mv 15 101 [7,8,0,1,2,3,4,5,6,7,8]] false).seq
 ((rg [mv 102 15,mv 9 102 [0,0]] false).seq
 ((rg [mv 103 14,mv 104 1,bn 105 .sub 103 104 [0,1],mv 106 2,mv 107 14,bn 108 .sub 106 107 [3,4],mv 16 105 [2,0,1,2],mv 17 108 [5,6,0,1,2,3,4,5,6]] false).seq
 ((rg [mv 109 10,⟨some 110,.bin .quo,[.t 109,ci 8],[0],none⟩,mv 18 110 [1,0,1]] false).seq
 ((rg [mv 111 16,mv 112 17,bn 113 .lss 111 112 [0,1]] false).seq
 (AC.cond (.t 113) ((rg [mv 114 16,mv 115 18,bn 116 .geq 114 115 [0,1],mv 8 116 [2,0,1,2]] false).seq
 ((rg [mv 117 0,mv 118 1,mv 119 14,mv 120 3,⟨some 121,.call 99,[.t 117,.t 118,.t 119,.t 120],[0,1,2,3],none⟩] false).seq
 (rg [mv 122 14,⟨some 123,.bin .add,[.t 122,ci 1],[0],none⟩,mv 1 123 [1,0,1]] false))) ((rg [mv 124 17,mv 125 18,bn 126 .geq 124 125 [0,1],mv 8 126 [2,0,1,2]] false).seq
 ((rg [mv 127 0,mv 128 14,⟨some 129,.bin .add,[.t 128,ci 1],[1],none⟩,mv 130 2,mv 131 3,⟨some 132,.call 99,[.t 127,.t 129,.t 130,.t 131],[0,2,3,4],none⟩] false).seq
 (rg [mv 133 14,mv 2 133 [0,0]] false)))))))))))))))))).loop))
def rs_slices_pdqsortOrdered_int:List RV:=[]
theorem c_slices_pdqsortOrdered_int:compile Tryz.prog ⟨Go.Func.ntmps Tryz.f99,[]⟩ (Tryz.f99.body.getD .skip)=some ac_slices_pdqsortOrdered_int:=by kernel_rfl
theorem go_slices_pdqsortOrdered_int:GoT Tryz.f99.ntmps 99 ac_slices_pdqsortOrdered_int rs_slices_pdqsortOrdered_int:=goT Tryz.func99 (by kernel_rfl) c_slices_pdqsortOrdered_int (by kernel_rfl)
def ac_math_bits_Len:AC :=
 (rg [⟨some 2,.mov,[ci 0],[],none⟩] false).seq
 ((AC.cond (cb false) ((rg [mv 3 0,⟨some 4,.conv .u32,[.t 3],[0],none⟩,⟨some 5,.call 115,[.t 4],[1],none⟩,mv 2 5 [2,2,0,1,2]] false).seq AC.ret) AC.skip).seq
 ((rg [mv 6 0,⟨some 7,.call 116,[.t 6],[0],none⟩,mv 2 7 [1,1,0,1]] false).seq AC.ret))
def rs_math_bits_Len:List RV:=[.t 2]
theorem c_math_bits_Len:compile Tryz.prog ⟨Go.Func.ntmps Tryz.f100,[]⟩ (Tryz.f100.body.getD .skip)=some ac_math_bits_Len:=by kernel_rfl
theorem go_math_bits_Len:GoT Tryz.f100.ntmps 100 ac_math_bits_Len rs_math_bits_Len:=goT Tryz.func100 (by kernel_rfl) c_math_bits_Len (by kernel_rfl)
def ac_unique_decode:AC :=
 (rg [⟨some 3,.box,[.t 0],[],none⟩,⟨some 6,.alloc [V.nl 1,V.nl 1],[],[],none⟩,⟨some 7,.mov,[AV.c (V.d (D.at Value.nilIface))],[],none⟩] false).seq
 (((rg [⟨some 21,.load 1 true,[.t 3],[],none⟩,mv 22 1,mv 23 2,⟨some 24,.call 117,[.t 21,.t 22,.t 23],[0,1,2],none⟩,mv 20 24 [3],xt 25 0 20 [4],xt 26 1 20 [4],mv 8 25 [5,3,0,1,2,3,4,5],mv 9 26 [6,7,0,1,2,3,4,5,6,7]] false).seq
 ((rg [mv 27 9,⟨some 28,.bin .neq,[.t 27,ci 0],[0],none⟩] false).seq
 (AC.cond (.t 28) ((rg [⟨some 29,.build [V.nl 1,V.nl 1] [],[],[],none⟩,mv 30 9,⟨some 31,.call 118,[.t 30],[1],none⟩,⟨none,.store 2,[.t 6,.t 29],[0,2,0],none⟩,mv 7 31 [2,3,0,1,2,3]] false).seq AC.ret) AC.skip))).seq
 ((rg [mv 33 1,⟨some 34,.call 120,[.t 33],[0],none⟩,mv 35 2,⟨some 36,.call 119,[.t 34,.t 35],[1,2,1],none⟩,mv 32 36 [3],xt 37 0 32 [4],xt 38 1 32 [4],mv 10 37 [5,3,0,1,2,3,4,5],mv 11 38 [6,7,0,1,2,3,4,5,6,7]] false).seq
 ((rg [⟨some 40,.load 1 true,[.t 3],[],none⟩,mv 41 1,mv 42 2,mv 43 10,⟨some 44,.call 121,[.t 40,.t 41,.t 42,.t 43],[0,1,2,3],none⟩,mv 39 44 [4],xt 45 0 39 [5],xt 46 1 39 [5],⟨some 12,.alloc [I 0,I 0,I 0,V.nl 1,V.nl 1],[],[],none⟩,⟨none,.store 5,[.t 12,.t 45],[8,6,4,0,1,2,3,4,5,6,8],none⟩,mv 13 46 [7,9,0,1,2,3,4,5,6,7,8,9]] false).seq
 (((rg [mv 47 13,⟨some 48,.bin .neq,[.t 47,ci 0],[0],none⟩] false).seq
 (AC.cond (.t 48) ((rg [⟨some 49,.build [V.nl 1,V.nl 1] [],[],[],none⟩,mv 50 13,⟨some 51,.call 118,[.t 50],[1],none⟩,⟨none,.store 2,[.t 6,.t 49],[0,2,0],none⟩,mv 7 51 [2,3,0,1,2,3]] false).seq AC.ret) AC.skip)).seq
 ((rg [⟨some 53,.load 5 true,[.t 12],[],none⟩,⟨some 54,.call 122,[.t 53],[0],none⟩,mv 52 54 [1],xt 55 0 52 [2],xt 56 1 52 [2],mv 14 55 [3,1,0,1,2,3],mv 13 56 [4,5,0,1,2,3,4,5]] false).seq
 (((rg [mv 57 13,⟨some 58,.bin .neq,[.t 57,ci 0],[0],none⟩] false).seq
 (AC.cond (.t 58) ((rg [⟨some 59,.build [V.nl 1,V.nl 1] [],[],[],none⟩,⟨some 60,.ldg 0,[],[],none⟩,⟨none,.store 2,[.t 6,.t 59],[0,0],none⟩,mv 7 60 [1,2,0,1,2]] true).seq AC.ret) AC.skip)).seq
 ((rg [mv 61 14,mv 62 2,mv 63 10,bn 64 .add 62 63 [1,2],⟨some 65,.slc false true false 1,[.t 61,.t 64],[0,3],none⟩,mv 66 14,mv 67 2,mv 68 10,bn 69 .add 67 68 [6,7],⟨some 70,.slc true false false 1,[.t 66,.t 69],[5,8],none⟩,⟨some 71,.call 59,[.t 70],[9],none⟩,⟨some 72,.bsl 1 [I 0] 1 [0],[ci 1],[],none⟩,⟨some 73,.app 1 8,[.t 71,.t 72],[10,11,10],none⟩,mv 15 65 [4,12,0,1,2,3,4],mv 16 73 [12,13,0,1,2,3,4,5,6,7,8,9,10,11,12,13]] true).seq
 ((rg [⟨some 75,.load 1 true,[.t 3],[],none⟩,mv 76 15,mv 77 16,⟨some 78,.call 123,[.t 75,.t 76,.t 77],[0,1,2],none⟩,mv 74 78 [3],xt 79 0 74 [4],xt 80 1 74 [4],xt 81 2 74 [4],mv 17 79 [5,3,0,1,2,3,4,5],mv 18 80 [6,8,0,1,2,3,4,5,6,8],mv 13 81 [7,9,0,1,2,3,4,5,6,7,8,9]] false).seq
 (((rg [mv 82 13,⟨some 83,.bin .neq,[.t 82,ci 0],[0],none⟩,mv 84 83 [1],⟨some 85,.mov,[.t 18],[2],some (2,84,false)⟩,⟨some 86,.len,[.t 85],[3,2],some (2,84,false)⟩,⟨some 87,.bin .gtr,[.t 86,ci 0],[4,2],some (2,84,false)⟩,⟨some 88,.pick,[.t 84,cb true,.t 87],[2,5],none⟩,mv 89 88 [6,2],⟨some 90,.mov,[.t 17],[7],some (7,89,false)⟩,⟨some 91,.len,[.t 90],[8,7],some (7,89,false)⟩,⟨some 92,.mov,[.t 2],[7],some (7,89,false)⟩,⟨some 93,.bin .gtr,[.t 91,.t 92],[9,10,7],some (7,89,false)⟩,⟨some 94,.pick,[.t 89,cb true,.t 93],[7,11],none⟩] false).seq
 (AC.cond (.t 94) ((rg [⟨some 95,.build [V.nl 1,V.nl 1] [],[],[],none⟩,⟨some 96,.ldg 0,[],[],none⟩,⟨none,.store 2,[.t 6,.t 95],[0,0],none⟩,mv 7 96 [1,2,0,1,2]] true).seq AC.ret) AC.skip)).seq
 ((rg [mv 97 17,fa 98 0 3,ld 99 98 [1],mv 100 1,mv 101 17,⟨some 102,.call 124,[.t 99,.t 100,.t 101],[2,3,4],none⟩,⟨some 103,.build [V.nl 1,V.nl 1] [(0,1),(1,1)],[.t 97,.t 102],[0,5],none⟩,⟨some 19,.alloc [V.nl 1,V.nl 1],[],[],none⟩,⟨none,.store 2,[.t 19,.t 103],[7,6,5,0,1,2,3,4,5,6,7],none⟩] false).seq
 (((rg [fa 104 1 19,ld 105 104 [0],⟨some 106,.len,[.t 105],[1],none⟩,mv 107 10,bn 108 .gtr 106 107 [2,3]] false).seq
 (AC.cond (.t 108) ((rg [⟨some 109,.build [V.nl 1,V.nl 1] [],[],[],none⟩,⟨some 110,.ldg 0,[],[],none⟩,⟨none,.store 2,[.t 6,.t 109],[0,0],none⟩,mv 7 110 [1,2,0,1,2]] true).seq AC.ret) AC.skip)).seq
 ((rg [⟨some 111,.load 2 true,[.t 19],[],none⟩,⟨none,.store 2,[.t 6,.t 111],[0,0],none⟩,⟨some 7,.mov,[AV.c (V.d (D.at Value.nilIface))],[1,0,1],none⟩] false).seq AC.ret))))))))))))
def rs_unique_decode:List RV:=[.c 6 2 true,.t 7]
theorem c_unique_decode:compile Tryz.prog ⟨Go.Func.ntmps Tryz.f101,[]⟩ (Tryz.f101.body.getD .skip)=some ac_unique_decode:=by kernel_rfl
theorem go_unique_decode:GoT Tryz.f101.ntmps 101 ac_unique_decode rs_unique_decode:=goT Tryz.func101 (by kernel_rfl) c_unique_decode (by kernel_rfl)
def ac_unique_number:AC :=
 (rg [⟨some 2,.mov,[ci 0],[],none⟩] false).seq
 (((rg [mv 5 0,⟨some 6,.ifn false,[.t 5,AV.c (V.d (D.at Value.nilIface))],[0],none⟩] false).seq
 (AC.cond (.t 6) ((rg [⟨some 2,.mov,[ci 0],[],none⟩] false).seq AC.ret) AC.skip)).seq
 (((rg [mv 8 0,⟨some 9,.bad,[],[0],none⟩,mv 7 9 [1],xt 10 0 7 [2],xt 11 1 7 [2],⟨some 3,.alloc [I 0],[],[],none⟩,⟨none,.store 1,[.t 3,.t 10],[5,3,0,1,2,3,5],none⟩,mv 4 11 [4,6,0,1,2,3,4,5,6]] false).seq
 ((rg [mv 12 4] false).seq
 (AC.cond (.t 12) ((rg [fa 13 0 3,ld 14 13 [0],mv 2 14 [1,0,1]] false).seq AC.ret) AC.skip))).seq
 ((rg [⟨some 2,.mov,[ci 2],[],none⟩] false).seq AC.ret)))
def rs_unique_number:List RV:=[.t 2]
theorem c_unique_number:compile Tryz.prog ⟨Go.Func.ntmps Tryz.f103,[]⟩ (Tryz.f103.body.getD .skip)=some ac_unique_number:=by kernel_rfl
theorem go_unique_number:GoT Tryz.f103.ntmps 103 ac_unique_number rs_unique_number:=goT Tryz.func103 (by kernel_rfl) c_unique_number (by kernel_rfl)
def ac_residue_Field_Add:AC :=
 (rg [⟨some 6,.mov,[ci 0],[],none⟩] false).seq
 ((rg [mv 7 1,mv 8 2,bn 9 .add 7 8 [0,1],mv 10 0,bn 11 .rem 9 10 [2,3],mv 6 11 [4,0,1,2,3,4]] false).seq AC.ret)
def rs_residue_Field_Add:List RV:=[.t 6]
theorem c_residue_Field_Add:compile Tryz.prog ⟨Go.Func.ntmps Tryz.f79,[]⟩ (Tryz.f79.body.getD .skip)=some ac_residue_Field_Add:=by kernel_rfl
theorem go_residue_Field_Add:GoT Tryz.f79.ntmps 79 ac_residue_Field_Add rs_residue_Field_Add:=goT Tryz.func79 (by kernel_rfl) c_residue_Field_Add (by kernel_rfl)
def ac_residue_Field_Mul:AC :=
 (rg [⟨some 6,.mov,[ci 0],[],none⟩] false).seq
 ((rg [mv 7 1,mv 8 2,bn 9 .mul 7 8 [0,1],mv 10 0,bn 11 .rem 9 10 [2,3],mv 6 11 [4,0,1,2,3,4]] false).seq AC.ret)
def rs_residue_Field_Mul:List RV:=[.t 6]
theorem c_residue_Field_Mul:compile Tryz.prog ⟨Go.Func.ntmps Tryz.f80,[]⟩ (Tryz.f80.body.getD .skip)=some ac_residue_Field_Mul:=by kernel_rfl
theorem go_residue_Field_Mul:GoT Tryz.f80.ntmps 80 ac_residue_Field_Mul rs_residue_Field_Mul:=goT Tryz.func80 (by kernel_rfl) c_residue_Field_Mul (by kernel_rfl)
def ac_slices_insertionSortOrdered_int:AC :=
 (rg [mv 8 1,⟨some 9,.bin .add,[.t 8,ci 1],[0],none⟩,mv 6 9 [1,0,1]] false).seq
 (AC.block 0 (((rg [mv 10 6,mv 11 2,bn 12 .lss 10 11 [0,1]] false).seq
 (AC.cond (.t 12) AC.skip (AC.exit 0))).seq
 ((AC.block 1 ((rg [mv 15 6,mv 7 15 [0,0]] false).seq
 (AC.block 2 (((rg [mv 16 7,mv 17 1,bn 18 .gtr 16 17 [0,1],mv 19 18 [2],⟨some 20,.mov,[.t 0],[3],some (3,19,true)⟩,⟨some 21,.mov,[.t 7],[3],some (3,19,true)⟩,⟨some 22,.iad 1,[.t 20,.t 21],[4,5,3],some (3,19,true)⟩,⟨some 23,.load 1 false,[.t 22],[6,3],some (3,19,true)⟩,⟨some 24,.mov,[.t 0],[3],some (3,19,true)⟩,⟨some 25,.mov,[.t 7],[3],some (3,19,true)⟩,⟨some 26,.bin .sub,[.t 25,ci 1],[9,3],some (3,19,true)⟩,⟨some 27,.iad 1,[.t 24,.t 26],[8,10,3],some (3,19,true)⟩,⟨some 28,.load 1 false,[.t 27],[11,3],some (3,19,true)⟩,⟨some 29,.call 112,[.t 23,.t 28],[7,12,3,3],some (3,19,true)⟩,⟨some 30,.pick,[.t 19,.t 29,cb false],[3,13],none⟩] true).seq
 (AC.cond (.t 30) AC.skip (AC.exit 2))).seq
 ((AC.block 3 (rg [mv 33 0,mv 34 7,mv 35 0,mv 36 7,⟨some 37,.bin .sub,[.t 36,ci 1],[3],none⟩,mv 38 0,mv 39 7,⟨some 40,.bin .sub,[.t 39,ci 1],[6],none⟩,⟨some 41,.iad 1,[.t 38,.t 40],[5,7],none⟩,ld 42 41 [8],mv 43 0,mv 44 7,⟨some 45,.iad 1,[.t 43,.t 44],[10,11],none⟩,ld 46 45 [12],⟨some 47,.iad 1,[.t 33,.t 34],[0,1,0,1,5,6,7,8,9,13],none⟩,⟨none,.store 1,[.t 47,.t 42],[14,9,0,1,5,6,7,8,9,13],none⟩,⟨some 48,.iad 1,[.t 35,.t 37],[2,4,0,1,2,3,4,5,6,7,8,9,10,11,12,13,14,15],none⟩,⟨none,.store 1,[.t 48,.t 46],[16,13,15,0,1,2,3,4,5,6,7,8,9,10,11,12,13,14,15],none⟩] true)).seq
 (rg [mv 31 7,⟨some 32,.bin .sub,[.t 31,ci 1],[0],none⟩,mv 7 32 [1,0,1]] false))).loop))).seq
 (rg [mv 13 6,⟨some 14,.bin .add,[.t 13,ci 1],[0],none⟩,mv 6 14 [1,0,1]] false))).loop)
def rs_slices_insertionSortOrdered_int:List RV:=[]
theorem c_slices_insertionSortOrdered_int:compile Tryz.prog ⟨Go.Func.ntmps Tryz.f106,[]⟩ (Tryz.f106.body.getD .skip)=some ac_slices_insertionSortOrdered_int:=by kernel_rfl
theorem go_slices_insertionSortOrdered_int:GoT Tryz.f106.ntmps 106 ac_slices_insertionSortOrdered_int rs_slices_insertionSortOrdered_int:=goT Tryz.func106 (by kernel_rfl) c_slices_insertionSortOrdered_int (by kernel_rfl)
def ac_cmp_Less_int:AC :=
 (rg [⟨some 4,.mov,[cb false],[],none⟩] false).seq
 ((rg [mv 5 0,⟨some 6,.call 132,[.t 5],[0],none⟩,mv 7 6 [1,1],⟨some 8,.mov,[.t 1],[2],some (2,7,true)⟩,⟨some 9,.call 132,[.t 8],[3,2,2],some (2,7,true)⟩,⟨some 10,.un .not,[.t 9],[4,2],some (2,7,true)⟩,⟨some 11,.pick,[.t 7,.t 10,cb false],[2,5],none⟩,mv 12 11 [6,4],⟨some 13,.mov,[.t 0],[7],some (7,12,false)⟩,⟨some 14,.mov,[.t 1],[7],some (7,12,false)⟩,⟨some 15,.bin .lss,[.t 13,.t 14],[8,9,7],some (7,12,false)⟩,⟨some 16,.pick,[.t 12,cb true,.t 15],[7,10],none⟩,mv 4 16 [11,7,0,1,2,3,4,5,6,7,8,9,10,11]] false).seq AC.ret)
def rs_cmp_Less_int:List RV:=[.t 4]
theorem c_cmp_Less_int:compile Tryz.prog ⟨Go.Func.ntmps Tryz.f112,[]⟩ (Tryz.f112.body.getD .skip)=some ac_cmp_Less_int:=by kernel_rfl
theorem go_cmp_Less_int:GoT Tryz.f112.ntmps 112 ac_cmp_Less_int rs_cmp_Less_int:=goT Tryz.func112 (by kernel_rfl) c_cmp_Less_int (by kernel_rfl)
def ac_math_bits_Len64:AC :=
 (rg [⟨some 2,.mov,[ci 0],[],none⟩] false).seq
 (((rg [mv 3 0,⟨some 4,.bin .geq,[.t 3,AV.c (V.d (D.at (Value.int .u64 4294967296)))],[0],none⟩] false).seq
 (AC.cond (.t 4) ((rg [mv 5 0,⟨some 6,.bin .shr,[.t 5,AV.c (V.d (D.at (Value.int .u64 32)))],[0],none⟩,mv 0 6 [1,0,1]] false).seq
 (rg [⟨some 2,.mov,[ci 32],[],none⟩] false)) AC.skip)).seq
 (((rg [mv 7 0,⟨some 8,.bin .geq,[.t 7,AV.c (V.d (D.at (Value.int .u64 65536)))],[0],none⟩] false).seq
 (AC.cond (.t 8) ((rg [mv 9 0,⟨some 10,.bin .shr,[.t 9,AV.c (V.d (D.at (Value.int .u64 16)))],[0],none⟩,mv 0 10 [1,0,1]] false).seq
 (rg [mv 11 2,⟨some 12,.bin .add,[.t 11,ci 16],[0],none⟩,mv 2 12 [1,0,1]] false)) AC.skip)).seq
 (((rg [mv 13 0,⟨some 14,.bin .geq,[.t 13,AV.c (V.d (D.at (Value.int .u64 256)))],[0],none⟩] false).seq
 (AC.cond (.t 14) ((rg [mv 15 0,⟨some 16,.bin .shr,[.t 15,AV.c (V.d (D.at (Value.int .u64 8)))],[0],none⟩,mv 0 16 [1,0,1]] false).seq
 (rg [mv 17 2,⟨some 18,.bin .add,[.t 17,ci 8],[0],none⟩,mv 2 18 [1,0,1]] false)) AC.skip)).seq
 ((rg [mv 19 2,mv 20 0,⟨some 21,.conv .u8,[.t 20],[1],none⟩,⟨some 22,.ixs,[AV.c (V.d (D.at (Value.string ⟨#[0,1,2,2,3,3,3,3,4,4,4,4,4,4,4,4,5,5,5,5,5,5,5,5,5,5,5,5,5,5,5,5,6,6,6,6,6,6,6,6,6,6,6,6,6,6,6,6,6,6,6,6,6,6,6,6,6,6,6,6,6,6,6,6,7,7,7,7,7,7,7,7,7,7,7,7,7,7,7,7,7,7,7,7,7,7,7,7,7,7,7,7,7,7,7,7,7,7,7,7,7,7,7,7,7,7,7,7,7,7,7,7,7,7,7,7,7,7,7,7,7,7,7,7,7,7,7,7,8,8,8,8,8,8,8,8,8,8,8,8,8,8,8,8,8,8,8,8,8,8,8,8,8,8,8,8,8,8,8,8,8,8,8,8,8,8,8,8,8,8,8,8,8,8,8,8,8,8,8,8,8,8,8,8,8,8,8,8,8,8,8,8,8,8,8,8,8,8,8,8,8,8,8,8,8,8,8,8,8,8,8,8,8,8,8,8,8,8,8,8,8,8,8,8,8,8,8,8,8,8,8,8,8,8,8,8,8,8,8,8,8,8,8,8,8,8,8,8,8,8,8,8,8,8,8,8]⟩))),.t 21],[2],none⟩,⟨some 23,.conv .i64,[.t 22],[3],none⟩,bn 24 .add 19 23 [0,4],mv 2 24 [5,0,1,2,3,4,5]] false).seq AC.ret))))
def rs_math_bits_Len64:List RV:=[.t 2]
theorem c_math_bits_Len64:compile Tryz.prog ⟨Go.Func.ntmps Tryz.f116,[]⟩ (Tryz.f116.body.getD .skip)=some ac_math_bits_Len64:=by kernel_rfl
theorem go_math_bits_Len64:GoT Tryz.f116.ntmps 116 ac_math_bits_Len64 rs_math_bits_Len64:=goT Tryz.func116 (by kernel_rfl) c_math_bits_Len64 (by kernel_rfl)
def ac_code_Fill:AC :=
 (rg [⟨some 3,.box,[.t 0],[],none⟩,⟨some 6,.mov,[AV.c (V.nl 1)],[],none⟩,⟨some 7,.mov,[ci 0],[1],none⟩] false).seq
 ((rg [⟨some 12,.load 1 true,[.t 3],[],none⟩,mv 13 1,⟨some 14,.call 133,[.t 12,.t 13],[0,1],none⟩,mv 11 14 [2],xt 15 0 11 [3],xt 16 1 11 [3],xt 17 2 11 [3],mv 8 15 [4,2,0,1,2,3,4],mv 9 16 [5,7,0,1,2,3,4,5,7],mv 10 17 [6,8,0,1,2,3,4,5,6,7,8]] false).seq
 ((AC.block 0 ((rg [mv 19 10,⟨some 20,.bin .neq,[.t 19,ci 0],[0],none⟩,mv 18 20 [1]] false).seq
 (AC.cond (.t 18) ((rg [mv 21 10,⟨some 6,.mov,[AV.c (V.nl 1)],[],none⟩,mv 7 21 [0,1,0,1]] false).seq AC.ret) ((rg [mv 23 2,⟨some 24,.bin .lss,[.t 23,ci 1],[0],none⟩,mv 25 24 [1],⟨some 26,.mov,[.t 2],[2],some (2,25,false)⟩,⟨some 27,.mov,[.t 1],[2],some (2,25,false)⟩,⟨some 28,.len,[.t 27],[4,2],some (2,25,false)⟩,⟨some 29,.bin .gtr,[.t 26,.t 28],[3,5,2],some (2,25,false)⟩,⟨some 30,.pick,[.t 25,cb true,.t 29],[2,6],none⟩,mv 22 30 [7,2]] false).seq
 (AC.cond (.t 22) ((rg [⟨some 6,.mov,[AV.c (V.nl 1)],[],none⟩,⟨some 7,.mov,[ci 1],[0,0],none⟩] false).seq AC.ret) ((rg [mv 32 9,mv 33 2,bn 34 .lss 32 33 [0,1],mv 31 34 [2]] false).seq
 (AC.cond (.t 31) ((rg [⟨some 6,.mov,[AV.c (V.nl 1)],[],none⟩,⟨some 7,.mov,[ci 11],[0,0],none⟩] false).seq AC.ret) AC.skip))))))).seq
 ((rg [⟨some 35,.load 1 true,[.t 3],[],none⟩,mv 36 1,mv 37 2,⟨some 38,.call 135,[.t 36,.t 37],[1,2],none⟩,⟨some 39,.call 134,[.t 35,.t 38],[0,3,3],none⟩,xt 40 0 39 [4],xt 41 1 39 [4],mv 6 40 [5,4,0,1,2,3,4,5,6],mv 7 41 [6,7,0,1,2,3,4,5,6,7]] true).seq AC.ret)))
def rs_code_Fill:List RV:=[.t 6,.t 7]
theorem c_code_Fill:compile Tryz.prog ⟨Go.Func.ntmps Tryz.f117,[]⟩ (Tryz.f117.body.getD .skip)=some ac_code_Fill:=by kernel_rfl
theorem go_code_Fill:GoT Tryz.f117.ntmps 117 ac_code_Fill rs_code_Fill:=goT Tryz.func117 (by kernel_rfl) c_code_Fill (by kernel_rfl)
def ac_unique_Radius:AC :=
 (rg [⟨some 4,.mov,[ci 0],[],none⟩,⟨some 5,.mov,[ci 0],[0],none⟩] false).seq
 (((rg [mv 6 1,⟨some 7,.bin .lss,[.t 6,ci 1],[0],none⟩,mv 8 7 [1],⟨some 9,.mov,[.t 0],[2],some (2,8,false)⟩,⟨some 10,.bin .lss,[.t 9,ci 0],[3,2],some (2,8,false)⟩,⟨some 11,.pick,[.t 8,cb true,.t 10],[2,4],none⟩,mv 12 11 [5,2],⟨some 13,.mov,[.t 0],[6],some (6,12,false)⟩,⟨some 14,.bin .gtr,[.t 13,ci 32],[7,6],some (6,12,false)⟩,⟨some 15,.pick,[.t 12,cb true,.t 14],[6,8],none⟩] false).seq
 (AC.cond (.t 15) ((rg [⟨some 4,.mov,[ci 0],[],none⟩,⟨some 5,.mov,[ci 1],[0,0],none⟩] false).seq AC.ret) AC.skip)).seq
 (((rg [mv 16 0,mv 17 1,bn 18 .lss 16 17 [0,1]] false).seq
 (AC.cond (.t 18) ((rg [⟨some 4,.mov,[ci 0],[],none⟩,⟨some 5,.mov,[ci 11],[0,0],none⟩] false).seq AC.ret) AC.skip)).seq
 ((rg [mv 19 0,mv 20 1,bn 21 .sub 19 20 [0,1],⟨some 22,.bin .quo,[.t 21,ci 2],[2],none⟩,mv 4 22 [3,0,1,2,3],⟨some 5,.mov,[ci 0],[4,0,1,2,3,4],none⟩] false).seq AC.ret)))
def rs_unique_Radius:List RV:=[.t 4,.t 5]
theorem c_unique_Radius:compile Tryz.prog ⟨Go.Func.ntmps Tryz.f119,[]⟩ (Tryz.f119.body.getD .skip)=some ac_unique_Radius:=by kernel_rfl
theorem go_unique_Radius:GoT Tryz.f119.ntmps 119 ac_unique_Radius rs_unique_Radius:=goT Tryz.func119 (by kernel_rfl) c_unique_Radius (by kernel_rfl)
def ac_unique_count:AC :=
 (rg [⟨some 2,.mov,[ci 0],[],none⟩] false).seq
 ((rg [⟨some 3,.mov,[ci 0],[],none⟩] false).seq
 (((rg [mv 6 0,⟨some 7,.len,[.t 6],[0],none⟩,⟨some 8,.mov,[ci 0],[],none⟩] false).seq
 (AC.block 0 ((rg [bn 9 .lss 8 7] false).seq
 ((AC.cond (.t 9) AC.skip (AC.exit 0)).seq
 ((AC.block 1 ((rg [⟨some 10,.iad 2,[.t 6,.t 8],[],none⟩,⟨some 11,.load 2 true,[.t 10],[0],none⟩,⟨some 5,.alloc [I 0,B false],[],[],none⟩,⟨none,.store 2,[.t 5,.t 11],[2,1,0,1,2],none⟩] false).seq
 ((rg [fa 12 1 5,ld 13 12 [0]] false).seq
 (AC.cond (.t 13) (rg [mv 14 3,⟨some 15,.bin .add,[.t 14,ci 1],[0],none⟩,mv 3 15 [1,0,1]] false) AC.skip)))).seq
 (rg [⟨some 16,.bin .add,[.t 8,ci 1],[],none⟩,mv 8 16 [0]] false)))).loop)).seq
 ((rg [mv 17 3,mv 2 17 [0,0]] false).seq AC.ret)))
def rs_unique_count:List RV:=[.t 2]
theorem c_unique_count:compile Tryz.prog ⟨Go.Func.ntmps Tryz.f120,[]⟩ (Tryz.f120.body.getD .skip)=some ac_unique_count:=by kernel_rfl
theorem go_unique_count:GoT Tryz.f120.ntmps 120 ac_unique_count rs_unique_count:=goT Tryz.func120 (by kernel_rfl) c_unique_count (by kernel_rfl)
def ac_unique_Key:AC :=
 (rg [⟨some 4,.box,[.t 0],[],none⟩,⟨some 8,.alloc [I 0,I 0,I 0,V.nl 1,V.nl 1],[],[],none⟩,⟨some 9,.mov,[ci 0],[],none⟩] false).seq
 (((rg [⟨some 21,.load 1 true,[.t 4],[],none⟩,mv 22 1,mv 23 2,⟨some 24,.call 117,[.t 21,.t 22,.t 23],[0,1,2],none⟩,mv 20 24 [3],xt 25 0 20 [4],xt 26 1 20 [4],mv 10 25 [5,3,0,1,2,3,4,5],mv 11 26 [6,7,0,1,2,3,4,5,6,7]] false).seq
 ((rg [mv 27 11,⟨some 28,.bin .neq,[.t 27,ci 0],[0],none⟩,mv 29 28 [1],⟨some 30,.mov,[.t 11],[2],some (2,29,true)⟩,⟨some 31,.bin .neq,[.t 30,ci 11],[3,2],some (2,29,true)⟩,⟨some 32,.pick,[.t 29,.t 31,cb false],[2,4],none⟩] false).seq
 (AC.cond (.t 32) ((rg [⟨some 33,.build [I 0,I 0,I 0,V.nl 1,V.nl 1] [],[],[],none⟩,mv 34 11,⟨none,.store 5,[.t 8,.t 33],[0,0],none⟩,mv 9 34 [1,2,0,1,2]] false).seq AC.ret) AC.skip))).seq
 (((rg [mv 35 3,⟨some 36,.bin .lss,[.t 35,ci 0],[0],none⟩,mv 37 36 [1],⟨some 38,.mov,[.t 3],[2],some (2,37,false)⟩,⟨some 39,.bin .gtr,[.t 38,ci 32],[3,2],some (2,37,false)⟩,⟨some 40,.pick,[.t 37,cb true,.t 39],[2,4],none⟩,mv 41 40 [5,2],⟨some 42,.mov,[.t 2],[6],some (6,41,false)⟩,⟨some 43,.mov,[.t 3],[6],some (6,41,false)⟩,⟨some 44,.bin .mul,[ci 2,.t 43],[8,6],some (6,41,false)⟩,⟨some 45,.bin .add,[.t 42,.t 44],[7,9,6],some (6,41,false)⟩,⟨some 46,.bin .gtr,[.t 45,ci 32],[10,6],some (6,41,false)⟩,⟨some 47,.pick,[.t 41,cb true,.t 46],[6,11],none⟩] false).seq
 (AC.cond (.t 47) ((rg [⟨some 48,.build [I 0,I 0,I 0,V.nl 1,V.nl 1] [],[],[],none⟩,⟨none,.store 5,[.t 8,.t 48],[0,0],none⟩,⟨some 9,.mov,[ci 1],[1,0,1],none⟩] false).seq AC.ret) AC.skip)).seq
 ((rg [fa 49 0 4,ld 50 49 [0],mv 12 50 [1,0,1]] false).seq
 ((rg [⟨some 51,.load 1 true,[.t 4],[],none⟩,mv 52 2,mv 53 3,⟨some 54,.bin .mul,[ci 2,.t 53],[2],none⟩,bn 55 .add 52 54 [1,3],⟨some 56,.build [I 0,I 0,I 0,V.nl 1,V.nl 1] [(0,1),(2,1)],[.t 51,.t 55],[0,4],none⟩,⟨some 13,.alloc [I 0,I 0,I 0,V.nl 1,V.nl 1],[],[],none⟩,⟨none,.store 5,[.t 13,.t 56],[6,5,0,1,2,3,4,5,6],none⟩] false).seq
 (((rg [mv 57 1,⟨some 58,.len,[.t 57],[0],none⟩,⟨some 59,.mov,[ci 0],[],none⟩] false).seq
 (AC.block 0 ((rg [bn 60 .lss 59 58] false).seq
 ((AC.cond (.t 60) AC.skip (AC.exit 0)).seq
 ((AC.block 1 ((rg [mv 61 59,⟨some 62,.iad 2,[.t 57,.t 59],[],none⟩,⟨some 63,.load 2 true,[.t 62],[1],none⟩,⟨some 15,.alloc [I 0,B false],[],[],none⟩,mv 14 61 [0,0,1,2,3],⟨none,.store 2,[.t 15,.t 63],[3,2,4,0,1,2,3,4],none⟩] false).seq
 (((rg [fa 64 1 15,ld 65 64 [0],⟨some 66,.un .not,[.t 65],[1],none⟩] false).seq
 (AC.cond (.t 66) (AC.exit 1) AC.skip)).seq
 ((rg [⟨some 16,.mov,[ci 1],[],none⟩] false).seq
 ((rg [⟨some 17,.mov,[AV.c (V.nl 1)],[],none⟩] false).seq
 (((rg [mv 67 2,mv 68 3,bn 69 .add 67 68 [0,1],⟨some 70,.bin .add,[.t 69,ci 1],[2],none⟩,⟨some 71,.mov,[ci 0],[],none⟩] false).seq
 (AC.block 2 ((rg [bn 72 .lss 71 70] false).seq
 ((AC.cond (.t 72) AC.skip (AC.exit 2)).seq
 ((AC.block 3 ((rg [mv 73 17,mv 74 16,⟨some 75,.bsl 1 [I 0] 1 [0],[.t 74],[1],none⟩,⟨some 76,.app 1 8,[.t 73,.t 75],[0,2],none⟩,mv 17 76 [3,3,0,1,2,3]] false).seq
 (rg [mv 77 12,mv 78 16,mv 79 14,⟨some 80,.bin .add,[.t 79,ci 1],[2],none⟩,⟨some 81,.call 80,[.t 77,.t 78,.t 80],[0,1,3],none⟩,mv 16 81 [4,4,0,1,2,3,4]] false))).seq
 (rg [⟨some 82,.bin .add,[.t 71,ci 1],[],none⟩,mv 71 82 [0]] false)))).loop)).seq
 ((rg [fa 83 3 13,ld 84 83 [0],mv 85 17,mv 86 2,mv 87 3,bn 88 .add 86 87 [3,4],⟨some 89,.slc false true false 1,[.t 85,.t 88],[2,5],none⟩,⟨some 90,.app 1 8,[.t 84,.t 89],[1,6],none⟩,fa 91 3 13 [0,1,2,3,4,5,6,7],⟨none,.store 1,[.t 91,.t 90],[8,7,7,0,1,2,3,4,5,6,7],none⟩] true).seq
 (((rg [mv 92 17,mv 93 3,⟨some 94,.slc false true false 1,[.t 92,.t 93],[0,1],none⟩,⟨some 95,.len,[.t 94],[2],none⟩,⟨some 96,.mov,[ci 0],[],none⟩] false).seq
 (AC.block 4 ((rg [bn 97 .lss 96 95] false).seq
 ((AC.cond (.t 97) AC.skip (AC.exit 4)).seq
 ((AC.block 5 ((rg [⟨some 98,.iad 1,[.t 94,.t 96],[],none⟩,ld 99 98 [0],mv 19 99 [1,0,1]] false).seq
 (rg [fa 100 3 13,ld 101 100 [0],mv 102 12,mv 103 12,fa 104 0 15,ld 105 104 [4],mv 106 19,⟨some 107,.call 80,[.t 103,.t 105,.t 106],[3,5,6],none⟩,⟨some 108,.call 136,[.t 102,ci 0,.t 107],[2,7,7],none⟩,⟨some 109,.bsl 1 [I 0] 1 [0],[.t 108],[8],none⟩,⟨some 110,.app 1 8,[.t 101,.t 109],[1,9,8],none⟩,fa 111 3 13 [0,1,2,3,4,5,6,7,8,9,10],⟨none,.store 1,[.t 111,.t 110],[11,10,10,0,1,2,3,4,5,6,7,8,9,10],none⟩] true))).seq
 (rg [⟨some 112,.bin .add,[.t 96,ci 1],[],none⟩,mv 96 112 [0]] false)))).loop)).seq
 ((rg [fa 113 4 13,ld 114 113 [0],mv 115 12,fa 116 0 15,ld 117 116 [3],mv 118 17,mv 119 3,⟨some 120,.iad 1,[.t 118,.t 119],[5,6],none⟩,ld 121 120 [7],⟨some 122,.call 80,[.t 115,.t 117,.t 121],[2,4,8],none⟩,⟨some 123,.bsl 1 [I 0] 1 [0],[.t 122],[9],none⟩,⟨some 124,.app 1 8,[.t 114,.t 123],[1,10,9],none⟩,fa 125 4 13 [0,1,2,3,4,5,6,7,8,9,10,11],⟨none,.store 1,[.t 125,.t 124],[12,11,11,0,1,2,3,4,5,6,7,8,9,10,11],none⟩] true).seq
 (rg [fa 126 1 13,ld 127 126 [0],⟨some 128,.bin .add,[.t 127,ci 1],[1],none⟩,fa 129 1 13 [0,1,2],⟨none,.store 1,[.t 129,.t 128],[3,2,0,1,2],none⟩] false)))))))))).seq
 (rg [⟨some 130,.bin .add,[.t 59,ci 1],[],none⟩,mv 59 130 [0]] false)))).loop)).seq
 ((rg [⟨some 131,.load 5 true,[.t 13],[],none⟩,⟨none,.store 5,[.t 8,.t 131],[0,0],none⟩,⟨some 9,.mov,[ci 0],[1,0,1],none⟩] false).seq AC.ret))))))
def rs_unique_Key:List RV:=[.c 8 5 true,.t 9]
theorem c_unique_Key:compile Tryz.prog ⟨Go.Func.ntmps Tryz.f121,[]⟩ (Tryz.f121.body.getD .skip)=some ac_unique_Key:=by kernel_rfl
theorem go_unique_Key:GoT Tryz.f121.ntmps 121 ac_unique_Key rs_unique_Key:=goT Tryz.func121 (by kernel_rfl) c_unique_Key (by kernel_rfl)
def ac_solve_Solve:AC :=
 (rg [⟨some 1,.box,[.t 0],[],none⟩,⟨some 2,.mov,[AV.c (V.nl 1)],[],none⟩,⟨some 3,.mov,[ci 0],[1],none⟩] false).seq
 (((rg [⟨some 9,.load 5 true,[.t 1],[],none⟩,⟨some 10,.call 137,[.t 9],[0],none⟩,mv 4 10 [1,1,0,1]] false).seq
 ((rg [mv 11 4,⟨some 12,.bin .neq,[.t 11,ci 0],[0],none⟩] false).seq
 (AC.cond (.t 12) ((rg [mv 13 4,⟨some 2,.mov,[AV.c (V.nl 1)],[],none⟩,mv 3 13 [0,1,0,1]] false).seq AC.ret) AC.skip))).seq
 ((rg [⟨some 14,.load 5 true,[.t 1],[],none⟩,⟨some 15,.call 138,[.t 14],[0],none⟩,mv 5 15 [1,1,0,1]] false).seq
 (((rg [mv 16 5,⟨some 17,.call 139,[.t 16],[0],none⟩,⟨some 18,.un .not,[.t 17],[1],none⟩] false).seq
 (AC.cond (.t 18) ((rg [⟨some 2,.mov,[AV.c (V.nl 1)],[],none⟩,⟨some 3,.mov,[ci 6],[0,0],none⟩] false).seq AC.ret) AC.skip)).seq
 ((rg [fa 19 2 1,ld 20 19 [0],⟨some 21,.mks 1 [I 0] 8,[.t 20,.t 20],[1,1],none⟩,mv 6 21 [2,0,1,2]] false).seq
 (((rg [mv 22 6,⟨some 23,.len,[.t 22],[0],none⟩,⟨some 24,.mov,[ci 0],[],none⟩] false).seq
 (AC.block 0 ((rg [bn 25 .lss 24 23] false).seq
 ((AC.cond (.t 25) AC.skip (AC.exit 0)).seq
 ((AC.block 1 ((rg [mv 26 24,mv 7 26 [0,0]] false).seq
 ((rg [mv 27 5,mv 28 7,⟨some 29,.nck,[.t 27],[0],none⟩,fa 30 4 29 [2],⟨some 31,.iada 32 1,[.t 30,.t 28],[3,1],none⟩,ld 32 31 [4],mv 8 32 [5,0,1,2,3,4,5]] false).seq
 ((rg [mv 33 8,⟨some 34,.bin .gtr,[.t 33,ci 0],[0],none⟩] false).seq
 (AC.cond (.t 34) (rg [mv 35 6,mv 36 7,mv 37 5,⟨some 38,.nck,[.t 37],[2],none⟩,fa 39 2 38 [3],ld 40 39 [4],mv 41 8,⟨some 42,.bin .sub,[.t 41,ci 1],[6],none⟩,⟨some 43,.iad 1,[.t 40,.t 42],[5,7],none⟩,ld 44 43 [8],fa 45 2 1,ld 46 45 [10],⟨some 47,.iad 1,[.t 44,.t 46],[9,11],none⟩,ld 48 47 [12],⟨some 49,.iad 1,[.t 35,.t 36],[0,1,0,1,2,3,4,5,6,7,8,9,10,11,12,13],none⟩,⟨none,.store 1,[.t 49,.t 48],[14,13,0,1,2,3,4,5,6,7,8,9,10,11,12,13],none⟩] true) AC.skip))))).seq
 (rg [⟨some 50,.bin .add,[.t 24,ci 1],[],none⟩,mv 24 50 [0]] false)))).loop)).seq
 ((rg [mv 51 6,mv 2 51 [0,0],⟨some 3,.mov,[ci 0],[1,0,1],none⟩] false).seq AC.ret))))))
def rs_solve_Solve:List RV:=[.t 2,.t 3]
theorem c_solve_Solve:compile Tryz.prog ⟨Go.Func.ntmps Tryz.f122,[]⟩ (Tryz.f122.body.getD .skip)=some ac_solve_Solve:=by kernel_rfl
theorem go_solve_Solve:GoT Tryz.f122.ntmps 122 ac_solve_Solve rs_solve_Solve:=goT Tryz.func122 (by kernel_rfl) c_solve_Solve (by kernel_rfl)
def ac_poly_Divide:AC :=
 (rg [⟨some 3,.box,[.t 0],[],none⟩,⟨some 6,.mov,[AV.c (V.nl 1)],[],none⟩,⟨some 7,.mov,[AV.c (V.nl 1)],[1],none⟩,⟨some 8,.mov,[ci 0],[2],none⟩] false).seq
 ((rg [⟨some 18,.load 1 true,[.t 3],[],none⟩,mv 19 1,mv 20 2,⟨some 21,.bsl 1 [V.nl 1] 2 [0,1],[.t 19,.t 20],[1,2],none⟩,⟨some 22,.call 140,[.t 18,.t 21],[0,3],none⟩,mv 17 22 [4],xt 23 0 17 [5],xt 24 1 17 [5],mv 9 23 [6,4,0,1,2,3,4,5,6],mv 10 24 [7,8,0,1,2,3,4,5,6,7,8]] false).seq
 (((rg [mv 25 10,⟨some 26,.bin .neq,[.t 25,ci 0],[0],none⟩] false).seq
 (AC.cond (.t 26) ((rg [mv 27 10,⟨some 6,.mov,[AV.c (V.nl 1)],[],none⟩,⟨some 7,.mov,[AV.c (V.nl 1)],[1,1],none⟩,mv 8 27 [0,2,0,1,2]] false).seq AC.ret) AC.skip)).seq
 ((rg [mv 28 1,⟨some 29,.call 141,[.t 28],[0],none⟩,mv 30 2,⟨some 31,.call 142,[.t 30],[2,1],none⟩,mv 11 29 [1,3,0,1],mv 2 31 [3,4,0,1,2,3,4]] false).seq
 ((rg [mv 32 2,⟨some 33,.len,[.t 32],[0],none⟩,mv 12 33 [1,0,1]] false).seq
 (((rg [mv 34 12,⟨some 35,.bin .eql,[.t 34,ci 0],[0],none⟩] false).seq
 (AC.cond (.t 35) ((rg [⟨some 6,.mov,[AV.c (V.nl 1)],[],none⟩,⟨some 7,.mov,[AV.c (V.nl 1)],[0,0],none⟩,⟨some 8,.mov,[ci 10],[1,0,1],none⟩] false).seq AC.ret) AC.skip)).seq
 ((rg [mv 36 11,⟨some 37,.len,[.t 36],[0],none⟩,mv 38 12,bn 39 .sub 37 38 [1,2],⟨some 40,.bin .add,[.t 39,ci 1],[3],none⟩,⟨some 41,.mx,[ci 0,.t 40],[4],none⟩,⟨some 42,.mks 1 [I 0] 8,[.t 41,.t 41],[5,5],none⟩,mv 13 42 [6,0,1,2,3,4,5,6]] false).seq
 ((rg [mv 43 9,mv 44 2,mv 45 12,⟨some 46,.bin .sub,[.t 45,ci 1],[2],none⟩,⟨some 47,.iad 1,[.t 44,.t 46],[1,3],none⟩,ld 48 47 [4],⟨some 49,.call 143,[.t 43,.t 48],[0,5],none⟩,mv 14 49 [6,6,0,1,2,3,4,5,6]] false).seq
 ((AC.block 0 (((rg [mv 50 11,⟨some 51,.len,[.t 50],[0],none⟩,mv 52 12,bn 53 .geq 51 52 [1,2]] false).seq
 (AC.cond (.t 53) AC.skip (AC.exit 0))).seq
 (AC.block 1 ((rg [mv 54 11,⟨some 55,.len,[.t 54],[0],none⟩,mv 56 12,bn 57 .sub 55 56 [1,2],mv 15 57 [3,0,1,2,3]] false).seq
 ((rg [mv 58 9,mv 59 11,mv 60 11,⟨some 61,.len,[.t 60],[2],none⟩,⟨some 62,.bin .sub,[.t 61,ci 1],[3],none⟩,⟨some 63,.iad 1,[.t 59,.t 62],[1,4],none⟩,ld 64 63 [5],mv 65 14,⟨some 66,.call 80,[.t 58,.t 64,.t 65],[0,6,7],none⟩,mv 16 66 [8,8,0,1,2,3,4,5,6,7,8]] false).seq
 ((rg [mv 67 13,mv 68 15,mv 69 16,⟨some 70,.iad 1,[.t 67,.t 68],[0,1,0,1,2],none⟩,⟨none,.store 1,[.t 70,.t 69],[3,2,0,1,2],none⟩] false).seq
 ((rg [mv 71 9,mv 72 11,mv 73 15,⟨some 74,.tail 1,[.t 72,.t 73],[1,2],none⟩,mv 75 9,mv 76 16,⟨some 77,.call 136,[.t 75,ci 0,.t 76],[4,5],none⟩,mv 78 2,⟨some 79,.call 48,[.t 71,.t 74,.t 77,.t 78],[0,3,6,7,6],none⟩] true).seq
 (rg [mv 80 11,mv 81 11,⟨some 82,.len,[.t 81],[1],none⟩,⟨some 83,.bin .sub,[.t 82,ci 1],[2],none⟩,mv 84 11,⟨some 85,.len,[.t 84],[4],none⟩,⟨some 86,.bin .sub,[.t 85,ci 1],[5],none⟩,⟨some 87,.cutm 1,[.t 80,.t 83,.t 86],[0,3,6],none⟩,⟨some 88,.call 142,[.t 87],[7],none⟩,mv 11 88 [8,8,0,1,2,3,4,5,6,7,8]] false))))))).loop).seq
 ((rg [mv 89 13,⟨some 90,.call 141,[.t 89],[0],none⟩,mv 91 11,⟨some 92,.call 141,[.t 91],[2,1],none⟩,mv 6 90 [1,3,0,1],mv 7 92 [3,4,0,1,2,3,4],⟨some 8,.mov,[ci 0],[5,0,1,2,3,4,5],none⟩] false).seq AC.ret)))))))))
def rs_poly_Divide:List RV:=[.t 6,.t 7,.t 8]
theorem c_poly_Divide:compile Tryz.prog ⟨Go.Func.ntmps Tryz.f123,[74,87]⟩ (Tryz.f123.body.getD .skip)=some ac_poly_Divide:=by kernel_rfl
theorem go_poly_Divide:GoT Tryz.f123.ntmps 123 ac_poly_Divide rs_poly_Divide:=goT Tryz.func123 (by kernel_rfl) c_poly_Divide (by kernel_rfl)
def ac_unique_wrongs:AC :=
 (rg [⟨some 6,.mov,[AV.c (V.nl 1)],[],none⟩] false).seq
 ((rg [⟨some 7,.mov,[AV.c (V.nl 1)],[],none⟩] false).seq
 (((rg [mv 10 1,⟨some 11,.len,[.t 10],[0],none⟩,⟨some 12,.mov,[ci 0],[],none⟩] false).seq
 (AC.block 0 ((rg [bn 13 .lss 12 11] false).seq
 ((AC.cond (.t 13) AC.skip (AC.exit 0)).seq
 ((AC.block 1 ((rg [mv 14 12,⟨some 15,.iad 2,[.t 10,.t 12],[],none⟩,⟨some 16,.load 2 true,[.t 15],[1],none⟩,⟨some 9,.alloc [I 0,B false],[],[],none⟩,mv 8 14 [0,0,1,2,3],⟨none,.store 2,[.t 9,.t 16],[3,2,4,0,1,2,3,4],none⟩] false).seq
 ((rg [fa 17 1 9,ld 18 17 [0],mv 19 18 [1],⟨some 20,.mov,[.t 0],[2],some (2,19,true)⟩,⟨some 21,.mov,[.t 2],[2],some (2,19,true)⟩,⟨some 22,.mov,[.t 8],[2],some (2,19,true)⟩,⟨some 23,.bin .add,[.t 22,ci 1],[5,2],some (2,19,true)⟩,⟨some 24,.call 47,[.t 20,.t 21,.t 23],[3,4,6,2,2],some (2,19,true)⟩,⟨some 25,.fad 0,[.t 9],[2],some (2,19,true)⟩,⟨some 26,.load 1 false,[.t 25],[8,2],some (2,19,true)⟩,⟨some 27,.bin .neq,[.t 24,.t 26],[7,9,2],some (2,19,true)⟩,⟨some 28,.pick,[.t 19,.t 27,cb false],[2,10],none⟩] true).seq
 (AC.cond (.t 28) (rg [mv 29 7,mv 30 8,⟨some 31,.bin .add,[.t 30,ci 1],[1],none⟩,⟨some 32,.bsl 1 [I 0] 1 [0],[.t 31],[2],none⟩,⟨some 33,.app 1 8,[.t 29,.t 32],[0,3],none⟩,mv 7 33 [4,4,0,1,2,3,4]] false) AC.skip)))).seq
 (rg [⟨some 34,.bin .add,[.t 12,ci 1],[],none⟩,mv 12 34 [0]] false)))).loop)).seq
 ((rg [mv 35 7,mv 6 35 [0,0]] false).seq AC.ret)))
def rs_unique_wrongs:List RV:=[.t 6]
theorem c_unique_wrongs:compile Tryz.prog ⟨Go.Func.ntmps Tryz.f124,[]⟩ (Tryz.f124.body.getD .skip)=some ac_unique_wrongs:=by kernel_rfl
theorem go_unique_wrongs:GoT Tryz.f124.ntmps 124 ac_unique_wrongs rs_unique_wrongs:=goT Tryz.func124 (by kernel_rfl) c_unique_wrongs (by kernel_rfl)
def ac_cmp_isNaN_int:AC :=
 (rg [⟨some 2,.mov,[cb false],[],none⟩] false).seq
 ((rg [mv 3 0,mv 4 0,bn 5 .neq 3 4 [0,1],mv 2 5 [2,0,1,2]] false).seq AC.ret)
def rs_cmp_isNaN_int:List RV:=[.t 2]
theorem c_cmp_isNaN_int:compile Tryz.prog ⟨Go.Func.ntmps Tryz.f132,[]⟩ (Tryz.f132.body.getD .skip)=some ac_cmp_isNaN_int:=by kernel_rfl
theorem go_cmp_isNaN_int:GoT Tryz.f132.ntmps 132 ac_cmp_isNaN_int rs_cmp_isNaN_int:=goT Tryz.func132 (by kernel_rfl) c_cmp_isNaN_int (by kernel_rfl)
def ac_poly_Interpolate:AC :=
 (rg [⟨some 2,.box,[.t 0],[],none⟩,⟨some 4,.mov,[AV.c (V.nl 1)],[],none⟩,⟨some 5,.mov,[ci 0],[1],none⟩] false).seq
 ((rg [⟨some 6,.mov,[AV.c (V.nl 1)],[],none⟩,⟨some 7,.mov,[AV.c (V.nl 1)],[0],none⟩] false).seq
 (((rg [mv 21 1,⟨some 22,.len,[.t 21],[0],none⟩,⟨some 23,.mov,[ci 0],[],none⟩] false).seq
 (AC.block 0 ((rg [bn 24 .lss 23 22] false).seq
 ((AC.cond (.t 24) AC.skip (AC.exit 0)).seq
 ((AC.block 1 ((rg [⟨some 25,.iad 2,[.t 21,.t 23],[],none⟩,⟨some 26,.load 2 true,[.t 25],[0],none⟩,⟨some 9,.alloc [I 0,I 0],[],[],none⟩,⟨none,.store 2,[.t 9,.t 26],[2,1,0,1,2],none⟩] false).seq
 (rg [mv 27 6,fa 28 0 9,ld 29 28 [1],⟨some 30,.bsl 1 [I 0] 1 [0],[.t 29],[2],none⟩,⟨some 31,.app 1 8,[.t 27,.t 30],[0,3],none⟩,mv 32 7,fa 33 1 9,ld 34 33 [6],⟨some 35,.bsl 1 [I 0] 1 [0],[.t 34],[7],none⟩,⟨some 36,.app 1 8,[.t 32,.t 35],[5,8,4],none⟩,mv 6 31 [4,9,0,1,2,3,4],mv 7 36 [9,10,0,1,2,3,4,5,6,7,8,9,10]] true))).seq
 (rg [⟨some 37,.bin .add,[.t 23,ci 1],[],none⟩,mv 23 37 [0]] false)))).loop)).seq
 ((rg [⟨some 39,.load 1 true,[.t 2],[],none⟩,mv 40 6,mv 41 7,⟨some 42,.bsl 1 [V.nl 1] 2 [0,1],[.t 40,.t 41],[1,2],none⟩,⟨some 43,.call 140,[.t 39,.t 42],[0,3],none⟩,mv 38 43 [4],xt 44 0 38 [5],xt 45 1 38 [5],mv 10 44 [6,4,0,1,2,3,4,5,6],mv 11 45 [7,8,0,1,2,3,4,5,6,7,8]] false).seq
 (((rg [mv 46 11,⟨some 47,.bin .neq,[.t 46,ci 0],[0],none⟩] false).seq
 (AC.cond (.t 47) ((rg [mv 48 11,⟨some 4,.mov,[AV.c (V.nl 1)],[],none⟩,mv 5 48 [0,1,0,1]] false).seq AC.ret) AC.skip)).seq
 ((rg [⟨some 49,.mkm,[],[],none⟩,mv 12 49 [0,0]] false).seq
 (((rg [mv 50 6,⟨some 51,.len,[.t 50],[0],none⟩,⟨some 52,.mov,[ci 0],[],none⟩] false).seq
 (AC.block 2 ((rg [bn 53 .lss 52 51] false).seq
 ((AC.cond (.t 53) AC.skip (AC.exit 2)).seq
 ((AC.block 3 ((rg [⟨some 54,.iad 1,[.t 50,.t 52],[],none⟩,ld 55 54 [0],mv 14 55 [1,0,1]] false).seq
 (((rg [mv 56 12,mv 57 14,⟨some 58,.lkp,[.t 56,.t 57],[0,1],none⟩] false).seq
 (AC.cond (.t 58) ((rg [⟨some 4,.mov,[AV.c (V.nl 1)],[],none⟩,⟨some 5,.mov,[ci 7],[0,0],none⟩] false).seq AC.ret) AC.skip)).seq
 (rg [mv 59 12,mv 60 14,⟨none,.mup,[.t 59,.t 60],[0,1,0,1],none⟩] false)))).seq
 (rg [⟨some 61,.bin .add,[.t 52,ci 1],[],none⟩,mv 52 61 [0]] false)))).loop)).seq
 ((rg [⟨some 15,.mov,[AV.c (V.nl 1)],[],none⟩] false).seq
 ((rg [⟨some 62,.bsl 1 [I 0] 1 [0],[ci 1],[],none⟩,mv 16 62 [0,0]] false).seq
 (((rg [mv 63 6,⟨some 64,.len,[.t 63],[0],none⟩,⟨some 65,.mov,[ci 0],[],none⟩] false).seq
 (AC.block 4 ((rg [bn 66 .lss 65 64] false).seq
 ((AC.cond (.t 66) AC.skip (AC.exit 4)).seq
 ((AC.block 5 ((rg [mv 67 65,⟨some 68,.iad 1,[.t 63,.t 65],[],none⟩,ld 69 68 [1],mv 17 67 [0,0,1,2],mv 18 69 [2,3,0,1,2,3]] false).seq
 ((rg [mv 70 10,mv 71 10,mv 72 7,mv 73 17,⟨some 74,.iad 1,[.t 72,.t 73],[2,3],none⟩,ld 75 74 [4],mv 76 10,mv 77 15,mv 78 18,⟨some 79,.call 47,[.t 76,.t 77,.t 78],[6,7,8],none⟩,⟨some 80,.call 136,[.t 71,.t 75,.t 79],[1,5,9,9],none⟩,mv 81 10,mv 82 10,mv 83 16,mv 84 18,⟨some 85,.call 47,[.t 82,.t 83,.t 84],[12,13,14,10],none⟩,⟨some 86,.call 143,[.t 81,.t 85],[11,15,15],none⟩,⟨some 87,.call 80,[.t 70,.t 80,.t 86],[0,10,16,16],none⟩,mv 19 87 [17,17,0,1,2,3,4,5,6,7,8,9,10,11,12,13,14,15,16,17]] true).seq
 ((rg [mv 88 16,⟨some 89,.len,[.t 88],[0],none⟩,⟨some 90,.mks 1 [I 0] 8,[.t 89,.t 89],[1,1],none⟩,mv 20 90 [2,0,1,2]] false).seq
 ((rg [mv 91 20,mv 92 15,⟨some 93,.cpy 1,[.t 91,.t 92],[0,1],none⟩] false).seq
 ((rg [mv 94 10,mv 95 20,mv 96 19,mv 97 16,⟨some 98,.call 48,[.t 94,.t 95,.t 96,.t 97],[0,1,2,3],none⟩] false).seq
 ((rg [mv 99 20,mv 15 99 [0,0]] false).seq
 (rg [mv 100 10,mv 101 16,mv 102 10,mv 103 18,⟨some 104,.call 136,[.t 102,ci 0,.t 103],[2,3],none⟩,⟨some 105,.bsl 1 [I 0] 2 [0,1],[.t 104,ci 1],[4],none⟩,⟨some 106,.call 146,[.t 100,.t 101,.t 105],[0,1,5,4],none⟩,mv 16 106 [6,6,0,1,2,3,4,5,6]] false)))))))).seq
 (rg [⟨some 107,.bin .add,[.t 65,ci 1],[],none⟩,mv 65 107 [0]] false)))).loop)).seq
 ((rg [mv 108 15,⟨some 109,.call 141,[.t 108],[0],none⟩,mv 4 109 [1,1,0,1],⟨some 5,.mov,[ci 0],[2,0,1,2],none⟩] false).seq AC.ret))))))))))
def rs_poly_Interpolate:List RV:=[.t 4,.t 5]
theorem c_poly_Interpolate:compile Tryz.prog ⟨Go.Func.ntmps Tryz.f134,[]⟩ (Tryz.f134.body.getD .skip)=some ac_poly_Interpolate:=by kernel_rfl
theorem go_poly_Interpolate:GoT Tryz.f134.ntmps 134 ac_poly_Interpolate rs_poly_Interpolate:=goT Tryz.func134 (by kernel_rfl) c_poly_Interpolate (by kernel_rfl)
def ac_residue_Field_Sub:AC :=
 (rg [⟨some 6,.mov,[ci 0],[],none⟩] false).seq
 ((rg [mv 7 1,mv 8 2,bn 9 .sub 7 8 [0,1],mv 10 0,bn 11 .add 9 10 [2,3],mv 12 0,bn 13 .rem 11 12 [4,5],mv 6 13 [6,0,1,2,3,4,5,6]] false).seq AC.ret)
def rs_residue_Field_Sub:List RV:=[.t 6]
theorem c_residue_Field_Sub:compile Tryz.prog ⟨Go.Func.ntmps Tryz.f136,[]⟩ (Tryz.f136.body.getD .skip)=some ac_residue_Field_Sub:=by kernel_rfl
theorem go_residue_Field_Sub:GoT Tryz.f136.ntmps 136 ac_residue_Field_Sub rs_residue_Field_Sub:=goT Tryz.func136 (by kernel_rfl) c_residue_Field_Sub (by kernel_rfl)
def ac_solve_Check:AC :=
 (rg [⟨some 1,.box,[.t 0],[],none⟩,⟨some 2,.mov,[ci 0],[],none⟩] false).seq
 ((rg [fa 6 0 1,⟨some 7,.load 1 true,[.t 6],[0],none⟩,⟨some 8,.call 44,[.t 7],[1],none⟩,mv 5 8 [2],xt 9 0 5 [3],xt 10 1 5 [3],mv 3 9 [4,2,0,1,2,3,4],mv 4 10 [5,6,0,1,2,3,4,5,6]] false).seq
 ((AC.block 0 ((rg [mv 12 4,⟨some 13,.un .not,[.t 12],[0],none⟩,mv 11 13 [1]] false).seq
 (AC.cond (.t 11) ((rg [⟨some 2,.mov,[ci 9],[],none⟩] false).seq AC.ret) ((rg [fa 15 1 1,ld 16 15 [0],⟨some 17,.bin .lss,[.t 16,ci 0],[1],none⟩,mv 18 17 [2],⟨some 19,.fad 1,[.t 1],[3],some (3,18,false)⟩,⟨some 20,.load 1 false,[.t 19],[4,3],some (3,18,false)⟩,⟨some 21,.bin .gtr,[.t 20,ci 32],[5,3],some (3,18,false)⟩,⟨some 22,.pick,[.t 18,cb true,.t 21],[3,6],none⟩,mv 23 22 [7,3],⟨some 24,.fad 2,[.t 1],[8],some (8,23,false)⟩,⟨some 25,.load 1 false,[.t 24],[9,8],some (8,23,false)⟩,⟨some 26,.bin .lss,[.t 25,ci 0],[10,8],some (8,23,false)⟩,⟨some 27,.pick,[.t 23,cb true,.t 26],[8,11],none⟩,mv 28 27 [12,8],⟨some 29,.fad 2,[.t 1],[13],some (13,28,false)⟩,⟨some 30,.load 1 false,[.t 29],[14,13],some (13,28,false)⟩,⟨some 31,.bin .gtr,[.t 30,ci 32],[15,13],some (13,28,false)⟩,⟨some 32,.pick,[.t 28,cb true,.t 31],[13,16],none⟩,mv 14 32 [17,13]] false).seq
 (AC.cond (.t 14) ((rg [⟨some 2,.mov,[ci 4],[],none⟩] false).seq AC.ret) ((rg [fa 34 3 1,ld 35 34 [0],⟨some 36,.len,[.t 35],[1],none⟩,fa 37 1 1,ld 38 37 [3],fa 39 2 1,ld 40 39 [5],bn 41 .mul 38 40 [4,6],bn 42 .neq 36 41 [2,7],mv 43 42 [8],⟨some 44,.fad 4,[.t 1],[9],some (9,43,false)⟩,⟨some 45,.load 1 false,[.t 44],[10,9],some (9,43,false)⟩,⟨some 46,.len,[.t 45],[11,9],some (9,43,false)⟩,⟨some 47,.fad 1,[.t 1],[9],some (9,43,false)⟩,⟨some 48,.load 1 false,[.t 47],[13,9],some (9,43,false)⟩,⟨some 49,.bin .neq,[.t 46,.t 48],[12,14,9],some (9,43,false)⟩,⟨some 50,.pick,[.t 43,cb true,.t 49],[9,15],none⟩,mv 33 50 [16,9]] false).seq
 (AC.cond (.t 33) ((rg [⟨some 2,.mov,[ci 2],[],none⟩] false).seq AC.ret) ((rg [mv 52 3,fa 53 3 1,ld 54 53 [1],⟨some 55,.call 46,[.t 52,.t 54],[0,2],none⟩,⟨some 56,.un .not,[.t 55],[3],none⟩,mv 57 56 [4,3],⟨some 58,.mov,[.t 3],[5],some (5,57,false)⟩,⟨some 59,.fad 4,[.t 1],[5],some (5,57,false)⟩,⟨some 60,.load 1 false,[.t 59],[7,5],some (5,57,false)⟩,⟨some 61,.call 46,[.t 58,.t 60],[6,8,5,5],some (5,57,false)⟩,⟨some 62,.un .not,[.t 61],[9,5],some (5,57,false)⟩,⟨some 63,.pick,[.t 57,cb true,.t 62],[5,10],none⟩,mv 51 63 [11,9]] false).seq
 (AC.cond (.t 51) ((rg [⟨some 2,.mov,[ci 9],[],none⟩] false).seq AC.ret) AC.skip))))))))).seq
 ((rg [⟨some 2,.mov,[ci 0],[],none⟩] false).seq AC.ret)))
def rs_solve_Check:List RV:=[.t 2]
theorem c_solve_Check:compile Tryz.prog ⟨Go.Func.ntmps Tryz.f137,[]⟩ (Tryz.f137.body.getD .skip)=some ac_solve_Check:=by kernel_rfl
theorem go_solve_Check:GoT Tryz.f137.ntmps 137 ac_solve_Check rs_solve_Check:=goT Tryz.func137 (by kernel_rfl) c_solve_Check (by kernel_rfl)
def ac_solve_reduce:AC :=
 (rg [⟨some 1,.box,[.t 0],[],none⟩,⟨some 2,.mov,[AV.c (V.d (D.at (Value.pointer none)))],[],none⟩] false).seq
 ((rg [fa 7 0 1,fa 8 0 7 [0],ld 9 8 [1],fa 10 2 1,ld 11 10 [3],⟨some 12,.build [I 0,I 0,V.nl 1,I 0,I 0,I 0,I 0,I 0,I 0,I 0,I 0,I 0,I 0,I 0,I 0,I 0,I 0,I 0,I 0,I 0,I 0,I 0,I 0,I 0,I 0,I 0,I 0,I 0,I 0,I 0,I 0,I 0,I 0,I 0,I 0,I 0] [(0,1),(1,1)],[.t 9,.t 11],[2,4],none⟩,⟨some 13,.box,[.t 12],[5],none⟩,mv 3 13 [6,0,1,2,3,4,5,6]] false).seq
 (((rg [fa 14 1 1,ld 15 14 [0],⟨some 16,.mov,[ci 0],[],none⟩] false).seq
 (AC.block 0 ((rg [bn 17 .lss 16 15] false).seq
 ((AC.cond (.t 17) AC.skip (AC.exit 0)).seq
 ((AC.block 1 ((rg [mv 18 16,mv 4 18 [0,0]] false).seq
 ((rg [fa 19 3 1,ld 20 19 [0],mv 21 4,fa 22 2 1,ld 23 22 [3],bn 24 .mul 21 23 [2,4],mv 25 4,⟨some 26,.bin .add,[.t 25,ci 1],[6],none⟩,fa 27 2 1,ld 28 27 [8],bn 29 .mul 26 28 [7,9],⟨some 30,.slc true true false 1,[.t 20,.t 24,.t 29],[1,5,10],none⟩,⟨some 31,.app 1 8,[AV.c (V.nl 1),.t 30],[11],none⟩,mv 5 31 [12,12,0,1,2,3,4,5,6,7,8,9,10,11,12]] false).seq
 (rg [mv 32 3,mv 33 3,⟨some 34,.nck,[.t 33],[1],none⟩,fa 35 2 34 [2],ld 36 35 [3],mv 37 5,fa 38 4 1,ld 39 38 [6],mv 40 4,⟨some 41,.iad 1,[.t 39,.t 40],[7,8],none⟩,ld 42 41 [9],⟨some 43,.bsl 1 [I 0] 1 [0],[.t 42],[10],none⟩,⟨some 44,.app 1 8,[.t 37,.t 43],[5,11],none⟩,⟨some 45,.bslv 1,[.t 44],[12],none⟩,⟨some 46,.app 1 24,[.t 36,.t 45],[4,13,12],none⟩,⟨some 47,.nck,[.t 32],[0,0,1,2,3,4,5,6,7,8,9,10,11,12,13,14],none⟩,fa 48 2 47 [15,0,1,2,3,4,5,6,7,8,9,10,11,12,13,14],⟨none,.store 1,[.t 48,.t 46],[16,14,14,0,1,2,3,4,5,6,7,8,9,10,11,12,13,14],none⟩] true)))).seq
 (rg [⟨some 49,.bin .add,[.t 16,ci 1],[],none⟩,mv 16 49 [0]] false)))).loop)).seq
 (((rg [fa 50 2 1,ld 51 50 [0],⟨some 52,.mov,[ci 0],[],none⟩] false).seq
 (AC.block 2 ((rg [bn 53 .lss 52 51] false).seq
 ((AC.cond (.t 53) AC.skip (AC.exit 2)).seq
 ((AC.block 3 ((rg [mv 54 52,mv 6 54 [0,0]] false).seq
 (rg [mv 55 3,mv 56 6,⟨some 57,.call 147,[.t 55,.t 56],[0,1],none⟩] false))).seq
 (rg [⟨some 58,.bin .add,[.t 52,ci 1],[],none⟩,mv 52 58 [0]] false)))).loop)).seq
 ((rg [mv 59 3,mv 2 59 [0,0]] false).seq AC.ret))))
def rs_solve_reduce:List RV:=[.t 2]
theorem c_solve_reduce:compile Tryz.prog ⟨Go.Func.ntmps Tryz.f138,[45]⟩ (Tryz.f138.body.getD .skip)=some ac_solve_reduce:=by kernel_rfl
theorem go_solve_reduce:GoT Tryz.f138.ntmps 138 ac_solve_reduce rs_solve_reduce:=goT Tryz.func138 (by kernel_rfl) c_solve_reduce (by kernel_rfl)
def ac_solve_reduced_solvable:AC :=
 (rg [⟨some 2,.mov,[cb false],[],none⟩] false).seq
 (((rg [mv 5 0,⟨some 6,.nck,[.t 5],[0],none⟩,fa 7 2 6 [1],ld 8 7 [2],mv 9 0,⟨some 10,.nck,[.t 9],[4],none⟩,fa 11 3 10 [5],ld 12 11 [6],⟨some 13,.slc true false false 1,[.t 8,.t 12],[3,7],none⟩,⟨some 14,.len,[.t 13],[8],none⟩,⟨some 15,.mov,[ci 0],[],none⟩] true).seq
 (AC.block 0 ((rg [bn 16 .lss 15 14] false).seq
 ((AC.cond (.t 16) AC.skip (AC.exit 0)).seq
 ((AC.block 1 ((rg [⟨some 17,.iad 1,[.t 13,.t 15],[],none⟩,ld 18 17 [0],mv 4 18 [1,0,1]] false).seq
 ((rg [mv 19 4,mv 20 0,⟨some 21,.nck,[.t 20],[1],none⟩,fa 22 1 21 [2],ld 23 22 [3],⟨some 24,.iad 1,[.t 19,.t 23],[0,4],none⟩,ld 25 24 [5],⟨some 26,.bin .neq,[.t 25,ci 0],[6],none⟩] false).seq
 (AC.cond (.t 26) ((rg [⟨some 2,.mov,[cb false],[],none⟩] false).seq AC.ret) AC.skip)))).seq
 (rg [⟨some 27,.bin .add,[.t 15,ci 1],[],none⟩,mv 15 27 [0]] false)))).loop)).seq
 ((rg [⟨some 2,.mov,[cb true],[],none⟩] false).seq AC.ret))
def rs_solve_reduced_solvable:List RV:=[.t 2]
theorem c_solve_reduced_solvable:compile Tryz.prog ⟨Go.Func.ntmps Tryz.f139,[]⟩ (Tryz.f139.body.getD .skip)=some ac_solve_reduced_solvable:=by kernel_rfl
theorem go_solve_reduced_solvable:GoT Tryz.f139.ntmps 139 ac_solve_reduced_solvable rs_solve_reduced_solvable:=goT Tryz.func139 (by kernel_rfl) c_solve_reduced_solvable (by kernel_rfl)
def ac_poly_open:AC :=
 (rg [⟨some 2,.box,[.t 0],[],none⟩,⟨some 4,.mov,[ci 0],[],none⟩,⟨some 5,.mov,[ci 0],[1],none⟩] false).seq
 ((rg [⟨some 12,.load 1 true,[.t 2],[],none⟩,⟨some 13,.call 44,[.t 12],[0],none⟩,mv 11 13 [1],xt 14 0 11 [2],xt 15 1 11 [2],mv 6 14 [3,1,0,1,2,3],mv 7 15 [4,5,0,1,2,3,4,5]] false).seq
 (((rg [mv 16 7,⟨some 17,.un .not,[.t 16],[0],none⟩] false).seq
 (AC.cond (.t 17) ((rg [⟨some 4,.mov,[ci 0],[],none⟩,⟨some 5,.mov,[ci 9],[0,0],none⟩] false).seq AC.ret) AC.skip)).seq
 ((rg [⟨some 8,.mov,[cb false],[],none⟩] false).seq
 (((rg [mv 18 1,⟨some 19,.len,[.t 18],[0],none⟩,⟨some 20,.mov,[ci 0],[],none⟩] false).seq
 (AC.block 0 ((rg [bn 21 .lss 20 19] false).seq
 ((AC.cond (.t 21) AC.skip (AC.exit 0)).seq
 ((AC.block 1 ((rg [⟨some 22,.iad 1,[.t 18,.t 20],[],none⟩,ld 23 22 [0],mv 10 23 [1,0,1]] false).seq
 (((rg [mv 24 6,mv 25 10,⟨some 26,.call 46,[.t 24,.t 25],[0,1],none⟩,⟨some 27,.un .not,[.t 26],[2],none⟩] false).seq
 (AC.cond (.t 27) ((rg [⟨some 4,.mov,[ci 0],[],none⟩,⟨some 5,.mov,[ci 9],[0,0],none⟩] false).seq AC.ret) AC.skip)).seq
 (rg [mv 28 8,mv 29 28 [0],⟨some 30,.mov,[.t 10],[1],some (1,29,false)⟩,⟨some 31,.len,[.t 30],[2,1],some (1,29,false)⟩,⟨some 32,.bin .gtr,[.t 31,ci 512],[3,1],some (1,29,false)⟩,⟨some 33,.pick,[.t 29,cb true,.t 32],[1,4],none⟩,mv 8 33 [5,1,0,1,2,3,4,5]] false)))).seq
 (rg [⟨some 34,.bin .add,[.t 20,ci 1],[],none⟩,mv 20 34 [0]] false)))).loop)).seq
 (((rg [mv 35 8] false).seq
 (AC.cond (.t 35) ((rg [⟨some 4,.mov,[ci 0],[],none⟩,⟨some 5,.mov,[ci 4],[0,0],none⟩] false).seq AC.ret) AC.skip)).seq
 ((rg [mv 36 6,mv 4 36 [0,0],⟨some 5,.mov,[ci 0],[1,0,1],none⟩] false).seq AC.ret))))))
def rs_poly_open:List RV:=[.t 4,.t 5]
theorem c_poly_open:compile Tryz.prog ⟨Go.Func.ntmps Tryz.f140,[]⟩ (Tryz.f140.body.getD .skip)=some ac_poly_open:=by kernel_rfl
theorem go_poly_open:GoT Tryz.f140.ntmps 140 ac_poly_open rs_poly_open:=goT Tryz.func140 (by kernel_rfl) c_poly_open (by kernel_rfl)
def ac_poly_own:AC :=
 (rg [⟨some 2,.mov,[AV.c (V.nl 1)],[],none⟩] false).seq
 ((rg [mv 3 0,⟨some 4,.call 142,[.t 3],[0],none⟩,⟨some 5,.app 1 8,[AV.c (V.nl 1),.t 4],[1,1],none⟩,mv 2 5 [2,2,0,1,2]] false).seq AC.ret)
def rs_poly_own:List RV:=[.t 2]
theorem c_poly_own:compile Tryz.prog ⟨Go.Func.ntmps Tryz.f141,[]⟩ (Tryz.f141.body.getD .skip)=some ac_poly_own:=by kernel_rfl
theorem go_poly_own:GoT Tryz.f141.ntmps 141 ac_poly_own rs_poly_own:=goT Tryz.func141 (by kernel_rfl) c_poly_own (by kernel_rfl)
def ac_residue_Trim:AC :=
 (rg [⟨some 2,.mov,[AV.c (V.nl 1)],[],none⟩] false).seq
 ((rg [mv 4 0,⟨some 5,.len,[.t 4],[0],none⟩,mv 3 5 [1,0,1]] false).seq
 ((AC.block 0 (((rg [mv 6 3,⟨some 7,.bin .gtr,[.t 6,ci 0],[0],none⟩,mv 8 7 [1],⟨some 9,.mov,[.t 0],[2],some (2,8,true)⟩,⟨some 10,.mov,[.t 3],[2],some (2,8,true)⟩,⟨some 11,.bin .sub,[.t 10,ci 1],[4,2],some (2,8,true)⟩,⟨some 12,.iad 1,[.t 9,.t 11],[3,5,2],some (2,8,true)⟩,⟨some 13,.load 1 false,[.t 12],[6,2],some (2,8,true)⟩,⟨some 14,.bin .eql,[.t 13,ci 0],[7,2],some (2,8,true)⟩,⟨some 15,.pick,[.t 8,.t 14,cb false],[2,8],none⟩] false).seq
 (AC.cond (.t 15) AC.skip (AC.exit 0))).seq
 (AC.block 1 (rg [mv 16 3,⟨some 17,.bin .sub,[.t 16,ci 1],[0],none⟩,mv 3 17 [1,0,1]] false))).loop).seq
 ((rg [mv 18 0,mv 19 3,⟨some 20,.slc false true false 1,[.t 18,.t 19],[0,1],none⟩,mv 2 20 [2,0,1,2]] false).seq AC.ret)))
def rs_residue_Trim:List RV:=[.t 2]
theorem c_residue_Trim:compile Tryz.prog ⟨Go.Func.ntmps Tryz.f142,[]⟩ (Tryz.f142.body.getD .skip)=some ac_residue_Trim:=by kernel_rfl
theorem go_residue_Trim:GoT Tryz.f142.ntmps 142 ac_residue_Trim rs_residue_Trim:=goT Tryz.func142 (by kernel_rfl) c_residue_Trim (by kernel_rfl)
def ac_poly_times:AC :=
 (rg [⟨some 6,.mov,[AV.c (V.nl 1)],[],none⟩] false).seq
 ((rg [mv 10 1,⟨some 11,.len,[.t 10],[0],none⟩,mv 12 2,⟨some 13,.len,[.t 12],[2],none⟩,bn 14 .add 11 13 [1,3],⟨some 15,.bin .sub,[.t 14,ci 1],[4],none⟩,⟨some 16,.mks 1 [I 0] 8,[.t 15,.t 15],[5,5],none⟩,mv 7 16 [6,0,1,2,3,4,5,6]] false).seq
 (((rg [mv 17 1,⟨some 18,.len,[.t 17],[0],none⟩,⟨some 19,.mov,[ci 0],[],none⟩] false).seq
 (AC.block 0 ((rg [bn 20 .lss 19 18] false).seq
 ((AC.cond (.t 20) AC.skip (AC.exit 0)).seq
 ((AC.block 1 ((rg [mv 21 19,⟨some 22,.iad 1,[.t 17,.t 19],[],none⟩,ld 23 22 [1],mv 8 21 [0,0,1,2],mv 9 23 [2,3,0,1,2,3]] false).seq
 (rg [mv 24 0,mv 25 7,mv 26 8,⟨some 27,.tail 1,[.t 25,.t 26],[1,2],none⟩,mv 28 9,mv 29 2,⟨some 30,.call 48,[.t 24,.t 27,.t 28,.t 29],[0,3,4,5],none⟩] false))).seq
 (rg [⟨some 31,.bin .add,[.t 19,ci 1],[],none⟩,mv 19 31 [0]] false)))).loop)).seq
 ((rg [mv 32 7,mv 6 32 [0,0]] false).seq AC.ret)))
def rs_poly_times:List RV:=[.t 6]
theorem c_poly_times:compile Tryz.prog ⟨Go.Func.ntmps Tryz.f146,[27]⟩ (Tryz.f146.body.getD .skip)=some ac_poly_times:=by kernel_rfl
theorem go_poly_times:GoT Tryz.f146.ntmps 146 ac_poly_times rs_poly_times:=goT Tryz.func146 (by kernel_rfl) c_poly_times (by kernel_rfl)
def ac_solve_reduced_lead:AC :=
 (rg [mv 11 0,⟨some 12,.nck,[.t 11],[0],none⟩,fa 13 3 12 [1],ld 14 13 [2],mv 4 14 [3,0,1,2,3]] false).seq
 ((AC.block 0 (((rg [mv 15 4,mv 16 0,⟨some 17,.nck,[.t 16],[1],none⟩,fa 18 2 17 [2],ld 19 18 [3],⟨some 20,.len,[.t 19],[4],none⟩,bn 21 .lss 15 20 [0,5],mv 22 21 [6],⟨some 23,.mov,[.t 0],[7],some (7,22,true)⟩,⟨some 24,.nck,[.t 23],[8,7],some (7,22,true)⟩,⟨some 25,.fad 2,[.t 24],[9,7],some (7,22,true)⟩,⟨some 26,.load 1 false,[.t 25],[10,7],some (7,22,true)⟩,⟨some 27,.mov,[.t 4],[7],some (7,22,true)⟩,⟨some 28,.iad 1,[.t 26,.t 27],[11,12,7],some (7,22,true)⟩,⟨some 29,.load 1 false,[.t 28],[13,7],some (7,22,true)⟩,⟨some 30,.mov,[.t 1],[7],some (7,22,true)⟩,⟨some 31,.iad 1,[.t 29,.t 30],[14,15,7],some (7,22,true)⟩,⟨some 32,.load 1 false,[.t 31],[16,7],some (7,22,true)⟩,⟨some 33,.bin .eql,[.t 32,ci 0],[17,7],some (7,22,true)⟩,⟨some 34,.pick,[.t 22,.t 33,cb false],[7,18],none⟩] false).seq
 (AC.cond (.t 34) AC.skip (AC.exit 0))).seq
 (AC.block 1 (rg [mv 35 4,⟨some 36,.bin .add,[.t 35,ci 1],[0],none⟩,mv 4 36 [1,0,1]] false))).loop).seq
 (((rg [mv 37 4,mv 38 0,⟨some 39,.nck,[.t 38],[1],none⟩,fa 40 2 39 [2],ld 41 40 [3],⟨some 42,.len,[.t 41],[4],none⟩,bn 43 .eql 37 42 [0,5]] false).seq
 (AC.cond (.t 43) AC.ret AC.skip)).seq
 ((rg [mv 44 0,⟨some 45,.nck,[.t 44],[0],none⟩,fa 46 2 45 [1],ld 47 46 [2],mv 48 0,⟨some 49,.nck,[.t 48],[4],none⟩,fa 50 3 49 [5],ld 51 50 [6],mv 52 0,⟨some 53,.nck,[.t 52],[8],none⟩,fa 54 2 53 [9],ld 55 54 [10],mv 56 4,mv 57 0,⟨some 58,.nck,[.t 57],[13],none⟩,fa 59 2 58 [14],ld 60 59 [15],mv 61 4,⟨some 62,.iad 1,[.t 60,.t 61],[16,17],none⟩,ld 63 62 [18],mv 64 0,⟨some 65,.nck,[.t 64],[20],none⟩,fa 66 2 65 [21],ld 67 66 [22],mv 68 0,⟨some 69,.nck,[.t 68],[24],none⟩,fa 70 3 69 [25],ld 71 70 [26],⟨some 72,.iad 1,[.t 67,.t 71],[23,27],none⟩,ld 73 72 [28],⟨some 74,.iad 1,[.t 47,.t 51],[3,7,0,1,2,3,4,5,6,7,11,13,14,15,16,17,18,19,23,27,29],none⟩,⟨none,.store 1,[.t 74,.t 63],[30,19,0,1,2,3,4,5,6,7,11,13,14,15,16,17,18,19,23,27,29],none⟩,⟨some 75,.iad 1,[.t 55,.t 56],[11,12,0,1,2,3,4,5,6,7,8,9,10,11,12,13,14,15,16,17,18,19,20,21,22,23,24,25,26,27,28,29,30,31],none⟩,⟨none,.store 1,[.t 75,.t 73],[32,29,31,0,1,2,3,4,5,6,7,8,9,10,11,12,13,14,15,16,17,18,19,20,21,22,23,24,25,26,27,28,29,30,31],none⟩] true).seq
 ((rg [mv 76 0,⟨some 77,.nck,[.t 76],[0],none⟩,fa 78 2 77 [1],ld 79 78 [2],mv 80 0,⟨some 81,.nck,[.t 80],[4],none⟩,fa 82 3 81 [5],ld 83 82 [6],⟨some 84,.iad 1,[.t 79,.t 83],[3,7],none⟩,ld 85 84 [8],mv 5 85 [9,0,1,2,3,4,5,6,7,8,9]] true).seq
 ((rg [mv 86 0,⟨some 87,.nck,[.t 86],[0],none⟩,fa 88 0 87 [1],ld 89 88 [2],mv 90 5,mv 91 1,⟨some 92,.iad 1,[.t 90,.t 91],[4,5],none⟩,ld 93 92 [6],⟨some 94,.call 143,[.t 89,.t 93],[3,7],none⟩,mv 6 94 [8,8,0,1,2,3,4,5,6,7,8]] true).seq
 (((rg [mv 95 5,⟨some 96,.len,[.t 95],[0],none⟩,⟨some 97,.mov,[ci 0],[],none⟩] false).seq
 (AC.block 2 ((rg [bn 98 .lss 97 96] false).seq
 ((AC.cond (.t 98) AC.skip (AC.exit 2)).seq
 ((AC.block 3 ((rg [mv 99 97,⟨some 100,.iad 1,[.t 95,.t 97],[],none⟩,ld 101 100 [1],mv 7 99 [0,0,1,2],mv 8 101 [2,3,0,1,2,3]] false).seq
 (rg [mv 102 5,mv 103 7,mv 104 0,⟨some 105,.nck,[.t 104],[2],none⟩,fa 106 0 105 [3],ld 107 106 [4],mv 108 8,mv 109 6,⟨some 110,.call 80,[.t 107,.t 108,.t 109],[5,6,7],none⟩,⟨some 111,.iad 1,[.t 102,.t 103],[0,1,0,1,2,3,4,5,6,7,8],none⟩,⟨none,.store 1,[.t 111,.t 110],[9,8,8,0,1,2,3,4,5,6,7,8],none⟩] false))).seq
 (rg [⟨some 112,.bin .add,[.t 97,ci 1],[],none⟩,mv 97 112 [0]] false)))).loop)).seq
 (((rg [mv 113 0,⟨some 114,.nck,[.t 113],[0],none⟩,fa 115 2 114 [1],ld 116 115 [2],⟨some 117,.len,[.t 116],[3],none⟩,⟨some 118,.mov,[ci 0],[],none⟩] false).seq
 (AC.block 4 ((rg [bn 119 .lss 118 117] false).seq
 ((AC.cond (.t 119) AC.skip (AC.exit 4)).seq
 ((AC.block 5 ((rg [mv 120 118,⟨some 121,.iad 1,[.t 116,.t 118],[],none⟩,ld 122 121 [1],mv 9 120 [0,0,1,2],mv 10 122 [2,3,0,1,2,3]] false).seq
 ((rg [mv 123 9,mv 124 0,⟨some 125,.nck,[.t 124],[1],none⟩,fa 126 3 125 [2],ld 127 126 [3],bn 128 .neq 123 127 [0,4],mv 129 128 [5],⟨some 130,.mov,[.t 10],[6],some (6,129,true)⟩,⟨some 131,.mov,[.t 1],[6],some (6,129,true)⟩,⟨some 132,.iad 1,[.t 130,.t 131],[7,8,6],some (6,129,true)⟩,⟨some 133,.load 1 false,[.t 132],[9,6],some (6,129,true)⟩,⟨some 134,.bin .neq,[.t 133,ci 0],[10,6],some (6,129,true)⟩,⟨some 135,.pick,[.t 129,.t 134,cb false],[6,11],none⟩] false).seq
 (AC.cond (.t 135) (rg [mv 136 0,⟨some 137,.nck,[.t 136],[0],none⟩,fa 138 0 137 [1],ld 139 138 [2],mv 140 10,mv 141 0,⟨some 142,.nck,[.t 141],[5],none⟩,fa 143 0 142 [6],ld 144 143 [7],mv 145 10,mv 146 1,⟨some 147,.iad 1,[.t 145,.t 146],[9,10],none⟩,ld 148 147 [11],⟨some 149,.call 136,[.t 144,ci 0,.t 148],[8,12],none⟩,mv 150 5,⟨some 151,.call 48,[.t 139,.t 140,.t 149,.t 150],[3,4,13,14,13],none⟩] true) AC.skip)))).seq
 (rg [⟨some 152,.bin .add,[.t 118,ci 1],[],none⟩,mv 118 152 [0]] false)))).loop)).seq
 ((rg [mv 153 0,⟨some 154,.nck,[.t 153],[0],none⟩,fa 155 3 154 [1],ld 156 155 [2],⟨some 157,.bin .add,[.t 156,ci 1],[3],none⟩,⟨some 158,.nck,[.t 153],[0,0,1,2,3,4],none⟩,fa 159 3 158 [5,0,1,2,3,4],⟨none,.store 1,[.t 159,.t 157],[6,4,0,1,2,3,4],none⟩] false).seq
 (rg [mv 160 0,mv 161 1,mv 162 0,⟨some 163,.nck,[.t 162],[2],none⟩,fa 164 3 163 [3],ld 165 164 [4],⟨some 166,.nck,[.t 160],[0],none⟩,fa 167 4 166 [6],⟨some 168,.iada 32 1,[.t 167,.t 161],[7,1,0,1,2,3,4,5],none⟩,⟨none,.store 1,[.t 168,.t 165],[8,5,0,1,2,3,4,5],none⟩] true)))))))))
theorem c_solve_reduced_lead:compile Tryz.prog ⟨Go.Func.ntmps Tryz.f147,[]⟩ (Tryz.f147.body.getD .skip)=some ac_solve_reduced_lead:=by kernel_rfl
end Go.Proofs.YtacfbiegbdlldaaGreatDoor.Sim
