/- What each operation does with values without memory: of no program. Conditions: none. -/
import Derived.Test.YtacfbiegbdlldaaGreatDoorVSimA
section
namespace Go.Proofs.YtacfbiegbdlldaaGreatDoor.Sim
open Go Go.RowKit Go.Deep
set_option linter.unusedVariables false
inductive AV where
 |t (n:Nat)
 |c (x:V)
inductive K where
 |mov|pick
 |alloc (z:List V)
 |box
 |build (z:List V) (fs:List (Nat × Nat))
 |bsl (k:Nat) (z:List V) (n:Nat) (fs:List Nat)
 |load (n:Nat) (g:Bool)
 |store (n:Nat)
 |nck
 |bin (op:BinOp)
 |beq (ne:Bool)
 |isn (ne:Bool)
 |seq (n:Nat) (ne:Bool)
 |un (op:UnOp)
 |conv (k:IntKind)
 |mkf (f:FuncId)
 |mks (k:Nat) (z:List V) (bytes:Nat)
 |slc (lo hi mx:Bool) (k:Nat)
 |fad (off:Nat)
 |fld (off n:Nat) (g:Bool)
 |iad (k:Nat)
 |iada (n k:Nat)
 |ixs
 |ixa (n k:Nat) (g:Bool)
 |ext (j:Nat)
 |call (f:FuncId)
 |callv
 |len
 |lens
 |app (k bytes:Nat)
 |cpy (k:Nat)
 |mn|mx
 |bslv (n:Nat)
 |bslw (k:Nat)
 |tail (k:Nat)
 |cutm (k:Nat)
 |fxc (k:Nat)
 |mkm
 |lkp
 |mup
 |ldg (g:Nat)
 |ifn (ne:Bool)
 |bad
structure AO where
 dst:Option Nat
 k:K
 xs:List AV
 after:List Nat
 guard:Option (Nat × Nat × Bool)
structure NF where
 n:Nat
 f:List Nat
/-! ### Out of the program's operations -/
section
variable (P:Program)
def zeroV:Nat→TypeId→Option (List V)
 |0,_=>none
 |n+1,t=>match P.underlying t with
  |some (.int k)=>some [.d (.at (.int k 0))]
  |some .bool=>some [.d (.at (.bool false))]
  |some .string=>some [.d (.at (.string ⟨#[]⟩))]
  |some (.slice e)=>some [.nl (P.cellsOf e)]
  |some (.pointer _)=>some [.d (.at (.pointer none))]
  |some (.func _ _ _)=>some [.d (.at .nilFunc)]
  |some (.interface _)=>some [.d (.at .nilIface)]
  |some (.struct fs)=>(fs.toList.mapM fun f=>zeroV n f.type).map List.flatten
  |some (.array c e)=>(zeroV n e).map fun z=>(List.replicate c z).flatten
  |_=>none
def zOk:V→Value→Bool
 |.d (.at (.int k n)),.int k' n'=>k == k'&&n == n'
 |.d (.at (.bool b)),.bool b'=>b == b'
 |.d (.at (.string s)),.string s'=>s.data == s'.data
 |.d (.at (.pointer none)),.pointer none=>true
 |.d (.at .nilFunc),.nilFunc=>true
 |.d (.at .nilIface),.nilIface=>true
 |.nl _,.slice none 0 0=>true
 |_,_=>false
def zOks:List V→List Value→Bool
 |[],[]=>true
 |z :: zs,u :: us=>zOk z u&&zOks zs us
 |_,_=>false
def zcs (t:TypeId):Option (List V):=match P.info? t,zeroV P 8 t with
 |some i,some z=>match i.zero with
  |some v=>if zOks z v.cells.toList&&z.length == i.size then some z else none
  |none=>none
 |_,_=>none
def cv (t:TypeId):Value→Option V
 |.int k n=>some (.d (.at (.int k n)))
 |.bool b=>some (.d (.at (.bool b)))
 |.string s=>some (.d (.at (.string s)))
 |.pointer none=>some (.d (.at (.pointer none)))
 |.nilFunc=>some (.d (.at .nilFunc))
 |.nilIface=>some (.d (.at .nilIface))
 |.slice none 0 0=>match P.underlying t with
  |some (.slice e)=>some (.nl (P.cellsOf e))
  |_=>some (.nl 1)
 |_=>none
def av (t:TypeId):Operand→Option AV
 |.tmp n=>some (.t n)
 |.const v=>(cv P t v).map .c
 |.func f=>if f<1000000 then some (.c (.cl f [])) else none
 |.global _=>none
def avs:List TypeId→List Operand→Option (List AV)
 |_,[]=>some []
 |ts,x :: xs=>match av P (ts.headD 0) x,avs ts.tail xs with
  |some y,some ys=>some (y :: ys)
  |_,_=>none
def form (t:TypeId):Option (Nat × Bool):=match P.info? t,P.underlying t with
 |some i,some d=>if d.isRow||i.size == 1 then some (i.size,d.isRow) else none
 |_,_=>none
def elemOf' (t:TypeId):Option (TypeId × Nat × Nat):=match P.underlying t with
 |some (.slice e)=>match P.info? e with
  |some i=>some (e,i.size,i.bytes)
  |none=>none
 |_=>none
def placeF (t:TypeId):Option (Nat→Option (Nat × Nat)):=match P.info? t,P.underlying t with
 |some it,some (.array _ e)=>(P.info? e).map fun ie=>fun i=>some (i*ie.size,ie.size)
 |some it,some (.struct fields)=>match fields.toList.mapM (fun f=>(P.info? f.type).map fun i=>(f.offset,i.size)) with
  |some places=>some (places.toArray[·]?)
  |none=>none
 |_,_=>none
def partT (t:TypeId) (i:Nat):TypeId:=match P.underlying t with
 |some (.array _ e)=>e
 |some (.struct fields)=>((fields[i]?).map (·.type)).getD 0
 |_=>0
def offs (f:Nat→Option (Nat × Nat)):List (Nat × Operand)→Option (List (Nat × Nat))
 |[]=>some []
 |(i,_) :: r=>match f i,offs f r with
  |some o,some os=>some (o :: os)
  |_,_=>none
def op3:List (Option Operand)→List Operand
 |[]=>[]
 |some x :: r=>x :: op3 r
 |none :: r=>op3 r
def intFields:List Field→Nat→Bool
 |[],_=>true
 |f :: fs,off=>f.offset == off&&f.name != "_"&&(match P.underlying f.type with
  |some (.int _)=>true
  |_=>false)&&intFields fs (off+1)
def isBx (k:Nat) (z:List V) (l c:Operand):Bool:=match k,z,l,c with
 |1,[.nl _],.tmp i,.tmp j=>i == j
 |_,_,_,_=>false
def isNilO:Operand→Bool
 |.const (.slice none 0 0)=>true
 |_=>false
def isLt (k:Nat) (z:List V) (n:Nat) (ps:List (Nat × Operand)):Bool:=match k,z with
 |1,[.nl _]=>(ps.map (·.1)) == List.range n&&ps.any fun p=>isNilO p.2
 |_,_=>false
def isDst (f:List Nat):Option Nat→Bool
 |some d=>f.any (Nat.beq d)
 |none=>false
def isMap (t:TypeId):Bool:=match P.underlying t with
 |some (.map kt et)=>(match P.underlying kt with
  |some (.int .i64)=>true
  |_=>false)&&(match P.info? et with
  |some i=>(match i.zero with
   |some (.bool false)=>true
   |_=>false)
  |none=>false)
 |_=>false
def isCT:Operand→Bool
 |.const (.bool true)=>true
 |_=>false
def isCN:Operand→Bool
 |.const .nilIface=>true
 |_=>false
def opX (f:List Nat) (o:Oper):Option (K × List Operand × List TypeId) :=
 match o.op with
 |.buildSlice t n ps=>if isDst f o.dst then (match elemOf' P t with
  |some (e,1,_)=>match zcs P e with
   |some [.nl _]=>if (ps.toList.map (·.1) == List.range n)=true∧n≤1000 then some (.bslv n,ps.toList.map (·.2),ps.toList.map fun _=>e) else none
   |_=>none
  |some (e,k+2,_)=>match zcs P e with
   |some (_ :: _)=>if n=1∧k≤900∧(ps.toList.map (·.1) == [0])=true then some (.bslw (k+2),ps.toList.map (·.2),ps.toList.map fun _=>e) else none
   |_=>none
  |_=>none) else none
 |.slice t x (some lo) none none=>if isDst f o.dst then (match P.underlying t with
  |some (.slice e)=>match P.info? e with
   |some i=>if 0<i.size then some (.tail i.size,[x,lo],[t,0]) else none
   |none=>none
  |_=>none) else none
 |.slice t x none (some hi) (some mx)=>if isDst f o.dst then (match P.underlying t with
  |some (.slice e)=>match P.info? e with
   |some i=>if 0<i.size then some (.cutm i.size,[x,hi,mx],[t,0,0]) else none
   |none=>none
  |_=>none) else if isDst f (o.dst.map (·+1000000)) then (match P.underlying t with
  |some (.slice e)=>match P.info? e with
   |some i=>if 0<i.size then some (.fxc i.size,[x,hi,mx],[t,0,0]) else none
   |none=>none
  |_=>none) else none
 |.makeMap t none=>if isMap P t then some (.mkm,[],[]) else none
 |.lookup t x y false=>if isMap P t then some (.lkp,[x,y],[t,0]) else none
 |.mapUpdate t x y z=>if isMap P t&&isCT z then some (.mup,[x,y],[t,0]) else none
 |.load t (.global g)=>match form P t with
  |some (1,false)=>some (.ldg g,[],[])
  |_=>none
 |.binOp .eql t x y u=>match P.underlying t with
  |some (.interface _)=>if isCN y then some (.ifn false,[x,y],[t,u]) else none
  |_=>none
 |.binOp .neq t x y u=>match P.underlying t with
  |some (.interface _)=>if isCN y then some (.ifn true,[x,y],[t,u]) else none
  |_=>none
 |_=>none
def opK0 (o:Oper):Option (K × List Operand × List TypeId) :=
 match o.op with
 |.move x=>some (.mov,[x],[o.type])
 |.assign x=>some (.mov,[x],[o.type])
 |.pick c a b=>some (.pick,[c,a,b],[0,o.type,o.type])
 |.alloc t=>(zcs P t).map fun z=>(.alloc z,[],[])
 |.box t x=>some (.box,[x],[t])
 |.build t ps=>match placeF P t,zcs P t with
  |some f,some z=>match offs f ps.toList with
   |some os=>some (.build z os,ps.toList.map (·.2),ps.toList.map fun p=>partT P t p.1)
   |none=>none
  |_,_=>none
 |.buildSlice t n ps=>match elemOf' P t with
  |some (e,k,_)=>match zcs P e with
   |some z=>if n*k≤1000∧0<k then (if isLt k z n ps.toList then some (.bsl 1 [] n (List.range n),ps.toList.map (·.2),ps.toList.map fun _=>e) else some (.bsl k z n (ps.toList.map (·.1)),ps.toList.map (·.2),ps.toList.map fun _=>e)) else none
   |none=>none
  |none=>none
 |.load t x=>(form P t).map fun (n,g)=>(.load n g,[x],[0])
 |.store t x y=>(form P t).map fun (n,_)=>(.store n,[x,y],[0,t])
 |.nilCheck x=>some (.nck,[x],[0])
 |.binOp op t x y u=>match P.underlying t,op with
  |some .bool,.eql=>some (.beq false,[x,y],[t,u])
  |some .bool,.neq=>some (.beq true,[x,y],[t,u])
  |some (.slice _),.eql=>some (.isn false,[x,y],[t,u])
  |some (.slice _),.neq=>some (.isn true,[x,y],[t,u])
  |some (.struct fs),.eql=>if intFields P fs.toList 0&&!P.stoodInHeld t&&!P.eqGuardType P.depth t then some (.seq fs.size false,[x,y],[t,u]) else none
  |some (.struct fs),.neq=>if intFields P fs.toList 0&&!P.stoodInHeld t&&!P.eqGuardType P.depth t then some (.seq fs.size true,[x,y],[t,u]) else none
  |_,_=>some (.bin op,[x,y],[t,u])
 |.unOp op t x=>some (.un op,[x],[t])
 |.convert s t x=>match P.underlying t with
  |some (.int k)=>if (P.underlying s).isSome then some (.conv k,[x],[0]) else none
  |_=>none
 |.makeFunc (.func f) first cs=>if f<1000000 then (if first.size == 0 then some (.mkf f,cs.toList,[]) else if cs.size == 0 then some (.mkf (f+1000000),first.toList,[]) else none) else none
 |.makeSlice t l c=>match elemOf' P t with
  |some (e,k,by_)=>match zcs P e with
   |some z=>if 0<k then (if isBx k z l c then some (.mks 1 [] by_,[l,c],[0,0]) else some (.mks k z by_,[l,c],[0,0])) else none
   |none=>none
  |none=>none
 |.slice t x lo hi mx=>match P.underlying t with
  |some .string=>if mx.isNone then some (.slc lo.isSome hi.isSome false 0,op3 [some x,lo,hi],[t]) else none
  |some (.slice e)=>match P.info? e with
   |some i=>if 0<i.size then some (.slc lo.isSome hi.isSome mx.isSome i.size,op3 [some x,lo,hi,mx],[t]) else none
   |none=>none
  |_=>none
 |.fieldAddr t x j=>match P.underlying t with
  |some (.struct fs)=>match fs[j]? with
   |some f=>match P.info? f.type with
    |some i=>if 0<i.size then some (.fad f.offset,[x],[0]) else none
    |none=>none
   |none=>none
  |_=>none
 |.field t x j=>match P.underlying t with
  |some (.struct fs)=>match fs[j]? with
   |some f=>(form P f.type).map fun (n,g)=>(.fld f.offset n g,[x],[0])
   |none=>none
  |_=>none
 |.indexAddr t x y=>match P.underlying t with
  |some (.slice e)=>match P.info? e with
   |some i=>if 0<i.size then some (.iad i.size,[x,y],[t,0]) else none
   |none=>none
  |some (.array n e)=>match P.info? e with
   |some i=>if 0<i.size then some (.iada n i.size,[x,y],[t,0]) else none
   |none=>none
  |_=>none
 |.index t x y=>match P.underlying t with
  |some .string=>some (.ixs,[x,y],[t,0])
  |some (.array n e)=>match form P e with
   |some (k,g)=>some (.ixa n k g,[x,y],[t,0])
   |none=>none
  |_=>none
 |.extract x j=>some (.ext j,[x],[0])
 |.call c=>match c.callee with
  |.value (.func f)=>match P.funcs[f]? with
   |some fn=>if fn.body.isSome&&!(fn.name == "runtime.NumGoroutine") then some (.call f,c.args.toList,c.argTypes.toList) else none
   |none=>none
  |.value (.tmp t)=>some (.callv,.tmp t :: c.args.toList,0 :: c.argTypes.toList)
  |.builtin .len=>match c.args.toList,c.argTypes.toList with
   |[x],[t]=>match P.underlying t with
    |some .string=>some (.lens,[x],[t])
    |some (.slice _)=>some (.len,[x],[t])
    |_=>none
   |_,_=>none
  |.builtin .append=>match c.args.toList,c.argTypes.toList with
   |[x,y],[t,tx]=>match elemOf' P t,P.underlying tx with
    |some (e,k,by_),some (.slice _)=>if (zcs P e).isSome then some (.app k by_,[x,y],[t,tx]) else none
    |_,_=>none
   |_,_=>none
  |.builtin .copy=>match c.args.toList,c.argTypes.toList with
   |[x,y],[t,tx]=>match elemOf' P t,P.underlying tx with
    |some (e,k,by_),some (.slice _)=>if k=1 then some (.cpy k,[x,y],[t,tx]) else none
    |_,_=>none
   |_,_=>none
  |.builtin .min=>match c.args.toList with
   |[x,y]=>some (.mn,[x,y],c.argTypes.toList)
   |_=>none
  |.builtin .max=>match c.args.toList with
   |[x,y]=>some (.mx,[x,y],c.argTypes.toList)
   |_=>none
  |_=>none
 |_=>none
def opK (f:List Nat) (o:Oper):Option (K × List Operand × List TypeId):=match opX P f o with
 |some r=>some r
 |none=>match opK0 P o with
  |some r=>some r
  |none=>some (.bad,[],[])
def befores (o:Oper):List Nat:=o.after.toList.filterMap fun e=>if Region.binds .any e then some e.on else none
def dstOK (N:Nat):Option Nat→Bool
 |some d=>decide (d<N)
 |none=>true
def opA (N:NF) (ops:Array Oper) (o:Oper):Option AO:=match opK P N.f o with
 |some (k,xs,ts)=>match avs P ts xs with
  |some ys=>if dstOK N.n o.dst=true then (match o.guard with
   |none=>some ⟨o.dst,k,ys,befores o,none⟩
   |some (j,b)=>match (ops[j]?).bind (·.dst) with
    |some d=>some ⟨o.dst,k,ys,befores o,some (j,d,b)⟩
    |none=>none) else none
  |none=>none
 |none=>none
def opAs (N:NF) (ops:Array Oper):List Oper→Option (List AO)
 |[]=>some []
 |o :: r=>match opA P N ops o,opAs N ops r with
  |some y,some ys=>some (y :: ys)
  |_,_=>none
end
structure Clr where
 sl:Nat
 il:Nat
 d1:Nat
 d2:Nat
 d3:Nat
 k:Nat
 z:List V
def clrOf (P:Program) (N:Nat):Bool→List Oper→Option Clr
 |false,[⟨some d1,.move (.tmp sl),_,_,_,none⟩,⟨some d2,.move (.tmp il),_,_,_,none⟩,⟨some d3,.slice t (.tmp x) (some (.tmp y)) none none,_,_,_,none⟩,⟨none,.call c,_,_,_,none⟩] =>
  match c.callee,c.args.toList,c.argTypes.toList,elemOf' P t with
  |.builtin .clear,[.tmp u],[t'],some (e,k,_)=>match zcs P e with
   |some z=>if x=d1∧y=d2∧u=d3∧t'=t∧d1 ≠ d2∧il ≠ d1∧d1<N∧d2<N∧d3<N∧0<k then some ⟨sl,il,d1,d2,d3,k,z⟩ else none
   |none=>none
  |_,_,_,_=>none
 |_,_=>none
inductive AC where
 |skip
 |clr (c:Clr)
 |region (ops:List AO) (draw:Bool)
 |seq (a b:AC)
 |cond (c:AV) (a b:AC)
 |block (id:Nat) (a:AC)
 |loop (a:AC)
 |exit (id:Nat)
 |ret
def compile (P:Program) (N:NF):Code→Option AC
 |.skip=>some .skip
 |.region _ ops draw=>match clrOf P N.n draw ops.toList with
  |some c=>some (.clr c)
  |none=>(opAs P N ops ops.toList).map fun l=>.region l draw
 |.seq a b=>match compile P N a,compile P N b with
  |some x,some y=>some (.seq x y)
  |_,_=>none
 |.cond c a b=>match av P 0 c,compile P N a,compile P N b with
  |some c,some x,some y=>some (.cond c x y)
  |_,_,_=>none
 |.block id a=>(compile P N a).map (.block id)
 |.loop a=>(compile P N a).map .loop
 |.exit id=>some (.exit id)
 |.ret=>some .ret
 |_=>none
end Go.Proofs.YtacfbiegbdlldaaGreatDoor.Sim
end
section
namespace Go.Proofs.YtacfbiegbdlldaaGreatDoor.Sim
open Go Go.RowKit Go.Deep
set_option linter.unusedVariables false
abbrev U:=List (Nat × O)
def up {α:Type} (f:Nat→α) (i:Nat) (x:α):Nat→α:=fun j=>if j=i then x else f j
def ups:M→U→M
 |m,[]=>m
 |m,(i,o) :: r=>ups (up m i (some o)) r
def V.cells:V→List V
 |.ag l=>l
 |x=>[x]
def V.good:V→Bool
 |.un=>false
 |.tu _=>false
 |_=>true
def V.mk:Bool→List V→V
 |true,l=>.ag l
 |false,l=>l.headD .un
def V.notOg (i:Nat):V→Bool
 |.og j _=>j != i
 |_=>true
def nv (m:M) (d:Nat):Nat:=match m d with
 |some o=>o.ver+1
 |none=>0
def splice {α:Type} (l:List α) (o:Nat) (c:List α):List α:=l.take o++(c++l.drop (o+c.length))
def fillV:List V→List (Nat × Nat)→List V→List V
 |z,(o,_) :: fs,x :: r=>fillV (splice z o x.cells) fs r
 |z,_,_=>z
def fitB (n:Nat):List (Nat × Nat)→List V→Bool
 |[],[]=>true
 |(o,s) :: fs,x :: xs=>x.good&&x.cells.length == s&&decide (o+s≤n)&&fitB n fs xs
 |_,_=>false
def dcell (m:M):V→Option D
 |.d x=>some x
 |.nl k=>some (.sl k [])
 |.og i v=>match m i with
  |some (.arr v' k mu l)=>if v'=v then some (.sl k l) else none
  |_=>none
 |_=>none
def dcells (m:M):List V→Option (List D)
 |[]=>some []
 |x :: l=>match dcell m x,dcells m l with
  |some y,some ys=>some (y :: ys)
  |_,_=>none
def frz (m:M):List V→U
 |[]=>[]
 |.og i v :: l=>match m i with
  |some (.arr v' k mu l')=>(i,.arr v' k false l') :: frz m l
  |_=>frz m l
 |_ :: l=>frz m l
def zD (z:List V):List D:=z.map fun x=>match x with
 |.d y=>y
 |.nl k=>.sl k []
 |_=>.at .nilFunc
def B (b:Bool):V:=.d (.at (.bool b))
def I (n:Int):V:=.d (.at (.int .i64 n))
def semMov:List V→Option (V × U)
 |[x]=>some (x,[])
 |_=>none
def semPick:List V→Option (V × U)
 |[.d (.at (.bool c)),a,b]=>some (match c with|true=>a|false=>b,[])
 |_=>none
def semBox (d:Nat) (m:M):List V→Option (V × U)
 |[x]=>if x.good=true then some (.bp d (nv m d) 0,[(d,.box (nv m d) x.cells)]) else none
 |_=>none
def semBuild (z:List V) (fs:List (Nat × Nat)) (xs:List V):Option (V × U) :=
 if fitB z.length fs xs=true then some (.ag (fillV z fs xs),[]) else none
def fillD (m:M) (k:Nat):List (List D)→List (Nat × V)→Option (List (List D))
 |l,[]=>some l
 |l,(i,x) :: r=>match dcells m x.cells with
  |some c=>if x.good=true∧c.length=k∧i<l.length then fillD m k (l.set i c) r else none
  |none=>none
def V.lone:V→Bool
 |.d _=>true
 |.nl _=>true
 |.og _ _=>true
 |_=>false
def semBsl (k:Nat) (z:List V) (n:Nat) (fs:List Nat) (d:Nat) (m:M) (xs:List V):Option (V × U) :=
 match z with
 |[]=>if xs.all V.lone=true∧xs.length=n then some (.ep d (nv m d) n 1,[(d,.box (nv m d) xs)]) else none
 |y :: r=>match fillD m k (List.replicate n (zD (y :: r))) (fs.zip xs) with
  |some l=>some (.og d (nv m d),frz m (xs.flatMap V.cells)++[(d,.arr (nv m d) k true l)])
  |none=>none
def semLoad (n:Nat) (g:Bool) (m:M):List V→Option (V × U)
 |[.bp i v o]=>match m i with
  |some (.box v' cs)=>if v'=v∧o+n≤cs.length then some (V.mk g ((cs.drop o).take n),[]) else none
  |_=>none
 |[.fp cs o]=>if o+n≤cs.length then some (V.mk g (((cs.drop o).take n).map .d),[]) else none
 |[.ep i v e o]=>match m i with
  |some (.arr v' k mu l)=>if v'=v∧e<l.length∧o+n≤k then some (V.mk g ((((l.getD e []).drop o).take n).map .d),[]) else none
  |_=>none
 |[.vp i v e]=>match m i with
  |some (.vec v' kk cs)=>if v'=v∧n=1∧g=false∧e<cs.length then some (cs.getD e .un,[]) else none
  |_=>none
 |_=>none
def semStore (n:Nat) (m:M):List V→Option (V × U)
 |[.bp i v o,x]=>match m i with
  |some (.box v' cs)=>if v'=v∧x.good=true∧x.cells.length=n∧o+n≤cs.length then some (.un,[(i,.box v (splice cs o x.cells))]) else none
  |_=>none
 |[.ep i v e o,x]=>match m i,dcells m x.cells with
  |some (.arr v' k true l),some c=>if v'=v∧x.good=true∧x.cells.all (V.notOg i)=true∧c.length=n∧e<l.length∧o+n≤k then
    some (.un,frz m x.cells++[(i,.arr v k true (l.set e (splice (l.getD e []) o c)))]) else none
  |_,_=>none
 |[.vp i v e,x]=>match m i with
  |some (.vec v' kk cs)=>if v'=v∧n=1∧x.lone=true∧e<cs.length then some (.un,[(i,.vec v kk (cs.set e x))]) else if v'=v∧0<n∧x.good=true∧x.cells.length=n∧e+n≤cs.length then some (.un,[(i,.vec v kk (splice cs e x.cells))]) else none
  |_=>none
 |_=>none
def curB (m:M) (i v:Nat):Bool:=match m i with
 |some (.box v' _)=>v' == v
 |_=>false
def curA (m:M) (i v:Nat):Bool:=match m i with
 |some (.arr v' _ _ _)=>v' == v
 |_=>false
def curV (m:M) (i v:Nat):Bool:=match m i with
 |some (.vec v' _ _)=>v' == v
 |_=>false
def semNck (m:M):List V→Option (V × U)
 |[.bp i v o]=>if curB m i v=true then some (.bp i v o,[]) else none
 |[.ep i v e o]=>if curA m i v=true then some (.ep i v e o,[]) else none
 |[.fp cs o]=>some (.fp cs o,[])
 |_=>none
def eqCells:List V→List V→Option Bool
 |[],[]=>some true
 |.d (.at (.int k a)) :: l,.d (.at (.int k' b)) :: r=>match eqCells l r with
  |some t=>if k=k' then some (a == b&&t) else none
  |none=>none
 |_,_=>none
def semInt (k:IntKind) (op:BinOp) (a b:Int):Option V :=
 match op with
 |.add=>some (.d (.at (.int k (k.wrap (a+b)))))
 |.sub=>some (.d (.at (.int k (k.wrap (a-b)))))
 |.mul=>some (.d (.at (.int k (k.wrap (a*b)))))
 |.quo=>some (.d (.at (.int k (k.wrap (a.tdiv b)))))
 |.rem=>some (.d (.at (.int k (a.tmod b))))
 |.eql=>some (B (a == b))
 |.neq=>some (B (a != b))
 |.lss=>some (B (decide (a<b)))
 |.leq=>some (B (decide (a≤b)))
 |.gtr=>some (B (decide (a > b)))
 |.geq=>some (B (decide (a ≥ b)))
 |.shr=>if b=1 then some (.d (.at (.int k (a / 2)))) else none
 |.xor=>some (.d (.at (.int k (bits .xor k a b))))
 |_=>none
def semStr (op:BinOp) (a b:ByteArray):Option V :=
 match op with
 |.add=>some (.d (.at (.string (a++b))))
 |.eql=>some (B (a.toList == b.toList))
 |.neq=>some (B (!(a.toList == b.toList)))
 |.lss=>some (B (Op.bytesLess a.toList b.toList))
 |.leq=>some (B (Op.bytesLess a.toList b.toList||a.toList == b.toList))
 |.gtr=>some (B (!(Op.bytesLess a.toList b.toList||a.toList == b.toList)))
 |.geq=>some (B (!(Op.bytesLess a.toList b.toList)))
 |_=>none
def semBin (op:BinOp):List V→Option (V × U)
 |[.d (.at (.int k a)),.d (.at (.int k' b))]=>if k=k' then (semInt k op a b).map fun v=>(v,[]) else none
 |[.d (.at (.string a)),.d (.at (.string b))]=>(semStr op a b).map fun v=>(v,[])
 |_=>none
def semBeq (ne:Bool):List V→Option (V × U)
 |[.d (.at (.bool a)),.d (.at (.bool b))]=>match ne with
  |true=>some (B (a != b),[])
  |false=>some (B (a == b),[])
 |_=>none
def nilB (ne:Bool):List (List D)→V
 |[]=>.ub
 |_ :: _=>B ne
def semIsn (ne:Bool) (m:M):List V→Option (V × U)
 |[.d (.sl _ l),.nl _]=>some (nilB ne l,[])
 |[.nl _,.nl _]=>some (B (!ne),[])
 |[.og i v,.nl _]=>match m i with
  |some (.arr v' _ _ l)=>if v'=v then some (nilB ne l,[]) else none
  |_=>none
 |_=>none
def semSeq (n:Nat) (ne:Bool):List V→Option (V × U)
 |[.ag l,.ag r]=>match eqCells l r with
  |some t=>if l.length=n then (match ne with
   |true=>some (B (!t),[])
   |false=>some (B t,[])) else none
  |none=>none
 |_=>none
def semUn (op:UnOp):List V→Option (V × U)
 |[.d (.at (.bool a))]=>match op with
  |.not=>some (B (!a),[])
  |_=>none
 |[.d (.at (.int k a))]=>match op with
  |.neg=>some (.d (.at (.int k (k.wrap (0-a)))),[])
  |_=>none
 |_=>none
def semConv (k:IntKind):List V→Option (V × U)
 |[.d (.at (.int _ a))]=>some (.d (.at (.int k (k.wrap a))),[])
 |_=>none
def semMks (k:Nat) (z:List V) (d:Nat) (m:M):List V→Option (V × U)
 |[.d (.at (.int k1 n)),.d (.at (.int k2 c))]=>match z with
  |[]=>some (.ep d (nv m d) n.toNat 1,[(d,.box (nv m d) (List.replicate n.toNat (.nl 1)))])
  |y :: r=>some (.og d (nv m d),[(d,.arr (nv m d) k true (List.replicate n.toNat (zD (y :: r))))])
 |_=>none
def bnd (x:V):Option Int:=match x with
 |.d (.at (.int _ n))=>some n
 |_=>none
def bnds (lo hi mx:Bool) (xs:List V):Option (Option Int × Option Int × Option Int) :=
 match lo,hi,mx,xs with
 |true,false,false,[a]=>(bnd a).map fun n=>(some n,none,none)
 |false,true,false,[b]=>(bnd b).map fun n=>(none,some n,none)
 |true,true,false,[a,b]=>match bnd a,bnd b with
  |some n,some c=>some (some n,some c,none)
  |_,_=>none
 |false,true,true,[b,c]=>match bnd b,bnd c with
  |some n,some c=>some (none,some n,some c)
  |_,_=>none
 |true,true,true,[a,b,c]=>match bnd a,bnd b,bnd c with
  |some x,some y,some z=>some (some x,some y,some z)
  |_,_,_=>none
 |_,_,_,_=>none
def bl (b:Option Int × Option Int × Option Int):Nat:=(b.1.getD 0).toNat
def bh (b:Option Int × Option Int × Option Int) (n:Nat):Nat:=match b.2.1 with
 |some x=>x.toNat
 |none=>n
def isZ (b:Option Int × Option Int × Option Int):Bool:=match b with
 |(none,some x,some y)=>x == 0&&y == 0
 |_=>false
def semSlc (lo hi mx:Bool) (k:Nat) (m:M):List V→Option (V × U)
 |.d (.at (.string s)) :: r=>match bnds lo hi mx r with
  |some b=>if k=0 then some (.d (.at (.string (s.extract (bl b) (bh b s.size)))),[]) else none
  |none=>none
 |.d (.sl k' l) :: r=>match bnds lo hi mx r with
  |some b=>if k'=k∧0<k then (match isZ b with
   |true=>some (.z0,[])
   |false=>some (.d (.sl k ((l.take (bh b l.length)).drop (bl b))),[])) else none
  |none=>none
 |.og i v :: r=>match bnds lo hi mx r,m i with
  |some b,some (.arr v' k' mu l)=>if v'=v∧k'=k∧0<k then (match isZ b,lo,mx,mu with
   |true,_,_,_=>some (.z0,[])
   |false,false,false,true=>some (.og i (v+1),[(i,.arr (v+1) k true (l.take (bh b l.length)))])
   |false,_,_,_=>some (.d (.sl k ((l.take (bh b l.length)).drop (bl b))),[(i,.arr v k false l)])) else none
  |_,_=>none
 |_=>none
def semFad (off:Nat) (m:M):List V→Option (V × U)
 |[.bp i v o]=>if curB m i v=true then some (.bp i v (o+off),[]) else none
 |[.ep i v e o]=>if curA m i v=true then some (.ep i v e (o+off),[]) else none
 |[.fp cs o]=>some (.fp cs (o+off),[])
 |[.vp i v e]=>if curV m i v=true then some (.vp i v (e+off),[]) else none
 |_=>none
def semFld (off n:Nat) (g:Bool):List V→Option (V × U)
 |[.ag l]=>if off+n≤l.length then some (V.mk g ((l.drop off).take n),[]) else none
 |_=>none
def semIad (k:Nat) (m:M):List V→Option (V × U)
 |[.d (.sl k' l),.d (.at (.int _ n))]=>if k'=k then some (.fp (l.getD n.toNat []) 0,[]) else none
 |[.og i v,.d (.at (.int _ n))]=>some (.ep i v n.toNat 0,[])
 |[.ep i v e o,.d (.at (.int _ n))]=>if curB m i v=true∧k=1 then some (.bp i v n.toNat,[]) else none
 |[.vg i v,.d (.at (.int _ n))]=>if k=1 then some (.vp i v n.toNat,[]) else some (.vp i v (n.toNat*k),[])
 |[.ot i v e,.d (.at (.int _ n))]=>some (.ep i v (e+n.toNat) 0,[])
 |_=>none
def semIada (c k:Nat) (m:M):List V→Option (V × U)
 |[.bp i v o,.d (.at (.int _ n))]=>if curB m i v=true then some (.bp i v (o+n.toNat*k),[]) else none
 |_=>none
def semIxs:List V→Option (V × U)
 |[.d (.at (.string s)),.d (.at (.int _ n))]=>some (.d (.at (.int .u8 ((s.data.toList.getD n.toNat 0).toNat:Int))),[])
 |_=>none
def semIxa (c k:Nat) (g:Bool):List V→Option (V × U)
 |[.ag l,.d (.at (.int _ n))]=>if l.length=c*k then some (V.mk g ((l.drop (n.toNat*k)).take k),[]) else none
 |_=>none
def semExt (j:Nat):List V→Option (V × U)
 |[.tu l]=>if j<l.length then some (l.getD j .un,[]) else none
 |_=>none
def semLen (m:M):List V→Option (V × U)
 |[.d (.sl _ l)]=>some (I l.length,[])
 |[.nl _]=>some (I 0,[])
 |[.og i v]=>match m i with
  |some (.arr v' k mu l)=>if v'=v then some (I l.length,[]) else none
  |_=>none
 |[.ep i v e o]=>if curB m i v=true then some (I e,[]) else none
 |[.vg i v]=>match m i with
  |some (.vec v' kk cs)=>if v'=v then (if kk=1 then some (I cs.length,[]) else if 0<kk then some (I (cs.length / kk:Nat),[]) else none) else none
  |_=>none
 |[.ot i v e]=>match m i with
  |some (.arr v' k mu l)=>if v'=v then some (I (l.length-e:Nat),[]) else none
  |_=>none
 |_=>none
def semLens:List V→Option (V × U)
 |[.d (.at (.string s))]=>some (I s.size,[])
 |_=>none
def news (k:Nat) (m:M):V→Option (List (List D))
 |.d (.sl k' l)=>if k'=k then some l else none
 |.nl _=>some []
 |.og i v=>match m i with
  |some (.arr v' k' mu l)=>if v'=v∧k'=k then some l else none
  |_=>none
 |_=>none
def dall:List V→Option (List D)
 |[]=>some []
 |.d x :: r=>match dall r with
  |some ds=>some (x :: ds)
  |none=>none
 |_ :: _=>none
def semApp (k:Nat) (d:Nat) (m:M):List V→Option (V × U)
 |[.og i v,y]=>match m i,news k m y with
  |some (.arr v' k' true l),some ns=>if v'=v∧k'=k∧y.notOg i=true then some (.og i (v+1),[(i,.arr (v+1) k true (l++ns))]) else none
  |_,_=>none
 |[.nl _,.vg j u]=>match m j with
  |some (.vec u' kk cs')=>if u'=u∧kk=k∧0<k then some (.vg d (nv m d),[(d,.vec (nv m d) k cs')]) else none
  |_=>none
 |[.nl _,y]=>match news k m y with
  |some ns=>some (.og d (nv m d),[(d,.arr (nv m d) k true ns)])
  |none=>none
 |[.z0,y]=>match news k m y with
  |some ns=>some (.og d (nv m d),[(d,.arr (nv m d) k true ns)])
  |none=>none
 |[.ep i v e o,y]=>match m i,news k m y with
  |some (.box v' cs),some ns=>match dall cs with
   |some ds=>if v'=v∧k=1∧e=cs.length∧0<ns.length then some (.og d (nv m d),[(d,.arr (nv m d) 1 true (ds.map (fun x=>[x])++ns))]) else none
   |none=>none
  |_,_=>none
 |[.vg i v,.vg j u]=>match m i,m j with
  |some (.vec v' kk cs),some (.vec u' kk' cs')=>if v'=v∧u'=u∧i ≠ j∧kk=k∧kk'=k∧0<k then some (.vg i (v+1),[(i,.vec (v+1) k (cs++cs'))]) else none
  |_,_=>none
 |[.fx k' l,y]=>match news k m y with
  |some []=>if k'=k then some (.d (.sl k l),[]) else none
  |some (c :: ns)=>if k'=k then some (.og d (nv m d),[(d,.arr (nv m d) k true (l++c :: ns))]) else none
  |none=>none
 |_=>none
def semCpy (k:Nat) (m:M):List V→Option (V × U)
 |[.og i v,y]=>match m i,news k m y with
  |some (.arr v' k' true l),some ns=>if v'=v∧k'=k∧y.notOg i=true then
    some (I (min ns.length l.length:Nat),[(i,.arr v k true (ns.take l.length++l.drop ns.length))]) else none
  |_,_=>none
 |_=>none
def semMn:List V→Option (V × U)
 |[.d (.at (.int k a)),.d (.at (.int k' b))]=>some (.d (.at (.int k (min a b))),[])
 |_=>none
def semMx:List V→Option (V × U)
 |[.d (.at (.int k a)),.d (.at (.int k' b))]=>some (.d (.at (.int k (max a b))),[])
 |_=>none
def semBslv (n d:Nat) (m:M) (xs:List V):Option (V × U):=if xs.all V.lone=true∧xs.length=n then some (.vg d (nv m d),[(d,.vec (nv m d) 1 xs)]) else none
def semBslw (k d:Nat) (m:M):List V→Option (V × U)
 |[x]=>if x.good=true∧x.cells.length=k then some (.vg d (nv m d),[(d,.vec (nv m d) k x.cells)]) else none
 |_=>none
def semTail (k:Nat) (m:M):List V→Option (V × U)
 |[.og i v,.d (.at (.int _ n))]=>match m i with
  |some (.arr v' k' true l)=>if v'=v∧k'=k then some (.ot i v n.toNat,[]) else none
  |_=>none
 |_=>none
def semCutm (k:Nat) (m:M):List V→Option (V × U)
 |[.og i v,.d (.at (.int _ n)),.d (.at (.int _ n'))]=>match m i with
  |some (.arr v' k' true l)=>if v'=v∧k'=k then some (.og i (v+1),[(i,.arr (v+1) k true (l.take n.toNat))]) else none
  |_=>none
 |_=>none
def semFxc (k:Nat):List V→Option (V × U)
 |[.d (.sl k' l),.d (.at (.int _ n)),.d (.at (.int _ n'))]=>if k'=k then some (.fx k (l.take n.toNat),[]) else none
 |_=>none
def semMkm (d:Nat) (m:M):List V→Option (V × U)
 |[]=>some (.mh d (nv m d),[(d,.mp (nv m d) [])])
 |_=>none
def semLkp (m:M):List V→Option (V × U)
 |[.mh i v,.d (.at (.int .i64 n))]=>match m i with
  |some (.mp v' ks)=>if v'=v then some (B (ks.contains n),[]) else none
  |_=>none
 |_=>none
def semMup (m:M):List V→Option (V × U)
 |[.mh i v,.d (.at (.int .i64 n))]=>match m i with
  |some (.mp v' ks)=>if v'=v∧ks.contains n=false then some (.un,[(i,.mp v (ks++[n]))]) else none
  |_=>none
 |_=>none
def GL:List Nat:=[0]
def GLV:Value:=.iface 214 (.agg #[.int .i64 12])
theorem GLV_one:GLV.oneCell'=true:=rfl
def semLdg (g:Nat):List V→Option (V × U)
 |[]=>if GL.contains g=true then some (.d (.at GLV),[]) else none
 |_=>none
def semIfn (ne:Bool):List V→Option (V × U)
 |[.d (.at .nilIface),.d (.at .nilIface)]=>match ne with
  |true=>some (B false,[])
  |false=>some (B true,[])
 |_=>none
def sem (k:K) (d:Nat) (m:M) (xs:List V):Option (V × U) :=
 match k with
 |.mov=>semMov xs
 |.pick=>semPick xs
 |.alloc z=>some (.bp d (nv m d) 0,[(d,.box (nv m d) z)])
 |.box=>semBox d m xs
 |.build z fs=>semBuild z fs xs
 |.bsl k z n fs=>semBsl k z n fs d m xs
 |.load n g=>semLoad n g m xs
 |.store n=>semStore n m xs
 |.nck=>semNck m xs
 |.bin op=>semBin op xs
 |.beq ne=>semBeq ne xs
 |.isn ne=>semIsn ne m xs
 |.seq n ne=>semSeq n ne xs
 |.un op=>semUn op xs
 |.conv k=>semConv k xs
 |.mkf f=>some (.cl f xs,[])
 |.mks k z _=>semMks k z d m xs
 |.slc lo hi mx k=>semSlc lo hi mx k m xs
 |.fad o=>semFad o m xs
 |.fld o n g=>semFld o n g xs
 |.iad k=>semIad k m xs
 |.iada c k=>semIada c k m xs
 |.ixs=>semIxs xs
 |.ixa c k g=>semIxa c k g xs
 |.ext j=>semExt j xs
 |.len=>semLen m xs
 |.lens=>semLens xs
 |.app k _=>semApp k d m xs
 |.cpy k=>semCpy k m xs
 |.mn=>semMn xs
 |.mx=>semMx xs
 |.bslv n=>semBslv n d m xs
 |.bslw k=>semBslw k d m xs
 |.tail k=>semTail k m xs
 |.cutm k=>semCutm k m xs
 |.fxc k=>semFxc k xs
 |.mkm=>semMkm d m xs
 |.lkp=>semLkp m xs
 |.mup=>semMup m xs
 |.ldg g=>semLdg g xs
 |.ifn ne=>semIfn ne xs
 |_=>none
def preBin (op:BinOp):List V→Prop
 |[.d (.at (.int k a)),.d (.at (.int k' b))]=>match op with
  |.quo=>b ≠ 0
  |.rem=>b ≠ 0
  |_=>True
 |[.d (.at (.string a)),.d (.at (.string b))]=>match op with
  |.add=>a.size+b.size≤9223372036854775807
  |_=>True
 |_=>True
def preMks (bytes:Nat):List V→Prop
 |[.d (.at (.int k1 n)),.d (.at (.int k2 c))]=>k1=.i64∧k2=.i64∧0≤n∧n≤c∧c*bytes≤140737488355328∧c≤140737488355328
 |_=>False
def okB (b:Option Int × Option Int × Option Int) (n:Nat):Prop :=
 match b with
 |(some x,none,none)=>0≤x∧x≤n
 |(none,some y,none)=>0≤y∧y≤n
 |(some x,some y,none)=>0≤x∧x≤y∧y≤n
 |(none,some y,some z)=>0≤y∧y≤z∧z≤n
 |(some x,some y,some z)=>0≤x∧x≤y∧y≤z∧z≤n
 |_=>False
def preSlc (lo hi mx:Bool) (m:M):List V→Prop
 |.d (.at (.string s)) :: r=>match bnds lo hi mx r with
  |some b=>okB b s.size
  |none=>False
 |.d (.sl _ l) :: r=>match bnds lo hi mx r with
  |some b=>okB b l.length
  |none=>False
 |.og i v :: r=>match bnds lo hi mx r,m i with
  |some b,some (.arr v' k' mu l)=>okB b l.length
  |_,_=>False
 |_=>False
def preIad (k0:Nat) (m:M):List V→Prop
 |[.d (.sl k' l),.d (.at (.int _ n))]=>0≤n∧n.toNat<l.length
 |[.og i v,.d (.at (.int _ n))]=>match m i with
  |some (.arr v' k mu l)=>v'=v∧k=k0∧0≤n∧n.toNat<l.length
  |_=>False
 |[.ep i v e o,.d (.at (.int _ n))]=>0≤n∧n.toNat<e
 |[.vg i v,.d (.at (.int _ n))]=>match m i with
  |some (.vec v' kk cs)=>v'=v∧kk=k0∧0≤n∧n.toNat*kk<cs.length
  |_=>False
 |[.ot i v e,.d (.at (.int _ n))]=>match m i with
  |some (.arr v' k mu l)=>v'=v∧k=k0∧0≤n∧e+n.toNat<l.length
  |_=>False
 |_=>False
def preIada (c:Nat):List V→Prop
 |[.bp i v o,.d (.at (.int _ n))]=>0≤n∧n.toNat<c
 |_=>False
def preIxs:List V→Prop
 |[.d (.at (.string s)),.d (.at (.int _ n))]=>0≤n∧n.toNat<s.data.toList.length
 |_=>False
def preIxa (c:Nat):List V→Prop
 |[.ag l,.d (.at (.int _ n))]=>0≤n∧n.toNat<c
 |_=>False
def preApp (k bytes:Nat) (m:M):List V→Prop
 |[.og i v,y]=>match m i,news k m y with
  |some (.arr v' k' mu l),some ns=>(l.length+ns.length)*bytes≤140737488355328∧l.length+ns.length≤140737488355328
  |_,_=>False
 |[.ep i v e o,y]=>match news k m y with
  |some ns=>(e+ns.length)*bytes≤140737488355328∧e+ns.length≤140737488355328
  |none=>False
 |[.vg i v,.vg j u]=>match m i,m j with
  |some (.vec v' kk cs),some (.vec u' kk' cs')=>(cs.length+cs'.length)*bytes≤140737488355328∧cs.length+cs'.length≤140737488355328
  |_,_=>False
 |[.fx k' l,y]=>match news k m y with
  |some ns=>(l.length+ns.length)*bytes≤140737488355328∧l.length+ns.length≤140737488355328
  |none=>False
 |[.nl _,.vg j u]=>match m j with
  |some (.vec u' kk cs')=>cs'.length*bytes≤140737488355328∧cs'.length≤140737488355328
  |_=>False
 |[_,y]=>match news k m y with
  |some ns=>ns.length*bytes≤140737488355328∧ns.length≤140737488355328
  |none=>False
 |_=>False
def preTail (m:M):List V→Prop
 |[.og i v,.d (.at (.int _ n))]=>match m i with
  |some (.arr v' k' mu l)=>0≤n∧n.toNat<l.length
  |_=>False
 |_=>False
def preCutm (m:M):List V→Prop
 |[.og i v,.d (.at (.int _ n)),.d (.at (.int _ n'))]=>match m i with
  |some (.arr v' k' mu l)=>0≤n∧n≤n'∧n'≤(l.length:Int)
  |_=>False
 |_=>False
def preFxc:List V→Prop
 |[.d (.sl k' l),.d (.at (.int _ n)),.d (.at (.int _ n'))]=>0≤n∧n=n'∧n≤(l.length:Int)
 |_=>False
def pre (k:K) (m:M) (xs:List V):Prop :=
 match k with
 |.cutm _=>preCutm m xs
 |.fxc _=>preFxc xs
 |.tail _=>preTail m xs
 |.bin op=>preBin op xs
 |.mks _ _ b=>preMks b xs
 |.slc lo hi mx _=>preSlc lo hi mx m xs
 |.iad k=>preIad k m xs
 |.iada c _=>preIada c xs
 |.ixs=>preIxs xs
 |.ixa c _ _=>preIxa c xs
 |.app k b=>preApp k b m xs
 |_=>True
end Go.Proofs.YtacfbiegbdlldaaGreatDoor.Sim
end
