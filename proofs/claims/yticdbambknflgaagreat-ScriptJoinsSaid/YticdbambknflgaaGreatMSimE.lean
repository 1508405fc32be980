/- Arrays of the call's own are written and grow: of no program. Conditions: none. -/
import Derived.Test.YticdbambknflgaaGreatMSimB
section
namespace Go.Proofs.YticdbambknflgaaGreat.Sim
open Go Go.RowKit Go.Deep
set_option linter.unusedVariables false
abbrev U:=List (Nat × O)
def up {α:Type} (f:Nat→α) (i:Nat) (x:α):Nat→α:=fun j=>if j=i then x else f j
def ups:M→U→M
 |m,[]=>m
 |m,(i,o) :: r=>ups (up m i (some o)) r
def V.cells:V→List V
 |.ag l=>l
 |x=>[x]
def V.good:V→Bool
 |.un=>false
 |.tu _=>false
 |_=>true
def V.mk:Bool→List V→V
 |true,l=>.ag l
 |false,l=>l.headD .un
def V.notOg (i:Nat):V→Bool
 |.og j _=>j != i
 |_=>true
def nv (m:M) (d:Nat):Nat:=match m d with
 |some o=>o.ver+1
 |none=>0
def splice {α:Type} (l:List α) (o:Nat) (c:List α):List α:=l.take o++(c++l.drop (o+c.length))
def fillV:List V→List (Nat × Nat)→List V→List V
 |z,(o,_) :: fs,x :: r=>fillV (splice z o x.cells) fs r
 |z,_,_=>z
def fitB (n:Nat):List (Nat × Nat)→List V→Bool
 |[],[]=>true
 |(o,s) :: fs,x :: xs=>x.good&&x.cells.length == s&&decide (o+s≤n)&&fitB n fs xs
 |_,_=>false
def dcell (m:M):V→Option D
 |.d x=>some x
 |.nl k=>some (.sl k [])
 |.og i v=>match m i with
  |some (.arr v' k mu l)=>if v'=v then some (.sl k l) else none
  |_=>none
 |_=>none
def dcells (m:M):List V→Option (List D)
 |[]=>some []
 |x :: l=>match dcell m x,dcells m l with
  |some y,some ys=>some (y :: ys)
  |_,_=>none
def frz (m:M):List V→U
 |[]=>[]
 |.og i v :: l=>match m i with
  |some (.arr v' k mu l')=>(i,.arr v' k false l') :: frz m l
  |_=>frz m l
 |_ :: l=>frz m l
def zD (z:List V):List D:=z.map fun x=>match x with
 |.d y=>y
 |.nl k=>.sl k []
 |_=>.at .nilFunc
def B (b:Bool):V:=.d (.at (.bool b))
def I (n:Int):V:=.d (.at (.int .i64 n))
def semMov:List V→Option (V × U)
 |[x]=>some (x,[])
 |_=>none
def semPick:List V→Option (V × U)
 |[.d (.at (.bool c)),a,b]=>some (match c with|true=>a|false=>b,[])
 |_=>none
def semBox (d:Nat) (m:M):List V→Option (V × U)
 |[x]=>if x.good=true then some (.bp d (nv m d) 0,[(d,.box (nv m d) x.cells)]) else none
 |_=>none
def semBuild (z:List V) (fs:List (Nat × Nat)) (xs:List V):Option (V × U) :=
 if fitB z.length fs xs=true then some (.ag (fillV z fs xs),[]) else none
def fillD (m:M) (k:Nat):List (List D)→List (Nat × V)→Option (List (List D))
 |l,[]=>some l
 |l,(i,x) :: r=>match dcells m x.cells with
  |some c=>if x.good=true∧c.length=k∧i<l.length then fillD m k (l.set i c) r else none
  |none=>none
def V.lone:V→Bool
 |.d _=>true
 |.nl _=>true
 |.og _ _=>true
 |_=>false
def semBsl (k:Nat) (z:List V) (n:Nat) (fs:List Nat) (d:Nat) (m:M) (xs:List V):Option (V × U) :=
 match z with
 |[]=>if xs.all V.lone=true∧xs.length=n then some (.ep d (nv m d) n 1,[(d,.box (nv m d) xs)]) else none
 |y :: r=>match fillD m k (List.replicate n (zD (y :: r))) (fs.zip xs) with
  |some l=>some (.og d (nv m d),frz m (xs.flatMap V.cells)++[(d,.arr (nv m d) k true l)])
  |none=>none
def semLoad (n:Nat) (g:Bool) (m:M):List V→Option (V × U)
 |[.bp i v o]=>match m i with
  |some (.box v' cs)=>if v'=v∧o+n≤cs.length then some (V.mk g ((cs.drop o).take n),[]) else none
  |_=>none
 |[.fp cs o]=>if o+n≤cs.length then some (V.mk g (((cs.drop o).take n).map .d),[]) else none
 |[.ep i v e o]=>match m i with
  |some (.arr v' k mu l)=>if v'=v∧e<l.length∧o+n≤k then some (V.mk g ((((l.getD e []).drop o).take n).map .d),[]) else none
  |_=>none
 |[.vp i v e]=>match m i with
  |some (.vec v' kk cs)=>if v'=v∧n=1∧g=false∧e<cs.length then some (cs.getD e .un,[]) else none
  |_=>none
 |_=>none
def semStore (n:Nat) (m:M):List V→Option (V × U)
 |[.bp i v o,x]=>match m i with
  |some (.box v' cs)=>if v'=v∧x.good=true∧x.cells.length=n∧o+n≤cs.length then some (.un,[(i,.box v (splice cs o x.cells))]) else none
  |_=>none
 |[.ep i v e o,x]=>match m i,dcells m x.cells with
  |some (.arr v' k true l),some c=>if v'=v∧x.good=true∧x.cells.all (V.notOg i)=true∧c.length=n∧e<l.length∧o+n≤k then
    some (.un,frz m x.cells++[(i,.arr v k true (l.set e (splice (l.getD e []) o c)))]) else none
  |_,_=>none
 |[.vp i v e,x]=>match m i with
  |some (.vec v' kk cs)=>if v'=v∧n=1∧x.lone=true∧e<cs.length then some (.un,[(i,.vec v kk (cs.set e x))]) else if v'=v∧0<n∧x.good=true∧x.cells.length=n∧e+n≤cs.length then some (.un,[(i,.vec v kk (splice cs e x.cells))]) else none
  |_=>none
 |_=>none
def curB (m:M) (i v:Nat):Bool:=match m i with
 |some (.box v' _)=>v' == v
 |_=>false
def curA (m:M) (i v:Nat):Bool:=match m i with
 |some (.arr v' _ _ _)=>v' == v
 |_=>false
def curV (m:M) (i v:Nat):Bool:=match m i with
 |some (.vec v' _ _)=>v' == v
 |_=>false
def semNck (m:M):List V→Option (V × U)
 |[.bp i v o]=>if curB m i v=true then some (.bp i v o,[]) else none
 |[.ep i v e o]=>if curA m i v=true then some (.ep i v e o,[]) else none
 |[.fp cs o]=>some (.fp cs o,[])
 |_=>none
def eqCells:List V→List V→Option Bool
 |[],[]=>some true
 |.d (.at (.int k a)) :: l,.d (.at (.int k' b)) :: r=>match eqCells l r with
  |some t=>if k=k' then some (a == b&&t) else none
  |none=>none
 |_,_=>none
def semInt (k:IntKind) (op:BinOp) (a b:Int):Option V :=
 match op with
 |.add=>some (.d (.at (.int k (k.wrap (a+b)))))
 |.sub=>some (.d (.at (.int k (k.wrap (a-b)))))
 |.mul=>some (.d (.at (.int k (k.wrap (a*b)))))
 |.quo=>some (.d (.at (.int k (k.wrap (a.tdiv b)))))
 |.rem=>some (.d (.at (.int k (a.tmod b))))
 |.eql=>some (B (a == b))
 |.neq=>some (B (a != b))
 |.lss=>some (B (decide (a<b)))
 |.leq=>some (B (decide (a≤b)))
 |.gtr=>some (B (decide (a > b)))
 |.geq=>some (B (decide (a ≥ b)))
 |.shr=>if b=1 then some (.d (.at (.int k (a / 2)))) else none
 |.xor=>some (.d (.at (.int k (bits .xor k a b))))
 |.and=>some (.d (.at (.int k (bits .and k a b))))
 |.or=>some (.d (.at (.int k (bits .or k a b))))
 |_=>none
def semStr (op:BinOp) (a b:ByteArray):Option V :=
 match op with
 |.add=>some (.d (.at (.string (a++b))))
 |.eql=>some (B (a.toList == b.toList))
 |.neq=>some (B (!(a.toList == b.toList)))
 |.lss=>some (B (Op.bytesLess a.toList b.toList))
 |.leq=>some (B (Op.bytesLess a.toList b.toList||a.toList == b.toList))
 |.gtr=>some (B (!(Op.bytesLess a.toList b.toList||a.toList == b.toList)))
 |.geq=>some (B (!(Op.bytesLess a.toList b.toList)))
 |_=>none
def semSh (k:IntKind) (op:BinOp) (a b:Int):Option (V × U):=match op with
 |.shr=>if b=1 then some (.d (.at (.int k (a / 2))),[]) else none
 |_=>none
def semBin (op:BinOp):List V→Option (V × U)
 |[.d (.at (.int k a)),.d (.at (.int k' b))]=>if k=k' then (semInt k op a b).map fun v=>(v,[]) else semSh k op a b
 |[.d (.at (.string a)),.d (.at (.string b))]=>(semStr op a b).map fun v=>(v,[])
 |_=>none
def semBeq (ne:Bool):List V→Option (V × U)
 |[.d (.at (.bool a)),.d (.at (.bool b))]=>match ne with
  |true=>some (B (a != b),[])
  |false=>some (B (a == b),[])
 |_=>none
def nilB (ne:Bool):List (List D)→V
 |[]=>.ub
 |_ :: _=>B ne
def semIsn (ne:Bool) (m:M):List V→Option (V × U)
 |[.d (.sl _ l),.nl _]=>some (nilB ne l,[])
 |[.nl _,.nl _]=>some (B (!ne),[])
 |[.og i v,.nl _]=>match m i with
  |some (.arr v' _ _ l)=>if v'=v then some (nilB ne l,[]) else none
  |_=>none
 |_=>none
def semSeq (n:Nat) (ne:Bool):List V→Option (V × U)
 |[.ag l,.ag r]=>match eqCells l r with
  |some t=>if l.length=n then (match ne with
   |true=>some (B (!t),[])
   |false=>some (B t,[])) else none
  |none=>none
 |_=>none
def semUn (op:UnOp):List V→Option (V × U)
 |[.d (.at (.bool a))]=>match op with
  |.not=>some (B (!a),[])
  |_=>none
 |[.d (.at (.int k a))]=>match op with
  |.neg=>some (.d (.at (.int k (k.wrap (0-a)))),[])
  |_=>none
 |_=>none
def semConv (k:IntKind):List V→Option (V × U)
 |[.d (.at (.int _ a))]=>some (.d (.at (.int k (k.wrap a))),[])
 |_=>none
def semMks (k:Nat) (z:List V) (d:Nat) (m:M):List V→Option (V × U)
 |[.d (.at (.int k1 n)),.d (.at (.int k2 c))]=>match z with
  |[]=>some (.ep d (nv m d) n.toNat 1,[(d,.box (nv m d) (List.replicate n.toNat (.nl 1)))])
  |y :: r=>some (.og d (nv m d),[(d,.arr (nv m d) k true (List.replicate n.toNat (zD (y :: r))))])
 |_=>none
def bnd (x:V):Option Int:=match x with
 |.d (.at (.int _ n))=>some n
 |_=>none
def bnds (lo hi mx:Bool) (xs:List V):Option (Option Int × Option Int × Option Int) :=
 match lo,hi,mx,xs with
 |true,false,false,[a]=>(bnd a).map fun n=>(some n,none,none)
 |false,true,false,[b]=>(bnd b).map fun n=>(none,some n,none)
 |true,true,false,[a,b]=>match bnd a,bnd b with
  |some n,some c=>some (some n,some c,none)
  |_,_=>none
 |false,true,true,[b,c]=>match bnd b,bnd c with
  |some n,some c=>some (none,some n,some c)
  |_,_=>none
 |true,true,true,[a,b,c]=>match bnd a,bnd b,bnd c with
  |some x,some y,some z=>some (some x,some y,some z)
  |_,_,_=>none
 |_,_,_,_=>none
def bl (b:Option Int × Option Int × Option Int):Nat:=(b.1.getD 0).toNat
def bh (b:Option Int × Option Int × Option Int) (n:Nat):Nat:=match b.2.1 with
 |some x=>x.toNat
 |none=>n
def isZ (b:Option Int × Option Int × Option Int):Bool:=match b with
 |(none,some x,some y)=>x == 0&&y == 0
 |_=>false
def semSlc (lo hi mx:Bool) (k:Nat) (m:M):List V→Option (V × U)
 |.d (.at (.string s)) :: r=>match bnds lo hi mx r with
  |some b=>if k=0 then some (.d (.at (.string (s.extract (bl b) (bh b s.size)))),[]) else none
  |none=>none
 |.d (.sl k' l) :: r=>match bnds lo hi mx r with
  |some b=>if k'=k∧0<k then (match isZ b with
   |true=>some (.z0,[])
   |false=>some (.d (.sl k ((l.take (bh b l.length)).drop (bl b))),[])) else none
  |none=>none
 |.og i v :: r=>match bnds lo hi mx r,m i with
  |some b,some (.arr v' k' mu l)=>if v'=v∧k'=k∧0<k then (match isZ b,lo,mx,mu with
   |true,_,_,_=>some (.z0,[])
   |false,false,false,true=>some (.og i (v+1),[(i,.arr (v+1) k true (l.take (bh b l.length)))])
   |false,_,_,_=>some (.d (.sl k ((l.take (bh b l.length)).drop (bl b))),[(i,.arr v k false l)])) else none
  |_,_=>none
 |_=>none
def semFad (off:Nat) (m:M):List V→Option (V × U)
 |[.bp i v o]=>if curB m i v=true then some (.bp i v (o+off),[]) else none
 |[.ep i v e o]=>if curA m i v=true then some (.ep i v e (o+off),[]) else none
 |[.fp cs o]=>some (.fp cs (o+off),[])
 |[.vp i v e]=>if curV m i v=true then some (.vp i v (e+off),[]) else none
 |_=>none
def semFld (off n:Nat) (g:Bool):List V→Option (V × U)
 |[.ag l]=>if off+n≤l.length then some (V.mk g ((l.drop off).take n),[]) else none
 |_=>none
def semIad (k:Nat) (m:M):List V→Option (V × U)
 |[.d (.sl k' l),.d (.at (.int _ n))]=>if k'=k then some (.fp (l.getD n.toNat []) 0,[]) else none
 |[.og i v,.d (.at (.int _ n))]=>some (.ep i v n.toNat 0,[])
 |[.ep i v e o,.d (.at (.int _ n))]=>if curB m i v=true∧k=1 then some (.bp i v n.toNat,[]) else none
 |[.vg i v,.d (.at (.int _ n))]=>if k=1 then some (.vp i v n.toNat,[]) else some (.vp i v (n.toNat*k),[])
 |[.ot i v e,.d (.at (.int _ n))]=>some (.ep i v (e+n.toNat) 0,[])
 |_=>none
def semIada (c k:Nat) (m:M):List V→Option (V × U)
 |[.bp i v o,.d (.at (.int _ n))]=>if curB m i v=true then some (.bp i v (o+n.toNat*k),[]) else none
 |_=>none
def semIxs:List V→Option (V × U)
 |[.d (.at (.string s)),.d (.at (.int _ n))]=>some (.d (.at (.int .u8 ((s.data.toList.getD n.toNat 0).toNat:Int))),[])
 |_=>none
def semIxa (c k:Nat) (g:Bool):List V→Option (V × U)
 |[.ag l,.d (.at (.int _ n))]=>if l.length=c*k then some (V.mk g ((l.drop (n.toNat*k)).take k),[]) else none
 |_=>none
def semExt (j:Nat):List V→Option (V × U)
 |[.tu l]=>if j<l.length then some (l.getD j .un,[]) else none
 |_=>none
def semLen (m:M):List V→Option (V × U)
 |[.d (.sl _ l)]=>some (I l.length,[])
 |[.nl _]=>some (I 0,[])
 |[.og i v]=>match m i with
  |some (.arr v' k mu l)=>if v'=v then some (I l.length,[]) else none
  |_=>none
 |[.ep i v e o]=>if curB m i v=true then some (I e,[]) else none
 |[.vg i v]=>match m i with
  |some (.vec v' kk cs)=>if v'=v then (if kk=1 then some (I cs.length,[]) else if 0<kk then some (I (cs.length / kk:Nat),[]) else none) else none
  |_=>none
 |[.ot i v e]=>match m i with
  |some (.arr v' k mu l)=>if v'=v then some (I (l.length-e:Nat),[]) else none
  |_=>none
 |_=>none
def semLens:List V→Option (V × U)
 |[.d (.at (.string s))]=>some (I s.size,[])
 |_=>none
def news (k:Nat) (m:M):V→Option (List (List D))
 |.d (.sl k' l)=>if k'=k then some l else none
 |.nl _=>some []
 |.og i v=>match m i with
  |some (.arr v' k' mu l)=>if v'=v∧k'=k then some l else none
  |_=>none
 |_=>none
def dall:List V→Option (List D)
 |[]=>some []
 |.d x :: r=>match dall r with
  |some ds=>some (x :: ds)
  |none=>none
 |_ :: _=>none
def semApp (k:Nat) (d:Nat) (m:M):List V→Option (V × U)
 |[.og i v,y]=>match m i,news k m y with
  |some (.arr v' k' true l),some ns=>if v'=v∧k'=k∧y.notOg i=true then some (.og i (v+1),[(i,.arr (v+1) k true (l++ns))]) else none
  |_,_=>none
 |[.nl _,.vg j u]=>match m j with
  |some (.vec u' kk cs')=>if u'=u∧kk=k∧0<k then some (.vg d (nv m d),[(d,.vec (nv m d) k cs')]) else none
  |_=>none
 |[.nl _,y]=>match news k m y with
  |some ns=>some (.og d (nv m d),[(d,.arr (nv m d) k true ns)])
  |none=>none
 |[.z0,y]=>match news k m y with
  |some ns=>some (.og d (nv m d),[(d,.arr (nv m d) k true ns)])
  |none=>none
 |[.ep i v e o,y]=>match m i,news k m y with
  |some (.box v' cs),some ns=>match dall cs with
   |some ds=>if v'=v∧k=1∧e=cs.length∧0<ns.length then some (.og d (nv m d),[(d,.arr (nv m d) 1 true (ds.map (fun x=>[x])++ns))]) else none
   |none=>none
  |_,_=>none
 |[.vg i v,.vg j u]=>match m i,m j with
  |some (.vec v' kk cs),some (.vec u' kk' cs')=>if v'=v∧u'=u∧i ≠ j∧kk=k∧kk'=k∧0<k then some (.vg i (v+1),[(i,.vec (v+1) k (cs++cs'))]) else none
  |_,_=>none
 |[.vg i v,.d (.sl k' l)]=>match m i with
  |some (.vec v' kk cs)=>if v'=v∧kk=k∧k'=k∧0<k then some (.vg i (v+1),[(i,.vec (v+1) k (cs++l.flatten.map V.d))]) else none
  |_=>none
 |[.fx k' l,y]=>match news k m y with
  |some []=>if k'=k then some (.d (.sl k l),[]) else none
  |some (c :: ns)=>if k'=k then some (.og d (nv m d),[(d,.arr (nv m d) k true (l++c :: ns))]) else none
  |none=>none
 |_=>none
def semCpy (k:Nat) (m:M):List V→Option (V × U)
 |[.og i v,y]=>match m i,news k m y with
  |some (.arr v' k' true l),some ns=>if v'=v∧k'=k∧y.notOg i=true then
    some (I (min ns.length l.length:Nat),[(i,.arr v k true (ns.take l.length++l.drop ns.length))]) else none
  |_,_=>none
 |_=>none
def semMn:List V→Option (V × U)
 |[.d (.at (.int k a)),.d (.at (.int k' b))]=>some (.d (.at (.int k (min a b))),[])
 |_=>none
def semMx:List V→Option (V × U)
 |[.d (.at (.int k a)),.d (.at (.int k' b))]=>some (.d (.at (.int k (max a b))),[])
 |_=>none
def semBslv (n d:Nat) (m:M) (xs:List V):Option (V × U):=if xs.all V.lone=true∧xs.length=n then some (.vg d (nv m d),[(d,.vec (nv m d) 1 xs)]) else none
def semBslw (k d:Nat) (m:M):List V→Option (V × U)
 |[x]=>if x.good=true∧x.cells.length=k then some (.vg d (nv m d),[(d,.vec (nv m d) k x.cells)]) else none
 |_=>none
def semTail (k:Nat) (m:M):List V→Option (V × U)
 |[.og i v,.d (.at (.int _ n))]=>match m i with
  |some (.arr v' k' true l)=>if v'=v∧k'=k then some (.ot i v n.toNat,[]) else none
  |_=>none
 |_=>none
def semCutm (k:Nat) (m:M):List V→Option (V × U)
 |[.og i v,.d (.at (.int _ n)),.d (.at (.int _ n'))]=>match m i with
  |some (.arr v' k' true l)=>if v'=v∧k'=k then some (.og i (v+1),[(i,.arr (v+1) k true (l.take n.toNat))]) else none
  |_=>none
 |_=>none
def semFxc (k:Nat):List V→Option (V × U)
 |[.d (.sl k' l),.d (.at (.int _ n)),.d (.at (.int _ n'))]=>if k'=k then some (.fx k (l.take n.toNat),[]) else none
 |_=>none
def semMkm (d:Nat) (m:M):List V→Option (V × U)
 |[]=>some (.mh d (nv m d),[(d,.mp (nv m d) [])])
 |_=>none
def semLkp (m:M):List V→Option (V × U)
 |[.mh i v,.d (.at (.int .i64 n))]=>match m i with
  |some (.mp v' ks)=>if v'=v then some (B (ks.contains n),[]) else none
  |_=>none
 |_=>none
def semMup (m:M):List V→Option (V × U)
 |[.mh i v,.d (.at (.int .i64 n))]=>match m i with
  |some (.mp v' ks)=>if v'=v∧ks.contains n=false then some (.un,[(i,.mp v (ks++[n]))]) else none
  |_=>none
 |_=>none
def GL:List Nat:=[]
def GLV:Value:=.nilIface
theorem GLV_one:GLV.oneCell'=true:=rfl
def semLdg (g:Nat):List V→Option (V × U)
 |[]=>if GL.contains g=true then some (.d (.at GLV),[]) else none
 |_=>none
def semIfn (ne:Bool):List V→Option (V × U)
 |[.d (.at .nilIface),.d (.at .nilIface)]=>match ne with
  |true=>some (B false,[])
  |false=>some (B true,[])
 |_=>none
def byU (b:UInt8):List D:=[.at (.int .u8 (b.toNat:Int))]
def unBy:List (List D)→Option (List UInt8)
 |[]=>some []
 |[.at (.int .u8 n)] :: r=>match unBy r with
  |some l=>if 0≤n∧n<256 then some (UInt8.ofNat n.toNat :: l) else none
  |none=>none
 |_=>none
theorem unBy_map:∀ l:List UInt8,unBy (l.map byU)=some l
 |[]=>rfl
 |b :: l=>by
  have hb:=b.toNat_lt
  rw[List.map_cons,byU,unBy,unBy_map l]
  simp only
  rw[if_pos (by omega)]
  simp
theorem unBy_ok:∀ {l:List (List D)} {b:List UInt8},unBy l=some b→l=b.map byU
 |[],b,h=>by cases h;rfl
 |c :: r,b,h=>by
  unfold unBy at h
  split at h
  ·contradiction
  ·rename_i n r' hc
   cases hc
   split at h
   ·rename_i l' hl
    split at h
    ·rename_i hn
     cases h
     rw[List.map_cons,unBy_ok hl]
     congr 1
     simp only[byU]
     rw[UInt8.toNat_ofNat',Nat.mod_eq_of_lt (by omega),Int.toNat_of_nonneg hn.1]
    ·cases h
   ·cases h
  ·cases h
def semTob (d:Nat) (m:M):List V→Option (V × U)
 |[.d (.at (.string s))]=>some (.og d (nv m d),[(d,.arr (nv m d) 1 true (s.data.toList.map byU))])
 |_=>none
def semTos (m:M):List V→Option (V × U)
 |[y]=>match news 1 m y with
  |some ns=>match unBy ns with
   |some l=>some (.d (.at (.string ⟨l.toArray⟩)),[])
   |none=>none
  |none=>none
 |_=>none
def sem (k:K) (d:Nat) (m:M) (xs:List V):Option (V × U) :=
 match k with
 |.mov=>semMov xs
 |.pick=>semPick xs
 |.alloc z=>some (.bp d (nv m d) 0,[(d,.box (nv m d) z)])
 |.box=>semBox d m xs
 |.build z fs=>semBuild z fs xs
 |.bsl k z n fs=>semBsl k z n fs d m xs
 |.load n g=>semLoad n g m xs
 |.store n=>semStore n m xs
 |.nck=>semNck m xs
 |.bin op=>semBin op xs
 |.beq ne=>semBeq ne xs
 |.isn ne=>semIsn ne m xs
 |.seq n ne=>semSeq n ne xs
 |.un op=>semUn op xs
 |.conv k=>semConv k xs
 |.mkf f=>some (.cl f xs,[])
 |.mks k z _=>semMks k z d m xs
 |.slc lo hi mx k=>semSlc lo hi mx k m xs
 |.fad o=>semFad o m xs
 |.fld o n g=>semFld o n g xs
 |.iad k=>semIad k m xs
 |.iada c k=>semIada c k m xs
 |.ixs=>semIxs xs
 |.ixa c k g=>semIxa c k g xs
 |.ext j=>semExt j xs
 |.len=>semLen m xs
 |.lens=>semLens xs
 |.app k _=>semApp k d m xs
 |.cpy k=>semCpy k m xs
 |.mn=>semMn xs
 |.mx=>semMx xs
 |.bslv n=>semBslv n d m xs
 |.bslw k=>semBslw k d m xs
 |.tail k=>semTail k m xs
 |.cutm k=>semCutm k m xs
 |.fxc k=>semFxc k xs
 |.mkm=>semMkm d m xs
 |.lkp=>semLkp m xs
 |.mup=>semMup m xs
 |.ldg g=>semLdg g xs
 |.ifn ne=>semIfn ne xs
 |.tob=>semTob d m xs
 |.tos=>semTos m xs
 |_=>none
def preBin (op:BinOp):List V→Prop
 |[.d (.at (.int k a)),.d (.at (.int k' b))]=>match op with
  |.quo=>b ≠ 0
  |.rem=>b ≠ 0
  |_=>True
 |[.d (.at (.string a)),.d (.at (.string b))]=>match op with
  |.add=>a.size+b.size≤9223372036854775807
  |_=>True
 |_=>True
def preMks (bytes:Nat):List V→Prop
 |[.d (.at (.int k1 n)),.d (.at (.int k2 c))]=>k1=.i64∧k2=.i64∧0≤n∧n≤c∧c*bytes≤140737488355328∧c≤140737488355328
 |_=>False
def okB (b:Option Int × Option Int × Option Int) (n:Nat):Prop :=
 match b with
 |(some x,none,none)=>0≤x∧x≤n
 |(none,some y,none)=>0≤y∧y≤n
 |(some x,some y,none)=>0≤x∧x≤y∧y≤n
 |(none,some y,some z)=>0≤y∧y≤z∧z≤n
 |(some x,some y,some z)=>0≤x∧x≤y∧y≤z∧z≤n
 |_=>False
def preSlc (lo hi mx:Bool) (m:M):List V→Prop
 |.d (.at (.string s)) :: r=>match bnds lo hi mx r with
  |some b=>okB b s.size
  |none=>False
 |.d (.sl _ l) :: r=>match bnds lo hi mx r with
  |some b=>okB b l.length
  |none=>False
 |.og i v :: r=>match bnds lo hi mx r,m i with
  |some b,some (.arr v' k' mu l)=>okB b l.length
  |_,_=>False
 |_=>False
def preIad (k0:Nat) (m:M):List V→Prop
 |[.d (.sl k' l),.d (.at (.int _ n))]=>0≤n∧n.toNat<l.length
 |[.og i v,.d (.at (.int _ n))]=>match m i with
  |some (.arr v' k mu l)=>v'=v∧k=k0∧0≤n∧n.toNat<l.length
  |_=>False
 |[.ep i v e o,.d (.at (.int _ n))]=>0≤n∧n.toNat<e
 |[.vg i v,.d (.at (.int _ n))]=>match m i with
  |some (.vec v' kk cs)=>v'=v∧kk=k0∧0≤n∧n.toNat*kk<cs.length
  |_=>False
 |[.ot i v e,.d (.at (.int _ n))]=>match m i with
  |some (.arr v' k mu l)=>v'=v∧k=k0∧0≤n∧e+n.toNat<l.length
  |_=>False
 |_=>False
def preIada (c:Nat):List V→Prop
 |[.bp i v o,.d (.at (.int _ n))]=>0≤n∧n.toNat<c
 |_=>False
def preIxs:List V→Prop
 |[.d (.at (.string s)),.d (.at (.int _ n))]=>0≤n∧n.toNat<s.data.toList.length
 |_=>False
def preIxa (c:Nat):List V→Prop
 |[.ag l,.d (.at (.int _ n))]=>0≤n∧n.toNat<c
 |_=>False
def preApp (k bytes:Nat) (m:M):List V→Prop
 |[.og i v,y]=>match m i,news k m y with
  |some (.arr v' k' mu l),some ns=>(l.length+ns.length)*bytes≤140737488355328∧l.length+ns.length≤140737488355328
  |_,_=>False
 |[.ep i v e o,y]=>match news k m y with
  |some ns=>(e+ns.length)*bytes≤140737488355328∧e+ns.length≤140737488355328
  |none=>False
 |[.vg i v,.vg j u]=>match m i,m j with
  |some (.vec v' kk cs),some (.vec u' kk' cs')=>(cs.length+cs'.length)*bytes≤140737488355328∧cs.length+cs'.length≤140737488355328
  |_,_=>False
 |[.vg i v,.d (.sl k' l)]=>match m i with
  |some (.vec v' kk cs)=>(cs.length+(l.flatten.map V.d).length)*bytes≤140737488355328∧cs.length+(l.flatten.map V.d).length≤140737488355328
  |_=>False
 |[.fx k' l,y]=>match news k m y with
  |some ns=>(l.length+ns.length)*bytes≤140737488355328∧l.length+ns.length≤140737488355328
  |none=>False
 |[.nl _,.vg j u]=>match m j with
  |some (.vec u' kk cs')=>cs'.length*bytes≤140737488355328∧cs'.length≤140737488355328
  |_=>False
 |[_,y]=>match news k m y with
  |some ns=>ns.length*bytes≤140737488355328∧ns.length≤140737488355328
  |none=>False
 |_=>False
def preTail (m:M):List V→Prop
 |[.og i v,.d (.at (.int _ n))]=>match m i with
  |some (.arr v' k' mu l)=>0≤n∧n.toNat<l.length
  |_=>False
 |_=>False
def preCutm (m:M):List V→Prop
 |[.og i v,.d (.at (.int _ n)),.d (.at (.int _ n'))]=>match m i with
  |some (.arr v' k' mu l)=>0≤n∧n≤n'∧n'≤(l.length:Int)
  |_=>False
 |_=>False
def preFxc:List V→Prop
 |[.d (.sl k' l),.d (.at (.int _ n)),.d (.at (.int _ n'))]=>0≤n∧n=n'∧n≤(l.length:Int)
 |_=>False
def preTob:List V→Prop
 |[.d (.at (.string s))]=>s.data.toList.length≤140737488355328
 |_=>False
def pre (k:K) (m:M) (xs:List V):Prop :=
 match k with
 |.cutm _=>preCutm m xs
 |.fxc _=>preFxc xs
 |.tob=>preTob xs
 |.tail _=>preTail m xs
 |.bin op=>preBin op xs
 |.mks _ _ b=>preMks b xs
 |.slc lo hi mx _=>preSlc lo hi mx m xs
 |.iad k=>preIad k m xs
 |.iada c _=>preIada c xs
 |.ixs=>preIxs xs
 |.ixa c _ _=>preIxa c xs
 |.app k b=>preApp k b m xs
 |_=>True
end Go.Proofs.YticdbambknflgaaGreat.Sim
end
section
namespace Go.Proofs.YticdbambknflgaaGreat.Sim
open Go Go.RowKit Go.Deep
set_option linter.unusedVariables false
theorem up_same {α:Type} (f:Nat→α) (i:Nat) (x:α):up f i x i=x:=by simp [up]
theorem up_ne {α:Type} (f:Nat→α) {i j:Nat} (x:α) (h:j ≠ i):up f i x j=f j:=by simp [up,h]
theorem ups_append (m:M) (a b:U):ups m (a++b)=ups (ups m a) b:=by
 induction a generalizing m with
 |nil=>rfl
 |cons x a ih=>obtain⟨i,o⟩:=x;exact ih _
section
variable {m m' m'':M} {hd hd' hd'':H} {w w' w'':World} {S S' S'' X:Nat→Prop} {B:Nat}
structure Out (X:Nat→Prop) (B:Nat) (m:M) (hd:H) (w:World) (S:Nat→Prop) (m':M) (hd':H) (w':World) (S':Nat→Prop):Prop where
 mem:Mem m' hd' w' S' X B
 le:Le m hd m' hd'
 keep:∀ b,S b→b<w.heap.size→S' b∧w'.heap[b]?=w.heap[b]?
 fr:Fr w w' (fun b=>X b∨B≤b)
 more:∀ b,S' b→S b∨B≤b∨X b
theorem Le.trans (h:Le m hd m' hd') (k:Le m' hd' m'' hd''):Le m hd m'' hd'':=⟨fun i o ho=>by
 obtain⟨o1,h1,h2,h3⟩:=h.le i o ho
 obtain⟨o2,k1,k2,k3⟩:=k.le i o1 h1
 refine⟨o2,k1,by omega,fun e=>?_⟩
 obtain⟨e1,e2⟩:=h3 (by omega)
 obtain⟨e3,e4⟩:=k3 (by omega)
 exact⟨e3.trans e1,e4.trans e2⟩⟩
theorem Out.refl (h:Mem m hd w S X B):Out X B m hd w S m hd w S:=⟨h,Le.refl _ _,fun b hb _=>⟨hb,rfl⟩,Fr.refl _ _,fun b hb=>.inl hb⟩
theorem Out.trans (h:Out X B m hd w S m' hd' w' S') (k:Out X B m' hd' w' S' m'' hd'' w'' S''):Out X B m hd w S m'' hd'' w'' S'' :=
 ⟨k.mem,h.le.trans k.le,fun b hb hlt=>by
  obtain⟨h1,h2⟩:=h.keep b hb hlt
  obtain⟨k1,k2⟩:=k.keep b h1 (Nat.lt_of_lt_of_le hlt h.fr.size)
  exact⟨k1,k2.trans h2⟩,h.fr.trans k.fr (fun i _ hi=>hi),fun b hb=>(k.more b hb).elim (h.more b) .inr⟩
theorem Out.vr {x:V} {u:Value} (h:Out X B m hd w S m' hd' w' S') (hx:VR m hd w S x u):VR m' hd' w' S' x u:=VR.keep h.le h.keep x u hx
theorem Out.vrs {x:List V} {u:List Value} (h:Out X B m hd w S m' hd' w' S') (hx:VRs m hd w S x u):VRs m' hd' w' S' x u:=VRs.keep h.le h.keep x u hx
theorem Mem.blk (h:Mem m hd w S X B) {i:Nat} {o:O} (hi:m i=some o) (hl:o.live=true) {b:Nat} (hb:blk (hd i)=some b):b<w.heap.size∧¬ S b∧(X b∨B≤b):=by
 have ho:=h.obj i o hi
 cases o with
 |box v cs =>
  simp only[O.is] at ho
  obtain⟨b',vs,e,h1,h2,h3,_⟩:=ho
  rw[e] at hb
  simp only[Sim.blk,Option.some.injEq] at hb
  subst hb
  exact⟨h2,h3,h1.symm⟩
 |arr v k mu l =>
  simp only[O.live] at hl
  subst hl
  simp only[O.is,if_true] at ho
  obtain⟨xs,_,⟨a,e,_⟩|⟨g,off,cap,e,h0,h1,h2,h3,_⟩⟩:=ho
  ·rw[e] at hb;cases a <;> simp [Sim.blk] at hb
  ·rw[e] at hb
   cases cap with
   |zero=>omega
   |succ c=>simp only[Sim.blk,Option.some.injEq] at hb;subst hb;exact⟨h2,h3,h1.symm⟩
 |vec v kk cs =>
  simp only[O.is] at ho
  obtain⟨vs,_,_,h1⟩:=ho
  exact⟨(h1.lt hb).1,(h1.lt hb).2.1,(h1.lt hb).2.2.symm⟩
 |mp v ks =>
  simp only[O.is] at ho
  obtain⟨b',es,c,e,h1,h2,h3,_⟩:=ho
  rw[e] at hb
  simp only[Sim.blk,Option.some.injEq] at hb
  subst hb
  exact⟨h2,h3,h1.symm⟩
theorem out_upd (h:Mem m hd w S X B) (i:Nat) (o:O) (hv:Value) (hs:w.heap.size≤w'.heap.size) (hos:w'.os=w.os) (htp:w'.tape=w.tape) (hop:w'.output=w.output)
  (hz:∀ b,b<w.heap.size→(∀ oo,m i=some oo→oo.live=true→Sim.blk (hd i) ≠ some b)→w'.heap[b]?=w.heap[b]?)
  (hver:∀ oo,m i=some oo→oo.ver≤o.ver∧(o.ver=oo.ver→hv=hd i∧o.kind=oo.kind))
  (hblk:∀ b,Sim.blk hv=some b→o.live=true→w.heap.size≤b∨∃ oo,m i=some oo∧oo.live=true∧Sim.blk (hd i)=some b)
  (ho:Le m hd (up m i (some o)) (up hd i hv)→(∀ b,S b→b<w.heap.size→S b∧w'.heap[b]?=w.heap[b]?)→o.is (up m i (some o)) (up hd i hv) w' S X B hv) :
  Out X B m hd w S (up m i (some o)) (up hd i hv) w' S:=by
 have hle:Le m hd (up m i (some o)) (up hd i hv):=⟨fun j oj hj=>by
  by_cases e:j=i
  ·subst e
   exact⟨o,up_same _ _ _,(hver oj hj).1,fun e=>by rw[up_same];exact (hver oj hj).2 e⟩
  ·exact⟨oj,by rw[up_ne _ _ e];exact hj,Nat.le_refl _,fun _=>⟨by rw[up_ne _ _ e],rfl⟩⟩⟩
 have hkeep:∀ b,S b→b<w.heap.size→S b∧w'.heap[b]?=w.heap[b]?:=fun b hb hlt=>⟨hb,hz b hlt fun oo h1 h2 h3=>(h.blk h1 h2 h3).2.1 hb⟩
 refine⟨?_,hle,hkeep,⟨hos,htp,hop,hs,fun b hb hX=>hz b hb fun oo h1 h2 h3=>hX (h.blk h1 h2 h3).2.2⟩,fun b hb=>.inl hb⟩
 refine Mem.next (Z:=fun b=>∃ oo,m i=some oo∧oo.live=true∧Sim.blk (hd i)=some b) h hs (fun b hb hn=>hz b hb fun oo h1 h2 h3=>hn ⟨oo,h1,h2,h3⟩) (fun b hb ⟨oo,h1,h2,h3⟩=>(h.blk h1 h2 h3).2.1 hb) (fun b hb=>hb) (fun b hb=>Nat.lt_of_lt_of_le (h.lt b hb) hs) hle (fun j oj hj=>?_) (fun j k oj ok b hjk hj hk lj lk bj bk=>?_)
 ·by_cases e:j=i
  ·subst e
   rw[up_same] at hj ⊢
   cases hj
   exact .inr (ho hle hkeep)
  ·rw[up_ne _ _ e] at hj
   refine .inl ⟨hj,up_ne _ _ e,fun b hl hb=>⟨?_,(h.blk hj hl hb).2.1⟩⟩
   rintro⟨oo,h1,h2,h3⟩
   exact h.sep j i oj oo b e hj h1 hl h2 hb h3
 ·by_cases e:j=i
  ·subst e
   rw[up_same] at hj bj
   rw[up_ne _ _ (Ne.symm hjk)] at hk bk
   cases hj
   rcases hblk b bj lj with h1|⟨oo,h1,h2,h3⟩
   ·have:=(h.blk hk lk bk).1;omega
   ·exact h.sep j k oo ok b hjk h1 hk h2 lk h3 bk
  ·rw[up_ne _ _ e] at hj bj
   by_cases e':k=i
   ·subst e'
    rw[up_same] at hk bk
    cases hk
    rcases hblk b bk lk with h1|⟨oo,h1,h2,h3⟩
    ·have:=(h.blk hj lj bj).1;omega
    ·exact h.sep j k oj oo b hjk hj h1 lj h2 bj h3
   ·rw[up_ne _ _ e'] at hk bk
    exact h.sep j k oj ok b hjk hj hk lj lk bj bk
theorem Arr.sl {T:Nat→Prop} {k:Nat} {v:Value} {l:List (List D)} (h:Arr w B X T k v l) (hS:∀ b,T b→S b) (hb:∀ b,Sim.blk v=some b→S b):(D.sl k l).is w S v:=by
 obtain⟨xs,hx,⟨a,e,h0⟩|⟨g,off,cap,e,h0,h1,h2,h3,h4,h5,h6,h7⟩⟩:=h
 ·subst h0
  simp only[D.is]
  exact⟨a,0,xs,by simpa using e,by simp,Nat.zero_le _,Rows.keep (fun b hb _=>⟨hS b hb,rfl⟩) _ _ _ hx,fun h=>absurd h (by simp)⟩
 ·simp only[D.is]
  refine⟨_,cap,xs,e,h4,h5,Rows.keep (fun b hb _=>⟨hS b hb,rfl⟩) _ _ _ hx,fun h=>⟨g,off,rfl,⟨hb g ?_,h2⟩,h7⟩⟩
  rw[e]
  cases cap with
  |zero=>omega
  |succ c=>rfl
theorem out_frz (h:Mem m hd w S X B) {i v k:Nat} {mu:Bool} {l:List (List D)} (hi:m i=some (.arr v k mu l)) :
  ∃ S',Out X B m hd w S (up m i (some (.arr v k false l))) hd w S':=by
 cases mu with
 |false =>
  refine⟨S,?_⟩
  have:up m i (some (.arr v k false l))=m:=by
   funext j
   by_cases e:j=i
   ·subst e;rw[up_same,hi]
   ·rw[up_ne _ _ e]
  rw[this]
  exact Out.refl h
 |true =>
  let S':Nat→Prop:=fun b=>S b∨Sim.blk (hd i)=some b
  have hle:Le m hd (up m i (some (.arr v k false l))) hd:=⟨fun j oj hj=>by
   by_cases e:j=i
   ·subst e
    rw[hi] at hj
    cases hj
    exact⟨_,up_same _ _ _,Nat.le_refl _,fun _=>⟨rfl,rfl⟩⟩
   ·exact⟨oj,by rw[up_ne _ _ e];exact hj,Nat.le_refl _,fun _=>⟨rfl,rfl⟩⟩⟩
  have hb:=fun b (hb:Sim.blk (hd i)=some b)=>h.blk hi rfl hb
  refine⟨S',?_,hle,fun b hb _=>⟨.inl hb,rfl⟩,Fr.refl _ _,fun b hb'=>hb'.elim .inl fun e=>?_⟩
  ·refine Mem.next (Z:=fun _=>False) h (Nat.le_refl _) (fun _ _ _=>rfl) (fun _ _ h=>h) (fun b hb=>.inl hb) (fun b hb'=>hb'.elim (h.lt b) fun e=>(hb b e).1) hle (fun j oj hj=>?_) (fun j k' oj ok b hjk hj hk lj lk bj bk=>?_)
   ·by_cases e:j=i
    ·subst e
     rw[up_same] at hj
     cases hj
     have ho:=h.obj j _ hi
     simp only[O.is,if_true] at ho
     refine .inr ?_
     simp only[O.is,Bool.false_eq_true,if_false]
     exact Arr.sl ho (fun b hb=>.inl hb) (fun b hb=>.inr hb)
    ·rw[up_ne _ _ e] at hj
     refine .inl ⟨hj,rfl,fun b hl hb'=>⟨fun h=>h,?_⟩⟩
     rintro (h1|h1)
     ·exact (h.blk hj hl hb').2.1 h1
     ·exact h.sep j i oj _ b e hj hi hl rfl hb' h1
   ·by_cases e:j=i
    ·subst e;rw[up_same] at hj;cases hj;cases lj
    ·by_cases e':k'=i
     ·subst e';rw[up_same] at hk;cases hk;cases lk
     ·rw[up_ne _ _ e] at hj
      rw[up_ne _ _ e'] at hk
      exact h.sep j k' oj ok b hjk hj hk lj lk bj bk
  ·refine .inr ?_
   have ho:=h.obj i _ hi
   simp only[O.is,if_true] at ho
   obtain⟨xs,_,⟨a,e',_⟩|⟨g,off,cap,e',h0,h1,_⟩⟩:=ho
   ·rw[e'] at e;cases a <;> simp [Sim.blk] at e
   ·rw[e'] at e
    cases cap with
    |zero=>omega
    |succ c=>simp only[Sim.blk,Option.some.injEq] at e;subst e;exact h1
theorem out_frz_list:∀ (us:U) {m:M} {S:Nat→Prop},Mem m hd w S X B→(∀ x ∈ us,∃ v k mu l,m x.1=some (.arr v k mu l)∧x.2=.arr v k false l)→∃ S',Out X B m hd w S (ups m us) hd w S'
 |[],m,S,h,_=>⟨S,Out.refl h⟩
 |(i,o) :: us,m,S,h,hu=>by
  obtain⟨v,k,mu,l,h1,h2⟩:=hu (i,o) (by simp)
  simp only at h1 h2
  subst h2
  obtain⟨S1,o1⟩:=out_frz h h1
  obtain⟨S2,o2⟩:=out_frz_list us o1.mem fun x hx=>by
   obtain⟨v',k',mu',l',h3,h4⟩:=hu x (by simp [hx])
   by_cases e:x.1=i
   ·rw[e] at h3 ⊢
    rw[h1] at h3
    cases h3
    exact⟨v,k,false,l,up_same _ _ _,h4⟩
   ·exact⟨v',k',mu',l',by rw[up_ne _ _ e];exact h3,h4⟩
  exact⟨S2,o1.trans o2⟩
theorem frz_ok (m:M):∀ (l:List V),∀ x ∈ frz m l,∃ v k mu l',m x.1=some (.arr v k mu l')∧x.2=.arr v k false l'
 |[]=>by simp [frz]
 |y :: l=>by
  intro x hx
  unfold frz at hx
  split at hx
  ·cases hx
  ·rename_i i v l0 e
   cases e
   split at hx
   ·rename_i v' k mu l' hm
    rcases List.mem_cons.1 hx with rfl|hx
    ·exact⟨v',k,mu,l',hm,rfl⟩
    ·exact frz_ok m l x hx
   ·exact frz_ok m l x hx
  ·rename_i e
   cases e
   exact frz_ok m l x hx
theorem out_frzs (h:Mem m hd w S X B) (l:List V):∃ S',Out X B m hd w S (ups m (frz m l)) hd w S':=out_frz_list _ h (frz_ok m l)
theorem frz_ver_list:∀ (us:U) {m:M},(∀ x ∈ us,∃ v k mu l,m x.1=some (.arr v k mu l)∧x.2=.arr v k false l)→∀ i,(ups m us i).map O.ver=(m i).map O.ver
 |[],m,_,i=>rfl
 |(j,o) :: us,m,hu,i=>by
  obtain⟨v,k,mu,l,h1,h2⟩:=hu (j,o) (by simp)
  simp only at h1 h2
  subst h2
  rw[ups,frz_ver_list us (fun x hx=>by
   obtain⟨v',k',mu',l',h3,h4⟩:=hu x (by simp [hx])
   by_cases e:x.1=j
   ·rw[e] at h3 ⊢
    rw[h1] at h3
    cases h3
    exact⟨v,k,false,l,up_same _ _ _,h4⟩
   ·exact⟨v',k',mu',l',by rw[up_ne _ _ e];exact h3,h4⟩) i]
  by_cases e:i=j
  ·subst e;rw[up_same,h1];rfl
  ·rw[up_ne _ _ e]
theorem frz_ver (m:M) (l:List V) (i:Nat):(ups m (frz m l) i).map O.ver=(m i).map O.ver:=frz_ver_list _ (frz_ok m l) i
theorem nv_congr {m m':M} {d:Nat} (h:(m' d).map O.ver=(m d).map O.ver):nv m' d=nv m d:=by
 unfold nv
 cases h1:m d <;> cases h2:m' d <;> simp_all
/-! ### Cells -/
theorem VR.good {x:V} {u:Value} (h:VR m hd w S x u) (hg:x.good=true):VRs m hd w S x.cells u.cells.toList∧∀ y ∈ u.cells.toList,y.oneCell'=true:=by
 have one:u.oneCell'=true→VR m hd w S x u→x.cells=[x]→VRs m hd w S x.cells u.cells.toList∧∀ y ∈ u.cells.toList,y.oneCell'=true:=by
  intro h1 h2 h3
  rw[h3]
  cases u <;> simp [Value.cells,VRs,Value.oneCell'] at * <;> exact h2
 cases x with
 |un=>cases hg
 |tu l=>cases hg
 |ag l =>
  simp only[VR] at h
  obtain⟨vs,rfl,h1,h2⟩:=h
  exact⟨by simpa [Value.cells,V.cells] using h1,by simpa [Value.cells] using h2⟩
 |d x=>exact one (by simp only[VR] at h;exact D.one h) h rfl
 |nl k=>exact one (by simp only[VR] at h;subst h;rfl) h rfl
 |z0=>exact one (by simp only[VR] at h;obtain⟨a,rfl⟩:=h;rfl) h rfl
 |ub=>exact one (by simp only[VR] at h;obtain⟨a,rfl⟩:=h;rfl) h rfl
 |og i v=>exact one (by simp only[VR] at h;exact h.1) h rfl
 |bp i v o=>exact one (by simp only[VR] at h;exact h.1) h rfl
 |ep i v e o=>exact one (by simp only[VR] at h;exact h.1) h rfl
 |fp cs o=>exact one (by simp only[VR] at h;obtain⟨g,off,xs,rfl,_⟩:=h;rfl) h rfl
 |cl f l=>exact one (by simp only[VR] at h;obtain⟨vs,rfl,_⟩:=h;unfold mkCl;split <;> rfl) h rfl
 |vg i v=>exact one (by simp only[VR] at h;exact h.1) h rfl
 |vp i v e=>exact one (by simp only[VR] at h;exact h.1) h rfl
 |ot i v e=>exact one (by simp only[VR] at h;exact h.1) h rfl
 |mh i v=>exact one (by simp only[VR] at h;exact h.1) h rfl
 |fx k l=>exact one (by simp only[VR] at h;exact D.one h.1) h rfl
theorem VRs.mk {g:Bool} {l:List V} {xs:List Value} {n:Nat} (h:VRs m hd w S l xs) (hn:l.length=n) (h1:∀ y ∈ xs,y.oneCell'=true) (hg:g=false→n=1) :
  VR m hd w S (V.mk g l) (if g then .agg xs.toArray else xs.headD undef):=by
 cases g with
 |true=>simp only[V.mk,if_true,VR];exact⟨xs,rfl,h,h1⟩
 |false =>
  have:=hg rfl
  match l,hn with
  |[x],_ =>
   simp only[VRs] at h
   obtain⟨u,r,rfl,h2,rfl⟩:=h
   simpa [V.mk] using h2
  |[],hn=>simp at hn;omega
  |_ :: _ :: _,hn=>simp at hn;omega
end
/-! ### What an operation comes to -/
def StepOK (P:Program) (X:Nat→Prop) (B:Nat) (o:Oper) (a:Act) (m:M) (hd:H) (w:World) (S:Nat→Prop) (v:V) (us:U):Prop :=
 ∃ nx w' hd' S',(execOp a.eval o).run P w=.ok nx w'∧Out X B m hd w S (ups m us) hd' w' S'∧((∃ u,nx=.value u∧VR (ups m us) hd' w' S' v u)∨(nx=.skip∧v=.un))
section
variable {P:Program} {X:Nat→Prop} {B:Nat} {o:Oper} {a:Act} {m:M} {hd:H} {w:World} {S:Nat→Prop} {v:V} {us:U}
theorem StepOK.pure {u:Value} (h:Mem m hd w S X B) (hr:(execOp a.eval o).run P w=.ok (.value u) w) (hv:VR m hd w S v u):StepOK P X B o a m hd w S v [] :=
 ⟨_,w,hd,S,hr,Out.refl h,.inl ⟨u,rfl,hv⟩⟩
theorem StepOK.newBox (h:Mem m hd w S X B) {d:Nat} {cs:List V} {xs:List Value} {t:TypeId} (hr:(execOp a.eval o).run P w=.ok (.value (.pointer (some ⟨w.heap.size,0,none⟩))) (w.alloc (.cells xs.toArray t)))
  (hc:VRs m hd w S cs xs) (h1:∀ y ∈ xs,y.oneCell'=true):StepOK P X B o a m hd w S (.bp d (nv m d) 0) [(d,.box (nv m d) cs)]:=by
 have ho:=out_upd (w':=w.alloc (.cells xs.toArray t)) h d (.box (nv m d) cs) (.pointer (some ⟨w.heap.size,0,none⟩)) (by simp) rfl rfl rfl (fun b hb _=>Below.heap_alloc w _ b hb)
  (fun oo hoo=>⟨by simp [nv,hoo,O.ver],fun e=>by simp [nv,hoo,O.ver] at e⟩) (fun b hb _=>.inl (by simp [Sim.blk] at hb;omega))
  (fun hle hk=>by
   simp only[O.is]
   refine⟨w.heap.size,xs,rfl,.inl h.base,by simp,fun hb=>by have:=h.lt _ hb;omega,VRs.keep hle hk _ _ hc,h1,fun j hj=>?_,range_new w xs t⟩
   rw[Nat.zero_add,World.cell?_alloc_new,World.frozen?_alloc_new]
   exact⟨by simp [hc.len,hj],rfl⟩)
 refine⟨_,_,_,S,hr,ho,.inl ⟨_,rfl,?_⟩⟩
 simp only[VR,ups]
 exact⟨rfl,_,up_same _ _ _,Nat.le_refl _,fun cs' _=>⟨w.heap.size,up_same _ _ _,rfl⟩⟩
theorem StepOK.newArr {m1:M} {us1:U} {S1:Nat→Prop} (h1:Out X B m hd w S m1 hd w S1) (hus:ups m us1=m1) {d k n:Nat} {l:List (List D)} {xs:List Value} {t:TypeId} (hver:(m1 d).map O.ver=(m d).map O.ver)
  (hr:(execOp a.eval o).run P w=.ok (.value (.slice (some ⟨w.heap.size,0,none⟩) n n)) (w.alloc (.cells xs.toArray t)))
  (hn:n=l.length) (hm:n≤maxLen) (hc:Rows w S1 k l xs) (hx:xs.length=n*k):StepOK P X B o a m hd w S (.og d (nv m d)) (us1++[(d,.arr (nv m d) k true l)]):=by
 have h:=h1.mem
 have hnv:nv m d=nv m1 d:=(nv_congr hver).symm
 have ho:=out_upd (w':=w.alloc (.cells xs.toArray t)) h d (.arr (nv m d) k true l) (.slice (some ⟨w.heap.size,0,none⟩) n n) (by simp) rfl rfl rfl (fun b hb _=>Below.heap_alloc w _ b hb)
  (fun oo hoo=>⟨by rw[hnv];simp [nv,hoo,O.ver],fun e=>by rw[hnv] at e;simp [nv,hoo,O.ver] at e⟩) (fun b hb _=>.inl (by cases n <;> simp [Sim.blk] at hb;omega))
  (fun hle hk=>by
   simp only[O.is,if_true]
   refine⟨xs,Rows.keep hk _ _ _ hc,?_⟩
   rcases Nat.eq_zero_or_pos n with h0|h0
   ·exact .inl ⟨_,by rw[h0],List.eq_nil_of_length_eq_zero (by omega)⟩
   ·refine .inr ⟨w.heap.size,0,n,by rw[hn],h0,.inl h.base,by simp,fun hb=>by have:=h.lt _ hb;omega,by omega,hm,fun j hj=>?_,range_new w xs t⟩
    rw[Nat.zero_add,World.cell?_alloc_new,World.frozen?_alloc_new]
    exact⟨by simp [hx,hj],rfl⟩)
 refine⟨_,_,up hd d (.slice (some ⟨w.heap.size,0,none⟩) n n),S1,hr,?_,.inl ⟨_,rfl,?_⟩⟩
 ·rw[ups_append,hus];exact h1.trans ho
 ·rw[ups_append,hus]
  simp only[VR,ups]
  exact⟨rfl,_,up_same _ _ _,Nat.le_refl _,fun k' mu' l' e=>by cases e;rw[up_same]⟩
theorem StepOK.newArrC {m1:M} {us1:U} {S1:Nat→Prop} (h1:Out X B m hd w S m1 hd w S1) (hus:ups m us1=m1) {d k n c:Nat} {l:List (List D)} {xs:List Value} {t:TypeId} (hver:(m1 d).map O.ver=(m d).map O.ver)
  (hr:(execOp a.eval o).run P w=.ok (.value (.slice (some ⟨w.heap.size,0,none⟩) n c)) (w.alloc (.cells xs.toArray t)))
  (hn:n=l.length) (hnc:n≤c) (hm:c≤maxLen) (hc:Rows w S1 k l (xs.take (n*k))) (hx:xs.length=c*k):StepOK P X B o a m hd w S (.og d (nv m d)) (us1++[(d,.arr (nv m d) k true l)]):=by
 have h:=h1.mem
 have hnv:nv m d=nv m1 d:=(nv_congr hver).symm
 have ho:=out_upd (w':=w.alloc (.cells xs.toArray t)) h d (.arr (nv m d) k true l) (.slice (some ⟨w.heap.size,0,none⟩) n c) (by simp) rfl rfl rfl (fun b hb _=>Below.heap_alloc w _ b hb)
  (fun oo hoo=>⟨by rw[hnv];simp [nv,hoo,O.ver],fun e=>by rw[hnv] at e;simp [nv,hoo,O.ver] at e⟩) (fun b hb _=>.inl (by cases c <;> simp [Sim.blk] at hb;omega))
  (fun hle hk=>by
   simp only[O.is,if_true]
   refine⟨xs.take (n*k),Rows.keep hk _ _ _ hc,?_⟩
   rcases Nat.eq_zero_or_pos c with h0|h0
   ·have hn0:n=0:=by omega
    exact .inl ⟨_,by rw[h0,hn0],List.eq_nil_of_length_eq_zero (by omega)⟩
   ·refine .inr ⟨w.heap.size,0,c,by rw[hn],h0,.inl h.base,by simp,fun hb=>by have:=h.lt _ hb;omega,by omega,hm,fun j hj=>?_,fun j u hu=>range_new w xs t j u ?_⟩
    ·rw[Nat.zero_add,World.cell?_alloc_new,World.frozen?_alloc_new]
     exact⟨by simp [hx,hj],rfl⟩
    ·rw[List.getElem?_take] at hu
     split at hu
     ·exact hu
     ·cases hu)
 refine⟨_,_,up hd d (.slice (some ⟨w.heap.size,0,none⟩) n c),S1,hr,?_,.inl ⟨_,rfl,?_⟩⟩
 ·rw[ups_append,hus];exact h1.trans ho
 ·rw[ups_append,hus]
  simp only[VR,ups]
  exact⟨rfl,_,up_same _ _ _,Nat.le_refl _,fun k' mu' l' e=>by cases e;rw[up_same]⟩
theorem StepOK.wrBox (h:Mem m hd w S X B) {i ver b:Nat} {cs:List V} {vs:List Value} {off:Nat} {xs:List V} (hi:m i=some (.box ver cs)) (hb:hd i=.pointer (some ⟨b,0,none⟩))
  (hr:w.there b off vs.length→(execOp a.eval o).run P w=.ok .skip (w.setCells b off vs)) (hx:VRs m hd w S xs vs) (h1:∀ y ∈ vs,y.oneCell'=true) (hle:off+xs.length≤cs.length) :
  StepOK P X B o a m hd w S .un [(i,.box ver (splice cs off xs))]:=by
 have ho:=h.obj i _ hi
 simp only[O.is] at ho
 obtain⟨b',us',e,hB,hlt,hS,hv,hone,hth,hra⟩:=ho
 rw[hb] at e
 injection e with e;injection e with e;injection e with e;subst e
 have hxl:=hx.len
 have hcl:=hv.len
 have hth':w.there b off vs.length:=fun j hj=>by have:=hth (off+j) (by omega);simpa using this
 have ho:=out_upd (w':=w.setCells b off vs) h i (.box ver (splice cs off xs)) (hd i) (by rw[(size_setCells _ _ _ _).1];exact Nat.le_refl _) (World.os_setCells _ _ _ _) (size_setCells _ _ _ _).2 (World.output_setCells _ _ _ _)
  (fun k hk hne=>World.heap_setCells_other _ _ _ _ hk (fun e=>hne _ hi rfl (by rw[hb,e];rfl)))
  (fun oo hoo=>by rw[hi] at hoo;cases hoo;exact⟨Nat.le_refl _,fun _=>⟨rfl,rfl⟩⟩) (fun k hk _=>.inr ⟨_,hi,rfl,hk⟩)
  (fun hl hk=>by
   simp only[O.is]
   refine⟨b,splice us' off vs,hb,hB,by rw[(size_setCells _ _ _ _).1];exact hlt,hS,?_,?_,?_,?_⟩
   ·unfold splice
    rw[hxl]
    exact (VRs.keep hl hk _ _ (hv.take _)).append ((VRs.keep hl hk _ _ hx).append (VRs.keep hl hk _ _ (hv.drop _)))
   ·intro y hy
    unfold splice at hy
    rcases List.mem_append.1 hy with hy|hy
    ·exact hone y (List.mem_of_mem_take hy)
    ·rcases List.mem_append.1 hy with hy|hy
     ·exact h1 y hy
     ·exact hone y (List.mem_of_mem_drop hy)
   ·have:(splice cs off xs).length=cs.length:=by unfold splice;simp;omega
    rw[this]
    exact World.there_setCells hth _ _ _
   ·intro j v hj
    unfold splice at hj
    have htl:(us'.take off).length=off:=by rw[List.length_take];omega
    rcases Nat.lt_or_ge j off with h1|h1
    ·rw[List.getElem?_append_left (by omega),List.getElem?_take_of_lt h1] at hj
     rw[World.cell?_setCells_out b vs off w ⟨b,0+j,none⟩ (fun _ _=>.inl (by show 0+j<_;omega))]
     exact hra j v hj
    ·rw[List.getElem?_append_right (by omega),htl] at hj
     rcases Nat.lt_or_ge (j-off) vs.length with h2|h2
     ·rw[List.getElem?_append_left h2] at hj
      have:=World.rangeAt_setCells_same w b off vs hth' (j-off) v hj
      rw[show off+(j-off)=0+j by omega] at this
      exact this
     ·rw[List.getElem?_append_right h2,List.getElem?_drop] at hj
      rw[World.cell?_setCells_out b vs off w ⟨b,0+j,none⟩ (fun _ _=>.inr (by show _≤0+j;omega))]
      refine hra j v ?_
      rw[← hj];congr 1;omega)
 have e2:up hd i (hd i)=hd:=by funext j;by_cases e:j=i <;> simp [up,e]
 rw[e2] at ho
 exact⟨_,_,_,S,hr hth',ho,.inr ⟨rfl,rfl⟩⟩
end
end Go.Proofs.YticdbambknflgaaGreat.Sim
end
section
namespace Go.Proofs.YticdbambknflgaaGreat.Sim
open Go Go.RowKit Go.Deep
set_option linter.unusedVariables false
section
variable {w w':World} {S T:Nat→Prop}
theorem splice_left {α:Type} {a r c:List α} {o:Nat} (h:o+c.length≤a.length):splice (a++r) o c=splice a o c++r:=by
 unfold splice
 rw[List.take_append_of_le_length (by omega),List.drop_append_of_le_length h]
 simp
theorem splice_right {α:Type} {a r c:List α} {o:Nat}:splice (a++r) (a.length+o) c=a++splice r o c:=by
 unfold splice
 rw[List.take_append,List.drop_append]
 simp only[Nat.add_sub_cancel_left,List.append_assoc]
 rw[List.take_of_length_le (by omega),List.drop_of_length_le (by omega),List.nil_append,show a.length+o+c.length-a.length=o+c.length by omega]
theorem length_splice {α:Type} {l c:List α} {o:Nat} (h:o+c.length≤l.length):(splice l o c).length=l.length:=by
 unfold splice;simp;omega
theorem range_splice {g off o:Nat} {xs vs:List Value} (h:w.rangeAt g off xs) (ht:w.there g (off+o) vs.length) (hle:o+vs.length≤xs.length):(w.setCells g (off+o) vs).rangeAt g off (splice xs o vs):=by
 intro j v hj
 unfold splice at hj
 have htl:(xs.take o).length=o:=by rw[List.length_take];omega
 rcases Nat.lt_or_ge j o with h1|h1
 ·rw[List.getElem?_append_left (by omega),List.getElem?_take_of_lt h1] at hj
  rw[World.cell?_setCells_out g vs (off+o) w ⟨g,off+j,none⟩ (fun _ _=>.inl (by show off+j<_;omega))]
  exact h j v hj
 ·rw[List.getElem?_append_right (by omega),htl] at hj
  rcases Nat.lt_or_ge (j-o) vs.length with h2|h2
  ·rw[List.getElem?_append_left h2] at hj
   have:=World.rangeAt_setCells_same w g (off+o) vs ht (j-o) v hj
   rw[show off+o+(j-o)=off+j by omega] at this
   exact this
  ·rw[List.getElem?_append_right h2,List.getElem?_drop] at hj
   rw[World.cell?_setCells_out g vs (off+o) w ⟨g,off+j,none⟩ (fun _ _=>.inr (by show _≤off+j;omega))]
   refine h j v ?_
   rw[← hj];congr 1;omega
theorem Cells.append {l l':List D} {xs xs':List Value} (h:Cells w S l xs) (h':Cells w S l' xs'):Cells w S (l++l') (xs++xs'):=by
 induction l generalizing xs with
 |nil=>simp only[Cells] at h;subst h;exact h'
 |cons d l ih=>simp only[Cells] at h;obtain⟨x,r,rfl,h1,h2⟩:=h;exact⟨x,r++xs',rfl,h1,ih h2⟩
theorem Cells.drop {l:List D} {xs:List Value} (h:Cells w S l xs):∀ n,Cells w S (l.drop n) (xs.drop n):=by
 induction l generalizing xs with
 |nil=>simp only[Cells] at h;subst h;intro n;simp [Cells]
 |cons d l ih =>
  have h0:=h
  simp only[Cells] at h;obtain⟨x,r,rfl,h1,h2⟩:=h
  intro n
  cases n with
  |zero=>exact h0
  |succ n=>exact ih h2 n
theorem Cells.take {l:List D} {xs:List Value} (h:Cells w S l xs):∀ n,Cells w S (l.take n) (xs.take n):=by
 induction l generalizing xs with
 |nil=>simp only[Cells] at h;subst h;intro n;simp [Cells]
 |cons d l ih =>
  simp only[Cells] at h;obtain⟨x,r,rfl,h1,h2⟩:=h
  intro n
  cases n with
  |zero=>simp [Cells]
  |succ n=>exact⟨x,_,by simp,h1,ih h2 n⟩
theorem Rows.append {k:Nat} {l l':List (List D)} {xs xs':List Value} (h:Rows w S k l xs) (h':Rows w S k l' xs'):Rows w S k (l++l') (xs++xs'):=by
 induction l generalizing xs with
 |nil=>simp only[Rows] at h;subst h;exact h'
 |cons c l ih=>simp only[Rows] at h;obtain⟨a,r,rfl,h0,h1,h2⟩:=h;exact⟨a,r++xs',by rw[List.append_assoc],h0,h1,ih h2⟩
theorem Rows.len {k:Nat} {l:List (List D)} {xs:List Value} (h:Rows w S k l xs):xs.length=l.length*k:=by
 induction l generalizing xs with
 |nil=>simp only[Rows] at h;simp [h]
 |cons c l ih=>simp only[Rows] at h;obtain⟨a,r,rfl,h0,h1,h2⟩:=h;rw[List.length_append,h1.len,ih h2,h0,List.length_cons,Nat.add_mul];omega
theorem Rows.one {k:Nat} {l:List (List D)} {xs:List Value} (h:Rows w S k l xs):∀ u ∈ xs,u.oneCell'=true:=by
 induction l generalizing xs with
 |nil=>simp only[Rows] at h;simp [h]
 |cons c l ih =>
  simp only[Rows] at h
  obtain⟨a,r,rfl,h0,h1,h2⟩:=h
  intro u hu
  rcases List.mem_append.1 hu with hu|hu
  ·exact h1.one u hu
  ·exact ih h2 u hu
theorem Rows.put {k o:Nat} {ds:List D} {vs:List Value} (hd:Cells w S ds vs) (ho:o+ds.length≤k):∀ {l:List (List D)} {xs:List Value} {e:Nat},Rows w S k l xs→e<l.length→Rows w S k (l.set e (splice (l.getD e []) o ds)) (splice xs (e*k+o) vs)
 |[],_,_,_,he=>by simp at he
 |c :: l,xs,e,h,he=>by
  simp only[Rows] at h
  obtain⟨a,r,rfl,h0,h1,h2⟩:=h
  have hal:=h1.len
  have hvl:=hd.len
  cases e with
  |zero =>
   rw[Nat.zero_mul,Nat.zero_add,splice_left (by omega)]
   refine⟨splice a o vs,r,rfl,?_,?_,h2⟩
   ·simp only[List.getD_cons_zero];rw[length_splice (by omega)];exact h0
   ·simp only[List.getD_cons_zero]
    unfold splice
    rw[hvl]
    exact (h1.take _).append (hd.append (h1.drop _))
  |succ e =>
   rw[show (e+1)*k+o=a.length+(e*k+o) by rw[Nat.add_mul,hal,h0];omega,splice_right]
   exact⟨a,_,rfl,h0,h1,Rows.put hd ho h2 (by simpa using he)⟩
theorem Rows.get {k:Nat}:∀ {l:List (List D)} {xs:List Value} {e:Nat},Rows w S k l xs→e<l.length→(l.getD e []).length=k∧∃ cs,Cells w S (l.getD e []) cs∧∀ j u,cs[j]?=some u→xs[e*k+j]?=some u
 |[],_,_,_,he=>by simp at he
 |c :: l,xs,e,h,he=>by
  simp only[Rows] at h
  obtain⟨a,r,rfl,h0,h1,h2⟩:=h
  have hal:=h1.len
  cases e with
  |zero =>
   refine⟨by simpa using h0,a,by simpa using h1,fun j u hu=>?_⟩
   rw[Nat.zero_mul,Nat.zero_add,List.getElem?_append_left (List.getElem?_eq_some_iff.1 hu).1]
   exact hu
  |succ e =>
   obtain⟨h3,cs,h4,h5⟩:=Rows.get h2 (e:=e) (by simpa using he)
   refine⟨by simpa using h3,cs,by simpa using h4,fun j u hu=>?_⟩
   rw[show (e+1)*k+j=a.length+(e*k+j) by rw[Nat.add_mul,hal,h0];omega,List.getElem?_append_right (by omega),Nat.add_sub_cancel_left]
   exact h5 j u hu
theorem Rows.take {k:Nat}:∀ {l:List (List D)} {xs:List Value} (n:Nat),Rows w S k l xs→Rows w S k (l.take n) (xs.take (n*k))
 |[],xs,n,h=>by simp only[Rows] at h;subst h;simp [Rows]
 |c :: l,xs,0,h=>by simp [Rows]
 |c :: l,xs,n+1,h=>by
  simp only[Rows] at h
  obtain⟨a,r,rfl,h0,h1,h2⟩:=h
  have hal:=h1.len
  refine⟨a,r.take (n*k),?_,h0,h1,Rows.take n h2⟩
  rw[Nat.add_mul,Nat.one_mul,List.take_append,List.take_of_length_le (by omega),show n*k+k-a.length=n*k by omega]
theorem Rows.drop {k:Nat}:∀ {l:List (List D)} {xs:List Value} (n:Nat),Rows w S k l xs→Rows w S k (l.drop n) (xs.drop (n*k))
 |[],xs,n,h=>by simp only[Rows] at h;subst h;simp [Rows]
 |c :: l,xs,0,h=>by simpa using h
 |c :: l,xs,n+1,h=>by
  simp only[Rows] at h
  obtain⟨a,r,rfl,h0,h1,h2⟩:=h
  have hal:=h1.len
  have e0:a.drop (n*k+k)=[]:=List.drop_of_length_le (by omega)
  rw[List.drop_succ_cons,Nat.add_mul,Nat.one_mul,List.drop_append,e0,List.nil_append,show n*k+k-a.length=n*k by omega]
  exact Rows.drop n h2
theorem run_append_arr {P:Program} {X:Nat→Prop} {B k:Nat} {v:Value} {l ns:List (List D)} (t tx ty e:TypeId) (i:TypeInfo) (z:Value) (bytes:Nat) (ht:P.underlying t=some (.slice e)) (hi:P.info? e=some i) (hz:i.zero=some z) (hsize:i.size=k) (hby:i.bytes=bytes) (hzs:z.cells.size=k)
  (h:Arr w B X T k v l) (hBw:B≤w.heap.size) (hT:∀ b,T b→b<w.heap.size) (x:Value) (news:List Value) (hs:Src P k tx x ns.length news w) (hn:Rows w T k ns news) (h63:l.length+ns.length≤140737488355328) (hbytes:(l.length+ns.length)*bytes≤140737488355328) :
  ∃ v' w',(Builtin.append_ #[t,tx] ty #[v,x]).run P w=.ok v' w'∧Arr w' B X T k v' (l++ns)∧w.grownBy w' (blk v)∧(∀ b,blk v'=some b→blk v=some b∨b=w.heap.size):=by
 obtain⟨xs,hx,h⟩:=h
 have hmax:l.length+ns.length≤maxLen:=by unfold maxLen;omega
 have hlen:=hn.len
 have fin:∀ (row:Option Nat) (v':Value) (w':World),w.grownBy w' row→row=blk v→(∀ b,row=some b→¬ T b∧(B≤b∨X b))→Own w' 0 k v' (l.length+ns.length) (xs++news)→(v'.ownBlock=row∨v'.ownBlock=some w.heap.size∨∃ a,v'=.slice a 0 0)→(l.length+ns.length=0∨0<l.length+ns.length) →
   Arr w' B X T k v' (l++ns)∧w.grownBy w' (blk v)∧(∀ b,blk v'=some b→blk v=some b∨b=w.heap.size):=by
  intro row v' w' hg hrow hTr ho hb _
  have hkeep:∀ b,T b→b<w.heap.size→T b∧w'.heap[b]?=w.heap[b]?:=fun b hb hlt=>⟨hb,hg.block b hlt fun e=>(hTr b e.symm).1 hb⟩
  have hrows:Rows w' T k (l++ns) (xs++news):=(Rows.keep hkeep _ _ _ hx).append (Rows.keep hkeep _ _ _ hn)
  have hbk:∀ b,blk v'=some b→row=some b∨b=w.heap.size:=by
   intro b hb'
   rcases hb with e|e|⟨a,e⟩
   ·left
    rw[← e]
    cases v' with
    |slice a n c=>cases a <;> cases c <;> simp_all [blk,Value.ownBlock]
    |pointer a =>
     rcases ho.2 with ⟨e',_⟩|⟨_,_,_,e',_⟩ <;> cases e'
    |map a =>
     rcases ho.2 with ⟨e',_⟩|⟨_,_,_,e',_⟩ <;> cases e'
    |_=>simp [blk] at hb'
   ·right
    cases v' with
    |slice a n c=>cases a <;> cases c <;> simp_all [blk,Value.ownBlock]
    |pointer a =>
     rcases ho.2 with ⟨e',_⟩|⟨_,_,_,e',_⟩ <;> cases e'
    |map a =>
     rcases ho.2 with ⟨e',_⟩|⟨_,_,_,e',_⟩ <;> cases e'
    |_=>simp [blk] at hb'
   ·rw[e] at hb';cases a <;> simp [blk] at hb'
  refine⟨⟨_,hrows,?_⟩,hrow ▸ hg,fun b hb'=>by rw[← hrow];exact hbk b hb'⟩
  rcases ho.2 with ⟨rfl,h0⟩|⟨g,off,cap,rfl,hB,hlt,hnc,hc,hth,hr⟩
  ·exact .inl ⟨none,rfl,List.eq_nil_of_length_eq_zero (by rw[List.length_append];exact h0)⟩
  ·rcases Nat.eq_zero_or_pos cap with hc0|hc0
   ·exact .inl ⟨_,by rw[hc0,show l.length+ns.length=0 by omega],List.eq_nil_of_length_eq_zero (by rw[List.length_append];omega)⟩
   ·refine .inr ⟨g,off,cap,by rw[List.length_append],hc0,?_,hlt,fun hTg=>?_,by rw[List.length_append];exact hnc,hc,hth,hr⟩
    ·rcases hbk g (by cases cap with|zero=>omega|succ c=>rfl) with e|e
     ·exact (hTr g e).2
     ·exact .inl (by omega)
    ·rcases hbk g (by cases cap with|zero=>omega|succ c=>rfl) with e|e
     ·exact (hTr g e).1 hTg
     ·have:=hT g hTg;omega
 rcases h with ⟨a,rfl,rfl⟩|⟨g,off,cap,rfl,h0,hB,hlt,hTg,hn',hc,hth,hr⟩
 ·simp only[Rows] at hx
  subst hx
  rcases Nat.eq_zero_or_pos ns.length with hm0|hm0
  ·have hns:ns=[]:=List.eq_nil_of_length_eq_zero hm0
   subst hns
   have hnw:news=[]:=List.eq_nil_of_length_eq_zero (by simpa using hlen)
   subst hnw
   refine⟨_,w,run_append_nothing w t tx ty e i ht hi a 0 0 (Nat.le_refl _) x (by rw[hsize];exact hs),⟨[],by simp [Rows],.inl ⟨a,rfl,rfl⟩⟩,World.grownBy.refl w _,fun b hb=>by cases a <;> simp [blk] at hb⟩
  ·have hfit:=growslice_fits (old:=0) (need:=0+ns.length) (bytes:=i.bytes) (by omega) (by rw[hby];simpa using hbytes)
   have hold:(Builtin.firstCells i.size 0 (.slice a 0 0)).run P w.drew=.ok ([]:List Value).toArray w.drew:=by
    cases a with
    |none=>exact run_firstCells_none (P:=P) w.drew i.size 0 0 0
    |some a=>exact run_firstCells_some (P:=P) w.drew i.size 0 a 0 0 [] (by simp) (fun j u hu=>by simp at hu)
   have hrun:=run_append_grow_src (P:=P) w t tx ty e i z ht hi hz a 0 0 [] hold x ns.length news (by rw[hsize];exact hs) (by omega) (by omega) hfit
   have hge:=grownCap_ge w (0+ns.length) 0 e
   have hcm:=grownCap_le_maxLen w (0+ns.length) 0 e (by simpa using hmax)
   have hsz:(([]++news).toArray++Builtin.zeroCells z.cells (grownCap w (0+ns.length) 0 e-(0+ns.length))).size=grownCap w (0+ns.length) 0 e*k:=by
    rw[Array.size_append,List.size_toArray,List.nil_append,hlen,size_zeroCells,hzs,← Nat.add_mul]
    congr 1
    omega
   have hg:w.grownBy (w.drew.alloc (.cells (([]++news).toArray++Builtin.zeroCells z.cells (grownCap w (0+ns.length) 0 e-(0+ns.length))) e)) none:=⟨rfl,rfl,rfl,by simp,fun k hk _=>Below.heap_alloc w.drew _ k hk⟩
   refine⟨_,_,hrun,fin none _ _ hg (by cases a <;> rfl) (fun b e=>by cases e) ⟨by simpa using hlen,.inr ⟨w.heap.size,0,_,by simp,Nat.zero_le _,by simp,by simpa using hge,hcm,fun j hj=>?_,fun j u hu=>?_⟩⟩ (.inr (.inl rfl)) (.inr (by omega))⟩
   ·have e1:=World.cell?_alloc_new w.drew (([]++news).toArray++Builtin.zeroCells z.cells (grownCap w (0+ns.length) 0 e-(0+ns.length))) e j
    have e2:w.drew.heap.size=w.heap.size:=rfl
    rw[e2] at e1
    simp only[Nat.zero_add] at e1 hsz hj ⊢
    rw[e1,Array.getElem?_eq_getElem (by rw[hsz];exact hj)]
    exact⟨rfl,World.frozen?_alloc_new w.drew _ _ j⟩
   ·have e1:=World.cell?_alloc_new w.drew (([]++news).toArray++Builtin.zeroCells z.cells (grownCap w (0+ns.length) 0 e-(0+ns.length))) e j
    have e2:w.drew.heap.size=w.heap.size:=rfl
    rw[e2] at e1
    have hj:j<news.length:=by
     rcases Nat.lt_or_ge j news.length with h|h
     ·exact h
     ·rw[List.getElem?_eq_none (by simpa using h)] at hu;cases hu
    simp only[Nat.zero_add] at e1 ⊢
    rw[e1,Array.getElem?_append_left (by simpa using hj),List.getElem?_toArray]
    exact hu
 ·have hown:Own w 0 k (.slice (some ⟨g,off,none⟩) l.length cap) l.length xs:=⟨hx.len,.inr ⟨g,off,cap,rfl,Nat.zero_le _,hlt,hn',hc,hth,hr⟩⟩
  obtain⟨v',w',r1,r2,r3,r4⟩:=run_append_mine (P:=P) t tx ty e i z bytes ht hi hz hsize hby hzs hown (Nat.zero_le _) x ns.length news hs hmax hbytes
  have hbl:blk (.slice (some ⟨g,off,none⟩) l.length cap)=some g:=by cases cap with|zero=>omega|succ c=>rfl
  exact⟨v',w',r1,fin (some g) v' w' r3 hbl.symm (fun b e=>by cases e;exact⟨hTg,hB⟩) r2 (r4.elim .inl fun h=>.inr (.inl h)) (by omega)⟩
theorem run_append_full {P:Program} {X:Nat→Prop} {B k g off:Nat} {l ns:List (List D)} {xs:List Value} (t tx ty e:TypeId) (i:TypeInfo) (z:Value) (bytes:Nat) (ht:P.underlying t=some (.slice e)) (hi:P.info? e=some i) (hz:i.zero=some z) (hsize:i.size=k) (hby:i.bytes=bytes) (hzs:z.cells.size=k)
  (hx:Rows w T k l xs) (hra:w.rangeAt g off xs) (hBw:B≤w.heap.size) (hT:∀ b,T b→b<w.heap.size) (x:Value) (news:List Value) (hs:Src P k tx x ns.length news w) (hn:Rows w T k ns news) (hn0:0<ns.length) (h63:l.length+ns.length≤140737488355328) (hbytes:(l.length+ns.length)*bytes≤140737488355328) :
  ∃ v' w',(Builtin.append_ #[t,tx] ty #[.slice (some ⟨g,off,none⟩) l.length l.length,x]).run P w=.ok v' w'∧Arr w' B X T k v' (l++ns)∧w.grownBy w' none∧(∀ b,blk v'=some b→b=w.heap.size):=by
 have hmax:l.length+ns.length≤maxLen:=by unfold maxLen;omega
 have hlen:=hn.len
 have hxl:=hx.len
 have hfit:=growslice_fits (old:=l.length) (need:=l.length+ns.length) (bytes:=i.bytes) (by omega) (by rw[hby];exact hbytes)
 have hold:(Builtin.firstCells i.size l.length (.slice (some ⟨g,off,none⟩) l.length l.length)).run P w.drew=.ok xs.toArray w.drew:=by
  refine run_firstCells_some (P:=P) w.drew i.size l.length ⟨g,off,none⟩ l.length l.length xs (by rw[hxl,hsize]) (fun j u hu=>?_)
  rw[Addr.add_lit]
  exact hra j u hu
 have hrun:=run_append_grow_src (P:=P) w t tx ty e i z ht hi hz (some ⟨g,off,none⟩) l.length l.length xs hold x ns.length news (by rw[hsize];exact hs) (by omega) (by omega) hfit
 have hge:=grownCap_ge w (l.length+ns.length) l.length e
 have hcm:=grownCap_le_maxLen w (l.length+ns.length) l.length e hmax
 have hxn:(xs++news).length=(l.length+ns.length)*k:=by rw[List.length_append,hxl,hlen,Nat.add_mul]
 have hsz:((xs++news).toArray++Builtin.zeroCells z.cells (grownCap w (l.length+ns.length) l.length e-(l.length+ns.length))).size=grownCap w (l.length+ns.length) l.length e*k:=by
  rw[Array.size_append,List.size_toArray,hxn,size_zeroCells,hzs,← Nat.add_mul]
  congr 1
  omega
 have hg:w.grownBy (w.drew.alloc (.cells ((xs++news).toArray++Builtin.zeroCells z.cells (grownCap w (l.length+ns.length) l.length e-(l.length+ns.length))) e)) none:=⟨rfl,rfl,rfl,by simp,fun k hk _=>Below.heap_alloc w.drew _ k hk⟩
 have hkeep:∀ b,T b→b<w.heap.size→T b∧(w.drew.alloc (.cells ((xs++news).toArray++Builtin.zeroCells z.cells (grownCap w (l.length+ns.length) l.length e-(l.length+ns.length))) e)).heap[b]?=w.heap[b]?:=fun b hb hlt=>⟨hb,hg.block b hlt fun e=>by cases e⟩
 have hrows:=(Rows.keep hkeep _ _ _ hx).append (Rows.keep hkeep _ _ _ hn)
 have hbl:∀ b c,blk (.slice (some ⟨w.heap.size,0,none⟩) c (grownCap w (l.length+ns.length) l.length e))=some b→b=w.heap.size:=fun b c hb=>by
  revert hb
  cases grownCap w (l.length+ns.length) l.length e with
  |zero=>intro hb;simp [blk] at hb
  |succ n=>intro hb;simp [blk] at hb;exact hb.symm
 refine⟨_,_,hrun,⟨_,hrows,.inr ⟨w.heap.size,0,_,by rw[List.length_append],by omega,.inl hBw,by simp,fun h=>by have:=hT _ h;omega,by rw[List.length_append];exact hge,hcm,fun j hj=>?_,fun j u hu=>?_⟩⟩,hg,fun b hb=>hbl b _ hb⟩
 ·have e1:=World.cell?_alloc_new w.drew ((xs++news).toArray++Builtin.zeroCells z.cells (grownCap w (l.length+ns.length) l.length e-(l.length+ns.length))) e j
  have e2:w.drew.heap.size=w.heap.size:=rfl
  rw[e2] at e1
  simp only[Nat.zero_add]
  rw[e1,Array.getElem?_eq_getElem (by rw[hsz];exact hj)]
  exact⟨rfl,World.frozen?_alloc_new w.drew _ _ j⟩
 ·have e1:=World.cell?_alloc_new w.drew ((xs++news).toArray++Builtin.zeroCells z.cells (grownCap w (l.length+ns.length) l.length e-(l.length+ns.length))) e j
  have e2:w.drew.heap.size=w.heap.size:=rfl
  rw[e2] at e1
  have hj:j<(xs++news).length:=by
   rcases Nat.lt_or_ge j (xs++news).length with h|h
   ·exact h
   ·rw[List.getElem?_eq_none h] at hu;cases hu
  simp only[Nat.zero_add]
  rw[e1,Array.getElem?_append_left (by simpa using hj),List.getElem?_toArray]
  exact hu
end
end Go.Proofs.YticdbambknflgaaGreat.Sim
end
