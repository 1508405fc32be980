/- Values without memory, and how they lie in memory: of no program. Conditions: none. -/
import Derived.Test.YtacfbiegbdlldaaGreatDoorVStage
namespace Go.Proofs.YtacfbiegbdlldaaGreatDoor.Sim
open Go Go.RowKit Go.Deep
set_option linter.unusedVariables false
inductive D where
 |at (v:Value)
 |sl (k:Nat) (l:List (List D))
mutual
def D.is (w:World) (S:Nat→Prop):D→Value→Prop
 |.at v,u=>u=v∧v.oneCell'=true
 |.sl k l,u=>∃ a cap xs,u=.slice a l.length cap∧l.length≤cap∧cap≤maxLen∧Rows w S k l xs ∧
   (0<l.length→∃ g off,a=some ⟨g,off,none⟩∧(S g∧g<w.heap.size)∧w.rangeAt g off xs)
def Cells (w:World) (S:Nat→Prop):List D→List Value→Prop
 |[],xs=>xs=[]
 |d :: l,xs=>∃ x r,xs=x :: r∧d.is w S x∧Cells w S l r
def Rows (w:World) (S:Nat→Prop) (k:Nat):List (List D)→List Value→Prop
 |[],xs=>xs=[]
 |c :: l,xs=>∃ a r,xs=a++r∧c.length=k∧Cells w S c a∧Rows w S k l r
end
section
variable {w w':World} {S S':Nat→Prop}
mutual
theorem D.keep (hk:∀ b,S b→b<w.heap.size→S' b∧w'.heap[b]?=w.heap[b]?):∀ (d:D) (u:Value),d.is w S u→d.is w' S' u
 |.at v,u,h=>by simp only[D.is] at h ⊢;exact h
 |.sl k l,u,h=>by
  simp only[D.is] at h ⊢
  obtain⟨a,cap,xs,hu,h1,h2,h3,h4⟩:=h
  refine⟨a,cap,xs,hu,h1,h2,Rows.keep hk k l xs h3,fun h0=>?_⟩
  obtain⟨g,off,ha,hS,hr⟩:=h4 h0
  exact⟨g,off,ha,⟨(hk g hS.1 hS.2).1,lt_of_same hS.2 (hk g hS.1 hS.2).2⟩,rangeAt_congr hr (hk g hS.1 hS.2).2⟩
theorem Cells.keep (hk:∀ b,S b→b<w.heap.size→S' b∧w'.heap[b]?=w.heap[b]?):∀ (l:List D) (xs:List Value),Cells w S l xs→Cells w' S' l xs
 |[],xs,h=>by simp only[Cells] at h ⊢;exact h
 |d :: l,xs,h=>by
  simp only[Cells] at h ⊢
  obtain⟨x,r,hx,h1,h2⟩:=h
  exact⟨x,r,hx,D.keep hk d x h1,Cells.keep hk l r h2⟩
theorem Rows.keep (hk:∀ b,S b→b<w.heap.size→S' b∧w'.heap[b]?=w.heap[b]?) (k:Nat):∀ (l:List (List D)) (xs:List Value),Rows w S k l xs→Rows w' S' k l xs
 |[],xs,h=>by simp only[Rows] at h ⊢;exact h
 |c :: l,xs,h=>by
  simp only[Rows] at h ⊢
  obtain⟨a,r,hx,h0,h1,h2⟩:=h
  exact⟨a,r,hx,h0,Cells.keep hk c a h1,Rows.keep hk k l r h2⟩
end
theorem D.one {d:D} {u:Value} (h:d.is w S u):u.oneCell'=true:=by
 cases d with
 |«at» v=>simp only[D.is] at h;obtain⟨rfl,h⟩:=h;exact h
 |sl k l=>simp only[D.is] at h;obtain⟨a,cap,xs,rfl,_⟩:=h;rfl
theorem Cells.len {l:List D} {xs:List Value} (h:Cells w S l xs):xs.length=l.length:=by
 induction l generalizing xs with
 |nil=>simp only[Cells] at h;simp [h]
 |cons d l ih=>simp only[Cells] at h;obtain⟨x,r,rfl,h1,h2⟩:=h;simp [ih h2]
theorem Cells.one {l:List D} {xs:List Value} (h:Cells w S l xs):∀ u ∈ xs,u.oneCell'=true:=by
 induction l generalizing xs with
 |nil=>simp only[Cells] at h;simp [h]
 |cons d l ih =>
  simp only[Cells] at h
  obtain⟨x,r,rfl,h1,h2⟩:=h
  intro u hu
  rcases List.mem_cons.1 hu with rfl|hu
  ·exact D.one h1
  ·exact ih h2 u hu
structure E (k:Nat) where
 cs:List D
 h:cs.length=k
instance (k:Nat):Rep (E k) where
 sz:=k
 is w S xs e:=Cells w S e.cs xs
 len:=fun {w S cs x} h=>h.len.trans x.h
 one:=fun h=>h.one
 keep:=fun {w w' S S' cs x} h hk=>Cells.keep hk x.cs cs h
def es (k:Nat) (l:List (List D)) (h:∀ c ∈ l,c.length=k):List (E k):=l.attach.map fun c=>⟨c.1,h c.1 c.2⟩
theorem rows_iff {k:Nat}:∀ {l:List (List D)} {xs:List Value},Rows w S k l xs↔∃ l':List (E k),l'.map E.cs=l∧Chunks w S xs l'
 |[],xs=>by
  simp only[Rows]
  constructor
  ·intro h;exact⟨[],rfl,h⟩
  ·rintro⟨l',h1,h2⟩;cases l' <;> simp_all [Chunks]
 |c :: l,xs=>by
  simp only[Rows]
  constructor
  ·rintro⟨a,r,rfl,hl,h1,h2⟩
   obtain⟨l',h3,h4⟩:=rows_iff.1 h2
   exact⟨⟨c,hl⟩ :: l',by simp [h3],a,r,rfl,h1,h4⟩
  ·rintro⟨l',h1,h2⟩
   cases l' with
   |nil=>simp at h1
   |cons e l' =>
    obtain⟨h3,h4⟩:e.cs=c∧l'.map E.cs=l:=by simpa using h1
    obtain⟨a,r,rfl,h5,h6⟩:=h2
    exact⟨a,r,rfl,by rw[← h3];exact e.h,by rw[← h3];exact h5,rows_iff.2 ⟨l',h4,h6⟩⟩
theorem Rows.all {k:Nat} {l:List (List D)} {xs:List Value} (h:Rows w S k l xs):∀ c ∈ l,c.length=k:=by
 obtain⟨l',rfl,_⟩:=rows_iff.1 h
 intro c hc
 obtain⟨e,_,rfl⟩:=List.mem_map.1 hc
 exact e.h
def Arr (w:World) (B:Nat) (X T:Nat→Prop) (k:Nat) (v:Value) (l:List (List D)):Prop :=
 ∃ xs,Rows w T k l xs∧((∃ a,v=.slice a 0 0∧l=[])∨∃ g off cap,v=.slice (some ⟨g,off,none⟩) l.length cap∧0<cap∧(B≤g∨X g)∧g<w.heap.size∧¬ T g∧l.length≤cap∧cap≤maxLen∧w.there g off (cap*k)∧w.rangeAt g off xs)
def ArrV (w:World) (B:Nat) (X T:Nat→Prop) (k:Nat) (v:Value) (c:Nat) (xs:List Value):Prop :=
 (∃ a,v=.slice a 0 0∧c=0)∨∃ g off cap n,v=.slice (some ⟨g,off,none⟩) n cap∧0<cap∧(B≤g∨X g)∧g<w.heap.size∧¬ T g∧n≤cap∧cap≤maxLen∧w.there g off (cap*k)∧w.rangeAt g off xs∧c=n*k
def blk:Value→Option Nat
 |.slice (some a) _ (_+1)=>some a.block
 |.pointer (some a)=>some a.block
 |.map (some b)=>some b
 |_=>none
/-! ### Values of a walk -/
inductive V where
 |un
 |d (x:D)
 |nl (k:Nat)
 |z0
 |ub
 |og (i v:Nat)
 |bp (i v o:Nat)
 |ep (i v e o:Nat)
 |fp (cs:List D) (o:Nat)
 |cl (f:FuncId) (l:List V)
 |ag (l:List V)
 |tu (l:List V)
 |vg (i v:Nat)
 |vp (i v e:Nat)
 |ot (i v e:Nat)
 |mh (i v:Nat)
 |fx (k:Nat) (l:List (List D))
inductive O where
 |box (v:Nat) (cs:List V)
 |arr (v k:Nat) (mu:Bool) (l:List (List D))
 |vec (v k:Nat) (cs:List V)
 |mp (v:Nat) (ks:List Int)
def O.live:O→Bool
 |.box _ _=>true
 |.arr _ _ mu _=>mu
 |.vec _ _ _=>true
 |.mp _ _=>true
def O.ver:O→Nat
 |.box v _=>v
 |.arr v _ _ _=>v
 |.vec v _ _=>v
 |.mp v _=>v
def O.kind:O→Option Nat
 |.box _ _=>none
 |.arr _ k _ _=>some (k+2)
 |.vec _ _ _=>some 0
 |.mp _ _=>some 1
abbrev M:=Nat→Option O
abbrev H:=Nat→Value
def mkCl (f:FuncId) (vs:List Value):Value:=if f<1000000 then .func (.func f) #[] vs.toArray else .func (.func (f-1000000)) vs.toArray #[]
theorem mkCl_inj {f:FuncId} {a b:List Value} (h:mkCl f a=mkCl f b):a=b:=by
 unfold mkCl at h
 split at h
 ·injection h with _ _ e;exact List.toArray_inj e
 ·injection h with _ e _;exact List.toArray_inj e
mutual
def VR (m:M) (hd:H) (w:World) (S:Nat→Prop):V→Value→Prop
 |.un,_=>True
 |.d x,u=>x.is w S u
 |.nl _,u=>u=.slice none 0 0
 |.z0,u=>∃ a,u=.slice a 0 0
 |.ub,u=>∃ c,u=.bool c
 |.og i v,u=>u.oneCell'=true∧∃ y,m i=some y∧v≤y.ver∧∀ k mu l,y=.arr v k mu l→u=hd i
 |.bp i v o,u=>u.oneCell'=true∧∃ y,m i=some y∧v≤y.ver∧∀ cs,y=.box v cs→∃ b,hd i=.pointer (some ⟨b,0,none⟩)∧u=.pointer (some ⟨b,o,none⟩)
 |.ep i v e o,u=>u.oneCell'=true∧∃ y,m i=some y∧v≤y.ver∧(∀ k mu l,y=.arr v k mu l→∃ g off n cap,hd i=.slice (some ⟨g,off,none⟩) n cap∧u=.pointer (some ⟨g,off+e*k+o,none⟩))∧∀ cs,y=.box v cs→∃ b,hd i=.pointer (some ⟨b,0,none⟩)∧u=.slice (some ⟨b,0,none⟩) e e
 |.fp cs o,u=>∃ g off xs,u=.pointer (some ⟨g,off+o,none⟩)∧(S g∧g<w.heap.size)∧w.rangeAt g off xs∧Cells w S cs xs
 |.cl f l,u=>∃ vs,u=mkCl f vs∧VRs m hd w S l vs
 |.ag l,u=>∃ vs,u=.agg vs.toArray∧VRs m hd w S l vs∧∀ x ∈ vs,x.oneCell'=true
 |.tu l,u=>∃ vs,u=.tuple vs.toArray∧VRs m hd w S l vs
 |.vg i v,u=>u.oneCell'=true∧∃ y,m i=some y∧v≤y.ver∧∀ k cs,y=.vec v k cs→u=hd i
 |.vp i v e,u=>u.oneCell'=true∧∃ y,m i=some y∧v≤y.ver∧∀ k cs,y=.vec v k cs→∃ g off n cap,hd i=.slice (some ⟨g,off,none⟩) n cap∧u=.pointer (some ⟨g,off+e,none⟩)
 |.ot i v e,u=>u.oneCell'=true∧∃ y,m i=some y∧v≤y.ver∧∀ k mu l,y=.arr v k mu l→∃ g off n cap,hd i=.slice (some ⟨g,off,none⟩) n cap∧e<n∧u=.slice (some ⟨g,off+e*k,none⟩) (n-e) (cap-e)
 |.mh i v,u=>u.oneCell'=true∧∃ y,m i=some y∧v≤y.ver∧∀ ks,y=.mp v ks→u=hd i
 |.fx k l,u=>(D.sl k l).is w S u∧∃ a,u=.slice a l.length l.length
def VRs (m:M) (hd:H) (w:World) (S:Nat→Prop):List V→List Value→Prop
 |[],xs=>xs=[]
 |x :: l,xs=>∃ u r,xs=u :: r∧VR m hd w S x u∧VRs m hd w S l r
end
def O.is (m:M) (hd:H) (w:World) (S X:Nat→Prop) (B:Nat) (h:Value):O→Prop
 |.box v cs=>∃ b vs,h=.pointer (some ⟨b,0,none⟩)∧(B≤b∨X b)∧b<w.heap.size∧¬ S b∧VRs m hd w S cs vs∧(∀ x ∈ vs,x.oneCell'=true)∧w.there b 0 cs.length∧w.rangeAt b 0 vs
 |.arr v k mu l=>if mu then Arr w B X S k h l else (D.sl k l).is w S h
 |.vec v k cs=>∃ vs,VRs m hd w S cs vs∧(∀ x ∈ vs,x.oneCell'=true)∧ArrV w B X S k h cs.length vs
 |.mp v ks=>∃ b es c,h=.map (some b)∧(B≤b∨X b)∧b<w.heap.size∧¬ S b∧w.heap[b]?=some (.map es c)∧es.toList.map (fun e=>(e.key,e.val))=ks.map fun n=>(.int .i64 n,.bool true)
structure Mem (m:M) (hd:H) (w:World) (S X:Nat→Prop) (B:Nat):Prop where
 obj:∀ i o,m i=some o→o.is m hd w S X B (hd i)
 sep:∀ i j oi oj b,i ≠ j→m i=some oi→m j=some oj→oi.live=true→oj.live=true→blk (hd i)=some b→blk (hd j) ≠ some b
 lt:∀ b,S b→b<w.heap.size
 base:B≤w.heap.size
 sX:∀ b,X b→b<B
structure Fr (w w':World) (X:Nat→Prop):Prop where
 os:w'.os=w.os
 tape:w'.tape=w.tape
 output:w'.output=w.output
 size:w.heap.size≤w'.heap.size
 block:∀ k,k<w.heap.size→¬ X k→w'.heap[k]?=w.heap[k]?
theorem Fr.refl (w:World) (X:Nat→Prop):Fr w w X:=⟨rfl,rfl,rfl,Nat.le_refl _,fun _ _ _=>rfl⟩
theorem Fr.trans {a b c:World} {X Y:Nat→Prop} (h:Fr a b X) (k:Fr b c Y) (hY:∀ i,i<a.heap.size→Y i→X i):Fr a c X :=
 ⟨k.os.trans h.os,k.tape.trans h.tape,k.output.trans h.output,Nat.le_trans h.size k.size,fun i hi hx=>(k.block i (Nat.lt_of_lt_of_le hi h.size) fun hy=>hx (hY i hi hy)).trans (h.block i hi hx)⟩
structure Le (m:M) (hd:H) (m':M) (hd':H):Prop where
 le:∀ i o,m i=some o→∃ o',m' i=some o'∧o.ver≤o'.ver∧(o'.ver=o.ver→hd' i=hd i∧o'.kind=o.kind)
theorem Le.refl (m:M) (hd:H):Le m hd m hd:=⟨fun i o h=>⟨o,h,Nat.le_refl _,fun _=>⟨rfl,rfl⟩⟩⟩
variable {m m':M} {hd hd':H} {X:Nat→Prop} {B:Nat}
mutual
theorem VR.keep (hl:Le m hd m' hd') (hk:∀ b,S b→b<w.heap.size→S' b∧w'.heap[b]?=w.heap[b]?):∀ (x:V) (u:Value),VR m hd w S x u→VR m' hd' w' S' x u
 |.un,u,h=>by simp only[VR]
 |.d x,u,h=>by simp only[VR] at h ⊢;exact D.keep hk x u h
 |.nl _,u,h=>by simp only[VR] at h ⊢;exact h
 |.z0,u,h=>by simp only[VR] at h ⊢;exact h
 |.ub,u,h=>by simp only[VR] at h ⊢;exact h
 |.og i v,u,h=>by
  simp only[VR] at h ⊢
  obtain⟨h0,y,h1,h2,h3⟩:=h
  obtain⟨y',h4,h5,h6⟩:=hl.le i y h1
  refine⟨h0,y',h4,by omega,fun k mu l e=>?_⟩
  subst e
  obtain⟨h7,h8⟩:=h6 (by simp only[O.ver] at *;omega)
  rw[h7]
  cases y with
  |box v' cs=>simp [O.kind] at h8
  |vec v' kk' cs=>simp [O.kind] at h8
  |mp v' ks'=>simp [O.kind] at h8
  |arr v' k' mu' l' =>
   simp only[O.ver] at *
   obtain rfl:v'=v:=by omega
   exact h3 k' mu' l' rfl
 |.bp i v o,u,h=>by
  simp only[VR] at h ⊢
  obtain⟨h0,y,h1,h2,h3⟩:=h
  obtain⟨y',h4,h5,h6⟩:=hl.le i y h1
  refine⟨h0,y',h4,by omega,fun cs e=>?_⟩
  subst e
  obtain⟨h7,h8⟩:=h6 (by simp only[O.ver] at *;omega)
  rw[h7]
  cases y with
  |arr v' k' mu' l'=>simp [O.kind] at h8
  |vec v' kk' cs'=>simp [O.kind] at h8
  |mp v' ks'=>simp [O.kind] at h8
  |box v' cs' =>
   simp only[O.ver] at *
   obtain rfl:v'=v:=by omega
   exact h3 cs' rfl
 |.ep i v e o,u,h=>by
  simp only[VR] at h ⊢
  obtain⟨h0,y,h1,h2,h3⟩:=h
  obtain⟨y',h4,h5,h6⟩:=hl.le i y h1
  refine⟨h0,y',h4,by omega,fun k mu l e=>?_,fun cs e=>?_⟩
  ·subst e
   obtain⟨h7,h8⟩:=h6 (by simp only[O.ver] at *;omega)
   rw[h7]
   cases y with
   |box v' cs=>simp [O.kind] at h8
   |vec v' kk' cs=>simp [O.kind] at h8
   |mp v' ks'=>simp [O.kind] at h8
   |arr v' k' mu' l' =>
    simp only[O.ver] at *
    obtain rfl:v'=v:=by omega
    simp only[O.kind,Option.some.injEq,Nat.add_right_cancel_iff] at h8
    subst h8
    exact h3.1 k mu' l' rfl
  ·subst e
   obtain⟨h7,h8⟩:=h6 (by simp only[O.ver] at *;omega)
   rw[h7]
   cases y with
   |arr v' k' mu' l'=>simp [O.kind] at h8
   |vec v' kk' cs'=>simp [O.kind] at h8
   |mp v' ks'=>simp [O.kind] at h8
   |box v' cs' =>
    simp only[O.ver] at *
    obtain rfl:v'=v:=by omega
    exact h3.2 cs' rfl
 |.fp cs o,u,h=>by
  simp only[VR] at h ⊢
  obtain⟨g,off,xs,hu,hS,hr,hc⟩:=h
  exact⟨g,off,xs,hu,⟨(hk g hS.1 hS.2).1,lt_of_same hS.2 (hk g hS.1 hS.2).2⟩,rangeAt_congr hr (hk g hS.1 hS.2).2,Cells.keep hk cs xs hc⟩
 |.cl f l,u,h=>by
  simp only[VR] at h ⊢
  obtain⟨vs,hu,h⟩:=h
  exact⟨vs,hu,VRs.keep hl hk l vs h⟩
 |.ag l,u,h=>by
  simp only[VR] at h ⊢
  obtain⟨vs,hu,h,h1⟩:=h
  exact⟨vs,hu,VRs.keep hl hk l vs h,h1⟩
 |.tu l,u,h=>by
  simp only[VR] at h ⊢
  obtain⟨vs,hu,h⟩:=h
  exact⟨vs,hu,VRs.keep hl hk l vs h⟩
 |.vg i v,u,h=>by
  simp only[VR] at h ⊢
  obtain⟨h0,y,h1,h2,h3⟩:=h
  obtain⟨y',h4,h5,h6⟩:=hl.le i y h1
  refine⟨h0,y',h4,by omega,fun kq cs e=>?_⟩
  subst e
  obtain⟨h7,h8⟩:=h6 (by simp only[O.ver] at *;omega)
  rw[h7]
  cases y with
  |box v' cs=>simp [O.kind] at h8
  |arr v' k' mu' l'=>simp [O.kind] at h8
  |mp v' ks'=>simp [O.kind] at h8
  |vec v' kk' cs' =>
   simp only[O.ver] at *
   obtain rfl:v'=v:=by omega
   exact h3 kk' cs' rfl
 |.vp i v e,u,h=>by
  simp only[VR] at h ⊢
  obtain⟨h0,y,h1,h2,h3⟩:=h
  obtain⟨y',h4,h5,h6⟩:=hl.le i y h1
  refine⟨h0,y',h4,by omega,fun kq cs e=>?_⟩
  subst e
  obtain⟨h7,h8⟩:=h6 (by simp only[O.ver] at *;omega)
  rw[h7]
  cases y with
  |box v' cs=>simp [O.kind] at h8
  |arr v' k' mu' l'=>simp [O.kind] at h8
  |mp v' ks'=>simp [O.kind] at h8
  |vec v' kk' cs' =>
   simp only[O.ver] at *
   obtain rfl:v'=v:=by omega
   exact h3 kk' cs' rfl
 |.ot i v e,u,h=>by
  simp only[VR] at h ⊢
  obtain⟨h0,y,h1,h2,h3⟩:=h
  obtain⟨y',h4,h5,h6⟩:=hl.le i y h1
  refine⟨h0,y',h4,by omega,fun k mu l e=>?_⟩
  subst e
  obtain⟨h7,h8⟩:=h6 (by simp only[O.ver] at *;omega)
  rw[h7]
  cases y with
  |box v' cs=>simp [O.kind] at h8
  |vec v' kk' cs=>simp [O.kind] at h8
  |mp v' ks'=>simp [O.kind] at h8
  |arr v' k' mu' l' =>
   simp only[O.ver] at *
   obtain rfl:v'=v:=by omega
   simp only[O.kind,Option.some.injEq,Nat.add_right_cancel_iff] at h8
   subst h8
   exact h3 k mu' l' rfl
 |.fx k l,u,h=>by
  simp only[VR] at h ⊢
  exact⟨D.keep hk _ _ h.1,h.2⟩
 |.mh i v,u,h=>by
  simp only[VR] at h ⊢
  obtain⟨h0,y,h1,h2,h3⟩:=h
  obtain⟨y',h4,h5,h6⟩:=hl.le i y h1
  refine⟨h0,y',h4,by omega,fun ks e=>?_⟩
  subst e
  obtain⟨h7,h8⟩:=h6 (by simp only[O.ver] at *;omega)
  rw[h7]
  cases y with
  |box v' cs=>simp [O.kind] at h8
  |arr v' k' mu' l'=>simp [O.kind] at h8
  |vec v' kk' cs'=>simp [O.kind] at h8
  |mp v' ks' =>
   simp only[O.ver] at *
   obtain rfl:v'=v:=by omega
   exact h3 ks' rfl
theorem VRs.keep (hl:Le m hd m' hd') (hk:∀ b,S b→b<w.heap.size→S' b∧w'.heap[b]?=w.heap[b]?):∀ (l:List V) (xs:List Value),VRs m hd w S l xs→VRs m' hd' w' S' l xs
 |[],xs,h=>by simp only[VRs] at h ⊢;exact h
 |x :: l,xs,h=>by
  simp only[VRs] at h ⊢
  obtain⟨u,r,hx,h1,h2⟩:=h
  exact⟨u,r,hx,VR.keep hl hk x u h1,VRs.keep hl hk l r h2⟩
end
theorem VRs.len {l:List V} {xs:List Value} (h:VRs m hd w S l xs):xs.length=l.length:=by
 induction l generalizing xs with
 |nil=>simp only[VRs] at h;simp [h]
 |cons d l ih=>simp only[VRs] at h;obtain⟨x,r,rfl,h1,h2⟩:=h;simp [ih h2]
theorem VRs.get {l:List V} {xs:List Value} (h:VRs m hd w S l xs):∀ (i:Nat) (x:V),l[i]?=some x→∃ u,xs[i]?=some u∧VR m hd w S x u:=by
 induction l generalizing xs with
 |nil=>intro i x h;simp at h
 |cons d l ih =>
  simp only[VRs] at h
  obtain⟨u,r,rfl,h1,h2⟩:=h
  intro i x hx
  cases i with
  |zero=>simp at hx;subst hx;exact⟨u,rfl,h1⟩
  |succ i=>exact ih h2 i x (by simpa using hx)
theorem VRs.append {l l':List V} {xs xs':List Value} (h:VRs m hd w S l xs) (h':VRs m hd w S l' xs'):VRs m hd w S (l++l') (xs++xs'):=by
 induction l generalizing xs with
 |nil=>simp only[VRs] at h;subst h;exact h'
 |cons d l ih=>simp only[VRs] at h;obtain⟨x,r,rfl,h1,h2⟩:=h;exact⟨x,r++xs',rfl,h1,ih h2⟩
theorem VRs.drop {l:List V} {xs:List Value} (h:VRs m hd w S l xs):∀ n,VRs m hd w S (l.drop n) (xs.drop n):=by
 induction l generalizing xs with
 |nil=>simp only[VRs] at h;subst h;intro n;simp [VRs]
 |cons d l ih =>
  have h0:=h
  simp only[VRs] at h;obtain⟨x,r,rfl,h1,h2⟩:=h
  intro n
  cases n with
  |zero=>exact h0
  |succ n=>exact ih h2 n
theorem VRs.take {l:List V} {xs:List Value} (h:VRs m hd w S l xs):∀ n,VRs m hd w S (l.take n) (xs.take n):=by
 induction l generalizing xs with
 |nil=>simp only[VRs] at h;subst h;intro n;simp [VRs]
 |cons d l ih =>
  simp only[VRs] at h;obtain⟨x,r,rfl,h1,h2⟩:=h
  intro n
  cases n with
  |zero=>simp [VRs]
  |succ n=>exact⟨x,_,by simp,h1,ih h2 n⟩
theorem cells_VRs {l:List D} {xs:List Value} (h:Cells w S l xs):VRs m hd w S (l.map V.d) xs:=by
 induction l generalizing xs with
 |nil=>simp only[Cells] at h;subst h;simp [VRs]
 |cons d l ih=>simp only[Cells] at h;obtain⟨x,r,rfl,h1,h2⟩:=h;exact⟨x,r,rfl,by simp only[VR];exact h1,ih h2⟩
theorem ArrV.keep {T T':Nat→Prop} {k:Nat} {v:Value} {n:Nat} {xs:List Value} (h:ArrV w B X T k v n xs) (hs:w.heap.size≤w'.heap.size) (hb:∀ b,blk v=some b→w'.heap[b]?=w.heap[b]?∧¬ T' b):ArrV w' B X T' k v n xs:=by
 refine h.imp id fun⟨g,off,cap,nn,hv,h0,h1,h2,h3,h4,h5,h6,h7,h8⟩=>?_
 obtain⟨e1,e2⟩:=hb g (by subst hv;cases cap with|zero=>omega|succ c=>rfl)
 exact⟨g,off,cap,nn,hv,h0,h1,by omega,e2,h4,h5,there_congr h6 e1,rangeAt_congr h7 e1,h8⟩
theorem ArrV.lt {T:Nat→Prop} {k:Nat} {v:Value} {n:Nat} {xs:List Value} (h:ArrV w B X T k v n xs) {b:Nat} (hb:blk v=some b):b<w.heap.size∧¬ T b∧(B≤b∨X b):=by
 rcases h with ⟨a,hv,_⟩|⟨g,off,cap,nn,hv,h0,h1,h2,h3,_⟩
 ·rw[hv] at hb;cases a <;> simp [blk] at hb
 ·rw[hv] at hb
  cases cap with
  |zero=>omega
  |succ c=>simp only[blk,Option.some.injEq] at hb;subst hb;exact⟨h2,h3,h1⟩
theorem Arr.keep {T T':Nat→Prop} {k:Nat} {v:Value} {l:List (List D)} {Z:Nat→Prop} (h:Arr w B X T k v l) (hs:w.heap.size≤w'.heap.size) (hk:∀ b,T b→b<w.heap.size→T' b∧w'.heap[b]?=w.heap[b]?)
  (hb:∀ b,blk v=some b→w'.heap[b]?=w.heap[b]?∧¬ T' b):Arr w' B X T' k v l:=by
 obtain⟨xs,hx,h⟩:=h
 refine⟨xs,Rows.keep hk k l xs hx,h.imp id fun⟨g,off,cap,hv,h0,h1,h2,h3,h4,h5,h6,h7⟩=>?_⟩
 obtain⟨e1,e2⟩:=hb g (by subst hv;cases cap with|zero=>omega|succ c=>rfl)
 exact⟨g,off,cap,hv,h0,h1,by omega,e2,h4,h5,there_congr h6 e1,rangeAt_congr h7 e1⟩
theorem Mem.next {Z:Nat→Prop} (h:Mem m hd w S X B) (hs:w.heap.size≤w'.heap.size) (hz:∀ b,b<w.heap.size→¬ Z b→w'.heap[b]?=w.heap[b]?)
  (hSZ:∀ b,S b→¬ Z b) (hSS:∀ b,S b→S' b) (hlt:∀ b,S' b→b<w'.heap.size) (hl:Le m hd m' hd')
  (hobj:∀ i o,m' i=some o→(m i=some o∧hd' i=hd i∧∀ b,o.live=true→blk (hd i)=some b→¬ Z b∧¬ S' b)∨o.is m' hd' w' S' X B (hd' i))
  (hsep:∀ i j oi oj b,i ≠ j→m' i=some oi→m' j=some oj→oi.live=true→oj.live=true→blk (hd' i)=some b→blk (hd' j) ≠ some b):Mem m' hd' w' S' X B:=by
 have hkeep:∀ b,S b→b<w.heap.size→S' b∧w'.heap[b]?=w.heap[b]?:=fun b hb hlt=>⟨hSS b hb,hz b hlt (hSZ b hb)⟩
 refine⟨fun i o ho=>?_,hsep,hlt,Nat.le_trans h.base hs,h.sX⟩
 rcases hobj i o ho with ⟨h1,h2,h3⟩|h1
 ·have hi:=h.obj i o h1
  rw[h2]
  cases o with
  |box v cs =>
   simp only[O.is] at hi ⊢
   obtain⟨b,vs,hb,h4,h5,h6,h7,h8,h9,h10⟩:=hi
   obtain⟨hZ,hS⟩:=h3 b rfl (by rw[hb];rfl)
   exact⟨b,vs,hb,h4,by omega,hS,VRs.keep hl hkeep cs vs h7,h8,there_congr h9 (hz b h5 hZ),rangeAt_congr h10 (hz b h5 hZ)⟩
  |arr v k mu l =>
   simp only[O.is] at hi ⊢
   cases mu with
   |true =>
    simp only[if_true] at hi ⊢
    refine Arr.keep (Z:=Z) hi hs hkeep fun b hb=>?_
    obtain⟨hZ,hS⟩:=h3 b rfl hb
    refine⟨hz b ?_ hZ,hS⟩
    obtain⟨xs,_,hx⟩:=hi
    rcases hx with ⟨a,hv,_⟩|⟨g,off,cap,hv,h0,_,hlt,_⟩
    ·rw[hv] at hb;cases a <;> simp [blk] at hb
    ·rw[hv] at hb
     cases cap with
     |zero=>omega
     |succ c=>simp [blk] at hb;omega
   |false =>
    simp only[Bool.false_eq_true,if_false] at hi ⊢
    exact D.keep hkeep _ _ hi
  |vec v kk cs =>
   simp only[O.is] at hi ⊢
   obtain⟨vs,h7,h8,h9⟩:=hi
   refine⟨vs,VRs.keep hl hkeep cs vs h7,h8,h9.keep hs fun b hb=>?_⟩
   obtain⟨hZ,hS⟩:=h3 b rfl hb
   exact⟨hz b (h9.lt hb).1 hZ,hS⟩
  |mp v ks =>
   simp only[O.is] at hi ⊢
   obtain⟨b,es,c,e,h4,h5,h6,h7,h8⟩:=hi
   obtain⟨hZ,hS⟩:=h3 b rfl (by rw[e];rfl)
   exact⟨b,es,c,e,h4,by omega,hS,(hz b h5 hZ).trans h7,h8⟩
 ·exact h1
end
end Go.Proofs.YtacfbiegbdlldaaGreatDoor.Sim
