/- The operations on values without memory: of no program. Conditions: none. -/
import Derived.Test.YticdbambknflgaaGreatMRep
section
namespace Go.Proofs.YticdbambknflgaaGreat
open Go Go.RowKit Go.Deep
set_option linter.unusedVariables false
section
variable {P:Program} {ops:Array Oper} {Q:Exit→Act→World→Prop} {md:Region.Mode} {S:World→Prop} {k:Nat}
def wpStage (P:Program) (md:Region.Mode) (ops:Array Oper) (Q:Exit→Act→World→Prop) (S:World→Prop) (k:Nat):Nat→Array Bool→Act→World→Prop
 |0,listed,a,w=>Region.ready md ops listed=[]∧Q .normal a w
 |fuel+1,listed,a,w =>
  (Region.ready md ops listed=[]→Q .normal a w) ∧
  ∀ i ∈ Region.ready md ops listed,wpOp P ops Q i (fun a' w'=>((listed.setIfInBounds i true).getD k true=false→S w')∧wpStage P md ops Q S k fuel (listed.setIfInBounds i true) a' w') a w
/-! ### The moves -/
def StageOne (P:Program) (md:Region.Mode) (ops:Array Oper) (Q:Exit→Act→World→Prop) (S:World→Prop) (k fuel:Nat) (listed:Array Bool) (a:Act) (w:World) (rs:List Nat):Prop :=
 ∀ i ∈ rs,wpOp P ops Q i (fun a' w'=>((listed.setIfInBounds i true).getD k true=false→S w')∧wpStage P md ops Q S k fuel (listed.setIfInBounds i true) a' w') a w
theorem StageOne.nil {fuel:Nat} {listed:Array Bool} {a:Act} {w:World}:StageOne P md ops Q S k fuel listed a w []:=fun _ h=>by cases h
theorem StageOne.cons {fuel:Nat} {listed:Array Bool} {a:Act} {w:World} {i:Nat} {o:Oper} {rs:List Nat} (ho:ops[i]?=some o) (hg:o.guard=none)
  (h:∀ K':Act→World→Prop,Shut (∀ a w,S w→(S w→wpStage P md ops Q S k fuel (listed.setIfInBounds i true) a w)→K' a w)→Oper.wp P o a w K' Q)
  (hs:StageOne P md ops Q S k fuel listed a w rs):StageOne P md ops Q S k fuel listed a w (i :: rs):=fun j hj=>by
 rcases List.mem_cons.1 hj with rfl|hj
 ·refine wpOp_step ho fun K' hK=>?_
  rw[if_pos (by simp [Region.wanted,hg])]
  exact h K' (fun a w hS hW=>hK a w ⟨fun _=>hS,hW hS⟩)
 ·exact hs j hj
theorem Src.single {sz:Nat} {w:World} {tx e':TypeId} (hk:P.underlying tx=some (.slice e')) {b:Nat} {cs:List Value} (hl:cs.length=sz) (hr:w.rangeAt b 0 cs) (h1:∀ u ∈ cs,u.oneCell'=true):Src P sz tx (.slice (some ⟨b,0,none⟩) 1 1) 1 cs w :=
 Src.ofSlice w hk _ 1 1 cs (by omega) (fun j u hu=>by rw[Addr.add_lit];exact hr j u hu) h1
theorem range_new (w:World) (cs:List Value) (t:TypeId):(w.alloc (.cells cs.toArray t)).rangeAt w.heap.size 0 cs:=fun j v hv=>by
 rw[Nat.zero_add,World.cell?_alloc_new]
 simpa using hv
theorem OwnT.take {α:Type} [Rep α] {w:World} {B:Nat} {T:Nat→Prop} {g off n cap:Nat} {l:List α} (h:OwnT w B T (.slice (some ⟨g,off,none⟩) n cap) l) {i:Nat} (hi:i≤n):OwnT w B T (.slice (some ⟨g,off,none⟩) i cap) (l.take i):=by
 obtain⟨xs,hw,hx⟩:=h
 rcases hw.2 with ⟨e,_⟩|⟨g',off',cap',e,hB,hlt,hn',hc,ht',hr⟩
 ·cases e
 ·injection e with e1 e2 e3
  injection e1 with e1
  injection e1 with e4 e5 e6
  subst e4 e5 e3
  have hl:(l.take i).length=i:=by rw[List.length_take];omega
  have e:l=l.take i++l.drop i:=(List.take_append_drop i l).symm
  rw[e] at hx
  obtain⟨p,q,rfl,hp,hq⟩:=hx.split
  refine⟨p,⟨hp.len,.inr ⟨g,off,cap,by rw[hl],hB,hlt,by omega,hc,ht',fun j v hv=>hr j v ?_⟩⟩,hp.keep fun b hb _=>⟨⟨hb.1,hb.2⟩,rfl⟩⟩
  rw[List.getElem?_append_left ((List.getElem?_eq_some_iff.1 hv).1)]
  exact hv
theorem OwnT.rest {α:Type} [Rep α] {w:World} {B:Nat} {T:Nat→Prop} {g off n cap:Nat} {l:List α} (h:OwnT w B T (.slice (some ⟨g,off,none⟩) n cap) l) {tx e':TypeId} (hk:P.underlying tx=some (.slice e')) {j:Nat} (hj:j≤n) (c:Nat) :
  ∃ news,Chunks w (Off w (.slice (some ⟨g,off,none⟩) n cap) T) news (l.drop j)∧∀ a:Addr,(j<n→a=⟨g,off+j*Rep.sz α,none⟩)→Src P (Rep.sz α) tx (.slice (some a) (n-j) c) (l.drop j).length news w:=by
 obtain⟨xs,hw,hx⟩:=h
 rcases hw.2 with ⟨e,_⟩|⟨g',off',cap',e,hB,hlt,hn',hc,ht',hr⟩
 ·cases e
 ·injection e with e1 e2 e3
  injection e1 with e1
  injection e1 with e4 e5 e6
  subst e4 e5 e3
  have e:l=l.take j++l.drop j:=(List.take_append_drop j l).symm
  rw[e] at hx
  obtain⟨p,q,rfl,hp,hq⟩:=hx.split
  have hpl:=hp.len
  rw[List.length_take,Nat.min_eq_left (by omega)] at hpl
  have hdl:(l.drop j).length=n-j:=by rw[List.length_drop];omega
  refine⟨q,hq,fun a ha=>?_⟩
  rw[hdl]
  refine Src.ofSlice w hk a (n-j) c q (by rw[hq.len,hdl]) (fun k u hu=>?_) hq.one
  have hk':k<q.length:=(List.getElem?_eq_some_iff.1 hu).1
  have hjn:j<n:=by
   rcases Nat.lt_or_ge j n with h|h
   ·exact h
   ·have:=hq.len;rw[hdl,Nat.sub_eq_zero_of_le h,Nat.zero_mul] at this;omega
  rw[ha hjn,Addr.add_lit,Nat.add_assoc]
  refine hr _ u ?_
  rw[← hpl,List.getElem?_append_right (by omega),Nat.add_sub_cancel_left]
  exact hu
theorem OwnT.there {α:Type} [Rep α] {w:World} {B:Nat} {T:Nat→Prop} {g off n cap:Nat} {l:List α} (h:OwnT w B T (.slice (some ⟨g,off,none⟩) n cap) l):w.there g off (cap*Rep.sz α)∧B≤g∧g<w.heap.size∧n≤cap∧n=l.length:=by
 obtain⟨xs,hw,hx⟩:=h
 rcases hw.2 with ⟨e,_⟩|⟨g',off',cap',e,hB,hlt,hn',hc,ht',hr⟩
 ·cases e
 ·injection e with e1 e2 e3
  injection e1 with e1
  injection e1 with e4 e5 e6
  subst e4 e5 e3
  exact⟨ht',hB,hlt,by omega,e2⟩
end
end Go.Proofs.YticdbambknflgaaGreat
end
section
namespace Go.Proofs.YticdbambknflgaaGreat.Sim
open Go Go.RowKit Go.Deep
set_option linter.unusedVariables false
inductive D where
 |at (v:Value)
 |sl (k:Nat) (l:List (List D))
mutual
def D.is (w:World) (S:Nat→Prop):D→Value→Prop
 |.at v,u=>u=v∧v.oneCell'=true
 |.sl k l,u=>∃ a cap xs,u=.slice a l.length cap∧l.length≤cap∧cap≤maxLen∧Rows w S k l xs ∧
   (0<l.length→∃ g off,a=some ⟨g,off,none⟩∧(S g∧g<w.heap.size)∧w.rangeAt g off xs)
def Cells (w:World) (S:Nat→Prop):List D→List Value→Prop
 |[],xs=>xs=[]
 |d :: l,xs=>∃ x r,xs=x :: r∧d.is w S x∧Cells w S l r
def Rows (w:World) (S:Nat→Prop) (k:Nat):List (List D)→List Value→Prop
 |[],xs=>xs=[]
 |c :: l,xs=>∃ a r,xs=a++r∧c.length=k∧Cells w S c a∧Rows w S k l r
end
section
variable {w w':World} {S S':Nat→Prop}
mutual
theorem D.keep (hk:∀ b,S b→b<w.heap.size→S' b∧w'.heap[b]?=w.heap[b]?):∀ (d:D) (u:Value),d.is w S u→d.is w' S' u
 |.at v,u,h=>by simp only[D.is] at h ⊢;exact h
 |.sl k l,u,h=>by
  simp only[D.is] at h ⊢
  obtain⟨a,cap,xs,hu,h1,h2,h3,h4⟩:=h
  refine⟨a,cap,xs,hu,h1,h2,Rows.keep hk k l xs h3,fun h0=>?_⟩
  obtain⟨g,off,ha,hS,hr⟩:=h4 h0
  exact⟨g,off,ha,⟨(hk g hS.1 hS.2).1,lt_of_same hS.2 (hk g hS.1 hS.2).2⟩,rangeAt_congr hr (hk g hS.1 hS.2).2⟩
theorem Cells.keep (hk:∀ b,S b→b<w.heap.size→S' b∧w'.heap[b]?=w.heap[b]?):∀ (l:List D) (xs:List Value),Cells w S l xs→Cells w' S' l xs
 |[],xs,h=>by simp only[Cells] at h ⊢;exact h
 |d :: l,xs,h=>by
  simp only[Cells] at h ⊢
  obtain⟨x,r,hx,h1,h2⟩:=h
  exact⟨x,r,hx,D.keep hk d x h1,Cells.keep hk l r h2⟩
theorem Rows.keep (hk:∀ b,S b→b<w.heap.size→S' b∧w'.heap[b]?=w.heap[b]?) (k:Nat):∀ (l:List (List D)) (xs:List Value),Rows w S k l xs→Rows w' S' k l xs
 |[],xs,h=>by simp only[Rows] at h ⊢;exact h
 |c :: l,xs,h=>by
  simp only[Rows] at h ⊢
  obtain⟨a,r,hx,h0,h1,h2⟩:=h
  exact⟨a,r,hx,h0,Cells.keep hk c a h1,Rows.keep hk k l r h2⟩
end
theorem D.one {d:D} {u:Value} (h:d.is w S u):u.oneCell'=true:=by
 cases d with
 |«at» v=>simp only[D.is] at h;obtain⟨rfl,h⟩:=h;exact h
 |sl k l=>simp only[D.is] at h;obtain⟨a,cap,xs,rfl,_⟩:=h;rfl
theorem Cells.len {l:List D} {xs:List Value} (h:Cells w S l xs):xs.length=l.length:=by
 induction l generalizing xs with
 |nil=>simp only[Cells] at h;simp [h]
 |cons d l ih=>simp only[Cells] at h;obtain⟨x,r,rfl,h1,h2⟩:=h;simp [ih h2]
theorem Cells.one {l:List D} {xs:List Value} (h:Cells w S l xs):∀ u ∈ xs,u.oneCell'=true:=by
 induction l generalizing xs with
 |nil=>simp only[Cells] at h;simp [h]
 |cons d l ih =>
  simp only[Cells] at h
  obtain⟨x,r,rfl,h1,h2⟩:=h
  intro u hu
  rcases List.mem_cons.1 hu with rfl|hu
  ·exact D.one h1
  ·exact ih h2 u hu
structure E (k:Nat) where
 cs:List D
 h:cs.length=k
instance (k:Nat):Rep (E k) where
 sz:=k
 is w S xs e:=Cells w S e.cs xs
 len:=fun {w S cs x} h=>h.len.trans x.h
 one:=fun h=>h.one
 keep:=fun {w w' S S' cs x} h hk=>Cells.keep hk x.cs cs h
def es (k:Nat) (l:List (List D)) (h:∀ c ∈ l,c.length=k):List (E k):=l.attach.map fun c=>⟨c.1,h c.1 c.2⟩
theorem rows_iff {k:Nat}:∀ {l:List (List D)} {xs:List Value},Rows w S k l xs↔∃ l':List (E k),l'.map E.cs=l∧Chunks w S xs l'
 |[],xs=>by
  simp only[Rows]
  constructor
  ·intro h;exact⟨[],rfl,h⟩
  ·rintro⟨l',h1,h2⟩;cases l' <;> simp_all [Chunks]
 |c :: l,xs=>by
  simp only[Rows]
  constructor
  ·rintro⟨a,r,rfl,hl,h1,h2⟩
   obtain⟨l',h3,h4⟩:=rows_iff.1 h2
   exact⟨⟨c,hl⟩ :: l',by simp [h3],a,r,rfl,h1,h4⟩
  ·rintro⟨l',h1,h2⟩
   cases l' with
   |nil=>simp at h1
   |cons e l' =>
    obtain⟨h3,h4⟩:e.cs=c∧l'.map E.cs=l:=by simpa using h1
    obtain⟨a,r,rfl,h5,h6⟩:=h2
    exact⟨a,r,rfl,by rw[← h3];exact e.h,by rw[← h3];exact h5,rows_iff.2 ⟨l',h4,h6⟩⟩
theorem sl_iff {k:Nat} {l:List (List D)} {u:Value}:(D.sl k l).is w S u↔∃ l':List (E k),l'.map E.cs=l∧Lst w S u l':=by
 simp only[D.is]
 constructor
 ·rintro⟨a,cap,xs,hu,h1,h2,h3,h4⟩
  obtain⟨l',h5,h6⟩:=rows_iff.1 h3
  have hl:l'.length=l.length:=by rw[← h5,List.length_map]
  exact⟨l',h5,xs,a,cap,by rw[hl];exact hu,by omega,h2,h6,fun h0=>h4 (by omega)⟩
 ·rintro⟨l',h5,xs,a,cap,hu,h1,h2,h3,h4⟩
  have hl:l'.length=l.length:=by rw[← h5,List.length_map]
  exact⟨a,cap,xs,by rw[← hl];exact hu,by omega,h2,rows_iff.2 ⟨l',h5,h3⟩,fun h0=>h4 (by omega)⟩
theorem Rows.all {k:Nat} {l:List (List D)} {xs:List Value} (h:Rows w S k l xs):∀ c ∈ l,c.length=k:=by
 obtain⟨l',rfl,_⟩:=rows_iff.1 h
 intro c hc
 obtain⟨e,_,rfl⟩:=List.mem_map.1 hc
 exact e.h
def Arr (w:World) (B:Nat) (X T:Nat→Prop) (k:Nat) (v:Value) (l:List (List D)):Prop :=
 ∃ xs,Rows w T k l xs∧((∃ a,v=.slice a 0 0∧l=[])∨∃ g off cap,v=.slice (some ⟨g,off,none⟩) l.length cap∧0<cap∧(B≤g∨X g)∧g<w.heap.size∧¬ T g∧l.length≤cap∧cap≤maxLen∧w.there g off (cap*k)∧w.rangeAt g off xs)
def ArrV (w:World) (B:Nat) (X T:Nat→Prop) (k:Nat) (v:Value) (c:Nat) (xs:List Value):Prop :=
 (∃ a,v=.slice a 0 0∧c=0)∨∃ g off cap n,v=.slice (some ⟨g,off,none⟩) n cap∧0<cap∧(B≤g∨X g)∧g<w.heap.size∧¬ T g∧n≤cap∧cap≤maxLen∧w.there g off (cap*k)∧w.rangeAt g off xs∧c=n*k
def blk:Value→Option Nat
 |.slice (some a) _ (_+1)=>some a.block
 |.pointer (some a)=>some a.block
 |.map (some b)=>some b
 |_=>none
/-! ### Values of a walk -/
inductive V where
 |un
 |d (x:D)
 |nl (k:Nat)
 |z0
 |ub
 |og (i v:Nat)
 |bp (i v o:Nat)
 |ep (i v e o:Nat)
 |fp (cs:List D) (o:Nat)
 |cl (f:FuncId) (l:List V)
 |ag (l:List V)
 |tu (l:List V)
 |vg (i v:Nat)
 |vp (i v e:Nat)
 |ot (i v e:Nat)
 |mh (i v:Nat)
 |fx (k:Nat) (l:List (List D))
inductive O where
 |box (v:Nat) (cs:List V)
 |arr (v k:Nat) (mu:Bool) (l:List (List D))
 |vec (v k:Nat) (cs:List V)
 |mp (v:Nat) (ks:List Int)
def O.live:O→Bool
 |.box _ _=>true
 |.arr _ _ mu _=>mu
 |.vec _ _ _=>true
 |.mp _ _=>true
def O.ver:O→Nat
 |.box v _=>v
 |.arr v _ _ _=>v
 |.vec v _ _=>v
 |.mp v _=>v
def O.kind:O→Option Nat
 |.box _ _=>none
 |.arr _ k _ _=>some (k+2)
 |.vec _ _ _=>some 0
 |.mp _ _=>some 1
abbrev M:=Nat→Option O
abbrev H:=Nat→Value
def mkCl (f:FuncId) (vs:List Value):Value:=if f<1000000 then .func (.func f) #[] vs.toArray else .func (.func (f-1000000)) vs.toArray #[]
theorem mkCl_inj {f:FuncId} {a b:List Value} (h:mkCl f a=mkCl f b):a=b:=by
 unfold mkCl at h
 split at h
 ·injection h with _ _ e;exact List.toArray_inj e
 ·injection h with _ e _;exact List.toArray_inj e
mutual
def VR (m:M) (hd:H) (w:World) (S:Nat→Prop):V→Value→Prop
 |.un,_=>True
 |.d x,u=>x.is w S u
 |.nl _,u=>u=.slice none 0 0
 |.z0,u=>∃ a,u=.slice a 0 0
 |.ub,u=>∃ c,u=.bool c
 |.og i v,u=>u.oneCell'=true∧∃ y,m i=some y∧v≤y.ver∧∀ k mu l,y=.arr v k mu l→u=hd i
 |.bp i v o,u=>u.oneCell'=true∧∃ y,m i=some y∧v≤y.ver∧∀ cs,y=.box v cs→∃ b,hd i=.pointer (some ⟨b,0,none⟩)∧u=.pointer (some ⟨b,o,none⟩)
 |.ep i v e o,u=>u.oneCell'=true∧∃ y,m i=some y∧v≤y.ver∧(∀ k mu l,y=.arr v k mu l→∃ g off n cap,hd i=.slice (some ⟨g,off,none⟩) n cap∧u=.pointer (some ⟨g,off+e*k+o,none⟩))∧∀ cs,y=.box v cs→∃ b,hd i=.pointer (some ⟨b,0,none⟩)∧u=.slice (some ⟨b,0,none⟩) e e
 |.fp cs o,u=>∃ g off xs,u=.pointer (some ⟨g,off+o,none⟩)∧(S g∧g<w.heap.size)∧w.rangeAt g off xs∧Cells w S cs xs
 |.cl f l,u=>∃ vs,u=mkCl f vs∧VRs m hd w S l vs
 |.ag l,u=>∃ vs,u=.agg vs.toArray∧VRs m hd w S l vs∧∀ x ∈ vs,x.oneCell'=true
 |.tu l,u=>∃ vs,u=.tuple vs.toArray∧VRs m hd w S l vs
 |.vg i v,u=>u.oneCell'=true∧∃ y,m i=some y∧v≤y.ver∧∀ k cs,y=.vec v k cs→u=hd i
 |.vp i v e,u=>u.oneCell'=true∧∃ y,m i=some y∧v≤y.ver∧∀ k cs,y=.vec v k cs→∃ g off n cap,hd i=.slice (some ⟨g,off,none⟩) n cap∧u=.pointer (some ⟨g,off+e,none⟩)
 |.ot i v e,u=>u.oneCell'=true∧∃ y,m i=some y∧v≤y.ver∧∀ k mu l,y=.arr v k mu l→∃ g off n cap,hd i=.slice (some ⟨g,off,none⟩) n cap∧e<n∧u=.slice (some ⟨g,off+e*k,none⟩) (n-e) (cap-e)
 |.mh i v,u=>u.oneCell'=true∧∃ y,m i=some y∧v≤y.ver∧∀ ks,y=.mp v ks→u=hd i
 |.fx k l,u=>(D.sl k l).is w S u∧∃ a,u=.slice a l.length l.length
def VRs (m:M) (hd:H) (w:World) (S:Nat→Prop):List V→List Value→Prop
 |[],xs=>xs=[]
 |x :: l,xs=>∃ u r,xs=u :: r∧VR m hd w S x u∧VRs m hd w S l r
end
def O.is (m:M) (hd:H) (w:World) (S X:Nat→Prop) (B:Nat) (h:Value):O→Prop
 |.box v cs=>∃ b vs,h=.pointer (some ⟨b,0,none⟩)∧(B≤b∨X b)∧b<w.heap.size∧¬ S b∧VRs m hd w S cs vs∧(∀ x ∈ vs,x.oneCell'=true)∧w.there b 0 cs.length∧w.rangeAt b 0 vs
 |.arr v k mu l=>if mu then Arr w B X S k h l else (D.sl k l).is w S h
 |.vec v k cs=>∃ vs,VRs m hd w S cs vs∧(∀ x ∈ vs,x.oneCell'=true)∧ArrV w B X S k h cs.length vs
 |.mp v ks=>∃ b es c,h=.map (some b)∧(B≤b∨X b)∧b<w.heap.size∧¬ S b∧w.heap[b]?=some (.map es c)∧es.toList.map (fun e=>(e.key,e.val))=ks.map fun n=>(.int .i64 n,.bool true)
structure Mem (m:M) (hd:H) (w:World) (S X:Nat→Prop) (B:Nat):Prop where
 obj:∀ i o,m i=some o→o.is m hd w S X B (hd i)
 sep:∀ i j oi oj b,i ≠ j→m i=some oi→m j=some oj→oi.live=true→oj.live=true→blk (hd i)=some b→blk (hd j) ≠ some b
 lt:∀ b,S b→b<w.heap.size
 base:B≤w.heap.size
 sX:∀ b,X b→b<B
structure Fr (w w':World) (X:Nat→Prop):Prop where
 os:w'.os=w.os
 tape:w'.tape=w.tape
 output:w'.output=w.output
 size:w.heap.size≤w'.heap.size
 block:∀ k,k<w.heap.size→¬ X k→w'.heap[k]?=w.heap[k]?
theorem Fr.refl (w:World) (X:Nat→Prop):Fr w w X:=⟨rfl,rfl,rfl,Nat.le_refl _,fun _ _ _=>rfl⟩
theorem Fr.trans {a b c:World} {X Y:Nat→Prop} (h:Fr a b X) (k:Fr b c Y) (hY:∀ i,i<a.heap.size→Y i→X i):Fr a c X :=
 ⟨k.os.trans h.os,k.tape.trans h.tape,k.output.trans h.output,Nat.le_trans h.size k.size,fun i hi hx=>(k.block i (Nat.lt_of_lt_of_le hi h.size) fun hy=>hx (hY i hi hy)).trans (h.block i hi hx)⟩
structure Le (m:M) (hd:H) (m':M) (hd':H):Prop where
 le:∀ i o,m i=some o→∃ o',m' i=some o'∧o.ver≤o'.ver∧(o'.ver=o.ver→hd' i=hd i∧o'.kind=o.kind)
theorem Le.refl (m:M) (hd:H):Le m hd m hd:=⟨fun i o h=>⟨o,h,Nat.le_refl _,fun _=>⟨rfl,rfl⟩⟩⟩
variable {m m':M} {hd hd':H} {X:Nat→Prop} {B:Nat}
mutual
theorem VR.keep (hl:Le m hd m' hd') (hk:∀ b,S b→b<w.heap.size→S' b∧w'.heap[b]?=w.heap[b]?):∀ (x:V) (u:Value),VR m hd w S x u→VR m' hd' w' S' x u
 |.un,u,h=>by simp only[VR]
 |.d x,u,h=>by simp only[VR] at h ⊢;exact D.keep hk x u h
 |.nl _,u,h=>by simp only[VR] at h ⊢;exact h
 |.z0,u,h=>by simp only[VR] at h ⊢;exact h
 |.ub,u,h=>by simp only[VR] at h ⊢;exact h
 |.og i v,u,h=>by
  simp only[VR] at h ⊢
  obtain⟨h0,y,h1,h2,h3⟩:=h
  obtain⟨y',h4,h5,h6⟩:=hl.le i y h1
  refine⟨h0,y',h4,by omega,fun k mu l e=>?_⟩
  subst e
  obtain⟨h7,h8⟩:=h6 (by simp only[O.ver] at *;omega)
  rw[h7]
  cases y with
  |box v' cs=>simp [O.kind] at h8
  |vec v' kk' cs=>simp [O.kind] at h8
  |mp v' ks'=>simp [O.kind] at h8
  |arr v' k' mu' l' =>
   simp only[O.ver] at *
   obtain rfl:v'=v:=by omega
   exact h3 k' mu' l' rfl
 |.bp i v o,u,h=>by
  simp only[VR] at h ⊢
  obtain⟨h0,y,h1,h2,h3⟩:=h
  obtain⟨y',h4,h5,h6⟩:=hl.le i y h1
  refine⟨h0,y',h4,by omega,fun cs e=>?_⟩
  subst e
  obtain⟨h7,h8⟩:=h6 (by simp only[O.ver] at *;omega)
  rw[h7]
  cases y with
  |arr v' k' mu' l'=>simp [O.kind] at h8
  |vec v' kk' cs'=>simp [O.kind] at h8
  |mp v' ks'=>simp [O.kind] at h8
  |box v' cs' =>
   simp only[O.ver] at *
   obtain rfl:v'=v:=by omega
   exact h3 cs' rfl
 |.ep i v e o,u,h=>by
  simp only[VR] at h ⊢
  obtain⟨h0,y,h1,h2,h3⟩:=h
  obtain⟨y',h4,h5,h6⟩:=hl.le i y h1
  refine⟨h0,y',h4,by omega,fun k mu l e=>?_,fun cs e=>?_⟩
  ·subst e
   obtain⟨h7,h8⟩:=h6 (by simp only[O.ver] at *;omega)
   rw[h7]
   cases y with
   |box v' cs=>simp [O.kind] at h8
   |vec v' kk' cs=>simp [O.kind] at h8
   |mp v' ks'=>simp [O.kind] at h8
   |arr v' k' mu' l' =>
    simp only[O.ver] at *
    obtain rfl:v'=v:=by omega
    simp only[O.kind,Option.some.injEq,Nat.add_right_cancel_iff] at h8
    subst h8
    exact h3.1 k mu' l' rfl
  ·subst e
   obtain⟨h7,h8⟩:=h6 (by simp only[O.ver] at *;omega)
   rw[h7]
   cases y with
   |arr v' k' mu' l'=>simp [O.kind] at h8
   |vec v' kk' cs'=>simp [O.kind] at h8
   |mp v' ks'=>simp [O.kind] at h8
   |box v' cs' =>
    simp only[O.ver] at *
    obtain rfl:v'=v:=by omega
    exact h3.2 cs' rfl
 |.fp cs o,u,h=>by
  simp only[VR] at h ⊢
  obtain⟨g,off,xs,hu,hS,hr,hc⟩:=h
  exact⟨g,off,xs,hu,⟨(hk g hS.1 hS.2).1,lt_of_same hS.2 (hk g hS.1 hS.2).2⟩,rangeAt_congr hr (hk g hS.1 hS.2).2,Cells.keep hk cs xs hc⟩
 |.cl f l,u,h=>by
  simp only[VR] at h ⊢
  obtain⟨vs,hu,h⟩:=h
  exact⟨vs,hu,VRs.keep hl hk l vs h⟩
 |.ag l,u,h=>by
  simp only[VR] at h ⊢
  obtain⟨vs,hu,h,h1⟩:=h
  exact⟨vs,hu,VRs.keep hl hk l vs h,h1⟩
 |.tu l,u,h=>by
  simp only[VR] at h ⊢
  obtain⟨vs,hu,h⟩:=h
  exact⟨vs,hu,VRs.keep hl hk l vs h⟩
 |.vg i v,u,h=>by
  simp only[VR] at h ⊢
  obtain⟨h0,y,h1,h2,h3⟩:=h
  obtain⟨y',h4,h5,h6⟩:=hl.le i y h1
  refine⟨h0,y',h4,by omega,fun kq cs e=>?_⟩
  subst e
  obtain⟨h7,h8⟩:=h6 (by simp only[O.ver] at *;omega)
  rw[h7]
  cases y with
  |box v' cs=>simp [O.kind] at h8
  |arr v' k' mu' l'=>simp [O.kind] at h8
  |mp v' ks'=>simp [O.kind] at h8
  |vec v' kk' cs' =>
   simp only[O.ver] at *
   obtain rfl:v'=v:=by omega
   exact h3 kk' cs' rfl
 |.vp i v e,u,h=>by
  simp only[VR] at h ⊢
  obtain⟨h0,y,h1,h2,h3⟩:=h
  obtain⟨y',h4,h5,h6⟩:=hl.le i y h1
  refine⟨h0,y',h4,by omega,fun kq cs e=>?_⟩
  subst e
  obtain⟨h7,h8⟩:=h6 (by simp only[O.ver] at *;omega)
  rw[h7]
  cases y with
  |box v' cs=>simp [O.kind] at h8
  |arr v' k' mu' l'=>simp [O.kind] at h8
  |mp v' ks'=>simp [O.kind] at h8
  |vec v' kk' cs' =>
   simp only[O.ver] at *
   obtain rfl:v'=v:=by omega
   exact h3 kk' cs' rfl
 |.ot i v e,u,h=>by
  simp only[VR] at h ⊢
  obtain⟨h0,y,h1,h2,h3⟩:=h
  obtain⟨y',h4,h5,h6⟩:=hl.le i y h1
  refine⟨h0,y',h4,by omega,fun k mu l e=>?_⟩
  subst e
  obtain⟨h7,h8⟩:=h6 (by simp only[O.ver] at *;omega)
  rw[h7]
  cases y with
  |box v' cs=>simp [O.kind] at h8
  |vec v' kk' cs=>simp [O.kind] at h8
  |mp v' ks'=>simp [O.kind] at h8
  |arr v' k' mu' l' =>
   simp only[O.ver] at *
   obtain rfl:v'=v:=by omega
   simp only[O.kind,Option.some.injEq,Nat.add_right_cancel_iff] at h8
   subst h8
   exact h3 k mu' l' rfl
 |.fx k l,u,h=>by
  simp only[VR] at h ⊢
  exact⟨D.keep hk _ _ h.1,h.2⟩
 |.mh i v,u,h=>by
  simp only[VR] at h ⊢
  obtain⟨h0,y,h1,h2,h3⟩:=h
  obtain⟨y',h4,h5,h6⟩:=hl.le i y h1
  refine⟨h0,y',h4,by omega,fun ks e=>?_⟩
  subst e
  obtain⟨h7,h8⟩:=h6 (by simp only[O.ver] at *;omega)
  rw[h7]
  cases y with
  |box v' cs=>simp [O.kind] at h8
  |arr v' k' mu' l'=>simp [O.kind] at h8
  |vec v' kk' cs'=>simp [O.kind] at h8
  |mp v' ks' =>
   simp only[O.ver] at *
   obtain rfl:v'=v:=by omega
   exact h3 ks' rfl
theorem VRs.keep (hl:Le m hd m' hd') (hk:∀ b,S b→b<w.heap.size→S' b∧w'.heap[b]?=w.heap[b]?):∀ (l:List V) (xs:List Value),VRs m hd w S l xs→VRs m' hd' w' S' l xs
 |[],xs,h=>by simp only[VRs] at h ⊢;exact h
 |x :: l,xs,h=>by
  simp only[VRs] at h ⊢
  obtain⟨u,r,hx,h1,h2⟩:=h
  exact⟨u,r,hx,VR.keep hl hk x u h1,VRs.keep hl hk l r h2⟩
end
theorem VRs.len {l:List V} {xs:List Value} (h:VRs m hd w S l xs):xs.length=l.length:=by
 induction l generalizing xs with
 |nil=>simp only[VRs] at h;simp [h]
 |cons d l ih=>simp only[VRs] at h;obtain⟨x,r,rfl,h1,h2⟩:=h;simp [ih h2]
theorem VRs.get {l:List V} {xs:List Value} (h:VRs m hd w S l xs):∀ (i:Nat) (x:V),l[i]?=some x→∃ u,xs[i]?=some u∧VR m hd w S x u:=by
 induction l generalizing xs with
 |nil=>intro i x h;simp at h
 |cons d l ih =>
  simp only[VRs] at h
  obtain⟨u,r,rfl,h1,h2⟩:=h
  intro i x hx
  cases i with
  |zero=>simp at hx;subst hx;exact⟨u,rfl,h1⟩
  |succ i=>exact ih h2 i x (by simpa using hx)
theorem VRs.append {l l':List V} {xs xs':List Value} (h:VRs m hd w S l xs) (h':VRs m hd w S l' xs'):VRs m hd w S (l++l') (xs++xs'):=by
 induction l generalizing xs with
 |nil=>simp only[VRs] at h;subst h;exact h'
 |cons d l ih=>simp only[VRs] at h;obtain⟨x,r,rfl,h1,h2⟩:=h;exact⟨x,r++xs',rfl,h1,ih h2⟩
theorem VRs.drop {l:List V} {xs:List Value} (h:VRs m hd w S l xs):∀ n,VRs m hd w S (l.drop n) (xs.drop n):=by
 induction l generalizing xs with
 |nil=>simp only[VRs] at h;subst h;intro n;simp [VRs]
 |cons d l ih =>
  have h0:=h
  simp only[VRs] at h;obtain⟨x,r,rfl,h1,h2⟩:=h
  intro n
  cases n with
  |zero=>exact h0
  |succ n=>exact ih h2 n
theorem VRs.take {l:List V} {xs:List Value} (h:VRs m hd w S l xs):∀ n,VRs m hd w S (l.take n) (xs.take n):=by
 induction l generalizing xs with
 |nil=>simp only[VRs] at h;subst h;intro n;simp [VRs]
 |cons d l ih =>
  simp only[VRs] at h;obtain⟨x,r,rfl,h1,h2⟩:=h
  intro n
  cases n with
  |zero=>simp [VRs]
  |succ n=>exact⟨x,_,by simp,h1,ih h2 n⟩
theorem cells_VRs {l:List D} {xs:List Value} (h:Cells w S l xs):VRs m hd w S (l.map V.d) xs:=by
 induction l generalizing xs with
 |nil=>simp only[Cells] at h;subst h;simp [VRs]
 |cons d l ih=>simp only[Cells] at h;obtain⟨x,r,rfl,h1,h2⟩:=h;exact⟨x,r,rfl,by simp only[VR];exact h1,ih h2⟩
theorem ArrV.keep {T T':Nat→Prop} {k:Nat} {v:Value} {n:Nat} {xs:List Value} (h:ArrV w B X T k v n xs) (hs:w.heap.size≤w'.heap.size) (hb:∀ b,blk v=some b→w'.heap[b]?=w.heap[b]?∧¬ T' b):ArrV w' B X T' k v n xs:=by
 refine h.imp id fun⟨g,off,cap,nn,hv,h0,h1,h2,h3,h4,h5,h6,h7,h8⟩=>?_
 obtain⟨e1,e2⟩:=hb g (by subst hv;cases cap with|zero=>omega|succ c=>rfl)
 exact⟨g,off,cap,nn,hv,h0,h1,by omega,e2,h4,h5,there_congr h6 e1,rangeAt_congr h7 e1,h8⟩
theorem ArrV.lt {T:Nat→Prop} {k:Nat} {v:Value} {n:Nat} {xs:List Value} (h:ArrV w B X T k v n xs) {b:Nat} (hb:blk v=some b):b<w.heap.size∧¬ T b∧(B≤b∨X b):=by
 rcases h with ⟨a,hv,_⟩|⟨g,off,cap,nn,hv,h0,h1,h2,h3,_⟩
 ·rw[hv] at hb;cases a <;> simp [blk] at hb
 ·rw[hv] at hb
  cases cap with
  |zero=>omega
  |succ c=>simp only[blk,Option.some.injEq] at hb;subst hb;exact⟨h2,h3,h1⟩
theorem Arr.keep {T T':Nat→Prop} {k:Nat} {v:Value} {l:List (List D)} {Z:Nat→Prop} (h:Arr w B X T k v l) (hs:w.heap.size≤w'.heap.size) (hk:∀ b,T b→b<w.heap.size→T' b∧w'.heap[b]?=w.heap[b]?)
  (hb:∀ b,blk v=some b→w'.heap[b]?=w.heap[b]?∧¬ T' b):Arr w' B X T' k v l:=by
 obtain⟨xs,hx,h⟩:=h
 refine⟨xs,Rows.keep hk k l xs hx,h.imp id fun⟨g,off,cap,hv,h0,h1,h2,h3,h4,h5,h6,h7⟩=>?_⟩
 obtain⟨e1,e2⟩:=hb g (by subst hv;cases cap with|zero=>omega|succ c=>rfl)
 exact⟨g,off,cap,hv,h0,h1,by omega,e2,h4,h5,there_congr h6 e1,rangeAt_congr h7 e1⟩
theorem Mem.next {Z:Nat→Prop} (h:Mem m hd w S X B) (hs:w.heap.size≤w'.heap.size) (hz:∀ b,b<w.heap.size→¬ Z b→w'.heap[b]?=w.heap[b]?)
  (hSZ:∀ b,S b→¬ Z b) (hSS:∀ b,S b→S' b) (hlt:∀ b,S' b→b<w'.heap.size) (hl:Le m hd m' hd')
  (hobj:∀ i o,m' i=some o→(m i=some o∧hd' i=hd i∧∀ b,o.live=true→blk (hd i)=some b→¬ Z b∧¬ S' b)∨o.is m' hd' w' S' X B (hd' i))
  (hsep:∀ i j oi oj b,i ≠ j→m' i=some oi→m' j=some oj→oi.live=true→oj.live=true→blk (hd' i)=some b→blk (hd' j) ≠ some b):Mem m' hd' w' S' X B:=by
 have hkeep:∀ b,S b→b<w.heap.size→S' b∧w'.heap[b]?=w.heap[b]?:=fun b hb hlt=>⟨hSS b hb,hz b hlt (hSZ b hb)⟩
 refine⟨fun i o ho=>?_,hsep,hlt,Nat.le_trans h.base hs,h.sX⟩
 rcases hobj i o ho with ⟨h1,h2,h3⟩|h1
 ·have hi:=h.obj i o h1
  rw[h2]
  cases o with
  |box v cs =>
   simp only[O.is] at hi ⊢
   obtain⟨b,vs,hb,h4,h5,h6,h7,h8,h9,h10⟩:=hi
   obtain⟨hZ,hS⟩:=h3 b rfl (by rw[hb];rfl)
   exact⟨b,vs,hb,h4,by omega,hS,VRs.keep hl hkeep cs vs h7,h8,there_congr h9 (hz b h5 hZ),rangeAt_congr h10 (hz b h5 hZ)⟩
  |arr v k mu l =>
   simp only[O.is] at hi ⊢
   cases mu with
   |true =>
    simp only[if_true] at hi ⊢
    refine Arr.keep (Z:=Z) hi hs hkeep fun b hb=>?_
    obtain⟨hZ,hS⟩:=h3 b rfl hb
    refine⟨hz b ?_ hZ,hS⟩
    obtain⟨xs,_,hx⟩:=hi
    rcases hx with ⟨a,hv,_⟩|⟨g,off,cap,hv,h0,_,hlt,_⟩
    ·rw[hv] at hb;cases a <;> simp [blk] at hb
    ·rw[hv] at hb
     cases cap with
     |zero=>omega
     |succ c=>simp [blk] at hb;omega
   |false =>
    simp only[Bool.false_eq_true,if_false] at hi ⊢
    exact D.keep hkeep _ _ hi
  |vec v kk cs =>
   simp only[O.is] at hi ⊢
   obtain⟨vs,h7,h8,h9⟩:=hi
   refine⟨vs,VRs.keep hl hkeep cs vs h7,h8,h9.keep hs fun b hb=>?_⟩
   obtain⟨hZ,hS⟩:=h3 b rfl hb
   exact⟨hz b (h9.lt hb).1 hZ,hS⟩
  |mp v ks =>
   simp only[O.is] at hi ⊢
   obtain⟨b,es,c,e,h4,h5,h6,h7,h8⟩:=hi
   obtain⟨hZ,hS⟩:=h3 b rfl (by rw[e];rfl)
   exact⟨b,es,c,e,h4,by omega,hS,(hz b h5 hZ).trans h7,h8⟩
 ·exact h1
end
end Go.Proofs.YticdbambknflgaaGreat.Sim
end
section
namespace Go.Proofs.YticdbambknflgaaGreat.Sim
open Go Go.RowKit Go.Deep
set_option linter.unusedVariables false
inductive AV where
 |t (n:Nat)
 |c (x:V)
inductive K where
 |mov|pick
 |alloc (z:List V)
 |box
 |build (z:List V) (fs:List (Nat × Nat))
 |bsl (k:Nat) (z:List V) (n:Nat) (fs:List Nat)
 |load (n:Nat) (g:Bool)
 |store (n:Nat)
 |nck
 |bin (op:BinOp)
 |beq (ne:Bool)
 |isn (ne:Bool)
 |seq (n:Nat) (ne:Bool)
 |un (op:UnOp)
 |conv (k:IntKind)
 |mkf (f:FuncId)
 |mks (k:Nat) (z:List V) (bytes:Nat)
 |slc (lo hi mx:Bool) (k:Nat)
 |fad (off:Nat)
 |fld (off n:Nat) (g:Bool)
 |iad (k:Nat)
 |iada (n k:Nat)
 |ixs
 |ixa (n k:Nat) (g:Bool)
 |ext (j:Nat)
 |call (f:FuncId)
 |callv
 |len
 |lens
 |app (k bytes:Nat)
 |cpy (k:Nat)
 |mn|mx
 |bslv (n:Nat)
 |bslw (k:Nat)
 |tail (k:Nat)
 |cutm (k:Nat)
 |fxc (k:Nat)
 |mkm
 |lkp
 |mup
 |ldg (g:Nat)
 |ifn (ne:Bool)
 |tob|tos
 |bad
structure AO where
 dst:Option Nat
 k:K
 xs:List AV
 after:List Nat
 guard:Option (Nat × Nat × Bool)
structure NF where
 n:Nat
 f:List Nat
/-! ### Out of the program's operations -/
section
variable (P:Program)
def zeroV:Nat→TypeId→Option (List V)
 |0,_=>none
 |n+1,t=>match P.underlying t with
  |some (.int k)=>some [.d (.at (.int k 0))]
  |some .bool=>some [.d (.at (.bool false))]
  |some .string=>some [.d (.at (.string ⟨#[]⟩))]
  |some (.slice e)=>some [.nl (P.cellsOf e)]
  |some (.pointer _)=>some [.d (.at (.pointer none))]
  |some (.func _ _ _)=>some [.d (.at .nilFunc)]
  |some (.interface _)=>some [.d (.at .nilIface)]
  |some (.struct fs)=>(fs.toList.mapM fun f=>zeroV n f.type).map List.flatten
  |some (.array c e)=>(zeroV n e).map fun z=>(List.replicate c z).flatten
  |_=>none
def zOk:V→Value→Bool
 |.d (.at (.int k n)),.int k' n'=>k == k'&&n == n'
 |.d (.at (.bool b)),.bool b'=>b == b'
 |.d (.at (.string s)),.string s'=>s.data == s'.data
 |.d (.at (.pointer none)),.pointer none=>true
 |.d (.at .nilFunc),.nilFunc=>true
 |.d (.at .nilIface),.nilIface=>true
 |.nl _,.slice none 0 0=>true
 |_,_=>false
def zOks:List V→List Value→Bool
 |[],[]=>true
 |z :: zs,u :: us=>zOk z u&&zOks zs us
 |_,_=>false
def zcs (t:TypeId):Option (List V):=match P.info? t,zeroV P 8 t with
 |some i,some z=>match i.zero with
  |some v=>if zOks z v.cells.toList&&z.length == i.size then some z else none
  |none=>none
 |_,_=>none
def cv (t:TypeId):Value→Option V
 |.int k n=>some (.d (.at (.int k n)))
 |.bool b=>some (.d (.at (.bool b)))
 |.string s=>some (.d (.at (.string s)))
 |.pointer none=>some (.d (.at (.pointer none)))
 |.nilFunc=>some (.d (.at .nilFunc))
 |.nilIface=>some (.d (.at .nilIface))
 |.slice none 0 0=>match P.underlying t with
  |some (.slice e)=>some (.nl (P.cellsOf e))
  |_=>some (.nl 1)
 |_=>none
def av (t:TypeId):Operand→Option AV
 |.tmp n=>some (.t n)
 |.const v=>(cv P t v).map .c
 |.func f=>if f<1000000 then some (.c (.cl f [])) else none
 |.global _=>none
def avs:List TypeId→List Operand→Option (List AV)
 |_,[]=>some []
 |ts,x :: xs=>match av P (ts.headD 0) x,avs ts.tail xs with
  |some y,some ys=>some (y :: ys)
  |_,_=>none
def form (t:TypeId):Option (Nat × Bool):=match P.info? t,P.underlying t with
 |some i,some d=>if d.isRow||i.size == 1 then some (i.size,d.isRow) else none
 |_,_=>none
def elemOf' (t:TypeId):Option (TypeId × Nat × Nat):=match P.underlying t with
 |some (.slice e)=>match P.info? e with
  |some i=>some (e,i.size,i.bytes)
  |none=>none
 |_=>none
def placeF (t:TypeId):Option (Nat→Option (Nat × Nat)):=match P.info? t,P.underlying t with
 |some it,some (.array _ e)=>(P.info? e).map fun ie=>fun i=>some (i*ie.size,ie.size)
 |some it,some (.struct fields)=>match fields.toList.mapM (fun f=>(P.info? f.type).map fun i=>(f.offset,i.size)) with
  |some places=>some (places.toArray[·]?)
  |none=>none
 |_,_=>none
def partT (t:TypeId) (i:Nat):TypeId:=match P.underlying t with
 |some (.array _ e)=>e
 |some (.struct fields)=>((fields[i]?).map (·.type)).getD 0
 |_=>0
def offs (f:Nat→Option (Nat × Nat)):List (Nat × Operand)→Option (List (Nat × Nat))
 |[]=>some []
 |(i,_) :: r=>match f i,offs f r with
  |some o,some os=>some (o :: os)
  |_,_=>none
def op3:List (Option Operand)→List Operand
 |[]=>[]
 |some x :: r=>x :: op3 r
 |none :: r=>op3 r
def intFields:List Field→Nat→Bool
 |[],_=>true
 |f :: fs,off=>f.offset == off&&f.name != "_"&&(match P.underlying f.type with
  |some (.int _)=>true
  |_=>false)&&intFields fs (off+1)
def isBx (k:Nat) (z:List V) (l c:Operand):Bool:=match k,z,l,c with
 |1,[.nl _],.tmp i,.tmp j=>i == j
 |_,_,_,_=>false
def isNilO:Operand→Bool
 |.const (.slice none 0 0)=>true
 |_=>false
def isLt (k:Nat) (z:List V) (n:Nat) (ps:List (Nat × Operand)):Bool:=match k,z with
 |1,[.nl _]=>(ps.map (·.1)) == List.range n&&ps.any fun p=>isNilO p.2
 |_,_=>false
def isDst (f:List Nat):Option Nat→Bool
 |some d=>f.any (Nat.beq d)
 |none=>false
def isMap (t:TypeId):Bool:=match P.underlying t with
 |some (.map kt et)=>(match P.underlying kt with
  |some (.int .i64)=>true
  |_=>false)&&(match P.info? et with
  |some i=>(match i.zero with
   |some (.bool false)=>true
   |_=>false)
  |none=>false)
 |_=>false
def isCT:Operand→Bool
 |.const (.bool true)=>true
 |_=>false
def isCN:Operand→Bool
 |.const .nilIface=>true
 |_=>false
def opX (f:List Nat) (o:Oper):Option (K × List Operand × List TypeId) :=
 match o.op with
 |.buildSlice t n ps=>if isDst f o.dst then (match elemOf' P t with
  |some (e,1,_)=>match zcs P e with
   |some [.nl _]=>if (ps.toList.map (·.1) == List.range n)=true∧n≤1000 then some (.bslv n,ps.toList.map (·.2),ps.toList.map fun _=>e) else none
   |_=>none
  |some (e,k+2,_)=>match zcs P e with
   |some (_ :: _)=>if n=1∧k≤900∧(ps.toList.map (·.1) == [0])=true then some (.bslw (k+2),ps.toList.map (·.2),ps.toList.map fun _=>e) else none
   |_=>none
  |_=>none) else none
 |.slice t x (some lo) none none=>if isDst f o.dst then (match P.underlying t with
  |some (.slice e)=>match P.info? e with
   |some i=>if 0<i.size then some (.tail i.size,[x,lo],[t,0]) else none
   |none=>none
  |_=>none) else none
 |.slice t x none (some hi) (some mx)=>if isDst f o.dst then (match P.underlying t with
  |some (.slice e)=>match P.info? e with
   |some i=>if 0<i.size then some (.cutm i.size,[x,hi,mx],[t,0,0]) else none
   |none=>none
  |_=>none) else if isDst f (o.dst.map (·+1000000)) then (match P.underlying t with
  |some (.slice e)=>match P.info? e with
   |some i=>if 0<i.size then some (.fxc i.size,[x,hi,mx],[t,0,0]) else none
   |none=>none
  |_=>none) else none
 |.makeMap t none=>if isMap P t then some (.mkm,[],[]) else none
 |.lookup t x y false=>if isMap P t then some (.lkp,[x,y],[t,0]) else none
 |.mapUpdate t x y z=>if isMap P t&&isCT z then some (.mup,[x,y],[t,0]) else none
 |.load t (.global g)=>match form P t with
  |some (1,false)=>some (.ldg g,[],[])
  |_=>none
 |.binOp .eql t x y u=>match P.underlying t with
  |some (.interface _)=>if isCN y then some (.ifn false,[x,y],[t,u]) else none
  |_=>none
 |.binOp .neq t x y u=>match P.underlying t with
  |some (.interface _)=>if isCN y then some (.ifn true,[x,y],[t,u]) else none
  |_=>none
 |.convert s t x=>match P.underlying s,P.underlying t with
  |some .string,some (.slice e)=>match P.underlying e with
   |some (.int .u8)=>some (.tob,[x],[s])
   |_=>none
  |some (.slice e),some .string=>match P.underlying e with
   |some (.int .u8)=>some (.tos,[x],[s])
   |_=>none
  |_,_=>none
 |_=>none
def opK0 (o:Oper):Option (K × List Operand × List TypeId) :=
 match o.op with
 |.move x=>some (.mov,[x],[o.type])
 |.assign x=>some (.mov,[x],[o.type])
 |.pick c a b=>some (.pick,[c,a,b],[0,o.type,o.type])
 |.alloc t=>(zcs P t).map fun z=>(.alloc z,[],[])
 |.box t x=>some (.box,[x],[t])
 |.build t ps=>match placeF P t,zcs P t with
  |some f,some z=>match offs f ps.toList with
   |some os=>some (.build z os,ps.toList.map (·.2),ps.toList.map fun p=>partT P t p.1)
   |none=>none
  |_,_=>none
 |.buildSlice t n ps=>match elemOf' P t with
  |some (e,k,_)=>match zcs P e with
   |some z=>if n*k≤1000∧0<k then (if isLt k z n ps.toList then some (.bsl 1 [] n (List.range n),ps.toList.map (·.2),ps.toList.map fun _=>e) else some (.bsl k z n (ps.toList.map (·.1)),ps.toList.map (·.2),ps.toList.map fun _=>e)) else none
   |none=>none
  |none=>none
 |.load t x=>(form P t).map fun (n,g)=>(.load n g,[x],[0])
 |.store t x y=>(form P t).map fun (n,_)=>(.store n,[x,y],[0,t])
 |.nilCheck x=>some (.nck,[x],[0])
 |.binOp op t x y u=>match P.underlying t,op with
  |some .bool,.eql=>some (.beq false,[x,y],[t,u])
  |some .bool,.neq=>some (.beq true,[x,y],[t,u])
  |some (.slice _),.eql=>some (.isn false,[x,y],[t,u])
  |some (.slice _),.neq=>some (.isn true,[x,y],[t,u])
  |some (.struct fs),.eql=>if intFields P fs.toList 0&&!P.stoodInHeld t&&!P.eqGuardType P.depth t then some (.seq fs.size false,[x,y],[t,u]) else none
  |some (.struct fs),.neq=>if intFields P fs.toList 0&&!P.stoodInHeld t&&!P.eqGuardType P.depth t then some (.seq fs.size true,[x,y],[t,u]) else none
  |_,_=>some (.bin op,[x,y],[t,u])
 |.unOp op t x=>some (.un op,[x],[t])
 |.convert s t x=>match P.underlying t with
  |some (.int k)=>if (P.underlying s).isSome then some (.conv k,[x],[0]) else none
  |_=>none
 |.makeFunc (.func f) first cs=>if f<1000000 then (if first.size == 0 then some (.mkf f,cs.toList,[]) else if cs.size == 0 then some (.mkf (f+1000000),first.toList,[]) else none) else none
 |.makeSlice t l c=>match elemOf' P t with
  |some (e,k,by_)=>match zcs P e with
   |some z=>if 0<k then (if isBx k z l c then some (.mks 1 [] by_,[l,c],[0,0]) else some (.mks k z by_,[l,c],[0,0])) else none
   |none=>none
  |none=>none
 |.slice t x lo hi mx=>match P.underlying t with
  |some .string=>if mx.isNone then some (.slc lo.isSome hi.isSome false 0,op3 [some x,lo,hi],[t]) else none
  |some (.slice e)=>match P.info? e with
   |some i=>if 0<i.size then some (.slc lo.isSome hi.isSome mx.isSome i.size,op3 [some x,lo,hi,mx],[t]) else none
   |none=>none
  |_=>none
 |.fieldAddr t x j=>match P.underlying t with
  |some (.struct fs)=>match fs[j]? with
   |some f=>match P.info? f.type with
    |some i=>if 0<i.size then some (.fad f.offset,[x],[0]) else none
    |none=>none
   |none=>none
  |_=>none
 |.field t x j=>match P.underlying t with
  |some (.struct fs)=>match fs[j]? with
   |some f=>(form P f.type).map fun (n,g)=>(.fld f.offset n g,[x],[0])
   |none=>none
  |_=>none
 |.indexAddr t x y=>match P.underlying t with
  |some (.slice e)=>match P.info? e with
   |some i=>if 0<i.size then some (.iad i.size,[x,y],[t,0]) else none
   |none=>none
  |some (.array n e)=>match P.info? e with
   |some i=>if 0<i.size then some (.iada n i.size,[x,y],[t,0]) else none
   |none=>none
  |_=>none
 |.index t x y=>match P.underlying t with
  |some .string=>some (.ixs,[x,y],[t,0])
  |some (.array n e)=>match form P e with
   |some (k,g)=>some (.ixa n k g,[x,y],[t,0])
   |none=>none
  |_=>none
 |.extract x j=>some (.ext j,[x],[0])
 |.call c=>match c.callee with
  |.value (.func f)=>match P.funcs[f]? with
   |some fn=>if fn.body.isSome&&!(fn.name == "runtime.NumGoroutine") then some (.call f,c.args.toList,c.argTypes.toList) else none
   |none=>none
  |.value (.tmp t)=>some (.callv,.tmp t :: c.args.toList,0 :: c.argTypes.toList)
  |.builtin .len=>match c.args.toList,c.argTypes.toList with
   |[x],[t]=>match P.underlying t with
    |some .string=>some (.lens,[x],[t])
    |some (.slice _)=>some (.len,[x],[t])
    |_=>none
   |_,_=>none
  |.builtin .append=>match c.args.toList,c.argTypes.toList with
   |[x,y],[t,tx]=>match elemOf' P t,P.underlying tx with
    |some (e,k,by_),some (.slice _)=>if (zcs P e).isSome then some (.app k by_,[x,y],[t,tx]) else none
    |_,_=>none
   |_,_=>none
  |.builtin .copy=>match c.args.toList,c.argTypes.toList with
   |[x,y],[t,tx]=>match elemOf' P t,P.underlying tx with
    |some (e,k,by_),some (.slice _)=>if k=1 then some (.cpy k,[x,y],[t,tx]) else none
    |_,_=>none
   |_,_=>none
  |.builtin .min=>match c.args.toList with
   |[x,y]=>some (.mn,[x,y],c.argTypes.toList)
   |_=>none
  |.builtin .max=>match c.args.toList with
   |[x,y]=>some (.mx,[x,y],c.argTypes.toList)
   |_=>none
  |_=>none
 |_=>none
def opK (f:List Nat) (o:Oper):Option (K × List Operand × List TypeId):=match opX P f o with
 |some r=>some r
 |none=>match opK0 P o with
  |some r=>some r
  |none=>some (.bad,[],[])
def befores:Bool→Oper→List Nat
 |false,_=>[]
 |true,o=>o.after.toList.filterMap fun e=>if Region.binds .any e then some e.on else none
def dstOK (N:Nat):Option Nat→Bool
 |some d=>decide (d<N)
 |none=>true
def opA (N:NF) (dr:Bool) (ops:Array Oper) (o:Oper):Option AO:=match opK P N.f o with
 |some (k,xs,ts)=>match avs P ts xs with
  |some ys=>if dstOK N.n o.dst=true then (match o.guard with
   |none=>some ⟨o.dst,k,ys,befores dr o,none⟩
   |some (j,b)=>match (ops[j]?).bind (·.dst) with
    |some d=>some ⟨o.dst,k,ys,befores dr o,some (j,d,b)⟩
    |none=>none) else none
  |none=>none
 |none=>none
def opAs (N:NF) (dr:Bool) (ops:Array Oper):List Oper→Option (List AO)
 |[]=>some []
 |o :: r=>match opA P N dr ops o,opAs N dr ops r with
  |some y,some ys=>some (y :: ys)
  |_,_=>none
end
structure Clr where
 sl:Nat
 il:Nat
 d1:Nat
 d2:Nat
 d3:Nat
 k:Nat
 z:List V
def clrOf (P:Program) (N:Nat):Bool→List Oper→Option Clr
 |false,[⟨some d1,.move (.tmp sl),_,_,_,none⟩,⟨some d2,.move (.tmp il),_,_,_,none⟩,⟨some d3,.slice t (.tmp x) (some (.tmp y)) none none,_,_,_,none⟩,⟨none,.call c,_,_,_,none⟩] =>
  match c.callee,c.args.toList,c.argTypes.toList,elemOf' P t with
  |.builtin .clear,[.tmp u],[t'],some (e,k,_)=>match zcs P e with
   |some z=>if x=d1∧y=d2∧u=d3∧t'=t∧d1 ≠ d2∧il ≠ d1∧d1<N∧d2<N∧d3<N∧0<k then some ⟨sl,il,d1,d2,d3,k,z⟩ else none
   |none=>none
  |_,_,_,_=>none
 |_,_=>none
inductive AC where
 |skip
 |clr (c:Clr)
 |region (ops:List AO) (draw:Bool)
 |seq (a b:AC)
 |cond (c:AV) (a b:AC)
 |block (id:Nat) (a:AC)
 |loop (a:AC)
 |exit (id:Nat)
 |ret
def compile (P:Program) (N:NF):Code→Option AC
 |.skip=>some .skip
 |.region _ ops draw=>match clrOf P N.n draw ops.toList with
  |some c=>some (.clr c)
  |none=>(opAs P N draw ops ops.toList).map fun l=>.region l draw
 |.seq a b=>match compile P N a,compile P N b with
  |some x,some y=>some (.seq x y)
  |_,_=>none
 |.cond c a b=>match av P 0 c,compile P N a,compile P N b with
  |some c,some x,some y=>some (.cond c x y)
  |_,_,_=>none
 |.block id a=>(compile P N a).map (.block id)
 |.loop a=>(compile P N a).map .loop
 |.exit id=>some (.exit id)
 |.ret=>some .ret
 |_=>none
end Go.Proofs.YticdbambknflgaaGreat.Sim
end
