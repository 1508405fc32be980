/- The other operations: of no program. Conditions: none. -/
import Derived.Test.YticdbambknflgaaGreatMSimE
section
namespace Go.Proofs.YticdbambknflgaaGreat.Sim
open Go Go.RowKit Go.Deep
set_option linter.unusedVariables false
section
variable {P:Program} {X:Nat→Prop} {B:Nat} {o:Oper} {a:Act} {m:M} {hd:H} {w:World} {S:Nat→Prop} {v:V} {us:U}
theorem up_id {α:Type} (f:Nat→α) (i:Nat):up f i (f i)=f:=by funext j;by_cases e:j=i <;> simp [up,e]
theorem StepOK.wrArr {m1:M} {us1:U} {S1:Nat→Prop} (h1:Out X B m hd w S m1 hd w S1) (hus:ups m us1=m1) {i ver k e q:Nat} {l:List (List D)} {ds:List D} {vs:List Value} (hi:m1 i=some (.arr ver k true l))
  (hr:∀ g off n cap,hd i=.slice (some ⟨g,off,none⟩) n cap→w.there g (off+(e*k+q)) vs.length→(execOp a.eval o).run P w=.ok .skip (w.setCells g (off+(e*k+q)) vs))
  (hx:Cells w S1 ds vs) (he:e<l.length) (ho:q+ds.length≤k):StepOK P X B o a m hd w S .un (us1++[(i,.arr ver k true (l.set e (splice (l.getD e []) q ds)))]):=by
 have h:=h1.mem
 have hoi:=h.obj i _ hi
 simp only[O.is,if_true] at hoi
 obtain⟨xs,hrow,hoi⟩:=hoi
 have hle:(e+1)*k≤l.length*k:=Nat.mul_le_mul_right _ he
 rw[Nat.add_mul,Nat.one_mul] at hle
 have hxl:=hrow.len
 have hvl:=hx.len
 rcases hoi with ⟨_,_,rfl⟩|⟨g,off,cap,hg,hc0,hB,hlt,hT,hn,hcm,hth,hra⟩
 ·simp at he
 ·have hle2:l.length*k≤cap*k:=Nat.mul_le_mul_right _ hn
  have hth':w.there g (off+(e*k+q)) vs.length:=fun j hj=>by
   have:=hth (e*k+q+j) (by omega)
   rwa [← Nat.add_assoc] at this
  have hbl:blk (hd i)=some g:=by rw[hg];cases cap with|zero=>omega|succ c=>rfl
  have ho:=out_upd (w':=w.setCells g (off+(e*k+q)) vs) h i (.arr ver k true (l.set e (splice (l.getD e []) q ds))) (hd i) (by rw[(size_setCells _ _ _ _).1];exact Nat.le_refl _) (World.os_setCells _ _ _ _) (size_setCells _ _ _ _).2 (World.output_setCells _ _ _ _)
   (fun b hb hne=>World.heap_setCells_other _ _ _ _ hb (fun e=>hne _ hi rfl (by rw[hbl,e])))
   (fun oo hoo=>by rw[hi] at hoo;cases hoo;exact⟨Nat.le_refl _,fun _=>⟨rfl,rfl⟩⟩) (fun b hb _=>.inr ⟨_,hi,rfl,hb⟩)
   (fun hl hk=>by
    simp only[O.is,if_true]
    refine⟨_,(Rows.put (Cells.keep hk _ _ hx) ho (Rows.keep hk _ _ _ hrow) he),.inr ⟨g,off,cap,by rw[List.length_set];exact hg,hc0,hB,by rw[(size_setCells _ _ _ _).1];exact hlt,hT,by rw[List.length_set];exact hn,hcm,World.there_setCells hth _ _ _,range_splice hra hth' (by omega)⟩⟩)
  rw[up_id] at ho
  refine⟨_,_,hd,S1,hr _ _ _ _ hg hth',?_,.inr ⟨rfl,rfl⟩⟩
  rw[ups_append,hus]
  exact h1.trans ho
theorem StepOK.appArr (h:Mem m hd w S X B) {i ver k:Nat} {l ns:List (List D)} {news:List Value} {x:Value} {t tx:TypeId} (hi:m i=some (.arr ver k true l)) (e:TypeId) (inf:TypeInfo) (z:Value) (bytes:Nat) (ht:P.underlying t=some (.slice e)) (hinf:P.info? e=some inf) (hz:inf.zero=some z) (hsize:inf.size=k) (hby:inf.bytes=bytes) (hzs:z.cells.size=k)
  (hr:∀ v' w',(Builtin.append_ #[t,tx] o.type #[hd i,x]).run P w=.ok v' w'→(execOp a.eval o).run P w=.ok (.value v') w')
  (hs:Src P k tx x ns.length news w) (hn:Rows w S k ns news) (h63:l.length+ns.length≤140737488355328) (hbytes:(l.length+ns.length)*bytes≤140737488355328) :
  StepOK P X B o a m hd w S (.og i (ver+1)) [(i,.arr (ver+1) k true (l++ns))]:=by
 have hoi:=h.obj i _ hi
 simp only[O.is,if_true] at hoi
 obtain⟨v',w',r1,r2,r3,r4⟩:=run_append_arr (P:=P) t tx o.type e inf z bytes ht hinf hz hsize hby hzs hoi h.base h.lt x news hs hn h63 hbytes
 have ho:=out_upd (w':=w') h i (.arr (ver+1) k true (l++ns)) v' r3.size r3.os r3.tape r3.output (fun b hb hne=>r3.block b hb (fun e=>hne _ hi rfl e.symm))
  (fun oo hoo=>by rw[hi] at hoo;cases hoo;exact⟨Nat.le_succ _,fun e=>by simp [O.ver] at e⟩) (fun b hb _=>(r4 b hb).elim (fun e=>.inr ⟨_,hi,rfl,e⟩) (fun e=>.inl (by omega)))
  (fun hl hk=>by simp only[O.is,if_true];exact r2)
 refine⟨_,w',up hd i v',S,hr _ _ r1,ho,.inl ⟨_,rfl,?_⟩⟩
 simp only[VR,ups]
 refine⟨?_,_,up_same _ _ _,Nat.le_refl _,fun k' mu' l' e=>by rw[up_same]⟩
 obtain⟨_,_,⟨a,rfl,_⟩|⟨g,off,cap,rfl,_⟩⟩:=r2 <;> rfl
theorem StepOK.appNil (h:Mem m hd w S X B) {d k:Nat} {ns:List (List D)} {news:List Value} {x:Value} {ad:Option Addr} {t tx:TypeId} (e:TypeId) (inf:TypeInfo) (z:Value) (bytes:Nat) (ht:P.underlying t=some (.slice e)) (hinf:P.info? e=some inf) (hz:inf.zero=some z) (hsize:inf.size=k) (hby:inf.bytes=bytes) (hzs:z.cells.size=k)
  (hr:∀ v' w',(Builtin.append_ #[t,tx] o.type #[.slice ad 0 0,x]).run P w=.ok v' w'→(execOp a.eval o).run P w=.ok (.value v') w')
  (hs:Src P k tx x ns.length news w) (hn:Rows w S k ns news) (h63:ns.length≤140737488355328) (hbytes:ns.length*bytes≤140737488355328) :
  StepOK P X B o a m hd w S (.og d (nv m d)) [(d,.arr (nv m d) k true ns)]:=by
 have h0:Arr w B X S k (.slice ad 0 0) []:=⟨[],by simp [Rows],.inl ⟨ad,rfl,rfl⟩⟩
 have hb0:blk (.slice ad 0 0)=none:=by cases ad <;> rfl
 obtain⟨v',w',r1,r2,r3,r4⟩:=run_append_arr (P:=P) t tx o.type e inf z bytes ht hinf hz hsize hby hzs h0 h.base h.lt x news hs hn (by simpa using h63) (by simpa using hbytes)
 rw[hb0] at r3 r4
 have ho:=out_upd (w':=w') h d (.arr (nv m d) k true ns) v' r3.size r3.os r3.tape r3.output (fun b hb hne=>r3.block b hb (fun e=>by cases e))
  (fun oo hoo=>⟨by simp [nv,hoo,O.ver],fun e=>by simp [nv,hoo,O.ver] at e⟩) (fun b hb _=>(r4 b hb).elim (fun e=>by cases e) (fun e=>.inl (by omega)))
  (fun hl hk=>by simp only[O.is,if_true];simpa using r2)
 refine⟨_,w',up hd d v',S,hr _ _ r1,ho,.inl ⟨_,rfl,?_⟩⟩
 simp only[VR,ups]
 refine⟨?_,_,up_same _ _ _,Nat.le_refl _,fun k' mu' l' e=>by rw[up_same]⟩
 obtain⟨_,_,⟨a,rfl,_⟩|⟨g,off,cap,rfl,_⟩⟩:=r2 <;> rfl
theorem StepOK.appFull (h:Mem m hd w S X B) {d k g off:Nat} {l ns:List (List D)} {xs news:List Value} {x:Value} {t tx:TypeId} (e:TypeId) (inf:TypeInfo) (z:Value) (bytes:Nat) (ht:P.underlying t=some (.slice e)) (hinf:P.info? e=some inf) (hz:inf.zero=some z) (hsize:inf.size=k) (hby:inf.bytes=bytes) (hzs:z.cells.size=k)
  (hr:∀ v' w',(Builtin.append_ #[t,tx] o.type #[.slice (some ⟨g,off,none⟩) l.length l.length,x]).run P w=.ok v' w'→(execOp a.eval o).run P w=.ok (.value v') w')
  (hx:Rows w S k l xs) (hra:w.rangeAt g off xs) (hs:Src P k tx x ns.length news w) (hn:Rows w S k ns news) (hn0:0<ns.length) (h63:l.length+ns.length≤140737488355328) (hbytes:(l.length+ns.length)*bytes≤140737488355328) :
  StepOK P X B o a m hd w S (.og d (nv m d)) [(d,.arr (nv m d) k true (l++ns))]:=by
 obtain⟨v',w',r1,r2,r3,r4⟩:=run_append_full (P:=P) (X:=X) t tx o.type e inf z bytes ht hinf hz hsize hby hzs hx hra h.base h.lt x news hs hn hn0 h63 hbytes
 have ho:=out_upd (w':=w') h d (.arr (nv m d) k true (l++ns)) v' r3.size r3.os r3.tape r3.output (fun b hb hne=>r3.block b hb (fun e=>by cases e))
  (fun oo hoo=>⟨by simp [nv,hoo,O.ver],fun e=>by simp [nv,hoo,O.ver] at e⟩) (fun b hb _=>.inl (by have:=r4 b hb;omega))
  (fun hl hk=>by simp only[O.is,if_true];exact r2)
 refine⟨_,w',up hd d v',S,hr _ _ r1,ho,.inl ⟨_,rfl,?_⟩⟩
 simp only[VR,ups]
 refine⟨?_,_,up_same _ _ _,Nat.le_refl _,fun k' mu' l' e=>by rw[up_same]⟩
 obtain⟨_,_,⟨a,rfl,_⟩|⟨g,off,cap,rfl,_⟩⟩:=r2 <;> rfl
theorem StepOK.cutArr (h:Mem m hd w S X B) {i ver k n:Nat} {l:List (List D)} (hi:m i=some (.arr ver k true l)) (hn:n≤l.length)
  (hr:∀ ad len cap,hd i=.slice ad len cap→len=l.length→len≤cap→(execOp a.eval o).run P w=.ok (.value (.slice ad n cap)) w) :
  StepOK P X B o a m hd w S (.og i (ver+1)) [(i,.arr (ver+1) k true (l.take n))]:=by
 have hoi:=h.obj i _ hi
 simp only[O.is,if_true] at hoi
 obtain⟨xs,hrow,hoi⟩:=hoi
 have go:∀ ad len cap,hd i=.slice ad len cap→len=l.length→len≤cap→Arr w B X S k (.slice ad n cap) (l.take n)→StepOK P X B o a m hd w S (.og i (ver+1)) [(i,.arr (ver+1) k true (l.take n))]:=by
  intro ad len cap e1 e2 e3 harr
  have ho:=out_upd (w':=w) h i (.arr (ver+1) k true (l.take n)) (.slice ad n cap) (Nat.le_refl _) rfl rfl rfl (fun b hb hne=>rfl)
   (fun oo hoo=>by rw[hi] at hoo;cases hoo;exact⟨Nat.le_succ _,fun e=>by simp [O.ver] at e⟩) (fun b hb _=>.inr ⟨_,hi,rfl,by rw[e1];cases ad <;> cases cap <;> simp_all [blk]⟩)
   (fun hl hk=>by simp only[O.is,if_true];exact harr)
  refine⟨_,w,up hd i (.slice ad n cap),S,hr _ _ _ e1 e2 e3,ho,.inl ⟨_,rfl,?_⟩⟩
  simp only[VR,ups]
  exact⟨rfl,_,up_same _ _ _,Nat.le_refl _,fun k' mu' l' e=>by rw[up_same]⟩
 rcases hoi with ⟨ad,hg,rfl⟩|⟨g,off,cap,hg,hc0,hB,hlt,hT,hn',hcm,hth,hra⟩
 ·have:n=0:=by simpa using hn
  subst this
  exact go ad 0 0 hg rfl (Nat.le_refl _) ⟨[],by simp [Rows],.inl ⟨ad,rfl,rfl⟩⟩
 ·refine go _ _ cap hg rfl hn' ⟨_,Rows.take n hrow,.inr ⟨g,off,cap,by rw[List.length_take,Nat.min_eq_left hn],hc0,hB,hlt,hT,by rw[List.length_take];omega,hcm,hth,fun j u hu=>hra j u ?_⟩⟩
  rw[List.getElem?_take] at hu
  split at hu
  ·exact hu
  ·cases hu
end
/-! ### Operands -/
def ev (T:Nat→V):AV→V
 |.t n=>T n
 |.c x=>x
section
variable {P:Program} {m:M} {hd:H} {w:World} {S:Nat→Prop} {T:Nat→V} {a:Act}
theorem cv_ok {t:TypeId} {u:Value} {x:V} (h:cv P t u=some x):VR m hd w S x u:=by
 unfold cv at h
 split at h <;> try (cases h;simp [VR,D.is,Value.oneCell'];done)
 ·split at h <;> (cases h;simp [VR])
 ·cases h
theorem av_ok (hT:∀ n,VR m hd w S (T n) (a.tmps.getD n undef)) {t:TypeId} {x:Operand} {y:AV} (h:av P t x=some y):VR m hd w S (ev T y) (a.eval x):=by
 cases x with
 |tmp n=>simp only[av,Option.some.injEq] at h;subst h;exact hT n
 |const u =>
  simp only[av,Option.map_eq_some_iff] at h
  obtain⟨x,h1,rfl⟩:=h
  exact cv_ok h1
 |global g=>simp [av] at h
 |func f =>
  simp only[av] at h
  split at h
  ·rename_i hlt
   cases h
   simp only[ev,Act.eval,VR,VRs]
   exact⟨[],by unfold mkCl;rw[if_pos hlt],rfl⟩
  ·cases h
theorem avs_ok (hT:∀ n,VR m hd w S (T n) (a.tmps.getD n undef)):∀ {xs:List Operand} {ts:List TypeId} {ys:List AV},avs P ts xs=some ys→VRs m hd w S (ys.map (ev T)) (xs.map a.eval)
 |[],ts,ys,h=>by simp only[avs,Option.some.injEq] at h;subst h;simp [VRs]
 |x :: xs,ts,ys,h=>by
  unfold avs at h
  split at h
  ·rename_i y ys' h1 h2
   cases h
   simp only[List.map_cons,VRs]
   exact⟨_,_,rfl,av_ok hT h1,avs_ok hT h2⟩
  ·cases h
theorem zOks_ok:∀ {z:List V} {us:List Value},zOks z us=true→VRs m hd w S z us∧∀ y ∈ us,y.oneCell'=true
 |[],[],_=>by simp [VRs]
 |[],_ :: _,h=>by simp [zOks] at h
 |_ :: _,[],h=>by simp [zOks] at h
 |z :: zs,u :: us,h=>by
  simp only[zOks,Bool.and_eq_true] at h
  obtain⟨h1,h2⟩:=h
  have ih:=zOks_ok h2
  have h3:VR m hd w S z u∧u.oneCell'=true:=by
   unfold zOk at h1
   split at h1 <;> simp_all [VR,D.is,Value.oneCell']
   rename_i s s'
   cases s;cases s';simp_all
  refine⟨⟨u,us,rfl,h3.1,ih.1⟩,fun y hy=>?_⟩
  rcases List.mem_cons.1 hy with rfl|hy
  ·exact h3.2
  ·exact ih.2 y hy
theorem zD_ok:∀ {z:List V} {us:List Value},zOks z us=true→Cells w S (zD z) us
 |[],[],_=>by simp [zD,Cells]
 |[],_ :: _,h=>by simp [zOks] at h
 |_ :: _,[],h=>by simp [zOks] at h
 |z :: zs,u :: us,h=>by
  simp only[zOks,Bool.and_eq_true] at h
  obtain⟨h1,h2⟩:=h
  have ih:=zD_ok h2
  refine⟨u,us,rfl,?_,ih⟩
  unfold zOk at h1
  split at h1 <;> simp_all [D.is,Value.oneCell',Rows]
  ·rename_i s s'
   cases s;cases s';simp_all
  ·exact⟨none,0,⟨rfl,rfl⟩,Nat.zero_le _⟩
theorem zcs_ok {t:TypeId} {z:List V} (h:zcs P t=some z):∃ i u,P.info? t=some i∧i.zero=some u∧zOks z u.cells.toList=true∧z.length=i.size:=by
 unfold zcs at h
 split at h
 ·rename_i i z' h1 h2
  split at h
  ·rename_i u h3
   split at h
   ·rename_i h4
    cases h
    simp only[Bool.and_eq_true,beq_iff_eq] at h4
    exact⟨i,u,h1,h3,h4.1,h4.2⟩
   ·cases h
  ·cases h
 ·cases h
end
end Go.Proofs.YticdbambknflgaaGreat.Sim
end
section
namespace Go.Proofs.YticdbambknflgaaGreat.Sim
open Go Go.RowKit Go.Deep
set_option linter.unusedVariables false
section
variable {P:Program} {X:Nat→Prop} {B:Nat} {o:Oper} {a:Act} {m:M} {hd:H} {w:World} {S:Nat→Prop} {v:V} {us:U} {vs:List V} {d:Nat} {u1 u2 u3:Value}
theorem VRs.inv0 (h:VRs m hd w S vs []):vs=[]:=by cases vs <;> simp_all [VRs]
theorem VRs.inv1 (h:VRs m hd w S vs [u1]):∃ x,vs=[x]∧VR m hd w S x u1:=by
 cases vs with
 |nil=>simp [VRs] at h
 |cons x l =>
  simp only[VRs] at h
  obtain⟨u,r,e,h1,h2⟩:=h
  cases e
  exact⟨x,by rw[h2.inv0],h1⟩
theorem VRs.invc {us:List Value} (h:VRs m hd w S vs (u1 :: us)):∃ x l,vs=x :: l∧VR m hd w S x u1∧VRs m hd w S l us:=by
 cases vs with
 |nil=>simp [VRs] at h
 |cons x l =>
  simp only[VRs] at h
  obtain⟨u,r,e,h1,h2⟩:=h
  cases e
  exact⟨x,l,rfl,h1,h2⟩
theorem VRs.inv2 (h:VRs m hd w S vs [u1,u2]):∃ x y,vs=[x,y]∧VR m hd w S x u1∧VR m hd w S y u2:=by
 obtain⟨x,l,rfl,h1,h2⟩:=h.invc
 obtain⟨y,rfl,h3⟩:=h2.inv1
 exact⟨x,y,rfl,h1,h3⟩
theorem VRs.inv3 (h:VRs m hd w S vs [u1,u2,u3]):∃ x y z,vs=[x,y,z]∧VR m hd w S x u1∧VR m hd w S y u2∧VR m hd w S z u3:=by
 obtain⟨x,l,rfl,h1,h2⟩:=h.invc
 obtain⟨y,z,rfl,h3,h4⟩:=h2.inv2
 exact⟨x,y,z,rfl,h1,h3,h4⟩
theorem VR.at_ {x u:Value} (h:VR m hd w S (.d (.at x)) u):u=x:=by simp only[VR,D.is] at h;exact h.1
theorem VR.at_mk {x:Value} (h:x.oneCell'=true):VR m hd w S (.d (.at x)) x:=by simp only[VR,D.is];simp [h]
theorem ok_mov (hm:Mem m hd w S X B) {x:Operand} (ho:o.op=.move x∨o.op=.assign x) (hv:VRs m hd w S vs [a.eval x]) (hs:semMov vs=some (v,us)):StepOK P X B o a m hd w S v us:=by
 obtain⟨y,rfl,h⟩:=hv.inv1
 simp only[semMov,Option.some.injEq,Prod.mk.injEq] at hs
 obtain⟨rfl,rfl⟩:=hs
 refine StepOK.pure hm ?_ h
 rcases ho with ho|ho <;> simp [execOp,ho]
theorem ok_pick (hm:Mem m hd w S X B) {c x y:Operand} (ho:o.op=.pick c x y) (hv:VRs m hd w S vs [a.eval c,a.eval x,a.eval y]) (hs:semPick vs=some (v,us)):StepOK P X B o a m hd w S v us:=by
 obtain⟨c',x',y',rfl,h1,h2,h3⟩:=hv.inv3
 unfold semPick at hs
 split at hs
 ·rename_i b _ _ e
  simp only[List.cons.injEq,and_true] at e
  obtain⟨rfl,rfl,rfl⟩:=e
  simp only[Option.some.injEq,Prod.mk.injEq] at hs
  obtain⟨rfl,rfl⟩:=hs
  have:=h1.at_
  cases b
  ·exact StepOK.pure hm (u:=a.eval y) (by simp [execOp,ho,this,asBool]) h3
  ·exact StepOK.pure hm (u:=a.eval x) (by simp [execOp,ho,this,asBool]) h2
 ·cases hs
theorem ok_alloc (hm:Mem m hd w S X B) {t:TypeId} {z:List V} (ho:o.op=.alloc t) (hz:zcs P t=some z):StepOK P X B o a m hd w S (.bp d (nv m d) 0) [(d,.box (nv m d) z)]:=by
 obtain⟨i,u,h1,h2,h3,h4⟩:=zcs_ok hz
 have hr:(execOp a.eval o).run P w=.ok (.value (.pointer (some ⟨w.heap.size,0,none⟩))) (w.alloc (.cells u.cells.toList.toArray t)):=by
  simp [execOp,ho,Instr.alloc,zeroValue,typeInfo,h1,h2,newVar,newRow]
 exact StepOK.newBox hm hr (zOks_ok h3).1 (zOks_ok (m:=m) (hd:=hd) (w:=w) (S:=S) h3).2
theorem ok_box (hm:Mem m hd w S X B) {t:TypeId} {x:Operand} (ho:o.op=.box t x) (hv:VRs m hd w S vs [a.eval x]) (hs:semBox d m vs=some (v,us)):StepOK P X B o a m hd w S v us:=by
 obtain⟨y,rfl,h⟩:=hv.inv1
 simp only[semBox] at hs
 split at hs
 ·rename_i hg
  simp only[Option.some.injEq,Prod.mk.injEq] at hs
  obtain⟨rfl,rfl⟩:=hs
  have hr:(execOp a.eval o).run P w=.ok (.value (.pointer (some ⟨w.heap.size,0,none⟩))) (w.alloc (.cells (a.eval x).cells.toList.toArray t)):=by
   simp [execOp,ho,Instr.box,newVar,newRow]
  exact StepOK.newBox hm hr (h.good hg).1 (h.good hg).2
 ·cases hs
/-! ### Composite literals -/
theorem zipset (c:List Value):∀ (k:Nat) (xs:List Value) (off:Nat),(((c.zipIdx k).foldl (fun (cs:Array Value) (p:Value × Nat)=>cs.setIfInBounds (off+p.2) p.1) xs.toArray)).toList=if off+k+c.length≤xs.length then xs.take (off+k)++(c++xs.drop (off+k+c.length)) else (((c.zipIdx k).foldl (fun (cs:Array Value) (p:Value × Nat)=>cs.setIfInBounds (off+p.2) p.1) xs.toArray)).toList:=by
 induction c with
 |nil=>intro k xs off;split <;> simp
 |cons y c ih =>
  intro k xs off
  split
  ·rename_i hle
   simp only[List.length_cons] at hle
   simp only[List.zipIdx_cons,List.foldl_cons,List.setIfInBounds_toArray]
   have:=ih (k+1) (xs.set (off+k) y) off
   rw[if_pos (by simp;omega)] at this
   rw[this]
   have hlt:off+k<xs.length:=by omega
   rw[show off+(k+1)=off+k+1 by omega,List.take_succ_eq_append_getElem (by simpa using hlt),List.getElem_set_self,List.take_set_of_le (Nat.le_refl _),List.drop_set_of_lt (by omega)]
   simp [Nat.add_assoc,Nat.add_comm 1]
  ·rfl
theorem fold_splice {c xs:List Value} {off:Nat} (h:off+c.length≤xs.length):((c.toArray.zipIdx.foldl (fun (cs:Array Value) (p:Value × Nat)=>cs.setIfInBounds (off+p.2) p.1) xs.toArray)).toList=splice xs off c:=by
 have:=zipset c 0 xs off
 rw[if_pos (by omega)] at this
 unfold splice
 simpa [← Array.foldl_toList] using this
theorem VRs.splice {l c:List V} {xs ys:List Value} {off:Nat} (h:VRs m hd w S l xs) (k:VRs m hd w S c ys):VRs m hd w S (splice l off c) (splice xs off ys):=by
 unfold Sim.splice
 rw[k.len]
 exact (h.take _).append (k.append (h.drop _))
theorem mem_splice {α:Type} {l c:List α} {off:Nat} {p:α→Prop} (h:∀ y ∈ l,p y) (k:∀ y ∈ c,p y):∀ y ∈ splice l off c,p y:=by
 intro y hy
 unfold splice at hy
 rcases List.mem_append.1 hy with hy|hy
 ·exact h y (List.mem_of_mem_take hy)
 ·rcases List.mem_append.1 hy with hy|hy
  ·exact k y hy
  ·exact h y (List.mem_of_mem_drop hy)
theorem fill_ok (f:Nat→Option (Nat × Nat)):∀ {ps:List (Nat × Value)} {fs:List (Nat × Nat)} {vs z:List V} {zs:List Value},
  VRs m hd w S z zs→(∀ y ∈ zs,y.oneCell'=true)→VRs m hd w S vs (ps.map (·.2))→fitB z.length fs vs=true→fs.map some=ps.map (fun p=>f p.1) →
  ∃ zs',Instr.fill f zs.toArray ps=some zs'∧VRs m hd w S (fillV z fs vs) zs'.toList∧∀ y ∈ zs'.toList,y.oneCell'=true
 |[],fs,vs,z,zs,hz,h1,hv,hg,hl=>by
  have:fs=[]:=List.eq_nil_of_length_eq_zero (by have:=congrArg List.length hl;simpa using this)
  subst this
  exact⟨zs.toArray,rfl,by simpa [fillV] using hz,by simpa using h1⟩
 |(j,u) :: ps,fs,vs,z,zs,hz,h1,hv,hg,hl=>by
  obtain⟨x,vs',rfl,h2,h3⟩:=VRs.invc hv
  cases fs with
  |nil=>simp at hl
  |cons q fs =>
   obtain⟨off,size⟩:=q
   simp only[List.map_cons,List.cons.injEq] at hl
   simp only[fitB,Bool.and_eq_true,beq_iff_eq,decide_eq_true_eq] at hg
   obtain⟨⟨⟨g1,g2⟩,g3⟩,g4⟩:=hg
   have hgood:=h2.good g1
   have hzl:=hz.len
   have hul:u.cells.size=size:=by have:=hgood.1.len;simp at this;omega
   have hfold:=fold_splice (c:=u.cells.toList) (xs:=zs) (off:=off) (by simp;omega)
   have e:(u.cells.zipIdx.foldl (fun (cs:Array Value) (p:Value × Nat)=>cs.setIfInBounds (off+p.2) p.1) zs.toArray)=(splice zs off u.cells.toList).toArray:=by
    apply Array.ext'
    simpa using hfold
   obtain⟨zs',r1,r2,r3⟩:=fill_ok f (ps:=ps) (fs:=fs) (vs:=vs') (hz.splice (off:=off) hgood.1) (mem_splice h1 hgood.2) h3 (by rw[length_splice (by omega)];exact g4) hl.2
   refine⟨zs',?_,by simpa only[fillV] using r2,r3⟩
   simp only[Instr.fill,← hl.1]
   rw[if_neg (by simp;omega),e]
   exact r1
theorem offs_ok {f:Nat→Option (Nat × Nat)}:∀ {ps:List (Nat × Operand)} {os:List (Nat × Nat)},offs f ps=some os→os.map some=ps.map (fun p=>f p.1)
 |[],os,h=>by simp only[offs,Option.some.injEq] at h;subst h;rfl
 |(i,x) :: ps,os,h=>by
  unfold offs at h
  split at h
  ·rename_i o os' h1 h2
   cases h
   simp only[List.map_cons,h1,offs_ok h2]
  ·cases h
theorem ok_build (hm:Mem m hd w S X B) {t:TypeId} {ps:Array (Nat × Operand)} {z:List V} {f:Nat→Option (Nat × Nat)} {os:List (Nat × Nat)} (ho:o.op=.build t ps) (hf:placeF P t=some f) (hz:zcs P t=some z) (hos:offs f ps.toList=some os)
  (hv:VRs m hd w S vs ((ps.toList.map (·.2)).map a.eval)) (hs:semBuild z os vs=some (v,us)):StepOK P X B o a m hd w S v us:=by
 unfold semBuild at hs
 split at hs
 ·rename_i hfit
  simp only[Option.some.injEq,Prod.mk.injEq] at hs
  obtain⟨rfl,rfl⟩:=hs
  obtain⟨i,u,h1,h2,h3,h4⟩:=zcs_ok hz
  have hzk:=zOks_ok (m:=m) (hd:=hd) (w:=w) (S:=S) h3
  obtain⟨zs',r1,r2,r3⟩:=fill_ok f (ps:=ps.toList.map fun (i,x)=>(i,a.eval x)) hzk.1 hzk.2 (by simpa [Function.comp_def] using hv) hfit (by rw[offs_ok hos];simp [Function.comp_def])
  have hb:P.built t (ps.map fun (i,x)=>(i,a.eval x)).toList=some zs':=by
   unfold Program.built
   unfold placeF at hf
   split at hf
   ·rename_i it n e hi hu
    rw[h1] at hi
    cases hi
    simp only[h1,hu,h2]
    cases he:P.info? e with
    |none=>simp [he] at hf
    |some ie =>
     simp only[he,Option.map_some,Option.some.injEq] at hf
     subst hf
     simpa using r1
   ·rename_i it fields hi hu
    rw[h1] at hi
    cases hi
    simp only[h1,hu,h2]
    split at hf
    ·rename_i places hp
     simp only[Option.some.injEq] at hf
     subst hf
     simp only[hp]
     simpa using r1
    ·cases hf
   ·cases hf
  refine StepOK.pure hm (u:=.agg zs') ?_ ?_
  ·simp only[execOp,ho,Sem.run_bind,run_build w t _ zs' hb,Result.andThen_ok]
   rfl
  ·simp only[VR]
   exact⟨zs'.toList,rfl,r2,r3⟩
 ·cases hs
end
end Go.Proofs.YticdbambknflgaaGreat.Sim
end
section
namespace Go.Proofs.YticdbambknflgaaGreat.Sim
open Go Go.RowKit Go.Deep
set_option linter.unusedVariables false
section
variable {P:Program} {X:Nat→Prop} {B:Nat} {o:Oper} {a:Act} {m m0:M} {hd:H} {w:World} {S:Nat→Prop} {v:V} {us:U} {vs:List V} {d:Nat} {u1 u2 u3:Value}
theorem form_ok {t:TypeId} {n:Nat} {g:Bool} (h:form P t=some (n,g)):∃ i dd,P.info? t=some i∧P.underlying t=some dd∧i.size=n∧dd.isRow=g∧(g=false→n=1):=by
 unfold form at h
 split at h
 ·rename_i i dd h1 h2
  split at h
  ·rename_i h3
   simp only[Option.some.injEq,Prod.mk.injEq] at h
   obtain⟨rfl,rfl⟩:=h
   refine⟨i,dd,h1,h2,rfl,rfl,fun hg=>?_⟩
   simpa [hg] using h3
  ·cases h
 ·cases h
theorem run_load_range {t:TypeId} {n:Nat} {g:Bool} (h:form P t=some (n,g)) {b q:Nat} {cs:List Value} (hc:w.rangeAt b q cs) (hn:cs.length=n) :
  (Instr.loadAt t (.pointer (some ⟨b,q,none⟩))).run P w=.ok (if g then .agg cs.toArray else cs.headD undef) w:=by
 obtain⟨i,dd,h1,h2,h3,h4,h5⟩:=form_ok h
 cases g with
 |true=>exact run_loadAt_mid w b q t cs dd hc h2 h4 (by rw[h1];simp;omega)
 |false =>
  have hl:=h5 rfl
  match cs,hn with
  |[y],_ =>
   have hcell:=hc 0 y rfl
   simp only[Nat.add_zero] at hcell
   have hagg:(isAgg t).run P w=.ok false w:=by
    unfold isAgg
    rw[Sem.run_bind,run_underlying h2 w]
    cases dd <;> simp_all
   simp [Instr.loadAt,Instr.sureAddr,loadVar,hagg,hcell]
  |[],hn=>simp at hn;omega
  |_ :: _ :: _,hn=>simp at hn;omega
theorem run_store_range {t:TypeId} {n:Nat} {g:Bool} (h:form P t=some (n,g)) {b q:Nat} {u:Value} (ht:w.there b q u.cells.toList.length) (hn:u.cells.toList.length=n) (h1:∀ y ∈ u.cells.toList,y.oneCell'=true) :
  (Instr.storeAt t (.pointer (some ⟨b,q,none⟩)) u).run P w=.ok () (w.setCells b q u.cells.toList):=by
 obtain⟨i,dd,h2,h3,h4,h5,h6⟩:=form_ok h
 have:=run_storeCells_cells (P:=P) b q u.cells.toList 0 w (fun j hj=>by simpa using (ht j hj).1) (fun j hj=>by simpa using (ht j hj).2) h1
 simp only[Nat.add_zero] at this
 have hs:u.cells.size=i.size:=by simp at hn;omega
 simp [Instr.storeAt,Instr.sureAddr,storeVar,sizeOf,typeInfo,h2,hs,this]
theorem range_sub {b off:Nat} {xs:List Value} (h:w.rangeAt b off xs) (q n:Nat):w.rangeAt b (off+q) ((xs.drop q).take n):=fun j y hj=>by
 rw[List.getElem?_take] at hj
 split at hj
 ·rw[List.getElem?_drop] at hj
  have:=h _ y hj
  rwa [← Nat.add_assoc] at this
 ·cases hj
theorem splice_set {α:Type} {l:List α} {e:Nat} {x:α} (h:e<l.length):splice l e [x]=l.set e x:=by
 unfold splice
 rw[List.set_eq_take_append_cons_drop,if_pos h]
 simp
theorem vg_ok {i ver:Nat} {cs:List V} {u:Value} (h:VR m hd w S (.vg i ver) u) {k:Nat} (hi:m i=some (.vec ver k cs)):u=hd i:=by
 simp only[VR] at h
 obtain⟨_,y,hy,_,h⟩:=h
 rw[hi] at hy;cases hy
 exact h k cs rfl
theorem vp_ok {i ver e k:Nat} {cs:List V} {u:Value} (h:VR m hd w S (.vp i ver e) u) (hi:m i=some (.vec ver k cs)):∃ g off n cap,hd i=.slice (some ⟨g,off,none⟩) n cap∧u=.pointer (some ⟨g,off+e,none⟩):=by
 simp only[VR] at h
 obtain⟨_,y,hy,_,h⟩:=h
 rw[hi] at hy;cases hy
 exact h k cs rfl
theorem StepOK.wrVecs (h:Mem m hd w S X B) {i ver k e:Nat} {cs xs:List V} {ys:List Value} (hi:m i=some (.vec ver k cs))
  (hr:∀ g off n cap,hd i=.slice (some ⟨g,off,none⟩) n cap→w.there g (off+e) ys.length→(execOp a.eval o).run P w=.ok .skip (w.setCells g (off+e) ys))
  (hx:VRs m hd w S xs ys) (h1:∀ u ∈ ys,u.oneCell'=true) (he:e+xs.length≤cs.length) (hx0:0<xs.length):StepOK P X B o a m hd w S .un [(i,.vec ver k (splice cs e xs))]:=by
 have hoi:=h.obj i _ hi
 simp only[O.is] at hoi
 obtain⟨vs,hvs,hone,hoi⟩:=hoi
 have hvl:=hvs.len
 have hxl:=hx.len
 rcases hoi with ⟨_,_,h0⟩|⟨g,off,cap,nn,hg,hc0,hB,hlt,hT,hn,hcm,hth,hra,hcn⟩
 ·omega
 ·have hnk:nn*k≤cap*k:=Nat.mul_le_mul_right _ hn
  have hth':w.there g (off+e) ys.length:=fun j hj=>by
   have:=hth (e+j) (by omega)
   rwa [← Nat.add_assoc] at this
  have hbl:blk (hd i)=some g:=by rw[hg];cases cap with|zero=>omega|succ c=>rfl
  have hsl:(splice cs e xs).length=cs.length:=length_splice he
  have ho:=out_upd (w':=w.setCells g (off+e) ys) h i (.vec ver k (splice cs e xs)) (hd i) (by rw[(size_setCells _ _ _ _).1];exact Nat.le_refl _) (World.os_setCells _ _ _ _) (size_setCells _ _ _ _).2 (World.output_setCells _ _ _ _)
   (fun b hb hne=>World.heap_setCells_other _ _ _ _ hb (fun e=>hne _ hi rfl (by rw[hbl,e])))
   (fun oo hoo=>by rw[hi] at hoo;cases hoo;exact⟨Nat.le_refl _,fun _=>⟨rfl,rfl⟩⟩) (fun b hb _=>.inr ⟨_,hi,rfl,hb⟩)
   (fun hl hk=>by
    have e1:VRs (up m i (some (.vec ver k (splice cs e xs)))) (up hd i (hd i)) (w.setCells g (off+e) ys) S (splice cs e xs) (splice vs e ys) :=
     VRs.splice (VRs.keep hl hk _ _ hvs) (VRs.keep hl hk _ _ hx)
    simp only[O.is]
    exact⟨splice vs e ys,e1,mem_splice hone h1,.inr ⟨g,off,cap,nn,hg,hc0,hB,by rw[(size_setCells _ _ _ _).1];exact hlt,hT,hn,hcm,World.there_setCells hth _ _ _,range_splice hra hth' (by omega),by rw[hsl];exact hcn⟩⟩)
  rw[up_id] at ho
  exact⟨_,_,hd,S,hr _ _ _ _ hg hth',ho,.inr ⟨rfl,rfl⟩⟩
theorem StepOK.wrVec (h:Mem m hd w S X B) {i ver k e:Nat} {cs:List V} {x:V} {u:Value} (hi:m i=some (.vec ver k cs))
  (hr:∀ g off n cap,hd i=.slice (some ⟨g,off,none⟩) n cap→w.there g (off+e) 1→(execOp a.eval o).run P w=.ok .skip (w.setCells g (off+e) [u]))
  (hx:VR m hd w S x u) (h1:u.oneCell'=true) (he:e<cs.length):StepOK P X B o a m hd w S .un [(i,.vec ver k (cs.set e x))]:=by
 have:=StepOK.wrVecs (o:=o) (a:=a) (P:=P) (xs:=[x]) (ys:=[u]) h hi hr (by simp only[VRs];exact⟨u,[],rfl,hx,rfl⟩) (by simpa using h1) (by simp only[List.length_cons,List.length_nil];omega) (by simp)
 rwa [splice_set he] at this
theorem ok_load (hm:Mem m hd w S X B) {t:TypeId} {n:Nat} {g:Bool} {x:Operand} (ho:o.op=.load t x) (hf:form P t=some (n,g)) (hv:VRs m hd w S vs [a.eval x]) (hs:semLoad n g m vs=some (v,us)):StepOK P X B o a m hd w S v us:=by
 obtain⟨y,rfl,h⟩:=hv.inv1
 have hg1:=(form_ok hf).choose_spec.choose_spec.2.2.2.2
 have fin:∀ {b q:Nat} {cs:List Value} {l:List V},a.eval x=.pointer (some ⟨b,q,none⟩)→w.rangeAt b q cs→cs.length=n→VRs m hd w S l cs→(∀ y ∈ cs,y.oneCell'=true)→StepOK P X B o a m hd w S (V.mk g l) []:=by
  intro b q cs l e hr hn hl h1
  refine StepOK.pure hm (u:=if g then .agg cs.toArray else cs.headD undef) ?_ (hl.mk (n:=n) (by rw[← hl.len];exact hn) h1 hg1)
  simp [execOp,ho,e,run_load_range hf hr hn]
 unfold semLoad at hs
 split at hs
 ·rename_i i ver q e
  simp only[List.cons.injEq,and_true] at e
  subst e
  split at hs
  ·rename_i v' cs hi
   split at hs
   ·rename_i hc
    obtain⟨rfl,hc⟩:=hc
    simp only[Option.some.injEq,Prod.mk.injEq] at hs
    obtain⟨rfl,rfl⟩:=hs
    simp only[VR] at h
    obtain⟨_,y,hy,_,h⟩:=h
    rw[hi] at hy
    cases hy
    obtain⟨b,h1,h2⟩:=h cs rfl
    have hob:=hm.obj i _ hi
    simp only[O.is] at hob
    obtain⟨b',xs,e1,_,_,_,hx,hone,_,hra⟩:=hob
    rw[h1] at e1
    cases e1
    have hxl:=hx.len
    have hra':=range_sub hra q n
    rw[Nat.zero_add] at hra'
    exact fin h2 hra' (by simp;omega) ((hx.drop _).take _) (fun y hy=>hone y (List.mem_of_mem_drop (List.mem_of_mem_take hy)))
   ·cases hs
  ·cases hs
 ·rename_i cs q e
  simp only[List.cons.injEq,and_true] at e
  subst e
  split at hs
  ·rename_i hc
   simp only[Option.some.injEq,Prod.mk.injEq] at hs
   obtain⟨rfl,rfl⟩:=hs
   simp only[VR] at h
   obtain⟨gb,off,xs,h1,_,hr,hcs⟩:=h
   have hcl:=hcs.len
   have hl:=(hcs.drop q).take n
   exact fin h1 (range_sub hr q n) (by simp;omega) (cells_VRs hl) hl.one
  ·cases hs
 ·rename_i i ver e' q e
  simp only[List.cons.injEq,and_true] at e
  subst e
  split at hs
  ·rename_i v' k mu l hi
   split at hs
   ·rename_i hc
    obtain⟨rfl,he,hq⟩:=hc
    simp only[Option.some.injEq,Prod.mk.injEq] at hs
    obtain⟨rfl,rfl⟩:=hs
    simp only[VR] at h
    obtain⟨_,y,hy,_,h⟩:=h
    rw[hi] at hy
    cases hy
    obtain⟨gb,off,len,cap,h1,h2⟩:=h.1 k mu l rfl
    have hob:=hm.obj i _ hi
    simp only[O.is] at hob
    have key:∃ xs,Rows w S k l xs∧w.rangeAt gb off xs:=by
     cases mu with
     |true =>
      simp only[if_true] at hob
      obtain⟨xs,hrow,⟨ad,e1,rfl⟩|⟨g',off',cap',e1,_,_,_,_,_,_,_,hr⟩⟩:=hob
      ·simp at he
      ·rw[h1] at e1;cases e1;exact⟨xs,hrow,hr⟩
     |false =>
      simp only[Bool.false_eq_true,if_false,D.is] at hob
      obtain⟨ad,cap',xs,e1,_,_,hrow,hr⟩:=hob
      obtain⟨g',off',e2,_,hr'⟩:=hr (by omega)
      rw[h1,e2] at e1
      cases e1
      exact⟨xs,hrow,hr'⟩
    obtain⟨xs,hrow,hr⟩:=key
    obtain⟨hlen,cs,hcs,hsub⟩:=hrow.get he
    have hcl:=hcs.len
    have hr2:w.rangeAt gb (off+e'*k) cs:=fun j u hu=>by have:=hr _ u (hsub j u hu);rwa [← Nat.add_assoc] at this
    have hl:=(hcs.drop q).take n
    exact fin h2 (range_sub hr2 q n) (by simp;omega) (cells_VRs hl) hl.one
   ·cases hs
  ·cases hs
 ·rename_i i ver e' e
  simp only[List.cons.injEq,and_true] at e
  subst e
  split at hs
  ·rename_i v' kk cs hi
   split at hs
   ·rename_i hc
    obtain⟨rfl,hn,rfl,he⟩:=hc
    simp only[Option.some.injEq,Prod.mk.injEq] at hs
    obtain⟨rfl,rfl⟩:=hs
    obtain⟨gb,off,len,cap,h1,h2⟩:=vp_ok h hi
    have hob:=hm.obj i _ hi
    simp only[O.is] at hob
    obtain⟨xs,hx,hone,hob⟩:=hob
    have hxl:=hx.len
    have hr:w.rangeAt gb off xs:=by
     rcases hob with ⟨_,_,h0⟩|⟨g',off',cap',nn,e1,_,_,_,_,_,_,_,hr,_⟩
     ·omega
     ·rw[h1] at e1;cases e1;exact hr
    obtain⟨u,hu,hv1⟩:=hx.get e' (cs.getD e' .un) (by rw[List.getD_eq_getElem?_getD,List.getElem?_eq_getElem he];rfl)
    have:=fin (cs:=[u]) (l:=[cs.getD e' .un]) h2 (fun j y hj=>by
     cases j with
     |zero=>simp only[List.getElem?_cons_zero,Option.some.injEq] at hj;subst hj;exact hr _ _ hu
     |succ j=>simp at hj) (by simpa using hn.symm) (by simp only[VRs];exact⟨u,[],rfl,hv1,rfl⟩) (by simpa using hone u (List.mem_of_getElem? hu))
    simpa [V.mk] using this
   ·cases hs
  ·cases hs
 ·cases hs
/-! ### Data out of values -/
theorem ups_frz_not (i:Nat):∀ (l:List V) (m:M),l.all (V.notOg i)=true→ups m (frz m0 l) i=m i
 |[],m,_=>rfl
 |y :: l,m,h=>by
  simp only[List.all_cons,Bool.and_eq_true] at h
  unfold frz
  split
  ·rfl
  ·rename_i j v l0 e
   cases e
   split
   ·rename_i v' k mu l' hm
    rw[ups,ups_frz_not i l _ h.2,up_ne]
    have:=h.1
    simp only[V.notOg,bne_iff_ne,ne_eq] at this
    exact fun e=>this e.symm
   ·exact ups_frz_not i l m h.2
  ·rename_i e
   cases e
   exact ups_frz_not i l m h.2
theorem ups_frz_get {i v k ver:Nat} {mu:Bool} {l':List (List D)} (hi:m0 i=some (.arr ver k mu l')):∀ (l:List V) (m:M),.og i v ∈ l→ups m (frz m0 l) i=some (.arr ver k false l')
 |[],m,h=>by cases h
 |y :: l,m,h=>by
  by_cases hl:l.all (V.notOg i)=true
  ·rcases List.mem_cons.1 h with rfl|h
   ·unfold frz
    simp only[hi,ups]
    rw[ups_frz_not i l _ hl,up_same]
   ·have:=List.all_eq_true.1 hl _ h
    simp [V.notOg] at this
  ·have:∃ v',.og i v' ∈ l:=by
    simp only[Bool.not_eq_true,List.all_eq_false] at hl
    obtain⟨x,hx,h1⟩:=hl
    unfold V.notOg at h1
    split at h1
    ·rename_i j v'
     have:j=i:=by simpa using h1
     subst this
     exact⟨v',hx⟩
    ·simp at h1
   obtain⟨v',hv'⟩:=this
   unfold frz
   split
   ·rename_i e;cases e
   ·rename_i j v l0 e
    cases e
    split
    ·rw[ups];exact ups_frz_get hi l _ hv'
    ·exact ups_frz_get hi l _ hv'
   ·rename_i e
    cases e
    exact ups_frz_get hi l _ hv'
theorem dcell_ok {m1:M} {S1:Nat→Prop} {x:V} {y:D} {u:Value} (h:VR m hd w S x u) (hx:dcell m x=some y) (hS:∀ b,S b→S1 b) (hm1:Mem m1 hd w S1 X B) (hf:∀ i v k mu l,x=.og i v→m i=some (.arr v k mu l)→m1 i=some (.arr v k false l)):y.is w S1 u:=by
 unfold dcell at hx
 split at hx
 ·cases hx;simp only[VR] at h;exact D.keep (fun b hb _=>⟨hS b hb,rfl⟩) _ _ h
 ·cases hx
  simp only[VR] at h
  subst h
  simp only[D.is]
  exact⟨none,0,[],rfl,Nat.le_refl _,Nat.zero_le _,by simp [Rows],fun h=>absurd h (by simp)⟩
 ·rename_i i v
  split at hx
  ·rename_i v' k mu l hi
   split at hx
   ·rename_i e
    subst e
    cases hx
    have h1:=hm1.obj i _ (hf i v' k mu l rfl hi)
    simp only[O.is,Bool.false_eq_true,if_false] at h1
    simp only[VR] at h
    obtain⟨_,y,hy,_,h⟩:=h
    rw[hi] at hy
    cases hy
    rw[h k mu l rfl]
    exact h1
   ·cases hx
  ·cases hx
 ·cases hx
theorem dcells_ok {m1:M} {S1:Nat→Prop} (hS:∀ b,S b→S1 b) (hm1:Mem m1 hd w S1 X B):∀ {l:List V} {ds:List D} {us:List Value},VRs m hd w S l us→dcells m l=some ds→(∀ i v k mu l',.og i v ∈ l→m i=some (.arr v k mu l')→m1 i=some (.arr v k false l'))→Cells w S1 ds us
 |[],ds,us,h,hx,_=>by
  simp only[dcells,Option.some.injEq] at hx
  simp only[VRs] at h
  subst hx
  subst h
  simp [Cells]
 |x :: l,ds,us,h,hx,hf=>by
  simp only[VRs] at h
  obtain⟨u,r,rfl,h1,h2⟩:=h
  unfold dcells at hx
  split at hx
  ·rename_i y ys h3 h4
   cases hx
   refine⟨u,r,rfl,dcell_ok h1 h3 hS hm1 (fun i v k mu l' e hi=>hf i v k mu l' (by rw[e];simp) hi),dcells_ok hS hm1 h2 h4 (fun i v k mu l' hmem hi=>hf i v k mu l' (by simp [hmem]) hi)⟩
  ·cases hx
theorem ok_store (hm:Mem m hd w S X B) {t:TypeId} {n:Nat} {g:Bool} {x y:Operand} (ho:o.op=.store t x y) (hf:form P t=some (n,g)) (hv:VRs m hd w S vs [a.eval x,a.eval y]) (hs:semStore n m vs=some (v,us)):StepOK P X B o a m hd w S v us:=by
 obtain⟨p,z,rfl,h,hz⟩:=hv.inv2
 unfold semStore at hs
 split at hs
 ·rename_i i ver q x' e
  simp only[List.cons.injEq,and_true] at e
  obtain⟨rfl,rfl⟩:=e
  split at hs
  ·rename_i v' cs hi
   split at hs
   ·rename_i hc
    obtain⟨rfl,hg,hn,hq⟩:=hc
    simp only[Option.some.injEq,Prod.mk.injEq] at hs
    obtain⟨rfl,rfl⟩:=hs
    simp only[VR] at h
    obtain⟨_,y',hy,_,h⟩:=h
    rw[hi] at hy
    cases hy
    obtain⟨b,h1,h2⟩:=h cs rfl
    have hgood:=hz.good hg
    have hl:=hgood.1.len
    refine StepOK.wrBox hm hi h1 (fun hth=>?_) hgood.1 hgood.2 (by omega)
    simp [execOp,ho,h2,run_store_range hf hth (by omega) hgood.2]
   ·cases hs
  ·cases hs
 ·rename_i i ver e' q x' e
  simp only[List.cons.injEq,and_true] at e
  obtain⟨rfl,rfl⟩:=e
  split at hs
  ·rename_i v' k l c hi hc
   split at hs
   ·rename_i hcond
    obtain⟨rfl,hg,hnot,hn,he,hq⟩:=hcond
    simp only[Option.some.injEq,Prod.mk.injEq] at hs
    obtain⟨rfl,rfl⟩:=hs
    obtain⟨S1,o1⟩:=out_frzs hm z.cells
    have hgood:=hz.good hg
    simp only[VR] at h
    obtain⟨_,y',hy,_,h⟩:=h
    rw[hi] at hy
    cases hy
    obtain⟨gb,off,len,cap,h1,h2⟩:=h.1 k true l rfl
    have hcells:=dcells_ok (fun b hb=>((o1.keep b hb (hm.lt b hb)).1)) o1.mem hgood.1 hc (fun i v k mu l' hmem hi=>ups_frz_get hi _ _ hmem)
    have hcl:=hcells.len
    refine StepOK.wrArr o1 rfl (vs:=(a.eval y).cells.toList) (by rw[ups_frz_not i _ _ hnot];exact hi) (fun g' off' n' cap' e1 hth=>?_) hcells he (by omega)
    rw[h1] at e1
    cases e1
    rw[← Nat.add_assoc] at hth ⊢
    simp [execOp,ho,h2,run_store_range hf hth (by omega) hgood.2]
   ·cases hs
  ·cases hs
 ·rename_i i ver e' x' e
  simp only[List.cons.injEq,and_true] at e
  obtain⟨rfl,rfl⟩:=e
  split at hs
  ·rename_i v' kk cs hi
   split at hs
   ·rename_i hc
    obtain⟨rfl,rfl,hlone,he⟩:=hc
    simp only[Option.some.injEq,Prod.mk.injEq] at hs
    obtain⟨rfl,rfl⟩:=hs
    obtain⟨gb,off,len,cap,h1,h2⟩:=vp_ok h hi
    have hg:z.good=true∧z.cells=[z]:=by cases z <;> simp_all [V.lone,V.good,V.cells]
    have hgood:=hz.good hg.1
    have hl:=hgood.1.len
    rw[hg.2] at hl
    have hu0:(a.eval y).oneCell'=true:=by
     cases z <;> simp only[V.lone,reduceCtorEq] at hlone
     ·simp only[VR] at hz;exact D.one hz
     ·simp only[VR] at hz;rw[hz];rfl
     ·simp only[VR] at hz;exact hz.1
    have hu1:(a.eval y).cells=#[a.eval y]:=by
     cases hy:a.eval y <;> first|rfl|(rw[hy] at hu0;simp [Value.oneCell'] at hu0)
    refine StepOK.wrVec hm hi (fun g' off' n' cap' e1 hth=>?_) hz (by have:=hgood.2 (a.eval y) (by simp [hu1]);exact this) he
    rw[h1] at e1
    cases e1
    have:=run_store_range (w:=w) hf (b:=gb) (q:=off+e') (u:=a.eval y) (by simpa [hu1] using hth) (by simp [hu1]) hgood.2
    simp [execOp,ho,h2,this,hu1]
   ·split at hs
    ·rename_i hc
     obtain⟨rfl,h0,hg,hn,he⟩:=hc
     simp only[Option.some.injEq,Prod.mk.injEq] at hs
     obtain⟨rfl,rfl⟩:=hs
     obtain⟨gb,off,len,cap,h1,h2⟩:=vp_ok h hi
     have hgood:=hz.good hg
     have hl:=hgood.1.len
     refine StepOK.wrVecs (ys:=(a.eval y).cells.toList) hm hi (fun g' off' n' cap' e1 hth=>?_) hgood.1 hgood.2 (by omega) (by omega)
     rw[h1] at e1
     cases e1
     simp [execOp,ho,h2,run_store_range hf hth (by omega) hgood.2]
    ·cases hs
  ·cases hs
 ·cases hs
end
end Go.Proofs.YticdbambknflgaaGreat.Sim
end
section
namespace Go.Proofs.YticdbambknflgaaGreat.Sim
open Go Go.RowKit Go.Deep
set_option linter.unusedVariables false
section
variable {P:Program} {X:Nat→Prop} {B:Nat} {o:Oper} {a:Act} {m m0:M} {hd:H} {w:World} {S:Nat→Prop} {v:V} {us:U} {vs:List V} {d:Nat} {u1 u2 u3:Value}
theorem curB_ok {i ver q:Nat} {u:Value} (h:VR m hd w S (.bp i ver q) u) (hc:curB m i ver=true):∃ b,hd i=.pointer (some ⟨b,0,none⟩)∧u=.pointer (some ⟨b,q,none⟩):=by
 unfold curB at hc
 simp only[VR] at h
 obtain⟨_,y,hy,_,h⟩:=h
 split at hc
 ·rename_i v' cs hi
  rw[hi] at hy;cases hy
  have:v'=ver:=by simpa using hc
  subst this
  exact h cs rfl
 ·cases hc
theorem curA_ep {i ver e q:Nat} {u:Value} (h:VR m hd w S (.ep i ver e q) u) (hc:curA m i ver=true):∃ k mu l g off n cap,m i=some (.arr ver k mu l)∧hd i=.slice (some ⟨g,off,none⟩) n cap∧u=.pointer (some ⟨g,off+e*k+q,none⟩):=by
 unfold curA at hc
 simp only[VR] at h
 obtain⟨_,y,hy,_,h⟩:=h
 split at hc
 ·rename_i v' k mu l hi
  rw[hi] at hy;cases hy
  have:v'=ver:=by simpa using hc
  subst this
  obtain⟨g,off,n,cap,h1,h2⟩:=h.1 k mu l rfl
  exact⟨k,mu,l,g,off,n,cap,hi,h1,h2⟩
 ·cases hc
theorem ep_mk {i ver k e q g off n cap:Nat} {mu:Bool} {l:List (List D)} (hi:m i=some (.arr ver k mu l)) (h:hd i=.slice (some ⟨g,off,none⟩) n cap):VR m hd w S (.ep i ver e q) (.pointer (some ⟨g,off+e*k+q,none⟩)):=by
 simp only[VR]
 exact⟨rfl,_,hi,Nat.le_refl _,fun k' mu' l' e'=>by cases e';exact⟨g,off,n,cap,h,rfl⟩,fun cs' e'=>by cases e'⟩
theorem curB_ep {i ver e q:Nat} {u:Value} (h:VR m hd w S (.ep i ver e q) u) (hc:curB m i ver=true):∃ b,hd i=.pointer (some ⟨b,0,none⟩)∧u=.slice (some ⟨b,0,none⟩) e e:=by
 unfold curB at hc
 simp only[VR] at h
 obtain⟨_,y,hy,_,h⟩:=h
 split at hc
 ·rename_i v' cs hi
  rw[hi] at hy;cases hy
  have:v'=ver:=by simpa using hc
  subst this
  exact h.2 cs rfl
 ·cases hc
theorem bp_mk {i ver q b:Nat} {cs:List V} (hi:m i=some (.box ver cs)) (h:hd i=.pointer (some ⟨b,0,none⟩)):VR m hd w S (.bp i ver q) (.pointer (some ⟨b,q,none⟩)):=by
 simp only[VR]
 exact⟨rfl,_,hi,Nat.le_refl _,fun cs' e'=>⟨b,h,rfl⟩⟩
theorem curB_get {i ver:Nat} (hc:curB m i ver=true):∃ cs,m i=some (.box ver cs):=by
 unfold curB at hc
 split at hc
 ·rename_i v' cs hi
  have:v'=ver:=by simpa using hc
  subst this
  exact⟨cs,hi⟩
 ·cases hc
theorem og_ok {i ver k:Nat} {mu:Bool} {l:List (List D)} {u:Value} (h:VR m hd w S (.og i ver) u) (hi:m i=some (.arr ver k mu l)):u=hd i:=by
 simp only[VR] at h
 obtain⟨_,y,hy,_,h⟩:=h
 rw[hi] at hy;cases hy
 exact h k mu l rfl
theorem arr_head (hm:Mem m hd w S X B) {i ver k:Nat} {mu:Bool} {l:List (List D)} (hi:m i=some (.arr ver k mu l)):∃ ad cap,hd i=.slice ad l.length cap∧l.length≤cap∧cap≤maxLen∧(0<l.length→∃ g off,ad=some ⟨g,off,none⟩)∧∃ xs T,Rows w T k l xs∧(0<l.length→∃ g off,ad=some ⟨g,off,none⟩∧w.rangeAt g off xs)∧∀ b,T b→S b:=by
 have ho:=hm.obj i _ hi
 simp only[O.is] at ho
 cases mu with
 |true =>
  simp only[if_true] at ho
  obtain⟨xs,hrow,⟨ad,e1,rfl⟩|⟨g,off,cap,e1,h1,h2,h3,h4,h5,h6,h7,h8⟩⟩:=ho
  ·exact⟨ad,0,by simpa using e1,by simp,Nat.zero_le _,by simp,xs,S,hrow,by simp,fun _ h=>h⟩
  ·exact⟨_,cap,e1,h5,h6,fun _=>⟨g,off,rfl⟩,xs,S,hrow,fun _=>⟨g,off,rfl,h8⟩,fun _ h=>h⟩
 |false =>
  simp only[Bool.false_eq_true,if_false,D.is] at ho
  obtain⟨ad,cap,xs,e1,h1,h2,hrow,hr⟩:=ho
  exact⟨ad,cap,e1,h1,h2,fun h0=>let ⟨g,off,e,_⟩:=hr h0;⟨g,off,e⟩,xs,S,hrow,fun h0=>let ⟨g,off,e,_,hr'⟩:=hr h0;⟨g,off,e,hr'⟩,fun _ h=>h⟩
theorem ok_nck (hm:Mem m hd w S X B) {x:Operand} (ho:o.op=.nilCheck x) (hv:VRs m hd w S vs [a.eval x]) (hs:semNck m vs=some (v,us)):StepOK P X B o a m hd w S v us:=by
 obtain⟨y,rfl,h⟩:=hv.inv1
 have key:∀ ad,a.eval x=.pointer (some ad)→StepOK P X B o a m hd w S y []:=fun ad e=>StepOK.pure hm (u:=a.eval x) (by simp [execOp,ho,e]) h
 unfold semNck at hs
 split at hs
 ·rename_i i ver q e
  cases e
  split at hs
  ·rename_i hc
   cases hs
   obtain⟨b,_,e⟩:=curB_ok h hc
   exact key _ e
  ·cases hs
 ·rename_i i ver e' q e
  cases e
  split at hs
  ·rename_i hc
   cases hs
   obtain⟨k,mu,l,g,off,n,cap,_,_,e⟩:=curA_ep h hc
   exact key _ e
  ·cases hs
 ·rename_i cs q e
  cases e
  cases hs
  have h':=h
  simp only[VR] at h'
  obtain⟨g,off,xs,e,_⟩:=h'
  exact key _ e
 ·cases hs
theorem ok_bin (hm:Mem m hd w S X B) {op:BinOp} {t t':TypeId} {x y:Operand} (ho:o.op=.binOp op t x y t') (hv:VRs m hd w S vs [a.eval x,a.eval y]) (hs:semBin op vs=some (v,us)) (hp:preBin op vs):StepOK P X B o a m hd w S v us:=by
 obtain⟨p,q,rfl,h1,h2⟩:=hv.inv2
 unfold semBin at hs
 split at hs
 ·rename_i k c k' e hh
  cases hh
  split at hs
  ·rename_i hk
   subst hk
   simp only[Option.map_eq_some_iff] at hs
   obtain⟨r,hr,hs⟩:=hs
   cases hs
   have e1:=h1.at_
   have e2:=h2.at_
   simp only[preBin] at hp
   by_cases hsh:op=.shr
   ·subst hsh
    simp only[semInt] at hr
    split at hr
    ·rename_i h1'
     subst h1'
     cases hr
     have hb:min 1 k.bits=1:=by cases k <;> rfl
     refine StepOK.pure hm ?_ (VR.at_mk rfl)
     simp [execOp,ho,e1,e2,eqGuard,binOp,Op.shift,hb]
     exact Int.fdiv_eq_ediv_of_nonneg _ (by decide)
    ·cases hr
   cases op <;> simp only[semInt,Option.some.injEq,reduceCtorEq] at hr <;> first|exact absurd rfl hsh|skip <;> subst hr <;> try simp only[Sim.B]
   all_goals
    (refine StepOK.pure hm ?_ (VR.at_mk rfl);simp [execOp,ho,e1,e2,eqGuard,binOp,Op.intArith,Op.intCmp,Op.intDiv,intBits_xor,intBits_and,intBits_or,hp])
  ·unfold semSh at hs
   split at hs
   ·split at hs
    ·rename_i h1'
     subst h1'
     cases hs
     have e1:=h1.at_
     have e2:=h2.at_
     have hb:min 1 k.bits=1:=by cases k <;> rfl
     refine StepOK.pure hm ?_ (VR.at_mk rfl)
     simp [execOp,ho,e1,e2,eqGuard,binOp,Op.shift,hb]
     exact Int.fdiv_eq_ediv_of_nonneg _ (by decide)
    ·cases hs
   ·cases hs
 ·rename_i c e hh
  cases hh
  simp only[Option.map_eq_some_iff] at hs
  obtain⟨r,hr,hs⟩:=hs
  cases hs
  have e1:=h1.at_
  have e2:=h2.at_
  simp only[preBin] at hp
  cases op <;> simp only[semStr,Option.some.injEq,reduceCtorEq] at hr <;> subst hr <;> try simp only[Sim.B]
  case add =>
   refine StepOK.pure hm (u:=.string (c++e)) ?_ (VR.at_mk rfl)
   have:¬ (((c.size+e.size:Nat):Int) > IntKind.i64.max):=by simp [IntKind.max,IntKind.signed,IntKind.bits];omega
   simp only[execOp,ho,e1,e2,eqGuard,binOp,Op.stringOp,this]
   simp
  all_goals (refine StepOK.pure hm ?_ (VR.at_mk rfl);simp [execOp,ho,e1,e2,eqGuard,binOp,Op.stringOp])
 ·cases hs
theorem ok_beq (hm:Mem m hd w S X B) {ne:Bool} {t t':TypeId} {x y:Operand} (ho:o.op=.binOp (if ne then .neq else .eql) t x y t') (ht:P.underlying t=some .bool) (hv:VRs m hd w S vs [a.eval x,a.eval y]) (hs:semBeq ne vs=some (v,us)):StepOK P X B o a m hd w S v us:=by
 obtain⟨p,q,rfl,h1,h2⟩:=hv.inv2
 unfold semBeq at hs
 split at hs
 ·rename_i b c hh
  cases hh
  have e1:=h1.at_
  have e2:=h2.at_
  cases ne <;> simp only[Option.some.injEq,Prod.mk.injEq,Sim.B] at hs <;> obtain⟨rfl,rfl⟩:=hs <;>
   (refine StepOK.pure hm ?_ (VR.at_mk rfl);simp [execOp,ho,e1,e2,eqGuard,binOp,run_equal_bool _ t _ _ ht] <;> (cases b <;> cases c <;> rfl))
 ·cases hs
theorem ok_isn (hm:Mem m hd w S X B) {ne:Bool} {t t' e:TypeId} {x y:Operand} (ho:o.op=.binOp (if ne then .neq else .eql) t x y t') (ht:P.underlying t=some (.slice e)) (hv:VRs m hd w S vs [a.eval x,a.eval y]) (hs:semIsn ne m vs=some (v,us)):StepOK P X B o a m hd w S v us:=by
 obtain⟨p,q,rfl,h1,h2⟩:=hv.inv2
 have run:∀ ad n c,a.eval x=.slice ad n c→a.eval y=.slice none 0 0→(execOp a.eval o).run P w=.ok (.value (.bool (if ne then !ad.isNone else ad.isNone))) w:=by
  intro ad n c e1 e2
  cases ne <;> simp [execOp,ho,e1,e2,eqGuard,binOp,run_equal_slice_nil w t e ad n c ht]
 have fin:∀ ad n c (l:List (List D)),a.eval x=.slice ad n c→a.eval y=.slice none 0 0→(0<l.length→∃ g off,ad=some (⟨g,off,none⟩:Addr))→StepOK P X B o a m hd w S (nilB ne l) []:=by
  intro ad n c l e1 e2 hl
  refine StepOK.pure hm (run _ _ _ e1 e2) ?_
  cases l with
  |nil=>simp only[nilB,VR];exact⟨_,rfl⟩
  |cons z l =>
   obtain⟨g,off,rfl⟩:=hl (by simp)
   simp only[nilB,Sim.B]
   cases ne <;> exact VR.at_mk rfl
 unfold semIsn at hs
 split at hs
 ·rename_i k l k' hh
  cases hh
  cases hs
  simp only[VR,D.is] at h1 h2
  obtain⟨ad,cap,xs,e1,_,_,_,hr⟩:=h1
  exact fin _ _ _ l e1 h2 fun h0=>let ⟨g,off,e,_⟩:=hr h0;⟨g,off,e⟩
 ·rename_i k k' hh
  cases hh
  cases hs
  simp only[VR] at h1 h2
  refine StepOK.pure hm (run _ _ _ h1 h2) ?_
  simp only[Sim.B]
  cases ne <;> exact VR.at_mk rfl
 ·rename_i i ver k hh
  cases hh
  split at hs
  ·rename_i v' k' mu l hmi
   split at hs
   ·rename_i hv
    subst hv
    cases hs
    obtain⟨ad,cap,hh,_,_,had,_⟩:=arr_head hm hmi
    simp only[VR] at h2
    exact fin _ _ _ l ((og_ok h1 hmi).trans hh) h2 had
   ·cases hs
  ·cases hs
 ·cases hs
theorem eqCells_ok {d:Nat} {xs ys:Array Value}:∀ {fs:List Field} {off:Nat} {l r:List V} {t:Bool},intFields P fs off=true→l.length=fs.length→VRs m hd w S l (xs.toList.drop off)→VRs m hd w S r (ys.toList.drop off)→eqCells l r=some t →
  (Op.eqFields (d+1) xs ys fs).run P w=.ok t w
 |[],off,l,r,t,_,hl,_,_,ht=>by
  have:l=[]:=List.eq_nil_of_length_eq_zero hl
  subst this
  cases r <;> simp [eqCells] at ht
  subst ht
  simp [Op.eqFields]
 |f :: fs,off,l,r,t,hf,hl,hx,hy,ht=>by
  simp only[intFields,Bool.and_eq_true,beq_iff_eq,bne_iff_ne,ne_eq] at hf
  obtain⟨⟨⟨h1,h2⟩,h3⟩,h4⟩:=hf
  unfold eqCells at ht
  split at ht
  ·simp at hl
  ·rename_i k c l' k' e r'
   split at ht
   ·rename_i t' ht'
    split at ht
    ·rename_i hk
     subst hk
     cases ht
     obtain⟨u,us,ex,hu,hus⟩:=hx
     obtain⟨u',us',ey,hu',hus'⟩:=hy
     have e1:=hu.at_
     have e2:=hu'.at_
     subst e1
     subst e2
     have gx:xs[off]?=some (.int k c):=by
      have:=congrArg (·[0]?) ex
      simpa [List.getElem?_drop] using this
     have gy:ys[off]?=some (.int k e):=by
      have:=congrArg (·[0]?) ey
      simpa [List.getElem?_drop] using this
     have dx:xs.toList.drop (off+1)=us:=by
      have:=congrArg List.tail ex
      simpa [List.tail_drop] using this
     have dy:ys.toList.drop (off+1)=us':=by
      have:=congrArg List.tail ey
      simpa [List.tail_drop] using this
     have ih:=eqCells_ok (d:=d) (xs:=xs) (ys:=ys) h4 (by simpa using hl) (by rw[dx];exact hus) (by rw[dy];exact hus') ht'
     split at h3
     ·rename_i kf hu
      have hagg:(isAgg f.type).run P w=.ok false w:=by simp [isAgg,run_underlying hu]
      have p1:(part f.type xs f.offset).run P w=.ok (.int k c) w:=by simp [part,hagg,h1,gx]
      have p2:(part f.type ys f.offset).run P w=.ok (.int k e) w:=by simp [part,hagg,h1,gy]
      simp only[Op.eqFields,ne_eq,h2,not_false_eq_true,if_true,Sem.run_bind,p1,p2,Result.andThen_ok,run_equalIn_int w d f.type k kf c e hu]
      cases hce:(c == e)
      ·simp
      ·simp [ih]
     ·cases h3
    ·cases ht
   ·cases ht
  ·cases ht
theorem ok_seq (hm:Mem m hd w S X B) {ne:Bool} {t t':TypeId} {fs:Array Field} {x y:Operand} (ho:o.op=.binOp (if ne then .neq else .eql) t x y t') (ht:P.underlying t=some (.struct fs)) (h1:intFields P fs.toList 0=true) (h2:P.stoodInHeld t=false) (h3:P.eqGuardType P.depth t=false)
  (hv:VRs m hd w S vs [a.eval x,a.eval y]) (hs:semSeq fs.size ne vs=some (v,us)):StepOK P X B o a m hd w S v us:=by
 obtain⟨p,q,rfl,g1,g2⟩:=hv.inv2
 unfold semSeq at hs
 split at hs
 ·rename_i l r hh
  cases hh
  split at hs
  ·rename_i t0 hc
   split at hs
   case isFalse=>cases hs
   rename_i hlen
   simp only[VR] at g1 g2
   obtain⟨xs,e1,k1,_⟩:=g1
   obtain⟨ys,e2,k2,_⟩:=g2
   have hfo:P.fieldsOf t=fs:=by simp [Program.fieldsOf,ht]
   have hrun:=eqCells_ok (d:=9998) (xs:=xs.toArray) (ys:=ys.toArray) (w:=w) h1 (by simpa using hlen) (by simpa using k1) (by simpa using k2) hc
   have heq:=run_equalIn_struct w 9999 t xs.toArray ys.toArray (by rw[hfo];exact ht) h2
   rw[hfo,hrun] at heq
   cases ne <;> simp only[Option.some.injEq,Prod.mk.injEq,Sim.B] at hs <;> obtain⟨rfl,rfl⟩:=hs
   ·refine StepOK.pure hm (u:=.bool t0) ?_ (VR.at_mk rfl)
    simp only[execOp,ho,e1,e2,Sem.run_bind,run_eqGuard_agg w _ t x y _ _ h3,Result.andThen_ok,Bool.false_eq_true,if_false,run_eql_struct,heq]
    rfl
   ·refine StepOK.pure hm (u:=.bool (!t0)) ?_ (VR.at_mk rfl)
    simp only[execOp,ho,e1,e2,Sem.run_bind,run_eqGuard_agg w _ t x y _ _ h3,Result.andThen_ok,if_true,run_neq_struct,heq]
    rfl
  ·cases hs
 ·cases hs
theorem ok_un (hm:Mem m hd w S X B) {op:UnOp} {t:TypeId} {x:Operand} (ho:o.op=.unOp op t x) (hv:VRs m hd w S vs [a.eval x]) (hs:semUn op vs=some (v,us)):StepOK P X B o a m hd w S v us:=by
 obtain⟨y,rfl,h⟩:=hv.inv1
 unfold semUn at hs
 split at hs
 ·rename_i b e
  cases e
  have e1:=h.at_
  cases op <;> simp only[Option.some.injEq,Prod.mk.injEq,reduceCtorEq] at hs
  obtain⟨rfl,rfl⟩:=hs
  exact StepOK.pure hm (u:=.bool !b) (by simp [execOp,ho,e1,Op.unary]) (VR.at_mk rfl)
 ·rename_i k n e
  cases e
  have e1:=h.at_
  cases op <;> simp only[Option.some.injEq,Prod.mk.injEq,reduceCtorEq] at hs
  obtain⟨rfl,rfl⟩:=hs
  exact StepOK.pure hm (u:=.int k (k.wrap (0-n))) (by simp [execOp,ho,e1,Op.unary,Op.intArith]) (VR.at_mk rfl)
 ·cases hs
theorem ok_conv (hm:Mem m hd w S X B) {s t:TypeId} {k:IntKind} {x:Operand} (ho:o.op=.convert s t x) (hk:P.underlying t=some (.int k)) (hsrc:(P.underlying s).isSome=true) (hv:VRs m hd w S vs [a.eval x]) (hs:semConv k vs=some (v,us)):StepOK P X B o a m hd w S v us:=by
 obtain⟨y,rfl,h⟩:=hv.inv1
 unfold semConv at hs
 split at hs
 ·rename_i k' n e
  cases e
  cases hs
  have e1:=h.at_
  obtain⟨ds,hds⟩:=Option.isSome_iff_exists.1 hsrc
  exact StepOK.pure hm (u:=.int k (k.wrap n)) (by simp [execOp,ho,e1,convert,run_underlying hk,run_underlying hds,Conv.intToInt]) (VR.at_mk rfl)
 ·cases hs
theorem ok_mkff (hm:Mem m hd w S X B) {f:FuncId} {fs cs:Array Operand} (ho:o.op=.makeFunc (.func f) fs cs) (hf:cs.size=0) (hv:VRs m hd w S vs (fs.toList.map a.eval)):StepOK P X B o a m hd w S (.cl (f+1000000) vs) []:=by
 have:cs=#[]:=Array.eq_empty_of_size_eq_zero hf
 subst this
 refine StepOK.pure hm (u:=.func (.func f) (fs.map a.eval) #[]) (by simp [execOp,ho,Instr.makeFunc]) ?_
 simp only[VR]
 refine⟨fs.toList.map a.eval,?_,hv⟩
 unfold mkCl
 rw[if_neg (show ¬ f+1000000<1000000 from Nat.not_lt.2 (Nat.le_add_left _ _)),Nat.add_sub_cancel]
 congr 1;apply Array.ext';simp
theorem ok_mkf (hm:Mem m hd w S X B) {f:FuncId} {fs cs:Array Operand} (ho:o.op=.makeFunc (.func f) fs cs) (hlt:f<1000000) (hf:fs.size=0) (hv:VRs m hd w S vs (cs.toList.map a.eval)):StepOK P X B o a m hd w S (.cl f vs) []:=by
 have:fs=#[]:=Array.eq_empty_of_size_eq_zero hf
 subst this
 refine StepOK.pure hm (u:=.func (.func f) #[] (cs.map a.eval)) (by simp [execOp,ho,Instr.makeFunc]) ?_
 simp only[VR]
 exact⟨cs.toList.map a.eval,by unfold mkCl;rw[if_pos hlt];congr 1;apply Array.ext';simp,hv⟩
theorem elem_ok {t e:TypeId} {k by_:Nat} (h:elemOf' P t=some (e,k,by_)):∃ i,P.underlying t=some (.slice e)∧P.info? e=some i∧i.size=k∧i.bytes=by_:=by
 unfold elemOf' at h
 split at h
 ·rename_i e' hu
  split at h
  ·rename_i i hi
   cases h
   exact⟨i,hu,hi,rfl,rfl⟩
  ·cases h
 ·cases h
theorem rows_rep {k:Nat} {z:List D} {us:List Value} (h:Cells w S z us) (hk:z.length=k):∀ n,Rows w S k (List.replicate n z) (List.replicate n us).flatten
 |0=>by simp [Rows]
 |n+1=>by
  simp only[List.replicate_succ,List.flatten_cons,Rows]
  exact⟨us,_,rfl,hk,h,rows_rep h hk n⟩
theorem ok_mks (hm:Mem m hd w S X B) {t e:TypeId} {k by_:Nat} {z:List V} {x y:Operand} (ho:o.op=.makeSlice t x y) (he:elemOf' P t=some (e,k,by_)) (hz:zcs P e=some z) (hk0:0<k) (hz0:z ≠ [])
  (hv:VRs m hd w S vs [a.eval x,a.eval y]) (hs:semMks k z d m vs=some (v,us)) (hp:preMks by_ vs):StepOK P X B o a m hd w S v us:=by
 obtain⟨p,q,rfl,h1,h2⟩:=hv.inv2
 obtain⟨inf,hu,hi,hsz,hby⟩:=elem_ok he
 obtain⟨inf',u,hi',hzero,hzok,hzl⟩:=zcs_ok hz
 rw[hi] at hi'
 cases hi'
 unfold semMks at hs
 split at hs
 ·rename_i k1 n k2 c hh
  cases hh
  obtain⟨y0,r0,rfl⟩:∃ y0 r0,z=y0 :: r0:=by cases z with|nil=>exact absurd rfl hz0|cons y0 r0=>exact⟨y0,r0,rfl⟩
  cases hs
  simp only[preMks] at hp
  obtain⟨rfl,rfl,h0,hnc,hb,hb2⟩:=hp
  have e1:=h1.at_
  have e2:=h2.at_
  have hzd:=zD_ok (w:=w) (S:=S) hzok
  have hzdl:(zD (y0 :: r0)).length=k:=by rw[← hsz,← hzl];simp [zD]
  have hrun:=run_make (P:=P) w t e inf u hu hi hzero .i64 .i64 n c h0 hnc (by rw[hby,Int.mul_comm];omega) (by omega)
  have hcells:u.cells.toList.length=k:=by have:=hzd.len;omega
  have hml:=made_list u.cells.toList (by omega) c.toNat
  rw[Array.toArray_toList,hcells] at hml
  rw[hsz] at hrun
  have hlen:((madeCells u.cells (c.toNat*k)).toList).length=c.toNat*k:=by simp [size_madeCells]
  have hpre:((madeCells u.cells (c.toNat*k)).toList).take (n.toNat*k)=(List.replicate n.toNat u.cells.toList).flatten:=by
   have hsplit:c.toNat=n.toNat+(c.toNat-n.toNat):=by omega
   rw[hml,hsplit,← List.replicate_append_replicate,List.flatten_append]
   have hl:((List.replicate n.toNat u.cells.toList).flatten).length=n.toNat*k:=by simp [hcells]
   rw[← hl,List.take_left]
  exact StepOK.newArrC (Out.refl hm) (us1:=[]) rfl (o:=o) (a:=a) (P:=P) (d:=d) (k:=k) (n:=n.toNat) (c:=c.toNat) (l:=List.replicate n.toNat (zD (y0 :: r0))) (xs:=(madeCells u.cells (c.toNat*k)).toList) (t:=e) rfl (by rw[Array.toArray_toList];simp only[execOp,ho,e1,e2,Sem.run_bind,hrun,Result.andThen_ok,Sem.run_pure]) (by simp) (by omega) (by unfold maxLen;omega) (by rw[hpre];exact rows_rep hzd hzdl _) hlen
 ·cases hs
theorem nl_rep (n:Nat):VRs m hd w S (List.replicate n (.nl 1)) (List.replicate n (.slice none 0 0)):=by
 induction n with
 |zero=>simp [VRs]
 |succ n ih=>simp only[List.replicate_succ,VRs];exact⟨_,_,rfl,by simp only[VR],ih⟩
theorem StepOK.newBoxS (h:Mem m hd w S X B) {d n:Nat} {cs:List V} {xs:List Value} {t:TypeId} (hr:(execOp a.eval o).run P w=.ok (.value (.slice (some ⟨w.heap.size,0,none⟩) n n)) (w.alloc (.cells xs.toArray t)))
  (hc:VRs m hd w S cs xs) (h1:∀ y ∈ xs,y.oneCell'=true):StepOK P X B o a m hd w S (.ep d (nv m d) n 1) [(d,.box (nv m d) cs)]:=by
 have ho:=out_upd (w':=w.alloc (.cells xs.toArray t)) h d (.box (nv m d) cs) (.pointer (some ⟨w.heap.size,0,none⟩)) (by simp) rfl rfl rfl (fun b hb _=>Below.heap_alloc w _ b hb)
  (fun oo hoo=>⟨by simp [nv,hoo,O.ver],fun e=>by simp [nv,hoo,O.ver] at e⟩) (fun b hb _=>.inl (by simp [Sim.blk] at hb;omega))
  (fun hle hk=>by
   simp only[O.is]
   refine⟨w.heap.size,xs,rfl,.inl h.base,by simp,fun hb=>by have:=h.lt _ hb;omega,VRs.keep hle hk _ _ hc,h1,fun j hj=>?_,range_new w xs t⟩
   rw[Nat.zero_add,World.cell?_alloc_new,World.frozen?_alloc_new]
   exact⟨by simp [hc.len,hj],rfl⟩)
 refine⟨_,_,_,S,hr,ho,.inl ⟨_,rfl,?_⟩⟩
 simp only[VR,ups]
 refine⟨rfl,_,up_same _ _ _,Nat.le_refl _,⟨?_,fun cs' _=>⟨w.heap.size,up_same _ _ _,rfl⟩⟩⟩
 intro k mu l e
 cases e
theorem zOks_nl {q:Nat}:∀ {us:List Value},zOks [.nl q] us=true→us=[.slice none 0 0]
 |[],h=>by simp [zOks] at h
 |[u],h=>by
  simp only[zOks,Bool.and_eq_true] at h
  have h1:=h.1
  unfold zOk at h1
  split at h1 <;> simp_all
 |u :: v :: r,h=>by simp [zOks] at h
theorem ok_mkb (hm:Mem m hd w S X B) {t e:TypeId} {by_ q:Nat} {x:Operand} (ho:o.op=.makeSlice t x x) (he:elemOf' P t=some (e,1,by_)) (hz:zcs P e=some [.nl q])
  (hv:VRs m hd w S vs [a.eval x,a.eval x]) (hs:semMks 1 [] d m vs=some (v,us)) (hp:preMks by_ vs):StepOK P X B o a m hd w S v us:=by
 obtain⟨p,p',rfl,h1,h2⟩:=hv.inv2
 obtain⟨inf,hu,hi,hsz,hby⟩:=elem_ok he
 obtain⟨inf',u,hi',hzero,hzok,hzl⟩:=zcs_ok hz
 rw[hi] at hi'
 cases hi'
 unfold semMks at hs
 split at hs
 ·rename_i k1 n k2 c hh
  cases hh
  cases hs
  simp only[preMks] at hp
  obtain⟨rfl,rfl,h0,hnc,hb,hb2⟩:=hp
  have e1:=h1.at_
  have e2:=h2.at_
  have hce:c=n:=by rw[e1] at e2;cases e2;rfl
  subst hce
  have hrun:=run_make (P:=P) w t e inf u hu hi hzero .i64 .i64 c c h0 hnc (by rw[hby,Int.mul_comm];omega) (by omega)
  have hcl:u.cells.toList=[.slice none 0 0]:=zOks_nl hzok
  have hml:=made_list u.cells.toList (by rw[hcl];simp) c.toNat
  rw[Array.toArray_toList,hcl] at hml
  rw[hsz] at hrun
  have hml2:(madeCells u.cells (c.toNat*1)).toList=List.replicate c.toNat (.slice none 0 0):=by
   have:c.toNat * [Value.slice none 0 0].length=c.toNat*1:=rfl
   rw[this] at hml
   rw[hml]
   generalize c.toNat=n
   induction n with
   |zero=>rfl
   |succ n ih=>simp only[List.replicate_succ,List.flatten_cons,ih];rfl
  exact StepOK.newBoxS hm (o:=o) (a:=a) (P:=P) (d:=d) (n:=c.toNat) (xs:=(madeCells u.cells (c.toNat*1)).toList) (t:=e) (by rw[Array.toArray_toList];simp only[execOp,ho,e1,Sem.run_bind,hrun,Result.andThen_ok,Sem.run_pure]) (by rw[hml2];exact nl_rep _) (fun y hy=>by rw[hml2] at hy;rw[(List.mem_replicate.1 hy).2];rfl)
 ·cases hs
end
end Go.Proofs.YticdbambknflgaaGreat.Sim
end
