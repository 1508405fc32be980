/- The operations, one by one: of no program. Conditions: none. -/
import Derived.Test.YtacfbiegbdlldaaGreatDoorVSimE
section
namespace Go.Proofs.YtacfbiegbdlldaaGreatDoor.Sim
open Go Go.RowKit Go.Deep
set_option linter.unusedVariables false
section
variable {P:Program} {X:Nat→Prop} {B:Nat} {o:Oper} {a:Act} {m:M} {hd:H} {w:World} {S:Nat→Prop} {v:V} {us:U}
theorem up_id {α:Type} (f:Nat→α) (i:Nat):up f i (f i)=f:=by funext j;by_cases e:j=i <;> simp [up,e]
theorem StepOK.wrArr {m1:M} {us1:U} {S1:Nat→Prop} (h1:Out X B m hd w S m1 hd w S1) (hus:ups m us1=m1) {i ver k e q:Nat} {l:List (List D)} {ds:List D} {vs:List Value} (hi:m1 i=some (.arr ver k true l))
  (hr:∀ g off n cap,hd i=.slice (some ⟨g,off,none⟩) n cap→w.there g (off+(e*k+q)) vs.length→(execOp a.eval o).run P w=.ok .skip (w.setCells g (off+(e*k+q)) vs))
  (hx:Cells w S1 ds vs) (he:e<l.length) (ho:q+ds.length≤k):StepOK P X B o a m hd w S .un (us1++[(i,.arr ver k true (l.set e (splice (l.getD e []) q ds)))]):=by
 have h:=h1.mem
 have hoi:=h.obj i _ hi
 simp only[O.is,if_true] at hoi
 obtain⟨xs,hrow,hoi⟩:=hoi
 have hle:(e+1)*k≤l.length*k:=Nat.mul_le_mul_right _ he
 rw[Nat.add_mul,Nat.one_mul] at hle
 have hxl:=hrow.len
 have hvl:=hx.len
 rcases hoi with ⟨_,_,rfl⟩|⟨g,off,cap,hg,hc0,hB,hlt,hT,hn,hcm,hth,hra⟩
 ·simp at he
 ·have hle2:l.length*k≤cap*k:=Nat.mul_le_mul_right _ hn
  have hth':w.there g (off+(e*k+q)) vs.length:=fun j hj=>by
   have:=hth (e*k+q+j) (by omega)
   rwa [← Nat.add_assoc] at this
  have hbl:blk (hd i)=some g:=by rw[hg];cases cap with|zero=>omega|succ c=>rfl
  have ho:=out_upd (w':=w.setCells g (off+(e*k+q)) vs) h i (.arr ver k true (l.set e (splice (l.getD e []) q ds))) (hd i) (by rw[(size_setCells _ _ _ _).1];exact Nat.le_refl _) (World.os_setCells _ _ _ _) (size_setCells _ _ _ _).2 (World.output_setCells _ _ _ _)
   (fun b hb hne=>World.heap_setCells_other _ _ _ _ hb (fun e=>hne _ hi rfl (by rw[hbl,e])))
   (fun oo hoo=>by rw[hi] at hoo;cases hoo;exact⟨Nat.le_refl _,fun _=>⟨rfl,rfl⟩⟩) (fun b hb _=>.inr ⟨_,hi,rfl,hb⟩)
   (fun hl hk=>by
    simp only[O.is,if_true]
    refine⟨_,(Rows.put (Cells.keep hk _ _ hx) ho (Rows.keep hk _ _ _ hrow) he),.inr ⟨g,off,cap,by rw[List.length_set];exact hg,hc0,hB,by rw[(size_setCells _ _ _ _).1];exact hlt,hT,by rw[List.length_set];exact hn,hcm,World.there_setCells hth _ _ _,range_splice hra hth' (by omega)⟩⟩)
  rw[up_id] at ho
  refine⟨_,_,hd,S1,hr _ _ _ _ hg hth',?_,.inr ⟨rfl,rfl⟩⟩
  rw[ups_append,hus]
  exact h1.trans ho
theorem StepOK.appArr (h:Mem m hd w S X B) {i ver k:Nat} {l ns:List (List D)} {news:List Value} {x:Value} {t tx:TypeId} (hi:m i=some (.arr ver k true l)) (e:TypeId) (inf:TypeInfo) (z:Value) (bytes:Nat) (ht:P.underlying t=some (.slice e)) (hinf:P.info? e=some inf) (hz:inf.zero=some z) (hsize:inf.size=k) (hby:inf.bytes=bytes) (hzs:z.cells.size=k)
  (hr:∀ v' w',(Builtin.append_ #[t,tx] o.type #[hd i,x]).run P w=.ok v' w'→(execOp a.eval o).run P w=.ok (.value v') w')
  (hs:Src P k tx x ns.length news w) (hn:Rows w S k ns news) (h63:l.length+ns.length≤140737488355328) (hbytes:(l.length+ns.length)*bytes≤140737488355328) :
  StepOK P X B o a m hd w S (.og i (ver+1)) [(i,.arr (ver+1) k true (l++ns))]:=by
 have hoi:=h.obj i _ hi
 simp only[O.is,if_true] at hoi
 obtain⟨v',w',r1,r2,r3,r4⟩:=run_append_arr (P:=P) t tx o.type e inf z bytes ht hinf hz hsize hby hzs hoi h.base h.lt x news hs hn h63 hbytes
 have ho:=out_upd (w':=w') h i (.arr (ver+1) k true (l++ns)) v' r3.size r3.os r3.tape r3.output (fun b hb hne=>r3.block b hb (fun e=>hne _ hi rfl e.symm))
  (fun oo hoo=>by rw[hi] at hoo;cases hoo;exact⟨Nat.le_succ _,fun e=>by simp [O.ver] at e⟩) (fun b hb _=>(r4 b hb).elim (fun e=>.inr ⟨_,hi,rfl,e⟩) (fun e=>.inl (by omega)))
  (fun hl hk=>by simp only[O.is,if_true];exact r2)
 refine⟨_,w',up hd i v',S,hr _ _ r1,ho,.inl ⟨_,rfl,?_⟩⟩
 simp only[VR,ups]
 refine⟨?_,_,up_same _ _ _,Nat.le_refl _,fun k' mu' l' e=>by rw[up_same]⟩
 obtain⟨_,_,⟨a,rfl,_⟩|⟨g,off,cap,rfl,_⟩⟩:=r2 <;> rfl
theorem StepOK.appNil (h:Mem m hd w S X B) {d k:Nat} {ns:List (List D)} {news:List Value} {x:Value} {ad:Option Addr} {t tx:TypeId} (e:TypeId) (inf:TypeInfo) (z:Value) (bytes:Nat) (ht:P.underlying t=some (.slice e)) (hinf:P.info? e=some inf) (hz:inf.zero=some z) (hsize:inf.size=k) (hby:inf.bytes=bytes) (hzs:z.cells.size=k)
  (hr:∀ v' w',(Builtin.append_ #[t,tx] o.type #[.slice ad 0 0,x]).run P w=.ok v' w'→(execOp a.eval o).run P w=.ok (.value v') w')
  (hs:Src P k tx x ns.length news w) (hn:Rows w S k ns news) (h63:ns.length≤140737488355328) (hbytes:ns.length*bytes≤140737488355328) :
  StepOK P X B o a m hd w S (.og d (nv m d)) [(d,.arr (nv m d) k true ns)]:=by
 have h0:Arr w B X S k (.slice ad 0 0) []:=⟨[],by simp [Rows],.inl ⟨ad,rfl,rfl⟩⟩
 have hb0:blk (.slice ad 0 0)=none:=by cases ad <;> rfl
 obtain⟨v',w',r1,r2,r3,r4⟩:=run_append_arr (P:=P) t tx o.type e inf z bytes ht hinf hz hsize hby hzs h0 h.base h.lt x news hs hn (by simpa using h63) (by simpa using hbytes)
 rw[hb0] at r3 r4
 have ho:=out_upd (w':=w') h d (.arr (nv m d) k true ns) v' r3.size r3.os r3.tape r3.output (fun b hb hne=>r3.block b hb (fun e=>by cases e))
  (fun oo hoo=>⟨by simp [nv,hoo,O.ver],fun e=>by simp [nv,hoo,O.ver] at e⟩) (fun b hb _=>(r4 b hb).elim (fun e=>by cases e) (fun e=>.inl (by omega)))
  (fun hl hk=>by simp only[O.is,if_true];simpa using r2)
 refine⟨_,w',up hd d v',S,hr _ _ r1,ho,.inl ⟨_,rfl,?_⟩⟩
 simp only[VR,ups]
 refine⟨?_,_,up_same _ _ _,Nat.le_refl _,fun k' mu' l' e=>by rw[up_same]⟩
 obtain⟨_,_,⟨a,rfl,_⟩|⟨g,off,cap,rfl,_⟩⟩:=r2 <;> rfl
theorem StepOK.appFull (h:Mem m hd w S X B) {d k g off:Nat} {l ns:List (List D)} {xs news:List Value} {x:Value} {t tx:TypeId} (e:TypeId) (inf:TypeInfo) (z:Value) (bytes:Nat) (ht:P.underlying t=some (.slice e)) (hinf:P.info? e=some inf) (hz:inf.zero=some z) (hsize:inf.size=k) (hby:inf.bytes=bytes) (hzs:z.cells.size=k)
  (hr:∀ v' w',(Builtin.append_ #[t,tx] o.type #[.slice (some ⟨g,off,none⟩) l.length l.length,x]).run P w=.ok v' w'→(execOp a.eval o).run P w=.ok (.value v') w')
  (hx:Rows w S k l xs) (hra:w.rangeAt g off xs) (hs:Src P k tx x ns.length news w) (hn:Rows w S k ns news) (hn0:0<ns.length) (h63:l.length+ns.length≤140737488355328) (hbytes:(l.length+ns.length)*bytes≤140737488355328) :
  StepOK P X B o a m hd w S (.og d (nv m d)) [(d,.arr (nv m d) k true (l++ns))]:=by
 obtain⟨v',w',r1,r2,r3,r4⟩:=run_append_full (P:=P) (X:=X) t tx o.type e inf z bytes ht hinf hz hsize hby hzs hx hra h.base h.lt x news hs hn hn0 h63 hbytes
 have ho:=out_upd (w':=w') h d (.arr (nv m d) k true (l++ns)) v' r3.size r3.os r3.tape r3.output (fun b hb hne=>r3.block b hb (fun e=>by cases e))
  (fun oo hoo=>⟨by simp [nv,hoo,O.ver],fun e=>by simp [nv,hoo,O.ver] at e⟩) (fun b hb _=>.inl (by have:=r4 b hb;omega))
  (fun hl hk=>by simp only[O.is,if_true];exact r2)
 refine⟨_,w',up hd d v',S,hr _ _ r1,ho,.inl ⟨_,rfl,?_⟩⟩
 simp only[VR,ups]
 refine⟨?_,_,up_same _ _ _,Nat.le_refl _,fun k' mu' l' e=>by rw[up_same]⟩
 obtain⟨_,_,⟨a,rfl,_⟩|⟨g,off,cap,rfl,_⟩⟩:=r2 <;> rfl
theorem StepOK.cutArr (h:Mem m hd w S X B) {i ver k n:Nat} {l:List (List D)} (hi:m i=some (.arr ver k true l)) (hn:n≤l.length)
  (hr:∀ ad len cap,hd i=.slice ad len cap→len=l.length→len≤cap→(execOp a.eval o).run P w=.ok (.value (.slice ad n cap)) w) :
  StepOK P X B o a m hd w S (.og i (ver+1)) [(i,.arr (ver+1) k true (l.take n))]:=by
 have hoi:=h.obj i _ hi
 simp only[O.is,if_true] at hoi
 obtain⟨xs,hrow,hoi⟩:=hoi
 have go:∀ ad len cap,hd i=.slice ad len cap→len=l.length→len≤cap→Arr w B X S k (.slice ad n cap) (l.take n)→StepOK P X B o a m hd w S (.og i (ver+1)) [(i,.arr (ver+1) k true (l.take n))]:=by
  intro ad len cap e1 e2 e3 harr
  have ho:=out_upd (w':=w) h i (.arr (ver+1) k true (l.take n)) (.slice ad n cap) (Nat.le_refl _) rfl rfl rfl (fun b hb hne=>rfl)
   (fun oo hoo=>by rw[hi] at hoo;cases hoo;exact⟨Nat.le_succ _,fun e=>by simp [O.ver] at e⟩) (fun b hb _=>.inr ⟨_,hi,rfl,by rw[e1];cases ad <;> cases cap <;> simp_all [blk]⟩)
   (fun hl hk=>by simp only[O.is,if_true];exact harr)
  refine⟨_,w,up hd i (.slice ad n cap),S,hr _ _ _ e1 e2 e3,ho,.inl ⟨_,rfl,?_⟩⟩
  simp only[VR,ups]
  exact⟨rfl,_,up_same _ _ _,Nat.le_refl _,fun k' mu' l' e=>by rw[up_same]⟩
 rcases hoi with ⟨ad,hg,rfl⟩|⟨g,off,cap,hg,hc0,hB,hlt,hT,hn',hcm,hth,hra⟩
 ·have:n=0:=by simpa using hn
  subst this
  exact go ad 0 0 hg rfl (Nat.le_refl _) ⟨[],by simp [Rows],.inl ⟨ad,rfl,rfl⟩⟩
 ·refine go _ _ cap hg rfl hn' ⟨_,Rows.take n hrow,.inr ⟨g,off,cap,by rw[List.length_take,Nat.min_eq_left hn],hc0,hB,hlt,hT,by rw[List.length_take];omega,hcm,hth,fun j u hu=>hra j u ?_⟩⟩
  rw[List.getElem?_take] at hu
  split at hu
  ·exact hu
  ·cases hu
end
/-! ### Operands -/
def ev (T:Nat→V):AV→V
 |.t n=>T n
 |.c x=>x
section
variable {P:Program} {m:M} {hd:H} {w:World} {S:Nat→Prop} {T:Nat→V} {a:Act}
theorem cv_ok {t:TypeId} {u:Value} {x:V} (h:cv P t u=some x):VR m hd w S x u:=by
 unfold cv at h
 split at h <;> try (cases h;simp [VR,D.is,Value.oneCell'];done)
 ·split at h <;> (cases h;simp [VR])
 ·cases h
theorem av_ok (hT:∀ n,VR m hd w S (T n) (a.tmps.getD n undef)) {t:TypeId} {x:Operand} {y:AV} (h:av P t x=some y):VR m hd w S (ev T y) (a.eval x):=by
 cases x with
 |tmp n=>simp only[av,Option.some.injEq] at h;subst h;exact hT n
 |const u =>
  simp only[av,Option.map_eq_some_iff] at h
  obtain⟨x,h1,rfl⟩:=h
  exact cv_ok h1
 |global g=>simp [av] at h
 |func f =>
  simp only[av] at h
  split at h
  ·rename_i hlt
   cases h
   simp only[ev,Act.eval,VR,VRs]
   exact⟨[],by unfold mkCl;rw[if_pos hlt],rfl⟩
  ·cases h
theorem avs_ok (hT:∀ n,VR m hd w S (T n) (a.tmps.getD n undef)):∀ {xs:List Operand} {ts:List TypeId} {ys:List AV},avs P ts xs=some ys→VRs m hd w S (ys.map (ev T)) (xs.map a.eval)
 |[],ts,ys,h=>by simp only[avs,Option.some.injEq] at h;subst h;simp [VRs]
 |x :: xs,ts,ys,h=>by
  unfold avs at h
  split at h
  ·rename_i y ys' h1 h2
   cases h
   simp only[List.map_cons,VRs]
   exact⟨_,_,rfl,av_ok hT h1,avs_ok hT h2⟩
  ·cases h
theorem zOks_ok:∀ {z:List V} {us:List Value},zOks z us=true→VRs m hd w S z us∧∀ y ∈ us,y.oneCell'=true
 |[],[],_=>by simp [VRs]
 |[],_ :: _,h=>by simp [zOks] at h
 |_ :: _,[],h=>by simp [zOks] at h
 |z :: zs,u :: us,h=>by
  simp only[zOks,Bool.and_eq_true] at h
  obtain⟨h1,h2⟩:=h
  have ih:=zOks_ok h2
  have h3:VR m hd w S z u∧u.oneCell'=true:=by
   unfold zOk at h1
   split at h1 <;> simp_all [VR,D.is,Value.oneCell']
   rename_i s s'
   cases s;cases s';simp_all
  refine⟨⟨u,us,rfl,h3.1,ih.1⟩,fun y hy=>?_⟩
  rcases List.mem_cons.1 hy with rfl|hy
  ·exact h3.2
  ·exact ih.2 y hy
theorem zD_ok:∀ {z:List V} {us:List Value},zOks z us=true→Cells w S (zD z) us
 |[],[],_=>by simp [zD,Cells]
 |[],_ :: _,h=>by simp [zOks] at h
 |_ :: _,[],h=>by simp [zOks] at h
 |z :: zs,u :: us,h=>by
  simp only[zOks,Bool.and_eq_true] at h
  obtain⟨h1,h2⟩:=h
  have ih:=zD_ok h2
  refine⟨u,us,rfl,?_,ih⟩
  unfold zOk at h1
  split at h1 <;> simp_all [D.is,Value.oneCell',Rows]
  ·rename_i s s'
   cases s;cases s';simp_all
  ·exact⟨none,0,⟨rfl,rfl⟩,Nat.zero_le _⟩
theorem zcs_ok {t:TypeId} {z:List V} (h:zcs P t=some z):∃ i u,P.info? t=some i∧i.zero=some u∧zOks z u.cells.toList=true∧z.length=i.size:=by
 unfold zcs at h
 split at h
 ·rename_i i z' h1 h2
  split at h
  ·rename_i u h3
   split at h
   ·rename_i h4
    cases h
    simp only[Bool.and_eq_true,beq_iff_eq] at h4
    exact⟨i,u,h1,h3,h4.1,h4.2⟩
   ·cases h
  ·cases h
 ·cases h
end
end Go.Proofs.YtacfbiegbdlldaaGreatDoor.Sim
end
section
namespace Go.Proofs.YtacfbiegbdlldaaGreatDoor.Sim
open Go Go.RowKit Go.Deep
set_option linter.unusedVariables false
section
variable {P:Program} {X:Nat→Prop} {B:Nat} {o:Oper} {a:Act} {m:M} {hd:H} {w:World} {S:Nat→Prop} {v:V} {us:U} {vs:List V} {d:Nat} {u1 u2 u3:Value}
theorem VRs.inv0 (h:VRs m hd w S vs []):vs=[]:=by cases vs <;> simp_all [VRs]
theorem VRs.inv1 (h:VRs m hd w S vs [u1]):∃ x,vs=[x]∧VR m hd w S x u1:=by
 cases vs with
 |nil=>simp [VRs] at h
 |cons x l =>
  simp only[VRs] at h
  obtain⟨u,r,e,h1,h2⟩:=h
  cases e
  exact⟨x,by rw[h2.inv0],h1⟩
theorem VRs.invc {us:List Value} (h:VRs m hd w S vs (u1 :: us)):∃ x l,vs=x :: l∧VR m hd w S x u1∧VRs m hd w S l us:=by
 cases vs with
 |nil=>simp [VRs] at h
 |cons x l =>
  simp only[VRs] at h
  obtain⟨u,r,e,h1,h2⟩:=h
  cases e
  exact⟨x,l,rfl,h1,h2⟩
theorem VRs.inv2 (h:VRs m hd w S vs [u1,u2]):∃ x y,vs=[x,y]∧VR m hd w S x u1∧VR m hd w S y u2:=by
 obtain⟨x,l,rfl,h1,h2⟩:=h.invc
 obtain⟨y,rfl,h3⟩:=h2.inv1
 exact⟨x,y,rfl,h1,h3⟩
theorem VRs.inv3 (h:VRs m hd w S vs [u1,u2,u3]):∃ x y z,vs=[x,y,z]∧VR m hd w S x u1∧VR m hd w S y u2∧VR m hd w S z u3:=by
 obtain⟨x,l,rfl,h1,h2⟩:=h.invc
 obtain⟨y,z,rfl,h3,h4⟩:=h2.inv2
 exact⟨x,y,z,rfl,h1,h3,h4⟩
theorem VR.at_ {x u:Value} (h:VR m hd w S (.d (.at x)) u):u=x:=by simp only[VR,D.is] at h;exact h.1
theorem VR.at_mk {x:Value} (h:x.oneCell'=true):VR m hd w S (.d (.at x)) x:=by simp only[VR,D.is];simp [h]
theorem ok_mov (hm:Mem m hd w S X B) {x:Operand} (ho:o.op=.move x∨o.op=.assign x) (hv:VRs m hd w S vs [a.eval x]) (hs:semMov vs=some (v,us)):StepOK P X B o a m hd w S v us:=by
 obtain⟨y,rfl,h⟩:=hv.inv1
 simp only[semMov,Option.some.injEq,Prod.mk.injEq] at hs
 obtain⟨rfl,rfl⟩:=hs
 refine StepOK.pure hm ?_ h
 rcases ho with ho|ho <;> simp [execOp,ho]
theorem ok_pick (hm:Mem m hd w S X B) {c x y:Operand} (ho:o.op=.pick c x y) (hv:VRs m hd w S vs [a.eval c,a.eval x,a.eval y]) (hs:semPick vs=some (v,us)):StepOK P X B o a m hd w S v us:=by
 obtain⟨c',x',y',rfl,h1,h2,h3⟩:=hv.inv3
 unfold semPick at hs
 split at hs
 ·rename_i b _ _ e
  simp only[List.cons.injEq,and_true] at e
  obtain⟨rfl,rfl,rfl⟩:=e
  simp only[Option.some.injEq,Prod.mk.injEq] at hs
  obtain⟨rfl,rfl⟩:=hs
  have:=h1.at_
  cases b
  ·exact StepOK.pure hm (u:=a.eval y) (by simp [execOp,ho,this,asBool]) h3
  ·exact StepOK.pure hm (u:=a.eval x) (by simp [execOp,ho,this,asBool]) h2
 ·cases hs
theorem ok_alloc (hm:Mem m hd w S X B) {t:TypeId} {z:List V} (ho:o.op=.alloc t) (hz:zcs P t=some z):StepOK P X B o a m hd w S (.bp d (nv m d) 0) [(d,.box (nv m d) z)]:=by
 obtain⟨i,u,h1,h2,h3,h4⟩:=zcs_ok hz
 have hr:(execOp a.eval o).run P w=.ok (.value (.pointer (some ⟨w.heap.size,0,none⟩))) (w.alloc (.cells u.cells.toList.toArray t)):=by
  simp [execOp,ho,Instr.alloc,zeroValue,typeInfo,h1,h2,newVar,newRow]
 exact StepOK.newBox hm hr (zOks_ok h3).1 (zOks_ok (m:=m) (hd:=hd) (w:=w) (S:=S) h3).2
theorem ok_box (hm:Mem m hd w S X B) {t:TypeId} {x:Operand} (ho:o.op=.box t x) (hv:VRs m hd w S vs [a.eval x]) (hs:semBox d m vs=some (v,us)):StepOK P X B o a m hd w S v us:=by
 obtain⟨y,rfl,h⟩:=hv.inv1
 simp only[semBox] at hs
 split at hs
 ·rename_i hg
  simp only[Option.some.injEq,Prod.mk.injEq] at hs
  obtain⟨rfl,rfl⟩:=hs
  have hr:(execOp a.eval o).run P w=.ok (.value (.pointer (some ⟨w.heap.size,0,none⟩))) (w.alloc (.cells (a.eval x).cells.toList.toArray t)):=by
   simp [execOp,ho,Instr.box,newVar,newRow]
  exact StepOK.newBox hm hr (h.good hg).1 (h.good hg).2
 ·cases hs
/-! ### Composite literals -/
theorem zipset (c:List Value):∀ (k:Nat) (xs:List Value) (off:Nat),(((c.zipIdx k).foldl (fun (cs:Array Value) (p:Value × Nat)=>cs.setIfInBounds (off+p.2) p.1) xs.toArray)).toList=if off+k+c.length≤xs.length then xs.take (off+k)++(c++xs.drop (off+k+c.length)) else (((c.zipIdx k).foldl (fun (cs:Array Value) (p:Value × Nat)=>cs.setIfInBounds (off+p.2) p.1) xs.toArray)).toList:=by
 induction c with
 |nil=>intro k xs off;split <;> simp
 |cons y c ih =>
  intro k xs off
  split
  ·rename_i hle
   simp only[List.length_cons] at hle
   simp only[List.zipIdx_cons,List.foldl_cons,List.setIfInBounds_toArray]
   have:=ih (k+1) (xs.set (off+k) y) off
   rw[if_pos (by simp;omega)] at this
   rw[this]
   have hlt:off+k<xs.length:=by omega
   rw[show off+(k+1)=off+k+1 by omega,List.take_succ_eq_append_getElem (by simpa using hlt),List.getElem_set_self,List.take_set_of_le (Nat.le_refl _),List.drop_set_of_lt (by omega)]
   simp [Nat.add_assoc,Nat.add_comm 1]
  ·rfl
theorem fold_splice {c xs:List Value} {off:Nat} (h:off+c.length≤xs.length):((c.toArray.zipIdx.foldl (fun (cs:Array Value) (p:Value × Nat)=>cs.setIfInBounds (off+p.2) p.1) xs.toArray)).toList=splice xs off c:=by
 have:=zipset c 0 xs off
 rw[if_pos (by omega)] at this
 unfold splice
 simpa [← Array.foldl_toList] using this
theorem VRs.splice {l c:List V} {xs ys:List Value} {off:Nat} (h:VRs m hd w S l xs) (k:VRs m hd w S c ys):VRs m hd w S (splice l off c) (splice xs off ys):=by
 unfold Sim.splice
 rw[k.len]
 exact (h.take _).append (k.append (h.drop _))
theorem mem_splice {α:Type} {l c:List α} {off:Nat} {p:α→Prop} (h:∀ y ∈ l,p y) (k:∀ y ∈ c,p y):∀ y ∈ splice l off c,p y:=by
 intro y hy
 unfold splice at hy
 rcases List.mem_append.1 hy with hy|hy
 ·exact h y (List.mem_of_mem_take hy)
 ·rcases List.mem_append.1 hy with hy|hy
  ·exact k y hy
  ·exact h y (List.mem_of_mem_drop hy)
theorem fill_ok (f:Nat→Option (Nat × Nat)):∀ {ps:List (Nat × Value)} {fs:List (Nat × Nat)} {vs z:List V} {zs:List Value},
  VRs m hd w S z zs→(∀ y ∈ zs,y.oneCell'=true)→VRs m hd w S vs (ps.map (·.2))→fitB z.length fs vs=true→fs.map some=ps.map (fun p=>f p.1) →
  ∃ zs',Instr.fill f zs.toArray ps=some zs'∧VRs m hd w S (fillV z fs vs) zs'.toList∧∀ y ∈ zs'.toList,y.oneCell'=true
 |[],fs,vs,z,zs,hz,h1,hv,hg,hl=>by
  have:fs=[]:=List.eq_nil_of_length_eq_zero (by have:=congrArg List.length hl;simpa using this)
  subst this
  exact⟨zs.toArray,rfl,by simpa [fillV] using hz,by simpa using h1⟩
 |(j,u) :: ps,fs,vs,z,zs,hz,h1,hv,hg,hl=>by
  obtain⟨x,vs',rfl,h2,h3⟩:=VRs.invc hv
  cases fs with
  |nil=>simp at hl
  |cons q fs =>
   obtain⟨off,size⟩:=q
   simp only[List.map_cons,List.cons.injEq] at hl
   simp only[fitB,Bool.and_eq_true,beq_iff_eq,decide_eq_true_eq] at hg
   obtain⟨⟨⟨g1,g2⟩,g3⟩,g4⟩:=hg
   have hgood:=h2.good g1
   have hzl:=hz.len
   have hul:u.cells.size=size:=by have:=hgood.1.len;simp at this;omega
   have hfold:=fold_splice (c:=u.cells.toList) (xs:=zs) (off:=off) (by simp;omega)
   have e:(u.cells.zipIdx.foldl (fun (cs:Array Value) (p:Value × Nat)=>cs.setIfInBounds (off+p.2) p.1) zs.toArray)=(splice zs off u.cells.toList).toArray:=by
    apply Array.ext'
    simpa using hfold
   obtain⟨zs',r1,r2,r3⟩:=fill_ok f (ps:=ps) (fs:=fs) (vs:=vs') (hz.splice (off:=off) hgood.1) (mem_splice h1 hgood.2) h3 (by rw[length_splice (by omega)];exact g4) hl.2
   refine⟨zs',?_,by simpa only[fillV] using r2,r3⟩
   simp only[Instr.fill,← hl.1]
   rw[if_neg (by simp;omega),e]
   exact r1
theorem offs_ok {f:Nat→Option (Nat × Nat)}:∀ {ps:List (Nat × Operand)} {os:List (Nat × Nat)},offs f ps=some os→os.map some=ps.map (fun p=>f p.1)
 |[],os,h=>by simp only[offs,Option.some.injEq] at h;subst h;rfl
 |(i,x) :: ps,os,h=>by
  unfold offs at h
  split at h
  ·rename_i o os' h1 h2
   cases h
   simp only[List.map_cons,h1,offs_ok h2]
  ·cases h
theorem ok_build (hm:Mem m hd w S X B) {t:TypeId} {ps:Array (Nat × Operand)} {z:List V} {f:Nat→Option (Nat × Nat)} {os:List (Nat × Nat)} (ho:o.op=.build t ps) (hf:placeF P t=some f) (hz:zcs P t=some z) (hos:offs f ps.toList=some os)
  (hv:VRs m hd w S vs ((ps.toList.map (·.2)).map a.eval)) (hs:semBuild z os vs=some (v,us)):StepOK P X B o a m hd w S v us:=by
 unfold semBuild at hs
 split at hs
 ·rename_i hfit
  simp only[Option.some.injEq,Prod.mk.injEq] at hs
  obtain⟨rfl,rfl⟩:=hs
  obtain⟨i,u,h1,h2,h3,h4⟩:=zcs_ok hz
  have hzk:=zOks_ok (m:=m) (hd:=hd) (w:=w) (S:=S) h3
  obtain⟨zs',r1,r2,r3⟩:=fill_ok f (ps:=ps.toList.map fun (i,x)=>(i,a.eval x)) hzk.1 hzk.2 (by simpa [Function.comp_def] using hv) hfit (by rw[offs_ok hos];simp [Function.comp_def])
  have hb:P.built t (ps.map fun (i,x)=>(i,a.eval x)).toList=some zs':=by
   unfold Program.built
   unfold placeF at hf
   split at hf
   ·rename_i it n e hi hu
    rw[h1] at hi
    cases hi
    simp only[h1,hu,h2]
    cases he:P.info? e with
    |none=>simp [he] at hf
    |some ie =>
     simp only[he,Option.map_some,Option.some.injEq] at hf
     subst hf
     simpa using r1
   ·rename_i it fields hi hu
    rw[h1] at hi
    cases hi
    simp only[h1,hu,h2]
    split at hf
    ·rename_i places hp
     simp only[Option.some.injEq] at hf
     subst hf
     simp only[hp]
     simpa using r1
    ·cases hf
   ·cases hf
  refine StepOK.pure hm (u:=.agg zs') ?_ ?_
  ·simp only[execOp,ho,Sem.run_bind,run_build w t _ zs' hb,Result.andThen_ok]
   rfl
  ·simp only[VR]
   exact⟨zs'.toList,rfl,r2,r3⟩
 ·cases hs
end
end Go.Proofs.YtacfbiegbdlldaaGreatDoor.Sim
end
