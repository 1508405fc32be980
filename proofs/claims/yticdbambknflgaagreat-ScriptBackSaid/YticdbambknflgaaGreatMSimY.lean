/- A call with what pointers and slices lead to, under the caller's names: of no program. Conditions: none. -/
import Derived.Test.YticdbambknflgaaGreatMSimW
section
namespace Go.Proofs.YticdbambknflgaaGreat.Sim
open Go Go.RowKit Go.Deep
set_option linter.unusedVariables false
def awpDs (P:Program):List AO→List Ent→St→(List Ent→St→Prop)→Prop
 |[],acc,s,K=>K acc.reverse s
 |o :: r,acc,s,K=>∃ v us xs,OpR P s ⟨o,v,us,xs⟩∧awpDs P r (⟨o,v,us,xs⟩ :: acc) (s.put o.dst v us) K
section
variable {P:Program} {cx:Cx}
theorem awpDs_ok {K:List Ent→St→Prop}:∀ {ops:List AO} {acc:List Ent} {s:St},awpDs P ops acc s K→∃ L s',L.map (·.o)=ops∧TextR P L s s'∧K (acc.reverse++L) s'
 |[],acc,s,h=>⟨[],s,rfl,rfl,by simpa [awpDs] using h⟩
 |o :: r,acc,s,h=>by
  obtain⟨v,us,xs,h1,h2⟩:=h
  obtain⟨L,s',h3,h4,h5⟩:=awpDs_ok h2
  exact⟨⟨o,v,us,xs⟩ :: L,s',by simp [h3],⟨h1,h4⟩,by simpa using h5⟩
def awpDsE (P:Program) (all:List AO):List AO→List Ent→St→(List Ent→St→Prop)→Prop
 |[],acc,s,K=>K acc.reverse s
 |o :: r,acc,s,K=>(∃ v us xs,OpR P s ⟨o,v,us,xs⟩∧awpDsE P all r (⟨o,v,us,xs⟩ :: acc) (s.put o.dst v us) K) ∨
  ∃ Qs us xs,o.guard=none∧xs=o.xs.map (ev s.T)∧StepP P o.k xs s.m Qs us∧eOK all acc.length=true∧∀ q,Qs q→awpDs P r (⟨o,q,us,xs⟩ :: acc) (s.put o.dst q us) K
theorem awpDsE_ok {all:List AO} {K:List Ent→St→Prop}:∀ {ops:List AO} {acc:List Ent} {s:St},awpDsE P all ops acc s K→(∃ L s',L.map (·.o)=ops∧TextR P L s s'∧K (acc.reverse++L) s') ∨
  ∃ A o B s1 Qs us xs,∃ (L2:V→List Ent) (s':V→St),ops=A.map (·.o)++o :: B∧TextR P A s s1∧o.guard=none∧xs=o.xs.map (ev s1.T)∧StepP P o.k xs s1.m Qs us∧eOK all (acc.length+A.length)=true∧∀ q,Qs q→(L2 q).map (·.o)=B∧TextR P (L2 q) (putE s1 ⟨o,q,us,xs⟩) (s' q)∧K (acc.reverse++(A++⟨o,q,us,xs⟩ :: L2 q)) (s' q)
 |[],acc,s,h=>.inl ⟨[],s,rfl,rfl,by simpa [awpDsE] using h⟩
 |o :: r,acc,s,h=>by
  rcases h with ⟨v,us,xs,h1,h2⟩|⟨Qs,us,xs,h1,h2,h3,h4,h5⟩
  ·rcases awpDsE_ok h2 with ⟨L,s',h3,h4,h5⟩|⟨A,o',B,s1,Qs,us',xs',L2,s',g1,g2,g3,g4,g5,g6,g7⟩
   ·exact .inl ⟨⟨o,v,us,xs⟩ :: L,s',by simp [h3],⟨h1,h4⟩,by simpa using h5⟩
   ·refine .inr ⟨⟨o,v,us,xs⟩ :: A,o',B,s1,Qs,us',xs',L2,s',by simp [g1],⟨h1,g2⟩,g3,g4,g5,?_,fun q hq=>?_⟩
    ·simp only[List.length_cons] at g6 ⊢
     rwa [show acc.length+(A.length+1)=acc.length+1+A.length by omega]
    ·obtain⟨k1,k2,k3⟩:=g7 q hq
     exact⟨k1,k2,by simpa using k3⟩
  ·have key:∀ q,∃ L2 s',Qs q→L2.map (·.o)=r∧TextR P L2 (putE s ⟨o,q,us,xs⟩) s'∧K (acc.reverse++⟨o,q,us,xs⟩ :: L2) s':=fun q=>by
    by_cases hq:Qs q
    ·obtain⟨L,s',k1,k2,k3⟩:=awpDs_ok (h5 q hq)
     exact⟨L,s',fun _=>⟨k1,k2,by simpa using k3⟩⟩
    ·exact⟨[],s,fun h=>absurd h hq⟩
   exact .inr ⟨[],o,r,s,Qs,us,xs,fun q=>(key q).choose,fun q=>(key q).choose_spec.choose,rfl,rfl,h1,h2,h3,by simpa using h4,fun q hq=>by simpa using (key q).choose_spec.choose_spec hq⟩
theorem runE_app {p:Nat→Bool}:∀ {A B:List Ent} {k:Nat} {s:St},runE p k (A++B) s=runE p (k+A.length) B (runE p k A s)
 |[],B,k,s=>by simp [runE]
 |e :: A,B,k,s=>by
  simp only[List.cons_append,runE,List.length_cons]
  rw[runE_app]
  congr 1
  omega
theorem Awp.regionDE {ops:List AO} {Q:Exit→St→Prop} {s:St} (hm:P.follows .mixedOrders=true) (hw:wfAfter 0 ops=true) (h:awpDsE P ops ops [] s fun L s'=>indepAll (ancL ops []) L 0 L=true∧Q .normal s'):Awp P cx (.region ops true) Q s:=by
 intro code hc a w hR
 cases code <;> try (simp [compile] at hc;done)
 case region id ops' draw =>
  unfold compile at hc
  split at hc
  ·cases hc
  simp only[Option.map_eq_some_iff] at hc
  obtain⟨l,h1,h2⟩:=hc
  cases h2
  have hc0:∀ j o,ops[j]?=some o→(Array.replicate ops'.size false).getD j false=true→∀ b ∈ o.after,(Array.replicate ops'.size false).getD b false=true:=fun j o _ hp=>by simp [Array.getElem?_replicate] at hp;split at hp <;> simp at hp
  have hf:∀ j,(Array.replicate ops'.size false).getD j false=false:=fun j=>by simp [Array.getElem?_replicate];split <;> simp
  refine wp_region_any hm ?_
  rcases awpDsE_ok h with ⟨L,s',h3,h4,h5,h6⟩|⟨A,o,B,s1,Qs,us,xs,L2,s',g1,g2,g3,g4,g5,g6,g7⟩
  ·refine draw_ok (cx:=cx) (Q:=fun e a' w'=>∃ s',Q e s'∧Rel cx s' a' w') rfl h1 h3 h4 hw (by simpa using h5) (fun a w hR=>⟨s',h6,hR⟩) _ _ _ _ (by simp) (by simp) hc0 ?_
   rw[runE_none fun j _=>hf j]
   exact hR.drew
  ·obtain⟨q0,hq0⟩:=(stepP_call g5).2.2
   simp only[List.length_nil,Nat.zero_add] at g6
   have hs1:∀ q,runE (fun j=>decide (j<0+A.length)) 0 (A++⟨o,q,us,xs⟩ :: L2 q) s=s1:=fun q=>by
    rw[runE_app,runE_none (fun j hj=>by simp;omega)]
    exact textR_end g2 fun j _ hj=>by simpa using hj
   refine draw_okE (cx:=cx) (Q:=fun e a' w'=>∃ s',Q e s'∧Rel cx s' a' w') rfl h1 hw (c:=A.length) g6 g3 (Qs:=Qs) (us:=us) (xs:=xs) (fun q=>A++⟨o,q,us,xs⟩ :: L2 q) s' (fun q hq=>by rw[List.map_append,List.map_cons,(g7 q hq).1,g1]) (fun q hq=>by simpa using (g7 q hq).2.2.1) (fun q hq i e hic hie=>?_) (fun q hq=>?_) (fun q hq=>by simp) (fun q q' hq hq' j hj=>by rw[List.getElem?_append_left hj,List.getElem?_append_left hj]) (fun q hq=>by rw[hs1 q];exact g4) (fun q hq=>by rw[hs1 q];exact g5) (fun q hq a w hR=>⟨s' q,(g7 q hq).2.2.2,hR⟩) q0 hq0 _ _ _ _ (by simp) (by simp) hc0 (hf _) ?_
   ·rcases Nat.lt_or_ge i A.length with hi|hi
    ·rw[List.getElem?_append_left hi] at hie
     have:=textR_get (k:=0) g2 i e hie
     rw[runE_app,runE_none (k:=0+A.length) (fun j hj=>by simp;omega)]
     exact this
    ·obtain⟨d,rfl⟩:∃ d,i=A.length+(d+1):=⟨i-A.length-1,by omega⟩
     rw[List.getElem?_append_right (by omega),show A.length+(d+1)-A.length=d+1 by omega,List.getElem?_cons_succ] at hie
     have:=textR_get (k:=A.length+1) (g7 q hq).2.1 d e hie
     have e1:runE (fun j=>decide (j<0+(A.length+(d+1)))) 0 A s=s1:=textR_end g2 fun j _ hj=>by simp;omega
     rw[runE_app,e1]
     simp only[runE]
     rw[if_pos (by simp),show 0+A.length+1=A.length+1 by omega,show (fun j=>decide (j<0+(A.length+(d+1))))=(fun j=>decide (j<A.length+1+d)) from funext fun j=>by congr 1;apply propext;omega]
     exact this
   ·rw[runE_app,textR_run g2]
    simp only[runE,if_true]
    exact textR_end (g7 q hq).2.1 fun _ _ _=>rfl
   ·rw[runE_none fun j _=>hf j]
    exact hR.drew
 all_goals ((try unfold compile at hc);first|(split at hc <;> (first|(cases hc;done)|(simp at hc;done)))|(simp at hc;done))
end
section
variable {P:Program} {cx:Cx} {T:Nat→V} {m:M} {K0:List Ent→St→Prop} {acc:List Ent} {d:Nat} {k:K} {xs:List AV} {af:List Nat} {r:List AO} {v:V} {us:U} {j t:Nat} {b c:Bool}
end
end Go.Proofs.YticdbambknflgaaGreat.Sim
end
section
namespace Go.Proofs.YticdbambknflgaaGreat.Sim
open Go Go.RowKit Go.Deep
set_option linter.unusedVariables false
def rl:List (Nat × Nat × Nat)→Nat→Nat × Nat
 |[],j=>(j,0)
 |(c,i,v) :: ρ,j=>if j=c then (i,v) else rl ρ j
mutual
def V.nm (ρ:List (Nat × Nat × Nat)):V→V
 |.bp j u o=>.bp (rl ρ j).1 (u+(rl ρ j).2) o
 |.og j u=>.og (rl ρ j).1 (u+(rl ρ j).2)
 |.ag l=>.ag (V.nms ρ l)
 |.cl f l=>.cl f (V.nms ρ l)
 |.tu l=>.tu (V.nms ρ l)
 |.ot j u e=>.ot (rl ρ j).1 (u+(rl ρ j).2) e
 |x=>x
def V.nms (ρ:List (Nat × Nat × Nat)):List V→List V
 |[]=>[]
 |x :: l=>V.nm ρ x :: V.nms ρ l
end
def O.addv (v:Nat) (o:O):O:=match o with
 |.box u cs=>.box (u+v) cs
 |.arr u k mu l=>.arr (u+v) k mu l
 |.vec u k cs=>.vec (u+v) k cs
 |.mp u ks=>.mp (u+v) ks
def nmU (ρ:List (Nat × Nat × Nat)):U→U
 |[]=>[]
 |(j,o) :: r=>((rl ρ j).1,o.addv (rl ρ j).2) :: nmU ρ r
mutual
def V.okP (us:U) (n:Nat):V→Bool
 |.d _=>true
 |.nl _=>true
 |.bp j _ _=>inU us j||(decide (1000000≤j)&&decide (j<1000000+n))
 |.og j _=>inU us j||(decide (1000000≤j)&&decide (j<1000000+n))
 |.ag l=>V.okPs us n l
 |.cl _ l=>V.okPs us n l
 |.tu l=>V.okPs us n l
 |.un=>true
 |.ot j _ _=>inU us j||(decide (1000000≤j)&&decide (j<1000000+n))
 |_=>false
def V.okPs (us:U) (n:Nat):List V→Bool
 |[]=>true
 |x :: l=>V.okP us n x&&V.okPs us n l
end
theorem addv_ver (o:O) (v:Nat):(o.addv v).ver=o.ver+v:=by cases o <;> rfl
theorem addv_kind (o:O) (v:Nat):(o.addv v).kind=o.kind:=by cases o <;> rfl
theorem addv_wfB (o:O) (v:Nat):(o.addv v).wfB=o.wfB:=by cases o <;> rfl
section
variable {m m2:M} {hd hd2:H} {w:World} {S X:Nat→Prop} {B:Nat} {g:Nat→Nat} {δ:Nat→Nat}
theorem mem_ren (h:Mem m hd w S X B) (hob:∀ i o,m2 i=some o→∃ o0,m (g i)=some o0∧hd2 i=hd (g i)∧o0.wfB=true∧∃ u,o=o0.setv u) (hinj:∀ i i' o o',m2 i=some o→m2 i'=some o'→g i=g i'→i=i'):Mem m2 hd2 w S X B:=by
 refine⟨fun i o hi=>?_,fun i j oi oj b hne hi hj li lj bi bj=>?_,h.lt,h.base,h.sX⟩
 ·obtain⟨o0,h1,h2,h3,u,rfl⟩:=hob i o hi
  have ho:=h.obj _ _ h1
  rw[h2]
  cases o0 with
  |box v cs =>
   simp only[O.wfB] at h3
   simp only[O.is,O.setv] at ho ⊢
   obtain⟨b,vs,e,q1,q2,q3,q4,q5⟩:=ho
   exact⟨b,vs,e,q1,q2,q3,closed_ok (fun _ h _=>⟨h,rfl⟩) h3 q4,q5⟩
  |arr v k mu l =>
   simp only[O.is,O.setv] at ho ⊢
   exact ho
  |vec v kk cs=>simp [O.wfB] at h3
  |mp v ks=>simp [O.wfB] at h3
 ·obtain⟨o1,h1,h2,_,u,rfl⟩:=hob i oi hi
  obtain⟨o2,k1,k2,_,u',rfl⟩:=hob j oj hj
  rw[setv_live] at li lj
  rw[h2] at bi
  rw[k2] at bj
  exact h.sep _ _ o1 o2 b (fun e=>hne (hinj i j _ _ hi hj e)) h1 k1 li lj bi bj
end
section
variable {ρ:List (Nat × Nat × Nat)} {m m2:M} {hd hd2:H} {w:World} {S:Nat→Prop} {us:U} {n:Nat}
mutual
theorem nm_in (hob:∀ j,(inU us j||(decide (1000000≤j)&&decide (j<1000000+n)))=true→∃ o,m2 j=some o∧m (rl ρ j).1=some (o.addv (rl ρ j).2)∧hd2 j=hd (rl ρ j).1):∀ (x:V) (u:Value),x.okP us n=true→(VR m hd w S (x.nm ρ) u↔VR m2 hd2 w S x u)
 |.d x,u,_=>by simp only[V.nm,VR]
 |.nl k,u,_=>by simp only[V.nm,VR]
 |.bp j u' q,u,hx=>by
  simp only[V.okP] at hx
  obtain⟨o,h1,h2,h3⟩:=hob j hx
  simp only[V.nm,VR]
  constructor
  ·rintro⟨h0,y,hy,hv,h⟩
   rw[h2] at hy
   cases hy
   refine⟨h0,o,h1,by rw[addv_ver] at hv;omega,fun cs e=>?_⟩
   subst e
   rw[h3]
   exact h cs rfl
  ·rintro⟨h0,y,hy,hv,h⟩
   rw[h1] at hy
   cases hy
   refine⟨h0,_,h2,by rw[addv_ver];omega,fun cs e=>?_⟩
   cases o with
   |arr v k mu l=>simp [O.addv] at e
   |vec v kk cs'=>simp [O.addv] at e
   |mp v ks'=>simp [O.addv] at e
   |box v cs' =>
    simp only[O.addv,O.box.injEq] at e
    obtain⟨e1,rfl⟩:=e
    obtain rfl:v=u':=by omega
    rw[← h3]
    exact h cs' rfl
 |.og j u',u,hx=>by
  simp only[V.okP] at hx
  obtain⟨o,h1,h2,h3⟩:=hob j hx
  simp only[V.nm,VR]
  constructor
  ·rintro⟨h0,y,hy,hv,h⟩
   rw[h2] at hy
   cases hy
   refine⟨h0,o,h1,by rw[addv_ver] at hv;omega,fun k mu l e=>?_⟩
   subst e
   rw[h3]
   exact h k mu l rfl
  ·rintro⟨h0,y,hy,hv,h⟩
   rw[h1] at hy
   cases hy
   refine⟨h0,_,h2,by rw[addv_ver];omega,fun k mu l e=>?_⟩
   cases o with
   |box v cs=>simp [O.addv] at e
   |vec v kk cs'=>simp [O.addv] at e
   |mp v ks'=>simp [O.addv] at e
   |arr v k' mu' l' =>
    simp only[O.addv,O.arr.injEq] at e
    obtain⟨e1,rfl,rfl,rfl⟩:=e
    obtain rfl:v=u':=by omega
    rw[← h3]
    exact h k' mu' l' rfl
 |.ot j u' q,u,hx=>by
  simp only[V.okP] at hx
  obtain⟨o,h1,h2,h3⟩:=hob j hx
  simp only[V.nm,VR]
  constructor
  ·rintro⟨h0,y,hy,hv,h⟩
   rw[h2] at hy
   cases hy
   refine⟨h0,o,h1,by rw[addv_ver] at hv;omega,fun k mu l e=>?_⟩
   subst e
   rw[h3]
   exact h k mu l rfl
  ·rintro⟨h0,y,hy,hv,h⟩
   rw[h1] at hy
   cases hy
   refine⟨h0,_,h2,by rw[addv_ver];omega,fun k mu l e=>?_⟩
   cases o with
   |box v cs=>simp [O.addv] at e
   |vec v kk cs'=>simp [O.addv] at e
   |mp v ks'=>simp [O.addv] at e
   |arr v k' mu' l' =>
    simp only[O.addv,O.arr.injEq] at e
    obtain⟨e1,rfl,rfl,rfl⟩:=e
    obtain rfl:v=u':=by omega
    rw[← h3]
    exact h k' mu' l' rfl
 |.ag l,u,hx=>by
  simp only[V.okP] at hx
  have:=nms_in hob l
  simp only[V.nm,VR]
  exact⟨fun⟨vs,e,h1,h2⟩=>⟨vs,e,(this vs hx).1 h1,h2⟩,fun⟨vs,e,h1,h2⟩=>⟨vs,e,(this vs hx).2 h1,h2⟩⟩
 |.cl f l,u,hx=>by
  simp only[V.okP] at hx
  have:=nms_in hob l
  simp only[V.nm,VR]
  exact⟨fun⟨vs,e,h1⟩=>⟨vs,e,(this vs hx).1 h1⟩,fun⟨vs,e,h1⟩=>⟨vs,e,(this vs hx).2 h1⟩⟩
 |.tu l,u,hx=>by
  simp only[V.okP] at hx
  have:=nms_in hob l
  simp only[V.nm,VR]
  exact⟨fun⟨vs,e,h1⟩=>⟨vs,e,(this vs hx).1 h1⟩,fun⟨vs,e,h1⟩=>⟨vs,e,(this vs hx).2 h1⟩⟩
 |.un,u,hx=>by simp only[V.nm,VR]
 |.z0,u,hx|.ub,u,hx|.ep _ _ _ _,u,hx|.fp _ _,u,hx|.vg _ _,u,hx|.vp _ _ _,u,hx|.mh _ _,u,hx|.fx _ _,u,hx=>by simp [V.okP] at hx
theorem nms_in (hob:∀ j,(inU us j||(decide (1000000≤j)&&decide (j<1000000+n)))=true→∃ o,m2 j=some o∧m (rl ρ j).1=some (o.addv (rl ρ j).2)∧hd2 j=hd (rl ρ j).1):∀ (l:List V) (vs:List Value),V.okPs us n l=true→(VRs m hd w S (V.nms ρ l) vs↔VRs m2 hd2 w S l vs)
 |[],vs,_=>by simp only[V.nms,VRs]
 |x :: l,vs,hx=>by
  simp only[V.okPs,Bool.and_eq_true] at hx
  simp only[V.nms,VRs]
  constructor
  ·rintro⟨u,r,e,h1,h2⟩
   exact⟨u,r,e,(nm_in hob x u hx.1).1 h1,(nms_in hob l r hx.2).1 h2⟩
  ·rintro⟨u,r,e,h1,h2⟩
   exact⟨u,r,e,(nm_in hob x u hx.1).2 h1,(nms_in hob l r hx.2).2 h2⟩
end
end
theorem nmU_mem {ρ:List (Nat × Nat × Nat)} {i:Nat} {o:O}:∀ {us:U},(i,o) ∈ nmU ρ us↔∃ j o0,(j,o0) ∈ us∧i=(rl ρ j).1∧o=o0.addv (rl ρ j).2
 |[]=>by simp [nmU]
 |(j,o0) :: r=>by
  simp only[nmU,List.mem_cons,nmU_mem (us:=r)]
  constructor
  ·rintro (h|⟨j',o',h1,h2,h3⟩)
   ·cases h;exact⟨j,o0,.inl rfl,rfl,rfl⟩
   ·exact⟨j',o',.inr h1,h2,h3⟩
  ·rintro⟨j',o',h|h,h2,h3⟩
   ·cases h;exact .inl (by rw[h2,h3])
   ·exact .inr ⟨j',o',h,h2,h3⟩
theorem nmU_names {ρ:List (Nat × Nat × Nat)}:∀ {us:U},(nmU ρ us).map (·.1)=us.map fun x=>(rl ρ x.1).1
 |[]=>rfl
 |(j,o) :: r=>by simp only[nmU,List.map_cons,nmU_names]
def lowU:U→Bool
 |[]=>true
 |(j,_) :: r=>decide (j<1000000)&&lowU r
theorem lowU_ok:∀ {us:U},lowU us=true→∀ x ∈ us,x.1<1000000
 |[],_,x,hx=>by cases hx
 |(j,o) :: r,h,x,hx=>by
  simp only[lowU,Bool.and_eq_true,decide_eq_true_eq] at h
  rcases List.mem_cons.1 hx with rfl|hx
  ·exact h.1
  ·exact lowU_ok h.2 x hx
def freeOf (ρ:List (Nat × Nat × Nat)) (i:Nat):U→Bool
 |[]=>true
 |(j,_) :: r=>decide ((rl ρ j).1 ≠ i)&&freeOf ρ i r
def apartU (ρ:List (Nat × Nat × Nat)):U→Bool
 |[]=>true
 |(j,_) :: r=>freeOf ρ (rl ρ j).1 r&&apartU ρ r
theorem freeOf_ok {ρ:List (Nat × Nat × Nat)} {i:Nat}:∀ {us:U},freeOf ρ i us=true→∀ x ∈ us,(rl ρ x.1).1 ≠ i
 |[],_,x,hx=>by cases hx
 |(j,o) :: r,h,x,hx=>by
  simp only[freeOf,Bool.and_eq_true,decide_eq_true_eq] at h
  rcases List.mem_cons.1 hx with rfl|hx
  ·exact h.1
  ·exact freeOf_ok h.2 x hx
theorem apartU_ok {ρ:List (Nat × Nat × Nat)}:∀ {us:U},apartU ρ us=true→((us.map fun x=>(rl ρ x.1).1).Nodup)
 |[],_=>by simp
 |(j,o) :: r,h=>by
  simp only[apartU,Bool.and_eq_true] at h
  simp only[List.map_cons,List.nodup_cons]
  refine⟨fun hm=>?_,apartU_ok h.2⟩
  obtain⟨x,hx,e⟩:=List.mem_map.1 hm
  exact freeOf_ok h.1 x hx e
def rhoOK:List (Nat × Nat × Nat)→Bool
 |[]=>true
 |(c,i,_) :: r=>decide (c<1000000)&&decide (i<1000000)&&rhoOK r
theorem rl_new {j:Nat} (hj:1000000≤j):∀ {ρ:List (Nat × Nat × Nat)},rhoOK ρ=true→rl ρ j=(j,0)
 |[],_=>rfl
 |(c,i,v) :: r,h=>by
  simp only[rhoOK,Bool.and_eq_true,decide_eq_true_eq] at h
  rw[rl,if_neg (by omega),rl_new hj h.2]
theorem rl_low {j:Nat} (hj:j<1000000):∀ {ρ:List (Nat × Nat × Nat)},rhoOK ρ=true→(rl ρ j).1<1000000
 |[],_=>hj
 |(c,i,v) :: r,h=>by
  simp only[rhoOK,Bool.and_eq_true,decide_eq_true_eq] at h
  rw[rl]
  split
  ·exact h.1.2
  ·exact rl_low hj h.2
theorem Does.nm {P:Program} {f:FuncId} {xs:List V} {bx bx':U} {r:V} {as:List O} (h:Does P f xs bx r bx' as) (ρ:List (Nat × Nat × Nat)) (hρ:rhoOK ρ=true) (hlow:lowU bx=true) (hap:apartU ρ bx=true) (hnames:bx'.map (·.1)=bx.map (·.1)) (hwf:bx.all (fun x=>x.2.wfB)=true) (hwf':bx'.all (fun x=>x.2.wfB)=true) (hx:V.okPs bx 0 xs=true) (has:as.all O.wf=true) (hr:r.okP bx' as.length=true) :
  Does P f (V.nms ρ xs) (nmU ρ bx) (r.nm ρ) (nmU ρ bx') as:=by
 intro w hd S X us hgk hm hv
 have hlow':∀ x ∈ bx',x.1<1000000:=fun x hx=>by
  have:x.1 ∈ bx.map (·.1):=by rw[← hnames];exact List.mem_map.2 ⟨x,hx,rfl⟩
  obtain⟨y,hy,e⟩:=List.mem_map.1 this
  rw[← e]
  exact lowU_ok hlow y hy
 have hndR:((nmU ρ bx).map (·.1)).Nodup:=by rw[nmU_names];exact apartU_ok hap
 have hmapR:bx'.map (fun x=>(rl ρ x.1).1)=bx.map (fun x=>(rl ρ x.1).1):=by
  have:=congrArg (List.map fun j=>(rl ρ j).1) hnames
  simpa [List.map_map,Function.comp_def] using this
 have hndR':((nmU ρ bx').map (·.1)).Nodup:=by rw[nmU_names,hmapR];exact apartU_ok hap
 have hnd:(bx.map (·.1)).Nodup:=List.pairwise_map.2 ((List.pairwise_map.1 (apartU_ok hap)).imp fun h e=>h (by rw[e]))
 have hnd':(bx'.map (·.1)).Nodup:=by rw[hnames];exact hnd
 have hinj:∀ {x y:Nat × O},x ∈ bx→y ∈ bx→(rl ρ x.1).1=(rl ρ y.1).1→x.1=y.1:=by
  intro x y hx hy e
  have h1:=apartU_ok hap
  have:∀ {l:U},(l.map fun x=>(rl ρ x.1).1).Nodup→x ∈ l→y ∈ l→x.1=y.1:=by
   intro l
   induction l with
   |nil=>intro _ h;cases h
   |cons z l ih =>
    intro hn hx hy
    simp only[List.map_cons,List.nodup_cons] at hn
    rcases List.mem_cons.1 hx with rfl|hx2
    ·rcases List.mem_cons.1 hy with rfl|hy2
     ·rfl
     ·exact absurd (List.mem_map.2 ⟨y,hy2,e.symm⟩) hn.1
    ·rcases List.mem_cons.1 hy with rfl|hy2
     ·exact absurd (List.mem_map.2 ⟨x,hx2,e⟩) hn.1
     ·exact ih hn.2 hx2 hy2
  exact this h1 hx hy
 have hname:∀ {x:Nat × O},x ∈ bx'→∃ o,(x.1,o) ∈ bx:=fun {x} hx=>by
  have:x.1 ∈ bx.map (·.1):=by rw[← hnames];exact List.mem_map.2 ⟨x,hx,rfl⟩
  obtain⟨y,hy,e⟩:=List.mem_map.1 this
  exact⟨y.2,by rw[← e];exact hy⟩
 let hdc:H:=fun j=>hd (rl ρ j).1
 have hget:∀ {i o},ups M0 bx i=some o→(i,o) ∈ bx:=fun {i o} h=>by
  rcases ups_or i bx M0 with ⟨h1,_⟩|⟨o',h1,h2⟩
  ·rw[h1] at h;cases h
  ·rw[h2] at h;cases h;exact h1
 have hreal:∀ {j o},(j,o) ∈ bx→ups M0 (nmU ρ bx) (rl ρ j).1=some (o.addv (rl ρ j).2):=fun h=>ups_mem hndR (nmU_mem.2 ⟨_,_,h,rfl,rfl⟩)
 have hwfm:∀ {x},x ∈ bx→x.2.wfB=true:=fun hx=>by simpa using List.all_eq_true.1 hwf _ hx
 have hwfm':∀ {x},x ∈ bx'→x.2.wfB=true:=fun hx=>by simpa using List.all_eq_true.1 hwf' _ hx
 have setadd:∀ (o:O) (v:Nat),o=(o.addv v).setv o.ver:=fun o v=>by cases o <;> rfl
 have addset:∀ (o:O) (v:Nat),o.addv v=o.setv (o.ver+v):=fun o v=>by cases o <;> rfl
 have hm1:Mem (ups M0 bx) hdc w S X w.heap.size:=mem_ren (g:=fun j=>(rl ρ j).1) hm (fun j o hj=>⟨_,hreal (hget hj),rfl,by rw[addv_wfB];exact hwfm (hget hj),_,setadd o _⟩) (fun i i' o o' hi hi' e=>hinj (hget hi) (hget hi') e)
 have hv1:VRs (ups M0 bx) hdc w S xs us:=(nms_in (fun j hj=>by
  simp only[Nat.add_zero,Bool.or_eq_true,Bool.and_eq_true,decide_eq_true_eq] at hj
  rcases hj with hj|hj
  ·obtain⟨o,ho⟩:=inU_mem hj
   exact⟨o,ups_mem hnd ho,hreal ho,rfl⟩
  ·omega) xs us hx).1 hv
 refine (h w hdc S X us hgk hm1 hv1).mono ?_
 rintro e w' ⟨u,hd',S',rfl,hfr,hmem,hvr,hsub,hle⟩
 have hos:∀ {j:Nat} {o:O},as[j]?=some o→ups M0 (bx'++fresh as) (1000000+j)=some o:=fun h=>by rw[ups_append];exact ups_mem nodup_fresh (fresh_mem h)
 have hob:∀ {x},x ∈ bx'→ups M0 (bx'++fresh as) x.1=some x.2:=fun {x} hx=>by
  rw[ups_append,ups_not]
  ·exact ups_mem hnd' hx
  ·rintro⟨i',o2⟩ hx2 e2
   obtain⟨j',e',_⟩:=mem_fresh hx2
   have:=hlow' x hx
   simp only at e2
   omega
 have hos2:∀ {j:Nat} {o:O},as[j]?=some o→ups M0 (nmU ρ bx'++fresh as) (1000000+j)=some o:=fun h=>by rw[ups_append];exact ups_mem nodup_fresh (fresh_mem h)
 have hob2:∀ {x},x ∈ bx'→ups M0 (nmU ρ bx'++fresh as) (rl ρ x.1).1=some (x.2.addv (rl ρ x.1).2):=fun {x} hx=>by
  rw[ups_append,ups_not]
  ·exact ups_mem hndR' (nmU_mem.2 ⟨_,_,hx,rfl,rfl⟩)
  ·rintro⟨i',o2⟩ hx2 e2
   obtain⟨j',e',_⟩:=mem_fresh hx2
   have:=rl_low (hlow' x hx) hρ
   simp only at e2
   omega
 have hcs:∀ i o,ups M0 (nmU ρ bx'++fresh as) i=some o→(∃ x ∈ bx',i=(rl ρ x.1).1∧o=x.2.addv (rl ρ x.1).2)∨∃ q,i=1000000+q∧as[q]?=some o:=by
  intro i o hi
  rcases ups_or i (nmU ρ bx'++fresh as) M0 with ⟨h1,_⟩|⟨o',h1,h2⟩
  ·rw[h1] at hi;cases hi
  ·rw[h2] at hi
   cases hi
   rcases List.mem_append.1 h1 with h1|h1
   ·obtain⟨j,o0,q1,q2,q3⟩:=nmU_mem.1 h1
    exact .inl ⟨_,q1,q2,q3⟩
   ·exact .inr (mem_fresh h1)
 let gb:Nat→Nat:=fun i=>match bx'.find? fun x=>(rl ρ x.1).1 == i with
  |some x=>x.1
  |none=>i
 have hgb:∀ {x},x ∈ bx'→gb (rl ρ x.1).1=x.1:=fun {x} hx=>by
  simp only[gb]
  cases hf:bx'.find? (fun y=>(rl ρ y.1).1 == (rl ρ x.1).1) with
  |none =>
   have:=List.find?_eq_none.1 hf x hx
   simp at this
  |some y =>
   have h1:=List.mem_of_find?_eq_some hf
   have h2:=List.find?_some hf
   simp only[beq_iff_eq] at h2
   obtain⟨o1,k1⟩:=hname h1
   obtain⟨o2,k2⟩:=hname hx
   have:=hinj k1 k2 h2
   exact this
 have hgn:∀ q,gb (1000000+q)=1000000+q:=fun q=>by
  simp only[gb]
  rw[List.find?_eq_none.2]
  intro x hx
  have:=rl_low (hlow' x hx) hρ
  simp only[beq_iff_eq]
  omega
 have hwfa:∀ {j:Nat} {o:O},as[j]?=some o→o.wf=true:=fun h=>List.all_eq_true.1 has _ (List.mem_of_getElem? h)
 refine⟨u,fun i=>hd' (gb i),S',rfl,hfr,mem_ren (g:=gb) hmem (fun i o hi=>?_) (fun i i' o o' hi hi' e=>?_),(nm_in (fun j hj=>?_) r u hr).2 hvr,hsub,⟨fun i o hi=>?_⟩⟩
 ·rcases hcs i o hi with ⟨x,hx,rfl,rfl⟩|⟨q,rfl,hq⟩
  ·exact⟨x.2,by rw[hgb hx];exact hob hx,rfl,hwfm' hx,_,addset _ _⟩
  ·exact⟨o,by rw[hgn];exact hos hq,rfl,(wf_wfB (hwfa hq)).1,o.ver,(setv_self o).symm⟩
 ·rcases hcs i o hi with ⟨x,hx,rfl,rfl⟩|⟨q,rfl,hq⟩
  ·rw[hgb hx] at e
   rcases hcs i' o' hi' with ⟨y,hy,rfl,rfl⟩|⟨q',rfl,hq'⟩
   ·rw[hgb hy] at e;rw[e]
   ·rw[hgn] at e;have:=hlow' x hx;omega
  ·rw[hgn] at e
   rcases hcs i' o' hi' with ⟨y,hy,rfl,rfl⟩|⟨q',rfl,hq'⟩
   ·rw[hgb hy] at e;have:=hlow' y hy;omega
   ·rw[hgn] at e;exact e
 ·simp only[Bool.or_eq_true,Bool.and_eq_true,decide_eq_true_eq] at hj
  rcases hj with hj|hj
  ·obtain⟨o,ho⟩:=inU_mem hj
   exact⟨o,hob ho,hob2 ho,by rw[hgb ho]⟩
  ·have hq:j-1000000<as.length:=by omega
   have e1:=hos (List.getElem?_eq_getElem hq)
   have e2:=hos2 (List.getElem?_eq_getElem hq)
   rw[show 1000000+(j-1000000)=j by omega] at e1 e2
   rw[rl_new hj.1 hρ]
   refine⟨_,e1,?_,by have:=hgn (j-1000000);rw[show 1000000+(j-1000000)=j by omega] at this;rw[this]⟩
   simp only
   rw[e2]
   cases as[j-1000000] <;> rfl
 ·have hmi:(i,o) ∈ nmU ρ bx:=by
   rcases ups_or i (nmU ρ bx) M0 with ⟨h1,_⟩|⟨o',h1,h2⟩
   ·rw[h1] at hi;cases hi
   ·rw[h2] at hi;cases hi;exact h1
  obtain⟨j,o0,q1,rfl,rfl⟩:=nmU_mem.1 hmi
  obtain⟨o1,k1,k2,k3⟩:=hle.le j o0 (ups_mem hnd q1)
  have hjx:∃ o,(j,o) ∈ bx':=by
   have:j ∈ bx'.map (·.1):=by rw[hnames];exact List.mem_map.2 ⟨_,q1,rfl⟩
   obtain⟨y,hy,e⟩:=List.mem_map.1 this
   exact⟨y.2,by rw[← e];exact hy⟩
  obtain⟨o2,hx2⟩:=hjx
  have:=hob hx2
  simp only at this
  rw[this] at k1
  cases k1
  refine⟨_,hob2 hx2,by simp only[addv_ver];omega,fun e=>?_⟩
  simp only[addv_ver] at e
  obtain⟨g1,g2⟩:=k3 (by omega)
  exact⟨by rw[hgb hx2];exact g1,by rw[addv_kind,addv_kind];exact g2⟩
mutual
theorem nm_same {ρ:List (Nat × Nat × Nat)} (hρ:rhoOK ρ=true) {n:Nat}:∀ (r:V),r.okP [] n=true→r.nm ρ=r
 |.d _,_|.nl _,_=>by simp only[V.nm]
 |.bp j u o,h=>by
  simp only[V.okP,inU,Bool.false_or,Bool.and_eq_true,decide_eq_true_eq] at h
  simp only[V.nm,rl_new h.1 hρ,Nat.add_zero]
 |.og j u,h=>by
  simp only[V.okP,inU,Bool.false_or,Bool.and_eq_true,decide_eq_true_eq] at h
  simp only[V.nm,rl_new h.1 hρ,Nat.add_zero]
 |.ag l,h=>by simp only[V.nm];rw[nms_same hρ l (by simpa only[V.okP] using h)]
 |.cl f l,h=>by simp only[V.nm];rw[nms_same hρ l (by simpa only[V.okP] using h)]
 |.tu l,h=>by simp only[V.nm];rw[nms_same hρ l (by simpa only[V.okP] using h)]
 |.ot j u e,h=>by
  simp only[V.okP,inU,Bool.false_or,Bool.and_eq_true,decide_eq_true_eq] at h
  simp only[V.nm,rl_new h.1 hρ,Nat.add_zero]
 |.un,_=>by simp only[V.nm]
 |.z0,h|.ub,h|.ep _ _ _ _,h|.fp _ _,h=>by simp [V.okP] at h
theorem nms_same {ρ:List (Nat × Nat × Nat)} (hρ:rhoOK ρ=true) {n:Nat}:∀ (l:List V),V.okPs [] n l=true→V.nms ρ l=l
 |[],_=>rfl
 |x :: l,h=>by
  simp only[V.okPs,Bool.and_eq_true] at h
  simp only[V.nms,nm_same hρ x h.1,nms_same hρ l h.2]
end
mutual
theorem okP_nil {us:U} {n:Nat}:∀ (r:V),r.okP [] n=true→r.okP us n=true
 |.d _,_|.nl _,_=>rfl
 |.bp j u o,h=>by
  simp only[V.okP,inU,Bool.false_or] at h ⊢
  rw[h,Bool.or_true]
 |.og j u,h=>by
  simp only[V.okP,inU,Bool.false_or] at h ⊢
  rw[h,Bool.or_true]
 |.ag l,h=>by simp only[V.okP] at h ⊢;exact okPs_nil l h
 |.cl f l,h=>by simp only[V.okP] at h ⊢;exact okPs_nil l h
 |.tu l,h=>by simp only[V.okP] at h ⊢;exact okPs_nil l h
 |.ot j u e,h=>by
  simp only[V.okP,inU,Bool.false_or] at h ⊢
  rw[h,Bool.or_true]
 |.un,_=>rfl
 |.z0,h|.ub,h|.ep _ _ _ _,h|.fp _ _,h=>by simp [V.okP] at h
theorem okPs_nil {us:U} {n:Nat}:∀ (l:List V),V.okPs [] n l=true→V.okPs us n l=true
 |[],_=>rfl
 |x :: l,h=>by
  simp only[V.okPs,Bool.and_eq_true] at h ⊢
  exact⟨okP_nil x h.1,okPs_nil l h.2⟩
end
theorem Does.nm1 {P:Program} {f:FuncId} {xs:List V} {cs cs':List V} {r:V} {as:List O} (h:Does P f xs [(900000,.box 0 cs)] r [(900000,.box 0 cs')] as) (i v:Nat) (hi:i<1000000) (hx:V.okPs [(900000,.box 0 cs)] 0 xs=true) (hc:cs.all closed=true) (hc':cs'.all closed=true) (has:as.all O.wf=true) (hr:r.okP [] as.length=true) :
  Does P f (V.nms [(900000,i,v)] xs) [(i,.box v cs)] r [(i,.box v cs')] as:=by
 have hρ:rhoOK [(900000,i,v)]=true:=by simp [rhoOK,hi]
 have:=h.nm [(900000,i,v)] hρ (by simp [lowU]) (by simp [apartU,freeOf]) rfl (by simpa [O.wfB] using hc) (by simpa [O.wfB] using hc') hx has (okP_nil r hr)
 rw[nm_same hρ r hr] at this
 simpa only[nmU,rl,if_true,O.addv,Nat.zero_add] using this
end Go.Proofs.YticdbambknflgaaGreat.Sim
end
