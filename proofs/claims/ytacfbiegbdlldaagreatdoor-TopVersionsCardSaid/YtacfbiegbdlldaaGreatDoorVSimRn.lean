/- Objects under other names; loops at whose head the memory is given as a function: of no program. Conditions: none. -/
import Derived.Test.YtacfbiegbdlldaaGreatDoorVSimLp
namespace Go.Proofs.YtacfbiegbdlldaaGreatDoor.Sim
open Go Go.RowKit Go.Deep
set_option linter.unusedVariables false
mutual
def V.rn (σ δ:Nat→Nat):V→V
 |.og i v=>.og (σ i) (v+δ i)
 |.bp i v o=>.bp (σ i) (v+δ i) o
 |.ep i v e o=>.ep (σ i) (v+δ i) e o
 |.vg i v=>.vg (σ i) (v+δ i)
 |.vp i v e=>.vp (σ i) (v+δ i) e
 |.ot i v e=>.ot (σ i) (v+δ i) e
 |.mh i v=>.mh (σ i) (v+δ i)
 |.cl f l=>.cl f (V.rns σ δ l)
 |.ag l=>.ag (V.rns σ δ l)
 |.tu l=>.tu (V.rns σ δ l)
 |x=>x
def V.rns (σ δ:Nat→Nat):List V→List V
 |[]=>[]
 |x :: l=>V.rn σ δ x :: V.rns σ δ l
end
theorem rns_map (σ δ:Nat→Nat):∀ l:List V,V.rns σ δ l=l.map (V.rn σ δ)
 |[]=>rfl
 |x :: l=>by simp only[V.rns,List.map_cons,rns_map σ δ l]
def O.rn (σ δ:Nat→Nat) (d:Nat):O→O
 |.box v cs=>.box (v+d) (V.rns σ δ cs)
 |.vec v k cs=>.vec (v+d) k (V.rns σ δ cs)
 |.arr v k mu l=>.arr (v+d) k mu l
 |.mp v ks=>.mp (v+d) ks
theorem rn_ver (σ δ:Nat→Nat) (d:Nat) (o:O):(o.rn σ δ d).ver=o.ver+d:=by cases o <;> rfl
theorem rn_kind (σ δ:Nat→Nat) (d:Nat) (o:O):(o.rn σ δ d).kind=o.kind:=by cases o <;> rfl
theorem rn_live (σ δ:Nat→Nat) (d:Nat) (o:O):(o.rn σ δ d).live=o.live:=by cases o <;> rfl
section
variable {σ δ:Nat→Nat} {m m':M} {hd hd':H} {w:World} {S X:Nat→Prop} {B:Nat}
mutual
theorem VR.rn_ok (h:∀ i o,m i=some o→m' (σ i)=some (o.rn σ δ (δ i))∧hd' (σ i)=hd i):∀ (x:V) (u:Value),VR m hd w S x u→VR m' hd' w S (x.rn σ δ) u
 |.un,u,hv=>by simp only[V.rn,VR]
 |.d x,u,hv=>by simp only[V.rn,VR] at hv ⊢;exact hv
 |.nl k,u,hv=>by simp only[V.rn,VR] at hv ⊢;exact hv
 |.z0,u,hv=>by simp only[V.rn,VR] at hv ⊢;exact hv
 |.ub,u,hv=>by simp only[V.rn,VR] at hv ⊢;exact hv
 |.fp cs o,u,hv=>by simp only[V.rn,VR] at hv ⊢;exact hv
 |.og i v,u,hv=>by
  simp only[V.rn,VR] at hv ⊢
  obtain⟨h0,y,hy,hver,hv⟩:=hv
  obtain⟨g1,g2⟩:=h i y hy
  refine⟨h0,_,g1,by rw[rn_ver];omega,fun k mu l e=>?_⟩
  rw[g2]
  cases y <;> simp only[O.rn,reduceCtorEq,O.arr.injEq] at e
  obtain⟨e1,rfl,rfl,rfl⟩:=e
  obtain rfl:_=v:=Nat.add_right_cancel e1
  exact hv _ _ _ rfl
 |.bp i v o,u,hv=>by
  simp only[V.rn,VR] at hv ⊢
  obtain⟨h0,y,hy,hver,hv⟩:=hv
  obtain⟨g1,g2⟩:=h i y hy
  refine⟨h0,_,g1,by rw[rn_ver];omega,fun cs e=>?_⟩
  rw[g2]
  cases y <;> simp only[O.rn,reduceCtorEq,O.box.injEq] at e
  obtain⟨e1,rfl⟩:=e
  obtain rfl:_=v:=Nat.add_right_cancel e1
  exact hv _ rfl
 |.ep i v e0 o,u,hv=>by
  simp only[V.rn,VR] at hv ⊢
  obtain⟨h0,y,hy,hver,hv⟩:=hv
  obtain⟨g1,g2⟩:=h i y hy
  refine⟨h0,_,g1,by rw[rn_ver];omega,fun k mu l e=>?_,fun cs e=>?_⟩
  ·rw[g2]
   cases y <;> simp only[O.rn,reduceCtorEq,O.arr.injEq] at e
   obtain⟨e1,rfl,rfl,rfl⟩:=e
   obtain rfl:_=v:=Nat.add_right_cancel e1
   exact hv.1 _ _ _ rfl
  ·rw[g2]
   cases y <;> simp only[O.rn,reduceCtorEq,O.box.injEq] at e
   obtain⟨e1,rfl⟩:=e
   obtain rfl:_=v:=Nat.add_right_cancel e1
   exact hv.2 _ rfl
 |.vg i v,u,hv=>by
  simp only[V.rn,VR] at hv ⊢
  obtain⟨h0,y,hy,hver,hv⟩:=hv
  obtain⟨g1,g2⟩:=h i y hy
  refine⟨h0,_,g1,by rw[rn_ver];omega,fun kq cs e=>?_⟩
  rw[g2]
  cases y <;> simp only[O.rn,reduceCtorEq,O.vec.injEq] at e
  obtain⟨e1,rfl,rfl⟩:=e
  obtain rfl:_=v:=Nat.add_right_cancel e1
  exact hv _ _ rfl
 |.vp i v o,u,hv=>by
  simp only[V.rn,VR] at hv ⊢
  obtain⟨h0,y,hy,hver,hv⟩:=hv
  obtain⟨g1,g2⟩:=h i y hy
  refine⟨h0,_,g1,by rw[rn_ver];omega,fun kq cs e=>?_⟩
  rw[g2]
  cases y <;> simp only[O.rn,reduceCtorEq,O.vec.injEq] at e
  obtain⟨e1,rfl,rfl⟩:=e
  obtain rfl:_=v:=Nat.add_right_cancel e1
  exact hv _ _ rfl
 |.ot i v e0,u,hv=>by
  simp only[V.rn,VR] at hv ⊢
  obtain⟨h0,y,hy,hver,hv⟩:=hv
  obtain⟨g1,g2⟩:=h i y hy
  refine⟨h0,_,g1,by rw[rn_ver];omega,fun k mu l e=>?_⟩
  rw[g2]
  cases y <;> simp only[O.rn,reduceCtorEq,O.arr.injEq] at e
  obtain⟨e1,rfl,rfl,rfl⟩:=e
  obtain rfl:_=v:=Nat.add_right_cancel e1
  exact hv _ _ _ rfl
 |.fx k l,u,hv=>by simpa only[V.rn,VR] using hv
 |.mh i v,u,hv=>by
  simp only[V.rn,VR] at hv ⊢
  obtain⟨h0,y,hy,hver,hv⟩:=hv
  obtain⟨g1,g2⟩:=h i y hy
  refine⟨h0,_,g1,by rw[rn_ver];omega,fun ks e=>?_⟩
  rw[g2]
  cases y <;> simp only[O.rn,reduceCtorEq,O.mp.injEq] at e
  obtain⟨e1,rfl⟩:=e
  obtain rfl:_=v:=Nat.add_right_cancel e1
  exact hv _ rfl
 |.cl f l,u,hv=>by
  simp only[V.rn,VR] at hv ⊢
  obtain⟨vs,e,hv⟩:=hv
  exact⟨vs,e,VRs.rn_ok h l vs hv⟩
 |.ag l,u,hv=>by
  simp only[V.rn,VR] at hv ⊢
  obtain⟨vs,e,hv,h1⟩:=hv
  exact⟨vs,e,VRs.rn_ok h l vs hv,h1⟩
 |.tu l,u,hv=>by
  simp only[V.rn,VR] at hv ⊢
  obtain⟨vs,e,hv⟩:=hv
  exact⟨vs,e,VRs.rn_ok h l vs hv⟩
theorem VRs.rn_ok (h:∀ i o,m i=some o→m' (σ i)=some (o.rn σ δ (δ i))∧hd' (σ i)=hd i):∀ (l:List V) (us:List Value),VRs m hd w S l us→VRs m' hd' w S (V.rns σ δ l) us
 |[],us,hv=>by simp only[V.rns,VRs] at hv ⊢;exact hv
 |x :: l,us,hv=>by
  simp only[V.rns,VRs] at hv ⊢
  obtain⟨u,r,e,h1,h2⟩:=hv
  exact⟨u,r,e,VR.rn_ok h x u h1,VRs.rn_ok h l r h2⟩
end
theorem rns_len (l:List V):(V.rns σ δ l).length=l.length:=by rw[rns_map,List.length_map]
end
section
variable {P:Program} {cx:Cx} {Q:Exit→St→Prop} {s:St} {a:Act} {w:World}
def St.rn (σ δ:Nat→Nat) (s:St):St:=⟨fun t=>(s.T t).rn σ δ,fun i=>(s.m (σ i)).map (O.rn σ δ (δ (σ i)))⟩
theorem Rel.rn (h:Rel cx s a w) (σ δ:Nat→Nat) (hσ:∀ i,σ (σ i)=i) (h0:∀ i o,cx.m0 i=some o→(σ i=i∧δ i=0)∨∃ o',s.m (σ i)=some o'∧o.ver<o'.ver+δ (σ i)):Rel cx (s.rn σ δ) a w:=by
 obtain⟨hd,S,hm,hv,hfr,hdef,hsz,hsub,hle⟩:=h
 have key:∀ i o,s.m i=some o→(s.rn σ δ).m (σ i)=some (o.rn σ δ (δ i))∧(fun i=>hd (σ i)) (σ i)=hd i:=fun i o hi=>by
  simp only[St.rn,hσ,hi,Option.map_some]
  exact⟨trivial,trivial⟩
 have back:∀ i o,(s.rn σ δ).m i=some o→∃ o',s.m (σ i)=some o'∧o=o'.rn σ δ (δ (σ i)):=fun i o hi=>by
  simp only[St.rn,Option.map_eq_some_iff] at hi
  obtain⟨o',h1,h2⟩:=hi
  exact⟨o',h1,h2.symm⟩
 refine⟨fun i=>hd (σ i),S,⟨fun i o hi=>?_,fun i j oi oj b hne hi hj li lj bi=>?_,hm.lt,hm.base,hm.sX⟩,fun t=>VR.rn_ok key _ _ (hv t),hfr,hdef,hsz,hsub,⟨fun i o hi=>?_⟩⟩
 ·obtain⟨o',h1,rfl⟩:=back i o hi
  have hob:=hm.obj _ _ h1
  cases o' with
  |box v cs =>
   simp only[O.rn,O.is] at hob ⊢
   obtain⟨b,vs,e,g1,g2,g3,g4,g5,g6,g7⟩:=hob
   exact⟨b,vs,e,g1,g2,g3,VRs.rn_ok key _ _ g4,g5,by rw[rns_len];exact g6,g7⟩
  |vec v kk cs =>
   simp only[O.rn,O.is] at hob ⊢
   obtain⟨vs,g4,g5,g6⟩:=hob
   exact⟨vs,VRs.rn_ok key _ _ g4,g5,by rw[rns_len];exact g6⟩
  |arr v k mu l=>simp only[O.rn,O.is] at hob ⊢;exact hob
  |mp v ks=>simp only[O.rn,O.is] at hob ⊢;exact hob
 ·obtain⟨o1,h1,rfl⟩:=back i oi hi
  obtain⟨o2,h2,rfl⟩:=back j oj hj
  rw[rn_live] at li lj
  exact hm.sep _ _ o1 o2 b (fun e=>hne (by rw[← hσ i,e,hσ j])) h1 h2 li lj bi
 ·rcases h0 i o hi with ⟨e,e0⟩|⟨o',g1,g2⟩
  ·obtain⟨o1,h1,h2,h3⟩:=hle.le i o hi
   refine⟨o1.rn σ δ (δ (σ i)),?_,by rw[rn_ver];omega,fun e2=>?_⟩
   ·simp only[St.rn,e,h1,Option.map_some]
   ·rw[rn_ver,e,e0] at e2
    obtain⟨g1,g2⟩:=h3 e2
    simp only[e]
    exact⟨g1,by rw[rn_kind];exact g2⟩
  ·refine⟨o'.rn σ δ (δ (σ i)),by simp only[St.rn,g1,Option.map_some],by rw[rn_ver];omega,fun e=>?_⟩
   rw[rn_ver] at e
   omega
def Wk (cx:Cx) (s s0:St):Prop:=∀ a w,Rel cx s a w→Rel cx s0 a w
theorem Wk.refl:Wk cx s s:=fun _ _ h=>h
theorem Wk.trans {s1 s2:St} (h:Wk cx s s1) (k:Wk cx s1 s2):Wk cx s s2:=fun a w hR=>k a w (h a w hR)
theorem Wk.frz (l:List V):Wk cx s ⟨s.T,ups s.m (Sim.frz s.m l)⟩:=fun a w h=>h.frz l
theorem Wk.rn (σ δ:Nat→Nat) (hσ:∀ i,σ (σ i)=i) (h0:∀ i o,cx.m0 i=some o→(σ i=i∧δ i=0)∨∃ o',s.m (σ i)=some o'∧o.ver<o'.ver+δ (σ i)):Wk cx s (s.rn σ δ):=fun a w h=>h.rn σ δ hσ h0
theorem Wk.weaken (ad:List Nat) (T0:Nat→V) (m0:M) (hT:∀ t,W s.m m0 ad (s.T t) (T0 t)) (hM:∀ i o,m0 i=some o→MO s.m m0 ad i o) (hA:∀ i ∈ ad,∃ k mu l,m0 i=some (.arr 0 k mu l)) (hP:∀ i o,cx.m0 i=some o→ad.contains i=false∧(m0 i).isSome=true):Wk cx s ⟨T0,m0⟩:=fun a w h=>h.weakenG ad T0 m0 hT hM hA hP
theorem Awp.wk {c:AC} {s0:St} (hw:Wk cx s s0) (h:Awp P cx c Q s0):Awp P cx c Q s:=fun code hc a w hR=>h code hc a w (hw a w hR)
theorem Awp.loopG {ι:Type} {x:AC} (F:ι→St) (μ:ι→Nat) (i0:ι) (h0:Wk cx s (F i0))
  (hr:∀ i,Awp P cx x (thenE (fun s'=>∃ i',Wk cx s' (F i')∧μ i'<μ i) Q) (F i)):Awp P cx (.loop x) Q s:=by
 refine Awp.wk h0 ?_
 intro code hc a w hR
 cases code <;> try (simp [compile] at hc;done)
 case loop c1 =>
  simp only[compile,Option.map_eq_some_iff] at hc
  obtain⟨x',h1,h2⟩:=hc
  cases h2
  intro b k cs
  have key:∀ n i a w,μ i=n→Rel cx (F i) a w→∃ e a' w',(∃ s',Q e s'∧Rel cx s' a' w')∧Arrives P (lone (b.at a (.code c1 :: .inLoop c1 :: k)) cs w) b k cs e a' w':=by
   intro n
   induction n using Nat.strongRecOn with
   |_ n ih =>
    intro i a w hn hR
    obtain⟨e,a₁,w₁,⟨s₁,hq,hR₁⟩,harr⟩:=hr i c1 h1 a w hR b (.inLoop c1 :: k) cs
    cases e with
    |normal =>
     obtain⟨i',hg,hlt⟩:=hq
     obtain⟨e₂,a₂,w₂,hq₂,harr₂⟩:=ih (μ i') (hn ▸ hlt) i' a₁ w₁ rfl (hg _ _ hR₁)
     exact⟨e₂,a₂,w₂,hq₂,.of_steps (Steps.trans harr (.one step_inLoop)) harr₂⟩
    |exit id=>exact⟨_,a₁,w₁,⟨s₁,hq,hR₁⟩,.pass (x:=.inLoop c1) rfl (fun _ _=>.inl (by simp)) harr⟩
    |goto l=>exact⟨_,a₁,w₁,⟨s₁,hq,hR₁⟩,.pass (x:=.inLoop c1) rfl (fun _ _=>.inl (by simp)) harr⟩
    |ret=>exact⟨_,a₁,w₁,⟨s₁,hq,hR₁⟩,.pass (x:=.inLoop c1) rfl (fun _ _=>.inl (by simp)) harr⟩
    |panic ch=>exact⟨_,a₁,w₁,⟨s₁,hq,hR₁⟩,.pass (x:=.inLoop c1) rfl (fun _ _=>.inl (by simp)) harr⟩
    |outgrown=>exact⟨_,a₁,w₁,⟨s₁,hq,hR₁⟩,.pass (x:=.inLoop c1) rfl (fun _ _=>.inl (by simp)) harr⟩
  obtain⟨e,a',w',hq,harr⟩:=key _ i0 a w rfl hR
  exact⟨e,a',w',hq,.of_steps (.one step_loop) harr⟩
 all_goals ((try unfold compile at hc);first|(split at hc <;> (first|(cases hc;done)|(simp at hc;done)))|(simp at hc;done))
theorem go_loopG {ι:Type} {x:AC} {r:List Fm} {T:Nat→V} {m:M} (n:Nat) (T0:ι→List (Nat × V)) (mm:ι→M) (μ:ι→Nat) (i0:ι) (h0:Wk cx ⟨T,m⟩ ⟨tl (T0 i0),mm i0⟩)
  (hr:∀ i,Go P cx Q n (.ex .normal) (.run x :: .lp (fun s'=>∃ i',Wk cx s' ⟨tl (T0 i'),mm i'⟩∧μ i'<μ i) :: r) (tl (T0 i)) (mm i)):Awp P cx (.loop x) (stk P cx Q r) ⟨T,m⟩ :=
 Awp.loopG (fun i=>⟨tl (T0 i),mm i⟩) μ i0 h0 fun i=>go_mean n _ _ _ _ (hr i)
def swp (i j k:Nat):Nat:=if k=i then j else if k=j then i else k
theorem swp_swp (i j k:Nat):swp i j (swp i j k)=k:=by unfold swp;split <;> (try split) <;> simp_all
end
end Go.Proofs.YtacfbiegbdlldaaGreatDoor.Sim
