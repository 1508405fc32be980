/- An array of slices of the call's own, grown by append, becomes data: of no program. Conditions: none. -/
import Derived.Test.YticdbambknflgaaGreatMSimLp
import Derived.Test.YticdbambknflgaaGreatMSimSl
section
namespace Go.Proofs.YticdbambknflgaaGreat.Sim
open Go Go.RowKit Go.Deep
set_option linter.unusedVariables false
mutual
def V.rn (σ δ:Nat→Nat):V→V
 |.og i v=>.og (σ i) (v+δ i)
 |.bp i v o=>.bp (σ i) (v+δ i) o
 |.ep i v e o=>.ep (σ i) (v+δ i) e o
 |.vg i v=>.vg (σ i) (v+δ i)
 |.vp i v e=>.vp (σ i) (v+δ i) e
 |.ot i v e=>.ot (σ i) (v+δ i) e
 |.mh i v=>.mh (σ i) (v+δ i)
 |.cl f l=>.cl f (V.rns σ δ l)
 |.ag l=>.ag (V.rns σ δ l)
 |.tu l=>.tu (V.rns σ δ l)
 |x=>x
def V.rns (σ δ:Nat→Nat):List V→List V
 |[]=>[]
 |x :: l=>V.rn σ δ x :: V.rns σ δ l
end
theorem rns_map (σ δ:Nat→Nat):∀ l:List V,V.rns σ δ l=l.map (V.rn σ δ)
 |[]=>rfl
 |x :: l=>by simp only[V.rns,List.map_cons,rns_map σ δ l]
def O.rn (σ δ:Nat→Nat) (d:Nat):O→O
 |.box v cs=>.box (v+d) (V.rns σ δ cs)
 |.vec v k cs=>.vec (v+d) k (V.rns σ δ cs)
 |.arr v k mu l=>.arr (v+d) k mu l
 |.mp v ks=>.mp (v+d) ks
theorem rn_ver (σ δ:Nat→Nat) (d:Nat) (o:O):(o.rn σ δ d).ver=o.ver+d:=by cases o <;> rfl
theorem rn_kind (σ δ:Nat→Nat) (d:Nat) (o:O):(o.rn σ δ d).kind=o.kind:=by cases o <;> rfl
theorem rn_live (σ δ:Nat→Nat) (d:Nat) (o:O):(o.rn σ δ d).live=o.live:=by cases o <;> rfl
section
variable {σ δ:Nat→Nat} {m m':M} {hd hd':H} {w:World} {S X:Nat→Prop} {B:Nat}
mutual
theorem VR.rn_ok (h:∀ i o,m i=some o→m' (σ i)=some (o.rn σ δ (δ i))∧hd' (σ i)=hd i):∀ (x:V) (u:Value),VR m hd w S x u→VR m' hd' w S (x.rn σ δ) u
 |.un,u,hv=>by simp only[V.rn,VR]
 |.d x,u,hv=>by simp only[V.rn,VR] at hv ⊢;exact hv
 |.nl k,u,hv=>by simp only[V.rn,VR] at hv ⊢;exact hv
 |.z0,u,hv=>by simp only[V.rn,VR] at hv ⊢;exact hv
 |.ub,u,hv=>by simp only[V.rn,VR] at hv ⊢;exact hv
 |.fp cs o,u,hv=>by simp only[V.rn,VR] at hv ⊢;exact hv
 |.og i v,u,hv=>by
  simp only[V.rn,VR] at hv ⊢
  obtain⟨h0,y,hy,hver,hv⟩:=hv
  obtain⟨g1,g2⟩:=h i y hy
  refine⟨h0,_,g1,by rw[rn_ver];omega,fun k mu l e=>?_⟩
  rw[g2]
  cases y <;> simp only[O.rn,reduceCtorEq,O.arr.injEq] at e
  obtain⟨e1,rfl,rfl,rfl⟩:=e
  obtain rfl:_=v:=Nat.add_right_cancel e1
  exact hv _ _ _ rfl
 |.bp i v o,u,hv=>by
  simp only[V.rn,VR] at hv ⊢
  obtain⟨h0,y,hy,hver,hv⟩:=hv
  obtain⟨g1,g2⟩:=h i y hy
  refine⟨h0,_,g1,by rw[rn_ver];omega,fun cs e=>?_⟩
  rw[g2]
  cases y <;> simp only[O.rn,reduceCtorEq,O.box.injEq] at e
  obtain⟨e1,rfl⟩:=e
  obtain rfl:_=v:=Nat.add_right_cancel e1
  exact hv _ rfl
 |.ep i v e0 o,u,hv=>by
  simp only[V.rn,VR] at hv ⊢
  obtain⟨h0,y,hy,hver,hv⟩:=hv
  obtain⟨g1,g2⟩:=h i y hy
  refine⟨h0,_,g1,by rw[rn_ver];omega,fun k mu l e=>?_,fun cs e=>?_⟩
  ·rw[g2]
   cases y <;> simp only[O.rn,reduceCtorEq,O.arr.injEq] at e
   obtain⟨e1,rfl,rfl,rfl⟩:=e
   obtain rfl:_=v:=Nat.add_right_cancel e1
   exact hv.1 _ _ _ rfl
  ·rw[g2]
   cases y <;> simp only[O.rn,reduceCtorEq,O.box.injEq] at e
   obtain⟨e1,rfl⟩:=e
   obtain rfl:_=v:=Nat.add_right_cancel e1
   exact hv.2 _ rfl
 |.vg i v,u,hv=>by
  simp only[V.rn,VR] at hv ⊢
  obtain⟨h0,y,hy,hver,hv⟩:=hv
  obtain⟨g1,g2⟩:=h i y hy
  refine⟨h0,_,g1,by rw[rn_ver];omega,fun kq cs e=>?_⟩
  rw[g2]
  cases y <;> simp only[O.rn,reduceCtorEq,O.vec.injEq] at e
  obtain⟨e1,rfl,rfl⟩:=e
  obtain rfl:_=v:=Nat.add_right_cancel e1
  exact hv _ _ rfl
 |.vp i v o,u,hv=>by
  simp only[V.rn,VR] at hv ⊢
  obtain⟨h0,y,hy,hver,hv⟩:=hv
  obtain⟨g1,g2⟩:=h i y hy
  refine⟨h0,_,g1,by rw[rn_ver];omega,fun kq cs e=>?_⟩
  rw[g2]
  cases y <;> simp only[O.rn,reduceCtorEq,O.vec.injEq] at e
  obtain⟨e1,rfl,rfl⟩:=e
  obtain rfl:_=v:=Nat.add_right_cancel e1
  exact hv _ _ rfl
 |.ot i v e0,u,hv=>by
  simp only[V.rn,VR] at hv ⊢
  obtain⟨h0,y,hy,hver,hv⟩:=hv
  obtain⟨g1,g2⟩:=h i y hy
  refine⟨h0,_,g1,by rw[rn_ver];omega,fun k mu l e=>?_⟩
  rw[g2]
  cases y <;> simp only[O.rn,reduceCtorEq,O.arr.injEq] at e
  obtain⟨e1,rfl,rfl,rfl⟩:=e
  obtain rfl:_=v:=Nat.add_right_cancel e1
  exact hv _ _ _ rfl
 |.fx k l,u,hv=>by simpa only[V.rn,VR] using hv
 |.mh i v,u,hv=>by
  simp only[V.rn,VR] at hv ⊢
  obtain⟨h0,y,hy,hver,hv⟩:=hv
  obtain⟨g1,g2⟩:=h i y hy
  refine⟨h0,_,g1,by rw[rn_ver];omega,fun ks e=>?_⟩
  rw[g2]
  cases y <;> simp only[O.rn,reduceCtorEq,O.mp.injEq] at e
  obtain⟨e1,rfl⟩:=e
  obtain rfl:_=v:=Nat.add_right_cancel e1
  exact hv _ rfl
 |.cl f l,u,hv=>by
  simp only[V.rn,VR] at hv ⊢
  obtain⟨vs,e,hv⟩:=hv
  exact⟨vs,e,VRs.rn_ok h l vs hv⟩
 |.ag l,u,hv=>by
  simp only[V.rn,VR] at hv ⊢
  obtain⟨vs,e,hv,h1⟩:=hv
  exact⟨vs,e,VRs.rn_ok h l vs hv,h1⟩
 |.tu l,u,hv=>by
  simp only[V.rn,VR] at hv ⊢
  obtain⟨vs,e,hv⟩:=hv
  exact⟨vs,e,VRs.rn_ok h l vs hv⟩
theorem VRs.rn_ok (h:∀ i o,m i=some o→m' (σ i)=some (o.rn σ δ (δ i))∧hd' (σ i)=hd i):∀ (l:List V) (us:List Value),VRs m hd w S l us→VRs m' hd' w S (V.rns σ δ l) us
 |[],us,hv=>by simp only[V.rns,VRs] at hv ⊢;exact hv
 |x :: l,us,hv=>by
  simp only[V.rns,VRs] at hv ⊢
  obtain⟨u,r,e,h1,h2⟩:=hv
  exact⟨u,r,e,VR.rn_ok h x u h1,VRs.rn_ok h l r h2⟩
end
theorem rns_len (l:List V):(V.rns σ δ l).length=l.length:=by rw[rns_map,List.length_map]
end
section
variable {P:Program} {cx:Cx} {Q:Exit→St→Prop} {s:St} {a:Act} {w:World}
def St.rn (σ δ:Nat→Nat) (s:St):St:=⟨fun t=>(s.T t).rn σ δ,fun i=>(s.m (σ i)).map (O.rn σ δ (δ (σ i)))⟩
theorem Rel.rn (h:Rel cx s a w) (σ δ:Nat→Nat) (hσ:∀ i,σ (σ i)=i) (h0:∀ i o,cx.m0 i=some o→(σ i=i∧δ i=0)∨∃ o',s.m (σ i)=some o'∧o.ver<o'.ver+δ (σ i)):Rel cx (s.rn σ δ) a w:=by
 obtain⟨hd,S,hm,hv,hfr,hdef,hsz,hsub,hle⟩:=h
 have key:∀ i o,s.m i=some o→(s.rn σ δ).m (σ i)=some (o.rn σ δ (δ i))∧(fun i=>hd (σ i)) (σ i)=hd i:=fun i o hi=>by
  simp only[St.rn,hσ,hi,Option.map_some]
  exact⟨trivial,trivial⟩
 have back:∀ i o,(s.rn σ δ).m i=some o→∃ o',s.m (σ i)=some o'∧o=o'.rn σ δ (δ (σ i)):=fun i o hi=>by
  simp only[St.rn,Option.map_eq_some_iff] at hi
  obtain⟨o',h1,h2⟩:=hi
  exact⟨o',h1,h2.symm⟩
 refine⟨fun i=>hd (σ i),S,⟨fun i o hi=>?_,fun i j oi oj b hne hi hj li lj bi=>?_,hm.lt,hm.base,hm.sX⟩,fun t=>VR.rn_ok key _ _ (hv t),hfr,hdef,hsz,hsub,⟨fun i o hi=>?_⟩⟩
 ·obtain⟨o',h1,rfl⟩:=back i o hi
  have hob:=hm.obj _ _ h1
  cases o' with
  |box v cs =>
   simp only[O.rn,O.is] at hob ⊢
   obtain⟨b,vs,e,g1,g2,g3,g4,g5,g6,g7⟩:=hob
   exact⟨b,vs,e,g1,g2,g3,VRs.rn_ok key _ _ g4,g5,by rw[rns_len];exact g6,g7⟩
  |vec v kk cs =>
   simp only[O.rn,O.is] at hob ⊢
   obtain⟨vs,g4,g5,g6⟩:=hob
   exact⟨vs,VRs.rn_ok key _ _ g4,g5,by rw[rns_len];exact g6⟩
  |arr v k mu l=>simp only[O.rn,O.is] at hob ⊢;exact hob
  |mp v ks=>simp only[O.rn,O.is] at hob ⊢;exact hob
 ·obtain⟨o1,h1,rfl⟩:=back i oi hi
  obtain⟨o2,h2,rfl⟩:=back j oj hj
  rw[rn_live] at li lj
  exact hm.sep _ _ o1 o2 b (fun e=>hne (by rw[← hσ i,e,hσ j])) h1 h2 li lj bi
 ·rcases h0 i o hi with ⟨e,e0⟩|⟨o',g1,g2⟩
  ·obtain⟨o1,h1,h2,h3⟩:=hle.le i o hi
   refine⟨o1.rn σ δ (δ (σ i)),?_,by rw[rn_ver];omega,fun e2=>?_⟩
   ·simp only[St.rn,e,h1,Option.map_some]
   ·rw[rn_ver,e,e0] at e2
    obtain⟨g1,g2⟩:=h3 e2
    simp only[e]
    exact⟨g1,by rw[rn_kind];exact g2⟩
  ·refine⟨o'.rn σ δ (δ (σ i)),by simp only[St.rn,g1,Option.map_some],by rw[rn_ver];omega,fun e=>?_⟩
   rw[rn_ver] at e
   omega
def Wk (cx:Cx) (s s0:St):Prop:=∀ a w,Rel cx s a w→Rel cx s0 a w
theorem Wk.refl:Wk cx s s:=fun _ _ h=>h
theorem Wk.trans {s1 s2:St} (h:Wk cx s s1) (k:Wk cx s1 s2):Wk cx s s2:=fun a w hR=>k a w (h a w hR)
theorem Wk.frz (l:List V):Wk cx s ⟨s.T,ups s.m (Sim.frz s.m l)⟩:=fun a w h=>h.frz l
theorem Wk.rn (σ δ:Nat→Nat) (hσ:∀ i,σ (σ i)=i) (h0:∀ i o,cx.m0 i=some o→(σ i=i∧δ i=0)∨∃ o',s.m (σ i)=some o'∧o.ver<o'.ver+δ (σ i)):Wk cx s (s.rn σ δ):=fun a w h=>h.rn σ δ hσ h0
theorem Wk.weaken (ad:List Nat) (T0:Nat→V) (m0:M) (hT:∀ t,W s.m m0 ad (s.T t) (T0 t)) (hM:∀ i o,m0 i=some o→MO s.m m0 ad i o) (hA:∀ i ∈ ad,∃ k mu l,m0 i=some (.arr 0 k mu l)) (hP:∀ i o,cx.m0 i=some o→ad.contains i=false∧(m0 i).isSome=true):Wk cx s ⟨T0,m0⟩:=fun a w h=>h.weakenG ad T0 m0 hT hM hA hP
theorem Awp.wk {c:AC} {s0:St} (hw:Wk cx s s0) (h:Awp P cx c Q s0):Awp P cx c Q s:=fun code hc a w hR=>h code hc a w (hw a w hR)
theorem Awp.loopG {ι:Type} {x:AC} (F:ι→St) (μ:ι→Nat) (i0:ι) (h0:Wk cx s (F i0))
  (hr:∀ i,Awp P cx x (thenE (fun s'=>∃ i',Wk cx s' (F i')∧μ i'<μ i) Q) (F i)):Awp P cx (.loop x) Q s:=by
 refine Awp.wk h0 ?_
 intro code hc a w hR
 cases code <;> try (simp [compile] at hc;done)
 case loop c1 =>
  simp only[compile,Option.map_eq_some_iff] at hc
  obtain⟨x',h1,h2⟩:=hc
  cases h2
  intro b k cs
  have key:∀ n i a w,μ i=n→Rel cx (F i) a w→∃ e a' w',(∃ s',Q e s'∧Rel cx s' a' w')∧Arrives P (lone (b.at a (.code c1 :: .inLoop c1 :: k)) cs w) b k cs e a' w':=by
   intro n
   induction n using Nat.strongRecOn with
   |_ n ih =>
    intro i a w hn hR
    obtain⟨e,a₁,w₁,⟨s₁,hq,hR₁⟩,harr⟩:=hr i c1 h1 a w hR b (.inLoop c1 :: k) cs
    cases e with
    |normal =>
     obtain⟨i',hg,hlt⟩:=hq
     obtain⟨e₂,a₂,w₂,hq₂,harr₂⟩:=ih (μ i') (hn ▸ hlt) i' a₁ w₁ rfl (hg _ _ hR₁)
     exact⟨e₂,a₂,w₂,hq₂,.of_steps (Steps.trans harr (.one step_inLoop)) harr₂⟩
    |exit id=>exact⟨_,a₁,w₁,⟨s₁,hq,hR₁⟩,.pass (x:=.inLoop c1) rfl (fun _ _=>.inl (by simp)) harr⟩
    |goto l=>exact⟨_,a₁,w₁,⟨s₁,hq,hR₁⟩,.pass (x:=.inLoop c1) rfl (fun _ _=>.inl (by simp)) harr⟩
    |ret=>exact⟨_,a₁,w₁,⟨s₁,hq,hR₁⟩,.pass (x:=.inLoop c1) rfl (fun _ _=>.inl (by simp)) harr⟩
    |panic ch=>exact⟨_,a₁,w₁,⟨s₁,hq,hR₁⟩,.pass (x:=.inLoop c1) rfl (fun _ _=>.inl (by simp)) harr⟩
    |outgrown=>exact⟨_,a₁,w₁,⟨s₁,hq,hR₁⟩,.pass (x:=.inLoop c1) rfl (fun _ _=>.inl (by simp)) harr⟩
  obtain⟨e,a',w',hq,harr⟩:=key _ i0 a w rfl hR
  exact⟨e,a',w',hq,.of_steps (.one step_loop) harr⟩
 all_goals ((try unfold compile at hc);first|(split at hc <;> (first|(cases hc;done)|(simp at hc;done)))|(simp at hc;done))
theorem go_loopG {ι:Type} {x:AC} {r:List Fm} {T:Nat→V} {m:M} (n:Nat) (T0:ι→List (Nat × V)) (mm:ι→M) (μ:ι→Nat) (i0:ι) (h0:Wk cx ⟨T,m⟩ ⟨tl (T0 i0),mm i0⟩)
  (hr:∀ i,Go P cx Q n (.ex .normal) (.run x :: .lp (fun s'=>∃ i',Wk cx s' ⟨tl (T0 i'),mm i'⟩∧μ i'<μ i) :: r) (tl (T0 i)) (mm i)):Awp P cx (.loop x) (stk P cx Q r) ⟨T,m⟩ :=
 Awp.loopG (fun i=>⟨tl (T0 i),mm i⟩) μ i0 h0 fun i=>go_mean n _ _ _ _ (hr i)
def swp (i j k:Nat):Nat:=if k=i then j else if k=j then i else k
theorem swp_swp (i j k:Nat):swp i j (swp i j k)=k:=by unfold swp;split <;> (try split) <;> simp_all
end
end Go.Proofs.YticdbambknflgaaGreat.Sim
end
section
namespace Go.Proofs.YticdbambknflgaaGreat.Sim
open Go Go.RowKit Go.Deep
set_option linter.unusedVariables false
end Go.Proofs.YticdbambknflgaaGreat.Sim
end
section
namespace Go.Proofs.YticdbambknflgaaGreat.Sim
open Go Go.RowKit Go.Deep
set_option linter.unusedVariables false
section
variable {m:M} {hd:H} {w:World} {S X:Nat→Prop} {B:Nat}
theorem cells_split:∀ {c l:List D} {vs:List Value},Cells w S (c++l) vs→∃ a r,vs=a++r∧Cells w S c a∧Cells w S l r
 |[],l,vs,h=>⟨[],vs,rfl,by simp [Cells],h⟩
 |d :: c,l,vs,h=>by
  simp only[List.cons_append,Cells] at h ⊢
  obtain⟨x,r,rfl,h1,h2⟩:=h
  obtain⟨a,r',rfl,h3,h4⟩:=cells_split h2
  exact⟨x :: a,r',rfl,⟨x,a,rfl,h1,h3⟩,h4⟩
theorem rows_flat {k:Nat}:∀ {rs:List (List D)} {vs:List Value},(∀ r ∈ rs,r.length=k)→Cells w S rs.flatten vs→Rows w S k rs vs
 |[],vs,_,h=>by simpa [Rows,Cells] using h
 |r :: rs,vs,hl,h=>by
  rw[List.flatten_cons] at h
  obtain⟨a,b,rfl,h1,h2⟩:=cells_split h
  simp only[Rows]
  exact⟨a,b,rfl,hl r (by simp),h1,rows_flat (fun x hx=>hl x (by simp [hx])) h2⟩
theorem flat_len {k:Nat}:∀ {rs:List (List D)},(∀ r ∈ rs,r.length=k)→rs.flatten.length=rs.length*k
 |[],_=>by simp
 |r :: rs,h=>by rw[List.flatten_cons,List.length_append,flat_len fun x hx=>h x (by simp [hx]),h r (by simp),List.length_cons,Nat.add_mul,Nat.one_mul];omega
theorem out_sealV (h:Mem m hd w S X B) {i v k:Nat} {cs:List V} {rs:List (List D)} {vs:List Value} (hi:m i=some (.vec v k cs)) (hr:Rows w S k rs vs) (hcl:cs.length=rs.length*k) (hk:0<k) (ha:ArrV w B X S k (hd i) cs.length vs) :
  ∃ S',Out X B m hd w S (up m i (some (.arr (v+1) k false rs))) hd w S'∧(D.sl k rs).is w S' (hd i):=by
 let S':Nat→Prop:=fun x=>S x∨blk (hd i)=some x
 have hS':∀ x,S' x→x<w.heap.size:=fun x hx=>hx.elim (h.lt x) fun e=>(h.blk hi rfl e).1
 have hD:(D.sl k rs).is w S' (hd i):=by
  have hrow:=Rows.keep (w':=w) (S':=S') (fun x hx _=>⟨.inl hx,rfl⟩) _ _ _ hr
  simp only[D.is]
  rcases ha with ⟨a,e,hn⟩|⟨g,off,cap,nn,e,h1,h2,h3,h4,h5,h6,h7,h8,h9⟩
  ·obtain rfl:rs=[]:=List.length_eq_zero_iff.1 (by
    rcases Nat.eq_zero_or_pos rs.length with h0|h0
    ·exact h0
    ·have:=Nat.mul_pos h0 hk;omega)
   exact⟨a,0,vs,e,Nat.le_refl _,Nat.zero_le _,hrow,fun h=>absurd h (by simp)⟩
  ·obtain rfl:nn=rs.length:=Nat.eq_of_mul_eq_mul_right hk (h9.symm.trans hcl)
   exact⟨_,cap,vs,e,h5,h6,hrow,fun _=>⟨g,off,rfl,⟨.inr (by rw[e];obtain⟨c,rfl⟩:∃ c,cap=c+1:=⟨cap-1,by omega⟩;rfl),h3⟩,h8⟩⟩
 have hle:Le m hd (up m i (some (.arr (v+1) k false rs))) hd:=⟨fun j oj hj=>by
  by_cases e:j=i
  ·subst e
   rw[hi] at hj
   cases hj
   exact⟨_,up_same _ _ _,by simp [O.ver],fun e=>by simp [O.ver] at e⟩
  ·exact⟨oj,by rw[up_ne _ _ e];exact hj,Nat.le_refl _,fun _=>⟨rfl,rfl⟩⟩⟩
 refine⟨S',⟨?_,hle,fun b hb _=>⟨.inl hb,rfl⟩,Fr.refl _ _,fun x hx=>hx.elim .inl fun e=>.inr (h.blk hi rfl e).2.2.symm⟩,hD⟩
 refine Mem.next (Z:=fun _=>False) h (Nat.le_refl _) (fun _ _ _=>rfl) (fun _ _ h=>h) (fun b hb=>.inl hb) hS' hle (fun j oj hj=>?_) (fun j k' oj ok x hjk hj hk lj lk bj bk=>?_)
 ·by_cases e:j=i
  ·subst e
   rw[up_same] at hj
   cases hj
   refine .inr ?_
   simp only[O.is,Bool.false_eq_true,if_false]
   exact hD
  ·rw[up_ne _ _ e] at hj
   refine .inl ⟨hj,rfl,fun x hl hx=>⟨fun h=>h,?_⟩⟩
   rintro (h1|h1)
   ·exact (h.blk hj hl hx).2.1 h1
   ·exact h.sep j i oj _ x e hj hi hl rfl hx h1
 ·by_cases e:j=i
  ·subst e;rw[up_same] at hj;cases hj;cases lj
  ·by_cases e':k'=i
   ·subst e';rw[up_same] at hk;cases hk;cases lk
   ·rw[up_ne _ _ e] at hj
    rw[up_ne _ _ e'] at hk
    exact h.sep j k' oj ok x hjk hj hk lj lk bj bk
end
def su (i v:Nat) (d:D) (x:V):V:=match x with
 |.vg j u=>if j=i∧u=v then .d d else .vg j u
 |x=>x
section
variable {m m2:M} {hd:H} {w:World} {S S2 X:Nat→Prop} {B:Nat}
theorem su_ok {i v kk:Nat} {cs:List V} {d:D} (hi:m i=some (.vec v kk cs)) (hl:Le m hd m2 hd) (hS:∀ b,S b→b<w.heap.size→S2 b∧w.heap[b]?=w.heap[b]?) (hD:d.is w S2 (hd i)) (x:V) (u:Value) (h:VR m hd w S x u):VR m2 hd w S2 (su i v d x) u:=by
 have hk:=VR.keep hl hS x u h
 cases x with
 |vg j k =>
  simp only[su]
  split
  ·rename_i e
   obtain⟨rfl,rfl⟩:=e
   simp only[VR] at h ⊢
   obtain⟨_,y,hy,_,h3⟩:=h
   rw[hi] at hy
   cases hy
   rw[h3 _ _ rfl]
   exact hD
  ·exact hk
 |_=>exact hk
theorem sus_ok {i v kk:Nat} {cs:List V} {d:D} (hi:m i=some (.vec v kk cs)) (hl:Le m hd m2 hd) (hS:∀ b,S b→b<w.heap.size→S2 b∧w.heap[b]?=w.heap[b]?) (hD:d.is w S2 (hd i)):∀ (l:List V) (us:List Value),VRs m hd w S l us→VRs m2 hd w S2 (l.map (su i v d)) us
 |[],us,h=>by simp only[List.map_nil,VRs] at h ⊢;exact h
 |x :: l,us,h=>by
  simp only[List.map_cons,VRs] at h ⊢
  obtain⟨u,r,e,h1,h2⟩:=h
  exact⟨u,r,e,su_ok hi hl hS hD x u h1,sus_ok hi hl hS hD l r h2⟩
theorem mem_box (h:Mem m hd w S X B) {j v:Nat} {cs cs':List V} (hj:m j=some (.box v cs)) {b:Nat} {vs:List Value} (hb:hd j=.pointer (some ⟨b,0,none⟩)) (hvs:VRs m hd w S cs' vs) (hone:∀ x ∈ vs,x.oneCell'=true) (hth:w.there b 0 cs'.length) (hrg:w.rangeAt b 0 vs):Mem (up m j (some (.box v cs'))) hd w S X B∧Le m hd (up m j (some (.box v cs'))) hd:=by
 have hle:Le m hd (up m j (some (.box v cs'))) hd:=⟨fun k ok hk=>by
  by_cases e:k=j
  ·subst e
   rw[hj] at hk
   cases hk
   exact⟨_,up_same _ _ _,Nat.le_refl _,fun _=>⟨rfl,rfl⟩⟩
  ·exact⟨ok,by rw[up_ne _ _ e];exact hk,Nat.le_refl _,fun _=>⟨rfl,rfl⟩⟩⟩
 refine⟨Mem.next (Z:=fun _=>False) h (Nat.le_refl _) (fun _ _ _=>rfl) (fun _ _ h=>h) (fun b hb=>hb) h.lt hle (fun k ok hk=>?_) (fun k k' oj ok x hjk hj' hk lj lk bj bk=>?_),hle⟩
 ·by_cases e:k=j
  ·subst e
   rw[up_same] at hk
   cases hk
   refine .inr ?_
   have:=h.blk hj rfl (b:=b) (by rw[hb];rfl)
   simp only[O.is]
   exact⟨b,vs,hb,this.2.2.symm,this.1,this.2.1,VRs.keep hle (fun _ hb _=>⟨hb,rfl⟩) _ _ hvs,hone,hth,hrg⟩
  ·rw[up_ne _ _ e] at hk
   exact .inl ⟨hk,rfl,fun b hl hb=>⟨fun h=>h,(h.blk hk hl hb).2.1⟩⟩
 ·have key:∀ k o,up m j (some (.box v cs')) k=some o→∃ o',m k=some o'∧(o.live=true→o'.live=true):=fun k o hk=>by
   by_cases e:k=j
   ·subst e;exact⟨_,hj,fun _=>rfl⟩
   ·rw[up_ne _ _ e] at hk;exact⟨o,hk,id⟩
  obtain⟨o1,e1,l1⟩:=key _ _ hj'
  obtain⟨o2,e2,l2⟩:=key _ _ hk
  exact h.sep k k' o1 o2 x hjk e1 e2 (l1 lj) (l2 lk) bj bk
end
section
variable {cx:Cx} {s:St} {a:Act} {w:World}
theorem Wk.sealV (i j:Nat) {v vj:Nat} {cs csj:List V} {ds:List D} (hij:i ≠ j) (hi:s.m i=some (.vec v 1 cs)) (hd:dcells s.m cs=some ds) (hi2:ups s.m (Sim.frz s.m cs) i=some (.vec v 1 cs)) (hj:ups s.m (Sim.frz s.m cs) j=some (.box vj csj)) :
  Wk cx s ⟨s.T,up (up (ups s.m (Sim.frz s.m cs)) i (some (.arr (v+1) 1 false (ds.map fun d=>[d])))) j (some (.box vj (csj.map (su i v (.sl 1 (ds.map fun d=>[d]))))))⟩:=by
 rintro a w ⟨hd1,S,hm,hv,hfr,hdef,hsz,hsub,hle⟩
 have hob:=hm.obj i _ hi
 simp only[O.is] at hob
 obtain⟨vs,hvs,_,ha⟩:=hob
 obtain⟨S1,o1⟩:=out_frzs hm cs
 have hc:=dcells_ok (fun b hb=>((o1.keep b hb (hm.lt b hb)).1)) o1.mem hvs hd (fun i v k mu l' hmem hi=>ups_frz_get hi _ _ hmem)
 have hcl:ds.length=cs.length:=by rw[← hc.len,hvs.len]
 have ha2:ArrV w cx.w0.heap.size (fun b=>cx.X b) S1 1 (hd1 i) cs.length vs:=by
  rcases ha with h|⟨g,off,cap,nn,e,h1,h2,h3,h4,h5⟩
  ·exact .inl h
  ·refine .inr ⟨g,off,cap,nn,e,h1,h2,h3,(o1.mem.blk hi2 rfl (b:=g) ?_).2.1,h5⟩
   rw[e]
   obtain⟨c,rfl⟩:∃ c,cap=c+1:=⟨cap-1,by omega⟩
   rfl
 obtain⟨S2,o2,hD⟩:=out_sealV o1.mem hi2 (rows1 hc) (by rw[List.length_map,hcl,Nat.mul_one]) (by omega) ha2
 have hj2:up (ups s.m (Sim.frz s.m cs)) i (some (.arr (v+1) 1 false (ds.map fun d=>[d]))) j=some (.box vj csj):=by rw[up_ne _ _ (Ne.symm hij)];exact hj
 have hbj:=o1.mem.obj j _ hj
 simp only[O.is] at hbj
 obtain⟨bj,vsj,ej,_,_,_,hvsj,h1j,htj,hrj⟩:=hbj
 have ho2:∀ b,S1 b→b<w.heap.size→S2 b∧w.heap[b]?=w.heap[b]?:=o2.keep
 obtain⟨m3,hle3⟩:=mem_box (cs':=csj.map (su i v (.sl 1 (ds.map fun d=>[d])))) o2.mem hj2 ej (sus_ok hi2 o2.le ho2 hD _ _ hvsj) h1j (by rw[List.length_map];exact htj) hrj
 refine⟨hd1,S2,m3,fun t=>VR.keep hle3 (fun _ hb _=>⟨hb,rfl⟩) _ _ (o2.vr (o1.vr (hv t))),hfr,hdef,hsz,fun b hb=>?_,hle.trans (o1.le.trans (o2.le.trans hle3))⟩
 rcases o2.more b hb with h1|h1
 ·exact (o1.more b h1).elim (hsub b) .inr
 ·exact .inr h1
theorem Wk.sealT (i:Nat) {v k:Nat} {cs:List V} {rs:List (List D)} (T':Nat→V) (hi:s.m i=some (.vec v k cs)) (hd:dcells s.m cs=some rs.flatten) (hrl:∀ r ∈ rs,r.length=k) (hk:0<k) (hi2:ups s.m (Sim.frz s.m cs) i=some (.vec v k cs)) (hT:∀ t,T' t=su i v (.sl k rs) (s.T t)) :
  Wk cx s ⟨T',up (ups s.m (Sim.frz s.m cs)) i (some (.arr (v+1) k false rs))⟩:=by
 rintro a w ⟨hd1,S,hm,hv,hfr,hdef,hsz,hsub,hle⟩
 have hob:=hm.obj i _ hi
 simp only[O.is] at hob
 obtain⟨vs,hvs,_,ha⟩:=hob
 obtain⟨S1,o1⟩:=out_frzs hm cs
 have hc:=dcells_ok (fun b hb=>((o1.keep b hb (hm.lt b hb)).1)) o1.mem hvs hd (fun i v k mu l' hmem hi=>ups_frz_get hi _ _ hmem)
 have hcl:rs.flatten.length=cs.length:=by rw[← hc.len,hvs.len]
 have ha2:ArrV w cx.w0.heap.size (fun b=>cx.X b) S1 k (hd1 i) cs.length vs:=by
  rcases ha with h|⟨g,off,cap,nn,e,h1,h2,h3,h4,h5⟩
  ·exact .inl h
  ·refine .inr ⟨g,off,cap,nn,e,h1,h2,h3,(o1.mem.blk hi2 rfl (b:=g) ?_).2.1,h5⟩
   rw[e]
   obtain⟨c,rfl⟩:∃ c,cap=c+1:=⟨cap-1,by omega⟩
   rfl
 obtain⟨S2,o2,hD⟩:=out_sealV o1.mem hi2 (rows_flat hrl hc) (by rw[← hcl,flat_len hrl]) hk ha2
 have ho2:∀ b,S1 b→b<w.heap.size→S2 b∧w.heap[b]?=w.heap[b]?:=o2.keep
 refine⟨hd1,S2,o2.mem,fun t=>?_,hfr,hdef,hsz,fun b hb=>?_,hle.trans (o1.le.trans o2.le)⟩
 ·show VR _ _ _ _ (T' t) _
  rw[hT t]
  exact su_ok hi2 o2.le ho2 hD _ _ (o1.vr (hv t))
 ·rcases o2.more b hb with h1|h1
  ·exact (o1.more b h1).elim (hsub b) .inr
  ·exact .inr h1
theorem Awp.endWk {P:Program} {Q:Exit→St→Prop} {c:AC} (h:Awp P cx c (fun e s=>∃ s2,Wk cx s s2∧Q e s2) s):Awp P cx c Q s:=by
 intro code hc a w hR b k cs
 obtain⟨e,a',w',⟨s',⟨s2,h1,h2⟩,hR'⟩,harr⟩:=h code hc a w hR b k cs
 exact⟨e,a',w',⟨s2,h2,h1 _ _ hR'⟩,harr⟩
end
end Go.Proofs.YticdbambknflgaaGreat.Sim
end
