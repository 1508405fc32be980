/- From a function's body to what a call does: of no program. Conditions: none. -/
import Derived.Test.YticdbambknflgaaGreatMSimP
section
namespace Go.Proofs.YticdbambknflgaaGreat.Sim
open Go Go.RowKit Go.Deep
set_option linter.unusedVariables false
def tl:List (Nat × V)→Nat→V
 |[]=>fun _=>.un
 |(i,v) :: r=>up (tl r) i v
/-! ### A state that says less -/
mutual
def W (m m0:M) (ad:List Nat):V→V→Prop
 |_,.un=>True
 |.d x,.d y=>x=y
 |.nl _,.nl _=>True
 |.nl _,.d y=>∃ k,y=.sl k []
 |.nl _,.og i v=>i ∈ ad∧v=0
 |.z0,.z0=>True
 |.ub,.ub=>True
 |.og i v,.og j u=>i=j∧v=u∧i ∉ ad∧(m0 i).isSome=true
 |.og i v,.d y=>∃ k l,m i=some (.arr v k false l)∧y=.sl k l
 |.bp i v o,.bp j u q=>i=j∧v=u∧o=q∧i ∉ ad∧(m0 i).isSome=true
 |.ep i v e o,.ep j u e' q=>i=j∧v=u∧e=e'∧o=q∧i ∉ ad∧(m0 i).isSome=true
 |.fp cs o,.fp cs' q=>cs=cs'∧o=q
 |.cl f l,.cl g l'=>f=g∧Ws m m0 ad l l'
 |.ag l,.ag l'=>Ws m m0 ad l l'
 |.tu l,.tu l'=>Ws m m0 ad l l'
 |.vg i v,.vg j u=>i=j∧v=u∧i ∉ ad∧(m0 i).isSome=true
 |.vp i v e,.vp j u e'=>i=j∧v=u∧e=e'∧i ∉ ad∧(m0 i).isSome=true
 |.ot i v e,.ot j u e'=>i=j∧v=u∧e=e'∧i ∉ ad∧(m0 i).isSome=true
 |.mh i v,.mh j u=>i=j∧v=u∧i ∉ ad∧(m0 i).isSome=true
 |_,_=>False
def Ws (m m0:M) (ad:List Nat):List V→List V→Prop
 |[],[]=>True
 |x :: l,y :: l'=>W m m0 ad x y∧Ws m m0 ad l l'
 |_,_=>False
end
section
variable {m m0:M} {hd hd0:H} {w:World} {S X:Nat→Prop} {B:Nat} {ad:List Nat}
mutual
theorem W_ok (hm:Mem m hd w S X B) (h0:∀ i o,i ∉ ad→m0 i=some o→∃ o',m i=some o'∧o'.ver=o.ver∧o'.kind=o.kind) (hh:∀ i,i ∉ ad→hd0 i=hd i) (ha:∀ i,i ∈ ad→hd0 i=.slice none 0 0∧∃ k mu l,m0 i=some (.arr 0 k mu l)) :
  ∀ (x y:V) (u:Value),W m m0 ad x y→VR m hd w S x u→VR m0 hd0 w S y u
 |x,.un,u,_,_=>by simp only[VR]
 |.d x,.d y,u,h,hv=>by simp only[W] at h;subst h;simp only[VR] at hv ⊢;exact hv
 |.nl _,.nl _,u,h,hv=>by simp only[VR] at hv ⊢;exact hv
 |.nl _,.d y,u,h,hv=>by
  simp only[W] at h
  obtain⟨k,rfl⟩:=h
  simp only[VR] at hv ⊢
  subst hv
  simp only[D.is]
  exact⟨none,0,[],rfl,Nat.le_refl _,Nat.zero_le _,by simp [Rows],fun h=>absurd h (by simp)⟩
 |.nl _,.og i v,u,h,hv=>by
  simp only[W] at h
  obtain⟨h1,rfl⟩:=h
  obtain⟨h2,k,mu,l,h3⟩:=ha i h1
  simp only[VR] at hv ⊢
  subst hv
  exact⟨rfl,_,h3,Nat.le_refl _,fun _ _ _ _=>h2.symm⟩
 |.z0,.z0,u,h,hv=>by simp only[VR] at hv ⊢;exact hv
 |.ub,.ub,u,h,hv=>by simp only[VR] at hv ⊢;exact hv
 |.og i v,.og j v',u,h,hv=>by
  simp only[W] at h
  obtain⟨rfl,rfl,h1,h2⟩:=h
  obtain⟨o,ho⟩:=Option.isSome_iff_exists.1 h2
  obtain⟨o',k1,k2,k3⟩:=h0 i o h1 ho
  simp only[VR] at hv ⊢
  obtain⟨g0,y,g1,g2,g3⟩:=hv
  rw[k1] at g1
  cases g1
  refine⟨g0,o,ho,by omega,fun k mu l e=>?_⟩
  subst e
  rw[hh i h1]
  cases o' with
  |box v' cs=>simp [O.kind] at k3
  |vec v' kk cs=>simp [O.kind] at k3
  |mp v' ks=>simp [O.kind] at k3
  |arr v' k' mu' l'=>simp only[O.ver] at k2 g2;subst k2;exact g3 k' mu' l' (by rfl)
 |.og i v,.d y,u,h,hv=>by
  simp only[W] at h
  obtain⟨k,l,h1,rfl⟩:=h
  have h2:=hm.obj i _ h1
  simp only[O.is,Bool.false_eq_true,if_false] at h2
  have:=og_ok hv h1
  subst this
  simp only[VR]
  exact h2
 |.bp i v q,.bp j v' q',u,h,hv=>by
  simp only[W] at h
  obtain⟨rfl,rfl,rfl,h1,h2⟩:=h
  obtain⟨o,ho⟩:=Option.isSome_iff_exists.1 h2
  obtain⟨o',k1,k2,k3⟩:=h0 i o h1 ho
  simp only[VR] at hv ⊢
  obtain⟨g0,y,g1,g2,g3⟩:=hv
  rw[k1] at g1
  cases g1
  refine⟨g0,o,ho,by omega,fun cs e=>?_⟩
  subst e
  rw[hh i h1]
  cases o' with
  |arr v' k' mu' l'=>simp [O.kind] at k3
  |vec v' kk cs'=>simp [O.kind] at k3
  |mp v' ks'=>simp [O.kind] at k3
  |box v' cs'=>simp only[O.ver] at k2 g2;subst k2;exact g3 cs' (by rfl)
 |.ep i v e q,.ep j v' e' q',u,h,hv=>by
  simp only[W] at h
  obtain⟨rfl,rfl,rfl,rfl,h1,h2⟩:=h
  obtain⟨o,ho⟩:=Option.isSome_iff_exists.1 h2
  obtain⟨o',k1,k2,k3⟩:=h0 i o h1 ho
  simp only[VR] at hv ⊢
  obtain⟨g0,y,g1,g2,g3⟩:=hv
  rw[k1] at g1
  cases g1
  refine⟨g0,o,ho,by omega,fun k mu l e=>?_,fun cs e=>?_⟩
  ·subst e
   rw[hh i h1]
   cases o' with
   |box v' cs=>simp [O.kind] at k3
   |vec v' kk cs=>simp [O.kind] at k3
   |mp v' ks=>simp [O.kind] at k3
   |arr v' k' mu' l' =>
    simp only[O.ver] at k2 g2
    simp only[O.kind,Option.some.injEq,Nat.add_right_cancel_iff] at k3
    subst k2
    subst k3
    exact g3.1 k' mu' l' (by rfl)
  ·subst e
   rw[hh i h1]
   cases o' with
   |arr v' k' mu' l'=>simp [O.kind] at k3
   |vec v' kk cs'=>simp [O.kind] at k3
   |mp v' ks'=>simp [O.kind] at k3
   |box v' cs'=>simp only[O.ver] at k2 g2;subst k2;exact g3.2 cs' (by rfl)
 |.fp cs q,.fp cs' q',u,h,hv=>by
  simp only[W] at h
  obtain⟨rfl,rfl⟩:=h
  simp only[VR] at hv ⊢
  exact hv
 |.cl f l,.cl g l',u,h,hv=>by
  simp only[W] at h
  obtain⟨rfl,h⟩:=h
  simp only[VR] at hv ⊢
  obtain⟨vs,e,h1⟩:=hv
  exact⟨vs,e,Ws_ok hm h0 hh ha l l' vs h h1⟩
 |.ag l,.ag l',u,h,hv=>by
  simp only[W] at h
  simp only[VR] at hv ⊢
  obtain⟨vs,e,h1,h2⟩:=hv
  exact⟨vs,e,Ws_ok hm h0 hh ha l l' vs h h1,h2⟩
 |.tu l,.tu l',u,h,hv=>by
  simp only[W] at h
  simp only[VR] at hv ⊢
  obtain⟨vs,e,h1⟩:=hv
  exact⟨vs,e,Ws_ok hm h0 hh ha l l' vs h h1⟩
 |.vg i v,.vg j v',u,h,hv=>by
  simp only[W] at h
  obtain⟨rfl,rfl,h1,h2⟩:=h
  obtain⟨o,ho⟩:=Option.isSome_iff_exists.1 h2
  obtain⟨o',k1,k2,k3⟩:=h0 i o h1 ho
  simp only[VR] at hv ⊢
  obtain⟨g0,y,g1,g2,g3⟩:=hv
  rw[k1] at g1
  cases g1
  refine⟨g0,o,ho,by omega,fun kq cs e=>?_⟩
  subst e
  rw[hh i h1]
  cases o' with
  |arr v' k' mu' l'=>simp [O.kind] at k3
  |box v' cs'=>simp [O.kind] at k3
  |mp v' ks'=>simp [O.kind] at k3
  |vec v' kk cs'=>simp only[O.ver] at k2 g2;subst k2;exact g3 kk cs' (by rfl)
 |.vp i v e0,.vp j v' e1,u,h,hv=>by
  simp only[W] at h
  obtain⟨rfl,rfl,rfl,h1,h2⟩:=h
  obtain⟨o,ho⟩:=Option.isSome_iff_exists.1 h2
  obtain⟨o',k1,k2,k3⟩:=h0 i o h1 ho
  simp only[VR] at hv ⊢
  obtain⟨g0,y,g1,g2,g3⟩:=hv
  rw[k1] at g1
  cases g1
  refine⟨g0,o,ho,by omega,fun kq cs e=>?_⟩
  subst e
  rw[hh i h1]
  cases o' with
  |arr v' k' mu' l'=>simp [O.kind] at k3
  |box v' cs'=>simp [O.kind] at k3
  |mp v' ks'=>simp [O.kind] at k3
  |vec v' kk cs'=>simp only[O.ver] at k2 g2;subst k2;exact g3 kk cs' (by rfl)
 |.ot i v e0,.ot j v' e1,u,h,hv=>by
  simp only[W] at h
  obtain⟨rfl,rfl,rfl,h1,h2⟩:=h
  obtain⟨o,ho⟩:=Option.isSome_iff_exists.1 h2
  obtain⟨o',k1,k2,k3⟩:=h0 i o h1 ho
  simp only[VR] at hv ⊢
  obtain⟨g0,y,g1,g2,g3⟩:=hv
  rw[k1] at g1
  cases g1
  refine⟨g0,o,ho,by omega,fun k mu l e=>?_⟩
  subst e
  rw[hh i h1]
  cases o' with
  |box v' cs'=>simp [O.kind] at k3
  |vec v' kk cs'=>simp [O.kind] at k3
  |mp v' ks'=>simp [O.kind] at k3
  |arr v' k' mu' l'=>simp only[O.ver] at k2 g2;simp only[O.kind,Option.some.injEq,Nat.add_right_cancel_iff] at k3;subst k2;subst k3;exact g3 k' mu' l' (by rfl)
 |.mh i v,.mh j v',u,h,hv=>by
  simp only[W] at h
  obtain⟨rfl,rfl,h1,h2⟩:=h
  obtain⟨o,ho⟩:=Option.isSome_iff_exists.1 h2
  obtain⟨o',k1,k2,k3⟩:=h0 i o h1 ho
  simp only[VR] at hv ⊢
  obtain⟨g0,y,g1,g2,g3⟩:=hv
  rw[k1] at g1
  cases g1
  refine⟨g0,o,ho,by omega,fun ks e=>?_⟩
  subst e
  rw[hh i h1]
  cases o' with
  |arr v' k' mu' l'=>simp [O.kind] at k3
  |box v' cs'=>simp [O.kind] at k3
  |vec v' kk cs'=>simp [O.kind] at k3
  |mp v' ks'=>simp only[O.ver] at k2 g2;subst k2;exact g3 ks' (by rfl)
 |.un,.ub,u,h,_|.un,.d _,u,h,_|.un,.nl _,u,h,_|.un,.z0,u,h,_|.un,.og _ _,u,h,_|.un,.bp _ _ _,u,h,_|.un,.ep _ _ _ _,u,h,_|.un,.fp _ _,u,h,_|.un,.cl _ _,u,h,_|.un,.ag _,u,h,_|.un,.tu _,u,h,_|.un,.vg _ _,u,h,_|.un,.vp _ _ _,u,h,_|.un,.ot _ _ _,u,h,_|.un,.mh _ _,u,h,_|.un,.fx _ _,u,h,_=>by simp [W] at h
 |.ub,.d _,u,h,_|.ub,.nl _,u,h,_|.ub,.z0,u,h,_|.ub,.og _ _,u,h,_|.ub,.bp _ _ _,u,h,_|.ub,.ep _ _ _ _,u,h,_|.ub,.fp _ _,u,h,_|.ub,.cl _ _,u,h,_|.ub,.ag _,u,h,_|.ub,.tu _,u,h,_|.ub,.vg _ _,u,h,_|.ub,.vp _ _ _,u,h,_|.ub,.ot _ _ _,u,h,_|.ub,.mh _ _,u,h,_|.ub,.fx _ _,u,h,_=>by simp [W] at h
 |.d _,.ub,u,h,_|.d _,.nl _,u,h,_|.d _,.z0,u,h,_|.d _,.og _ _,u,h,_|.d _,.bp _ _ _,u,h,_|.d _,.ep _ _ _ _,u,h,_|.d _,.fp _ _,u,h,_|.d _,.cl _ _,u,h,_|.d _,.ag _,u,h,_|.d _,.tu _,u,h,_|.d _,.vg _ _,u,h,_|.d _,.vp _ _ _,u,h,_|.d _,.ot _ _ _,u,h,_|.d _,.mh _ _,u,h,_|.d _,.fx _ _,u,h,_=>by simp [W] at h
 |.nl _,.ub,u,h,_|.nl _,.z0,u,h,_|.nl _,.bp _ _ _,u,h,_|.nl _,.ep _ _ _ _,u,h,_|.nl _,.fp _ _,u,h,_|.nl _,.cl _ _,u,h,_|.nl _,.ag _,u,h,_|.nl _,.tu _,u,h,_|.nl _,.vg _ _,u,h,_|.nl _,.vp _ _ _,u,h,_|.nl _,.ot _ _ _,u,h,_|.nl _,.mh _ _,u,h,_|.nl _,.fx _ _,u,h,_=>by simp [W] at h
 |.z0,.ub,u,h,_|.z0,.d _,u,h,_|.z0,.nl _,u,h,_|.z0,.og _ _,u,h,_|.z0,.bp _ _ _,u,h,_|.z0,.ep _ _ _ _,u,h,_|.z0,.fp _ _,u,h,_|.z0,.cl _ _,u,h,_|.z0,.ag _,u,h,_|.z0,.tu _,u,h,_|.z0,.vg _ _,u,h,_|.z0,.vp _ _ _,u,h,_|.z0,.ot _ _ _,u,h,_|.z0,.mh _ _,u,h,_|.z0,.fx _ _,u,h,_=>by simp [W] at h
 |.og _ _,.ub,u,h,_|.og _ _,.nl _,u,h,_|.og _ _,.z0,u,h,_|.og _ _,.bp _ _ _,u,h,_|.og _ _,.ep _ _ _ _,u,h,_|.og _ _,.fp _ _,u,h,_|.og _ _,.cl _ _,u,h,_|.og _ _,.ag _,u,h,_|.og _ _,.tu _,u,h,_|.og _ _,.vg _ _,u,h,_|.og _ _,.vp _ _ _,u,h,_|.og _ _,.ot _ _ _,u,h,_|.og _ _,.mh _ _,u,h,_|.og _ _,.fx _ _,u,h,_=>by simp [W] at h
 |.bp _ _ _,.ub,u,h,_|.bp _ _ _,.d _,u,h,_|.bp _ _ _,.nl _,u,h,_|.bp _ _ _,.z0,u,h,_|.bp _ _ _,.og _ _,u,h,_|.bp _ _ _,.ep _ _ _ _,u,h,_|.bp _ _ _,.fp _ _,u,h,_|.bp _ _ _,.cl _ _,u,h,_|.bp _ _ _,.ag _,u,h,_|.bp _ _ _,.tu _,u,h,_|.bp _ _ _,.vg _ _,u,h,_|.bp _ _ _,.vp _ _ _,u,h,_|.bp _ _ _,.ot _ _ _,u,h,_|.bp _ _ _,.mh _ _,u,h,_|.bp _ _ _,.fx _ _,u,h,_=>by simp [W] at h
 |.ep _ _ _ _,.ub,u,h,_|.ep _ _ _ _,.d _,u,h,_|.ep _ _ _ _,.nl _,u,h,_|.ep _ _ _ _,.z0,u,h,_|.ep _ _ _ _,.og _ _,u,h,_|.ep _ _ _ _,.bp _ _ _,u,h,_|.ep _ _ _ _,.fp _ _,u,h,_|.ep _ _ _ _,.cl _ _,u,h,_|.ep _ _ _ _,.ag _,u,h,_|.ep _ _ _ _,.tu _,u,h,_|.ep _ _ _ _,.vg _ _,u,h,_|.ep _ _ _ _,.vp _ _ _,u,h,_|.ep _ _ _ _,.ot _ _ _,u,h,_|.ep _ _ _ _,.mh _ _,u,h,_|.ep _ _ _ _,.fx _ _,u,h,_=>by simp [W] at h
 |.fp _ _,.ub,u,h,_|.fp _ _,.d _,u,h,_|.fp _ _,.nl _,u,h,_|.fp _ _,.z0,u,h,_|.fp _ _,.og _ _,u,h,_|.fp _ _,.bp _ _ _,u,h,_|.fp _ _,.ep _ _ _ _,u,h,_|.fp _ _,.cl _ _,u,h,_|.fp _ _,.ag _,u,h,_|.fp _ _,.tu _,u,h,_|.fp _ _,.vg _ _,u,h,_|.fp _ _,.vp _ _ _,u,h,_|.fp _ _,.ot _ _ _,u,h,_|.fp _ _,.mh _ _,u,h,_|.fp _ _,.fx _ _,u,h,_=>by simp [W] at h
 |.cl _ _,.ub,u,h,_|.cl _ _,.d _,u,h,_|.cl _ _,.nl _,u,h,_|.cl _ _,.z0,u,h,_|.cl _ _,.og _ _,u,h,_|.cl _ _,.bp _ _ _,u,h,_|.cl _ _,.ep _ _ _ _,u,h,_|.cl _ _,.fp _ _,u,h,_|.cl _ _,.ag _,u,h,_|.cl _ _,.tu _,u,h,_|.cl _ _,.vg _ _,u,h,_|.cl _ _,.vp _ _ _,u,h,_|.cl _ _,.ot _ _ _,u,h,_|.cl _ _,.mh _ _,u,h,_|.cl _ _,.fx _ _,u,h,_=>by simp [W] at h
 |.ag _,.ub,u,h,_|.ag _,.d _,u,h,_|.ag _,.nl _,u,h,_|.ag _,.z0,u,h,_|.ag _,.og _ _,u,h,_|.ag _,.bp _ _ _,u,h,_|.ag _,.ep _ _ _ _,u,h,_|.ag _,.fp _ _,u,h,_|.ag _,.cl _ _,u,h,_|.ag _,.tu _,u,h,_|.ag _,.vg _ _,u,h,_|.ag _,.vp _ _ _,u,h,_|.ag _,.ot _ _ _,u,h,_|.ag _,.mh _ _,u,h,_|.ag _,.fx _ _,u,h,_=>by simp [W] at h
 |.tu _,.ub,u,h,_|.tu _,.d _,u,h,_|.tu _,.nl _,u,h,_|.tu _,.z0,u,h,_|.tu _,.og _ _,u,h,_|.tu _,.bp _ _ _,u,h,_|.tu _,.ep _ _ _ _,u,h,_|.tu _,.fp _ _,u,h,_|.tu _,.cl _ _,u,h,_|.tu _,.ag _,u,h,_|.tu _,.vg _ _,u,h,_|.tu _,.vp _ _ _,u,h,_|.tu _,.ot _ _ _,u,h,_|.tu _,.mh _ _,u,h,_|.tu _,.fx _ _,u,h,_=>by simp [W] at h
 |.vg _ _,.ub,u,h,_|.vg _ _,.d _,u,h,_|.vg _ _,.nl _,u,h,_|.vg _ _,.z0,u,h,_|.vg _ _,.og _ _,u,h,_|.vg _ _,.bp _ _ _,u,h,_|.vg _ _,.ep _ _ _ _,u,h,_|.vg _ _,.fp _ _,u,h,_|.vg _ _,.cl _ _,u,h,_|.vg _ _,.ag _,u,h,_|.vg _ _,.tu _,u,h,_|.vg _ _,.vp _ _ _,u,h,_|.vg _ _,.ot _ _ _,u,h,_|.vg _ _,.mh _ _,u,h,_|.vg _ _,.fx _ _,u,h,_=>by simp [W] at h
 |.vp _ _ _,.ub,u,h,_|.vp _ _ _,.d _,u,h,_|.vp _ _ _,.nl _,u,h,_|.vp _ _ _,.z0,u,h,_|.vp _ _ _,.og _ _,u,h,_|.vp _ _ _,.bp _ _ _,u,h,_|.vp _ _ _,.ep _ _ _ _,u,h,_|.vp _ _ _,.fp _ _,u,h,_|.vp _ _ _,.cl _ _,u,h,_|.vp _ _ _,.ag _,u,h,_|.vp _ _ _,.tu _,u,h,_|.vp _ _ _,.vg _ _,u,h,_|.vp _ _ _,.ot _ _ _,u,h,_|.vp _ _ _,.mh _ _,u,h,_|.vp _ _ _,.fx _ _,u,h,_=>by simp [W] at h
 |.ot _ _ _,.ub,u,h,_|.ot _ _ _,.d _,u,h,_|.ot _ _ _,.nl _,u,h,_|.ot _ _ _,.z0,u,h,_|.ot _ _ _,.og _ _,u,h,_|.ot _ _ _,.bp _ _ _,u,h,_|.ot _ _ _,.ep _ _ _ _,u,h,_|.ot _ _ _,.fp _ _,u,h,_|.ot _ _ _,.cl _ _,u,h,_|.ot _ _ _,.ag _,u,h,_|.ot _ _ _,.tu _,u,h,_|.ot _ _ _,.vg _ _,u,h,_|.ot _ _ _,.vp _ _ _,u,h,_|.ot _ _ _,.mh _ _,u,h,_|.ot _ _ _,.fx _ _,u,h,_=>by simp [W] at h
 |.mh _ _,.ub,u,h,_|.mh _ _,.d _,u,h,_|.mh _ _,.nl _,u,h,_|.mh _ _,.z0,u,h,_|.mh _ _,.og _ _,u,h,_|.mh _ _,.bp _ _ _,u,h,_|.mh _ _,.ep _ _ _ _,u,h,_|.mh _ _,.fp _ _,u,h,_|.mh _ _,.cl _ _,u,h,_|.mh _ _,.ag _,u,h,_|.mh _ _,.tu _,u,h,_|.mh _ _,.vg _ _,u,h,_|.mh _ _,.vp _ _ _,u,h,_|.mh _ _,.ot _ _ _,u,h,_|.mh _ _,.fx _ _,u,h,_=>by simp [W] at h
 |.fx _ _,.ub,u,h,_|.fx _ _,.d _,u,h,_|.fx _ _,.nl _,u,h,_|.fx _ _,.z0,u,h,_|.fx _ _,.og _ _,u,h,_|.fx _ _,.bp _ _ _,u,h,_|.fx _ _,.ep _ _ _ _,u,h,_|.fx _ _,.fp _ _,u,h,_|.fx _ _,.cl _ _,u,h,_|.fx _ _,.ag _,u,h,_|.fx _ _,.tu _,u,h,_|.fx _ _,.vg _ _,u,h,_|.fx _ _,.vp _ _ _,u,h,_|.fx _ _,.ot _ _ _,u,h,_|.fx _ _,.mh _ _,u,h,_|.fx _ _,.fx _ _,u,h,_=>by simp [W] at h
theorem Ws_ok (hm:Mem m hd w S X B) (h0:∀ i o,i ∉ ad→m0 i=some o→∃ o',m i=some o'∧o'.ver=o.ver∧o'.kind=o.kind) (hh:∀ i,i ∉ ad→hd0 i=hd i) (ha:∀ i,i ∈ ad→hd0 i=.slice none 0 0∧∃ k mu l,m0 i=some (.arr 0 k mu l)) :
  ∀ (l l':List V) (us:List Value),Ws m m0 ad l l'→VRs m hd w S l us→VRs m0 hd0 w S l' us
 |[],[],us,_,h=>by simp only[VRs] at h ⊢;exact h
 |x :: l,y :: l',us,h,hv=>by
  simp only[Ws] at h
  simp only[VRs] at hv ⊢
  obtain⟨u,r,e,h1,h2⟩:=hv
  exact⟨u,r,e,W_ok hm h0 hh ha x y u h.1 h1,Ws_ok hm h0 hh ha l l' r h.2 h2⟩
 |[],_ :: _,us,h,_=>by simp [Ws] at h
 |_ :: _,[],us,h,_=>by simp [Ws] at h
end
end
end Go.Proofs.YticdbambknflgaaGreat.Sim
end
section
namespace Go.Proofs.YticdbambknflgaaGreat.Sim
open Go Go.RowKit Go.Deep
set_option linter.unusedVariables false
def TW (m m0:M) (ad:List Nat) (T:Nat→V):List (Nat × V)→Prop
 |[]=>True
 |(t,v) :: r=>W m m0 ad (T t) v∧TW m m0 ad T r
def MW (m m0:M) (ad:List Nat):U→Prop
 |[]=>True
 |(i,.box v cs0) :: r=>(ad.contains i=false∧∃ cs,m i=some (.box v cs)∧Ws m m0 ad cs cs0)∧MW m m0 ad r
 |(i,.arr v k mu l) :: r=>(if ad.contains i=true then v=0∧mu=true∧l=[] else m i=some (.arr v k mu l))∧MW m m0 ad r
 |(i,.vec v k cs0) :: r=>(ad.contains i=false∧∃ cs,m i=some (.vec v k cs)∧Ws m m0 ad cs cs0)∧MW m m0 ad r
 |(i,.mp v ks) :: r=>(ad.contains i=false∧m i=some (.mp v ks))∧MW m m0 ad r
def MO (m m0:M) (ad:List Nat) (i:Nat):O→Prop
 |.box v cs0=>ad.contains i=false∧∃ cs,m i=some (.box v cs)∧Ws m m0 ad cs cs0
 |.arr v k mu l=>if ad.contains i=true then v=0∧mu=true∧l=[] else m i=some (.arr v k mu l)
 |.vec v k cs0=>ad.contains i=false∧∃ cs,m i=some (.vec v k cs)∧Ws m m0 ad cs cs0
 |.mp v ks=>ad.contains i=false∧m i=some (.mp v ks)
def adOK (m0:M):List Nat→Prop
 |[]=>True
 |i :: r=>(∃ k mu l,m0 i=some (.arr 0 k mu l))∧adOK m0 r
def parOK (m0:M) (ad:List Nat):U→Prop
 |[]=>True
 |(i,_) :: r=>(ad.contains i=false∧(m0 i).isSome=true)∧parOK m0 ad r
section
variable {m m0:M} {ad:List Nat}
theorem TW_ok {T:Nat→V}:∀ {l:List (Nat × V)},TW m m0 ad T l→∀ t,W m m0 ad (T t) (tl l t)
 |[],_,t=>by simp only[tl];cases T t <;> simp only[W]
 |(i,v) :: r,h,t=>by
  simp only[TW] at h
  simp only[tl,up]
  split
  ·rename_i e;rw[e];exact h.1
  ·exact TW_ok h.2 t
theorem MW_ok:∀ {us:U},MW m m0 ad us→∀ x ∈ us,MO m m0 ad x.1 x.2
 |[],_,x,hx=>by cases hx
 |(i,o) :: r,h,x,hx=>by
  have h':MO m m0 ad i o∧MW m m0 ad r:=by cases o <;> exact h
  rcases List.mem_cons.1 hx with rfl|hx
  ·exact h'.1
  ·exact MW_ok h'.2 x hx
theorem adOK_ok:∀ {l:List Nat},adOK m0 l→∀ i ∈ l,∃ k mu l,m0 i=some (.arr 0 k mu l)
 |[],_,i,hi=>by cases hi
 |j :: r,h,i,hi=>by
  simp only[adOK] at h
  rcases List.mem_cons.1 hi with rfl|hi
  ·exact h.1
  ·exact adOK_ok h.2 i hi
theorem parOK_ok:∀ {us:U},parOK m0 ad us→∀ x ∈ us,ad.contains x.1=false∧(m0 x.1).isSome=true
 |[],_,i,hi=>by cases hi
 |(j,o) :: r,h,i,hi=>by
  simp only[parOK] at h
  rcases List.mem_cons.1 hi with rfl|hi
  ·exact h.1
  ·exact parOK_ok h.2 i hi
theorem Ws_len {m m0:M} {ad:List Nat}:∀ {l l':List V},Ws m m0 ad l l'→l'.length=l.length
 |[],[],_=>rfl
 |_ :: l,_ :: l',h=>by simp only[Ws] at h;simp [Ws_len h.2]
 |[],_ :: _,h=>by simp [Ws] at h
 |_ :: _,[],h=>by simp [Ws] at h
end
section
variable {P:Program} {cx:Cx} {s:St} {a:Act} {w:World}
theorem Rel.weakenG (h:Rel cx s a w) (ad:List Nat) (T0:Nat→V) (m0:M) (hT:∀ t,W s.m m0 ad (s.T t) (T0 t)) (hM:∀ i o,m0 i=some o→MO s.m m0 ad i o) (hA:∀ i ∈ ad,∃ k mu l,m0 i=some (.arr 0 k mu l)) (hP:∀ i o,cx.m0 i=some o→ad.contains i=false∧(m0 i).isSome=true):Rel cx ⟨T0,m0⟩ a w:=by
 obtain⟨hd,S,hm,hv,hfr,hdef,hsz,hsub,hle⟩:=h
 let hd0:H:=fun i=>if ad.contains i=true then .slice none 0 0 else hd i
 have hc:∀ i,i ∈ ad↔ad.contains i=true:=fun i=>by simp
 have hcn:∀ i,ad.contains i=false→i ∉ ad:=fun i h hi=>by rw[(hc i).1 hi] at h;cases h
 have h0:∀ i o,i ∉ ad→m0 i=some o→∃ o',s.m i=some o'∧o'.ver=o.ver∧o'.kind=o.kind:=by
  intro i o hi ho
  have hM1:=hM i o ho
  cases o with
  |box v cs0=>obtain⟨_,cs,h2,_⟩:=hM1;exact⟨_,h2,rfl,rfl⟩
  |vec v kk cs0=>obtain⟨_,cs,h2,_⟩:=hM1;exact⟨_,h2,rfl,rfl⟩
  |mp v ks=>exact⟨_,hM1.2,rfl,rfl⟩
  |arr v k mu l =>
   simp only[MO] at hM1
   rw[if_neg (fun h=>hi ((hc _).2 h))] at hM1
   exact⟨_,hM1,rfl,rfl⟩
 have hh:∀ i,i ∉ ad→hd0 i=hd i:=fun i hi=>if_neg (fun h=>hi ((hc i).2 h))
 have ha:∀ i,i ∈ ad→hd0 i=.slice none 0 0∧∃ k mu l,m0 i=some (.arr 0 k mu l):=fun i hi=>⟨if_pos ((hc i).1 hi),hA i hi⟩
 have hobj:∀ i o,m0 i=some o→o.is m0 hd0 w S cx.X cx.w0.heap.size (hd0 i):=by
  intro i o ho
  have hM1:=hM i o ho
  cases o with
  |box v cs0 =>
   obtain⟨h1,cs,h2,h3⟩:=hM1
   have hob:=hm.obj i _ h2
   rw[hh i (hcn i h1)]
   simp only[O.is] at hob ⊢
   obtain⟨b,vs,e,g1,g2,g3,g4,g5,g6,g7⟩:=hob
   exact⟨b,vs,e,g1,g2,g3,Ws_ok hm h0 hh ha _ _ _ h3 g4,g5,by rw[Ws_len h3];exact g6,g7⟩
  |vec v kk cs0 =>
   obtain⟨h1,cs,h2,h3⟩:=hM1
   have hob:=hm.obj i _ h2
   rw[hh i (hcn i h1)]
   simp only[O.is] at hob ⊢
   obtain⟨vs,g4,g5,g6⟩:=hob
   exact⟨vs,Ws_ok hm h0 hh ha _ _ _ h3 g4,g5,by rw[Ws_len h3];exact g6⟩
  |mp v ks =>
   have hob:=hm.obj i _ hM1.2
   rw[hh i (hcn i hM1.1)]
   simp only[O.is] at hob ⊢
   exact hob
  |arr v k mu l =>
   simp only[MO] at hM1
   by_cases hi:i ∈ ad
   ·rw[if_pos ((hc i).1 hi)] at hM1
    obtain⟨rfl,rfl,rfl⟩:=hM1
    rw[(ha i hi).1]
    simp only[O.is,if_true]
    exact⟨[],by simp [Rows],.inl ⟨none,rfl,rfl⟩⟩
   ·rw[if_neg (fun h=>hi ((hc i).2 h))] at hM1
    rw[hh i hi]
    have hob:=hm.obj i _ hM1
    simp only[O.is] at hob ⊢
    exact hob
 have hback:∀ i o,m0 i=some o→o.live=true→∀ b,blk (hd0 i)=some b→i ∉ ad∧∃ o',s.m i=some o'∧o'.live=true∧blk (hd i)=some b:=by
  intro i o ho hl b hb
  have hi:i ∉ ad:=fun h=>by rw[(ha i h).1] at hb;simp [blk] at hb
  rw[hh i hi] at hb
  refine⟨hi,?_⟩
  have hM1:=hM i o ho
  cases o with
  |box v cs0=>obtain⟨_,cs,h2,_⟩:=hM1;exact⟨_,h2,rfl,hb⟩
  |vec v kk cs0=>obtain⟨_,cs,h2,_⟩:=hM1;exact⟨_,h2,rfl,hb⟩
  |mp v ks=>exact⟨_,hM1.2,rfl,hb⟩
  |arr v k mu l =>
   simp only[MO] at hM1
   rw[if_neg (fun h=>hi ((hc _).2 h))] at hM1
   exact⟨_,hM1,hl,hb⟩
 refine⟨hd0,S,⟨hobj,?_,hm.lt,hm.base,hm.sX⟩,fun t=>W_ok hm h0 hh ha _ _ _ (hT t) (hv t),hfr,hdef,hsz,hsub,⟨fun i o ho=>?_⟩⟩
 ·intro i j oi oj b hne hi hj li lj bi bj
  obtain⟨_,o1,e1,l1,b1⟩:=hback i oi hi li b bi
  obtain⟨_,o2,e2,l2,b2⟩:=hback j oj hj lj b bj
  exact hm.sep i j o1 o2 b hne e1 e2 l1 l2 b1 b2
 ·obtain⟨o1,h1,h2,h3⟩:=hle.le i o ho
  obtain⟨p1,p2⟩:=hP i o ho
  have hi:i ∉ ad:=hcn i p1
  obtain⟨o2,p3⟩:=Option.isSome_iff_exists.1 p2
  obtain⟨o3,p4,p5,p6⟩:=h0 i o2 hi p3
  rw[h1] at p4
  cases p4
  refine⟨o2,p3,by omega,fun e=>?_⟩
  obtain⟨q1,q2⟩:=h3 (by omega)
  exact⟨(hh i hi).trans q1,by rw[← p6];exact q2⟩
theorem Rel.weaken (h:Rel cx s a w) (ad:List Nat) (T0:List (Nat × V)) (ml bx:U) (hx:cx.m0=ups M0 bx) (hT:TW s.m (ups M0 ml) ad s.T T0) (hM:MW s.m (ups M0 ml) ad ml) (hA:adOK (ups M0 ml) ad) (hP:parOK (ups M0 ml) ad bx):Rel cx ⟨tl T0,ups M0 ml⟩ a w:=by
 have hget:∀ i o (l:U),ups M0 l i=some o→(i,o) ∈ l:=fun i o l h=>by
  rcases ups_or i l M0 with ⟨h1,_⟩|⟨o',h1,h2⟩
  ·rw[h1] at h;cases h
  ·rw[h2] at h;cases h;exact h1
 exact h.weakenG ad (tl T0) (ups M0 ml) (TW_ok hT) (fun i o ho=>MW_ok hM _ (hget i o ml ho)) (adOK_ok hA) (fun i o ho=>parOK_ok hP _ (hget i o bx (by rw[← hx];exact ho)))
theorem Awp.weaken {c:AC} {Q:Exit→St→Prop} {bx:U} (ad:List Nat) (T0:List (Nat × V)) (ml:U) (hx:cx.m0=ups M0 bx) (h:Awp P cx c Q ⟨tl T0,ups M0 ml⟩) (hT:TW s.m (ups M0 ml) ad s.T T0) (hM:MW s.m (ups M0 ml) ad ml) (hA:adOK (ups M0 ml) ad) (hP:parOK (ups M0 ml) ad bx):Awp P cx c Q s :=
 fun code hc a w hR=>h code hc a w (hR.weaken ad T0 ml bx hx hT hM hA hP)
end
def GeS (s:St) (ad:List Nat) (T0:List (Nat × V)) (ml bx:U):Prop:=TW s.m (ups M0 ml) ad s.T T0∧MW s.m (ups M0 ml) ad ml∧adOK (ups M0 ml) ad∧parOK (ups M0 ml) ad bx
section
variable {P:Program} {cx:Cx} {Q:Exit→St→Prop} {s:St}
theorem Awp.loopF {ι:Type} {x:AC} {bx:U} (hx:cx.m0=ups M0 bx) (T0:ι→List (Nat × V)) (ml:ι→U) (μ:ι→Nat) (ad:List Nat) (i0:ι) (h0:GeS s ad (T0 i0) (ml i0) bx)
  (hr:∀ i,Awp P cx x (thenE (fun s'=>∃ i',GeS s' [] (T0 i') (ml i') bx∧μ i'<μ i) Q) ⟨tl (T0 i),ups M0 (ml i)⟩):Awp P cx (.loop x) Q s:=by
 refine Awp.weaken (bx:=bx) ad (T0 i0) (ml i0) hx ?_ h0.1 h0.2.1 h0.2.2.1 h0.2.2.2
 intro code hc a w hR
 cases code <;> try (simp [compile] at hc;done)
 case loop c1 =>
  simp only[compile,Option.map_eq_some_iff] at hc
  obtain⟨x',h1,h2⟩:=hc
  cases h2
  intro b k cs
  have key:∀ n i a w,μ i=n→Rel cx ⟨tl (T0 i),ups M0 (ml i)⟩ a w→∃ e a' w',(∃ s',Q e s'∧Rel cx s' a' w')∧Arrives P (lone (b.at a (.code c1 :: .inLoop c1 :: k)) cs w) b k cs e a' w':=by
   intro n
   induction n using Nat.strongRecOn with
   |_ n ih =>
    intro i a w hn hR
    obtain⟨e,a₁,w₁,⟨s₁,hq,hR₁⟩,harr⟩:=hr i c1 h1 a w hR b (.inLoop c1 :: k) cs
    cases e with
    |normal =>
     obtain⟨i',hg,hlt⟩:=hq
     obtain⟨e₂,a₂,w₂,hq₂,harr₂⟩:=ih (μ i') (hn ▸ hlt) i' a₁ w₁ rfl (hR₁.weaken [] _ _ bx hx hg.1 hg.2.1 hg.2.2.1 hg.2.2.2)
     exact⟨e₂,a₂,w₂,hq₂,.of_steps (Steps.trans harr (.one step_inLoop)) harr₂⟩
    |exit id=>exact⟨_,a₁,w₁,⟨s₁,hq,hR₁⟩,.pass (x:=.inLoop c1) rfl (fun _ _=>.inl (by simp)) harr⟩
    |goto l=>exact⟨_,a₁,w₁,⟨s₁,hq,hR₁⟩,.pass (x:=.inLoop c1) rfl (fun _ _=>.inl (by simp)) harr⟩
    |ret=>exact⟨_,a₁,w₁,⟨s₁,hq,hR₁⟩,.pass (x:=.inLoop c1) rfl (fun _ _=>.inl (by simp)) harr⟩
    |panic ch=>exact⟨_,a₁,w₁,⟨s₁,hq,hR₁⟩,.pass (x:=.inLoop c1) rfl (fun _ _=>.inl (by simp)) harr⟩
    |outgrown=>exact⟨_,a₁,w₁,⟨s₁,hq,hR₁⟩,.pass (x:=.inLoop c1) rfl (fun _ _=>.inl (by simp)) harr⟩
  obtain⟨e,a',w',hq,harr⟩:=key _ i0 a w rfl hR
  exact⟨e,a',w',hq,.of_steps (.one step_loop) harr⟩
 all_goals ((try unfold compile at hc);first|(split at hc <;> (first|(cases hc;done)|(simp at hc;done)))|(simp at hc;done))
end
end Go.Proofs.YticdbambknflgaaGreat.Sim
end
section
namespace Go.Proofs.YticdbambknflgaaGreat.Sim
open Go Go.RowKit Go.Deep
set_option linter.unusedVariables false
inductive RV where
 |t (n:Nat)
 |c (t n:Nat) (g:Bool)
def rvOf (P:Program):ResultVar→Option RV
 |.tmp t=>some (.t t)
 |.cell t ty=>(form P ty).map fun p=>.c t p.1 p.2
def rvsOf (P:Program):List ResultVar→Option (List RV)
 |[]=>some []
 |x :: r=>match rvOf P x,rvsOf P r with
  |some y,some ys=>some (y :: ys)
  |_,_=>none
def res1 (s:St):RV→Option V
 |.t n=>some (s.T n)
 |.c t n g=>match s.T t with
  |.bp i v o=>match s.m i with
   |some (.box v' cs)=>if v'=v∧o+n≤cs.length then some (V.mk g ((cs.drop o).take n)) else none
   |_=>none
  |_=>none
def ress (s:St):List RV→Option (List V)
 |[]=>some []
 |x :: r=>match res1 s x,ress s r with
  |some y,some ys=>some (y :: ys)
  |_,_=>none
def resV (s:St) (rs:List RV):Option V:=match ress s rs with
 |some [x]=>some x
 |some l=>some (.tu l)
 |none=>none
/-! ### What is handed back -/
mutual
def exF (m:M) (bx:U) (ids:List (Option Nat)):V→V→Prop
 |.d x,.d y=>x=y
 |.nl _,.nl _=>True
 |.nl _,.d y=>∃ k,y=.sl k []
 |.nl _,.og j u=>u=0∧1000000≤j∧ids[j-1000000]?=some none
 |.og i v,.og j u=>if j<1000000 then i=j∧v=u∧inU bx i=true else u=0∧ids[j-1000000]?=some (some i)∧∃ k mu l,m i=some (.arr v k mu l)
 |.og i v,.d y=>ids.contains (some i)=false∧inU bx i=false∧∃ k mu l,m i=some (.arr v k mu l)∧y=.sl k l
 |.bp i v o,.bp j u q=>if j<1000000 then i=j∧v=u∧o=q∧inU bx i=true else u=0∧o=q∧ids[j-1000000]?=some (some i)∧∃ cs,m i=some (.box v cs)
 |.ag l,.ag l'=>exFs m bx ids l l'
 |.tu l,.tu l'=>exFs m bx ids l l'
 |_,_=>False
def exFs (m:M) (bx:U) (ids:List (Option Nat)):List V→List V→Prop
 |[],[]=>True
 |x :: l,y :: l'=>exF m bx ids x y∧exFs m bx ids l l'
 |_,_=>False
end
def asF (m:M):List (Option Nat)→List O→Prop
 |[],[]=>True
 |none :: r,o :: as=>(∃ k,o=.arr 0 k true [])∧asF m r as
 |some i :: r,o :: as=>(∃ o',m i=some o'∧o=o'.setv 0∧o.wf=true)∧asF m r as
 |_,_=>False
def bxF (m:M) (ids:List (Option Nat)):U→Prop
 |[]=>True
 |(i,o) :: r=>(m i=some o∧o.wfB=true∧ids.contains (some i)=false∧i<1000000)∧bxF m ids r
structure RetOK (s:St) (rs:List RV) (r:V) (bx':U) (as:List O):Prop where
 ok:∃ r' ids,resV s rs=some r'∧exF s.m bx' ids r' r∧asF s.m ids as∧(ids.filterMap id).Nodup∧bxF s.m ids bx'
def RetE (rs:List RV) (r:V) (bx':U) (as:List O):Exit→St→Prop
 |.normal,s=>RetOK s rs r bx' as
 |.ret,s=>RetOK s rs r bx' as
 |_,_=>False
section
variable {m m1 os:M} {hd hd':H} {w:World} {S S1 X:Nat→Prop} {B:Nat} {ids:List (Option Nat)} {bx:U}
def kept (bx:U) (ids:List (Option Nat)) (l:List V):List V:=l.filter fun x=>match x with
 |.og i _=>!ids.contains (some i)&&!inU bx i
 |_=>false
mutual
theorem exF_ok (hm1:Mem m1 hd w S1 X B) (hbx:∀ i,inU bx i=true→i<1000000→os i=m i∧hd' i=hd i) (hids:∀ j i,ids[j]?=some (some i)→∃ o,m i=some o∧os (1000000+j)=some (o.setv 0)∧hd' (1000000+j)=hd i) (hno:∀ j,ids[j]?=some none→(∃ k,os (1000000+j)=some (.arr 0 k true []))∧hd' (1000000+j)=.slice none 0 0)
  (hS:∀ b,S b→S1 b):∀ (x y:V) (u:Value),exF m bx ids x y→(∀ i v k mu l,.og i v ∈ x.flat→ids.contains (some i)=false→inU bx i=false→m i=some (.arr v k mu l)→m1 i=some (.arr v k false l))→VR m hd w S x u→VR os hd' w S1 y u
 |.d x,.d y,u,h,_,hv=>by simp only[exF] at h;subst h;simp only[VR] at hv ⊢;exact D.keep (fun b h _=>⟨hS b h,rfl⟩) _ _ hv
 |.nl _,.nl _,u,h,_,hv=>by simp only[VR] at hv ⊢;exact hv
 |.nl _,.d y,u,h,_,hv=>by
  simp only[exF] at h
  obtain⟨k,rfl⟩:=h
  simp only[VR] at hv ⊢
  subst hv
  simp only[D.is]
  exact⟨none,0,[],rfl,Nat.le_refl _,Nat.zero_le _,by simp [Rows],fun h=>absurd h (by simp)⟩
 |.nl _,.og j v,u,h,_,hv=>by
  simp only[exF] at h
  obtain⟨rfl,h1,h2⟩:=h
  obtain⟨⟨k,h3⟩,h4⟩:=hno _ h2
  rw[show 1000000+(j-1000000)=j by omega] at h3 h4
  simp only[VR] at hv ⊢
  subst hv
  exact⟨rfl,_,h3,Nat.le_refl _,fun _ _ _ _=>h4.symm⟩
 |.og i v,.og j v',u,h,_,hv=>by
  simp only[exF] at h
  by_cases hj:j<1000000
  ·rw[if_pos hj] at h
   obtain⟨rfl,rfl,h1⟩:=h
   obtain⟨e1,e2⟩:=hbx i h1 hj
   simp only[VR] at hv ⊢
   rw[e1,e2]
   exact hv
  rw[if_neg hj] at h
  obtain⟨rfl,h2,k,mu,l,h3⟩:=h
  obtain⟨o,h4,h5,h6⟩:=hids _ _ h2
  rw[show 1000000+(j-1000000)=j by omega] at h5 h6
  rw[h3] at h4
  cases h4
  have e:=og_ok hv h3
  simp only[VR] at hv ⊢
  exact⟨hv.1,_,h5,Nat.le_refl _,fun _ _ _ _=>by rw[h6];exact e⟩
 |.og i v,.d y,u,h,hf,hv=>by
  simp only[exF] at h
  obtain⟨h0,hn,k,mu,l,h1,rfl⟩:=h
  have h2:=hf i v k mu l (by simp [V.flat]) h0 hn h1
  have h3:=hm1.obj i _ h2
  simp only[O.is,Bool.false_eq_true,if_false] at h3
  have e:=og_ok hv h1
  subst e
  simp only[VR]
  exact h3
 |.bp i v q,.bp j v' q',u,h,_,hv=>by
  simp only[exF] at h
  by_cases hj:j<1000000
  ·rw[if_pos hj] at h
   obtain⟨rfl,rfl,rfl,h1⟩:=h
   obtain⟨e1,e2⟩:=hbx i h1 hj
   simp only[VR] at hv ⊢
   rw[e1,e2]
   exact hv
  rw[if_neg hj] at h
  obtain⟨rfl,rfl,h2,cs,h3⟩:=h
  obtain⟨o,h4,h5,h6⟩:=hids _ _ h2
  rw[show 1000000+(j-1000000)=j by omega] at h5 h6
  rw[h3] at h4
  cases h4
  simp only[VR] at hv ⊢
  obtain⟨g0,y,g1,g2,g3⟩:=hv
  rw[h3] at g1
  cases g1
  exact⟨g0,_,h5,Nat.le_refl _,fun cs' e=>by rw[h6];exact g3 cs rfl⟩
 |.ag l,.ag l',u,h,hf,hv=>by
  simp only[exF] at h
  simp only[VR] at hv ⊢
  obtain⟨vs,e,h1,h2⟩:=hv
  exact⟨vs,e,exFs_ok hm1 hbx hids hno hS l l' vs h (fun i v k mu l hm=>hf i v k mu l (by simpa only[V.flat] using hm)) h1,h2⟩
 |.tu l,.tu l',u,h,hf,hv=>by
  simp only[exF] at h
  simp only[VR] at hv ⊢
  obtain⟨vs,e,h1⟩:=hv
  exact⟨vs,e,exFs_ok hm1 hbx hids hno hS l l' vs h (fun i v k mu l hm=>hf i v k mu l (by simpa only[V.flat] using hm)) h1⟩
 |.un,_,u,h,_,_=>by simp [exF] at h
 |.z0,_,u,h,_,_=>by simp [exF] at h
 |.ub,_,u,h,_,_=>by simp [exF] at h
 |.ep _ _ _ _,_,u,h,_,_=>by simp [exF] at h
 |.fp _ _,_,u,h,_,_=>by simp [exF] at h
 |.cl _ _,_,u,h,_,_=>by simp [exF] at h
 |.d _,.ub,u,h,_,_|.d _,.un,u,h,_,_|.d _,.nl _,u,h,_,_|.d _,.z0,u,h,_,_|.d _,.og _ _,u,h,_,_|.d _,.bp _ _ _,u,h,_,_|.d _,.ep _ _ _ _,u,h,_,_|.d _,.fp _ _,u,h,_,_|.d _,.cl _ _,u,h,_,_|.d _,.ag _,u,h,_,_|.d _,.tu _,u,h,_,_=>by simp [exF] at h
 |.nl _,.ub,u,h,_,_|.nl _,.un,u,h,_,_|.nl _,.z0,u,h,_,_|.nl _,.bp _ _ _,u,h,_,_|.nl _,.ep _ _ _ _,u,h,_,_|.nl _,.fp _ _,u,h,_,_|.nl _,.cl _ _,u,h,_,_|.nl _,.ag _,u,h,_,_|.nl _,.tu _,u,h,_,_=>by simp [exF] at h
 |.og _ _,.ub,u,h,_,_|.og _ _,.un,u,h,_,_|.og _ _,.nl _,u,h,_,_|.og _ _,.z0,u,h,_,_|.og _ _,.bp _ _ _,u,h,_,_|.og _ _,.ep _ _ _ _,u,h,_,_|.og _ _,.fp _ _,u,h,_,_|.og _ _,.cl _ _,u,h,_,_|.og _ _,.ag _,u,h,_,_|.og _ _,.tu _,u,h,_,_=>by simp [exF] at h
 |.bp _ _ _,.ub,u,h,_,_|.bp _ _ _,.un,u,h,_,_|.bp _ _ _,.d _,u,h,_,_|.bp _ _ _,.nl _,u,h,_,_|.bp _ _ _,.z0,u,h,_,_|.bp _ _ _,.og _ _,u,h,_,_|.bp _ _ _,.ep _ _ _ _,u,h,_,_|.bp _ _ _,.fp _ _,u,h,_,_|.bp _ _ _,.cl _ _,u,h,_,_|.bp _ _ _,.ag _,u,h,_,_|.bp _ _ _,.tu _,u,h,_,_=>by simp [exF] at h
 |.ag _,.ub,u,h,_,_|.ag _,.un,u,h,_,_|.ag _,.d _,u,h,_,_|.ag _,.nl _,u,h,_,_|.ag _,.z0,u,h,_,_|.ag _,.og _ _,u,h,_,_|.ag _,.bp _ _ _,u,h,_,_|.ag _,.ep _ _ _ _,u,h,_,_|.ag _,.fp _ _,u,h,_,_|.ag _,.cl _ _,u,h,_,_|.ag _,.tu _,u,h,_,_=>by simp [exF] at h
 |.tu _,.ub,u,h,_,_|.tu _,.un,u,h,_,_|.tu _,.d _,u,h,_,_|.tu _,.nl _,u,h,_,_|.tu _,.z0,u,h,_,_|.tu _,.og _ _,u,h,_,_|.tu _,.bp _ _ _,u,h,_,_|.tu _,.ep _ _ _ _,u,h,_,_|.tu _,.fp _ _,u,h,_,_|.tu _,.cl _ _,u,h,_,_|.tu _,.ag _,u,h,_,_=>by simp [exF] at h
theorem exFs_ok (hm1:Mem m1 hd w S1 X B) (hbx:∀ i,inU bx i=true→i<1000000→os i=m i∧hd' i=hd i) (hids:∀ j i,ids[j]?=some (some i)→∃ o,m i=some o∧os (1000000+j)=some (o.setv 0)∧hd' (1000000+j)=hd i) (hno:∀ j,ids[j]?=some none→(∃ k,os (1000000+j)=some (.arr 0 k true []))∧hd' (1000000+j)=.slice none 0 0)
  (hS:∀ b,S b→S1 b):∀ (l l':List V) (us:List Value),exFs m bx ids l l'→(∀ i v k mu l',.og i v ∈ V.flats l→ids.contains (some i)=false→inU bx i=false→m i=some (.arr v k mu l')→m1 i=some (.arr v k false l'))→VRs m hd w S l us→VRs os hd' w S1 l' us
 |[],[],us,_,_,h=>by simp only[VRs] at h ⊢;exact h
 |x :: l,y :: l',us,h,hf,hv=>by
  simp only[exFs] at h
  simp only[VRs] at hv ⊢
  obtain⟨u,r,e,h1,h2⟩:=hv
  exact⟨u,r,e,exF_ok hm1 hbx hids hno hS x y u h.1 (fun i v k mu l hm=>hf i v k mu l (by simp only[V.flats,List.mem_append];exact .inl hm)) h1,exFs_ok hm1 hbx hids hno hS l l' r h.2 (fun i v k mu l hm=>hf i v k mu l (by simp only[V.flats,List.mem_append];exact .inr hm)) h2⟩
 |[],_ :: _,us,h,_,_=>by simp [exFs] at h
 |_ :: _,[],us,h,_,_=>by simp [exFs] at h
end
theorem asF_len {m:M}:∀ {ids:List (Option Nat)} {as:List O},asF m ids as→as.length=ids.length
 |[],[],_=>rfl
 |none :: r,o :: as,h=>by simp only[asF] at h;simp [asF_len h.2]
 |some i :: r,o :: as,h=>by simp only[asF] at h;simp [asF_len h.2]
 |[],_ :: _,h=>by simp [asF] at h
 |none :: _,[],h=>by simp [asF] at h
 |some _ :: _,[],h=>by simp [asF] at h
theorem asF_get {m:M}:∀ {ids:List (Option Nat)} {as:List O},asF m ids as→∀ (j:Nat) (o:O),as[j]?=some o→(ids[j]?=some none∧∃ k,o=.arr 0 k true [])∨∃ i o',ids[j]?=some (some i)∧m i=some o'∧o=o'.setv 0∧o.wf=true
 |[],[],_,j,o,h=>by simp at h
 |none :: r,o' :: as,h,0,o,hj=>by simp only[asF] at h;simp at hj;subst hj;exact .inl ⟨rfl,h.1⟩
 |none :: r,o' :: as,h,j+1,o,hj=>by simp only[asF] at h;simpa using asF_get h.2 j o (by simpa using hj)
 |some i :: r,o' :: as,h,0,o,hj=>by simp only[asF] at h;simp at hj;subst hj;obtain⟨⟨o'',h1,h2,h3⟩,_⟩:=h;exact .inr ⟨i,o'',rfl,h1,h2,h3⟩
 |some i :: r,o' :: as,h,j+1,o,hj=>by simp only[asF] at h;simpa using asF_get h.2 j o (by simpa using hj)
 |[],_ :: _,h,_,_,_=>by simp [asF] at h
 |none :: _,[],h,_,_,_=>by simp [asF] at h
 |some _ :: _,[],h,_,_,_=>by simp [asF] at h
theorem bxF_get {m:M}:∀ {us:U},bxF m ids us→∀ x ∈ us,m x.1=some x.2∧x.2.wfB=true∧ids.contains (some x.1)=false∧x.1<1000000
 |[],_,x,hx=>by cases hx
 |(i,o) :: r,h,x,hx=>by
  simp only[bxF] at h
  rcases List.mem_cons.1 hx with rfl|hx
  ·exact h.1
  ·exact bxF_get h.2 x hx
theorem ids_inj:∀ {ids:List (Option Nat)},(ids.filterMap id).Nodup→∀ {j j':Nat} {i:Nat},ids[j]?=some (some i)→ids[j']?=some (some i)→j=j'
 |[],_,j,j',i,h,_=>by simp at h
 |none :: r,hn,0,j',i,h,_=>by simp at h
 |none :: r,hn,j+1,0,i,_,h=>by simp at h
 |none :: r,hn,j+1,j'+1,i,h,h'=>by have e:j=j':=ids_inj (ids:=r) (i:=i) (by simpa using hn) (by simpa using h) (by simpa using h');rw[e]
 |some k :: r,hn,0,0,i,_,_=>rfl
 |some k :: r,hn,0,j'+1,i,h,h'=>by
  simp at h h' hn
  subst h
  exact absurd (List.mem_of_getElem? h') (fun hm=>hn.1 (by simpa using hm))
 |some k :: r,hn,j+1,0,i,h,h'=>by
  simp at h h' hn
  subst h'
  exact absurd (List.mem_of_getElem? h) (fun hm=>hn.1 (by simpa using hm))
 |some k :: r,hn,j+1,j'+1,i,h,h'=>by have e:j=j':=ids_inj (ids:=r) (i:=i) (by simp at hn;simpa using hn.2) (by simpa using h) (by simpa using h');rw[e]
end
theorem ret_ok {m:M} {hd hd0:H} {w w0:World} {S S0 X:Nat→Prop} {r' r:V} {ids:List (Option Nat)} {bx bx':U} {as:List O} {u:Value} (hm:Mem m hd w S X w0.heap.size) (hv:VR m hd w S r' u) (hsub:∀ b,S b→S0 b∨w0.heap.size≤b∨X b) (hle:Le (ups M0 bx) hd0 m hd)
  (hbb:∀ x ∈ bx,∃ o,(x.1,o) ∈ bx') (hnd':(bx'.map (·.1)).Nodup)
  (h1:exF m bx' ids r' r) (h2:asF m ids as) (h3:(ids.filterMap id).Nodup) (h4:bxF m ids bx') :
  ∃ hd' S',Mem (ups M0 (bx'++fresh as)) hd' w S' X w0.heap.size∧VR (ups M0 (bx'++fresh as)) hd' w S' r u∧(∀ b,S' b→S0 b∨w0.heap.size≤b∨X b)∧Le (ups M0 bx) hd0 (ups M0 (bx'++fresh as)) hd':=by
 obtain⟨S1,o1⟩:=out_frzs hm (kept bx' ids r'.flat)
 have hS:∀ b,S b→S1 b:=fun b hb=>(o1.keep b hb (hm.lt b hb)).1
 have hlen:=asF_len h2
 let hd':H:=fun i=>if 1000000≤i then (match ids[i-1000000]? with
  |some (some i')=>hd i'
  |_=>.slice none 0 0) else hd i
 have hkept2:∀ i v,.og i v ∈ kept bx' ids r'.flat→ids.contains (some i)=false∧inU bx' i=false:=by
  intro i v h
  unfold kept at h
  have:=(List.mem_filter.1 h).2
  simpa using this
 have hkept:∀ i v,.og i v ∈ kept bx' ids r'.flat→ids.contains (some i)=false:=fun i v h=>(hkept2 i v h).1
 have hsame:∀ i,ids.contains (some i)=true→ups m (frz m (kept bx' ids r'.flat)) i=m i:=by
  intro i hi
  refine ups_frz_not i _ _ (List.all_eq_true.2 fun x hx=>?_)
  unfold V.notOg
  split
  ·rename_i j v
   have:=hkept j v hx
   simp only[bne_iff_ne,ne_eq]
   rintro rfl
   rw[hi] at this
   cases this
  ·rfl
 have hmem:∀ {j i},ids[j]?=some (some i)→ids.contains (some i)=true:=fun {j i} h=>by
  simpa using List.mem_of_getElem? h
 have hfresh:∀ {j o},as[j]?=some o→ups M0 (bx'++fresh as) (1000000+j)=some o:=fun h=>by rw[ups_append];exact ups_mem nodup_fresh (fresh_mem h)
 have hold:∀ {x},x ∈ bx'→ups M0 (bx'++fresh as) x.1=some x.2:=fun {x} hx=>by
  rw[ups_append,ups_not]
  ·exact ups_mem hnd' hx
  ·rintro⟨i',o'⟩ hx' e
   obtain⟨j,e',_⟩:=mem_fresh hx'
   have:=(bxF_get h4 x hx).2.2.2
   simp only at e
   omega
 have hcases:∀ i o,ups M0 (bx'++fresh as) i=some o→(∃ j,i=1000000+j∧as[j]?=some o)∨(i,o) ∈ bx':=by
  intro i o h
  rcases ups_or i (bx'++fresh as) M0 with ⟨e,_⟩|⟨o',e1,e2⟩
  ·rw[e] at h;cases h
  ·rw[e2] at h
   cases h
   rcases List.mem_append.1 e1 with e1|e1
   ·exact .inr e1
   ·exact .inl (mem_fresh e1)
 have hids:∀ j i,ids[j]?=some (some i)→∃ o,m i=some o∧ups M0 (bx'++fresh as) (1000000+j)=some (o.setv 0)∧hd' (1000000+j)=hd i:=by
  intro j i h
  have hj:j<as.length:=by rw[hlen];exact (List.getElem?_eq_some_iff.1 h).1
  rcases asF_get h2 j _ (List.getElem?_eq_getElem hj) with ⟨e,_⟩|⟨i',o',e,e2,e3,_⟩
  ·rw[e] at h;cases h
  ·rw[e] at h
   cases h
   refine⟨o',e2,by rw[← e3];exact hfresh (List.getElem?_eq_getElem hj),?_⟩
   simp only[hd',Nat.le_add_right,if_true,Nat.add_sub_cancel_left,e]
 have hno:∀ j,ids[j]?=some none→(∃ k,ups M0 (bx'++fresh as) (1000000+j)=some (.arr 0 k true []))∧hd' (1000000+j)=.slice none 0 0:=by
  intro j h
  have hj:j<as.length:=by rw[hlen];exact (List.getElem?_eq_some_iff.1 h).1
  rcases asF_get h2 j _ (List.getElem?_eq_getElem hj) with ⟨e,k,e2⟩|⟨i',o',e,_⟩
  ·refine⟨⟨k,by rw[← e2];exact hfresh (List.getElem?_eq_getElem hj)⟩,?_⟩
   simp only[hd',Nat.le_add_right,if_true,Nat.add_sub_cancel_left,h]
  ·rw[e] at h;cases h
 have hlow:∀ i,i<1000000→hd' i=hd i:=fun i hi=>by simp only[hd'];rw[if_neg (by omega)]
 refine⟨hd',S1,⟨fun i o ho=>?_,fun i j oi oj b hne hi hj li lj bi bj=>?_,o1.mem.lt,o1.mem.base,o1.mem.sX⟩,exF_ok o1.mem (fun i hi hlt=>?_) hids hno hS r' r u h1 (fun i v k mu l hmem hc hn hi=>ups_frz_get (v:=v) hi _ _ ?_) hv,fun b hb=>(o1.more b hb).elim (hsub b) .inr,⟨fun i o ho=>?_⟩⟩
 ·rcases hcases i o ho with ⟨j,rfl,hj⟩|hx
  ·rcases asF_get h2 j o hj with ⟨e,k,rfl⟩|⟨i',o',e,e2,rfl,e4⟩
   ·rw[(hno j e).2]
    simp only[O.is,if_true]
    exact⟨[],by simp [Rows],.inl ⟨none,rfl,rfl⟩⟩
   ·have hob:=o1.mem.obj i' o' (by rw[hsame i' (hmem e)];exact e2)
    have eh:hd' (1000000+j)=hd i':=by obtain⟨_,_,_,e⟩:=hids j i' e;exact e
    rw[eh]
    cases o' with
    |box v cs =>
     simp only[O.setv,O.wf,Bool.and_eq_true] at e4
     simp only[O.is,O.setv] at hob ⊢
     obtain⟨b,vs,e,g1,g2,g3,g4,g5⟩:=hob
     exact⟨b,vs,e,g1,g2,g3,closed_ok (fun _ h _=>⟨h,rfl⟩) e4.2 g4,g5⟩
    |arr v k mu l =>
     simp only[O.is,O.setv] at hob ⊢
     exact hob
    |vec v kk cs=>simp [O.setv,O.wf] at e4
    |mp v ks=>simp [O.setv,O.wf] at e4
  ·obtain⟨g1,g2,g3,g4⟩:=bxF_get h4 _ hx
   simp only at g1 g2 g3 g4
   rw[hlow i g4]
   have hob:=o1.mem.obj i o (by rw[frz_keep fun v hv=>by have:=(hkept2 i v hv).2;rw[mem_inU hx] at this;cases this];exact g1)
   cases o with
   |arr v k mu l =>
    simp only[O.is] at hob ⊢
    exact hob
   |vec v kk cs=>simp [O.wfB] at g2
   |mp v ks=>simp [O.wfB] at g2
   |box v cs =>
    simp only[O.wfB] at g2
    simp only[O.is] at hob ⊢
    obtain⟨b,vs,e,q1,q2,q3,q4,q5⟩:=hob
    exact⟨b,vs,e,q1,q2,q3,closed_ok (fun _ h _=>⟨h,rfl⟩) g2 q4,q5⟩
 ·
  have back:∀ i o,ups M0 (bx'++fresh as) i=some o→o.live=true→∀ b,blk (hd' i)=some b→∃ i' o',m i'=some o'∧o'.live=true∧blk (hd i')=some b∧((i<1000000∧i'=i∧ids.contains (some i)=false)∨∃ j,i=1000000+j∧ids[j]?=some (some i')):=by
   intro i o ho hl b hb
   rcases hcases i o ho with ⟨j,rfl,hj⟩|hx
   ·rcases asF_get h2 j o hj with ⟨e,k,rfl⟩|⟨i',o',e,e2,rfl,e4⟩
    ·rw[(hno j e).2] at hb;simp [blk] at hb
    ·obtain⟨_,_,_,eh⟩:=hids j i' e
     rw[eh] at hb
     exact⟨i',o',e2,by rw[← setv_live o' 0];exact hl,hb,.inr ⟨j,rfl,e⟩⟩
   ·obtain⟨g1,g2,g3,g4⟩:=bxF_get h4 _ hx
    simp only at g1 g2 g3 g4
    rw[hlow i g4] at hb
    exact⟨i,o,g1,hl,hb,.inl ⟨g4,rfl,g3⟩⟩
  obtain⟨i1,o2,e1,l1,b1,c1⟩:=back i oi hi li b bi
  obtain⟨i2,o3,e2,l2,b2,c2⟩:=back j oj hj lj b bj
  by_cases e:i1=i2
  ·subst e
   rcases c1 with ⟨c1,rfl,c3⟩|⟨j1,rfl,c1⟩
   ·rcases c2 with ⟨c2,rfl,_⟩|⟨j2,rfl,c2⟩
    ·exact hne rfl
    ·rw[hmem c2] at c3;cases c3
   ·rcases c2 with ⟨c2,rfl,c3⟩|⟨j2,rfl,c2⟩
    ·rw[hmem c1] at c3;cases c3
    ·exact hne (by rw[ids_inj h3 c1 c2])
  ·exact hm.sep i1 i2 o2 o3 b e e1 e2 l1 l2 b1 b2
 ·obtain⟨o,ho⟩:=inU_mem hi
  obtain⟨g1,g2,g3,g4⟩:=bxF_get h4 _ ho
  simp only at g1
  exact⟨by rw[hold ho,g1],hlow i hlt⟩
 ·unfold kept
  exact List.mem_filter.2 ⟨hmem,by simp only[hc,hn];rfl⟩
 ·have hmb:∃ o',(i,o') ∈ bx:=by
   rcases ups_or i bx M0 with ⟨e,_⟩|⟨o',e,_⟩
   ·rw[e] at ho;cases ho
   ·exact⟨o',e⟩
  obtain⟨o0,hx0⟩:=hmb
  obtain⟨o',hx'⟩:=hbb _ hx0
  obtain⟨g1,g2,g3,g4⟩:=bxF_get h4 _ hx'
  simp only at g1 g4
  obtain⟨o2,k1,k2,k3⟩:=hle.le i o ho
  rw[g1] at k1
  cases k1
  exact⟨_,hold hx',k2,fun e=>by rw[hlow i g4];exact k3 e⟩
end Go.Proofs.YticdbambknflgaaGreat.Sim
end
