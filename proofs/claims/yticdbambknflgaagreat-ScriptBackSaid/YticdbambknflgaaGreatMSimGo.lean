/- A walk as a reckoning: of no program. Conditions: none. -/
import Derived.Test.YticdbambknflgaaGreatMSimY
namespace Go.Proofs.YticdbambknflgaaGreat.Sim
open Go Go.RowKit Go.Deep
set_option linter.unusedVariables false
inductive Fm where
 |run (c:AC)
 |ops (l:List AO) (dr:Option (List AO × List Ent × Bool))
 |blk (id:Nat)
 |lp (A:St→Prop)
inductive Md where
 |ex (e:Exit)
 |br (v:V) (x y:AC)
 |gd (v:V) (o:AO) (ys:List V)
 |op (pl:Bool) (o:AO) (ys:List V)
 |res (o:AO) (ys:List V) (q:Option (V × U))
def drawOK (ops:List AO) (L:List Ent):Bool:=wfAfter 0 ops&&indepAll (ancL ops []) L 0 L
def opsP (P:Program) (dr:Option (List AO × List Ent × Bool)) (l:List AO) (s:St) (K0:St→Prop):Prop:=match dr with
 |none=>awpOps P l s K0
 |some (all,acc,true)=>awpDsE P all l acc s fun L s'=>drawOK all L=true∧K0 s'
 |some (all,acc,false)=>awpDs P l acc s fun L s'=>drawOK all L=true∧K0 s'
def drN (dr:Option (List AO × List Ent × Bool)) (e:Ent):Option (List AO × List Ent × Bool):=match dr with
 |none=>none
 |some (all,acc,fl)=>some (all,e :: acc,fl)
def stk (P:Program) (cx:Cx) (Q:Exit→St→Prop):List Fm→Exit→St→Prop
 |[]=>Q
 |.run c :: r=>thenE (Awp P cx c (stk P cx Q r)) (stk P cx Q r)
 |.ops l dr :: r=>thenE (fun s=>opsP P dr l s (stk P cx Q r .normal)) (stk P cx Q r)
 |.blk id :: r=>blockE id (stk P cx Q r)
 |.lp A :: r=>thenE A (stk P cx Q r)
def putS (T:Nat→V) (m:M) (dst:Option Nat) (v:V) (us:U):St:=⟨match dst with
 |some d=>up T d v
 |none=>T,ups m us⟩
def Mean (P:Program) (cx:Cx) (Q:Exit→St→Prop):Md→List Fm→(Nat→V)→M→Prop
 |.ex e,r,T,m=>stk P cx Q r e ⟨T,m⟩
 |.br v x y,r,T,m=>∀ c,ev T c=v→Awp P cx (.cond c x y) (stk P cx Q r) ⟨T,m⟩
 |.gd v o ys,r,T,m=>∀ l dr r',r=.ops l dr :: r'→(∀ j t b,o.guard=some (j,t,b)→T t=v)→o.guard.isSome=true→ys=o.xs.map (ev T)→opsP P dr (o :: l) ⟨T,m⟩ (stk P cx Q r' .normal)
 |.op pl o ys,r,T,m=>∀ l dr r',r=.ops l dr :: r'→pl=o.k.plain→(∃ v us,(StepA P o.k (o.dst.getD 0) ys m v us∨(dr.isNone=true∧o.guard.isNone=true∧StepL P o.k ys m v us))∧opsP P (drN dr ⟨o,v,us,ys⟩) l (putS T m o.dst v us) (stk P cx Q r' .normal))∨(dr=none∧o.guard=none∧StepE P o.k (o.dst.getD 0) ys m fun v us=>awpOps P l (putS T m o.dst v us) (stk P cx Q r' .normal)) ∨
  ∃ all acc Qs us,dr=some (all,acc,true)∧o.guard=none∧eOK all acc.length=true∧StepP P o.k ys m Qs us∧∀ q,Qs q→opsP P (some (all,⟨o,q,us,ys⟩ :: acc,false)) l (putS T m o.dst q us) (stk P cx Q r' .normal)
 |.res o ys q,r,T,m=>∀ l dr r',r=.ops l dr :: r'→∃ v us,q=some (v,us)∧opsP P (drN dr ⟨o,v,us,ys⟩) l (putS T m o.dst v us) (stk P cx Q r' .normal)
def Go (P:Program) (cx:Cx) (Q:Exit→St→Prop):Nat→Md→List Fm→(Nat→V)→M→Prop
 |0,_,_,_,_=>False
 |n+1,.ex .normal,[],T,m=>Q .normal ⟨T,m⟩
 |n+1,.ex .normal,.run c :: r,T,m=>match c with
  |.skip=>Go P cx Q n (.ex .normal) r T m
  |.seq x y=>Go P cx Q n (.ex .normal) (.run x :: .run y :: r) T m
  |.region l false=>Go P cx Q n (.ex .normal) (.ops l none :: r) T m
  |.region l true=>P.follows .mixedOrders=true∧Go P cx Q n (.ex .normal) (.ops l (some (l,[],true)) :: r) T m
  |.block id x=>Go P cx Q n (.ex .normal) (.run x :: .blk id :: r) T m
  |.exit id=>Go P cx Q n (.ex (.exit id)) r T m
  |.ret=>Go P cx Q n (.ex .ret) r T m
  |.cond c x y=>Go P cx Q n (.br (ev T c) x y) r T m
  |.loop x=>Awp P cx (.loop x) (stk P cx Q r) ⟨T,m⟩
  |.clr c=>Awp P cx (.clr c) (stk P cx Q r) ⟨T,m⟩
 |n+1,.ex .normal,.blk id :: r,T,m=>Go P cx Q n (.ex .normal) r T m
 |n+1,.ex .normal,.lp A :: r,T,m=>A ⟨T,m⟩
 |n+1,.ex .normal,.ops l dr :: r,T,m=>match l with
  |[]=>match dr with
   |none=>Go P cx Q n (.ex .normal) r T m
   |some (all,acc,fl)=>drawOK all acc.reverse=true∧Go P cx Q n (.ex .normal) r T m
  |o :: l=>match o.guard with
   |none=>Go P cx Q n (.op o.k.plain o (o.xs.map (ev T))) (.ops l dr :: r) T m
   |some (j,t,b)=>Go P cx Q n (.gd (T t) o (o.xs.map (ev T))) (.ops l dr :: r) T m
 |n+1,.ex .ret,[],T,m=>Q .ret ⟨T,m⟩
 |n+1,.ex .ret,_ :: r,T,m=>Go P cx Q n (.ex .ret) r T m
 |n+1,.ex (.exit i),[],T,m=>Q (.exit i) ⟨T,m⟩
 |n+1,.ex (.exit i),f :: r,T,m=>match f with
  |.blk id=>if i=id then Go P cx Q n (.ex .normal) r T m else Go P cx Q n (.ex (.exit i)) r T m
  |_=>Go P cx Q n (.ex (.exit i)) r T m
 |n+1,.ex _,_,T,m=>False
 |n+1,.br v x y,r,T,m=>match v with
  |.d (.at (.bool true))=>Go P cx Q n (.ex .normal) (.run x :: r) T m
  |.d (.at (.bool false))=>Go P cx Q n (.ex .normal) (.run y :: r) T m
  |.ub=>Go P cx Q n (.ex .normal) (.run x :: r) T m∧Go P cx Q n (.ex .normal) (.run y :: r) T m
  |_=>False
 |n+1,.gd v o ys,r,T,m=>match v,o.guard with
  |.d (.at (.bool c)),some (_,_,b)=>if c=b then Go P cx Q n (.op o.k.plain o ys) r T m else Go P cx Q n (.res o [] (some (.tu [],[]))) r T m
  |.tu [],some _=>Go P cx Q n (.res o [] (some (.tu [],[]))) r T m
  |_,_=>False
 |n+1,.op pl o ys,r,T,m=>match pl with
  |true=>pre o.k m ys∧Go P cx Q n (.res o ys (sem o.k (o.dst.getD 0) m ys)) r T m
  |false=>Mean P cx Q (.op false o ys) r T m
 |n+1,.res o ys q,r,T,m=>match q,r with
  |some (v,us),.ops l dr :: r=>Go P cx Q n (.ex .normal) (.ops l (drN dr ⟨o,v,us,ys⟩) :: r) (putS T m o.dst v us).T (putS T m o.dst v us).m
  |_,_=>False
theorem BxOK.one {i:Nat} {cs cs':List V}:BxOK [(i,.box 0 cs)] [(i,.box 0 cs')]:=⟨rfl,by simp⟩
section
variable {P:Program} {cx:Cx} {Q:Exit→St→Prop}
theorem opsP_op {dr:Option (List AO × List Ent × Bool)} {o:AO} {l:List AO} {T:Nat→V} {m:M} {K0:St→Prop} (hg:o.guard=none) {v:V} {us:U} (h1:StepA P o.k (o.dst.getD 0) (o.xs.map (ev T)) m v us∨(dr.isNone=true∧o.guard.isNone=true∧StepL P o.k (o.xs.map (ev T)) m v us)) (h2:opsP P (drN dr ⟨o,v,us,o.xs.map (ev T)⟩) l (putS T m o.dst v us) K0):opsP P dr (o :: l) ⟨T,m⟩ K0:=by
 cases dr with
 |none=>simp only[opsP,awpOps,hg];exact .inl ⟨v,us,h1.imp id fun h=>h.2.2,h2⟩
 |some d =>
  obtain⟨all,acc,fl⟩:=d
  cases fl with
  |false=>simp only[opsP,awpDs];exact⟨v,us,_,by simp only[OpR,hg];exact⟨trivial,h1.elim id fun h=>by simp at h⟩,h2⟩
  |true=>simp only[opsP,awpDsE];exact .inl ⟨v,us,_,by simp only[OpR,hg];exact⟨trivial,h1.elim id fun h=>by simp at h⟩,h2⟩
theorem opsP_gd {dr:Option (List AO × List Ent × Bool)} {o:AO} {l:List AO} {T:Nat→V} {m:M} {K0:St→Prop} {j t:Nat} {b:Bool} (hg:o.guard=some (j,t,b)) (hT:T t=.d (.at (.bool b))) {v:V} {us:U} (h1:StepA P o.k (o.dst.getD 0) (o.xs.map (ev T)) m v us) (h2:opsP P (drN dr ⟨o,v,us,o.xs.map (ev T)⟩) l (putS T m o.dst v us) K0):opsP P dr (o :: l) ⟨T,m⟩ K0:=by
 have hc:gv (T t)=some (some b):=by rw[hT];rfl
 cases dr with
 |none=>simp only[opsP,awpOps,hg];exact⟨some b,hc,fun _=>⟨v,us,h1,h2⟩,fun e=>absurd rfl e⟩
 |some d =>
  obtain⟨all,acc,fl⟩:=d
  cases fl with
  |false=>simp only[opsP,awpDs];exact⟨v,us,_,by simp only[OpR,hg];exact⟨some b,hc,.inl ⟨rfl,trivial,h1⟩⟩,h2⟩
  |true=>simp only[opsP,awpDsE];exact .inl ⟨v,us,_,by simp only[OpR,hg];exact⟨some b,hc,.inl ⟨rfl,trivial,h1⟩⟩,h2⟩
theorem opsP_gn {dr:Option (List AO × List Ent × Bool)} {o:AO} {l:List AO} {T:Nat→V} {m:M} {K0:St→Prop} {j t:Nat} {b:Bool} {c:Option Bool} (hg:o.guard=some (j,t,b)) (hT:gv (T t)=some c) (hc:c ≠ some b) (h2:opsP P (drN dr ⟨o,.tu [],[],[]⟩) l (putS T m o.dst (.tu []) []) K0):opsP P dr (o :: l) ⟨T,m⟩ K0:=by
 cases dr with
 |none=>simp only[opsP,awpOps,hg];exact⟨c,hT,fun e=>absurd e hc,fun _=>h2⟩
 |some d =>
  obtain⟨all,acc,fl⟩:=d
  cases fl with
  |false=>simp only[opsP,awpDs];exact⟨.tu [],[],[],by simp only[OpR,hg];exact⟨c,hT,.inr ⟨hc,trivial,trivial,trivial⟩⟩,h2⟩
  |true=>simp only[opsP,awpDsE];exact .inl ⟨.tu [],[],[],by simp only[OpR,hg];exact⟨c,hT,.inr ⟨hc,trivial,trivial,trivial⟩⟩,h2⟩
theorem awpDs_mono {K0 K1:List Ent→St→Prop}:∀ {l:List AO} {acc:List Ent} {s:St},awpDs P l acc s K0→(∀ L s',K0 L s'→K1 L s')→awpDs P l acc s K1
 |[],acc,s,h,hk=>hk _ _ h
 |o :: l,acc,s,⟨v,us,xs,h1,h2⟩,hk=>⟨v,us,xs,h1,awpDs_mono h2 hk⟩
theorem awpDsE_mono {all:List AO} {K0 K1:List Ent→St→Prop}:∀ {l:List AO} {acc:List Ent} {s:St},awpDsE P all l acc s K0→(∀ L s',K0 L s'→K1 L s')→awpDsE P all l acc s K1
 |[],acc,s,h,hk=>hk _ _ h
 |o :: l,acc,s,h,hk=>by
  rcases h with ⟨v,us,xs,h1,h2⟩|⟨Qs,us,xs,h1,h2,h3,h4,h5⟩
  ·exact .inl ⟨v,us,xs,h1,awpDsE_mono h2 hk⟩
  ·exact .inr ⟨Qs,us,xs,h1,h2,h3,h4,fun q hq=>awpDs_mono (h5 q hq) hk⟩
theorem go_mean:∀ (n:Nat) (md:Md) (r:List Fm) (T:Nat→V) (m:M),Go P cx Q n md r T m→Mean P cx Q md r T m:=by
 intro n
 induction n with
 |zero=>intro md r T m h;cases md <;> simp [Go] at h
 |succ n ih =>
  intro md r T m h
  cases md with
  |ex e =>
   cases e with
   |normal =>
    cases r with
    |nil=>exact h
    |cons f r =>
     cases f with
     |run c =>
      simp only[Mean,stk,thenE]
      cases c with
      |skip=>exact Awp.skip (ih _ _ _ _ h)
      |seq x y=>exact Awp.seq (ih _ _ _ _ h)
      |region l dr =>
       cases dr with
       |false=>exact Awp.region (ih _ _ _ _ h)
       |true =>
        obtain⟨h1,h2⟩:=h
        have h3:=ih _ _ _ _ h2
        simp only[Mean,stk,thenE,opsP] at h3
        by_cases hw:wfAfter 0 l=true
        ·refine Awp.regionDE h1 hw ?_
         refine awpDsE_mono h3 fun L s' hh=>?_
         obtain⟨g1,g2⟩:=hh
         simp only[drawOK,Bool.and_eq_true] at g1
         exact⟨g1.2,g2⟩
        ·exfalso
         rcases awpDsE_ok h3 with ⟨L,s',g1,g2,g3,g4⟩|⟨A,o,B,s1,Qs,us,xs,L2,s',g1,g2,g3,g4,g5,g6,g7⟩
         ·simp only[drawOK,Bool.and_eq_true] at g3
          exact hw g3.1
         ·obtain⟨q0,hq0⟩:=(stepP_call g5).2.2
          have:=(g7 q0 hq0).2.2.1
          simp only[drawOK,Bool.and_eq_true] at this
          exact hw this.1
      |block id x=>exact Awp.block (ih _ _ _ _ h)
      |exit id=>exact Awp.exit (ih _ _ _ _ h)
      |ret=>exact Awp.ret (ih _ _ _ _ h)
      |cond c x y=>exact ih _ _ _ _ h c rfl
      |loop x=>exact h
      |clr c=>exact h
     |blk id=>exact ih (.ex .normal) r T m h
     |lp A=>exact h
     |ops l dr =>
      simp only[Mean,stk,thenE]
      cases l with
      |nil =>
       cases dr with
       |none=>exact ih _ _ _ _ h
       |some d=>obtain⟨all,acc,fl⟩:=d;cases fl <;> exact⟨h.1,ih _ _ _ _ h.2⟩
      |cons o l =>
       cases hg:o.guard with
       |none =>
        simp only[Go,hg] at h
        rcases ih _ _ _ _ h l dr r rfl rfl with ⟨v,us,h1,h2⟩|⟨rfl,_,h1⟩|⟨all,acc,Qs,us,rfl,_,h1,h2,h3⟩
        ·exact opsP_op hg h1 h2
        ·simp only[opsP,awpOps,hg]
         exact .inr h1
        ·simp only[opsP,awpDsE]
         exact .inr ⟨Qs,us,_,hg,rfl,h2,h1,h3⟩
       |some g =>
        obtain⟨j,t,b⟩:=g
        simp only[Go,hg] at h
        refine ih _ _ _ _ h l dr r rfl (fun j' t' b' e=>?_) (by simp [hg]) rfl
        rw[hg] at e;cases e;rfl
   |ret =>
    cases r with
    |nil=>exact h
    |cons f r =>
     have:=ih _ _ _ _ h
     cases f <;> exact this
   |exit i =>
    cases r with
    |nil=>exact h
    |cons f r =>
     cases f with
     |blk id =>
      simp only[Mean,stk,blockE]
      simp only[Go] at h
      split
      ·rename_i e;rw[if_pos e] at h;exact ih _ _ _ _ h
      ·rename_i e;rw[if_neg e] at h;exact ih _ _ _ _ h
     |_=>exact ih (.ex (.exit i)) r T m h
   |_=>cases r <;> exact h.elim
  |br v x y =>
   intro c hc
   unfold Go at h
   split at h
   ·exact Awp.cond true hc (fun _=>ih _ _ _ _ h) (fun e=>by cases e)
   ·exact Awp.cond false hc (fun e=>by cases e) (fun _=>ih _ _ _ _ h)
   ·exact Awp.condU hc (ih _ _ _ _ h.1) (ih _ _ _ _ h.2)
   ·exact h.elim
  |gd v o ys =>
   intro l dr r' hr hT hs hy
   subst hr
   unfold Go at h
   split at h
   ·rename_i c j t b hg
    have hT':=hT _ _ _ hg
    split at h
    ·rename_i e
     subst e
     obtain⟨v',us,h1,h2⟩:=(ih _ _ _ _ h l dr r' rfl rfl).resolve_right fun h=>by rw[hg] at h;simp at h
     have h1:=h1.resolve_right fun h=>by rw[hg] at h;simp at h
     subst hy
     exact opsP_gd hg hT' h1 h2
    ·rename_i e
     obtain⟨v',us,h1,h2⟩:=ih _ _ _ _ h l dr r' rfl
     cases h1
     exact opsP_gn hg (by rw[hT'];rfl) (by simpa using e) h2
   ·rename_i g hg
    obtain⟨j,t,b⟩:=g
    obtain⟨v',us,h1,h2⟩:=ih _ _ _ _ h l dr r' rfl
    cases h1
    exact opsP_gn hg (by rw[hT _ _ _ hg];rfl) (by simp) h2
   ·exact h.elim
  |op pl o ys =>
   intro l dr r' hr hp
   subst hr
   cases pl with
   |false=>exact h _ _ _ rfl hp
   |true =>
    obtain⟨h1,h2⟩:=h
    obtain⟨v,us,h3,h4⟩:=ih _ _ _ _ h2 l dr r' rfl
    exact .inl ⟨v,us,.inl (stepA_plain hp.symm h3 h1),h4⟩
  |res o ys q =>
   intro l dr r' hr
   subst hr
   cases q with
   |none=>exact h.elim
   |some q=>obtain⟨v,us⟩:=q;exact⟨v,us,rfl,ih _ _ _ _ h⟩
theorem go_in {c:AC} {s:St} (n:Nat) (h:Go P cx Q n (.ex .normal) [.run c] s.T s.m):Awp P cx c Q s:=go_mean n _ _ _ _ h
theorem go_call {o:AO} {f:FuncId} {d:Nat} {l:List AO} {dr:Option (List AO × List Ent × Bool)} {r:List Fm} {T:Nat→V} {m:M} {zs ys:List V} {bx bx':U} {q v:V} {as:List O} {us:U} (n:Nat) (hD:Does P f ys bx q bx' as) (hk:o.k=.call f) (hd:o.dst.getD 0=d) (hA:argFs m bx zs ys) (hF:CallForm m (1000*(d+2)) bx q bx' as)
  (hv:q.ren (1000*(d+2)) m=v) (hu:frz m (lentOut bx (V.flats zs))++(bx'++freshIn (1000*(d+2)) m as)=us) (h:Go P cx Q n (.res o zs (some (v,us))) (.ops l dr :: r) T m):Mean P cx Q (.op false o zs) (.ops l dr :: r) T m:=by
 intro l' dr' r' hr hp
 cases hr
 obtain⟨v',us',h1,h2⟩:=go_mean n _ _ _ _ h _ _ _ rfl
 cases h1
 refine .inl ⟨v,us,.inl ?_,h2⟩
 subst hd
 simp only[StepA,hk]
 exact .inl ⟨ys,bx,q,bx',as,hD,hF,(ags_of zs ys hA).2.2,hv.symm,hu.symm⟩
theorem go_callv {o:AO} {f:FuncId} {caps zs':List V} {d:Nat} {l:List AO} {dr:Option (List AO × List Ent × Bool)} {r:List Fm} {T:Nat→V} {m:M} {ys:List V} {bx bx':U} {q v:V} {as:List O} {us:U} (n:Nat) (hD:Does P f ys bx q bx' as) (hk:o.k=.callv) (hf:fnOKv P f=true) (hd:o.dst.getD 0=d) (hA:argFs m bx (zs'++caps) ys) (hF:CallForm m (1000*(d+2)) bx q bx' as)
  (hv:q.ren (1000*(d+2)) m=v) (hu:frz m (lentOut bx (V.flats (zs'++caps)))++(bx'++freshIn (1000*(d+2)) m as)=us) (h:Go P cx Q n (.res o (.cl f caps :: zs') (some (v,us))) (.ops l dr :: r) T m):Mean P cx Q (.op false o (.cl f caps :: zs')) (.ops l dr :: r) T m:=by
 intro l' dr' r' hr hp
 cases hr
 obtain⟨v',us',h1,h2⟩:=go_mean n _ _ _ _ h _ _ _ rfl
 cases h1
 refine .inl ⟨v,us,.inl ?_,h2⟩
 subst hd
 simp only[StepA,hk]
 exact⟨f,caps,zs',rfl,.inl ⟨hf,.inl ⟨ys,bx,q,bx',as,hD,hF,(ags_of _ ys hA).2.2,hv.symm,hu.symm⟩⟩⟩
def formU (m:M) (b n:Nat):U→U→Prop
 |[],[]=>True
 |(i,o) :: r,(j,o') :: r'=>(j=i∧o'.kind=o.kind∧i<1000000∧(i<b∨b+n≤i)∧o.wfB=true∧o.live=true∧o'.wfB=true∧m i=some o∧inU r i=false)∧formU m b n r r'
 |_,_=>False
theorem formU_ok {m:M} {b n:Nat}:∀ {bx bx':U},formU m b n bx bx'→bx'.map (·.1)=bx.map (·.1)∧bx'.map (·.2.kind)=bx.map (·.2.kind)∧(bx.map (·.1)).Nodup∧(∀ x ∈ bx,x.1<1000000∧(x.1<b∨b+n≤x.1))∧(∀ x ∈ bx,(x.2.wfB=true∧x.2.live=true)∧m x.1=some x.2)∧∀ x ∈ bx',x.2.wfB=true
 |[],[],_=>by simp
 |(i,o) :: r,(j,o') :: r',h=>by
  simp only[formU] at h
  obtain⟨⟨rfl,h1,h2,h3,h4,h5,h6,h7,h8⟩,h9⟩:=h
  obtain⟨g1,g2,g3,g4,g5,g6⟩:=formU_ok h9
  refine⟨by simp [g1],by simp only[List.map_cons,g2,h1],?_,?_,?_,?_⟩
  ·simp only[List.map_cons,List.nodup_cons]
   refine⟨fun hm=>?_,g3⟩
   obtain⟨x,hx,e⟩:=List.mem_map.1 hm
   have:=mem_inU (i:=x.1) (o:=x.2) hx
   rw[e,h8] at this
   cases this
  ·intro x hx
   rcases List.mem_cons.1 hx with rfl|hx
   ·exact⟨h2,h3⟩
   ·exact g4 x hx
  ·intro x hx
   rcases List.mem_cons.1 hx with rfl|hx
   ·exact⟨⟨h4,h5⟩,h7⟩
   ·exact g5 x hx
  ·intro x hx
   rcases List.mem_cons.1 hx with rfl|hx
   ·exact h6
   ·exact g6 x hx
 |[],_ :: _,h=>by simp [formU] at h
 |_ :: _,[],h=>by simp [formU] at h
theorem CallForm.lent {m:M} {b:Nat} {bx bx':U} {q:V} {as:List O} (h:formU m b as.length bx bx') (hw:as.all O.wf=true) (hr:q.wfR bx' as.length=true):CallForm m b bx q bx' as:=by
 obtain⟨g1,g2,g3,g4,g5,g6⟩:=formU_ok h
 exact⟨g1,g2,g3,g4,g5,g6,hw,hr⟩
theorem go_br {n:Nat} {c:Bool} {x y:AC} {r:List Fm} {T:Nat→V} {m:M} (h1:c=true→Go P cx Q n (.br (.d (.at (.bool true))) x y) r T m) (h2:c=false→Go P cx Q n (.br (.d (.at (.bool false))) x y) r T m):Go P cx Q n (.br (.d (.at (.bool c))) x y) r T m:=by
 cases c with
 |true=>exact h1 rfl
 |false=>exact h2 rfl
theorem go_gs {n:Nat} {c:Bool} {dst:Option Nat} {k:K} {xs:List AV} {af:List Nat} {j t:Nat} {b:Bool} {ys:List V} {r:List Fm} {T:Nat→V} {m:M} (hT:T t=.d (.at (.bool c))) (h1:c=true→Go P cx Q n (.gd (.d (.at (.bool true))) ⟨dst,k,xs,af,some (j,t,b)⟩ ys) r (up T t (.d (.at (.bool true)))) m) (h2:c=false→Go P cx Q n (.gd (.d (.at (.bool false))) ⟨dst,k,xs,af,some (j,t,b)⟩ ys) r (up T t (.d (.at (.bool false)))) m):Go P cx Q n (.gd (.d (.at (.bool c))) ⟨dst,k,xs,af,some (j,t,b)⟩ ys) r T m:=by
 cases c with
 |true=>have:=h1 rfl;rwa [up_self hT] at this
 |false=>have:=h2 rfl;rwa [up_self hT] at this
theorem go_brD {n:Nat} {p:Prop} {dp:Decidable p} {x y:AC} {r:List Fm} {T:Nat→V} {m:M} (h1:p→Go P cx Q n (.br (.d (.at (.bool true))) x y) r T m) (h2:¬p→Go P cx Q n (.br (.d (.at (.bool false))) x y) r T m):Go P cx Q n (.br (.d (.at (.bool (@decide p dp)))) x y) r T m :=
 go_br (fun h=>h1 (of_decide_eq_true h)) (fun h=>h2 (of_decide_eq_false h))
theorem go_gsD {n:Nat} {p:Prop} {dp:Decidable p} {dst:Option Nat} {k:K} {xs:List AV} {af:List Nat} {j t:Nat} {b:Bool} {ys:List V} {r:List Fm} {T:Nat→V} {m:M} (hT:T t=.d (.at (.bool (@decide p dp)))) (h1:p→Go P cx Q n (.gd (.d (.at (.bool true))) ⟨dst,k,xs,af,some (j,t,b)⟩ ys) r (up T t (.d (.at (.bool true)))) m) (h2:¬p→Go P cx Q n (.gd (.d (.at (.bool false))) ⟨dst,k,xs,af,some (j,t,b)⟩ ys) r (up T t (.d (.at (.bool false)))) m):Go P cx Q n (.gd (.d (.at (.bool (@decide p dp)))) ⟨dst,k,xs,af,some (j,t,b)⟩ ys) r T m :=
 go_gs hT (fun h=>h1 (of_decide_eq_true h)) (fun h=>h2 (of_decide_eq_false h))
theorem go_loop {ι:Type} {x:AC} {bx:U} {r:List Fm} {T:Nat→V} {m:M} (n:Nat) (hx:cx.m0=ups M0 bx) (T0:ι→List (Nat × V)) (ml:ι→U) (μ:ι→Nat) (ad:List Nat) (i0:ι) (h0:GeS ⟨T,m⟩ ad (T0 i0) (ml i0) bx)
  (hr:∀ i,Go P cx Q n (.ex .normal) (.run x :: .lp (fun s'=>∃ i',GeS s' [] (T0 i') (ml i') bx∧μ i'<μ i) :: r) (tl (T0 i)) (ups M0 (ml i))):Awp P cx (.loop x) (stk P cx Q r) ⟨T,m⟩ :=
 Awp.loopF hx T0 ml μ ad i0 h0 fun i=>go_mean n _ _ _ _ (hr i)
/-! ### The equations -/
variable {n:Nat} {r:List Fm} {T:Nat→V} {m:M}
theorem ge_end:Go P cx Q (n+1) (.ex .normal) [] T m=Q .normal ⟨T,m⟩:=rfl
theorem ge_skip:Go P cx Q (n+1) (.ex .normal) (.run .skip :: r) T m=Go P cx Q n (.ex .normal) r T m:=rfl
theorem ge_seq {x y:AC}:Go P cx Q (n+1) (.ex .normal) (.run (.seq x y) :: r) T m=Go P cx Q n (.ex .normal) (.run x :: .run y :: r) T m:=rfl
theorem ge_reg {l:List AO}:Go P cx Q (n+1) (.ex .normal) (.run (.region l false) :: r) T m=Go P cx Q n (.ex .normal) (.ops l none :: r) T m:=rfl
theorem ge_regD {l:List AO}:Go P cx Q (n+1) (.ex .normal) (.run (.region l true) :: r) T m=(P.follows .mixedOrders=true∧Go P cx Q n (.ex .normal) (.ops l (some (l,[],true)) :: r) T m):=rfl
theorem ge_blk {id:Nat} {x:AC}:Go P cx Q (n+1) (.ex .normal) (.run (.block id x) :: r) T m=Go P cx Q n (.ex .normal) (.run x :: .blk id :: r) T m:=rfl
theorem ge_exit {id:Nat}:Go P cx Q (n+1) (.ex .normal) (.run (.exit id) :: r) T m=Go P cx Q n (.ex (.exit id)) r T m:=rfl
theorem ge_ret:Go P cx Q (n+1) (.ex .normal) (.run .ret :: r) T m=Go P cx Q n (.ex .ret) r T m:=rfl
theorem ge_cond {c:AV} {x y:AC}:Go P cx Q (n+1) (.ex .normal) (.run (.cond c x y) :: r) T m=Go P cx Q n (.br (ev T c) x y) r T m:=rfl
theorem ge_loop {x:AC}:Go P cx Q (n+1) (.ex .normal) (.run (.loop x) :: r) T m=Awp P cx (.loop x) (stk P cx Q r) ⟨T,m⟩:=rfl
theorem ge_clr {c:Clr}:Go P cx Q (n+1) (.ex .normal) (.run (.clr c) :: r) T m=Awp P cx (.clr c) (stk P cx Q r) ⟨T,m⟩:=rfl
theorem ge_blkN {id:Nat}:Go P cx Q (n+1) (.ex .normal) (.blk id :: r) T m=Go P cx Q n (.ex .normal) r T m:=rfl
theorem ge_lp {A:St→Prop}:Go P cx Q (n+1) (.ex .normal) (.lp A :: r) T m=A ⟨T,m⟩:=rfl
theorem ge_ops:Go P cx Q (n+1) (.ex .normal) (.ops [] none :: r) T m=Go P cx Q n (.ex .normal) r T m:=rfl
theorem ge_opsD {all:List AO} {acc:List Ent} {fl:Bool}:Go P cx Q (n+1) (.ex .normal) (.ops [] (some (all,acc,fl)) :: r) T m=(drawOK all acc.reverse=true∧Go P cx Q n (.ex .normal) r T m):=rfl
theorem ge_op {dst:Option Nat} {k:K} {xs:List AV} {af:List Nat} {l:List AO} {dr:Option (List AO × List Ent × Bool)}:Go P cx Q (n+1) (.ex .normal) (.ops (⟨dst,k,xs,af,none⟩ :: l) dr :: r) T m=Go P cx Q n (.op k.plain ⟨dst,k,xs,af,none⟩ (xs.map (ev T))) (.ops l dr :: r) T m:=rfl
theorem ge_gd {dst:Option Nat} {k:K} {xs:List AV} {af:List Nat} {j t:Nat} {b:Bool} {l:List AO} {dr:Option (List AO × List Ent × Bool)}:Go P cx Q (n+1) (.ex .normal) (.ops (⟨dst,k,xs,af,some (j,t,b)⟩ :: l) dr :: r) T m=Go P cx Q n (.gd (T t) ⟨dst,k,xs,af,some (j,t,b)⟩ (xs.map (ev T))) (.ops l dr :: r) T m:=rfl
theorem ge_retN:Go P cx Q (n+1) (.ex .ret) [] T m=Q .ret ⟨T,m⟩:=rfl
theorem ge_retC {f:Fm}:Go P cx Q (n+1) (.ex .ret) (f :: r) T m=Go P cx Q n (.ex .ret) r T m:=rfl
theorem ge_exN {i:Nat}:Go P cx Q (n+1) (.ex (.exit i)) [] T m=Q (.exit i) ⟨T,m⟩:=rfl
theorem ge_exR {i:Nat} {c:AC}:Go P cx Q (n+1) (.ex (.exit i)) (.run c :: r) T m=Go P cx Q n (.ex (.exit i)) r T m:=rfl
theorem ge_exO {i:Nat} {l:List AO} {dr:Option (List AO × List Ent × Bool)}:Go P cx Q (n+1) (.ex (.exit i)) (.ops l dr :: r) T m=Go P cx Q n (.ex (.exit i)) r T m:=rfl
theorem ge_exL {i:Nat} {A:St→Prop}:Go P cx Q (n+1) (.ex (.exit i)) (.lp A :: r) T m=Go P cx Q n (.ex (.exit i)) r T m:=rfl
theorem ge_exB {i id:Nat}:Go P cx Q (n+1) (.ex (.exit i)) (.blk id :: r) T m=if i=id then Go P cx Q n (.ex .normal) r T m else Go P cx Q n (.ex (.exit i)) r T m:=rfl
theorem ge_t {x y:AC}:Go P cx Q (n+1) (.br (.d (.at (.bool true))) x y) r T m=Go P cx Q n (.ex .normal) (.run x :: r) T m:=rfl
theorem ge_f {x y:AC}:Go P cx Q (n+1) (.br (.d (.at (.bool false))) x y) r T m=Go P cx Q n (.ex .normal) (.run y :: r) T m:=rfl
theorem ge_u {x y:AC}:Go P cx Q (n+1) (.br .ub x y) r T m=(Go P cx Q n (.ex .normal) (.run x :: r) T m∧Go P cx Q n (.ex .normal) (.run y :: r) T m):=rfl
section
variable {dst:Option Nat} {d:Nat} {k:K} {xs:List AV} {af:List Nat} {j t:Nat} {ys:List V} {g:Option (Nat × Nat × Bool)} {l:List AO} {v:V} {us:U} {all:List AO} {acc:List Ent}
theorem ge_gtt:Go P cx Q (n+1) (.gd (.d (.at (.bool true))) ⟨dst,k,xs,af,some (j,t,true)⟩ ys) r T m=Go P cx Q n (.op k.plain ⟨dst,k,xs,af,some (j,t,true)⟩ ys) r T m:=rfl
theorem ge_gff:Go P cx Q (n+1) (.gd (.d (.at (.bool false))) ⟨dst,k,xs,af,some (j,t,false)⟩ ys) r T m=Go P cx Q n (.op k.plain ⟨dst,k,xs,af,some (j,t,false)⟩ ys) r T m:=rfl
theorem ge_gtf:Go P cx Q (n+1) (.gd (.d (.at (.bool true))) ⟨dst,k,xs,af,some (j,t,false)⟩ ys) r T m=Go P cx Q n (.res ⟨dst,k,xs,af,some (j,t,false)⟩ [] (some (.tu [],[]))) r T m:=rfl
theorem ge_gft:Go P cx Q (n+1) (.gd (.d (.at (.bool false))) ⟨dst,k,xs,af,some (j,t,true)⟩ ys) r T m=Go P cx Q n (.res ⟨dst,k,xs,af,some (j,t,true)⟩ [] (some (.tu [],[]))) r T m:=rfl
theorem ge_gn {b:Bool}:Go P cx Q (n+1) (.gd (.tu []) ⟨dst,k,xs,af,some (j,t,b)⟩ ys) r T m=Go P cx Q n (.res ⟨dst,k,xs,af,some (j,t,b)⟩ [] (some (.tu [],[]))) r T m:=rfl
theorem ge_pl:Go P cx Q (n+1) (.op true ⟨dst,k,xs,af,g⟩ ys) r T m=(pre k m ys∧Go P cx Q n (.res ⟨dst,k,xs,af,g⟩ ys (sem k (dst.getD 0) m ys)) r T m):=rfl
theorem ge_np:Go P cx Q (n+1) (.op false ⟨dst,k,xs,af,g⟩ ys) r T m=Mean P cx Q (.op false ⟨dst,k,xs,af,g⟩ ys) r T m:=rfl
theorem ge_r1:Go P cx Q (n+1) (.res ⟨some d,k,xs,af,g⟩ ys (some (v,us))) (.ops l none :: r) T m=Go P cx Q n (.ex .normal) (.ops l none :: r) (up T d v) (ups m us):=rfl
theorem ge_r0:Go P cx Q (n+1) (.res ⟨none,k,xs,af,g⟩ ys (some (v,us))) (.ops l none :: r) T m=Go P cx Q n (.ex .normal) (.ops l none :: r) T (ups m us):=rfl
theorem ge_r1D {fl:Bool}:Go P cx Q (n+1) (.res ⟨some d,k,xs,af,g⟩ ys (some (v,us))) (.ops l (some (all,acc,fl)) :: r) T m=Go P cx Q n (.ex .normal) (.ops l (some (all,⟨⟨some d,k,xs,af,g⟩,v,us,ys⟩ :: acc,fl)) :: r) (up T d v) (ups m us):=rfl
theorem ge_r0D {fl:Bool}:Go P cx Q (n+1) (.res ⟨none,k,xs,af,g⟩ ys (some (v,us))) (.ops l (some (all,acc,fl)) :: r) T m=Go P cx Q n (.ex .normal) (.ops l (some (all,⟨⟨none,k,xs,af,g⟩,v,us,ys⟩ :: acc,fl)) :: r) T (ups m us):=rfl
end
theorem pl_mov:K.plain .mov=true:=rfl
theorem pl_pick:K.plain .pick=true:=rfl
theorem pl_box:K.plain .box=true:=rfl
theorem pl_nck:K.plain .nck=true:=rfl
theorem pl_ixs:K.plain .ixs=true:=rfl
theorem pl_callv:K.plain .callv=false:=rfl
theorem pl_len:K.plain .len=true:=rfl
theorem pl_lens:K.plain .lens=true:=rfl
theorem pl_mn:K.plain .mn=true:=rfl
theorem pl_mx:K.plain .mx=true:=rfl
theorem pl_alloc {z:List V}:K.plain (.alloc z)=true:=rfl
theorem pl_build {z:List V} {fs:List (Nat × Nat)}:K.plain (.build z fs)=true:=rfl
theorem pl_bsl {k:Nat} {z:List V} {n:Nat} {fs:List Nat}:K.plain (.bsl k z n fs)=true:=rfl
theorem pl_load {n:Nat} {g:Bool}:K.plain (.load n g)=true:=rfl
theorem pl_store {n:Nat}:K.plain (.store n)=true:=rfl
theorem pl_bin {op:BinOp}:K.plain (.bin op)=true:=rfl
theorem pl_beq {ne:Bool}:K.plain (.beq ne)=true:=rfl
theorem pl_isn {ne:Bool}:K.plain (.isn ne)=true:=rfl
theorem pl_seq {n:Nat} {ne:Bool}:K.plain (.seq n ne)=true:=rfl
theorem pl_un {op:UnOp}:K.plain (.un op)=true:=rfl
theorem pl_conv {k:IntKind}:K.plain (.conv k)=true:=rfl
theorem pl_mkf {f:FuncId}:K.plain (.mkf f)=true:=rfl
theorem pl_mks {k:Nat} {z:List V} {bytes:Nat}:K.plain (.mks k z bytes)=true:=rfl
theorem pl_slc {lo:Bool} {hi:Bool} {mx:Bool} {k:Nat}:K.plain (.slc lo hi mx k)=true:=rfl
theorem pl_fad {off:Nat}:K.plain (.fad off)=true:=rfl
theorem pl_fld {off:Nat} {n:Nat} {g:Bool}:K.plain (.fld off n g)=true:=rfl
theorem pl_iad {k:Nat}:K.plain (.iad k)=true:=rfl
theorem pl_iada {n:Nat} {k:Nat}:K.plain (.iada n k)=true:=rfl
theorem pl_ixa {n:Nat} {k:Nat} {g:Bool}:K.plain (.ixa n k g)=true:=rfl
theorem pl_ext {j:Nat}:K.plain (.ext j)=true:=rfl
theorem pl_call {f:FuncId}:K.plain (.call f)=false:=rfl
theorem pl_app {k:Nat} {bytes:Nat}:K.plain (.app k bytes)=true:=rfl
theorem pl_cpy {k:Nat}:K.plain (.cpy k)=true:=rfl
theorem gd_some {x y:Nat}:(some x).getD y=x:=rfl
theorem gd_none {y:Nat}:(none:Option Nat).getD y=y:=rfl
theorem GE:type_of% (And.intro (@ge_end) (And.intro (@ge_skip) (And.intro (@ge_seq) (And.intro (@ge_reg) (And.intro (@ge_regD) (And.intro (@ge_blk) (And.intro (@ge_exit) (And.intro (@ge_ret) (And.intro (@ge_cond) (And.intro (@ge_loop) (And.intro (@ge_clr) (And.intro (@ge_blkN) (And.intro (@ge_lp) (And.intro (@ge_ops) (And.intro (@ge_opsD) (And.intro (@ge_op) (And.intro (@ge_gd) (And.intro (@ge_retN) (And.intro (@ge_retC) (And.intro (@ge_exN) (And.intro (@ge_exR) (And.intro (@ge_exO) (And.intro (@ge_exL) (And.intro (@ge_exB) (And.intro (@ge_t) (And.intro (@ge_f) (And.intro (@ge_u) (And.intro (@ge_gtt) (And.intro (@ge_gff) (And.intro (@ge_gtf) (And.intro (@ge_gft) (And.intro (@ge_gn) (And.intro (@ge_pl) (And.intro (@ge_np) (And.intro (@ge_r1) (And.intro (@ge_r0) (And.intro (@ge_r1D) ((@ge_r0D))))))))))))))))))))))))))))))))))))))) :=
 And.intro (@ge_end) (And.intro (@ge_skip) (And.intro (@ge_seq) (And.intro (@ge_reg) (And.intro (@ge_regD) (And.intro (@ge_blk) (And.intro (@ge_exit) (And.intro (@ge_ret) (And.intro (@ge_cond) (And.intro (@ge_loop) (And.intro (@ge_clr) (And.intro (@ge_blkN) (And.intro (@ge_lp) (And.intro (@ge_ops) (And.intro (@ge_opsD) (And.intro (@ge_op) (And.intro (@ge_gd) (And.intro (@ge_retN) (And.intro (@ge_retC) (And.intro (@ge_exN) (And.intro (@ge_exR) (And.intro (@ge_exO) (And.intro (@ge_exL) (And.intro (@ge_exB) (And.intro (@ge_t) (And.intro (@ge_f) (And.intro (@ge_u) (And.intro (@ge_gtt) (And.intro (@ge_gff) (And.intro (@ge_gtf) (And.intro (@ge_gft) (And.intro (@ge_gn) (And.intro (@ge_pl) (And.intro (@ge_np) (And.intro (@ge_r1) (And.intro (@ge_r0) (And.intro (@ge_r1D) ((@ge_r0D))))))))))))))))))))))))))))))))))))))
theorem pl_bslv {n:Nat}:(K.bslv n).plain=true:=rfl
theorem pl_bslw {n:Nat}:(K.bslw n).plain=true:=rfl
theorem pl_tail {k:Nat}:(K.tail k).plain=true:=rfl
theorem pl_cutm {k:Nat}:(K.cutm k).plain=true:=rfl
theorem pl_fxc {k:Nat}:(K.fxc k).plain=true:=rfl
theorem pl_mkm:(K.mkm).plain=true:=rfl
theorem pl_lkp:(K.lkp).plain=true:=rfl
theorem pl_mup:(K.mup).plain=true:=rfl
theorem pl_ldg {g:Nat}:(K.ldg g).plain=true:=rfl
theorem pl_ifn {b:Bool}:(K.ifn b).plain=true:=rfl
theorem pl_bad:(K.bad).plain=true:=rfl
theorem pl_tob:(K.tob).plain=true:=rfl
theorem pl_tos:(K.tos).plain=true:=rfl
theorem PL:type_of% (And.intro (@pl_tob) (And.intro (@pl_tos) (And.intro (@pl_bslw) (And.intro (@pl_bad) (And.intro (@pl_ifn) (And.intro (@pl_ldg) (And.intro (@pl_mup) (And.intro (@pl_lkp) (And.intro (@pl_mkm) (And.intro (@pl_fxc) (And.intro (@pl_cutm) (And.intro (@pl_tail) (And.intro (@pl_bslv) (And.intro (@pl_mov) (And.intro (@pl_pick) (And.intro (@pl_box) (And.intro (@pl_nck) (And.intro (@pl_ixs) (And.intro (@pl_callv) (And.intro (@pl_len) (And.intro (@pl_lens) (And.intro (@pl_mn) (And.intro (@pl_mx) (And.intro (@pl_alloc) (And.intro (@pl_build) (And.intro (@pl_bsl) (And.intro (@pl_load) (And.intro (@pl_store) (And.intro (@pl_bin) (And.intro (@pl_beq) (And.intro (@pl_isn) (And.intro (@pl_seq) (And.intro (@pl_un) (And.intro (@pl_conv) (And.intro (@pl_mkf) (And.intro (@pl_mks) (And.intro (@pl_slc) (And.intro (@pl_fad) (And.intro (@pl_fld) (And.intro (@pl_iad) (And.intro (@pl_iada) (And.intro (@pl_ixa) (And.intro (@pl_ext) (And.intro (@pl_call) (And.intro (@pl_app) (And.intro (@pl_cpy) (And.intro (@gd_some) (@gd_none)))))))))))))))))))))))))))))))))))))))))))))))) :=
 And.intro (@pl_tob) (And.intro (@pl_tos) (And.intro (@pl_bslw) (And.intro (@pl_bad) (And.intro (@pl_ifn) (And.intro (@pl_ldg) (And.intro (@pl_mup) (And.intro (@pl_lkp) (And.intro (@pl_mkm) (And.intro (@pl_fxc) (And.intro (@pl_cutm) (And.intro (@pl_tail) (And.intro (@pl_bslv) (And.intro (@pl_mov) (And.intro (@pl_pick) (And.intro (@pl_box) (And.intro (@pl_nck) (And.intro (@pl_ixs) (And.intro (@pl_callv) (And.intro (@pl_len) (And.intro (@pl_lens) (And.intro (@pl_mn) (And.intro (@pl_mx) (And.intro (@pl_alloc) (And.intro (@pl_build) (And.intro (@pl_bsl) (And.intro (@pl_load) (And.intro (@pl_store) (And.intro (@pl_bin) (And.intro (@pl_beq) (And.intro (@pl_isn) (And.intro (@pl_seq) (And.intro (@pl_un) (And.intro (@pl_conv) (And.intro (@pl_mkf) (And.intro (@pl_mks) (And.intro (@pl_slc) (And.intro (@pl_fad) (And.intro (@pl_fld) (And.intro (@pl_iad) (And.intro (@pl_iada) (And.intro (@pl_ixa) (And.intro (@pl_ext) (And.intro (@pl_call) (And.intro (@pl_app) (And.intro (@pl_cpy) (And.intro (@gd_some) (@gd_none)))))))))))))))))))))))))))))))))))))))))))))))
end
end Go.Proofs.YticdbambknflgaaGreat.Sim
