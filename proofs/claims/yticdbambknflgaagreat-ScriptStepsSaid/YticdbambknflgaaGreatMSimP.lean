/- Code on values without memory: of no program. Conditions: none. -/
import Derived.Test.YticdbambknflgaaGreatMSimN
import Derived.Test.YticdbambknflgaaGreatMSimK
section
namespace Go.Proofs.YticdbambknflgaaGreat.Sim
open Go Go.RowKit Go.Deep
set_option linter.unusedVariables false
def DoesE (P:Program) (f:FuncId) (xs:List V) (bx:U) (Qs:V→U→Prop):Prop :=
 ∀ (w:World) (hd:H) (S X:Nat→Prop) (us:List Value),Gk w X→Mem (ups M0 bx) hd w S X w.heap.size→VRs (ups M0 bx) hd w S xs us →
  Calls P f us.toArray w fun e w'=>∃ r bx',Qs r bx'∧∃ u hd' S',e=.returned u∧Fr w w' X∧Mem (ups M0 (bx'++fresh [])) hd' w' S' X w.heap.size∧VR (ups M0 (bx'++fresh [])) hd' w' S' r u∧(∀ b,S' b→S b∨w.heap.size≤b∨X b)∧Le (ups M0 bx) hd (ups M0 (bx'++fresh [])) hd'
theorem Does.e {P:Program} {f:FuncId} {xs:List V} {bx:U} {r:V} {bx':U} {Qs:V→U→Prop} (h:Does P f xs bx r bx' []) (hq:Qs r bx'):DoesE P f xs bx Qs :=
 fun w hd S X us h1 h2 h3=>(h w hd S X us h1 h2 h3).mono fun e w' h=>⟨r,bx',hq,h⟩
theorem DoesE.mono {P:Program} {f:FuncId} {xs:List V} {bx:U} {Qs Qs':V→U→Prop} (h:DoesE P f xs bx Qs) (hq:∀ r bx',Qs r bx'→Qs' r bx'):DoesE P f xs bx Qs' :=
 fun w hd S X us h1 h2 h3=>(h w hd S X us h1 h2 h3).mono fun e w' ⟨r,bx',h4,h5⟩=>⟨r,bx',hq _ _ h4,h5⟩
section
variable {m:M} {hd:H} {w:World} {S X:Nat→Prop} {B b:Nat} {bx:U}
theorem call_stepE {P:Program} {f:FuncId} {xs ys:List V} {us:List Value} {Qs:V→U→Prop} (hG:∀ g,GL.contains g=true→g<B∧¬ X g∧w.cell? ⟨g,0,none⟩=some GLV) (hD:DoesE P f ys bx Qs) (hI:CallForm m b bx (.tu []) bx []) (hQ:∀ r bx',Qs r bx'→CallForm m b bx r bx' []) (hm:Mem m hd w S X B) (hv:VRs m hd w S xs us) (ha:Args m bx xs ys) :
  Calls P f us.toArray w fun e w'=>∃ r bx',Qs r bx'∧∃ u hd2 S2,e=.returned u∧Out X B m hd w S (ups m (frz m (lentOut bx (V.flats xs))++(bx'++freshIn b m []))) hd2 w' S2∧VR (ups m (frz m (lentOut bx (V.flats xs))++(bx'++freshIn b m []))) hd2 w' S2 (r.ren b m) u:=by
 obtain⟨S1,o1⟩:=out_frzs hm (lentOut bx (V.flats xs))
 have hbox:∀ x ∈ bx,ups m (frz m (lentOut bx (V.flats xs))) x.1=some x.2:=fun x hx=>by
  rw[frz_keep fun v hv=>by have:=(lentOut_og.1 hv).2;rw[mem_inU hx] at this;cases this]
  exact (hI.box x hx).2
 have hmem0:=call_mem hI o1.mem hbox
 have hys:=args_ok o1.mem ha (o1.vrs hv) (fun i v k mu l hmem hno hi=>ups_frz_get hi _ _ (lentOut_og.2 ⟨hmem,hno⟩)) hbox hI.nd
 have hG':Gk w (fun k=>∃ x ∈ bx,blk (hd x.1)=some k):=fun g hg=>by
  obtain⟨g1,g2,g3⟩:=hG g hg
  refine⟨Nat.lt_of_lt_of_le g1 hm.base,?_,g3⟩
  rintro⟨x,hx,e⟩
  rcases (o1.mem.blk (hbox x hx) (hI.box x hx).1.2 e).2.2 with h|h
  ·exact g2 h
  ·omega
 refine (hD w hd S1 _ us hG' hmem0 hys).mono ?_
 rintro e w' ⟨r,bx',hq,u,hd',S',rfl,hfr,hmem,hvr,hsub,hle0⟩
 have hF:=hQ r bx' hq
 have hob:∀ {i:Nat} {o:O},(i,o) ∈ bx'→ups M0 (bx'++fresh []) i=some o:=fun {i o} h=>by
  rw[ups_append]
  show ups M0 bx' i=some o
  exact ups_mem hF.nd' h
 have hXc:∀ k,(∃ x ∈ bx,blk (hd x.1)=some k)→k<w.heap.size∧¬ S1 k∧(X k∨B≤k):=by
  rintro k ⟨x,hx,e⟩
  exact o1.mem.blk (hbox x hx) (hI.box x hx).1.2 e
 have hS2:∀ k,(S1 k∨S' k)→k<w'.heap.size:=fun k h=>h.elim (fun h=>Nat.lt_of_lt_of_le (o1.mem.lt k h) hfr.size) (hmem.lt k)
 have hnot:∀ k,(w.heap.size≤k∨∃ x ∈ bx,blk (hd x.1)=some k)→¬ S' k→¬ (S1 k∨S' k):=fun k h1 h2 h=>h.elim (fun h=>h1.elim (fun h1=>by have:=o1.mem.lt k h;omega) fun h1=>(hXc k h1).2.1 h) h2
 have hout:=call_out (S2:=fun k=>S1 k∨S' k) hF o1.mem hbox (fun i _ _=>frz_ver m _ i) hfr hmem hle0 (fun k h=>.inl h) hS2 (fun k h=>h.elim .inl (hsub k))
  (fun j o hj=>by simp at hj)
  (fun i o hi=>by
   have:=is_new (m2:=ups (ups m (frz m (lentOut bx (V.flats xs)))) (bx'++freshIn b m [])) (hd2:=hdC bx b ([]:List O).length hd hd') (X:=X) (B:=B) (v:=o.ver) (hF.box' _ hi) (hmem.obj _ _ (hob hi)) (fun k hk=>(hXc k hk).2.2.symm) o1.mem.base (fun k h _=>⟨.inr h,rfl⟩) hnot
   rwa [setv_self] at this)
 refine⟨r,bx',hq,u,hdC bx b ([]:List O).length hd hd',fun k=>S1 k∨S' k,rfl,by rw[ups_append];exact o1.trans hout,?_⟩
 rw[ups_append]
 refine ren_ok (n:=([]:List O).length) (bx:=bx') (fun k h=>.inr h) (fun i hi hlt=>?_) (fun j hj=>by simp at hj) r u hF.res hvr
 obtain⟨o,ho⟩:=inU_mem hi
 obtain⟨o0,h0,_⟩:=hF.find ho
 have hlow:=(hF.low _ h0).2
 simp only at hlow
 rcases call_cases hF (ups m (frz m (lentOut bx (V.flats xs)))) i with ⟨j,o',e,h1,h2,h3⟩|⟨o',o0,h1,h2,h3,h4,h5,h6⟩|⟨h1,h2,h3⟩
 ·simp at h1
 ·exact⟨by rw[h5,h6],hdC_bx h4 (mem_inU h2)⟩
 ·exact absurd rfl (h2 _ h0)
end
mutual
theorem ren_self {b:Nat} {m:M}:∀ (r:V),r.wfR [] 0=true→r.ren b m=r
 |.d _,_|.nl _,_=>by simp only[V.ren]
 |.og i v,h=>by
  simp only[V.wfR,inU] at h
  split at h
  ·cases h
  ·simp at h;omega
 |.bp i v o,h=>by
  simp only[V.wfR,inU] at h
  split at h
  ·cases h
  ·simp at h;omega
 |.ag l,h=>by simp only[V.ren];rw[rens_self l (by simpa only[V.wfR] using h)]
 |.tu l,h=>by simp only[V.ren];rw[rens_self l (by simpa only[V.wfR] using h)]
 |.un,h|.z0,h|.ub,h|.ep _ _ _ _,h|.fp _ _,h|.cl _ _,h|.vg _ _,h|.vp _ _ _,h|.ot _ _ _,h|.mh _ _,h|.fx _ _,h=>by simp [V.wfR] at h
theorem rens_self {b:Nat} {m:M}:∀ (l:List V),V.wfRs [] 0 l=true→V.rens b m l=l
 |[],_=>rfl
 |x :: l,h=>by
  simp only[V.wfRs,Bool.and_eq_true] at h
  simp only[V.rens,ren_self x h.1,rens_self l h.2]
end
theorem lentOut_nil:∀ (l:List V),lentOut [] l=l
 |[]=>rfl
 |.og i v :: l=>by simp only[lentOut,inU,Bool.false_eq_true,if_false,lentOut_nil l]
 |.un :: l|.z0 :: l|.ub :: l|.ep _ _ _ _ :: l|.fp _ _ :: l|.cl _ _ :: l|.vg _ _ :: l|.vp _ _ _ :: l|.ot _ _ _ :: l|.mh _ _ :: l|.fx _ _ :: l|.d _ :: l|.nl _ :: l|.bp _ _ _ :: l|.ag _ :: l|.tu _ :: l=>by simp only[lentOut,lentOut_nil l]
def DoesP (P:Program) (f:FuncId) (xs:List V) (Q:V→Prop):Prop:=(∃ r,Q r)∧DoesE P f xs [] fun r bx'=>Q r∧bx'=[]
theorem DoesP.mono {P:Program} {f:FuncId} {xs:List V} {Q Q':V→Prop} (h:DoesP P f xs Q) (hq:∀ r,Q r→Q' r):DoesP P f xs Q':=⟨h.1.imp hq,DoesE.mono h.2 fun r bx' ⟨h1,h2⟩=>⟨hq r h1,h2⟩⟩
theorem Does.p {P:Program} {f:FuncId} {xs:List V} {r:V} {Q:V→Prop} (h:Does P f xs [] r [] []) (hq:Q r):DoesP P f xs Q:=⟨⟨r,hq⟩,h.e ⟨hq,rfl⟩⟩
end Go.Proofs.YticdbambknflgaaGreat.Sim
end
section
namespace Go.Proofs.YticdbambknflgaaGreat.Sim
open Go Go.RowKit Go.Deep
set_option linter.unusedVariables false
structure St where
 T:Nat→V
 m:M
structure Cx where
 w0:World
 X:Nat→Prop
 S0:Nat→Prop
 N:NF
 m0:M
 hd0:H
 gk:Gk w0 X
def Rel (cx:Cx) (s:St) (a:Act) (w:World):Prop :=
 ∃ hd S,Mem s.m hd w S cx.X cx.w0.heap.size∧(∀ t,VR s.m hd w S (s.T t) (a.tmps.getD t undef))∧Fr cx.w0 w cx.X∧a.defers=[]∧a.tmps.size=cx.N.n∧(∀ b,S b→cx.S0 b∨cx.w0.heap.size≤b∨cx.X b)∧Le cx.m0 cx.hd0 s.m hd
def St.put (s:St) (dst:Option Nat) (v:V) (us:U):St:=⟨match dst with
 |some d=>up s.T d v
 |none=>s.T,ups s.m us⟩
def fnOK (P:Program) (f:FuncId):Bool:=match P.funcs[f]? with
 |some fn=>fn.body.isSome&&!(fn.name == "runtime.NumGoroutine")
 |none=>false
def fnOKv (P:Program) (f:FuncId):Bool:=decide (f<1000000)&&fnOK P f
def CallR (P:Program) (f:FuncId) (xs:List V) (m:M) (d:Nat) (v:V) (us:U):Prop :=
 (∃ ys bx r bx' as,Does P f ys bx r bx' as∧CallForm m (1000*(d+2)) bx r bx' as∧Args m bx xs ys∧v=r.ren (1000*(d+2)) m∧us=frz m (lentOut bx (V.flats xs))++(bx'++freshIn (1000*(d+2)) m as)) ∨
 ∃ ys bx r bx',Does P f ys bx r bx' []∧CallForm m (1000*(d+2)) bx r bx' []∧Args m bx xs ys∧r.scal=true∧bx'.all (·.2.scal)=true∧(∀ x ∈ bx',x.2.live=true)∧v=r.ren (1000*(d+2)) m∧us=bx'++freshIn (1000*(d+2)) m []
def StepA (P:Program) (k:K) (d:Nat) (xs:List V) (m:M) (v:V) (us:U):Prop :=
 match k with
 |.call f=>CallR P f xs m d v us
 |.callv=>∃ f caps ys,xs=.cl f caps :: ys∧((fnOKv P f=true∧CallR P f (ys++caps) m d v us)∨∃ g,f=g+1000000∧fnOK P g=true∧CallR P g (caps++ys) m d v us)
 |k=>sem k d m xs=some (v,us)∧pre k m xs
def DoesL (P:Program) (f:FuncId) (xs:List V) (m:M) (r:V) (us:U):Prop :=
 ∀ (w:World) (hd:H) (S X:Nat→Prop) (B:Nat) (vs:List Value),(∀ g,GL.contains g=true→g<B∧¬ X g∧w.cell? ⟨g,0,none⟩=some GLV)→Mem m hd w S X B→VRs m hd w S xs vs →
  Calls P f vs.toArray w fun e w'=>∃ u hd' S',e=.returned u∧Out X B m hd w S (ups m us) hd' w' S'∧VR (ups m us) hd' w' S' r u
def StepL (P:Program) (k:K) (xs:List V) (m:M) (v:V) (us:U):Prop:=match k with
 |.call f=>DoesL P f xs m v us
 |.callv=>∃ f caps ys,xs=.cl f caps :: ys∧fnOKv P f=true∧DoesL P f (ys++caps) m v us
 |_=>False
def StepE (P:Program) (k:K) (d:Nat) (xs:List V) (m:M) (R:V→U→Prop):Prop:=match k with
 |.call f=>∃ ys bx Qs,DoesE P f ys bx Qs∧CallForm m (1000*(d+2)) bx (.tu []) bx []∧Args m bx xs ys∧(∀ r bx',Qs r bx'→CallForm m (1000*(d+2)) bx r bx' []∧R (r.ren (1000*(d+2)) m) (frz m (lentOut bx (V.flats xs))++(bx'++freshIn (1000*(d+2)) m [])))
 |_=>False
def gv:V→Option (Option Bool)
 |.d (.at (.bool c))=>some (some c)
 |.tu []=>some none
 |_=>none
def awpOps (P:Program):List AO→St→(St→Prop)→Prop
 |[],s,K=>K s
 |o :: r,s,K=>match o.guard with
  |none=>(∃ v us,(StepA P o.k (o.dst.getD 0) (o.xs.map (ev s.T)) s.m v us∨StepL P o.k (o.xs.map (ev s.T)) s.m v us)∧awpOps P r (s.put o.dst v us) K)∨StepE P o.k (o.dst.getD 0) (o.xs.map (ev s.T)) s.m fun v us=>awpOps P r (s.put o.dst v us) K
  |some (_,t,b)=>∃ c,gv (s.T t)=some c∧(c=some b→∃ v us,StepA P o.k (o.dst.getD 0) (o.xs.map (ev s.T)) s.m v us∧awpOps P r (s.put o.dst v us) K)∧(c ≠ some b→awpOps P r (s.put o.dst (.tu []) []) K)
section
variable {P:Program} {cx:Cx} {s:St} {a:Act} {w:World}
theorem tmps_put {N:Nat} (hN:a.tmps.size=N) (d:Nat) (hd:d<N) (u:Value) (t:Nat):(a.put (some d) u).tmps.getD t undef=if t=d then u else a.tmps.getD t undef:=by
 simp only[Act.put,Array.getD_eq_getD_getElem?,Array.getElem?_setIfInBounds]
 by_cases e:d=t
 ·subst e
  simp [hN,hd]
 ·rw[if_neg e,if_neg (fun h=>e h.symm)]
theorem Rel.put {hd hd2:H} {S S2:Nat→Prop} {w':World} {dst:Option Nat} {v:V} {u:Value} {us:U} (hv:∀ t,VR s.m hd w S (s.T t) (a.tmps.getD t undef)) (hfr:Fr cx.w0 w cx.X) (hdef:a.defers=[]) (hN:a.tmps.size=cx.N.n) (hsub:∀ b,S b→cx.S0 b∨cx.w0.heap.size≤b∨cx.X b) (hle:Le cx.m0 cx.hd0 s.m hd) (ho:Out cx.X cx.w0.heap.size s.m hd w S (ups s.m us) hd2 w' S2)
  (hd':∀ d,dst=some d→d<cx.N.n) (hu:VR (ups s.m us) hd2 w' S2 v u):Rel cx (s.put dst v us) (a.put dst u) w':=by
 refine⟨hd2,S2,ho.mem,fun t=>?_,hfr.trans ho.fr (fun i hi h=>h.elim id fun h=>by omega),?_,?_,fun b hb=>(ho.more b hb).elim (hsub b) .inr,hle.trans ho.le⟩
 ·cases dst with
  |none=>exact ho.vr (hv t)
  |some d =>
   rw[tmps_put hN d (hd' d rfl)]
   simp only[St.put,up]
   split
   ·exact hu
   ·exact ho.vr (hv t)
 ·cases dst <;> exact hdef
 ·cases dst <;> simp [Act.put,hN]
theorem opA_ok {N:NF} {dr:Bool} {ops:Array Oper} {o:Oper} {ao:AO} (h:opA P N dr ops o=some ao):∃ xs ts,opK P N.f o=some (ao.k,xs,ts)∧avs P ts xs=some ao.xs∧ao.dst=o.dst∧(∀ d,o.dst=some d→d<N.n)∧ao.after=befores dr o ∧
  (match o.guard with
   |none=>ao.guard=none
   |some (j,b)=>∃ d,(ops[j]?).bind (·.dst)=some d∧ao.guard=some (j,d,b)):=by
 unfold opA at h
 split at h
 ·rename_i k xs ts h1
  split at h
  ·rename_i ys h2
   split at h
   ·rename_i h3
    have hd:∀ d,o.dst=some d→d<N.n:=by
     intro d e
     rw[e] at h3
     simpa [dstOK] using h3
    split at h
    ·rename_i hg
     cases h
     exact⟨xs,ts,h1,h2,rfl,hd,rfl,by rw[hg]⟩
    ·rename_i j b hg
     split at h
     ·rename_i d hd'
      cases h
      exact⟨xs,ts,h1,h2,rfl,hd,rfl,by rw[hg];exact⟨d,hd',rfl⟩⟩
     ·cases h
   ·cases h
  ·cases h
 ·cases h
theorem run_callf {o:Oper} {c:Call} {f:FuncId} (ho:o.op=.call c) {callee:Operand} (hc:c.callee=.value callee) {fst:Array Value} (hf:a.eval callee=.func (.func f) fst #[]) (hfn:fnOK P f=true) :
  (execOp a.eval o).run P w=.ok (.enter f (fst++c.args.map a.eval)) w:=by
 unfold fnOK at hfn
 split at hfn
 ·rename_i fn hfn'
  simp only[Bool.and_eq_true,Bool.not_eq_true',beq_eq_false_iff_ne,ne_eq] at hfn
  obtain⟨c,hb⟩:=Option.isSome_iff_exists.1 hfn.1
  simp [execOp,ho,resolve,hc,hf,Deferred.ofValue,invoke,callFunc,hfn',hfn.2,hb]
 ·cases hfn
theorem run_call {o:Oper} {c:Call} {f:FuncId} (ho:o.op=.call c) {callee:Operand} (hc:c.callee=.value callee) {caps:Array Value} (hf:a.eval callee=.func (.func f) #[] caps) (hfn:fnOK P f=true) :
  (execOp a.eval o).run P w=.ok (.enter f (c.args.map a.eval++caps)) w:=by
 unfold fnOK at hfn
 split at hfn
 ·rename_i fn hfn'
  simp only[Bool.and_eq_true,Bool.not_eq_true',beq_eq_false_iff_ne,ne_eq] at hfn
  obtain⟨c,hb⟩:=Option.isSome_iff_exists.1 hfn.1
  simp [execOp,ho,resolve,hc,hf,Deferred.ofValue,invoke,callFunc,hfn',hfn.2,hb]
 ·cases hfn
theorem opK_call0 {o:Oper} {f:FuncId} {xs:List Operand} {ts:List TypeId} (h:opK0 P o=some (.call f,xs,ts)):∃ c,o.op=.call c∧c.callee=.value (.func f)∧xs=c.args.toList∧fnOK P f=true:=by
 unfold opK0 at h
 split at h
 case h_22 c ho =>
  split at h
  case h_1 f' hc =>
   split at h
   ·rename_i fn hfn
    split at h
    ·rename_i hb
     cases h
     exact⟨c,ho,hc,rfl,by unfold fnOK;rw[hfn];exact hb⟩
    ·cases h
   ·cases h
  all_goals (first|(cases h;done)|((repeat' split at h) <;> first|(cases h;done)|(simp at h;done)))
 all_goals (first|(cases h;done)|(simp at h;done)|((repeat' split at h) <;> first|(cases h;done)|(simp at h;done)))
theorem opK_callv0 {o:Oper} {xs:List Operand} {ts:List TypeId} (h:opK0 P o=some (.callv,xs,ts)):∃ c t,o.op=.call c∧c.callee=.value (.tmp t)∧xs=.tmp t :: c.args.toList:=by
 unfold opK0 at h
 split at h
 case h_22 c ho =>
  split at h
  case h_2 t hc=>cases h;exact⟨c,t,ho,hc,rfl⟩
  all_goals (first|(cases h;done)|((repeat' split at h) <;> first|(cases h;done)|(simp at h;done)))
 all_goals (first|(cases h;done)|(simp at h;done)|((repeat' split at h) <;> first|(cases h;done)|(simp at h;done)))
theorem opX_none {f:List Nat} {o:Oper} {r:K × List Operand × List TypeId} (h:opX P f o=some r):r.1 ≠ .callv∧∀ g,r.1 ≠ .call g:=by
 unfold opX at h
 repeat' (first|(split at h)|(cases h;done)|(cases h;exact⟨by simp,by simp⟩))
theorem opK_call {ff:List Nat} {o:Oper} {f:FuncId} {xs:List Operand} {ts:List TypeId} (h:opK P ff o=some (.call f,xs,ts)):∃ c,o.op=.call c∧c.callee=.value (.func f)∧xs=c.args.toList∧fnOK P f=true:=by
 unfold opK at h
 split at h
 ·rename_i r hx;cases h;exact absurd rfl ((opX_none hx).2 f)
 ·split at h
  ·rename_i r hx;cases h;exact opK_call0 hx
  ·cases h
theorem opK_callv {ff:List Nat} {o:Oper} {xs:List Operand} {ts:List TypeId} (h:opK P ff o=some (.callv,xs,ts)):∃ c t,o.op=.call c∧c.callee=.value (.tmp t)∧xs=.tmp t :: c.args.toList:=by
 unfold opK at h
 split at h
 ·rename_i r hx;cases h;exact absurd rfl (opX_none hx).1
 ·split at h
  ·rename_i r hx;cases h;exact opK_callv0 hx
  ·cases h
theorem gk_now (hg:Gk cx.w0 cx.X) (hfr:Fr cx.w0 w cx.X):∀ g,GL.contains g=true→g<cx.w0.heap.size∧¬ cx.X g∧w.cell? ⟨g,0,none⟩=some GLV:=fun g h=>by
 obtain⟨h1,h2,h3⟩:=hg g h
 refine⟨h1,h2,?_⟩
 have:=hfr.block g h1 h2
 unfold World.cell? at h3 ⊢
 simp only at h3 ⊢
 rw[this]
 exact h3
theorem step_ok {N:NF} {dr:Bool} {ops:Array Oper} {o:Oper} {ao:AO} (hN:cx.N=N) (h:opA P N dr ops o=some ao) (hR:Rel cx s a w) {v:V} {us:U} (hs:StepA P ao.k (ao.dst.getD 0) (ao.xs.map (ev s.T)) s.m v us) {K:Act→World→Prop} {Q:Exit→Act→World→Prop}
  (hK:∀ a' w',Rel cx (s.put ao.dst v us) a' w'→K a' w'):o.wp P a w K Q:=by
 obtain⟨xs,ts,h1,h2,h3,h4,_,_⟩:=opA_ok h
 obtain⟨hd,S,hm,hv,hfr,hdef,hsz,hsub,hle⟩:=hR
 have hd4:∀ d,ao.dst=some d→d<cx.N.n:=by rw[hN,h3];exact h4
 have hxs:=avs_ok (a:=a) hv h2
 have plain:sem ao.k (ao.dst.getD 0) s.m (ao.xs.map (ev s.T))=some (v,us)∧pre ao.k s.m (ao.xs.map (ev s.T))→o.wp P a w K Q:=by
  rintro⟨hsem,hpre⟩
  obtain⟨nx,w',hd2,S2,hrun,ho,hnx⟩:=op_ok (fun g h=>(gk_now cx.gk hfr g h).2.2) hm h1 hxs hsem hpre
  unfold Oper.wp
  rw[hrun]
  rcases hnx with ⟨u,rfl,hu⟩|⟨rfl,rfl⟩
  ·exact hK _ _ (by rw[← h3];exact Rel.put hv hfr hdef hsz hsub hle ho hd4 hu)
  ·exact hK _ _ (by rw[← h3];exact Rel.put hv hfr hdef hsz hsub hle ho hd4 (by simp only[VR]))
 have call:∀ {f:FuncId} {ys:List V} {vs:List Value},VRs s.m hd w S ys vs→(execOp a.eval o).run P w=.ok (.enter f vs.toArray) w→CallR P f ys s.m (ao.dst.getD 0) v us→o.wp P a w K Q:=by
  rintro f ys vs hvs hrun (⟨zs,bx,r,bx',as,hD,hF,hA,rfl,rfl⟩|⟨zs,bx,r,bx',hD,hF,hA,hr1,hr2,hr3,rfl,rfl⟩)
  ·unfold Oper.wp
   rw[hrun,Oper.upon_enter]
   refine (call_step (gk_now cx.gk hfr) hD hF hm hvs hA).mono ?_
   rintro e w' ⟨u,hd2,S2,rfl,ho,hu⟩
   exact hK _ _ (by rw[← h3];exact Rel.put hv hfr hdef hsz hsub hle ho hd4 hu)
  ·unfold Oper.wp
   rw[hrun,Oper.upon_enter]
   refine (call_stepB (gk_now cx.gk hfr) hD hF hr1 hr2 hr3 hm hvs hA).mono ?_
   rintro e w' ⟨u,hd2,rfl,ho,hu⟩
   exact hK _ _ (by rw[← h3];exact Rel.put hv hfr hdef hsz hsub hle ho hd4 hu)
 unfold StepA at hs
 split at hs
 ·rename_i f hk
  rw[hk] at h1
  obtain⟨c,ho,hc,rfl,hfn⟩:=opK_call h1
  have hrun:=run_call (a:=a) (w:=w) ho hc (caps:=#[]) rfl hfn
  refine call (vs:=c.args.toList.map a.eval) hxs ?_ hs
  rw[hrun]
  congr 2
  apply Array.ext'
  simp
 ·rename_i hk
  rw[hk] at h1
  obtain⟨f,caps,ys,e,hs⟩:=hs
  obtain⟨c,t,ho,hc,rfl⟩:=opK_callv h1
  rw[e,List.map_cons] at hxs
  obtain⟨x,l,e2,g1,g2⟩:=hxs.invc
  cases e2
  simp only[VR] at g1
  obtain⟨vs,e1,g3⟩:=g1
  rcases hs with ⟨hfn,hs⟩|⟨g,rfl,hfn,hs⟩
  ·unfold fnOKv at hfn
   rw[Bool.and_eq_true,decide_eq_true_eq] at hfn
   unfold mkCl at e1
   rw[if_pos hfn.1] at e1
   have hrun:=run_call (a:=a) (w:=w) ho hc e1 hfn.2
   refine call (vs:=c.args.toList.map a.eval++vs) (g2.append g3) ?_ hs
   rw[hrun]
   congr 2
   apply Array.ext'
   simp
  ·unfold mkCl at e1
   rw[if_neg (show ¬ g+1000000<1000000 from Nat.not_lt.2 (Nat.le_add_left _ _)),Nat.add_sub_cancel] at e1
   have hrun:=run_callf (a:=a) (w:=w) ho hc e1 hfn
   refine call (vs:=vs++c.args.toList.map a.eval) (g3.append g2) ?_ hs
   rw[hrun]
   congr 2
   apply Array.ext'
   simp
 ·exact plain hs
theorem step_okL {N:NF} {dr:Bool} {ops:Array Oper} {o:Oper} {ao:AO} (hN:cx.N=N) (h:opA P N dr ops o=some ao) (hR:Rel cx s a w) {v:V} {us:U} (hs:StepL P ao.k (ao.xs.map (ev s.T)) s.m v us) {K:Act→World→Prop} {Q:Exit→Act→World→Prop}
  (hK:∀ a' w',Rel cx (s.put ao.dst v us) a' w'→K a' w'):o.wp P a w K Q:=by
 obtain⟨xs,ts,h1,h2,h3,h4,_,_⟩:=opA_ok h
 obtain⟨hd,S,hm,hv,hfr,hdef,hsz,hsub,hle⟩:=hR
 have hd4:∀ d,ao.dst=some d→d<cx.N.n:=by rw[hN,h3];exact h4
 have hxs:=avs_ok (a:=a) hv h2
 unfold StepL at hs
 split at hs
 ·rename_i f hk
  rw[hk] at h1
  obtain⟨c,ho,hc,rfl,hfn⟩:=opK_call h1
  have hrun:=run_call (a:=a) (w:=w) ho hc (caps:=#[]) rfl hfn
  have hrun':(execOp a.eval o).run P w=.ok (.enter f (c.args.toList.map a.eval).toArray) w:=by
   rw[hrun]
   congr 2
   apply Array.ext'
   simp
  unfold Oper.wp
  rw[hrun',Oper.upon_enter]
  refine (hs w hd S cx.X cx.w0.heap.size _ (gk_now cx.gk hfr) hm hxs).mono ?_
  rintro e w' ⟨u,hd2,S2,rfl,ho,hu⟩
  exact hK _ _ (by rw[← h3];exact Rel.put hv hfr hdef hsz hsub hle ho hd4 hu)
 ·rename_i hk
  rw[hk] at h1
  obtain⟨f,caps,ys,e,hfn,hs⟩:=hs
  obtain⟨c,t,ho,hc,rfl⟩:=opK_callv h1
  rw[e,List.map_cons] at hxs
  obtain⟨x,l,e2,g1,g2⟩:=hxs.invc
  cases e2
  simp only[VR] at g1
  obtain⟨vs,e1,g3⟩:=g1
  unfold fnOKv at hfn
  rw[Bool.and_eq_true,decide_eq_true_eq] at hfn
  unfold mkCl at e1
  rw[if_pos hfn.1] at e1
  have hrun:=run_call (a:=a) (w:=w) ho hc e1 hfn.2
  have hrun':(execOp a.eval o).run P w=.ok (.enter f (c.args.toList.map a.eval++vs).toArray) w:=by
   rw[hrun]
   congr 2
   apply Array.ext'
   simp
  unfold Oper.wp
  rw[hrun',Oper.upon_enter]
  refine (hs w hd S cx.X cx.w0.heap.size _ (gk_now cx.gk hfr) hm (g2.append g3)).mono ?_
  rintro e w' ⟨u,hd2,S2,rfl,ho,hu⟩
  exact hK _ _ (by rw[← h3];exact Rel.put hv hfr hdef hsz hsub hle ho hd4 hu)
 ·cases hs
theorem step_okE {N:NF} {dr:Bool} {ops:Array Oper} {o:Oper} {ao:AO} (hN:cx.N=N) (h:opA P N dr ops o=some ao) (hR:Rel cx s a w) {R:V→U→Prop} (hs:StepE P ao.k (ao.dst.getD 0) (ao.xs.map (ev s.T)) s.m R) {K:Act→World→Prop} {Q:Exit→Act→World→Prop}
  (hK:∀ v us,R v us→∀ a' w',Rel cx (s.put ao.dst v us) a' w'→K a' w'):o.wp P a w K Q:=by
 obtain⟨xs,ts,h1,h2,h3,h4,_,_⟩:=opA_ok h
 obtain⟨hd,S,hm,hv,hfr,hdef,hsz,hsub,hle⟩:=hR
 have hd4:∀ d,ao.dst=some d→d<cx.N.n:=by rw[hN,h3];exact h4
 have hxs:=avs_ok (a:=a) hv h2
 unfold StepE at hs
 split at hs
 ·rename_i f hk
  rw[hk] at h1
  obtain⟨c,ho,hc,rfl,hfn⟩:=opK_call h1
  obtain⟨ys,bx,Qs,hD,hI,hA,hQ⟩:=hs
  have hrun:=run_call (a:=a) (w:=w) ho hc (caps:=#[]) rfl hfn
  have hrun':(execOp a.eval o).run P w=.ok (.enter f (c.args.toList.map a.eval).toArray) w:=by
   rw[hrun]
   congr 2
   apply Array.ext'
   simp
  unfold Oper.wp
  rw[hrun',Oper.upon_enter]
  refine (call_stepE (gk_now cx.gk hfr) hD hI (fun r bx' h=>(hQ r bx' h).1) hm hxs hA).mono ?_
  rintro e w' ⟨r,bx',hq,u,hd2,S2,rfl,ho,hu⟩
  exact hK _ _ (hQ r bx' hq).2 _ _ (by rw[← h3];exact Rel.put hv hfr hdef hsz hsub hle ho hd4 hu)
 ·cases hs
end
end Go.Proofs.YticdbambknflgaaGreat.Sim
end
section
namespace Go.Proofs.YticdbambknflgaaGreat.Sim
open Go Go.RowKit Go.Deep
set_option linter.unusedVariables false
section
variable {P:Program} {X:Nat→Prop} {B:Nat} {o:Oper} {a:Act} {m:M} {hd:H} {w:World} {S:Nat→Prop} {v:V} {us:U}
theorem run_clear {t e ty:TypeId} {inf:TypeInfo} {zu:Value} (hu:P.underlying t=some (.slice e)) (hi:P.info? e=some inf) (hz:inf.zero=some zu) (h0:0<zu.cells.toList.length) (h1:∀ y ∈ zu.cells.toList,y.oneCell'=true) (b q n c:Nat) (hth:w.there b q (n*zu.cells.toList.length)) :
  (Builtin.clear_ #[t] ty #[.slice (some ⟨b,q,none⟩) n c]).run P w=.ok (.tuple #[]) (w.setCells b q (List.replicate n zu.cells.toList).flatten):=by
 have hml:=made_list zu.cells.toList h0 n
 have hzc:(Builtin.zeroCells zu.cells n).toList=(List.replicate n zu.cells.toList).flatten:=by
  rw[← hml]
  simp [Builtin.zeroCells,madeCells]
 have hlen:(List.replicate n zu.cells.toList).flatten.length=n*zu.cells.toList.length:=by simp
 have hst:=run_storeCells_cells (P:=P) b q (List.replicate n zu.cells.toList).flatten 0 w (fun j hj=>by simpa using (hth j (by omega)).1) (fun j hj=>by simpa using (hth j (by omega)).2)
  (fun y hy=>by
   obtain⟨l,hl,hy⟩:=List.mem_flatten.1 hy
   rw[List.eq_of_mem_replicate hl] at hy
   exact h1 y hy)
 simp only[Nat.add_zero] at hst
 cases n with
 |zero=>simp [Builtin.clear_,run_underlying hu,World.setCells]
 |succ n=>simp [Builtin.clear_,run_underlying hu,zeroValue,typeInfo,hi,hz,hzc,hst]
theorem run_clear_none {t e ty:TypeId} (hu:P.underlying t=some (.slice e)) (ad:Option Addr) (c:Nat):(Builtin.clear_ #[t] ty #[.slice ad 0 c]).run P w=.ok (.tuple #[]) w:=by
 cases ad <;> simp [Builtin.clear_,run_underlying hu]
def clrL (k:Nat) (z:List V) (l:List (List D)) (n:Nat):List (List D):=l.take n++List.replicate (l.length-n) (zD z)
theorem clr_ok (hm:Mem m hd w S X B) {i ver k n by_:Nat} {t e ty:TypeId} {z:List V} {l:List (List D)} (hi:m i=some (.arr ver k true l)) (hn:n≤l.length) (he:elemOf' P t=some (e,k,by_)) (hz:zcs P e=some z) (hk0:0<k) :
  ∃ ad len cap,hd i=.slice ad len cap∧len=l.length∧len≤cap∧∃ w',(Builtin.clear_ #[t] ty #[.slice (if cap=n then ad else ad.map (·.add (n*k))) (len-n) (cap-n)]).run P w=.ok (.tuple #[]) w'∧Out X B m hd w S (ups m [(i,.arr ver k true (clrL k z l n))]) hd w' S:=by
 obtain⟨inf,hu,hinf,hsz,hby⟩:=elem_ok he
 obtain⟨inf',zu,hi',hzero,hzok,hzl⟩:=zcs_ok hz
 rw[hinf] at hi'
 cases hi'
 have hoi:=hm.obj i _ hi
 simp only[O.is,if_true] at hoi
 obtain⟨xs,hrow,hoi⟩:=hoi
 have hxl:=hrow.len
 have hcz:=zD_ok (w:=w) (S:=S) hzok
 have hzk:zu.cells.toList.length=k:=by have:=hcz.len;simp only[zD,List.length_map] at this;omega
 have hzdl:(zD z).length=k:=by simp only[zD,List.length_map];omega
 rcases hoi with ⟨ad,hg,rfl⟩|⟨g,off,cap,hg,hc0,hB,hlt,hT,hln,hcm,hth,hra⟩
 ·have hn0:n=0:=by simpa using hn
  subst hn0
  refine⟨ad,0,0,hg,rfl,Nat.le_refl _,w,run_clear_none hu _ _,?_⟩
  have e1:ups m [(i,O.arr ver k true (clrL k z [] 0))]=m:=by
   simp only[ups,clrL,List.take_nil,List.length_nil,List.replicate,Nat.sub_self,List.append_nil]
   rw[← hi,up_id]
  rw[e1]
  exact Out.refl hm
 ·refine⟨_,_,cap,hg,rfl,hln,?_⟩
  have hbl:blk (hd i)=some g:=by rw[hg];cases cap with|zero=>omega|succ c=>rfl
  by_cases hnl:n=l.length
  ·subst hnl
   rw[Nat.sub_self]
   refine⟨w,run_clear_none hu _ _,?_⟩
   have e1:ups m [(i,O.arr ver k true (clrL k z l l.length))]=m:=by
    simp only[ups,clrL,List.take_length,Nat.sub_self,List.replicate,List.append_nil]
    rw[← hi,up_id]
   rw[e1]
   exact Out.refl hm
  ·have hlt2:n<l.length:=by omega
   have hle2:l.length*k≤cap*k:=Nat.mul_le_mul_right _ hln
   have hnk:n*k+(l.length-n)*k=l.length*k:=by rw[← Nat.add_mul];congr 1;omega
   rw[if_neg (by omega)]
   have had:(some (⟨g,off,none⟩:Addr)).map (·.add (n*k))=some ⟨g,off+n*k,none⟩:=by simp [Addr.add_mid]
   rw[had]
   have hth':w.there g (off+n*k) ((l.length-n)*zu.cells.toList.length):=fun j hj=>by
    rw[hzk] at hj
    have:=hth (n*k+j) (by omega)
    rwa [← Nat.add_assoc] at this
   refine⟨_,run_clear hu hinf hzero (by omega) hcz.one _ _ _ _ hth',?_⟩
   generalize hZ:(List.replicate (l.length-n) zu.cells.toList).flatten=Z
   have hZl:Z.length=(l.length-n)*k:=by rw[← hZ];simp [hzk]
   have ho:=out_upd (w':=w.setCells g (off+n*k) Z) hm i (.arr ver k true (clrL k z l n)) (hd i) (by rw[(size_setCells _ _ _ _).1];exact Nat.le_refl _) (World.os_setCells _ _ _ _) (size_setCells _ _ _ _).2 (World.output_setCells _ _ _ _)
    (fun b hb hne=>World.heap_setCells_other _ _ _ _ hb (fun e=>hne _ hi rfl (by rw[hbl,e])))
    (fun oo hoo=>by rw[hi] at hoo;cases hoo;exact⟨Nat.le_refl _,fun _=>⟨rfl,rfl⟩⟩) (fun b hb _=>.inr ⟨_,hi,rfl,hb⟩)
    (fun hl hk=>by
     have hll:(clrL k z l n).length=l.length:=by simp [clrL];omega
     simp only[O.is,if_true]
     have hr1:Rows (w.setCells g (off+n*k) Z) S k (clrL k z l n) (xs.take (n*k)++Z):=by
      have:=(Rows.keep hk _ _ _ (Rows.take n hrow)).append (rows_rep (w:=w.setCells g (off+n*k) Z) (S:=S) (zD_ok hzok) hzdl (l.length-n))
      rw[hZ] at this
      exact this
     have hsp:splice xs (n*k) Z=xs.take (n*k)++Z:=by
      unfold splice
      rw[List.drop_of_length_le (by omega),List.append_nil]
     refine⟨_,hr1,.inr ⟨g,off,cap,by rw[hll];exact hg,hc0,hB,by rw[(size_setCells _ _ _ _).1];exact hlt,hT,by rw[hll];exact hln,hcm,World.there_setCells hth _ _ _,?_⟩⟩
     rw[← hsp]
     exact range_splice hra (by rw[hzk] at hth';rw[hZl];exact hth') (by omega))
   rw[up_id] at ho
   exact ho
theorem clr_call_eq {c:Call} {f:Callee} {u:Operand} {t:TypeId} (h1:c.callee=f) (h2:c.args.toList=[u]) (h3:c.argTypes.toList=[t]):c={ callee:=f,args:=#[u],argTypes:=#[t] }:=by
 obtain⟨ca,⟨ar⟩,⟨at'⟩⟩:=c
 simp only at h1 h2 h3
 rw[h1,h2,h3]
theorem clrOf_ok {N:Nat} {dr:Bool} {l:List Oper} {c:Clr} (h:clrOf P N dr l=some c):dr=false∧∃ o1 o2 o3 o4 t e by_,l=[o1,o2,o3,o4]∧(o1.op=.move (.tmp c.sl)∧o1.dst=some c.d1∧o1.guard=none)∧(o2.op=.move (.tmp c.il)∧o2.dst=some c.d2∧o2.guard=none) ∧
  (o3.op=.slice t (.tmp c.d1) (some (.tmp c.d2)) none none∧o3.dst=some c.d3∧o3.guard=none)∧(o4.op=.call { callee:=.builtin .clear,args:=#[.tmp c.d3],argTypes:=#[t] }∧o4.dst=none∧o4.guard=none)∧elemOf' P t=some (e,c.k,by_)∧zcs P e=some c.z∧c.d1 ≠ c.d2∧c.il ≠ c.d1∧c.d1<N∧c.d2<N∧c.d3<N∧0<c.k:=by
 unfold clrOf at h
 split at h
 ·split at h
  ·rename_i c' _ _ _ _ e k by_ h1 h2 h3 h4
   split at h
   ·rename_i z h5
    split at h
    ·rename_i h6
     obtain⟨rfl,rfl,rfl,rfl,g1,g2,g3,g4,g5,g6⟩:=h6
     cases h
     refine⟨rfl,_,_,_,_,_,e,by_,rfl,⟨rfl,rfl,rfl⟩,⟨rfl,rfl,rfl⟩,⟨rfl,rfl,rfl⟩,⟨?_,rfl,rfl⟩,h4,h5,g1,g2,g3,g4,g5,g6⟩
     exact congrArg Op.call (clr_call_eq h1 h2 h3)
    ·cases h
   ·cases h
  ·cases h
 ·cases h
theorem run_move {x:Operand} (ho:o.op=.move x):(execOp a.eval o).run P w=.ok (.value (a.eval x)) w:=by simp [execOp,ho]
theorem run_slice_lo {t e:TypeId} {inf:TypeInfo} {x y:Operand} {ad:Option Addr} {len cap n:Nat} {kk:IntKind} (ho:o.op=.slice t x (some y) none none) (hu:P.underlying t=some (.slice e)) (hi:P.info? e=some inf) (hx:a.eval x=.slice ad len cap) (hy:a.eval y=.int kk n) (hn:n≤len) (hc:len≤cap) :
  (execOp a.eval o).run P w=.ok (.value (.slice (if cap=n then ad else ad.map (·.add (n*inf.size))) (len-n) (cap-n))) w:=by
 obtain⟨m',hr,k1,k2,k3,k4,k5,k6,k7⟩:=bounds_run (P:=P) (w:=w) true (lo:=some (.int kk n)) (hi:=none) (mx:=none) (b:=(some (n:Int),none,none)) (len:=len) (cap:=cap) (.some kk n) .none .none (by simp only[okB];omega) hc
 have:=k6 rfl
 subst this
 simp only[bl,bh,Option.getD_some,Int.toNat_natCast] at hr
 simp [execOp,ho,hx,hy,Instr.sliceAt,Instr.slice,run_underlying hu,hr,sizeOf,typeInfo,hi]
theorem run_clear_op {t:TypeId} {d:Nat} {u:Value} {w':World} (ho:o.op=.call { callee:=.builtin .clear,args:=#[.tmp d],argTypes:=#[t] }) (hx:a.eval (.tmp d)=u) (hr:(Builtin.clear_ #[t] o.type #[u]).run P w=.ok (.tuple #[]) w'):(execOp a.eval o).run P w=.ok (.value (.tuple #[])) w':=by
 simp [execOp,ho,hx,resolve,invoke,builtin,hr]
end
section
variable {P:Program} {cx:Cx} {s:St} {a:Act} {w:World}
theorem eval_put {cxN:Nat} (hN:a.tmps.size=cxN) (d:Nat) (hd:d<cxN) (u:Value) (t:Nat):(a.put (some d) u).eval (.tmp t)=if t=d then u else a.eval (.tmp t):=by
 have:=tmps_put hN d hd u t
 simpa [Act.eval] using this
theorem put_size {cxN:Nat} (hN:a.tmps.size=cxN) (d:Option Nat) (u:Value):(a.put d u).tmps.size=cxN:=by cases d <;> simp [Act.put,hN]
theorem clr_wp {N:Nat} {ops:Array Oper} {c:Clr} {dr:Bool} {l:List Oper} (hc:clrOf P N dr l=some c) (hN:cx.N.n=N) (hR:Rel cx s a w) {i ver:Nat} {n:Nat} {kk:IntKind} {ll:List (List D)} (hT:s.T c.sl=.og i ver) (hI:s.T c.il=.d (.at (.int kk n))) (hm:s.m i=some (.arr ver c.k true ll)) (hn:n≤ll.length)
  {Q:Exit→Act→World→Prop} (hQ:∀ a' w',Rel cx (((s.put (some c.d1) (.og i ver) []).put (some c.d2) (.d (.at (.int kk n))) []).put (some c.d3) .un [(i,.arr ver c.k true (clrL c.k c.z ll n))]) a' w'→Q .normal a' w'):dr=false∧wpList P ops Q l a w:=by
 obtain⟨hdr,o1,o2,o3,o4,t,e,by_,rfl,⟨p1,p2,p3⟩,⟨q1,q2,q3⟩,⟨r1,r2,r3⟩,⟨s1,s2,s3⟩,he,hz,g1,g2,g3,g4,g5,g6⟩:=clrOf_ok hc
 refine⟨hdr,?_⟩
 subst hN
 obtain⟨hd,S,hmem,hv,hfr,hdef,hsz,hsub,hle⟩:=hR
 obtain⟨ad,len,cap,e1,e2,e3,w',e4,e5⟩:=clr_ok (P:=P) (ty:=o4.type) hmem hm hn he hz g6
 obtain⟨inf,hu,hinf,hsz',hby⟩:=elem_ok he
 have v1:a.eval (.tmp c.sl)=.slice ad len cap:=by
  have:=hv c.sl
  rw[hT] at this
  simp only[VR] at this
  obtain⟨_,y,hy,_,h⟩:=this
  rw[hm] at hy
  cases hy
  rw[← e1]
  exact h _ _ _ rfl
 have v2:a.eval (.tmp c.il)=.int kk n:=by
  have:=hv c.il
  rw[hI] at this
  exact this.at_
 have w1:Region.wanted o1 (yielded ops a.tmps)=true:=by simp [Region.wanted,p3]
 rw[wpList,if_pos w1]
 refine .inl ?_
 unfold Oper.wp
 rw[run_move p1,v1]
 simp only[Oper.upon]
 rw[p2]
 have z1:=put_size hsz (some c.d1) (.slice ad len cap)
 rw[wpList,if_pos (by simp [Region.wanted,q3])]
 refine .inl ?_
 unfold Oper.wp
 rw[run_move q1,eval_put hsz _ g3,if_neg g2,v2]
 simp only[Oper.upon]
 rw[q2]
 have z2:=put_size z1 (some c.d2) (.int kk n)
 rw[wpList,if_pos (by simp [Region.wanted,r3])]
 refine .inl ?_
 unfold Oper.wp
 rw[run_slice_lo r1 hu hinf (by rw[eval_put z1 _ g4,if_neg g1,eval_put hsz _ g3,if_pos rfl]) (by rw[eval_put z1 _ g4,if_pos rfl]) (by omega) e3]
 simp only[Oper.upon]
 rw[r2,hsz']
 rw[wpList,if_pos (by simp [Region.wanted,s3])]
 refine .inl ?_
 unfold Oper.wp
 rw[run_clear_op s1 (eval_put z2 _ g5 _ _) (by rw[if_pos rfl];exact e4)]
 simp only[Oper.upon]
 rw[s2]
 rw[wpList]
 refine hQ _ _ ⟨hd,S,e5.mem,fun t=>?_,hfr.trans e5.fr (fun i hi h=>h.elim id fun h=>by omega),hdef,put_size (put_size z2 _ _) _ _,fun b hb=>(e5.more b hb).elim (hsub b) .inr,hle.trans e5.le⟩
 simp only[Act.put]
 have t3:=tmps_put z2 c.d3 g5 (.slice (if cap=n then ad else ad.map (·.add (n*c.k))) (len-n) (cap-n)) t
 have t2:=tmps_put z1 c.d2 g4 (.int kk n) t
 have t1:=tmps_put hsz c.d1 g3 (.slice ad len cap) t
 simp only[Act.put] at t1 t2 t3
 rw[t3]
 simp only[St.put,up]
 split
 ·simp only[VR]
 ·rw[t2]
  split
  ·exact VR.at_mk rfl
  ·rw[t1]
   split
   ·refine e5.vr ?_
    simp only[VR]
    refine⟨rfl,_,hm,Nat.le_refl _,fun k' mu' l' e=>?_⟩
    exact e1.symm
   ·exact e5.vr (hv t)
end
end Go.Proofs.YticdbambknflgaaGreat.Sim
end
section
namespace Go.Proofs.YticdbambknflgaaGreat.Sim
open Go Go.RowKit Go.Deep
set_option linter.unusedVariables false
section
variable {P:Program} {cx:Cx} {s:St} {a:Act} {w:World}
theorem Rel.skip (h:Rel cx s a w) {dst:Option Nat} (hd:∀ d,dst=some d→d<cx.N.n):Rel cx (s.put dst (.tu []) []) (a.put dst undef) w:=by
 obtain⟨hd1,S,hm,hv,hfr,hdef,hsz,hsub,hle⟩:=h
 exact Rel.put hv hfr hdef hsz hsub hle (Out.refl hm) hd (by simp only[VR];exact⟨[],rfl,by simp [VRs]⟩)
theorem Rel.drew (h:Rel cx s a w):Rel cx s a { w with drawn:=w.drawn+1 }:=by
 obtain⟨hd1,S,hm,hv,hfr,hdef,hsz,hsub,hle⟩:=h
 have hk:∀ b,S b→b<w.heap.size→S b∧({ w with drawn:=w.drawn+1 }:World).heap[b]?=w.heap[b]?:=fun b h _=>⟨h,rfl⟩
 refine⟨hd1,S,?_,fun t=>VR.keep (Le.refl _ _) hk _ _ (hv t),⟨hfr.os,hfr.tape,hfr.output,hfr.size,hfr.block⟩,hdef,hsz,hsub,hle⟩
 exact Mem.next (Z:=fun _=>False) hm (Nat.le_refl _) (fun _ _ _=>rfl) (fun _ _ h=>h) (fun _ h=>h) hm.lt (Le.refl _ _) (fun i o h=>.inl ⟨h,rfl,fun b hl hb=>⟨fun h=>h,(hm.blk h hl hb).2.1⟩⟩) hm.sep
theorem yields_ok {ops:Array Oper} {j t:Nat} {c:Option Bool} (h:Rel cx s a w) (hj:(ops[j]?).bind (·.dst)=some t) (ht:gv (s.T t)=some c):yielded ops a.tmps j=c:=by
 obtain⟨hd1,S,hm,hv,_⟩:=h
 have h1:=hv t
 unfold yielded
 rw[hj]
 simp only[Option.bind_some]
 unfold gv at ht
 split at ht
 ·rename_i b hT
  cases ht
  rw[hT] at h1
  have h2:=h1.at_
  rw[Array.getD_eq_getD_getElem?] at h2
  cases h3:a.tmps[t]? with
  |none=>rw[h3] at h2;simp [undef] at h2
  |some u=>rw[h3] at h2;simp only[Option.getD_some] at h2;rw[h2]
 ·rename_i hT
  cases ht
  rw[hT] at h1
  simp only[VR,VRs] at h1
  obtain⟨vs,h2,rfl⟩:=h1
  rw[Array.getD_eq_getD_getElem?] at h2
  cases h3:a.tmps[t]? with
  |none=>rfl
  |some u=>rw[h3] at h2;simp only[Option.getD_some] at h2;rw[h2]
 ·cases ht
theorem awpOps_ok {N:NF} {dr:Bool} {ops:Array Oper} {Q:Exit→Act→World→Prop} {K:St→Prop} (hN:cx.N=N) (hK:∀ s a w,K s→Rel cx s a w→Q .normal a w):∀ {l:List Oper} {aos:List AO} {s:St} {a:Act} {w:World},opAs P N dr ops l=some aos→awpOps P aos s K→Rel cx s a w→wpList P ops Q l a w
 |[],aos,s,a,w,h,hs,hR=>by
  simp only[opAs,Option.some.injEq] at h
  subst h
  exact hK s a w hs hR
 |o :: l,aos,s,a,w,h,hs,hR=>by
  unfold opAs at h
  split at h
  ·rename_i ao aos' h1 h2
   cases h
   obtain⟨xs,ts,_,_,g3,g4,_,g5⟩:=opA_ok h1
   have hd:∀ d,o.dst=some d→d<cx.N.n:=by rw[hN];exact g4
   unfold wpList
   unfold awpOps at hs
   cases hg:o.guard with
   |none =>
    rw[hg] at g5
    simp only at g5
    rw[g5] at hs
    rw[if_pos (by simp [Region.wanted,hg])]
    rcases hs with ⟨v,us,h3,h4⟩|hs
    ·exact .inl (h3.elim (fun h3=>step_ok hN h1 hR h3 fun a' w' h=>awpOps_ok hN hK h2 h4 h) fun h3=>step_okL hN h1 hR h3 fun a' w' h=>awpOps_ok hN hK h2 h4 h)
    ·exact .inl (step_okE hN h1 hR hs fun v us h4 a' w' h=>awpOps_ok hN hK h2 h4 h)
   |some p =>
    obtain⟨j,b⟩:=p
    rw[hg] at g5
    obtain⟨t,g6,g7⟩:=g5
    rw[g7] at hs
    obtain⟨c,h3,h4,h5⟩:=hs
    have hy:=yields_ok hR g6 h3
    by_cases hcb:c=some b
    ·obtain⟨v,us,h6,h7⟩:=h4 hcb
     rw[if_pos (by simp [Region.wanted,hg,hy,hcb])]
     exact .inl (step_ok hN h1 hR h6 fun a' w' h=>awpOps_ok hN hK h2 h7 h)
    ·have h7:=h5 hcb
     rw[if_neg (by simp [Region.wanted,hg,hy,hcb])]
     rw[g3] at h7
     exact awpOps_ok hN hK h2 h7 (hR.skip hd)
  ·cases h
/-! ### Code -/
def Awp (P:Program) (cx:Cx) (c:AC) (Q:Exit→St→Prop) (s:St):Prop :=
 ∀ code,compile P cx.N code=some c→∀ a w,Rel cx s a w→code.wp P (fun e a' w'=>∃ s',Q e s'∧Rel cx s' a' w') a w
def thenE (next:St→Prop) (Q:Exit→St→Prop):Exit→St→Prop
 |.normal,s=>next s
 |e,s=>Q e s
def blockE (id:Nat) (Q:Exit→St→Prop):Exit→St→Prop
 |.exit id',s=>if id'=id then Q .normal s else Q (.exit id') s
 |e,s=>Q e s
variable {Q Q':Exit→St→Prop}
theorem Awp.mono {c:AC} (h:Awp P cx c Q s) (hq:∀ e s,Q e s→Q' e s):Awp P cx c Q' s:=fun code hc a w hR=>wp_mono (h code hc a w hR) fun e a' w' ⟨s',h1,h2⟩=>⟨s',hq e s' h1,h2⟩
theorem Awp.skip (h:Q .normal s):Awp P cx .skip Q s:=by
 intro code hc a w hR
 cases code <;> simp [compile] at hc
 ·exact wp_skip ⟨s,h,hR⟩
 all_goals ((try unfold compile at hc);first|(split at hc <;> (first|(cases hc;done)|(simp at hc;done)))|(simp at hc;done))
theorem Awp.seq {x y:AC} (h:Awp P cx x (thenE (Awp P cx y Q) Q) s):Awp P cx (.seq x y) Q s:=by
 intro code hc a w hR
 cases code <;> try (simp [compile] at hc;done)
 case seq c1 c2 =>
  unfold compile at hc
  split at hc
  ·rename_i x' y' h1 h2
   cases hc
   refine wp_seq (wp_mono (h c1 h1 a w hR) fun e a' w' ⟨s',h3,h4⟩=>?_)
   cases e with
   |normal=>exact h3 c2 h2 a' w' h4
   |_=>exact⟨s',h3,h4⟩
  ·cases hc
 all_goals ((try unfold compile at hc);first|(split at hc <;> (first|(cases hc;done)|(simp at hc;done)))|(simp at hc;done))
theorem Awp.cond {c:AV} {x y:AC} (t:Bool) (hc:ev s.T c=.d (.at (.bool t))) (h1:t=true→Awp P cx x Q s) (h2:t=false→Awp P cx y Q s):Awp P cx (.cond c x y) Q s:=by
 intro code hcomp a w hR
 cases code <;> try (simp [compile] at hcomp;done)
 case cond c' c1 c2 =>
  unfold compile at hcomp
  split at hcomp
  ·rename_i c'' x' y' g1 g2 g3
   cases hcomp
   have hR':=hR
   obtain⟨hd1,S,hm,hv,_⟩:=hR'
   have hcv:=av_ok (a:=a) hv g1
   rw[hc] at hcv
   refine wp_cond_split hcv.at_ (fun e=>h1 e c1 g2 a w hR) (fun e=>h2 e c2 g3 a w hR)
  ·cases hcomp
 all_goals ((try unfold compile at hcomp);first|(split at hcomp <;> (first|(cases hcomp;done)|(simp at hcomp;done)))|(simp at hcomp;done))
theorem Awp.condU {c:AV} {x y:AC} (hc:ev s.T c=.ub) (h1:Awp P cx x Q s) (h2:Awp P cx y Q s):Awp P cx (.cond c x y) Q s:=by
 intro code hcomp a w hR
 cases code <;> try (simp [compile] at hcomp;done)
 case cond c' c1 c2 =>
  unfold compile at hcomp
  split at hcomp
  ·rename_i c'' x' y' g1 g2 g3
   cases hcomp
   have hR':=hR
   obtain⟨hd1,S,hm,hv,_⟩:=hR'
   have hcv:=av_ok (a:=a) hv g1
   rw[hc] at hcv
   simp only[VR] at hcv
   obtain⟨t,ht⟩:=hcv
   refine wp_cond_split ht (fun e=>h1 c1 g2 a w hR) (fun e=>h2 c2 g3 a w hR)
  ·cases hcomp
 all_goals ((try unfold compile at hcomp);first|(split at hcomp <;> (first|(cases hcomp;done)|(simp at hcomp;done)))|(simp at hcomp;done))
theorem Awp.block {id:Nat} {x:AC} (h:Awp P cx x (blockE id Q) s):Awp P cx (.block id x) Q s:=by
 intro code hc a w hR
 cases code <;> try (simp [compile] at hc;done)
 case block id' c1 =>
  simp only[compile,Option.map_eq_some_iff] at hc
  obtain⟨x',h1,h2⟩:=hc
  cases h2
  refine wp_block (wp_mono (h c1 h1 a w hR) fun e a' w' ⟨s',h3,h4⟩=>?_)
  cases e with
  |exit id' =>
   simp only[blockE,Exit.inBlock] at h3 ⊢
   split
   ·rename_i e;rw[if_pos e] at h3;exact⟨s',h3,h4⟩
   ·rename_i e;rw[if_neg e] at h3;exact⟨s',h3,h4⟩
  |_=>exact⟨s',h3,h4⟩
 all_goals ((try unfold compile at hc);first|(split at hc <;> (first|(cases hc;done)|(simp at hc;done)))|(simp at hc;done))
theorem Awp.exit {id:Nat} (h:Q (.exit id) s):Awp P cx (.exit id) Q s:=by
 intro code hc a w hR
 cases code <;> try (simp [compile] at hc;done)
 case exit id'=>simp [compile] at hc;subst hc;exact wp_exit ⟨s,h,hR⟩
 all_goals ((try unfold compile at hc);first|(split at hc <;> (first|(cases hc;done)|(simp at hc;done)))|(simp at hc;done))
theorem Awp.ret (h:Q .ret s):Awp P cx .ret Q s:=by
 intro code hc a w hR
 cases code <;> try (simp [compile] at hc;done)
 case ret=>exact wp_ret ⟨s,h,hR⟩
 all_goals ((try unfold compile at hc);first|(split at hc <;> (first|(cases hc;done)|(simp at hc;done)))|(simp at hc;done))
theorem Awp.region {ops:List AO} (h:awpOps P ops s (Q .normal)):Awp P cx (.region ops false) Q s:=by
 intro code hc a w hR
 cases code <;> try (simp [compile] at hc;done)
 case region id ops' draw =>
  unfold compile at hc
  split at hc
  ·cases hc
  simp only[Option.map_eq_some_iff] at hc
  obtain⟨l,h1,h2⟩:=hc
  cases h2
  refine wp_region ?_
  have e:=wpOps_eq_wpList (P:=P) (ops:=ops') (Q:=fun e a' w'=>∃ s',Q e s'∧Rel cx s' a' w') ops'.toList 0 (fun j=>by simp)
  have e2:List.range ops'.size=List.range' 0 ops'.toList.length:=by rw[List.range_eq_range'];simp
  rw[e2,e]
  exact awpOps_ok rfl (fun s a w h1 h2=>⟨s,h1,h2⟩) h1 h hR
 all_goals ((try unfold compile at hc);first|(split at hc <;> (first|(cases hc;done)|(simp at hc;done)))|(simp at hc;done))
theorem Awp.clr {c:Clr} {i ver:Nat} {n:Nat} {kk:IntKind} {ll:List (List D)} (hT:s.T c.sl=.og i ver) (hI:s.T c.il=.d (.at (.int kk n))) (hm:s.m i=some (.arr ver c.k true ll)) (hn:n≤ll.length)
  (h:Q .normal (((s.put (some c.d1) (.og i ver) []).put (some c.d2) (.d (.at (.int kk n))) []).put (some c.d3) .un [(i,.arr ver c.k true (clrL c.k c.z ll n))])):Awp P cx (.clr c) Q s:=by
 intro code hc a w hR
 cases code <;> try (simp [compile] at hc;done)
 case region id ops' draw =>
  unfold compile at hc
  split at hc
  ·rename_i c' h1
   cases hc
   obtain⟨rfl,h2⟩:=clr_wp (ops:=ops') (Q:=fun e a' w'=>∃ s',Q e s'∧Rel cx s' a' w') h1 rfl hR hT hI hm hn fun a' w' h'=>⟨_,h,h'⟩
   refine wp_region ?_
   have e:=wpOps_eq_wpList (P:=P) (ops:=ops') (Q:=fun e a' w'=>∃ s',Q e s'∧Rel cx s' a' w') ops'.toList 0 (fun j=>by simp)
   have e2:List.range ops'.size=List.range' 0 ops'.toList.length:=by rw[List.range_eq_range'];simp
   rw[e2,e]
   exact h2
  ·simp at hc
 all_goals ((try unfold compile at hc);first|(split at hc <;> (first|(cases hc;done)|(simp at hc;done)))|(simp at hc;done))
theorem Awp.loop {x:AC} (I:St→Prop) (μ:St→Nat) (h0:I s) (hr:∀ s,I s→Awp P cx x (thenE (fun s'=>I s'∧μ s'<μ s) Q) s):Awp P cx (.loop x) Q s:=by
 intro code hc a w hR
 cases code <;> try (simp [compile] at hc;done)
 case loop c1 =>
  simp only[compile,Option.map_eq_some_iff] at hc
  obtain⟨x',h1,h2⟩:=hc
  cases h2
  intro b k cs
  have key:∀ n s a w,μ s=n→I s→Rel cx s a w→∃ e a' w',(∃ s',Q e s'∧Rel cx s' a' w')∧Arrives P (lone (b.at a (.code c1 :: .inLoop c1 :: k)) cs w) b k cs e a' w':=by
   intro n
   induction n using Nat.strongRecOn with
   |_ n ih =>
    intro s a w hn hI hR
    obtain⟨e,a₁,w₁,⟨s₁,hq,hR₁⟩,harr⟩:=hr s hI c1 h1 a w hR b (.inLoop c1 :: k) cs
    cases e with
    |normal =>
     obtain⟨hI₁,hlt⟩:=hq
     obtain⟨e₂,a₂,w₂,hq₂,harr₂⟩:=ih (μ s₁) (hn ▸ hlt) s₁ a₁ w₁ rfl hI₁ hR₁
     exact⟨e₂,a₂,w₂,hq₂,.of_steps (Steps.trans harr (.one step_inLoop)) harr₂⟩
    |exit id=>exact⟨_,a₁,w₁,⟨s₁,hq,hR₁⟩,.pass (x:=.inLoop c1) rfl (fun _ _=>.inl (by simp)) harr⟩
    |goto l=>exact⟨_,a₁,w₁,⟨s₁,hq,hR₁⟩,.pass (x:=.inLoop c1) rfl (fun _ _=>.inl (by simp)) harr⟩
    |ret=>exact⟨_,a₁,w₁,⟨s₁,hq,hR₁⟩,.pass (x:=.inLoop c1) rfl (fun _ _=>.inl (by simp)) harr⟩
    |panic ch=>exact⟨_,a₁,w₁,⟨s₁,hq,hR₁⟩,.pass (x:=.inLoop c1) rfl (fun _ _=>.inl (by simp)) harr⟩
    |outgrown=>exact⟨_,a₁,w₁,⟨s₁,hq,hR₁⟩,.pass (x:=.inLoop c1) rfl (fun _ _=>.inl (by simp)) harr⟩
  obtain⟨e,a',w',hq,harr⟩:=key _ s a w rfl h0 hR
  exact⟨e,a',w',hq,.of_steps (.one step_loop) harr⟩
 all_goals ((try unfold compile at hc);first|(split at hc <;> (first|(cases hc;done)|(simp at hc;done)))|(simp at hc;done))
end
end Go.Proofs.YticdbambknflgaaGreat.Sim
end
