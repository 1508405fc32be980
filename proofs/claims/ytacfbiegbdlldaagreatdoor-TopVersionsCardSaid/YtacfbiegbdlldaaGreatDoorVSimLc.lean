/- From a body to a call that sees the whole memory: of no program. Conditions: none. -/
import Derived.Test.YtacfbiegbdlldaaGreatDoorVSimRn
namespace Go.Proofs.YtacfbiegbdlldaaGreatDoor.Sim
open Go Go.RowKit Go.Deep
set_option linter.unusedVariables false
def RetL (cx:Cx) (m':M):Exit→St→Prop
 |.normal,s=>∃ T,Wk cx s ⟨T,m'⟩
 |.ret,s=>∃ T,Wk cx s ⟨T,m'⟩
 |_,_=>False
theorem does_ofL {P:Program} {f:FuncId} {fn:Func} {code:Code} {N:NF} {ac:AC} {xs:List V} {m:M} {us:U} (hf:P.funcs[f]?=some fn) (hb:fn.body=some code) (hn:fn.ntmps=N.n) (hc:compile P N code=some ac) (hr:fn.results=#[]) (hxs:xs.length≤N.n)
  (h:∀ cx:Cx,cx.N=N→cx.m0=m→Awp P cx ac (RetL cx (ups m us)) ⟨tl (idx 0 xs),m⟩):DoesL P f xs m (.tu []) us:=by
 intro w hd S X B vs hgk hm hv
 have hul:=hv.len
 let X':Nat→Prop:=fun b=>(X b∨B≤b)∧b<w.heap.size∧¬ S b
 have hm':Mem m hd w S X' w.heap.size:=by
  refine⟨fun i o hi=>?_,hm.sep,hm.lt,Nat.le_refl _,fun b h=>h.2.1⟩
  have hob:=hm.obj i o hi
  cases o with
  |box v cs =>
   simp only[O.is] at hob ⊢
   obtain⟨b,vs,e,g1,g2,g3,g4⟩:=hob
   exact⟨b,vs,e,.inr ⟨g1.symm,g2,g3⟩,g2,g3,g4⟩
  |arr v k mu l =>
   cases mu with
   |true =>
    simp only[O.is,if_true] at hob ⊢
    obtain⟨ys,h1,h2|⟨g,off,cap,e,h3,h4,h5,h6,h7⟩⟩:=hob
    ·exact⟨ys,h1,.inl h2⟩
    ·exact⟨ys,h1,.inr ⟨g,off,cap,e,h3,.inr ⟨h4.symm,h5,h6⟩,h5,h6,h7⟩⟩
   |false=>simp only[O.is,Bool.false_eq_true,if_false] at hob ⊢;exact hob
  |vec v kk cs =>
   simp only[O.is] at hob ⊢
   obtain⟨ys,h1,h2,h3|⟨g,off,cap,nn,e,h3,h4,h5,h6,h7⟩⟩:=hob
   ·exact⟨ys,h1,h2,.inl h3⟩
   ·exact⟨ys,h1,h2,.inr ⟨g,off,cap,nn,e,h3,.inr ⟨h4.symm,h5,h6⟩,h5,h6,h7⟩⟩
  |mp v ks =>
   simp only[O.is] at hob ⊢
   obtain⟨b,es,c,e,g1,g2,g3,g4⟩:=hob
   exact⟨b,es,c,e,.inr ⟨g1.symm,g2,g3⟩,g2,g3,g4⟩
 have hgk':Gk w X':=fun g hg=>by
  obtain⟨g1,g2,g3⟩:=hgk g hg
  refine⟨Nat.lt_of_lt_of_le g1 hm.base,fun h=>h.1.elim g2 (fun h=>by omega),g3⟩
 let cx:Cx:={ w0:=w,X:=X',S0:=S,N:=N,m0:=m,hd0:=hd,gk:=hgk' }
 refine calls_of_wp hf hb ?_
 have hR:Rel cx ⟨tl (idx 0 xs),m⟩ { tmps:=vs.toArray++Array.replicate (fn.ntmps-vs.toArray.size) undef,defers:=[] } w:=by
  refine⟨hd,S,hm',fun t=>?_,Fr.refl _ _,rfl,by simp [hn];show vs.length+(N.n-vs.length)=N.n;omega,fun b hb=>.inl hb,Le.refl _ _⟩
  simp only
  rw[tl_idx 0]
  simp only[Nat.zero_le,Nat.zero_add,true_and,Nat.sub_zero]
  split
  ·rename_i ht
   have hx:xs[t]?=some (xs.getD t .un):=by rw[List.getD_eq_getElem?_getD,List.getElem?_eq_getElem ht];rfl
   obtain⟨u,h1,h2⟩:=hv.get t _ hx
   have:(vs.toArray++Array.replicate (fn.ntmps-vs.toArray.size) undef).getD t undef=u:=by
    rw[Array.getD_eq_getD_getElem?,Array.getElem?_append_left (by simp;omega)]
    simp [h1]
   rw[this]
   exact h2
  ·simp only[VR]
 refine wp_mono (h cx rfl rfl code hc _ _ hR) ?_
 rintro e a' w' ⟨s',hq,hR'⟩
 have fin:(∃ T,Wk cx s' ⟨T,ups m us⟩)→a'.defers=[]∧∃ v,(results fn a'.tmps).run P w'=.ok v w'∧∃ u hd' S',Ending.returned v=.returned u∧Out X B m hd w S (ups m us) hd' w' S'∧VR (ups m us) hd' w' S' (.tu []) u:=by
  rintro⟨T,hw⟩
  obtain⟨hd1,S1,hm1,hv1,hfr,hdef,hsz,hsub,hle⟩:=hw _ _ hR'
  simp only at hm1 hle
  have hSk:∀ b,S b→b<w.heap.size→w'.heap[b]?=w.heap[b]?:=fun b hb hlt=>hfr.block b hlt fun h=>h.2.2 hb
  have hno:∀ b,(w.heap.size≤b∨X' b)→¬ S b:=fun b h hb=>h.elim (fun h=>by have:=hm.lt b hb;omega) fun h=>h.2.2 hb
  have hXB:∀ b,(w.heap.size≤b∨X' b)→(B≤b∨X b):=fun b h=>h.elim (fun h=>.inl (Nat.le_trans hm.base h)) fun h=>h.1.symm
  refine⟨hdef,.tuple #[],?_,.tuple #[],hd1,fun b=>S b∨S1 b,rfl,⟨⟨fun i o hi=>?_,hm1.sep,fun b hb=>hb.elim (fun h=>Nat.lt_of_lt_of_le (hm.lt b h) hfr.size) (hm1.lt b),Nat.le_trans hm.base hfr.size,hm.sX⟩,hle,fun b hb hlt=>⟨.inl hb,hSk b hb hlt⟩,⟨hfr.os,hfr.tape,hfr.output,hfr.size,fun b hlt hn=>hfr.block b hlt fun h=>hn h.1⟩,fun b hb=>hb.elim .inl fun h=>(hsub b h).elim .inl fun h=>.inr (h.elim (fun h=>.inl (Nat.le_trans hm.base h)) fun h=>h.1.symm)⟩,?_⟩
  ·unfold results
   rw[hr]
   simp
  ·have hob:=hm1.obj i o hi
   have hS1:∀ b,S1 b→b<w'.heap.size→(S b∨S1 b)∧w'.heap[b]?=w'.heap[b]?:=fun b h _=>⟨.inr h,rfl⟩
   have hboth:∀ b,(w.heap.size≤b∨X' b)→¬ S1 b→¬ (S b∨S1 b):=fun b h h1 h2=>h2.elim (hno b h) h1
   cases o with
   |box v cs =>
    simp only[O.is] at hob ⊢
    obtain⟨b,vs,e,g1,g2,g3,g4,g5⟩:=hob
    exact⟨b,vs,e,hXB b g1,g2,hboth b g1 g3,VRs.keep (Le.refl _ _) hS1 _ _ g4,g5⟩
   |arr v k mu l =>
    cases mu with
    |true =>
     simp only[O.is,if_true] at hob ⊢
     obtain⟨ys,h1,h2⟩:=hob
     exact⟨ys,Rows.keep hS1 _ _ _ h1,h2.imp id fun⟨g,off,cap,e,h3,h4,h5,h6,h7⟩=>⟨g,off,cap,e,h3,hXB g h4,h5,hboth g h4 h6,h7⟩⟩
    |false=>simp only[O.is,Bool.false_eq_true,if_false] at hob ⊢;exact D.keep hS1 _ _ hob
   |vec v kk cs =>
    simp only[O.is] at hob ⊢
    obtain⟨ys,h1,h2,h3⟩:=hob
    exact⟨ys,VRs.keep (Le.refl _ _) hS1 _ _ h1,h2,h3.imp id fun⟨g,off,cap,nn,e,h3,h4,h5,h6,h7⟩=>⟨g,off,cap,nn,e,h3,hXB g h4,h5,hboth g h4 h6,h7⟩⟩
   |mp v ks =>
    simp only[O.is] at hob ⊢
    obtain⟨b,es,c,e,g1,g2,g3,g4⟩:=hob
    exact⟨b,es,c,e,hXB b g1,g2,hboth b g1 g3,g4⟩
  ·simp only[VR]
   exact⟨[],rfl,by simp [VRs]⟩
 cases e with
 |normal=>exact fin hq
 |ret=>exact fin hq
 |_=>exact hq.elim
end Go.Proofs.YtacfbiegbdlldaaGreatDoor.Sim
