/- Queries on polynomials. -/
import Derived.Test.YtacfbiegbdlldaaGreatDoorVSimLc
import Derived.Test.YtacfbiegbdlldaaGreatDoorVSimLq
import Derived.Test.YtacfbiegbdlldaaGreatDoorVTpY
import Derived.Test.YtacfbiegbdlldaaGreatDoorVSimSl
import Derived.Test.YtacfbiegbdlldaaGreatDoorVSimJn
section
namespace Go.Proofs.YtacfbiegbdlldaaGreatDoor.Sim
open Go Go.RowKit Go.Deep
set_option linter.unusedVariables false
def RetLr (cx:Cx) (m':M) (rs:List RV) (r:V):Exit→St→Prop
 |.normal,s=>∃ T,Wk cx s ⟨T,m'⟩∧resV ⟨T,m'⟩ rs=some r
 |.ret,s=>∃ T,Wk cx s ⟨T,m'⟩∧resV ⟨T,m'⟩ rs=some r
 |_,_=>False
theorem does_ofLr {P:Program} {f:FuncId} {fn:Func} {code:Code} {N:NF} {ac:AC} {xs:List V} {m:M} {us:U} {rs:List RV} {r:V} (hf:P.funcs[f]?=some fn) (hb:fn.body=some code) (hn:fn.ntmps=N.n) (hc:compile P N code=some ac) (hr:rvsOf P fn.results.toList=some rs) (hxs:xs.length≤N.n)
  (h:∀ cx:Cx,cx.N=N→cx.m0=m→Awp P cx ac (RetLr cx (ups m us) rs r) ⟨tl (idx 0 xs),m⟩):DoesL P f xs m r us:=by
 intro w hd S X B vs hgk hm hv
 have hul:=hv.len
 let X':Nat→Prop:=fun b=>(X b∨B≤b)∧b<w.heap.size∧¬ S b
 have hm':Mem m hd w S X' w.heap.size:=by
  refine⟨fun i o hi=>?_,hm.sep,hm.lt,Nat.le_refl _,fun b h=>h.2.1⟩
  have hob:=hm.obj i o hi
  cases o with
  |box v cs =>
   simp only[O.is] at hob ⊢
   obtain⟨b,vs,e,g1,g2,g3,g4⟩:=hob
   exact⟨b,vs,e,.inr ⟨g1.symm,g2,g3⟩,g2,g3,g4⟩
  |arr v k mu l =>
   cases mu with
   |true =>
    simp only[O.is,if_true] at hob ⊢
    obtain⟨ys,h1,h2|⟨g,off,cap,e,h3,h4,h5,h6,h7⟩⟩:=hob
    ·exact⟨ys,h1,.inl h2⟩
    ·exact⟨ys,h1,.inr ⟨g,off,cap,e,h3,.inr ⟨h4.symm,h5,h6⟩,h5,h6,h7⟩⟩
   |false=>simp only[O.is,Bool.false_eq_true,if_false] at hob ⊢;exact hob
  |vec v kk cs =>
   simp only[O.is] at hob ⊢
   obtain⟨ys,h1,h2,h3|⟨g,off,cap,nn,e,h3,h4,h5,h6,h7⟩⟩:=hob
   ·exact⟨ys,h1,h2,.inl h3⟩
   ·exact⟨ys,h1,h2,.inr ⟨g,off,cap,nn,e,h3,.inr ⟨h4.symm,h5,h6⟩,h5,h6,h7⟩⟩
  |mp v ks =>
   simp only[O.is] at hob ⊢
   obtain⟨b,es,c,e,g1,g2,g3,g4⟩:=hob
   exact⟨b,es,c,e,.inr ⟨g1.symm,g2,g3⟩,g2,g3,g4⟩
 have hgk':Gk w X':=fun g hg=>by
  obtain⟨g1,g2,g3⟩:=hgk g hg
  refine⟨Nat.lt_of_lt_of_le g1 hm.base,fun h=>h.1.elim g2 (fun h=>by omega),g3⟩
 let cx:Cx:={ w0:=w,X:=X',S0:=S,N:=N,m0:=m,hd0:=hd,gk:=hgk' }
 refine calls_of_wp hf hb ?_
 have hR:Rel cx ⟨tl (idx 0 xs),m⟩ { tmps:=vs.toArray++Array.replicate (fn.ntmps-vs.toArray.size) undef,defers:=[] } w:=by
  refine⟨hd,S,hm',fun t=>?_,Fr.refl _ _,rfl,by simp [hn];show vs.length+(N.n-vs.length)=N.n;omega,fun b hb=>.inl hb,Le.refl _ _⟩
  simp only
  rw[tl_idx 0]
  simp only[Nat.zero_le,Nat.zero_add,true_and,Nat.sub_zero]
  split
  ·rename_i ht
   have hx:xs[t]?=some (xs.getD t .un):=by rw[List.getD_eq_getElem?_getD,List.getElem?_eq_getElem ht];rfl
   obtain⟨u,h1,h2⟩:=hv.get t _ hx
   have:(vs.toArray++Array.replicate (fn.ntmps-vs.toArray.size) undef).getD t undef=u:=by
    rw[Array.getD_eq_getD_getElem?,Array.getElem?_append_left (by simp;omega)]
    simp [h1]
   rw[this]
   exact h2
  ·simp only[VR]
 refine wp_mono (h cx rfl rfl code hc _ _ hR) ?_
 rintro e a' w' ⟨s',hq,hR'⟩
 have fin:(∃ T,Wk cx s' ⟨T,ups m us⟩∧resV ⟨T,ups m us⟩ rs=some r)→a'.defers=[]∧∃ v,(results fn a'.tmps).run P w'=.ok v w'∧∃ u hd' S',Ending.returned v=.returned u∧Out X B m hd w S (ups m us) hd' w' S'∧VR (ups m us) hd' w' S' r u:=by
  rintro⟨T,hw,hrv⟩
  obtain⟨hd1,S1,hm1,hv1,hfr,hdef,hsz,hsub,hle⟩:=hw _ _ hR'
  simp only at hm1 hle
  have hSk:∀ b,S b→b<w.heap.size→w'.heap[b]?=w.heap[b]?:=fun b hb hlt=>hfr.block b hlt fun h=>h.2.2 hb
  have hno:∀ b,(w.heap.size≤b∨X' b)→¬ S b:=fun b h hb=>h.elim (fun h=>by have:=hm.lt b hb;omega) fun h=>h.2.2 hb
  have hXB:∀ b,(w.heap.size≤b∨X' b)→(B≤b∨X b):=fun b h=>h.elim (fun h=>.inl (Nat.le_trans hm.base h)) fun h=>h.1.symm
  obtain⟨u,hu1,hu2⟩:=resV_ok hm1 hv1 hr hrv
  refine⟨hdef,u,?_,u,hd1,fun b=>S b∨S1 b,rfl,⟨⟨fun i o hi=>?_,hm1.sep,fun b hb=>hb.elim (fun h=>Nat.lt_of_lt_of_le (hm.lt b h) hfr.size) (hm1.lt b),Nat.le_trans hm.base hfr.size,hm.sX⟩,hle,fun b hb hlt=>⟨.inl hb,hSk b hb hlt⟩,⟨hfr.os,hfr.tape,hfr.output,hfr.size,fun b hlt hn=>hfr.block b hlt fun h=>hn h.1⟩,fun b hb=>hb.elim .inl fun h=>(hsub b h).elim .inl fun h=>.inr (h.elim (fun h=>.inl (Nat.le_trans hm.base h)) fun h=>h.1.symm)⟩,?_⟩
  ·exact hu1
  ·have hob:=hm1.obj i o hi
   have hS1:∀ b,S1 b→b<w'.heap.size→(S b∨S1 b)∧w'.heap[b]?=w'.heap[b]?:=fun b h _=>⟨.inr h,rfl⟩
   have hboth:∀ b,(w.heap.size≤b∨X' b)→¬ S1 b→¬ (S b∨S1 b):=fun b h h1 h2=>h2.elim (hno b h) h1
   cases o with
   |box v cs =>
    simp only[O.is] at hob ⊢
    obtain⟨b,vs,e,g1,g2,g3,g4,g5⟩:=hob
    exact⟨b,vs,e,hXB b g1,g2,hboth b g1 g3,VRs.keep (Le.refl _ _) hS1 _ _ g4,g5⟩
   |arr v k mu l =>
    cases mu with
    |true =>
     simp only[O.is,if_true] at hob ⊢
     obtain⟨ys,h1,h2⟩:=hob
     exact⟨ys,Rows.keep hS1 _ _ _ h1,h2.imp id fun⟨g,off,cap,e,h3,h4,h5,h6,h7⟩=>⟨g,off,cap,e,h3,hXB g h4,h5,hboth g h4 h6,h7⟩⟩
    |false=>simp only[O.is,Bool.false_eq_true,if_false] at hob ⊢;exact D.keep hS1 _ _ hob
   |vec v kk cs =>
    simp only[O.is] at hob ⊢
    obtain⟨ys,h1,h2,h3⟩:=hob
    exact⟨ys,VRs.keep (Le.refl _ _) hS1 _ _ h1,h2,h3.imp id fun⟨g,off,cap,nn,e,h3,h4,h5,h6,h7⟩=>⟨g,off,cap,nn,e,h3,hXB g h4,h5,hboth g h4 h6,h7⟩⟩
   |mp v ks =>
    simp only[O.is] at hob ⊢
    obtain⟨b,es,c,e,g1,g2,g3,g4⟩:=hob
    exact⟨b,es,c,e,hXB b g1,g2,hboth b g1 g3,g4⟩
  ·exact VR.keep (Le.refl _ _) (fun b h _=>⟨.inr h,rfl⟩) _ _ hu2
 cases e with
 |normal=>exact fin hq
 |ret=>exact fin hq
 |_=>exact hq.elim
end Go.Proofs.YtacfbiegbdlldaaGreatDoor.Sim
end
section
namespace Go.Proofs.YtacfbiegbdlldaaGreatDoor.Sim
open Go Go.RowKit Go.Deep
set_option maxRecDepth 100000
set_option maxHeartbeats 4000000
set_option linter.unusedVariables false
set_option linter.unusedSimpArgs false
attribute [local irreducible] Go Mean
def drawU (nums:List Int) (at_:Nat) (v:Nat) (l:List Int):U:=[(900000,.box 0 [.d (dInts nums),I at_,.og 33 v]),(33,.arr v 1 true (l.map eI))]
theorem nextL (nums:List Int) (at_ v:Nat) (l:List Int) (n:Int) (hn:nums.length≤1000000) (ha:at_<nums.length) (hx:0≤nums.getD at_ 0∧nums.getD at_ 0<n) :
  DoesL Tryz.prog 96 [.bp 900000 0 0,I n] (ups M0 (drawU nums at_ v l)) (.tu [I (nums.getD at_ 0),I 0]) [(900000,.box 0 [.d (dInts nums),I (at_+1:Nat),.og 33 v])]:=by
 refine does_ofLr Tryz.func96 (by kernel_rfl:Tryz.f96.body=some (Tryz.f96.body.getD .skip)) rfl c_tape_position_next (rs:=R76') (by kernel_rfl) (of_decide_eq_true (by kernel_rfl)) fun cx _ hm0=>?_
 refine go_in 5000 ?_
 unfold A76' drawU
 have q1:((at_:Int) == (nums.length:Int))=false:=by simp;omega
 have hs:=getD_map eI [] 0 nums at_ ha
 have w1:IntKind.i64.wrap ((at_:Int)+1)=((at_+1:Nat):Int):=by rw[i6 _ (by omega)];omega
 generalize nums.getD at_ 0=x at *
 have q2:decide (x<0)=false:=df (by omega)
 have q3:decide (n≤x)=false:=df (by omega)
 repeat' (first|simp (maxSteps:=9999999) only[↓GE,PL,PP,EE,QQ,seval,q1,q2,q3,hs,ha,w1,eI,lm]|(simp (disch:=omega) only[i6])|(apply go_brD<;>intro h)|(apply go_gsD aE<;>intro h)|(apply go_br<;>intro h)|(apply go_gs aE<;>intro h)|(with_reducible apply And.intro)|exact aG|fail)
 refine⟨_,Wk.refl,?_⟩
 rfl
def DrawOK (nums:List Int) (at_:Nat) (n:Int) (count:Nat):Prop:=at_+count≤nums.length∧∀ i,i<count→0≤nums.getD (at_+i) 0∧nums.getD (at_+i) 0<n
theorem drop_take_next {l:List Int} {a k:Nat} (h:a+k<l.length):(l.drop a).take (k+1)=(l.drop a).take k++[l.getD (a+k) 0]:=by
 rw[List.take_succ_eq_append_getElem (by rw[List.length_drop];omega),List.getElem_drop,List.getD_eq_getElem?_getD,List.getElem?_eq_getElem h];rfl
theorem drawT (nums:List Int) (at_:Nat) (n:Int) (count:Nat) (hn:nums.length≤1000000) (ho:DrawOK nums at_ n count) :
  Does Tryz.prog 73 [.bp 900000 0 0,I n,I count] [(900000,.box 0 [.d (dInts nums),I at_,.nl 1])] (I 0) [(900000,.box 0 [.d (dInts nums),I (at_+count:Nat),.d (dInts ((nums.drop at_).take count))])] []:=by
 refine G63' rfl ⟨rfl,by simp⟩ fun cx hm0=>go_in 5000 ?_
 unfold A63' R63'
 obtain⟨ho1,ho2⟩:=ho
 repeat' (first|simp (maxSteps:=9999999) only[↓GE,PL,PP,EE,QQ,seval]|(simp (disch:=omega) only[i6])|(apply go_brD<;>intro h)|(apply go_gsD aE<;>intro h)|(apply go_br<;>intro h)|(apply go_gs aE<;>intro h)|(with_reducible apply And.intro)|exact aG|fail)
 refine go_loopq 5000 hm0 (ι:={q:Nat × Nat // q.1≤count}) (fun q=>[(0,.bp 900000 0 0),(1,I n),(2,I count),(7,I q.1.1)]) (fun q=>drawU nums (at_+q.1.1) q.1.2 ((nums.drop at_).take q.1.1)) (fun q=>count-q.1.1) [] [33] ⟨(0,0),Nat.zero_le _⟩ ?_ ?_
 ·unfold drawU
  simp only[GeZ];exact aH
 ·rintro⟨⟨k,v⟩,hk⟩
  simp only at hk ⊢
  by_cases hkc:k<count
  ·have r1:decide ((k:Int)<(count:Int))=true:=dt (by omega)
   have u1:IntKind.i64.wrap ((k:Int)+1)=((k+1:Nat):Int):=by rw[i6 _ (by omega)];omega
   have e1:=nextL nums (at_+k) v ((nums.drop at_).take k) n hn (by omega) (ho2 k hkc)
   have hnx:=drop_take_next (l:=nums) (a:=at_) (k:=k) (by omega)
   have hl:((nums.drop at_).take k).length=k:=by rw[List.length_take,List.length_drop];omega
   generalize (nums.drop at_).take k=L at *
   generalize nums.getD (at_+k) 0=x at *
   unfold drawU at e1 ⊢
   repeat' (first|simp (maxSteps:=9999999) only[↓GE,PL,PP,EE,QQ,seval,r1]|(simp (disch:=omega) only[i6])|(apply go_brD<;>intro h)|(apply go_gsD aE<;>intro h)|(apply go_br<;>intro h)|(apply go_gs aE<;>intro h)|(with_reducible apply And.intro)|exact aG|fail)
   refine go_callL 5000 e1 rfl rfl ?_
   repeat' (first|simp (maxSteps:=9999999) only[↓GE,PL,PP,EE,QQ,seval,u1,hl,lm]|(simp (disch:=omega) only[i6])|(apply go_brD<;>intro h)|(apply go_gsD aE<;>intro h)|(apply go_br<;>intro h)|(apply go_gs aE<;>intro h)|(with_reducible apply And.intro)|exact aG|fail)
   refine⟨[],[],⟨(k+1,v+1),hkc⟩,?_,by simp only;omega⟩
   simp only[GeZ];(simp only[GeS];refine⟨?_,?_,?_,?_⟩;all_goals (repeat' (first|(with_reducible exact True.intro)|(with_reducible rfl)|simp only[XC,↓reduceIte,seval]|(with_reducible apply And.intro)|(refine⟨_,rfl,?_⟩)|(simp [hnx,eI,Nat.add_assoc];done)|exact aS|fail)))
  ·obtain rfl:k=count:=by omega
   have r1:decide ((k:Int)<(k:Int))=false:=df (by omega)
   unfold drawU
   repeat' (first|simp (maxSteps:=9999999) only[↓GE,PL,PP,EE,QQ,seval,r1]|(simp (disch:=omega) only[i6])|(apply go_brD<;>intro h)|(apply go_gsD aE<;>intro h)|(apply go_br<;>intro h)|(apply go_gs aE<;>intro h)|(with_reducible apply And.intro)|exact aG|fail)
   refine go_blkMeet 5000 hm0 [.og 33 v] [] [(0,.bp 900000 0 0)] [(900000,.box 0 [.d (dInts nums),I (at_+k:Nat),.d (dInts ((nums.drop at_).take k))])] ?_ ?_
   ·simp only[GeZ];exact aH
   ·repeat' (first|simp (maxSteps:=9999999) only[↓GE,PL,PP,EE,QQ,seval]|(simp (disch:=omega) only[i6])|(apply go_brD<;>intro h)|(apply go_gsD aE<;>intro h)|(apply go_br<;>intro h)|(apply go_gs aE<;>intro h)|(with_reducible apply And.intro)|exact aG|fail)
    ((first|apply ret_mk []|apply end_mk []);(· exact aR);(· exact aZ);all_goals exact aF)
theorem tvalid (nums:List Int) (at_:Nat) (hn:nums.length≤16384) (ha:at_≤nums.length):Does Tryz.prog 71 [.ag [.d (dInts nums),I at_]] [] (B true) [] []:=by
 refine G24' rfl BxOK.nil fun cx hm0=>go_in 5000 ?_
 unfold A24' R24'
 have q1:decide ((nums.length:Int)≤16384)=true:=dt (by omega)
 have q2:decide ((0:Int)≤(at_:Int))=true:=dt (by omega)
 have q3:decide ((at_:Int)≤(nums.length:Int))=true:=dt (by omega)
 repeat' (first|simp (maxSteps:=9999999) only[↓GE,PL,PP,EE,QQ,seval,q1,q2,q3,lm]|(simp (disch:=omega) only[i6])|(apply go_brD<;>intro h)|(apply go_gsD aE<;>intro h)|(apply go_br<;>intro h)|(apply go_gs aE<;>intro h)|(with_reducible apply And.intro)|exact aG|fail)
 all_goals ((first|apply ret_mk []|apply end_mk []);(· exact aR);(· exact aZ);all_goals exact aF)
theorem tlimit (n:Int) (h1:1≤n) (h2:n≤2147483647):Does Tryz.prog 72 [I n] [] (B true) [] []:=by
 refine G62' rfl BxOK.nil fun cx hm0=>go_in 5000 ?_
 unfold A62' R62'
 have q1:decide ((1:Int)≤n)=true:=dt (by omega)
 have q2:decide (n≤2147483647)=true:=dt (by omega)
 repeat' (first|simp (maxSteps:=9999999) only[↓GE,PL,PP,EE,QQ,seval,q1,q2]|(simp (disch:=omega) only[i6])|(apply go_brD<;>intro h)|(apply go_gsD aE<;>intro h)|(apply go_br<;>intro h)|(apply go_gs aE<;>intro h)|(with_reducible apply And.intro)|exact aG|fail)
 all_goals ((first|apply ret_mk []|apply end_mk []);(· exact aR);(· exact aZ);all_goals exact aF)
theorem drawsT (nums:List Int) (at_:Nat) (n:Int) (count:Nat) (hn:nums.length≤16384) (h1:1≤n) (h2:n≤2147483647) (ho:DrawOK nums at_ n count) :
  Does Tryz.prog 41 [.ag [.d (dInts nums),I at_],I n,I count] [] (.tu [.ag [.d (dInts nums),I (at_+count:Nat)],.d (dInts ((nums.drop at_).take count)),I 0]) [] []:=by
 refine G22' rfl BxOK.nil fun cx hm0=>go_in 5000 ?_
 unfold A22' R22'
 have e1:=tvalid nums at_ hn (by have:=ho.1;omega)
 have e2:=tlimit n h1 h2
 have q1:decide ((count:Int)<0)=false:=df (by omega)
 have e3:Does Tryz.prog 73 [.bp 29 0 0,I n,I count] [(29,.box 0 [.d (dInts nums),I at_,.nl 1])] (I 0) [(29,.box 0 [.d (dInts nums),I (at_+count:Nat),.d (dInts ((nums.drop at_).take count))])] []:=(drawT nums at_ n count (by omega) ho).nm [(900000,29,0)] rfl rfl rfl rfl rfl rfl rfl rfl rfl
 have e4:=cloneInts nums (by omega)
 repeat' (first|simp (maxSteps:=9999999) only[↓GE,PL,PP,EE,QQ,seval,q1,lm]|(simp (disch:=omega) only[i6])|(apply go_brD<;>intro h)|(apply go_gsD aE<;>intro h)|(apply go_br<;>intro h)|(apply go_gs aE<;>intro h)|(apply go_call 5000 (e1) rfl rfl;iterate 4 (first|(exact CallForm.plain rfl)|exact aC))|(apply go_call 5000 (e2) rfl rfl;iterate 4 (first|(exact CallForm.plain rfl)|exact aC))|(apply go_call 5000 (e3) rfl rfl;iterate 4 (first|(exact CallForm.lent aL rfl rfl)|exact aC))|(apply go_call 5000 (e4) rfl rfl;iterate 4 (first|(exact CallForm.news rfl rfl)|exact aC))|(with_reducible apply And.intro)|exact aG|fail)
 all_goals ((first|apply ret_mk []|apply end_mk []);(· exact aR);(· exact aZ);all_goals exact aF)
end Go.Proofs.YtacfbiegbdlldaaGreatDoor.Sim
end
section
namespace Go.Proofs.YtacfbiegbdlldaaGreatDoor.Sim
open Go Go.RowKit Go.Deep
set_option maxRecDepth 100000
set_option maxHeartbeats 4000000
set_option linter.unusedVariables false
set_option linter.unusedSimpArgs false
attribute [local irreducible] Go Mean
theorem threshold (n:Int) (h0:0≤n) (h9:n≤9):Does Tryz.prog 74 [I n] [] (B true) [] []:=by
 refine G67' rfl BxOK.nil fun cx hm0=>go_in 5000 ?_
 unfold A67' R67'
 have q1:decide ((0:Int)≤n)=true:=dt (by omega)
 have q2:decide (n≤9)=true:=dt (by omega)
 repeat' (first|simp (maxSteps:=9999999) only[↓GE,PL,PP,EE,QQ,seval,q1,q2]|(simp (disch:=omega) only[i6])|(apply go_brD<;>intro h)|(apply go_gsD aE<;>intro h)|(apply go_br<;>intro h)|(apply go_gs aE<;>intro h)|(with_reducible apply And.intro)|exact aG|fail)
 all_goals ((first|apply ret_mk []|apply end_mk []);(· exact aR);(· exact aZ);all_goals exact aF)
def ptsF (n:Nat):List Int:=(List.range n).map fun k:Nat=>(k:Int)+1
theorem ptsF_next {n:Nat}:ptsF (n+1)=ptsF n++[(n:Int)+1]:=by simp [ptsF,List.range_succ]
theorem ptsF_len {n:Nat}:(ptsF n).length=n:=by simp [ptsF]
theorem ptsF_get {n k:Nat} (h:k<n):(ptsF n).getD k 0=(k:Int)+1:=by simp [ptsF,List.getD_eq_getElem?_getD,h]
def shareF (p:Int) (c:List Int) (pts:List Int):List (Int × Int):=pts.map fun x=>(x,valF p c x)
theorem shareF_len {p:Int} {c pts:List Int}:(shareF p c pts).length=pts.length:=by simp [shareF]
theorem shareF_next {p:Int} {c pts:List Int} {k:Nat} (h:k<pts.length):shareF p c (pts.take (k+1))=shareF p c (pts.take k)++[(pts.getD k 0,valF p c (pts.getD k 0))]:=by
 unfold shareF
 rw[List.take_succ_eq_append_getElem h,List.map_append,List.getD_eq_getElem?_getD,List.getElem?_eq_getElem h];rfl
theorem sharesT (p:Int) (c pts:List Int) (hp:1≤p) (hp2:p≤65521) (hc:c.all (inE p)=true) (hcl:c.length≤1000000) (hpt:pts.all (inE p)=true) (hpl:pts.length≤1000000) :
  Does Tryz.prog 75 [I p,.d (dInts c),.d (dInts pts)] [] (.d (dShares (shareF p c pts))) [] []:=by
 refine G68' rfl BxOK.nil fun cx hm0=>go_in 5000 ?_
 unfold A68' R68'
 repeat' (first|simp (maxSteps:=9999999) only[↓GE,PL,PP,EE,QQ,seval,lm]|(simp (disch:=omega) only[i6])|(apply go_brD<;>intro h)|(apply go_gsD aE<;>intro h)|(apply go_br<;>intro h)|(apply go_gs aE<;>intro h)|(with_reducible apply And.intro)|exact aG|fail)
 refine go_loopz 5000 hm0 (ι:={q:Nat × Nat // q.1≤pts.length}) (fun q=>[(0,I p),(1,.d (dInts c)),(7,.og 24 q.1.2),(10,.d (dInts pts)),(11,I pts.length),(12,I q.1.1)]) (fun q=>[(24,.arr q.1.2 2 true ((shareF p c (pts.take q.1.1)).map eS))]) (fun q=>pts.length-q.1.1) [] [24] ⟨(0,0),Nat.zero_le _⟩ ?_ ?_
 ·simp only[GeZ];(simp only[GeS];refine⟨?_,?_,?_,?_⟩;all_goals (repeat' (first|(with_reducible exact True.intro)|(with_reducible rfl)|simp only[XC,↓reduceIte,seval]|(with_reducible apply And.intro)|(refine⟨_,rfl,?_⟩)|(simp [shareF];done)|exact aS|fail)))
 ·rintro⟨⟨k,v⟩,hk⟩
  simp only at hk ⊢
  by_cases hkl:k<pts.length
  ·have r1:decide ((k:Int)<(pts.length:Int))=true:=dt (by omega)
   have u1:IntKind.i64.wrap ((k:Int)+1)=((k+1:Nat):Int):=by rw[i6 _ (by omega)];omega
   have hnx:=shareF_next (p:=p) (c:=c) hkl
   have hl:(shareF p c (pts.take k)).length=k:=by rw[shareF_len,List.length_take];omega
   have hs:=getD_map eI [] 0 pts k hkl
   have hx:=all_getD hpt hkl
   generalize pts.getD k 0=x at *
   generalize shareF p c (pts.take k)=SS at *
   have e1:=value p x c hp hp2 hx hc hcl
   repeat' (first|simp (maxSteps:=9999999) only[↓GE,PL,PP,EE,QQ,seval,r1,u1,hl,hs,hkl,eI,lm]|(simp (disch:=omega) only[i6])|(apply go_brD<;>intro h)|(apply go_gsD aE<;>intro h)|(apply go_br<;>intro h)|(apply go_gs aE<;>intro h)|(apply go_call 5000 (e1) rfl rfl;iterate 4 (first|(exact CallForm.plain rfl)|exact aC))|(with_reducible apply And.intro)|exact aG|fail)
   refine⟨[],[],⟨(k+1,v+1),hkl⟩,?_,by simp only;omega⟩
   simp only[GeZ];(simp only[GeS];refine⟨?_,?_,?_,?_⟩;all_goals (repeat' (first|(with_reducible exact True.intro)|(with_reducible rfl)|simp only[XC,↓reduceIte,seval]|(with_reducible apply And.intro)|(refine⟨_,rfl,?_⟩)|(simp [hnx,eS];done)|exact aS|fail)))
  ·obtain rfl:k=pts.length:=by omega
   have r1:decide ((pts.length:Int)<(pts.length:Int))=false:=df (by omega)
   rw[List.take_length]
   repeat' (first|simp (maxSteps:=9999999) only[↓GE,PL,PP,EE,QQ,seval,r1]|(simp (disch:=omega) only[i6])|(apply go_brD<;>intro h)|(apply go_gsD aE<;>intro h)|(apply go_br<;>intro h)|(apply go_gs aE<;>intro h)|(with_reducible apply And.intro)|exact aG|fail)
   all_goals ((first|apply ret_mk []|apply end_mk []);(· exact aR);(· exact aZ);all_goals exact aF)
theorem splitT (p secret:Int) (most count:Nat) (nums:List Int) (at_:Nat) (hf:fieldB p=true) (hs:0≤secret∧secret<p) (hm:most≤9) (h1:1≤count) (h2:(count:Int)<p) (h3:count≤512) (hn:nums.length≤16384) (ho:DrawOK nums at_ p most) :
  Does Tryz.prog 42 [.ag [I p],I secret,I most,I count,.ag [.d (dInts nums),I at_]] [] (.tu [.d (dShares (shareF p (secret :: (nums.drop at_).take most) (ptsF count))),.ag [.d (dInts nums),I (at_+most:Nat)],I 0]) [] []:=by
 refine G23' rfl BxOK.nil fun cx hm0=>go_in 5000 ?_
 unfold A23' R23'
 have hp:=(fieldB_iff.1 hf).1
 have hp2:=(fieldB_iff.1 hf).2.1
 have e1:=resOf p
 rw[hf,if_pos rfl] at e1
 have e2:=has p secret
 have hin:inE p secret=true:=by simp only[inE,Bool.and_eq_true];exact⟨dt hs.1,dt hs.2⟩
 rw[hin] at e2
 have e3:=threshold most (by omega) (by omega)
 have e4:=drawsT nums at_ p most hn (by omega) (by omega) ho
 have q1:decide ((count:Int)<1)=false:=df (by omega)
 have q2:decide (p≤(count:Int))=false:=df (by omega)
 have q3:decide ((512:Int)<(count:Int))=false:=df (by omega)
 have hdr:((nums.drop at_).take most).all (inE p)=true:=by
  rw[allIn]
  intro x hx
  obtain⟨i,hi,rfl⟩:=List.getElem_of_mem hx
  rw[List.length_take,List.length_drop] at hi
  have:=ho.2 i (by omega)
  have ho1:=ho.1
  rw[List.getElem_take,List.getElem_drop]
  simpa [List.getD_eq_getElem?_getD,show at_+i<nums.length by omega] using this
 have hdl:((nums.drop at_).take most).length=most:=by rw[List.length_take,List.length_drop];have:=ho.1;omega
 generalize (nums.drop at_).take most=dr at *
 have hpt:(ptsF count).all (inE p)=true:=by
  rw[allIn]
  intro x hx
  simp only[ptsF,List.mem_map,List.mem_range] at hx
  obtain⟨i,hi,rfl⟩:=hx
  omega
 have e5:=sharesT p (secret :: dr) (ptsF count) (by omega) hp2 (by rw[List.all_cons,hin,hdr];rfl) (by rw[List.length_cons];omega) hpt (by rw[ptsF_len];omega)
 repeat' (first|simp (maxSteps:=9999999) only[↓GE,PL,PP,EE,QQ,seval,q1,q2,q3,lm]|(simp (disch:=omega) only[i6])|(apply go_brD<;>intro h)|(apply go_gsD aE<;>intro h)|(apply go_br<;>intro h)|(apply go_gs aE<;>intro h)|(apply go_call 5000 (e1) rfl rfl;iterate 4 (first|(exact CallForm.plain rfl)|exact aC))|(apply go_call 5000 (e2) rfl rfl;iterate 4 (first|(exact CallForm.plain rfl)|exact aC))|(apply go_call 5000 (e3) rfl rfl;iterate 4 (first|(exact CallForm.plain rfl)|exact aC))|(apply go_call 5000 (e4) rfl rfl;iterate 4 (first|(exact CallForm.plain rfl)|exact aC))|(with_reducible apply And.intro)|exact aG|fail)
 refine go_loopz 5000 hm0 (ι:={q:Nat × Nat // q.1≤count}) (fun q=>[(1,I secret),(9,.bp 9 0 0),(11,.bp 11 0 0),(13,I p),(15,.d (dInts dr)),(17,.og 74 q.1.2),(66,I count),(67,I q.1.1)]) (fun q=>[(9,.box 0 [.d (dInts nums),I (at_+most:Nat)]),(11,.box 0 [.nl 1,I 0]),(74,.arr q.1.2 1 true ((ptsF q.1.1).map eI))]) (fun q=>count-q.1.1) [] [74] ⟨(0,0),Nat.zero_le _⟩ ?_ ?_
 ·simp only[GeZ];(simp only[GeS];refine⟨?_,?_,?_,?_⟩;all_goals (repeat' (first|(with_reducible exact True.intro)|(with_reducible rfl)|simp only[XC,↓reduceIte,seval]|(with_reducible apply And.intro)|(refine⟨_,rfl,?_⟩)|(simp [ptsF];done)|exact aS|fail)))
 ·rintro⟨⟨k,v⟩,hk⟩
  simp only at hk ⊢
  by_cases hkl:k<count
  ·have r1:decide ((k:Int)<(count:Int))=true:=dt (by omega)
   have u1:IntKind.i64.wrap ((k:Int)+1)=((k+1:Nat):Int):=by rw[i6 _ (by omega)];omega
   have hl:=ptsF_len (n:=k)
   have hnx:=ptsF_next (n:=k)
   generalize ptsF k=PT at *
   repeat' (first|simp (maxSteps:=9999999) only[↓GE,PL,PP,EE,QQ,seval,r1,u1,hl,lm]|(simp (disch:=omega) only[i6])|(apply go_brD<;>intro h)|(apply go_gsD aE<;>intro h)|(apply go_br<;>intro h)|(apply go_gs aE<;>intro h)|(with_reducible apply And.intro)|exact aG|fail)
   refine⟨[],[],⟨(k+1,v+1),hkl⟩,?_,by simp only;omega⟩
   simp only[GeZ];(simp only[GeS];refine⟨?_,?_,?_,?_⟩;all_goals (repeat' (first|(with_reducible exact True.intro)|(with_reducible rfl)|simp only[XC,↓reduceIte,seval]|(with_reducible apply And.intro)|(refine⟨_,rfl,?_⟩)|(simp [hnx,eI];done)|exact aS|fail)))
  ·obtain rfl:k=count:=by omega
   have r1:decide ((k:Int)<(k:Int))=false:=df (by omega)
   repeat' (first|simp (maxSteps:=9999999) only[↓GE,PL,PP,EE,QQ,seval,r1,hdl,lm]|(simp (disch:=omega) only[i6])|(apply go_brD<;>intro h)|(apply go_gsD aE<;>intro h)|(apply go_br<;>intro h)|(apply go_gs aE<;>intro h)|(apply go_call 5000 (e5) rfl rfl;iterate 4 (first|(exact CallForm.plain rfl)|exact aC))|(with_reducible apply And.intro)|exact aG|fail)
   all_goals ((first|apply ret_mk []|apply end_mk []);(· exact aR);(· exact aZ);all_goals exact aF)
end Go.Proofs.YtacfbiegbdlldaaGreatDoor.Sim
end
section
namespace Go.Proofs.YtacfbiegbdlldaaGreatDoor.Sim
open Go Go.RowKit Go.Deep
set_option maxRecDepth 100000
set_option maxHeartbeats 4000000
set_option linter.unusedVariables false
set_option linter.unusedSimpArgs false
attribute [local irreducible] Go Mean
def cfQ (ix deg:Nat) (dr:List Int) (i:Nat):List Int:=(if i=ix then 1 else 0) :: (dr.take ((i+1)*deg)).drop (i*deg)
def colQ (p:Int) (cf:Nat→List Int) (k:Nat):Nat→List Int
 |0=>[]
 |i+1=>colQ p cf k i++[valF p (cf i) ((k:Int)+1)]
theorem colQ_len {p:Int} {cf:Nat→List Int} {k:Nat}:∀ {i:Nat},(colQ p cf k i).length=i
 |0=>rfl
 |i+1=>by rw[colQ];simp [colQ_len]
theorem shareF_get {p:Int} {c:List Int} {n k:Nat} (h:k<n):(shareF p c (ptsF n)).getD k (0,0)=((k:Int)+1,valF p c ((k:Int)+1)):=by
 have hl:k<(ptsF n).length:=by rw[ptsF_len];exact h
 have:=ptsF_get h
 rw[List.getD_eq_getElem?_getD,List.getElem?_eq_getElem hl] at this
 unfold shareF
 rw[List.getD_eq_getElem?_getD,List.getElem?_map,List.getElem?_eq_getElem hl]
 simp only[Option.getD_some] at this
 simp [this]
structure TapeOK (nums:List Int) (at_:Nat) (p:Int) (count:Nat):Prop where
 len:nums.length≤16384
 dr:DrawOK nums at_ p count
def drwF (nums:List Int) (at_ count:Nat):List Int:=(nums.drop at_).take count
theorem drw_in {nums:List Int} {at_ count:Nat} {p:Int} (h:DrawOK nums at_ p count):(drwF nums at_ count).all (inE p)=true:=by
 rw[allIn]
 intro x hx
 obtain⟨i,hi,rfl⟩:=List.getElem_of_mem hx
 unfold drwF at hi
 rw[List.length_take,List.length_drop] at hi
 have:=h.2 i (by omega)
 have ho1:=h.1
 unfold drwF
 rw[List.getElem_take,List.getElem_drop]
 simpa [List.getD_eq_getElem?_getD,show at_+i<nums.length by omega] using this
theorem drw_len {nums:List Int} {at_ count:Nat} {p:Int} (h:DrawOK nums at_ p count):(drwF nums at_ count).length=count:=by
 have:=h.1
 unfold drwF
 rw[List.length_take,List.length_drop];omega
theorem part_ok {p:Int} {dr:List Int} {i deg:Nat} (h:dr.all (inE p)=true) (hl:(i+1)*deg≤dr.length):DrawOK ((dr.take ((i+1)*deg)).drop (i*deg)) 0 p deg:=by
 have hid:(i+1)*deg=i*deg+deg:=by rw[Nat.add_mul,Nat.one_mul]
 refine⟨by rw[List.length_drop,List.length_take];omega,fun j hj=>?_⟩
 have:=all_getD h (i:=i*deg+j) (by omega)
 rw[List.getD_eq_getElem?_getD,List.getElem?_drop,List.getElem?_take,Nat.zero_add,if_pos (by omega),← List.getD_eq_getElem?_getD]
 exact this
def qsF (p:Int) (sv deg rows ix:Nat) (nums:List Int) (at_:Nat):List (List Int):=(List.range sv).map fun k=>colQ p (cfQ ix deg (drwF nums at_ (rows*deg))) k rows
end Go.Proofs.YtacfbiegbdlldaaGreatDoor.Sim
end
