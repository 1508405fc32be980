/- Digests of nodes, lists and tables; new tables. -/
import Derived.Test.YtacfbiegbdlldaaGreatDoorVTvP
section
namespace Go.Proofs.YtacfbiegbdlldaaGreatDoor.Sim
open Go Go.RowKit Go.Deep
set_option maxRecDepth 100000
set_option maxHeartbeats 4000000
set_option linter.unusedVariables false
set_option linter.unusedSimpArgs false
attribute [local irreducible] Go Mean
theorem makeLater (l:List Int) (hl:l.length≤17592186044416) (k:Nat) (t:PTab) {n:Nat} (h:TabOK t n) (hn:n≤50):Does Tryz.prog 27 [dkp,vTab t] (dk l k) (vTab (latG l k t).1) (dk l (latG l k t).2) []:=by
 refine G14' rfl BxOK.one fun cx hm0=>go_in 5000 ?_
 unfold A14' R14'
 have hp:=h.p2;have hp3:=h.p3;have hw1:=h.w1;have hw2:=h.w2;have hlen:=h.len;have hnum:=h.num;have hnum2:=h.num2
 have a1:=nextV_in l k 4
 have hwn:((t.width.toNat:Nat):Int)=t.width:=by omega
 have d1:=next l hl k 4 (by omega)
 have hN:newF (latG l k t).1=((latG l k t).1,0):=by rw[newF,if_neg (by simp [(latG_ok l k h).check (by omega)])]
 have hD:=r14new (latG l k t).1 (by have:=(latG_ok l k h).len;omega) (latG_ok l k h).short
 rw[hN] at hD
 have a2:=nextV_in l (latI l t.p t.width (nextV l k 4).toNat (t.rows,nextK l k 4)).2 3
 have d2:=next l hl (latI l t.p t.width (nextV l k 4).toNat (t.rows,nextK l k 4)).2 3 (by omega)
 simp only[latG] at hD ⊢
 obtain⟨c,hc⟩:∃ c:Nat,nextV l k 4=(c:Int):=⟨(nextV l k 4).toNat,by omega⟩
 simp only[hc,Int.toNat_natCast] at a1 a2 d1 d2 hD ⊢
 generalize hL:latI l t.p t.width c (t.rows,nextK l k 4)=fin at a2 d2 hD ⊢
 repeat' (first|simp (maxSteps:=9999999) only[↓GE,PL,PP,EE,QQ,seval]|(simp (disch:=omega) only[i6])|(apply go_brD<;>intro h)|(apply go_gsD aE<;>intro h)|(apply go_br<;>intro h)|(apply go_gs aE<;>intro h)|(apply go_call 5000 (r14rows t.rows (by omega) h.short) rfl rfl;iterate 4 (first|(exact CallForm.news rfl rfl)|exact aC))|(apply go_call 5000 (d1) rfl rfl;iterate 4 (first|(exact CallForm.lent aL rfl rfl)|exact aC))|(with_reducible apply And.intro)|exact aG|fail)
 refine go_loop 5000 hm0 (ι:={p:Nat × Nat × List (List Int) × Nat // p.1≤c∧RowsOK t.p t.width p.2.2.1∧p.2.2.1.length+p.1≤10+3*n∧latI l t.p t.width p.1 p.2.2=fin}) (fun i=>[(0,.bp 900000 0 0),(3,.bp 3 0 0),(4,.bp 4 0 0),(5,.og 13000 i.1.2.1),(6,I i.1.1)]) (fun i=>[(3,.box 0 [I t.num,I t.p,I t.width,.d (dRows t.rows)]),(4,.box 0 [I 0,I 0,I 0,.nl 1]),(13000,.arr i.1.2.1 1 true (i.1.2.2.1.map eR)),(900000,.box 0 [.d (dInts l),I i.1.2.2.2])]) (fun i=>i.1.1) [] ⟨(c,0,t.rows,nextK l k 4),Nat.le_refl _,h.rows,by simp only;omega,hL⟩ ?_ ?_
 ·exact aH
 ·rintro⟨⟨j,v,rows,k1⟩,hj,hr,hrl,hv⟩
  simp only at hj hr hrl hv
  cases j with
  |zero =>
   simp only[latI] at hv
   subst hv
   simp only at *
   repeat' (first|simp (maxSteps:=9999999) only[↓GE,PL,PP,EE,QQ,seval]|(simp (disch:=omega) only[i6])|(apply go_brD<;>intro h)|(apply go_gsD aE<;>intro h)|(apply go_br<;>intro h)|(apply go_gs aE<;>intro h)|(apply go_call 5000 (d2) rfl rfl;iterate 4 (first|(exact CallForm.lent aL rfl rfl)|exact aC))|(apply go_call 5000 (hD) rfl rfl;iterate 4 (first|(exact CallForm.news rfl rfl)|exact aC))|(with_reducible apply And.intro)|exact aG|fail)
   all_goals ((first|apply ret_mk []|apply end_mk []);(· exact aR);(· exact aZ);all_goals exact aF)
  |succ j =>
   obtain⟨hs1,hs2⟩:=latStep_ok (l:=l) (p:=t.p) (w:=t.width) (by omega) (s:=(rows,k1)) hr
   rw[latI] at hv
   have b1:=nextV_in l k1 3
   have e1:=next l hl k1 3 (by omega)
   have q0:decide (((j+1:Nat):Int) > 0)=true:=dt (by omega)
   by_cases c1:nextV l k1 3=0
   ·have q1:(nextV l k1 3 == 0)=true:=by simpa using c1
    have e2:=elements l hl (nextK l k1 3) t.p (by omega) t.width.toNat (by omega)
    rw[hwn] at e2
    have hst:latStep l t.p t.width (rows,k1)=(rows++[(elG l t.p (nextK l k1 3) t.width.toNat).1],(elG l t.p (nextK l k1 3) t.width.toNat).2):=by simp [latStep,c1]
    rw[hst] at hs1 hs2 hv
    simp only at hs1 hs2
    repeat' (first|simp (maxSteps:=9999999) only[↓GE,PL,PP,EE,QQ,seval,q0,q1,lm]|(simp (disch:=omega) only[i6])|(apply go_brD<;>intro h)|(apply go_gsD aE<;>intro h)|(apply go_br<;>intro h)|(apply go_gs aE<;>intro h)|(apply go_call 5000 (e1) rfl rfl;iterate 4 (first|(exact CallForm.lent aL rfl rfl)|exact aC))|(apply go_call 5000 (e2) rfl rfl;iterate 4 (first|(exact CallForm.lent aL rfl rfl)|exact aC))|(with_reducible apply And.intro)|exact aG|fail)
    refine⟨⟨(j,v+1,rows++[(elG l t.p (nextK l k1 3) t.width.toNat).1],(elG l t.p (nextK l k1 3) t.width.toNat).2),by simp only;omega,hs1,by simp only;omega,hv⟩,?_,by simp only;omega⟩
    (simp only[GeS];refine⟨?_,?_,?_,?_⟩;all_goals (repeat' (first|(with_reducible exact True.intro)|(with_reducible rfl)|simp only[XC,↓reduceIte,seval]|(with_reducible apply And.intro)|(refine⟨_,rfl,?_⟩)|(simp [eR];done)|exact aS|fail)))
   ·have q1:(nextV l k1 3 == 0)=false:=by simpa using c1
    by_cases c2:rows.length=0
    ·have q2:decide ((rows.length:Int) > 0)=false:=df (by omega)
     have hst:latStep l t.p t.width (rows,k1)=(rows,nextK l k1 3):=by simp only[latStep];rw[if_neg c1,if_pos c2]
     rw[hst] at hs1 hs2 hv
     simp only at hs1 hs2
     repeat' (first|simp (maxSteps:=9999999) only[↓GE,PL,PP,EE,QQ,seval,q0,q1,q2,lm]|(simp (disch:=omega) only[i6])|(apply go_brD<;>intro h)|(apply go_gsD aE<;>intro h)|(apply go_br<;>intro h)|(apply go_gs aE<;>intro h)|(apply go_call 5000 (e1) rfl rfl;iterate 4 (first|(exact CallForm.lent aL rfl rfl)|exact aC))|(with_reducible apply And.intro)|exact aG|fail)
     refine⟨⟨(j,v,rows,nextK l k1 3),by simp only;omega,hs1,by simp only;omega,hv⟩,?_,by simp only;omega⟩
     (simp only[GeS];refine⟨?_,?_,?_,?_⟩;all_goals (repeat' (first|(with_reducible exact True.intro)|(with_reducible rfl)|simp only[XC,↓reduceIte,seval]|(with_reducible apply And.intro)|(refine⟨_,rfl,?_⟩)|(simp [eR];done)|exact aS|fail)))
    ·have q2:decide ((rows.length:Int) > 0)=true:=dt (by omega)
     have b2:=nextV_in l (nextK l k1 3) 4
     have e2:=next l hl (nextK l k1 3) 4 (by omega)
     by_cases c3:nextV l (nextK l k1 3) 4=0
     ·have q3:(nextV l (nextK l k1 3) 4 == 0)=true:=by simpa using c3
      have hst:latStep l t.p t.width (rows,k1)=(rows.take (rows.length-1),nextK l (nextK l k1 3) 4):=by simp only[latStep];rw[if_neg c1,if_neg c2,if_pos c3]
      rw[hst] at hs1 hs2 hv
      simp only at hs1 hs2
      have q4:((rows.length:Int)-1).toNat=rows.length-1:=by omega
      repeat' (first|simp (maxSteps:=9999999) only[↓GE,PL,PP,EE,QQ,seval,q0,q1,q2,q3,q4,lm]|(simp (disch:=omega) only[i6])|(apply go_brD<;>intro h)|(apply go_gsD aE<;>intro h)|(apply go_br<;>intro h)|(apply go_gs aE<;>intro h)|(with_reducible apply And.intro)|exact aG|fail)
      (apply go_call 5000 (e1) rfl rfl;iterate 4 (first|(exact CallForm.lent aL rfl rfl)|exact aC))
      repeat' (first|simp (maxSteps:=9999999) only[↓GE,PL,PP,EE,QQ,seval,q0,q1,q2,q3,q4,lm]|(simp (disch:=omega) only[i6])|(apply go_brD<;>intro h)|(apply go_gsD aE<;>intro h)|(apply go_br<;>intro h)|(apply go_gs aE<;>intro h)|(with_reducible apply And.intro)|exact aG|fail)
      (apply go_call 5000 (e2) rfl rfl;iterate 4 (first|(exact CallForm.lent aL rfl rfl)|exact aC))
      repeat' (first|simp (maxSteps:=9999999) only[↓GE,PL,PP,EE,QQ,seval,q0,q1,q2,q3,q4,lm]|(simp (disch:=omega) only[i6])|(apply go_brD<;>intro h)|(apply go_gsD aE<;>intro h)|(apply go_br<;>intro h)|(apply go_gs aE<;>intro h)|(with_reducible apply And.intro)|exact aG|fail)
      refine⟨⟨(j,v+1,rows.take (rows.length-1),nextK l (nextK l k1 3) 4),by simp only;omega,hs1,by simp only;omega,hv⟩,?_,by simp only;omega⟩
      (simp only[GeS];refine⟨?_,?_,?_,?_⟩;all_goals (repeat' (first|(with_reducible exact True.intro)|(with_reducible rfl)|simp only[XC,↓reduceIte,seval]|(with_reducible apply And.intro)|(refine⟨_,rfl,?_⟩)|(simp [List.map_take];done)|exact aS|fail)))
     ·have q3:(nextV l (nextK l k1 3) 4 == 0)=false:=by simpa using c3
      have b3:=nextV_in l (nextK l (nextK l k1 3) 4) rows.length
      have e3:=next l hl (nextK l (nextK l k1 3) 4) rows.length (by omega)
      have e4:=elements l hl (nextK l (nextK l (nextK l k1 3) 4) rows.length) t.p (by omega) t.width.toNat (by omega)
      rw[hwn] at e4
      have hst:latStep l t.p t.width (rows,k1)=(rows.set (nextV l (nextK l (nextK l k1 3) 4) rows.length).toNat (elG l t.p (nextK l (nextK l (nextK l k1 3) 4) rows.length) t.width.toNat).1,(elG l t.p (nextK l (nextK l (nextK l k1 3) 4) rows.length) t.width.toNat).2):=by simp only[latStep];rw[if_neg c1,if_neg c2,if_neg c3]
      rw[hst] at hs1 hs2 hv
      simp only at hs1 hs2
      have hs3:=getD_map eR [] [] rows (nextV l (nextK l (nextK l k1 3) 4) rows.length).toNat (by omega)
      have qk:(nextV l (nextK l (nextK l k1 3) 4) rows.length).toNat<rows.length:=by omega
      repeat' (first|simp (maxSteps:=9999999) only[↓GE,PL,PP,EE,QQ,seval,q0,q1,q2,q3,hs3,qk,eR,lm]|(simp (disch:=omega) only[i6])|(apply go_brD<;>intro h)|(apply go_gsD aE<;>intro h)|(apply go_br<;>intro h)|(apply go_gs aE<;>intro h)|(with_reducible apply And.intro)|exact aG|fail)
      (apply go_call 5000 (e1) rfl rfl;iterate 4 (first|(exact CallForm.lent aL rfl rfl)|exact aC))
      repeat' (first|simp (maxSteps:=9999999) only[↓GE,PL,PP,EE,QQ,seval,q0,q1,q2,q3,hs3,qk,eR,lm]|(simp (disch:=omega) only[i6])|(apply go_brD<;>intro h)|(apply go_gsD aE<;>intro h)|(apply go_br<;>intro h)|(apply go_gs aE<;>intro h)|(with_reducible apply And.intro)|exact aG|fail)
      (apply go_call 5000 (e2) rfl rfl;iterate 4 (first|(exact CallForm.lent aL rfl rfl)|exact aC))
      repeat' (first|simp (maxSteps:=9999999) only[↓GE,PL,PP,EE,QQ,seval,q0,q1,q2,q3,hs3,qk,eR,lm]|(simp (disch:=omega) only[i6])|(apply go_brD<;>intro h)|(apply go_gsD aE<;>intro h)|(apply go_br<;>intro h)|(apply go_gs aE<;>intro h)|(with_reducible apply And.intro)|exact aG|fail)
      (apply go_call 5000 (e3) rfl rfl;iterate 4 (first|(exact CallForm.lent aL rfl rfl)|exact aC))
      repeat' (first|simp (maxSteps:=9999999) only[↓GE,PL,PP,EE,QQ,seval,q0,q1,q2,q3,hs3,qk,eR,lm]|(simp (disch:=omega) only[i6])|(apply go_brD<;>intro h)|(apply go_gsD aE<;>intro h)|(apply go_br<;>intro h)|(apply go_gs aE<;>intro h)|(apply go_call 5000 (e4) rfl rfl;iterate 4 (first|(exact CallForm.lent aL rfl rfl)|exact aC))|(with_reducible apply And.intro)|exact aG|fail)
      refine⟨⟨(j,v,rows.set (nextV l (nextK l (nextK l k1 3) 4) rows.length).toNat (elG l t.p (nextK l (nextK l (nextK l k1 3) 4) rows.length) t.width.toNat).1,(elG l t.p (nextK l (nextK l (nextK l k1 3) 4) rows.length) t.width.toNat).2),by simp only;omega,hs1,by simp only;omega,hv⟩,?_,by simp only;omega⟩
      (simp only[GeS];refine⟨?_,?_,?_,?_⟩;all_goals (repeat' (first|(with_reducible exact True.intro)|(with_reducible rfl)|simp only[XC,↓reduceIte,seval]|(with_reducible apply And.intro)|(refine⟨_,rfl,?_⟩)|(simp [List.map_set,eR];done)|exact aS|fail)))
end Go.Proofs.YtacfbiegbdlldaaGreatDoor.Sim
end
section
namespace Go.Proofs.YtacfbiegbdlldaaGreatDoor.Sim
open Go Go.RowKit Go.Deep
set_option maxRecDepth 100000
set_option maxHeartbeats 4000000
set_option linter.unusedVariables false
set_option linter.unusedSimpArgs false
attribute [local irreducible] Go Mean
theorem dnode (a b:Int):Does Tryz.prog 94 [I a,I b] [] (I (nodeF a b)) [] []:=by
 refine G33' rfl BxOK.nil fun cx hm0=>go_in 5000 ?_
 unfold A33' R33'
 have h1:=modP_in a
 have h2:=modP_in b
 have e1:=dmod a
 have e2:=dmod b
 have hn:nodeF a b=(modP a*1000003+modP b+3) % 2147483647:=rfl
 generalize modP a=x at *
 generalize modP b=y at *
 have w1:IntKind.i64.wrap (x*1000003)=x*1000003:=i6 _ (by omega)
 have w2:IntKind.i64.wrap (x*1000003+y)=x*1000003+y:=i6 _ (by omega)
 have w3:IntKind.i64.wrap (x*1000003+y+3)=x*1000003+y+3:=i6 _ (by omega)
 have t1:(x*1000003+y+3).tmod 2147483647=nodeF a b:=by rw[tmod_pos (by omega),hn]
 generalize nodeF a b=z at *
 repeat' (first|simp (maxSteps:=9999999) only[↓GE,PL,PP,EE,QQ,seval,w1,w2,w3,t1]|(simp (disch:=omega) only[i6])|(apply go_brD<;>intro h)|(apply go_gsD aE<;>intro h)|(apply go_br<;>intro h)|(apply go_gs aE<;>intro h)|(with_reducible apply And.intro)|exact aG|fail)
 (apply go_call 5000 (e1) rfl rfl;iterate 4 (first|(exact CallForm.plain rfl)|exact aC))
 repeat' (first|simp (maxSteps:=9999999) only[↓GE,PL,PP,EE,QQ,seval,w1,w2,w3,t1]|(simp (disch:=omega) only[i6])|(apply go_brD<;>intro h)|(apply go_gsD aE<;>intro h)|(apply go_br<;>intro h)|(apply go_gs aE<;>intro h)|(with_reducible apply And.intro)|exact aG|fail)
 (apply go_call 5000 (e2) rfl rfl;iterate 4 (first|(exact CallForm.plain rfl)|exact aC))
 repeat' (first|simp (maxSteps:=9999999) only[↓GE,PL,PP,EE,QQ,seval,w1,w2,w3,t1]|(simp (disch:=omega) only[i6])|(apply go_brD<;>intro h)|(apply go_gsD aE<;>intro h)|(apply go_br<;>intro h)|(apply go_gs aE<;>intro h)|(with_reducible apply And.intro)|exact aG|fail)
 all_goals ((first|apply ret_mk []|apply end_mk []);(· exact aR);(· exact aZ);all_goals exact aF)
theorem nodeF_in (a b:Int):0≤nodeF a b∧nodeF a b<2147483647:=by
 unfold nodeF
 exact⟨Int.emod_nonneg _ (by omega),Int.emod_lt_of_pos _ (by omega)⟩
def DigOK (l:List Int):Prop:=l.length≤1024∧∀ x ∈ l,0≤x∧x<2147483647
theorem properT (x:Int) (h:0≤x∧x<2147483647):Does Tryz.prog 93 [I x] [] (B true) [] []:=by
 refine G47' rfl BxOK.nil fun cx hm0=>go_in 5000 ?_
 unfold A47' R47'
 have q1:decide (x ≥ 0)=true:=dt (by omega)
 have q1':decide (0≤x)=true:=dt (by omega)
 have q2:decide (x<2147483647)=true:=dt (by omega)
 repeat' (first|simp (maxSteps:=9999999) only[↓GE,PL,PP,EE,QQ,seval,q1,q1',q2]|(simp (disch:=omega) only[i6])|(apply go_brD<;>intro h)|(apply go_gsD aE<;>intro h)|(apply go_br<;>intro h)|(apply go_gs aE<;>intro h)|(with_reducible apply And.intro)|exact aG|fail)
 all_goals ((first|apply ret_mk []|apply end_mk []);(· exact aR);(· exact aZ);all_goals exact aF)
theorem checkD (l:List Int) (h:DigOK l):Does Tryz.prog 67 [.d (dInts l)] [] (I 0) [] []:=by
 refine G43' rfl BxOK.nil fun cx hm0=>go_in 5000 ?_
 unfold A43' R43'
 obtain⟨h1,h2⟩:=h
 have q1:decide ((1024:Int)<(l.length:Int))=false:=df (by omega)
 have q1':decide ((l.length:Int) > 1024)=false:=df (by omega)
 repeat' (first|simp (maxSteps:=9999999) only[↓GE,PL,PP,EE,QQ,seval,q1,q1',lm]|(simp (disch:=omega) only[i6])|(apply go_brD<;>intro h)|(apply go_gsD aE<;>intro h)|(apply go_br<;>intro h)|(apply go_gs aE<;>intro h)|(with_reducible apply And.intro)|exact aG|fail)
 refine go_loop 5000 hm0 (ι:={j:Nat // j≤l.length}) (fun j=>[(0,.d (dInts l)),(8,.d (dInts l)),(9,I l.length),(10,I j.1)]) (fun j=>[]) (fun j=>l.length-j.1) [] ⟨0,Nat.zero_le _⟩ ?_ ?_
 ·exact aH
 rintro⟨j,hj⟩
 simp only at hj ⊢
 by_cases hjn:j<l.length
 ·have r1:decide ((j:Int)<(l.length:Int))=true:=dt (by omega)
  have u1:IntKind.i64.wrap ((j:Int)+1)=((j+1:Nat):Int):=by rw[i6 _ (by omega)];omega
  have hs:=getD_map eI [] 0 l j hjn
  have e1:=properT _ (h2 _ (mem_getD 0 l j hjn))
  generalize l.getD j 0=x at *
  repeat' (first|simp (maxSteps:=9999999) only[↓GE,PL,PP,EE,QQ,seval,r1,u1,hs,eI,hjn,lm]|(simp (disch:=omega) only[i6])|(apply go_brD<;>intro h)|(apply go_gsD aE<;>intro h)|(apply go_br<;>intro h)|(apply go_gs aE<;>intro h)|(apply go_call 5000 (e1) rfl rfl;iterate 4 (first|(exact CallForm.plain rfl)|exact aC))|(with_reducible apply And.intro)|exact aG|fail)
  refine⟨⟨j+1,hjn⟩,?_,by simp only;omega⟩
  exact aH
 obtain rfl:j=l.length:=by omega
 have r1:decide ((l.length:Int)<(l.length:Int))=false:=df (by omega)
 repeat' (first|simp (maxSteps:=9999999) only[↓GE,PL,PP,EE,QQ,seval,r1]|(simp (disch:=omega) only[i6])|(apply go_brD<;>intro h)|(apply go_gsD aE<;>intro h)|(apply go_br<;>intro h)|(apply go_gs aE<;>intro h)|(with_reducible apply And.intro)|exact aG|fail)
 all_goals ((first|apply ret_mk []|apply end_mk []);(· exact aR);(· exact aZ);all_goals exact aF)
theorem upF_in {l:List Int} (h:∀ x ∈ l,0≤x∧x<2147483647):∀ x ∈ upF l,0≤x∧x<2147483647:=by
 induction l using upF.induct with
 |case1 a b l ih =>
  intro x hx
  rw[upF_two] at hx
  rcases List.mem_cons.1 hx with rfl|hx
  ·exact nodeF_in a b
  ·exact ih (fun y hy=>h y (by simp [hy])) x hx
 |case2 l hl =>
  intro x hx
  rw[upF] at hx
  ·exact h x hx
  ·exact hl
theorem aboveT (l:List Int) (hl:l.length≤1024):Does Tryz.prog 68 [.d (dInts l)] [] (.d (dInts (upF l))) [] []:=by
 refine G44' rfl BxOK.nil fun cx hm0=>go_in 5000 ?_
 unfold A44' R44'
 repeat' (first|simp (maxSteps:=9999999) only[↓GE,PL,PP,EE,QQ,seval]|(simp (disch:=omega) only[i6])|(apply go_brD<;>intro h)|(apply go_gsD aE<;>intro h)|(apply go_br<;>intro h)|(apply go_gs aE<;>intro h)|(with_reducible apply And.intro)|exact aG|fail)
 refine go_loopz 5000 hm0 (ι:={q:List Int × Nat × Nat // 2*q.2.1≤l.length+1∧q.1.length≤q.2.1∧q.1++upF (l.drop (2*q.2.1))=upF l}) (fun q=>[(0,.d (dInts l)),(3,.og 22 q.1.2.2),(4,I (2*q.1.2.1:Nat))]) (fun q=>[(22,.arr q.1.2.2 1 true (q.1.1.map eI))]) (fun q=>l.length+1-2*q.1.2.1) [] [22] ⟨([],0,0),by simp,by simp,by simp⟩ ?_ ?_
 ·simp only[GeZ];exact aH
 rintro⟨⟨out,k,v⟩,h1,h2,h3⟩
 simp only at h1 h2 h3 ⊢
 have hk2:(2*k:Nat)=2*k:=rfl
 generalize hkk:(2*k:Nat)=k2 at *
 by_cases hkl:k2<l.length
 ·have r1:decide ((k2:Int)<(l.length:Int))=true:=dt (by omega)
  have u1:IntKind.i64.wrap ((k2:Int)+1)=((k2+1:Nat):Int):=by rw[i6 _ (by omega)];omega
  have u2:IntKind.i64.wrap ((k2:Int)+2)=((2*(k+1):Nat):Int):=by rw[i6 _ (by omega)];omega
  have hs:=getD_map eI [] 0 l k2 hkl
  rw[drop_get 0 _ _ hkl] at h3
  have hol:out.length≤1000000:=by omega
  by_cases hlast:k2+1=l.length
  ·have q1:(((k2+1:Nat):Int) == (l.length:Int))=true:=by rw[hlast];simp
   rw[List.drop_of_length_le (show l.length≤k2+1 by omega),upF_one] at h3
   have hle:l.length≤2*(k+1):=by omega
   have hkd:2*(k+1)≤l.length+1:=by omega
   generalize l.getD k2 0=x at *
   generalize (k2+1:Nat)=k3 at *
   repeat' (first|simp (maxSteps:=9999999) only[↓GE,PL,PP,EE,QQ,seval,r1,u1,u2,q1,hs,hkl,hol,eI,lm]|(simp (disch:=omega) only[i6])|(apply go_brD<;>intro h)|(apply go_gsD aE<;>intro h)|(apply go_br<;>intro h)|(apply go_gs aE<;>intro h)|(with_reducible apply And.intro)|exact aG|fail)
   refine⟨[],[],⟨(out++[x],k+1,v+1),by simp only;omega,by simp only[List.length_append,List.length_cons,List.length_nil];omega,by simp only;rw[List.drop_of_length_le hle,upF_nil,List.append_nil];exact h3⟩,?_,by simp only;omega⟩
   simp only[GeZ];(simp only[GeS];refine⟨?_,?_,?_,?_⟩;all_goals (repeat' (first|(with_reducible exact True.intro)|(with_reducible rfl)|simp only[XC,↓reduceIte,seval]|(with_reducible apply And.intro)|(refine⟨_,rfl,?_⟩)|(simp [eI];done)|exact aS|fail)))
  ·have hkl2:k2+1<l.length:=by omega
   have q1:(((k2+1:Nat):Int) == (l.length:Int))=false:=by rw[beq_eq_false_iff_ne];omega
   have hs2:=getD_map eI [] 0 l (k2+1) hkl2
   rw[drop_get 0 _ _ hkl2,upF_two] at h3
   have e1:=dnode (l.getD k2 0) (l.getD (k2+1) 0)
   have hd2:l.drop (k2+1+1)=l.drop (2*(k+1)):=by congr 1;omega
   rw[hd2] at h3
   have hkd:2*(k+1)≤l.length+1:=by omega
   generalize l.getD k2 0=x at *
   generalize l.getD (k2+1) 0=y at *
   generalize nodeF x y=z at *
   generalize (k2+1:Nat)=k3 at *
   repeat' (first|simp (maxSteps:=9999999) only[↓GE,PL,PP,EE,QQ,seval,r1,u1,u2,q1,hs,hs2,hkl,hkl2,hol,eI,lm]|(simp (disch:=omega) only[i6])|(apply go_brD<;>intro h)|(apply go_gsD aE<;>intro h)|(apply go_br<;>intro h)|(apply go_gs aE<;>intro h)|(apply go_call 5000 (e1) rfl rfl;iterate 4 (first|(exact CallForm.plain rfl)|exact aC))|(with_reducible apply And.intro)|exact aG|fail)
   refine⟨[],[],⟨(out++[z],k+1,v+1),by simp only;omega,by simp only[List.length_append,List.length_cons,List.length_nil];omega,by simp only;rw[List.append_assoc];exact h3⟩,?_,by simp only;omega⟩
   simp only[GeZ];(simp only[GeS];refine⟨?_,?_,?_,?_⟩;all_goals (repeat' (first|(with_reducible exact True.intro)|(with_reducible rfl)|simp only[XC,↓reduceIte,seval]|(with_reducible apply And.intro)|(refine⟨_,rfl,?_⟩)|(simp [eI];done)|exact aS|fail)))
 have r1:decide ((k2:Int)<(l.length:Int))=false:=df (by omega)
 rw[List.drop_of_length_le (by omega),upF_nil,List.append_nil] at h3
 rw[← h3]
 repeat' (first|simp (maxSteps:=9999999) only[↓GE,PL,PP,EE,QQ,seval,r1,lm]|(simp (disch:=omega) only[i6])|(apply go_brD<;>intro h)|(apply go_gsD aE<;>intro h)|(apply go_br<;>intro h)|(apply go_gs aE<;>intro h)|(with_reducible apply And.intro)|exact aG|fail)
 all_goals ((first|apply ret_mk []|apply end_mk []);(· exact aR);(· exact aZ);all_goals exact aF)
theorem tdigests (t:PTab) (hl:t.rows.length≤17592186044416) (hs:Short t.rows) (h:chkT t=0):Does Tryz.prog 29 [vTab t] [] (.tu [.d (dInts (t.rows.map rowF)),I 0]) [] []:=by
 refine G36' rfl BxOK.nil fun cx hm0=>go_in 5000 ?_
 unfold A36' R36'
 have e1:=tcheck t hl hs
 rw[h] at e1
 have hck:=(checkT_ok h).2.1
 obtain⟨n,p,w,rows⟩:=t
 simp only at *
 repeat' (first|simp (maxSteps:=9999999) only[↓GE,PL,PP,EE,QQ,seval,lm]|(simp (disch:=omega) only[i6])|(apply go_brD<;>intro h)|(apply go_gsD aE<;>intro h)|(apply go_br<;>intro h)|(apply go_gs aE<;>intro h)|(apply go_call 5000 (e1) rfl rfl;iterate 4 (first|(exact CallForm.plain rfl)|exact aC))|(with_reducible apply And.intro)|exact aG|fail)
 refine go_loopz 5000 hm0 (ι:={q:Nat × Nat // q.1≤rows.length}) (fun q=>[(5,.og 24 q.1.2),(14,.d (dRows rows)),(15,I rows.length),(16,I q.1.1)]) (fun q=>[(24,.arr q.1.2 1 true (((rows.take q.1.1).map rowF).map eI))]) (fun q=>rows.length-q.1.1) [] [24] ⟨(0,0),Nat.zero_le _⟩ ?_ ?_
 ·simp only[GeZ];exact aH
 rintro⟨⟨j,v⟩,hj⟩
 simp only at hj ⊢
 by_cases hjn:j<rows.length
 ·have r1:decide ((j:Int)<(rows.length:Int))=true:=dt (by omega)
  have u1:IntKind.i64.wrap ((j:Int)+1)=((j+1:Nat):Int):=by rw[i6 _ (by omega)];omega
  have hsr:=getD_map eR [] [] rows j hjn
  have e2:=drow _ (hs _ (mem_getD [] rows j hjn))
  have hnx:(rows.take (j+1)).map rowF=(rows.take j).map rowF++[rowF (rows.getD j [])]:=by
   rw[List.take_succ_eq_append_getElem hjn,List.map_append,List.getD_eq_getElem?_getD,List.getElem?_eq_getElem hjn];rfl
  have hln:((rows.take j).map rowF).length=j:=by rw[lm,List.length_take];omega
  generalize rowF (rows.getD j [])=d at *
  generalize rows.getD j []=r at *
  generalize (rows.take j).map rowF=HH at *
  repeat' (first|simp (maxSteps:=9999999) only[↓GE,PL,PP,EE,QQ,seval,r1,u1,hsr,hjn,hln,eR,lm]|(simp (disch:=omega) only[i6])|(apply go_brD<;>intro h)|(apply go_gsD aE<;>intro h)|(apply go_br<;>intro h)|(apply go_gs aE<;>intro h)|(apply go_call 5000 (e2) rfl rfl;iterate 4 (first|(exact CallForm.plain rfl)|exact aC))|(with_reducible apply And.intro)|exact aG|fail)
  refine⟨[],[],⟨(j+1,v+1),hjn⟩,?_,by simp only;omega⟩
  simp only[GeZ];(simp only[GeS];refine⟨?_,?_,?_,?_⟩;all_goals (repeat' (first|(with_reducible exact True.intro)|(with_reducible rfl)|simp only[XC,↓reduceIte,seval]|(with_reducible apply And.intro)|(refine⟨_,rfl,?_⟩)|(simp [hnx,eI];done)|exact aS|fail)))
 obtain rfl:j=rows.length:=by omega
 have r1:decide ((rows.length:Int)<(rows.length:Int))=false:=df (by omega)
 rw[List.take_length]
 repeat' (first|simp (maxSteps:=9999999) only[↓GE,PL,PP,EE,QQ,seval,r1]|(simp (disch:=omega) only[i6])|(apply go_brD<;>intro h)|(apply go_gsD aE<;>intro h)|(apply go_br<;>intro h)|(apply go_gs aE<;>intro h)|(with_reducible apply And.intro)|exact aG|fail)
 all_goals ((first|apply ret_mk []|apply end_mk []);(· exact aR);(· exact aZ);all_goals exact aF)
theorem tnew (t:PTab) (hl:t.rows.length≤17592186044416) (hs:Short t.rows) (h:chkT t=0):Does Tryz.prog 26 [I t.num,.ag [I t.p],I t.width,.d (dRows t.rows)] [] (.tu [vTab t,I 0]) [] []:=by
 refine G34' rfl BxOK.nil fun cx hm0=>go_in 5000 ?_
 unfold A34' R34'
 have e1:=tcheck t hl hs
 rw[h] at e1
 have hck:=(checkT_ok h).2.1
 obtain⟨n,p,w,rows⟩:=t
 simp only at *
 repeat' (first|simp (maxSteps:=9999999) only[↓GE,PL,PP,EE,QQ,seval,lm]|(simp (disch:=omega) only[i6])|(apply go_brD<;>intro h)|(apply go_gsD aE<;>intro h)|(apply go_br<;>intro h)|(apply go_gs aE<;>intro h)|(apply go_call 5000 (e1) rfl rfl;iterate 4 (first|(exact CallForm.plain rfl)|exact aC))|(with_reducible apply And.intro)|exact aG|fail)
 refine go_loopz 5000 hm0 (ι:={q:Nat × Nat // q.1≤rows.length}) (fun q=>[(8,.bp 8 0 0),(10,.bp 10 0 0),(26,.d (dRows rows)),(27,I rows.length),(28,I q.1.1)]) (fun q=>[(8,.box 0 [I 0,I 0,I 0,.nl 1]),(10,.box 0 [I n,I p,I w,.og 37 q.1.2]),(37,.arr q.1.2 1 true ((rows.take q.1.1).map eR))]) (fun q=>rows.length-q.1.1) [] [37] ⟨(0,0),Nat.zero_le _⟩ ?_ ?_
 ·simp only[GeZ];exact aH
 rintro⟨⟨j,v⟩,hj⟩
 simp only at hj ⊢
 by_cases hjn:j<rows.length
 ·have r1:decide ((j:Int)<(rows.length:Int))=true:=dt (by omega)
  have u1:IntKind.i64.wrap ((j:Int)+1)=((j+1:Nat):Int):=by rw[i6 _ (by omega)];omega
  have hsr:=getD_map eR [] [] rows j hjn
  have e2:=cloneInts _ (hs _ (mem_getD [] rows j hjn))
  have hnx:rows.take (j+1)=rows.take j++[rows.getD j []]:=by
   rw[List.take_succ_eq_append_getElem hjn,List.getD_eq_getElem?_getD,List.getElem?_eq_getElem hjn];rfl
  have hln:(rows.take j).length=j:=by rw[List.length_take];omega
  generalize rows.getD j []=r at *
  generalize rows.take j=HH at *
  repeat' (first|simp (maxSteps:=9999999) only[↓GE,PL,PP,EE,QQ,seval,r1,u1,hsr,hjn,hln,eR,lm]|(simp (disch:=omega) only[i6])|(apply go_brD<;>intro h)|(apply go_gsD aE<;>intro h)|(apply go_br<;>intro h)|(apply go_gs aE<;>intro h)|(apply go_call 5000 (e2) rfl rfl;iterate 4 (first|(exact CallForm.news rfl rfl)|exact aC))|(with_reducible apply And.intro)|exact aG|fail)
  refine⟨[],[],⟨(j+1,v+1),hjn⟩,?_,by simp only;omega⟩
  simp only[GeZ];(simp only[GeS];refine⟨?_,?_,?_,?_⟩;all_goals (repeat' (first|(with_reducible exact True.intro)|(with_reducible rfl)|simp only[XC,↓reduceIte,seval]|(with_reducible apply And.intro)|(refine⟨_,rfl,?_⟩)|(simp [hnx,eR];done)|exact aS|fail)))
 obtain rfl:j=rows.length:=by omega
 have r1:decide ((rows.length:Int)<(rows.length:Int))=false:=df (by omega)
 rw[List.take_length]
 repeat' (first|simp (maxSteps:=9999999) only[↓GE,PL,PP,EE,QQ,seval,r1]|(simp (disch:=omega) only[i6])|(apply go_brD<;>intro h)|(apply go_gsD aE<;>intro h)|(apply go_br<;>intro h)|(apply go_gs aE<;>intro h)|(with_reducible apply And.intro)|exact aG|fail)
 all_goals ((first|apply ret_mk []|apply end_mk []);(· exact aR);(· exact aZ);all_goals exact aF)
end Go.Proofs.YtacfbiegbdlldaaGreatDoor.Sim
end
