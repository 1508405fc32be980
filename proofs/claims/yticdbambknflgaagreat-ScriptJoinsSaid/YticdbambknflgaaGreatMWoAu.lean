/- Readers: a note is taken. -/
import Derived.Test.YticdbambknflgaaGreatMWoR
import Derived.Test.YticdbambknflgaaGreatMAcs
import Derived.Test.YticdbambknflgaaGreatMWoT
import Derived.Test.YticdbambknflgaaGreatMWoAi
import Derived.Test.YticdbambknflgaaGreatMWoB
import Derived.Test.YticdbambknflgaaGreatMSimSv
section
namespace Go.Proofs.YticdbambknflgaaGreat.Sim
open Go
set_option maxRecDepth 100000
set_option maxHeartbeats 4000000
set_option linter.unusedVariables false
set_option linter.unusedSimpArgs false
attribute [local irreducible] Go Mean
def ppl:List (Int × Int):=(List.range 10).map fun i:Nat=>((i:Int)+1,(i:Int)+1001)
theorem number22 (n:Int):Does Tryz.prog 114 [I n] [] (B (numF n)) [] []:=by
 refine wD Tryz.func114 fun cx hm0=>?_
 repeat' (first|refine gS ?_|refine sp ?_ ?_ <;> intro h|(with_reducible apply And.intro)|exact aG|fail)
 all_goals exact rtF [] numF.eq_1
def PplOK (l:List (Int × Int)):Prop:=l.length≤16∧∀ i,i<l.length→numF (l.getD i (0,0)).1=true∧numF (l.getD i (0,0)).2=true∧∀ j,j<i→(l.getD j (0,0)).1<(l.getD i (0,0)).1∧(l.getD j (0,0)).2 ≠ (l.getD i (0,0)).2
theorem ppl_ok:PplOK ppl:=by
 have hlen:ppl.length=10:=by simp [ppl]
 refine⟨by omega,fun i hi=>?_⟩
 rw[hlen] at hi
 have hg:∀ k,k<10→ppl.getD k (0,0)=((k:Int)+1,(k:Int)+1001):=fun k hk=>by simp [ppl,List.getD_eq_getElem?_getD,hk]
 rw[hg i hi]
 refine⟨by simp [numF];omega,by simp [numF];omega,fun j hj=>?_⟩
 rw[hg j (by omega)]
 simp only
 omega
theorem check22 (l:List (Int × Int)) (hl:l.length≤1000):DoesP Tryz.prog 72 [.d (dTwos l)] (fun r=>∃ e,r=I e∧(PplOK l→e=0)):=by
 refine⟨⟨_,0,rfl,by simp⟩,wE Tryz.func72 fun cx hm0=>?_⟩
 have h0:PplOK l→l.length≤16:=fun h=>h.1
 repeat' (first|refine gS ?_|refine sp ?_ ?_ <;> intro h|(with_reducible apply And.intro)|exact aG|fail)
 ·refine dP ?_
  exact⟨_,rfl,fun h=>by have:=h0 h;omega⟩
 refine gl (κ:=Nat) hm0 (fun q_=>q_≤l.length) (fun q_=>[(0,.d (dTwos l)),(10,.d (dTwos l)),(11,I l.length),(12,I q_)]) (fun q_=>[]) (fun q_=>l.length-q_) [] [] (0) ?_
 rintro k hI
 try simp only at hI ⊢
 try have hI2:=hI.2
 by_cases hk:k<l.length
 ·have hs:=getD_map eTwo [] (0,0) l k hk
  have hp:PplOK l→numF (l.getD k (0,0)).1=true∧numF (l.getD k (0,0)).2=true∧∀ j,j<k→(l.getD j (0,0)).1<(l.getD k (0,0)).1∧(l.getD j (0,0)).2 ≠ (l.getD k (0,0)).2:=fun h=>h.2 k hk
  generalize l.getD k (0,0)=x at *
  obtain⟨x,y⟩:=x
  simp only at hp
  have hm:(l.map eTwo).take k=(l.take k).map eTwo:=List.map_take.symm
  have htk:(l.take k).length=k:=by rw[List.length_take];omega
  cases hx:numF x with
  |false =>
   repeat' (first|refine gC hs hx eTwo.eq_1 ?_|refine sp ?_ ?_ <;> intro h|refine gP (number22 x) ?_|(with_reducible apply And.intro)|exact aG|fail)
   all_goals (refine dP ?_;exact⟨_,rfl,fun h=>by have:=(hp h).1;rw[hx] at this;cases this⟩)
  |true =>
   cases hy:numF y with
   |false =>
    repeat' (first|refine gQ hs hx hy eTwo.eq_1 ?_|refine sp ?_ ?_ <;> intro h|refine gP (number22 x) ?_|refine gP (number22 y) ?_|(with_reducible apply And.intro)|exact aG|fail)
    all_goals (refine dP ?_;exact⟨_,rfl,fun h=>by have:=(hp h).2.1;rw[hy] at this;cases this⟩)
   |true =>
    have hs2:=getD_map eTwo [] (0,0) l ((k:Int)-1).toNat (by omega)
    have hp2:PplOK l→1≤k→(l.getD ((k:Int)-1).toNat (0,0)).1<x:=fun h h1=>((hp h).2.2 _ (by omega)).1
    generalize l.getD ((k:Int)-1).toNat (0,0)=z at *
    repeat' (first|simp (maxSteps:=9999999) only[↓GE,PQ,seval,hs,hs2,hx,hy,hm,htk,eTwo]|refine gS ?_|refine sp ?_ ?_ <;> intro h|refine gP (number22 x) ?_|refine gP (number22 y) ?_|(with_reducible apply And.intro)|exact aG|fail)
    all_goals try (refine dP ?_;exact⟨_,rfl,fun h=>by have:=hp2 h (by omega);omega⟩)
    all_goals
     refine gl (κ:=Nat) hm0 (fun q_=>q_≤k) (fun q_=>[(0,.d (dTwos l)),(4,.bp 4 0 0),(10,.d (dTwos l)),(11,I l.length),(12,I k),(42,.d (dTwos (l.take k))),(43,I k),(44,I q_)]) (fun q_=>[(4,.box 0 [I x,I y])]) (fun q_=>k-q_) [] [] (0) ?_
     rintro j hI
     try simp only at hI ⊢
     try have hI2:=hI.2
     by_cases hj:j<k
     ·have hs3:=getD_map eTwo [] (0,0) (l.take k) j (by omega)
      have hg:(l.take k).getD j (0,0)=l.getD j (0,0):=by simp [List.getD_eq_getElem?_getD,List.getElem?_take,hj]
      have hp3:PplOK l→(l.getD j (0,0)).2 ≠ y:=fun h=>((hp h).2.2 j hj).2
      rw[hg] at hs3
      generalize l.getD j (0,0)=u at *
      repeat' (first|refine gC hs3 htk eTwo.eq_1 ?_|refine sp ?_ ?_ <;> intro h|(with_reducible apply And.intro)|exact aG|fail)
      all_goals first|(refine dP ?_;exact⟨_,rfl,fun h=>absurd (by simp_all) (hp3 h)⟩)|(exact⟨[],[],⟨(j+1),aI⟩,aX,aI⟩)
     ·repeat' (first|refine gA htk ?_|refine sp ?_ ?_ <;> intro h|(with_reducible apply And.intro)|exact aG|fail)
      (exact⟨[],[],⟨(k+1),aI⟩,aX,aI⟩)
 ·repeat' (first|refine gS ?_|refine sp ?_ ?_ <;> intro h|(with_reducible apply And.intro)|exact aG|fail)
  all_goals (refine dP ?_;exact⟨_,rfl,aQ⟩)
theorem find22 (l:List (Int × Int)) (id:Int) (hl:l.length≤1000):DoesP Tryz.prog 75 [.d (dTwos l),I id] (fun r=>∃ a b ok,r=.tu [.ag [I a,I b],B ok]∧(PplOK l→(∃ x ∈ l,x.1=id)→ok=true)):=by
 refine⟨⟨_,0,0,true,rfl,by simp⟩,wE Tryz.func75 fun cx hm0=>?_⟩
 repeat' (first|refine gS ?_|refine sp ?_ ?_ <;> intro h|(exfalso;omega)|(refine gW (check22 l hl) ?_;rintro _ ⟨e,rfl,he⟩ <;> refine⟨rfl,?_⟩)|(with_reducible apply And.intro)|exact aG|fail)
 ·refine dP ?_
  exact⟨_,_,_,rfl,fun h _=>by have:=he h;simp_all⟩
 refine gl (κ:=Nat) hm0 (fun q_=>q_≤l.length∧∀ x ∈ l.take q_,x.1 ≠ id) (fun q_=>[(1,I id),(4,.bp 4 0 0),(12,.d (dTwos l)),(13,I l.length),(14,I q_)]) (fun q_=>[(4,.box 0 [I 0,I 0])]) (fun q_=>l.length-q_) [] [] (0) ?_
 rintro k hI
 try simp only at hI ⊢
 try have hI2:=hI.2
 by_cases hk:k<l.length
 ·have hs:=getD_map eTwo [] (0,0) l k hk
  have ht:=take_succ_getD (0,0) l k hk
  generalize l.getD k (0,0)=x at *
  repeat' (first|refine gB hs eTwo.eq_1 ?_|refine sp ?_ ?_ <;> intro h|(with_reducible apply And.intro)|exact aG|fail)
  ·refine dP ?_
   exact⟨_,_,_,rfl,fun _ _=>rfl⟩
  ·refine⟨[],[],⟨k+1,hk,fun y hy=>?_⟩,?_,aI⟩
   ·rw[ht] at hy
    rcases List.mem_append.1 hy with hy|hy
    ·exact hI.2 y hy
    ·simp only[List.mem_singleton] at hy;subst hy;simpa using ‹_›
   ·exact aX
 ·have hno:∀ x ∈ l,x.1 ≠ id:=by
   have:=hI.2
   rwa [List.take_of_length_le (by omega)] at this
  repeat' (first|refine gS ?_|refine sp ?_ ?_ <;> intro h|(with_reducible apply And.intro)|exact aG|fail)
  refine dP ?_
  exact⟨_,_,_,rfl,fun _ ⟨x,h1,h2⟩=>absurd h2 (hno x h1)⟩
theorem sign22 (s:Int) (l:List Int) (hl:l.length≤1000000):DoesP Tryz.prog 132 [I s,.d (dInts l)] (fun r=>∃ m e,r=.tu [I m,I e]):=by
 refine⟨⟨_,0,0,rfl⟩,wE Tryz.func132 fun cx hm0=>?_⟩
 have e1:=r11row (s :: l) (by simp;omega)
 simp only[dInts,List.map_cons] at e1
 repeat' (first|refine gA eI.eq_1 ?_|refine sp ?_ ?_ <;> intro h|refine gP (number22 s) ?_|refine gP e1 ?_|(with_reducible apply And.intro)|exact aG|fail)
 all_goals (refine dP ?_;exact⟨_,_,rfl⟩)
theorem verify22 (d:List (Int × Int)) (id:Int) (l:List Int) (m:Int) (hd:d.length≤1000) (hl:l.length≤1000000):DoesP Tryz.prog 136 [.d (dTwos d),I id,.d (dInts l),I m] (fun r=>∃ b,r=B b):=by
 refine⟨⟨_,true,rfl⟩,wE Tryz.func136 fun cx hm0=>?_⟩
 repeat' (first|refine gS ?_|refine sp ?_ ?_ <;> intro h|(exfalso;omega)|(refine gW (find22 d id hd) ?_;rintro _ ⟨a,b,ok,rfl,hok⟩ <;> refine⟨rfl,?_⟩)|(refine gW (sign22 b l hl) ?_;rintro _ ⟨mk,e,rfl⟩ <;> refine⟨rfl,?_⟩)|(with_reducible apply And.intro)|exact aG|fail)
 all_goals (refine dP ?_;exact⟨_,rfl⟩)
end Go.Proofs.YticdbambknflgaaGreat.Sim
end
section
namespace Go.Proofs.YticdbambknflgaaGreat.Sim
open Go
set_option maxRecDepth 100000
set_option maxHeartbeats 4000000
set_option linter.unusedVariables false
set_option linter.unusedSimpArgs false
attribute [local irreducible] Go Mean
structure RdOK (r:PRd):Prop where
 sv:r.s.sv≤10
 nr:r.rows.length≤16
 nq:r.queries.length≤16
 na:r.answers.length=r.queries.length
 nm:r.marks.length=r.queries.length
 qs:∀ y ∈ r.queries,(y.length:Int)=r.s.sv∧∀ x ∈ y,x.length≤1024
 ans:∀ y ∈ r.answers,(y.length:Int)=r.s.sv∧∀ a ∈ y,a.row.length≤64
 ms:∀ y ∈ r.marks,(y.length:Int)=r.s.sv
theorem RdOK.none:RdOK noRd:=⟨by simp [noRd],by simp [noRd],by simp [noRd],rfl,rfl,by simp [noRd],by simp [noRd],by simp [noRd]⟩
theorem begin32 (rd:Int) (s:PSch) (g:PHead) (rows:List Int) (t:List Int) (a:Int) (hr:rows.length≤1000000) (ht:t.length≤1000000) (h3:3≤s.sv) (h6:s.sv≤6):DoesP Tryz.prog 95 [I rd,vSch s,vHead g,.d (dInts rows),vTape t a] (fun r=>∃ x u b e,r=.tu [vRd x,vTape u b,I e]∧RdOK x∧u.length≤1000000):=by
 have e1:=valid23 s g.p
 refine⟨⟨_,noRd,[],0,1,rfl,RdOK.none,by simp⟩,wE Tryz.func95 fun cx hm0=>?_⟩
 cases hv:vldB s g.p with
 |false =>
  repeat' (first|refine gA hv ?_|refine sp ?_ ?_ <;> intro h|refine gP e1 ?_|(with_reducible apply And.intro)|exact aG|fail)
  all_goals (refine dP ?_;exact⟨noRd,[],0,_,rfl,RdOK.none,by simp⟩)
 |true =>
  repeat' (first|refine gA hv ?_|refine sp ?_ ?_ <;> intro h|(exfalso;omega)|refine gP e1 ?_|(refine gW (valid24 rows g.count hr) ?_;rintro _ ⟨b,rfl,hb⟩ <;> refine⟨rfl,?_⟩)|(refine gW (queries24 s g.p g.count rows t a hr ht h3 h6) ?_;rintro _ ⟨q,u,b,e,rfl,hu,hq,hx,he⟩ <;> refine⟨rfl,?_⟩)|(with_reducible apply And.intro)|exact aG|fail)
  all_goals try (refine dP ?_;exact⟨noRd,[],0,_,rfl,RdOK.none,by simp⟩)
  obtain⟨he1,he2,he3,he4⟩:=he (by simp_all)
  obtain⟨S,hS⟩:∃ S:Nat,s.sv=S:=⟨s.sv.toNat,by omega⟩
  have hz:∀ k:Nat,List.replicate k [D.at (Value.int IntKind.i64 0)]=(List.replicate k (0:Int)).map eI:=fun k=>by simp [eI]
  have hz2:∀ k:Nat,List.replicate k [D.at (Value.bool false),D.sl 1 []]=(List.replicate k noAns).map eAns:=fun k=>by simp [eAns,noAns]
  refine go_loopz 5000 hm0 (ι:=Option {q_:Nat × Nat × Nat × (List (List PAns)) × (List (List Int)) // (q_.1≤rows.length∧q_.2.2.2.1.length=q_.1∧q_.2.2.2.2.length=q_.1)∧(∀ y ∈ q_.2.2.2.1,(y.length:Int)=s.sv∧∀ a ∈ y,a.row.length≤64)∧∀ y ∈ q_.2.2.2.2,(y.length:Int)=s.sv}) (fun o_=>match o_ with|none=>[(3,.d (dInts rows)),(6,.bp 6 0 0),(10,.bp 10 0 0),(11,.bp 11 0 0),(15,.bp 15 0 0),(17,.bp 17 0 0),(18,I 0)]|some q_=>[(3,.d (dInts rows)),(6,.bp 6 0 0),(10,.bp 10 0 0),(11,.bp 11 0 0),(15,.bp 15 0 0),(17,.bp 17 0 0),(18,I q_.1.1)]) (fun o_=>match o_ with|none=>[(6,.box 0 [I s.kind,I s.sv,I s.deg,I s.grp]),(10,.box 0 [I 0,I 0,I 0,I 0,I 0,I 0,I 0,I 0,I 0,I 0,.nl 1,.nl 1,.nl 1,.nl 1,B false]),(11,.box 0 [.nl 1,I 0]),(15,.box 0 [.d (dInts u),I b]),(17,.box 0 [I rd,I s.kind,I s.sv,I s.deg,I s.grp,I g.num,I g.p,I g.count,I g.width,I g.root,.og 68 1,.d (dQs q),.nl 1,.nl 1,B false]),(68,.arr 1 1 true (rows.map eI))]|some q_=>[(6,.box 0 [I s.kind,I s.sv,I s.deg,I s.grp]),(10,.box 0 [I 0,I 0,I 0,I 0,I 0,I 0,I 0,I 0,I 0,I 0,.nl 1,.nl 1,.nl 1,.nl 1,B false]),(11,.box 0 [.nl 1,I 0]),(15,.box 0 [.d (dInts u),I b]),(17,.box 0 [I rd,I s.kind,I s.sv,I s.deg,I s.grp,I g.num,I g.p,I g.count,I g.width,I g.root,.og 68 1,.d (dQs q),.og 85 q_.1.2.1,.og 93 q_.1.2.2.1,B false]),(68,.arr 1 1 true (rows.map eI)),(85,.arr q_.1.2.1 1 true (q_.1.2.2.2.1.map eAnss)),(93,.arr q_.1.2.2.1 1 true (q_.1.2.2.2.2.map eR))]) (fun o_=>match o_ with|none=>1000000000|some q_=>rows.length-q_.1.1) [] [] none ?_ ?_
  ·simp only[GeZ];(simp only[GeS];refine⟨?_,?_,?_,?_⟩;all_goals (repeat' (first|(with_reducible exact True.intro)|(with_reducible rfl)|simp only[XC,↓reduceIte,seval]|(with_reducible apply And.intro)|(refine⟨_,rfl,?_⟩)|(simp [List.map_set,eI];done)|exact aS|fail)))
  rintro (_|⟨⟨k,v,w,an,ms⟩,hI⟩)
  all_goals (try simp only at hI)
  all_goals simp only
  all_goals try have hI2:=hI.2
  ·have hlt:(0:Int)<rows.length:=by omega
   repeat' (first|simp (maxSteps:=9999999) only[↓GE,PQ,seval,hS,hlt,hz,hz2,List.length_replicate]|refine gS ?_|refine sp ?_ ?_ <;> intro h|(with_reducible apply And.intro)|exact aG|fail)
   refine⟨[],[],some ⟨(1,0,0,[List.replicate S noAns],[List.replicate S 0]),⟨⟨by simp only;omega,rfl,rfl⟩,fun y hy=>?_,fun y hy=>?_⟩⟩,?_,by simp only;omega⟩
   ·simp only[List.mem_singleton] at hy;subst hy;exact⟨by simp [hS],fun a ha=>by have:=List.eq_of_mem_replicate ha;subst this;simp [noAns]⟩
   ·simp only[List.mem_singleton] at hy;subst hy;simp [hS]
   ·exact aY (And.intro eAnss.eq_1 (And.intro eR.eq_1 hS))
  ·by_cases hk:k<rows.length
   ·repeat' (first|simp (maxSteps:=9999999) only[↓GE,PQ,seval,hS,hz,hz2,List.length_replicate]|refine gS ?_|refine sp ?_ ?_ <;> intro h|(with_reducible apply And.intro)|exact aG|fail)
    refine⟨[],[],some ⟨(k+1,v+1,w+1,an++[List.replicate S noAns],ms++[List.replicate S 0]),⟨⟨by simp only;omega,by simp only[List.length_append,List.length_singleton];omega,by simp only[List.length_append,List.length_singleton];omega⟩,allA hI.2.1 ⟨by simp [hS],fun a ha=>by have:=List.eq_of_mem_replicate ha;subst this;simp [noAns]⟩,allA hI.2.2 (by simp [hS])⟩⟩,?_,by simp only;omega⟩
    exact aY (And.intro eAnss.eq_1 (And.intro eR.eq_1 hS))
   ·repeat' (first|refine gS ?_|refine sp ?_ ?_ <;> intro h|(with_reducible apply And.intro)|exact aG|fail)
    refine dP ?_
    exact⟨⟨rd,s,g,rows,q,an,ms,false⟩,u,b,0,rfl,⟨by simp only;omega,by simp only;omega,by simp only;omega,by simp only;omega,by simp only;omega,fun y hy=>⟨he4 y hy,(hx y hy).2⟩,hI.2.1,hI.2.2⟩,hu⟩
theorem end32 (r:PRd) (hr:RdOK r):DoesP Tryz.prog 103 [vRd r] (fun x=>∃ o,x=.tu [vRd { r with ended:=true },.d (dOuts o)]∧o.length≤16∧∀ y ∈ o,y.row.length≤64∧y.wrong.length≤1002):=by
 have h1:=hr.sv
 have h2:=hr.nr
 have h3:=hr.nq
 have h4:=hr.na
 refine⟨⟨_,[],rfl,by simp,by simp⟩,wE Tryz.func103 fun cx hm0=>?_⟩
 repeat' (first|refine gS ?_|refine sp ?_ ?_ <;> intro h|(exfalso;omega)|(refine gW (decode24 r.s r.h.p r.h.width r.rows r.answers (by omega) (by omega) (fun x hx=>by have:=(hr.ans x hx).1;omega) (fun x hx y hy=>by have:=(hr.ans x hx).2 y hy;omega)) ?_;rintro _ ⟨o,e,rfl,ho,hx⟩ <;> refine⟨rfl,?_⟩)|(with_reducible apply And.intro)|exact aG|fail)
 refine dP ?_
 exact⟨o,rfl,ho,hx⟩
end Go.Proofs.YticdbambknflgaaGreat.Sim
end
section
namespace Go.Proofs.YticdbambknflgaaGreat.Sim
open Go
set_option maxRecDepth 100000
set_option maxHeartbeats 4000000
set_option linter.unusedVariables false
set_option linter.unusedSimpArgs false
attribute [local irreducible] Go Mean
structure HeldOK (h:PHeld):Prop where
 fld:fieldB h.hd.p=true
 w1:1≤h.hd.width
 w2:h.hd.width≤64
 nr:h.rows.length≤1025
 rows:∀ x ∈ h.rows,(x.length:Int)=h.hd.width∧x.all (inE h.hd.p)=true
def JobOK (l:List PHeld) (j:PJob):Prop:=∃ h,l.find? (fun h=>h.hd.num == j.version)=some h∧j.query.length=h.rows.length∧j.query.all (inE h.hd.p)=true∧(j.done.length:Int)<h.hd.width
structure SrvOK (s:PSch) (id:Int) (v:PSrv):Prop where
 id:v.id=id
 s:v.s=s
 nv:v.vers.length≤16
 nj:v.jobs.length≤32
 vers:∀ h ∈ v.vers,HeldOK h
 jobs:∀ j ∈ v.jobs,JobOK v.vers j
theorem JobOK.mem {l:List PHeld} {j:PJob} (h:JobOK l j):∃ x ∈ l,x.hd.num=j.version:=by
 obtain⟨x,hx,_⟩:=h
 exact⟨x,List.mem_of_find?_eq_some hx,by simpa using List.find?_some hx⟩
theorem JobOK.ins {l:List PHeld} {j:PJob} (h:JobOK l j) (x:PHeld) (hx:∀ y ∈ l,y.hd.num ≠ x.hd.num) (k:Nat):JobOK (l.take k++x :: l.drop k) j:=by
 obtain⟨y,hy,hx2⟩:=h.mem
 have hne:x.hd.num ≠ j.version:=fun he=>hx y hy (by rw[hx2,he])
 obtain⟨z,h1,h2⟩:=h
 refine⟨z,?_,h2⟩
 rw[← h1]
 conv=>rhs;rw[← List.take_append_drop k l]
 rw[List.find?_append,List.find?_append,List.find?_cons_of_neg (by simpa using hne)]
theorem JobOK.del {l:List PHeld} {j:PJob} (h:JobOK l j) (k:Nat) (hk:k<l.length) (hne:(l.getD k noHeld).hd.num ≠ j.version):JobOK (l.take k++l.drop (k+1)) j:=by
 obtain⟨z,h1,h2⟩:=h
 refine⟨z,?_,h2⟩
 rw[← h1]
 conv=>rhs;rw[← List.take_append_drop k l,List.drop_eq_getElem_cons hk]
 have hg:l.getD k noHeld=l[k]:=by rw[List.getD_eq_getElem?_getD,List.getElem?_eq_getElem hk];rfl
 rw[hg] at hne
 rw[List.find?_append,List.find?_append,List.find?_cons_of_neg (by simpa using hne)]
theorem load30 {s:PSch} {id:Int} (v:PSrv) (t:PTab) (hv:SrvOK s id v) (hl:t.rows.length≤1000000) (hs:∀ x ∈ t.rows,x.length≤1000000):DoesP Tryz.prog 80 [vSrv v,vTab t] (fun r=>∃ v' e,r=.tu [vSrv v',I e]∧SrvOK s id v'):=by
 have e1:=r14head t (by omega) (fun x hx=>by have:=hs x hx;omega)
 have e2:=valid23 v.s t.p
 have hnv:=hv.nv
 have e3:=find30 v t.num (by omega)
 have hb:=findI_bd v.vers t.num
 refine⟨⟨_,v,1,rfl,hv⟩,wE Tryz.func80 fun cx hm0=>?_⟩
 by_cases hc:checkT t=0
 case neg =>
  have hh:headF t=(⟨0,0,0,0,0⟩,checkT t):=by rw[headF,if_pos hc]
  rw[hh] at e1
  have hc':(checkT t != 0)=true:=by simpa using hc
  repeat' (first|refine gA hc' ?_|refine sp ?_ ?_ <;> intro h|refine gP e1 ?_|(with_reducible apply And.intro)|exact aG|fail)
  all_goals (refine dP ?_;exact⟨v,_,rfl,hv⟩)
 have hh:headF t=(⟨t.num,t.p,t.rows.length,t.width,(rootF (t.rows.map rowF)).1⟩,0):=by rw[headF,if_neg (by simpa using hc)]
 rw[hh] at e1
 obtain⟨h1,h2,h3,h4,h5,h6,h7⟩:=checkT_ok hc
 generalize (rootF (t.rows.map rowF)).1=rt at *
 cases hvl:vldB v.s t.p with
 |false =>
  repeat' (first|refine gA hvl ?_|refine sp ?_ ?_ <;> intro h|refine gP e1 ?_|refine gP e2 ?_|(with_reducible apply And.intro)|exact aG|fail)
  all_goals (refine dP ?_;exact⟨v,_,rfl,hv⟩)
 |true =>
  repeat' (first|refine gA hvl ?_|refine sp ?_ ?_ <;> intro h|(exfalso;omega)|refine gP e1 ?_|refine gP e2 ?_|refine gP e3 ?_|(refine gW (hold23 v.s t v.id hl hs) ?_;rintro _ ⟨rows,e,rfl,hr1,hr2⟩ <;> refine⟨rfl,?_⟩)|(with_reducible apply And.intro)|exact aG|fail)
  all_goals try (refine dP ?_;exact⟨v,_,rfl,hv⟩)
  refine gl (κ:=Nat) hm0 (fun q_=>q_≤v.vers.length) (fun q_=>[(2,.bp 2 0 0),(3,.bp 3 0 0),(4,.bp 4 0 0),(6,.bp 6 0 0),(8,.d (dRows rows)),(10,I q_)]) (fun q_=>[(2,.box 0 [I v.id,I v.s.kind,I v.s.sv,I v.s.deg,I v.s.grp,B v.up,.d (dHelds v.vers),.d (dJobs v.jobs)]),(3,.box 0 [I t.num,I t.p,I t.width,.d (dRows t.rows)]),(4,.box 0 [I 0,I 0,I 0,I 0,I 0,B false,.nl 6,.nl 5]),(6,.box 0 [I t.num,I t.p,I t.rows.length,I t.width,I rt])]) (fun q_=>v.vers.length-q_) [] [] (0) ?_
  rintro k hI
  try simp only at hI ⊢
  try have hI2:=hI.2
  have hq:(v.vers.take k).length≤16∧(v.vers.drop k).length≤16:=by rw[List.length_take,List.length_drop];omega
  have hne:=findI_neg (l:=v.vers) (n:=t.num) (by omega)
  have hins:v.jobs.length≤32∧∀ k,SrvOK s id { v with vers:=v.vers.take k++⟨⟨t.num,t.p,t.rows.length,t.width,rt⟩,rows⟩ :: v.vers.drop k }:=⟨hv.nj,fun k=>⟨hv.id,hv.s,by have:=congrArg List.length (List.take_append_drop k v.vers);simp only[List.length_append,List.length_cons] at this ⊢;omega,hv.nj,fun x hx=>by
   rcases List.mem_append.1 hx with hx|hx
   ·exact hv.vers x (List.mem_of_mem_take hx)
   ·rcases List.mem_cons.1 hx with rfl|hx
    ·exact⟨h1,h5,h6,hr1,hr2⟩
    ·exact hv.vers x (List.mem_of_mem_drop hx),fun j hj=>(hv.jobs j hj).ins _ (fun y hy=>hne y hy) k⟩⟩
  by_cases hk:k<v.vers.length
  ·have hs0:=getD_map eHeld [] noHeld v.vers k hk
   generalize v.vers.getD k noHeld=x at *
   repeat' (first|simp (maxSteps:=9999999) only[↓GE,PQ,seval,hs0,hk,eHeld,map_slice,List.take_of_length_le,List.length_append,List.length_take,List.length_drop,List.map_drop,List.map_take]|refine gS ?_|refine sp ?_ ?_ <;> intro h|(with_reducible apply And.intro)|exact aG|fail)
   ·(exact⟨[],[],⟨(k+1),aI⟩,aX,aI⟩)
   ·refine dP ?_
    refine⟨_,0,?_,hins.2 k⟩
    simp [eHeld,eR,I,B]
  ·repeat' (first|simp (maxSteps:=9999999) only[↓GE,PQ,seval,hk,map_slice,List.take_of_length_le,List.length_append,List.length_take,List.length_drop,List.map_drop,List.map_take]|refine gS ?_|refine sp ?_ ?_ <;> intro h|(with_reducible apply And.intro)|exact aG|fail)
   refine dP ?_
   refine⟨_,0,?_,hins.2 k⟩
   simp [eHeld,eR,I,B]
theorem drop30 {s:PSch} {id:Int} (v:PSrv) (n:Int) (hv:SrvOK s id v):DoesP Tryz.prog 112 [vSrv v,I n] (fun r=>∃ v' e,r=.tu [vSrv v',I e]∧SrvOK s id v'):=by
 have hnv:=hv.nv
 have hnj:=hv.nj
 have e3:=find30 v n (by omega)
 have hb:=findI_bd v.vers n
 have hf:=findI_lt (l:=v.vers) (n:=n)
 refine⟨⟨_,v,1,rfl,hv⟩,wE Tryz.func112 fun cx hm0=>?_⟩
 generalize findI v.vers n=i at *
 repeat' (first|refine gS ?_|refine sp ?_ ?_ <;> intro h|refine gP e3 ?_|(with_reducible apply And.intro)|exact aG|fail)
 all_goals try (refine dP ?_;exact⟨v,_,rfl,hv⟩)
 obtain⟨i,rfl⟩:∃ j:Nat,i=j:=⟨i.toNat,by omega⟩
 obtain⟨hf1,hf2,hf3⟩:=hf (by omega)
 simp only[Int.toNat_natCast] at hf1 hf2 hf3
 refine gl (κ:=Nat) hm0 (fun q_=>q_≤v.jobs.length∧∀ x ∈ v.jobs.take q_,x.version ≠ n) (fun q_=>[(1,I n),(2,.bp 2 0 0),(4,.bp 4 0 0),(6,I i),(7,I q_)]) (fun q_=>[(2,.box 0 [I v.id,I v.s.kind,I v.s.sv,I v.s.deg,I v.s.grp,B v.up,.d (dHelds v.vers),.d (dJobs v.jobs)]),(4,.box 0 [I 0,I 0,I 0,I 0,I 0,B false,.nl 6,.nl 5])]) (fun q_=>v.jobs.length-q_) [] [] (0) ?_
 rintro k hI
 try simp only at hI ⊢
 try have hI2:=hI.2
 by_cases hk:k<v.jobs.length
 ·have hs0:=getD_map eJob [] noJob v.jobs k hk
  have ht:=take_succ_getD noJob v.jobs k hk
  generalize v.jobs.getD k noJob=x at *
  repeat' (first|refine gC hs0 hk eJob.eq_1 ?_|refine sp ?_ ?_ <;> intro h|(with_reducible apply And.intro)|exact aG|fail)
  all_goals try (refine dP ?_;exact⟨v,_,rfl,hv⟩)
  refine⟨[],[],⟨k+1,hk,?_⟩,?_,aI⟩
  ·rw[ht];exact allA hI.2 (by assumption)
  ·exact aX
 ·have hall:=hI.2
  rw[List.take_of_length_le (by omega)] at hall
  have hq:(v.vers.take i).length≤16∧(v.vers.drop (i+1)).length≤16:=by rw[List.length_take,List.length_drop];omega
  have hdel:SrvOK s id { v with vers:=v.vers.take i++v.vers.drop (i+1) }:=⟨hv.id,hv.s,by simp only[List.length_append,List.length_take,List.length_drop];omega,hv.nj,fun x hx=>by
   rcases List.mem_append.1 hx with hx|hx
   ·exact hv.vers x (List.mem_of_mem_take hx)
   ·exact hv.vers x (List.mem_of_mem_drop hx),fun j hj=>(hv.jobs j hj).del i hf1 (by rw[hf2];exact fun h=>hall j hj h.symm)⟩
  repeat' (first|simp (maxSteps:=9999999) only[↓GE,PQ,seval,map_slice,List.take_of_length_le,List.length_append,List.length_take,List.length_drop,List.map_drop,List.map_take]|refine gS ?_|refine sp ?_ ?_ <;> intro h|(with_reducible apply And.intro)|exact aG|fail)
  refine dP ?_
  refine⟨_,0,?_,hdel⟩
  simp [eHeld,eR,I,B]
end Go.Proofs.YticdbambknflgaaGreat.Sim
end
section
namespace Go.Proofs.YticdbambknflgaaGreat.Sim
open Go
set_option maxRecDepth 100000
set_option maxHeartbeats 4000000
set_option linter.unusedVariables false
set_option linter.unusedSimpArgs false
attribute [local irreducible] Go Mean
theorem numbers30' (a b c d e:Int) (q w:List Int) (m:Int) (hq:q.length≤1000000) (hv:w.length≤1000000):Does Tryz.prog 133 [.ag [I a,I b,I c,I d,I e,.d (dInts q),.d (dInts w),I m]] [] (.d (dInts (numN ⟨a,b,c,d,e,q,w,m⟩))) [] []:=numbers30 ⟨a,b,c,d,e,q,w,m⟩ hq hv
theorem word30 {s:PSch} {id:Int} (v:PSrv) (pn ps lie:Int) (hv:SrvOK s id v):DoesP Tryz.prog 99 [vSrv v,.ag [I pn,I ps],I lie] (fun r=>∃ v' n b e,r=.tu [vSrv v',vNote n,B b,I e]∧SrvOK s id v'∧n.query.length≤1025∧n.values.length≤64):=by
 have hnv:=hv.nv
 have hnj:=hv.nj
 refine⟨⟨_,v,noNote,false,1,rfl,hv,by simp [noNote],by simp [noNote]⟩,wE Tryz.func99 fun cx hm0=>?_⟩
 by_cases hj:0<v.jobs.length
 case neg =>
  repeat' (first|refine gS ?_|refine sp ?_ ?_ <;> intro h|(with_reducible apply And.intro)|exact aG|fail)
  all_goals (refine dP ?_;exact⟨v,noNote,_,_,rfl,hv,by simp [noNote],by simp [noNote]⟩)
 have hs0:=getD_map eJob [] noJob v.jobs 0 hj
 obtain⟨h0,g1,g2,g3,g4⟩:=hv.jobs _ (mem_getD noJob v.jobs 0 hj)
 have hjs:v.jobs=v.jobs.getD 0 noJob :: v.jobs.drop 1:=by
  rw[List.getD_eq_getElem?_getD,List.getElem?_eq_getElem hj]
  exact (List.drop_eq_getElem_cons hj).symm.trans (by simp) |>.symm
 generalize v.jobs.getD 0 noJob=j at *
 have e3:=find30 v j.version (by omega)
 have hf:=findI_lt (l:=v.vers) (n:=j.version)
 have hm:=List.mem_of_find?_eq_some g1
 have hnn:0≤findI v.vers j.version:=by
  by_cases h:findI v.vers j.version<0
  ·have:=findI_neg h h0 hm
   have h9:=List.find?_some g1
   simp only[beq_iff_eq] at h9
   exact absurd h9 this
  ·omega
 generalize findI v.vers j.version=i at *
 obtain⟨i,rfl⟩:∃ j:Nat,i=j:=⟨i.toNat,by omega⟩
 obtain⟨hf1,hf2,hf3⟩:=hf (by omega)
 simp only[Int.toNat_natCast] at hf1 hf2 hf3
 have hh:=hv.vers _ hm
 have hs1:=getD_map eHeld [] noHeld v.vers i hf1
 rw[show v.vers.getD i noHeld=h0 by rw[g1] at hf3;exact (Option.some.inj hf3).symm] at hs1
 have hp:=(fieldB_iff.1 hh.fld).1
 have hw1:=hh.w1
 have hw2:=hh.w2
 have hnr:=hh.nr
 have hcb:CombOK h0.hd.p h0.hd.width j.query h0.rows:=⟨hh.fld,by omega,by omega,g2,hh.rows,g3⟩
 have hja:∀ x:PJob,JobOK v.vers x→SrvOK s id { v with jobs:=x :: v.jobs.drop 1 }:=fun x hx=>⟨hv.id,hv.s,hv.nv,by simp only[List.length_cons,List.length_drop];omega,hv.vers,fun y hy=>by
  rcases List.mem_cons.1 hy with rfl|hy
  ·exact hx
  ·exact hv.jobs y (List.mem_of_mem_drop hy)⟩
 have hjz:∀ z:Int,(j.done.length:Int)+1<h0.hd.width→SrvOK s id { v with jobs:=⟨j.read,j.probe,j.version,j.query,j.done++[z]⟩ :: v.jobs.drop 1 }:=fun z hz=>hja _ ⟨h0,g1,g2,g3,by simp only[List.length_append,List.length_cons,List.length_nil];omega⟩
 have hjb:SrvOK s id { v with jobs:=v.jobs.drop 1 }:=⟨hv.id,hv.s,hv.nv,by simp only[List.length_drop];omega,hv.vers,fun y hy=>hv.jobs y (List.mem_of_mem_drop hy)⟩
 have hjl:(v.jobs.drop 1).length≤32:=by rw[List.length_drop];omega
 have hdr:(v.jobs.map eJob).drop 1=(v.jobs.drop 1).map eJob:=by rw[List.map_drop]
 have hj':¬ (v.jobs.length:Int)=0:=by omega
 repeat' (first|simp (maxSteps:=9999999) only[↓GE,PQ,seval,hs0,hs1,hf1,hj,eJob,eHeld]|refine gS ?_|refine sp ?_ ?_ <;> intro h|refine gP e3 ?_|(with_reducible apply And.intro)|exact aG|fail)
 all_goals try (refine dP ?_;exact⟨v,noNote,_,_,rfl,hv,by simp [noNote],by simp [noNote]⟩)
 (refine gW (answer23 h0.hd.p h0.hd.width j.query h0.rows (by omega) (by omega) (fun x hx=>by have:=(hh.rows x hx).1;omega)) ?_;rintro _ ⟨l,e,rfl,hl,he⟩ <;> refine⟨rfl,?_⟩)
 obtain⟨rfl,hlw⟩:=he hcb
 have hld:j.done.length<l.length:=by omega
 have hs2:=getD_map eI [] 0 l j.done.length hld
 generalize l.getD j.done.length 0=x at *
 have htk:(v.jobs.map eJob).take v.jobs.length=v.jobs.map eJob:=List.take_of_length_le (by simp)
 have hdz:∀ z:Int,List.map eI j.done++[[D.at (Value.int IntKind.i64 z)]]=List.map eI (j.done++[z]):=fun z=>by simp [eI]
 have hn1:=numbers30' 2 j.read j.probe v.id j.version j.query (j.done++[x]) 0 (by omega) (by simp only[List.length_append,List.length_cons,List.length_nil];omega)
 have hn2:=numbers30' 2 j.read j.probe v.id j.version j.query (j.done++[(IntKind.i64.wrap (x+(IntKind.i64.wrap (lie.tmod h0.hd.p+h0.hd.p)).tmod h0.hd.p)).tmod h0.hd.p]) 0 (by omega) (by simp only[List.length_append,List.length_cons,List.length_nil];omega)
 have hnl:∀ z:Int,(numN ⟨2,j.read,j.probe,v.id,j.version,j.query,j.done++[z],0⟩).length≤1000000:=fun z=>by simp [numN];omega
 repeat' (first|simp (maxSteps:=9999999) only[↓GE,PQ,seval,hs2,hld,htk,hdr,hdz,eI,List.length_append]|refine gS ?_|refine sp ?_ ?_ <;> intro h|refine gP hn1 ?_|refine gP hn2 ?_|(with_reducible apply And.intro)|exact aG|fail)
 all_goals try (exfalso;omega)
 all_goals try omega
 all_goals clear hja
 ·skip
  refine dP ?_
  refine⟨_,noNote,false,0,?_,hjz ((IntKind.i64.wrap (x+(IntKind.i64.wrap (lie.tmod h0.hd.p+h0.hd.p)).tmod h0.hd.p)).tmod h0.hd.p) (by omega),by simp [noNote],by simp [noNote]⟩
  simp [eJob,eI,I,B,noNote]
 ·skip
  (refine gW (sign22 ps _ (hnl ((IntKind.i64.wrap (x+(IntKind.i64.wrap (lie.tmod h0.hd.p+h0.hd.p)).tmod h0.hd.p)).tmod h0.hd.p))) ?_;rintro _ ⟨mk,e,rfl⟩ <;> refine⟨rfl,?_⟩)
  repeat' (first|refine gB htk hdr ?_|refine sp ?_ ?_ <;> intro h|(with_reducible apply And.intro)|exact aG|fail)
  all_goals try (refine dP ?_;exact⟨v,noNote,_,_,rfl,hv,by simp [noNote],by simp [noNote]⟩)
  all_goals try omega
  refine dP ?_
  refine⟨_,⟨2,j.read,j.probe,v.id,j.version,j.query,j.done++[((IntKind.i64.wrap (x+(IntKind.i64.wrap (lie.tmod h0.hd.p+h0.hd.p)).tmod h0.hd.p)).tmod h0.hd.p)],mk⟩,true,0,?_,hjb,by simp only;omega,by simp only[List.length_append,List.length_cons,List.length_nil];omega⟩
  simp [eJob,I,B,noNote]
 ·skip
  refine dP ?_
  refine⟨_,noNote,false,0,?_,hjz x (by omega),by simp [noNote],by simp [noNote]⟩
  simp [eJob,eI,I,B,noNote]
 ·skip
  (refine gW (sign22 ps _ (hnl x)) ?_;rintro _ ⟨mk,e,rfl⟩ <;> refine⟨rfl,?_⟩)
  repeat' (first|refine gB htk hdr ?_|refine sp ?_ ?_ <;> intro h|(with_reducible apply And.intro)|exact aG|fail)
  all_goals try (refine dP ?_;exact⟨v,noNote,_,_,rfl,hv,by simp [noNote],by simp [noNote]⟩)
  all_goals try omega
  refine dP ?_
  refine⟨_,⟨2,j.read,j.probe,v.id,j.version,j.query,j.done++[x],mk⟩,true,0,?_,hjb,by simp only;omega,by simp only[List.length_append,List.length_cons,List.length_nil];omega⟩
  simp [eJob,I,B,noNote]
end Go.Proofs.YticdbambknflgaaGreat.Sim
end
section
namespace Go.Proofs.YticdbambknflgaaGreat.Sim
open Go
set_option maxRecDepth 100000
set_option maxHeartbeats 4000000
set_option linter.unusedVariables false
set_option linter.unusedSimpArgs false
attribute [local irreducible] Go Mean
def cA (l:List (List PAns)):List V:=l.map fun y=>V.d (dAns y)
def cM (l:List (List Int)):List V:=l.map fun y=>V.d (dInts y)
theorem cA_of (l:List (List PAns)):(l.map eAnss).flatten.map V.d=cA l:=by
 induction l with
 |nil=>rfl
 |cons x l ih=>simp only[List.map_cons,List.flatten_cons,List.map_append,ih];rfl
theorem cM_of (l:List (List Int)):(l.map eR).flatten.map V.d=cM l:=by
 induction l with
 |nil=>rfl
 |cons x l ih=>simp only[List.map_cons,List.flatten_cons,List.map_append,ih];rfl
theorem lA (l:List (List PAns)):(l.map eAnss).flatten.length=l.length:=by rw[← List.length_map (f:=V.d),cA_of];simp [cA]
theorem lM (l:List (List Int)):(l.map eR).flatten.length=l.length:=by rw[← List.length_map (f:=V.d),cM_of];simp [cM]
theorem cA_len (l:List (List PAns)):(cA l).length=l.length:=by simp [cA]
theorem cM_len (l:List (List Int)):(cM l).length=l.length:=by simp [cM]
theorem cA_get {l:List (List PAns)} {k:Nat} (h:k<l.length):(cA l).getD k .un=.d (dAns (l.getD k [])):=by simp [cA,List.getD_eq_getElem?_getD,h]
theorem cM_get {l:List (List Int)} {k:Nat} (h:k<l.length):(cM l).getD k .un=.d (dInts (l.getD k [])):=by simp [cM,List.getD_eq_getElem?_getD,h]
theorem set_get {l:List V} {k:Nat} {x:V} (h:k<l.length):(l.set k x).getD k .un=x:=by simp [List.getD_eq_getElem?_getD,h]
theorem dcells_vd {m:M}:∀ (l:List D),dcells m (l.map V.d)=some l
 |[]=>rfl
 |x :: l=>by simp only[List.map_cons,dcells,dcell,dcells_vd l]
theorem dcells_set {m:M} {x:V} {y:D} (hx:dcell m x=some y):∀ (l:List D) (k:Nat),dcells m ((l.map V.d).set k x)=some (l.set k y)
 |[],k=>rfl
 |a :: l,0=>by
  have h0:=dcells_vd (m:=m) l
  simp only[List.map_cons,List.set_cons_zero,dcells,hx,h0]
 |a :: l,k+1=>by
  have:=dcells_set hx l k
  simp only[List.map_cons,List.set_cons_succ,dcells,dcell,this]
theorem cA_eq (l:List (List PAns)):cA l=(l.map fun y=>dAns y).map V.d:=by simp [cA]
theorem cM_eq (l:List (List Int)):cM l=(l.map fun y=>dInts y).map V.d:=by simp [cM]
theorem dA_eq {l:List (List PAns)} {an:List PAns} {k j:Nat} {vals:List Int}:D.sl 1 (((l.map fun y=>dAns y).set k (.sl 2 ((an.map eAns).set j [bD true,dInts vals]))).map fun d=>[d])=dAnss (l.set k (an.set j ⟨true,vals⟩)):=by
 have e:eAnss (an.set j ⟨true,vals⟩)=[D.sl 2 ((an.map eAns).set j [bD true,dInts vals])]:=by simp only[eAnss,dAns,List.map_set];rfl
 simp only[dAnss,List.map_set,e,List.map_map]
 rfl
theorem dM_eq {l:List (List Int)} {ms:List Int} {k j:Nat} {mk:Int}:D.sl 1 (((l.map fun y=>dInts y).set k (.sl 1 ((ms.map eI).set j [iD mk]))).map fun d=>[d])=dRows (l.set k (ms.set j mk)):=by
 have e:eR (ms.set j mk)=[D.sl 1 ((ms.map eI).set j [iD mk])]:=by simp only[eR,dInts,List.map_set];rfl
 simp only[dRows,List.map_set,e,List.map_map]
 rfl
theorem W_dset {m m0:M} {i v:Nat}:∀ (l:List D) (k:Nat),(m0 i).isSome=true→Ws m m0 [] ((l.map V.d).set k (.og i v)) ((l.map V.d).set k (.og i v))
 |[],k,h=>by simp only[List.map_nil,List.set_nil,Ws]
 |a :: l,0,h=>by
  have key:∀ l:List D,Ws m m0 [] (l.map V.d) (l.map V.d):=fun l=>by
   induction l with
   |nil=>simp only[List.map_nil,Ws]
   |cons a l ih=>simp only[List.map_cons,Ws];exact⟨by simp only[W],ih⟩
  simp only[List.map_cons,List.set_cons_zero,Ws]
  exact⟨by simp only[W];exact⟨trivial,trivial,by simp,h⟩,key l⟩
 |a :: l,k+1,h=>by
  simp only[List.map_cons,List.set_cons_succ,Ws]
  exact⟨by simp only[W],W_dset l k h⟩
theorem Wk.of_GeS {cx:Cx} {s:St} {bx ml:U} {T0:List (Nat × V)} {ad:List Nat} (hx:cx.m0=ups M0 bx) (h:GeS s ad T0 ml bx):Wk cx s ⟨tl T0,ups M0 ml⟩:=fun a w hR=>hR.weaken ad T0 ml bx hx h.1 h.2.1 h.2.2.1 h.2.2.2
theorem su_data {i v:Nat} {d:D}:∀ (l:List D),(l.map V.d).map (su i v d)=l.map V.d
 |[]=>rfl
 |x :: l=>by simp only[List.map_cons,su_data l];rfl
theorem frz_data {m:M}:∀ (l:List D),frz m (l.map V.d)=[]
 |[]=>rfl
 |x :: l=>by simp only[List.map_cons,frz,frz_data l]
theorem frz_set {m:M} {i v v' k':Nat} {mu:Bool} {a:List (List D)} (hi:m i=some (.arr v' k' mu a)):∀ (l:List D) (k:Nat),k<l.length→frz m ((l.map V.d).set k (.og i v))=[(i,.arr v' k' false a)]
 |[],k,h=>by simp at h
 |x :: l,0,_=>by simp only[List.map_cons,List.set_cons_zero,frz,hi,frz_data l]
 |x :: l,k+1,h=>by
  simp only[List.map_cons,List.set_cons_succ,frz]
  exact frz_set hi l k (by simpa using h)
theorem seal_take {cx:Cx} (hm0:cx.m0=ups M0 []) (la lm pre:List D) (e:D) (k:Nat) (a2 m2:List (List D)) (hk:k<la.length) (hk2:k<lm.length) :
  Wk cx ⟨tl [(6,.bp 6 0 0),(7,I 0)],ups M0 [(133,.vec 1 1 ((la.map V.d).set k (.og 147 1))),(137,.vec 1 1 ((lm.map V.d).set k (.og 154 1))),(147,.arr 1 2 true a2),(154,.arr 1 1 true m2),(6,.box 0 (pre.map V.d++[.vg 133 1,.vg 137 1,.d e]))]⟩
   ⟨tl [(6,.bp 6 0 0),(7,I 0)],ups M0 [(6,.box 0 (pre.map V.d++[.d (.sl 1 ((la.set k (.sl 2 a2)).map fun d=>[d])),.d (.sl 1 ((lm.set k (.sl 1 m2)).map fun d=>[d])),.d e]))]⟩:=by
 have h1:=Wk.sealV (cx:=cx) (s:=⟨tl [(6,.bp 6 0 0),(7,I 0)],ups M0 [(133,.vec 1 1 ((la.map V.d).set k (.og 147 1))),(137,.vec 1 1 ((lm.map V.d).set k (.og 154 1))),(147,.arr 1 2 true a2),(154,.arr 1 1 true m2),(6,.box 0 (pre.map V.d++[.vg 133 1,.vg 137 1,.d e]))]⟩) 133 6 (by decide) rfl (dcells_set (dcell_og (k:=2) (mu:=true) (l:=a2) rfl) la k) (by rw[frz_set (v':=1) (k':=2) (mu:=true) (a:=a2) rfl la k hk];rfl) (by rw[frz_set (v':=1) (k':=2) (mu:=true) (a:=a2) rfl la k hk];rfl)
 rw[frz_set (v':=1) (k':=2) (mu:=true) (a:=a2) rfl la k hk,List.map_append,su_data,show [V.vg 133 1,V.vg 137 1,V.d e].map (su 133 1 (.sl 1 ((la.set k (.sl 2 a2)).map fun d=>[d])))=[.d (.sl 1 ((la.set k (.sl 2 a2)).map fun d=>[d])),.vg 137 1,.d e] from rfl] at h1
 refine h1.trans ?_
 have h2:=Wk.sealV (cx:=cx) (s:=⟨tl [(6,.bp 6 0 0),(7,I 0)],ups M0 [(137,.vec 1 1 ((lm.map V.d).set k (.og 154 1))),(154,.arr 1 1 true m2),(6,.box 0 (pre.map V.d++[.d (.sl 1 ((la.set k (.sl 2 a2)).map fun d=>[d])),.vg 137 1,.d e]))]⟩) 137 6 (by decide) rfl (dcells_set (dcell_og (k:=1) (mu:=true) (l:=m2) rfl) lm k) (by rw[frz_set (v':=1) (k':=1) (mu:=true) (a:=m2) rfl lm k hk2];rfl) (by rw[frz_set (v':=1) (k':=1) (mu:=true) (a:=m2) rfl lm k hk2];rfl)
 rw[frz_set (v':=1) (k':=1) (mu:=true) (a:=m2) rfl lm k hk2,List.map_append,su_data,show [V.d (.sl 1 ((la.set k (.sl 2 a2)).map fun d=>[d])),V.vg 137 1,V.d e].map (su 137 1 (.sl 1 ((lm.set k (.sl 1 m2)).map fun d=>[d])))=[.d (.sl 1 ((la.set k (.sl 2 a2)).map fun d=>[d])),.d (.sl 1 ((lm.set k (.sl 1 m2)).map fun d=>[d])),.d e] from rfl] at h2
 have W_data:∀ {m m0:M} (l:List D) {x y:List V},Ws m m0 [] x y→Ws m m0 [] (l.map V.d++x) (l.map V.d++y):=fun {m m0} l=>by
  induction l with
  |nil=>intro x y h;exact h
  |cons a l ih =>
   intro x y h
   simp only[List.map_cons,List.cons_append,Ws]
   exact⟨by simp only[W],ih h⟩
 have W_lm:∀ {m m0:M} (l:List D) (k:Nat),(m0 154).isSome=true→Ws m m0 [] ((l.map V.d).set k (.og 154 1)) ((l.map V.d).set k (.og 154 1)):=fun {m m0} l=>by
  induction l with
  |nil=>intro k h;simp only[List.map_nil,List.set_nil,Ws]
  |cons a l ih =>
   intro k h
   cases k with
   |zero =>
    simp only[List.map_cons,List.set_cons_zero,Ws]
    refine⟨by simp only[W];exact⟨trivial,trivial,by simp,h⟩,?_⟩
    have:=W_data (m:=m) (m0:=m0) l (x:=[]) (y:=[]) (by simp only[Ws])
    simpa using this
   |succ k =>
    simp only[List.map_cons,List.set_cons_succ,Ws]
    exact⟨by simp only[W],ih k h⟩
 refine Wk.trans ?_ (h2.trans ?_)
 ·refine Wk.weaken [] _ _ (TW_ok ?_) (fun i o hi=>?_) (fun i hi=>by cases hi) (fun i o hi=>by rw[hm0] at hi;cases hi)
  ·(simp (config:={ maxSteps:=1000000 }) only[TW,W,Option.isSome_some,List.not_mem_nil,I,EE,QQ,seval])
  ·simp only[ups,up_at] at hi
   split at hi
   ·subst_vars;cases hi
    exact⟨rfl,_,rfl,W_data pre (by simp only[Ws,W];exact⟨trivial,⟨trivial,trivial,by simp,rfl⟩,trivial,trivial⟩)⟩
   split at hi
   ·subst_vars;cases hi
    rfl
   split at hi
   ·subst_vars;cases hi
    exact⟨rfl,_,rfl,W_lm lm k rfl⟩
   ·cases hi
 ·refine Wk.weaken [] _ _ (TW_ok ?_) (fun i o hi=>?_) (fun i hi=>by cases hi) (fun i o hi=>by rw[hm0] at hi;cases hi)
  ·(simp (config:={ maxSteps:=1000000 }) only[TW,W,Option.isSome_some,List.not_mem_nil,I,EE,QQ,seval])
  ·simp only[ups,up_at] at hi
   split at hi
   ·subst_vars;cases hi
    exact⟨rfl,_,rfl,W_data pre (by simp only[Ws,W];exact⟨trivial,trivial,trivial,trivial⟩)⟩
   ·cases hi
theorem take32' (r:PRd) (pp:List (Int × Int)) (kd rd pb sv vn:Int) (q vals:List Int) (mk:Int) (hr:RdOK r) (hpp:pp.length≤1000) (hq:q.length≤100000) (hv:vals.length≤64):DoesP Tryz.prog 130 [vRd r,.d (dTwos pp),.ag [I kd,I rd,I pb,I sv,I vn,.d (dInts q),.d (dInts vals),I mk]] (fun x=>∃ r' e,x=.tu [vRd r',I e]∧RdOK r'):=by
 have h1:=hr.sv
 have h3:=hr.nq
 have h4:=hr.na
 have h5:=hr.nm
 refine⟨⟨_,r,1,rfl,hr⟩,wE' Tryz.func130 (s:=[133,137]) fun cx hm0=>Awp.endWk (go_in 5000 ?_)⟩
 by_cases hp:0≤pb∧pb<r.queries.length
 case neg =>
  repeat' (first|refine gS ?_|refine sp ?_ ?_ <;> intro h|(with_reducible apply And.intro)|exact aG|fail)
  all_goals first|(exfalso;omega)|(refine⟨_,Wk.refl,?_⟩;refine dP ?_;exact⟨r,_,rfl,hr⟩)
 obtain⟨k,rfl⟩:∃ k:Nat,pb=k:=⟨pb.toNat,by omega⟩
 have hk:k<r.queries.length:=by omega
 have hs0:=getD_map eQ [] [] r.queries k hk
 obtain⟨hy1,hy2⟩:=hr.qs _ (mem_getD [] r.queries k hk)
 have hsA:=getD_map eAnss [] [] r.answers k (by omega)
 have hsM:=getD_map eR [] [] r.marks k (by omega)
 have hgA:=cA_get (l:=r.answers) (k:=k) (by omega)
 have hgM:=cM_get (l:=r.marks) (k:=k) (by omega)
 obtain⟨ha1,ha2⟩:=hr.ans _ (mem_getD [] r.answers k (by omega))
 have hm1:=hr.ms _ (mem_getD [] r.marks k (by omega))
 generalize r.queries.getD k []=y at *
 generalize r.answers.getD k []=an at *
 generalize r.marks.getD k []=ms at *
 by_cases hsv:1≤sv∧sv≤r.s.sv
 case neg =>
  repeat' (first|simp (maxSteps:=9999999) only[↓GE,PQ,seval,hs0,hk,eQ]|refine gS ?_|refine sp ?_ ?_ <;> intro h|(with_reducible apply And.intro)|exact aG|fail)
  all_goals first|(exfalso;omega)|(refine⟨_,Wk.refl,?_⟩;refine dP ?_;exact⟨r,_,rfl,hr⟩)
 obtain⟨j,rfl⟩:∃ j:Nat,sv=j+1:=⟨(sv-1).toNat,by omega⟩
 have hj:j<y.length:=by omega
 have hs1:=getD_map eR [] [] y j hj
 have hx:=hy2 _ (mem_getD [] y j hj)
 generalize y.getD j []=x at *
 have w1:IntKind.i64.wrap ((j:Int)+1-1)=(j:Int):=by rw[IntWalk.i64_in _ (by omega)];omega
 have hka:k<r.answers.length:=by omega
 have hkm:k<r.marks.length:=by omega
 have hja:j<an.length:=by omega
 have hjm:j<ms.length:=by omega
 have e1:=ints31 q x (by omega) (by omega)
 repeat' (first|simp (maxSteps:=9999999) only[↓GE,PQ,seval,w1,hs0,hs1,hk,hj,eQ,eR]|refine gS ?_|refine sp ?_ ?_ <;> intro h|refine gP e1 ?_|(with_reducible apply And.intro)|exact aG|fail)
 all_goals try first|(exfalso;omega)|(refine⟨_,Wk.refl,?_⟩;refine dP ?_;exact⟨r,_,rfl,hr⟩)
 have hve:((vals.map eI).length:Int)=r.h.width:=by simp at *;omega
 refine gl (κ:=Nat) hm0 (fun q_=>q_≤vals.length) (fun q_=>[(1,.d (dTwos pp)),(3,.bp 3 0 0),(5,.bp 5 0 0),(6,.bp 6 0 0),(8,I q_)]) (fun q_=>[(3,.box 0 [I r.read,I r.s.kind,I r.s.sv,I r.s.deg,I r.s.grp,I r.h.num,I r.h.p,I r.h.count,I r.h.width,I r.h.root,.d (dInts r.rows),.d (dQs r.queries),.d (dAnss r.answers),.d (dRows r.marks),B r.ended]),(5,.box 0 [I kd,I rd,I k,I (j+1),I vn,.d (dInts q),.d (dInts vals),I mk]),(6,.box 0 [I 0,I 0,I 0,I 0,I 0,I 0,I 0,I 0,I 0,I 0,.nl 1,.nl 1,.nl 1,.nl 1,B false])]) (fun q_=>vals.length-q_) [] [] (0) ?_
 rintro m hI
 try simp only at hI ⊢
 try have hI2:=hI.2
 by_cases hm:m<vals.length
 ·have hs2:=getD_map eI [] 0 vals m hm
  generalize vals.getD m 0=z at *
  repeat' (first|refine gC hs2 hm eI.eq_1 ?_|refine sp ?_ ?_ <;> intro h|(with_reducible apply And.intro)|exact aG|fail)
  all_goals first|(refine⟨_,Wk.refl,?_⟩;refine dP ?_;exact⟨r,_,rfl,hr⟩)|(exact⟨[],[],⟨(m+1),aI⟩,aX,aI⟩)
 have e2:=numbers30' kd rd k (j+1) vn q vals mk (by omega) (by omega)
 have hs3:=getD_map eAns [] noAns an j hja
 have ha3:=ha2 _ (mem_getD noAns an j hja)
 generalize an.getD j noAns=a at *
 have hs4:=getD_map eI [] 0 ms j hjm
 have w2:IntKind.i64.wrap ((j:Int)+1-1)=(j:Int):=w1
 have hgA2:=set_get (l:=cA r.answers) (k:=k) (x:=.og 147 1) (by rw[cA_len];exact hka)
 have hgM2:=set_get (l:=cM r.marks) (k:=k) (x:=.og 154 1) (by rw[cM_len];exact hkm)
 repeat' (first|simp (maxSteps:=9999999) only[↓GE,PQ,seval,w1,hsA,hs3,hs4,hka,hkm,hja,hjm,lA,lM,cA_of,cM_of,cA_len,cM_len,hgA,hgM,hgA2,hgM2,eAnss,eAns,eI,List.length_set,List.nil_append]|refine gS ?_|refine sp ?_ ?_ <;> intro h|(exfalso;omega)|refine gP e2 ?_|(refine gW (verify22 pp (j+1) (numN ⟨kd,rd,k,j+1,vn,q,vals,mk⟩) mk hpp (by simp [numN];omega)) ?_;rintro _ ⟨b,rfl⟩ <;> refine⟨rfl,?_⟩)|(with_reducible apply And.intro)|exact aG|fail)
 all_goals try (refine⟨_,Wk.refl,?_⟩;refine dP ?_;exact⟨r,_,rfl,hr⟩)
 simp only[cA_eq,cM_eq]
 refine⟨_,(Wk.of_GeS hm0 (T0:=[(6,.bp 6 0 0),(7,I 0)]) (ml:=[(133,.vec 1 1 (((r.answers.map fun y=>dAns y).map V.d).set k (.og 147 1))),(137,.vec 1 1 (((r.marks.map fun y=>dInts y).map V.d).set k (.og 154 1))),(147,.arr 1 2 true ((an.map eAns).set j [bD true,dInts vals])),(154,.arr 1 1 true ((ms.map eI).set j [iD mk])),(6,.box 0 ([iD r.read,iD r.s.kind,iD r.s.sv,iD r.s.deg,iD r.s.grp,iD r.h.num,iD r.h.p,iD r.h.count,iD r.h.width,iD r.h.root,dInts r.rows,dQs r.queries].map V.d++[.vg 133 1,.vg 137 1,.d (bD r.ended)]))]) (ad:=[]) ?_).trans (seal_take hm0 _ _ _ _ k _ _ (by rw[List.length_map];exact hka) (by rw[List.length_map];exact hkm)),?_⟩
 ·(simp only[GeS];refine⟨?_,?_,?_,?_⟩;all_goals (repeat' (first|(with_reducible exact True.intro)|(with_reducible rfl)|simp only[XC,↓reduceIte,seval]|(with_reducible apply And.intro)|(refine⟨_,rfl,?_⟩)|(simp [W_dset,ups,up_at];done)|exact aS|fail)))
  all_goals exact W_dset _ k rfl
 refine dP ?_
 rw[dA_eq,dM_eq]
 refine⟨{ r with answers:=r.answers.set k (an.set j ⟨true,vals⟩),marks:=r.marks.set k (ms.set j mk) },0,rfl,⟨h1,hr.nr,h3,by simp only[List.length_set];omega,by simp only[List.length_set];omega,hr.qs,fun y' hy'=>?_,fun y' hy'=>?_⟩⟩
 ·rcases List.mem_or_eq_of_mem_set hy' with hy'|rfl
  ·exact hr.ans _ hy'
  ·refine⟨by rw[List.length_set];exact ha1,fun a' ha'=>?_⟩
   rcases List.mem_or_eq_of_mem_set ha' with ha'|rfl
   ·exact ha2 _ ha'
   ·exact hv
 ·rcases List.mem_or_eq_of_mem_set hy' with hy'|rfl
  ·exact hr.ms _ hy'
  ·rw[List.length_set];exact hm1
end Go.Proofs.YticdbambknflgaaGreat.Sim
end
