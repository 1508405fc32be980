/- Queries to coded storage, 6 servers. -/
import Derived.Test.YticdbambknflgaaGreatMWoE
import Derived.Test.YticdbambknflgaaGreatMAcs
import Derived.Test.YticdbambknflgaaGreatMSimSl
section
namespace Go.Proofs.YticdbambknflgaaGreat.Sim
open Go
set_option maxRecDepth 100000
set_option maxHeartbeats 4000000
set_option linter.unusedVariables false
set_option linter.unusedSimpArgs false
attribute [local irreducible] Go Mean
theorem split7 (p s th c:Int) (t:List Int) (a:Int) (ht:t.length≤1000000):DoesP Tryz.prog 171 [.ag [I p],I s,I th,I c,vTape t a] (fun r=>∃ sh u b e,r=.tu [.d (dTwos sh),vTape u b,I e]∧u.length≤1000000∧(e=0→(sh.length:Int)=c)):=by
 refine⟨⟨_,[],[],0,1,rfl,by simp⟩,wE Tryz.func171 fun cx hm0=>?_⟩
 cases hf:fieldB p with
 |false =>
  repeat' (first|simp (maxSteps:=9999999) only[↓GE,PQ,seval,eI,hf,Bool.false_and]|refine gS ?_|refine sp ?_ ?_ <;> intro h|refine gP (r3in p [s] (by simp)) ?_|(with_reducible apply And.intro)|exact aG|fail)
  all_goals (refine dP ?_;exact⟨[],[],_,_,rfl,by simp,aQ⟩)
 |true =>
  have hp:=(fieldB_iff.1 hf).1
  have hp2:=(fieldB_iff.1 hf).2.1
  by_cases hth:th≤9
  ·repeat' (first|refine gB eI.eq_1 hf ?_|refine sp ?_ ?_ <;> intro h|(exfalso;omega)|refine gP (r3in p [s] (by simp)) ?_|(refine gW (draws2 t a p th ht (by omega)) ?_;rintro _ ⟨u,b,l,e,rfl,hu,hl,hle⟩ <;> refine⟨rfl,?_⟩)|(with_reducible apply And.intro)|exact aG|fail)
   all_goals try (refine dP ?_;exact⟨[],[],_,_,rfl,by simp,aQ⟩)
   have hll:=hle (by simp_all)
   refine gl (κ:=Nat × (List (Int × Int)) × Nat) hm0 (fun q_=>(q_.1:Int)≤c∧q_.2.1.length=q_.1) (fun q_=>[(3,I c),(5,.bp 5 0 0),(9,.bp 9 0 0),(11,.bp 11 0 0),(15,.d (dInts (s :: l))),(16,.og 82 q_.2.2),(17,I ((q_.1:Int)+1))]) (fun q_=>[(5,.box 0 [I p]),(9,.box 0 [.d (dInts u),I b]),(11,.box 0 [.nl 1,I 0]),(82,.arr q_.2.2 2 true (q_.2.1.map eTwo))]) (fun q_=>(c-q_.1).toNat) [.og 62 1] [82] (0,[],0) ?_
   rintro⟨k,sh,v⟩ hI
   try simp only at hI ⊢
   try have hI2:=hI.2
   by_cases hk:(k:Int)<c
   ·have hw1:IntKind.i64.wrap ((k:Int)+1+1)=((k+1:Nat):Int)+1:=by rw[IntWalk.i64_in _ (by omega)];omega
    repeat' (first|refine gB hw1 eI.eq_1 ?_|refine sp ?_ ?_ <;> intro h|(exfalso;omega)|(refine gW (Value5 p ((k:Int)+1) (s :: l) (by simp;omega)) ?_;rintro _ ⟨y,e2,rfl⟩ <;> refine⟨rfl,?_⟩)|(with_reducible apply And.intro)|exact aG|fail)
    (exact⟨[],[],⟨(k+1,sh++[((k:Int)+1,y)],v+1),aI⟩,(aY eTwo.eq_1),aI⟩)
   ·repeat' (first|refine gS ?_|refine sp ?_ ?_ <;> intro h|(with_reducible apply And.intro)|exact aG|fail)
    all_goals (refine dP ?_;exact⟨sh,u,_,_,rfl,hu,aQ⟩)
  ·repeat' (first|refine gB eI.eq_1 hf ?_|refine sp ?_ ?_ <;> intro h|refine gP (r3in p [s] (by simp)) ?_|(with_reducible apply And.intro)|exact aG|fail)
   all_goals first|(exfalso;omega)|(refine dP ?_;exact⟨[],[],_,_,rfl,by simp,aQ⟩)
end Go.Proofs.YticdbambknflgaaGreat.Sim
end
section
namespace Go.Proofs.YticdbambknflgaaGreat.Sim
open Go
set_option maxRecDepth 100000
set_option maxHeartbeats 4000000
set_option linter.unusedVariables false
set_option linter.unusedSimpArgs false
attribute [local irreducible] Go Mean
theorem queries18_6 (p deg grp gs ix:Int) (t:List Int) (a:Int) (ht:t.length≤1000000):DoesP Tryz.prog 164 [.ag [I p],.ag [I 6,I deg,I grp],I gs,I ix,vTape t a] (fun r=>∃ q u b e,r=.tu [.d (dRows q),vTape u b,I e]∧u.length≤1000000∧q.length≤10∧(∀ x ∈ q,x.length≤1024)∧(e=0→(q.length:Int)=6)):=by
 refine⟨⟨_,[],[],0,1,rfl,by simp⟩,wE' Tryz.func164 fun cx hm0=>Awp.mayseal (go_in 5000 ?_)⟩
 repeat' (first|refine gS ?_|refine sp ?_ ?_ <;> intro h|(exfalso;omega)|(refine gW (limits18 p 6 deg grp gs) ?_;rintro _ ⟨l0,e,rfl,hl0,he⟩ <;> refine⟨rfl,?_⟩)|(with_reducible apply And.intro)|exact aG|fail)
 all_goals try (refine .inl ?_;refine dP ?_;exact⟨[],[],_,_,rfl,by simp,by simp,by simp,aQ⟩)
 obtain⟨hf,h1,h2,h3,h4,h5,h6,h7,h8,h9,h10⟩:=he (by simp_all)
 obtain⟨G,rfl⟩:∃ G:Nat,grp=G:=⟨grp.toNat,by omega⟩
 obtain⟨u0,hu0⟩:∃ u,u=t:=⟨t,rfl⟩
 subst hu0
 have hz:∀ k:Nat,List.replicate k [D.at (Value.int IntKind.i64 0)]=(List.replicate k (0:Int)).map eI:=fun k=>by simp [eI]
 have hG:∃ g,G=g+1:=⟨G-1,by omega⟩
 have hap:∀ l:List Int,(List.replicate G (0:Int)).map eI++l.map eI=(List.replicate G (0:Int)++l).map eI:=fun l=>List.map_append.symm
 have hs0:∀ l:List Int,((List.replicate G (0:Int)++l).map eI).getD 0 []=eI 0:=fun l=>by obtain⟨g,rfl⟩:=hG;simp [List.replicate_succ]
 have hset:∀ l:List Int,((List.replicate G (0:Int)++l).map eI).set 0 [D.at (Value.int IntKind.i64 1)]=((List.replicate G (0:Int)++l).set 0 1).map eI:=fun l=>by simp [eI,List.map_set]
 have hln:∀ l:List Int,0<(List.replicate G (0:Int)++l).length:=fun l=>by simp;omega
 refine gl (κ:=Nat × (List Int) × Int × (List Int) × (List Int) × (List Int) × (List Int) × (List Int) × (List Int) × Nat × Nat × Nat × Nat × Nat × Nat) hm0 (fun q_=>(q_.1:Int)≤gs∧q_.2.1.length≤1000000∧q_.2.2.2.1.length≤q_.1∧q_.2.2.2.2.1.length≤q_.1∧q_.2.2.2.2.2.1.length≤q_.1∧q_.2.2.2.2.2.2.1.length≤q_.1∧q_.2.2.2.2.2.2.2.1.length≤q_.1∧q_.2.2.2.2.2.2.2.2.1.length≤q_.1) (fun q_=>[(2,I gs),(3,I ix),(5,.bp 5 0 0),(6,.bp 6 0 0),(9,.bp 9 0 0),(11,.bp 11 0 0),(15,.ep 45 0 6 1),(16,I q_.1)]) (fun q_=>[(5,.box 0 [I p]),(6,.box 0 [I 6,I deg,I G]),(9,.box 0 [.d (dInts q_.2.1),I q_.2.2.1]),(11,.box 0 [.nl 1,I 0]),(45,.box 0 [.og 5000 q_.2.2.2.2.2.2.2.2.2.1,.og 5001 q_.2.2.2.2.2.2.2.2.2.2.1,.og 5002 q_.2.2.2.2.2.2.2.2.2.2.2.1,.og 5003 q_.2.2.2.2.2.2.2.2.2.2.2.2.1,.og 5004 q_.2.2.2.2.2.2.2.2.2.2.2.2.2.1,.og 5005 q_.2.2.2.2.2.2.2.2.2.2.2.2.2.2]),(5000,.arr q_.2.2.2.2.2.2.2.2.2.1 1 true (q_.2.2.2.1.map eI)),(5001,.arr q_.2.2.2.2.2.2.2.2.2.2.1 1 true (q_.2.2.2.2.1.map eI)),(5002,.arr q_.2.2.2.2.2.2.2.2.2.2.2.1 1 true (q_.2.2.2.2.2.1.map eI)),(5003,.arr q_.2.2.2.2.2.2.2.2.2.2.2.2.1 1 true (q_.2.2.2.2.2.2.1.map eI)),(5004,.arr q_.2.2.2.2.2.2.2.2.2.2.2.2.2.1 1 true (q_.2.2.2.2.2.2.2.1.map eI)),(5005,.arr q_.2.2.2.2.2.2.2.2.2.2.2.2.2.2 1 true (q_.2.2.2.2.2.2.2.2.1.map eI))]) (fun q_=>(gs-q_.1).toNat) [] [5000,5001,5002,5003,5004,5005] (0,u0,a,[],[],[],[],[],[],0,0,0,0,0,0) ?_
 rintro⟨i,u,b,l0,l1,l2,l3,l4,l5,v0,v1,v2,v3,v4,v5⟩ hI
 try simp only at hI ⊢
 try have hI2:=hI.2
 by_cases hi:(i:Int)<gs
 ·have r0:decide ((i:Int)<gs)=true:=decide_eq_true hi
  by_cases hx:(i:Int)=ix
  all_goals
   first
   |have q1:((i:Int) == ix)=true:=by rw[beq_iff_eq];exact hx
   |have q1:((i:Int) == ix)=false:=by rw[beq_eq_false_iff_ne];exact hx
  all_goals
   repeat' (first|simp (maxSteps:=9999999) only[↓GE,PQ,seval,r0,q1,hz,hap,hs0,hset,hln,eI,List.length_replicate]|refine gS ?_|refine sp ?_ ?_ <;> intro h|(exfalso;omega)|(refine gW (draws2 u b p deg hI.2.1 (by omega)) ?_;rintro _ ⟨u2,b2,l,e2,rfl,hu2,hll,hle⟩ <;> refine⟨rfl,?_⟩)|(with_reducible apply And.intro)|exact aG|fail)
  all_goals try (refine .inl ?_;refine dP ?_;exact⟨[],[],_,_,rfl,by simp,by simp,by simp,aQ⟩)
  all_goals
   have hle:=hle (by simp_all)
   first
   |(obtain⟨pl,hpl⟩:∃ pl:List Int,(List.replicate G (0:Int)++l).set 0 1=pl:=⟨_,rfl⟩
     rw[hpl])
   |(obtain⟨pl,hpl⟩:∃ pl:List Int,List.replicate G (0:Int)++l=pl:=⟨_,rfl⟩
     rw[hpl])
   have hpll:pl.length≤100:=by rw[← hpl];simp;omega
   refine gl (κ:=Nat × (List Int) × (List Int) × (List Int) × (List Int) × (List Int) × (List Int) × Nat × Nat × Nat × Nat × Nat × Nat) hm0 (fun q_=>q_.1≤6∧((0<q_.1∨q_.2.1.length≤i)∧q_.2.1.length≤i+1)∧((1<q_.1∨q_.2.2.1.length≤i)∧q_.2.2.1.length≤i+1)∧((2<q_.1∨q_.2.2.2.1.length≤i)∧q_.2.2.2.1.length≤i+1)∧((3<q_.1∨q_.2.2.2.2.1.length≤i)∧q_.2.2.2.2.1.length≤i+1)∧((4<q_.1∨q_.2.2.2.2.2.1.length≤i)∧q_.2.2.2.2.2.1.length≤i+1)∧((5<q_.1∨q_.2.2.2.2.2.2.1.length≤i)∧q_.2.2.2.2.2.2.1.length≤i+1)) (fun q_=>[(2,I gs),(3,I ix),(5,.bp 5 0 0),(6,.bp 6 0 0),(9,.bp 9 0 0),(11,.bp 11 0 0),(15,.ep 45 0 6 1),(16,I i),(20,.d (dInts pl)),(21,I (q_.1+1:Nat))]) (fun q_=>[(5,.box 0 [I p]),(6,.box 0 [I 6,I deg,I G]),(9,.box 0 [.d (dInts u2),I b2]),(11,.box 0 [.nl 1,I 0]),(45,.box 0 [.og 5000 q_.2.2.2.2.2.2.2.1,.og 5001 q_.2.2.2.2.2.2.2.2.1,.og 5002 q_.2.2.2.2.2.2.2.2.2.1,.og 5003 q_.2.2.2.2.2.2.2.2.2.2.1,.og 5004 q_.2.2.2.2.2.2.2.2.2.2.2.1,.og 5005 q_.2.2.2.2.2.2.2.2.2.2.2.2]),(5000,.arr q_.2.2.2.2.2.2.2.1 1 true (q_.2.1.map eI)),(5001,.arr q_.2.2.2.2.2.2.2.2.1 1 true (q_.2.2.1.map eI)),(5002,.arr q_.2.2.2.2.2.2.2.2.2.1 1 true (q_.2.2.2.1.map eI)),(5003,.arr q_.2.2.2.2.2.2.2.2.2.2.1 1 true (q_.2.2.2.2.1.map eI)),(5004,.arr q_.2.2.2.2.2.2.2.2.2.2.2.1 1 true (q_.2.2.2.2.2.1.map eI)),(5005,.arr q_.2.2.2.2.2.2.2.2.2.2.2.2 1 true (q_.2.2.2.2.2.2.1.map eI))]) (fun q_=>6-q_.1) [.og 68 1] [] (0,l0,l1,l2,l3,l4,l5,v0,v1,v2,v3,v4,v5) ?_
   rintro⟨c,l0,l1,l2,l3,l4,l5,v0,v1,v2,v3,v4,v5⟩ hI
   try simp only at hI ⊢
   try have hI2:=hI.2
   have hc:c=0∨c=1∨c=2∨c=3∨c=4∨c=5∨c=6:=by omega
   rcases hc with rfl|rfl|rfl|rfl|rfl|rfl|rfl
   ·repeat' (first|refine gA eI.eq_1 ?_|refine sp ?_ ?_ <;> intro h|(exfalso;omega)|(refine gW (Value5 p _ pl (by omega)) ?_;rintro _ ⟨y,e3,rfl⟩ <;> refine⟨rfl,?_⟩)|(with_reducible apply And.intro)|exact aG|fail)
    (exact⟨[],[],⟨(1,l0++[y],l1,l2,l3,l4,l5,v0+1,v1,v2,v3,v4,v5),aI⟩,aX,aI⟩)
   ·repeat' (first|refine gA eI.eq_1 ?_|refine sp ?_ ?_ <;> intro h|(exfalso;omega)|(refine gW (Value5 p _ pl (by omega)) ?_;rintro _ ⟨y,e3,rfl⟩ <;> refine⟨rfl,?_⟩)|(with_reducible apply And.intro)|exact aG|fail)
    (exact⟨[],[],⟨(2,l0,l1++[y],l2,l3,l4,l5,v0,v1+1,v2,v3,v4,v5),aI⟩,aX,aI⟩)
   ·repeat' (first|refine gA eI.eq_1 ?_|refine sp ?_ ?_ <;> intro h|(exfalso;omega)|(refine gW (Value5 p _ pl (by omega)) ?_;rintro _ ⟨y,e3,rfl⟩ <;> refine⟨rfl,?_⟩)|(with_reducible apply And.intro)|exact aG|fail)
    (exact⟨[],[],⟨(3,l0,l1,l2++[y],l3,l4,l5,v0,v1,v2+1,v3,v4,v5),aI⟩,aX,aI⟩)
   ·repeat' (first|refine gA eI.eq_1 ?_|refine sp ?_ ?_ <;> intro h|(exfalso;omega)|(refine gW (Value5 p _ pl (by omega)) ?_;rintro _ ⟨y,e3,rfl⟩ <;> refine⟨rfl,?_⟩)|(with_reducible apply And.intro)|exact aG|fail)
    (exact⟨[],[],⟨(4,l0,l1,l2,l3++[y],l4,l5,v0,v1,v2,v3+1,v4,v5),aI⟩,aX,aI⟩)
   ·repeat' (first|refine gA eI.eq_1 ?_|refine sp ?_ ?_ <;> intro h|(exfalso;omega)|(refine gW (Value5 p _ pl (by omega)) ?_;rintro _ ⟨y,e3,rfl⟩ <;> refine⟨rfl,?_⟩)|(with_reducible apply And.intro)|exact aG|fail)
    (exact⟨[],[],⟨(5,l0,l1,l2,l3,l4++[y],l5,v0,v1,v2,v3,v4+1,v5),aI⟩,aX,aI⟩)
   ·repeat' (first|refine gA eI.eq_1 ?_|refine sp ?_ ?_ <;> intro h|(exfalso;omega)|(refine gW (Value5 p _ pl (by omega)) ?_;rintro _ ⟨y,e3,rfl⟩ <;> refine⟨rfl,?_⟩)|(with_reducible apply And.intro)|exact aG|fail)
    (exact⟨[],[],⟨(6,l0,l1,l2,l3,l4,l5++[y],v0,v1,v2,v3,v4,v5+1),aI⟩,aX,aI⟩)
   ·repeat' (first|refine gS ?_|refine sp ?_ ?_ <;> intro h|(with_reducible apply And.intro)|exact aG|fail)
    (exact⟨[],[],⟨(i+1,u2,b2,l0,l1,l2,l3,l4,l5,v0,v1,v2,v3,v4,v5),aI⟩,aX,aI⟩)
 ·repeat' (first|refine gS ?_|refine sp ?_ ?_ <;> intro h|(with_reducible apply And.intro)|exact aG|fail)
  refine .inr (seal_mk 10 45 (v:=0) (n:=6) (q:=1) (cs:=[.og 5000 v0,.og 5001 v1,.og 5002 v2,.og 5003 v3,.og 5004 v4,.og 5005 v5]) (ds:=[dInts l0,dInts l1,dInts l2,dInts l3,dInts l4,dInts l5]) ?_ ?_ rfl (by simp [maxLen]) ?_ ?_ ?_)
  ·exact aR
  ·exact aR
  ·exact aR
  ·exact aR
  ·refine dP ?_
   exact⟨[l0,l1,l2,l3,l4,l5],u,b,0,rfl,hI.2.1,by simp,by simp;omega,by simp⟩
end Go.Proofs.YticdbambknflgaaGreat.Sim
end
