/- Steps of any bytes: the reference. -/
import Derived.Test.YticdbambknflgaaGreatMScG
section
namespace Go.Proofs.YticdbambknflgaaGreat.Sc
open Go.Proofs.YticdbambknflgaaGreat.Sim
open Go Go.RowKit
set_option maxRecDepth 100000
set_option maxHeartbeats 8000000
set_option linter.unusedVariables false
set_option linter.unusedSimpArgs false
attribute [local irreducible] Go Mean
open Go.Proofs.YticdbambknflgaaGreat.Wire (putB putL putB_len getI getL getC rdL getI_put getL_put getI_ok getI_err rInt_any IntPost)
def sel4 (a b c d:Int):Nat→Int
 |0=>a
 |1=>b
 |2=>c
 |_=>d
def setsG (s:List UInt8):Nat→Int→Int→List PSe × Int × Int
 |0,a,e=>([],a,e)
 |k+1,a,e=>if e ≠ 0 then ([],a,e) else (⟨(rI s a e).1,(rL s (rI s a e).2.1 (rI s a e).2.2 64).1⟩ :: (setsG s k (rL s (rI s a e).2.1 (rI s a e).2.2 64).2.1 (rL s (rI s a e).2.1 (rI s a e).2.2 64).2.2).1,(setsG s k (rL s (rI s a e).2.1 (rI s a e).2.2 64).2.1 (rL s (rI s a e).2.1 (rI s a e).2.2 64).2.2).2)
def stepG (s:List UInt8) (a e:Int):PSt × Int × Int :=
 let k:=rI s a e
 let m:=rI s k.2.1 k.2.2
 let r:=rL s m.2.1 m.2.2 16
 let f:=rI s r.2.1 r.2.2
 let t:=rI s f.2.1 f.2.2
 let c:=rI s t.2.1 t.2.2
 let n:=rC s c.2.1 c.2.2 1024
 let z:=setsG s n.1.toNat n.2.1 n.2.2
 (⟨k.1,m.1,r.1,f.1,t.1,c.1,z.1⟩,z.2)
theorem rC_le (s:List UInt8) (a e:Int) (most:Nat):0≤(rC s a e most).1∧(rC s a e most).1≤most:=by
 unfold rC
 split
 ·simp
 ·rename_i h
  by_cases he:(rI s a e).2.2=0
  ·have:¬((rI s a e).1<0∨(most:Int)<(rI s a e).1):=fun hx=>h ⟨he,hx⟩
   omega
  ·unfold rI at he ⊢
   split
   ·simp
   ·split
    ·simp
    ·simp_all
theorem step (s:List UInt8) (a e:Int) (hs:s.length≤1000000000000):Does Tryz.prog 27 [rdp] (rdS s a e) (vSt (stepG s a e).1) (rdS s (stepG s a e).2.1 (stepG s a e).2.2) []:=by
 have e0:=readI s a e hs
 unfold stepG
 generalize rI s a e=k at *
 obtain⟨k1,k2,k3⟩:=k
 have e1:=readI s k2 k3 hs
 simp only at e0 ⊢
 generalize rI s k2 k3=m at *
 obtain⟨m1,m2,m3⟩:=m
 have e2:=readL s m2 m3 16 hs
 simp only at e1 ⊢
 generalize rL s m2 m3 16=r at *
 obtain⟨r1,r2,r3⟩:=r
 have e3:=readI s r2 r3 hs
 simp only at e2 ⊢
 generalize rI s r2 r3=f at *
 obtain⟨f1,f2,f3⟩:=f
 have e4:=readI s f2 f3 hs
 simp only at e3 ⊢
 generalize rI s f2 f3=t at *
 obtain⟨t1,t2,t3⟩:=t
 have e5:=readI s t2 t3 hs
 simp only at e4 ⊢
 generalize rI s t2 t3=c at *
 obtain⟨c1,c2,c3⟩:=c
 have e6:=readC s c2 c3 1024 hs
 have hn:=rC_le s c2 c3 1024
 rw[show ((1024:Nat):Int)=1024 from rfl] at hn
 generalize rC s c2 c3 1024=n at *
 obtain⟨n1,n2,n3⟩:=n
 simp only at e5 e6 hn ⊢
 refine wB Tryz.func27 BxOK.one fun cx hm0=>?_
 repeat' (first|refine gS ?_|refine sp ?_ ?_ <;> intro h|refine gL e0 ?_|refine gL e1 ?_|refine gL e2 ?_|(with_reducible apply And.intro)|exact aG|fail)
 refine go_loopz 5000 hm0 (ι:={i:Nat // i≤3}) (fun i=>[(0,rdp),(2,.bp 2 0 0),(3,.bp 3 0 0),(4,.bp 3 0 3),(27,.ag [.bp 3 0 3,.bp 3 0 4,.bp 3 0 5]),(28,I i.1)]) (fun i=>[(2,.box 0 [I 0,I 0,.nl 1,I 0,I 0,I 0,.nl 2]),(3,.box 0 [I k1,I m1,.d (dInts r1),I (sel4 0 f1 f1 f1 i.1),I (sel4 0 0 t1 t1 i.1),I (sel4 0 0 0 c1 i.1),.nl 2]),(900000,.box 0 [vS s,I (sel4 r2 f2 t2 c2 i.1),I (sel4 r3 f3 t3 c3 i.1)])]) (fun i=>3-i.1) [] [] ⟨0,Nat.zero_le _⟩ ?_ ?_
 ·simp only[GeZ];(simp only[GeS];refine⟨?_,?_,?_,?_⟩;all_goals (repeat' (first|(with_reducible exact True.intro)|(with_reducible rfl)|simp only[XC,↓reduceIte,seval]|(with_reducible apply And.intro)|(refine⟨_,rfl,?_⟩)|(simp [sel4];done)|exact aS|fail)))
 rintro⟨i,hi⟩
 have hcs:i=0∨i=1∨i=2∨i=3:=by omega
 rcases hcs with rfl|rfl|rfl|rfl
 ·repeat' (first|simp (maxSteps:=9999999) only[↓GE,PQ,seval,sel4]|refine gS ?_|refine sp ?_ ?_ <;> intro h|refine gL e3 ?_|(with_reducible apply And.intro)|exact aG|fail)
  refine⟨[],[],⟨1,by omega⟩,?_,by simp only;omega⟩
  simp only[GeZ];(simp only[GeS];refine⟨?_,?_,?_,?_⟩;all_goals (repeat' (first|(with_reducible exact True.intro)|(with_reducible rfl)|simp only[XC,↓reduceIte,seval]|(with_reducible apply And.intro)|(refine⟨_,rfl,?_⟩)|(simp [sel4];done)|exact aS|fail)))
 ·repeat' (first|simp (maxSteps:=9999999) only[↓GE,PQ,seval,sel4]|refine gS ?_|refine sp ?_ ?_ <;> intro h|refine gL e4 ?_|(with_reducible apply And.intro)|exact aG|fail)
  refine⟨[],[],⟨2,by omega⟩,?_,by simp only;omega⟩
  simp only[GeZ];(simp only[GeS];refine⟨?_,?_,?_,?_⟩;all_goals (repeat' (first|(with_reducible exact True.intro)|(with_reducible rfl)|simp only[XC,↓reduceIte,seval]|(with_reducible apply And.intro)|(refine⟨_,rfl,?_⟩)|(simp [sel4];done)|exact aS|fail)))
 ·repeat' (first|simp (maxSteps:=9999999) only[↓GE,PQ,seval,sel4]|refine gS ?_|refine sp ?_ ?_ <;> intro h|refine gL e5 ?_|(with_reducible apply And.intro)|exact aG|fail)
  refine⟨[],[],⟨3,by omega⟩,?_,by simp only;omega⟩
  simp only[GeZ];(simp only[GeS];refine⟨?_,?_,?_,?_⟩;all_goals (repeat' (first|(with_reducible exact True.intro)|(with_reducible rfl)|simp only[XC,↓reduceIte,seval]|(with_reducible apply And.intro)|(refine⟨_,rfl,?_⟩)|(simp [sel4];done)|exact aS|fail)))
 repeat' (first|simp (maxSteps:=9999999) only[↓GE,PQ,seval,sel4]|refine gS ?_|refine sp ?_ ?_ <;> intro h|refine gL e6 ?_|(with_reducible apply And.intro)|exact aG|fail)
 obtain⟨N,rfl⟩:∃ N:Nat,n1=N:=⟨n1.toNat,by omega⟩
 simp only[Int.toNat_natCast]
 generalize hZ:setsG s N n2 n3=Z
 obtain⟨Z1,Z2,Z3⟩:=Z
 simp only
 have hZ1:[]++(setsG s (N-0) n2 n3).1=Z1:=by rw[Nat.sub_zero,hZ];rfl
 have hZ2:(setsG s (N-0) n2 n3).2=(Z2,Z3):=by rw[Nat.sub_zero,hZ]
 refine gl (κ:=Nat × Nat × Int × Int × (List PSe)) hm0 (fun q_=>(q_.1≤N∧q_.2.2.2.2.length=q_.1)∧q_.2.2.2.2++(setsG s (N-q_.1) q_.2.2.1 q_.2.2.2.1).1=Z1∧(setsG s (N-q_.1) q_.2.2.1 q_.2.2.2.1).2=(Z2,Z3)) (fun q_=>[(0,rdp),(2,.bp 2 0 0),(3,.bp 3 0 0),(4,.bp 3 0 3),(7,I ((N-q_.1:Nat):Int))]) (fun q_=>[(2,.box 0 [I 0,I 0,.nl 1,I 0,I 0,I 0,.nl 2]),(3,.box 0 [I k1,I m1,.d (dInts r1),I f1,I t1,I c1,.og 61 q_.2.1]),(61,.arr q_.2.1 2 true (q_.2.2.2.2.map eSe)),(900000,.box 0 [vS s,I q_.2.2.1,I q_.2.2.2.1])]) (fun q_=>N-q_.1) [] [61] (0,0,n2,n3,[]) ?_ (h0:=(by simp only[GeZ];(simp only[GeS];refine⟨?_,?_,?_,?_⟩;all_goals (repeat' (first|(with_reducible exact True.intro)|(with_reducible rfl)|simp only[XC,↓reduceIte,seval]|(with_reducible apply And.intro)|(refine⟨_,rfl,?_⟩)|(simp [List.map_set,eI,sel4,hZ];done)|exact aS|fail)))))
 rintro⟨j,v,a,e,acc⟩ hI
 try simp only at hI ⊢
 try have hI2:=hI.2
 obtain⟨⟨hI1,hIl⟩,hI3,hI4⟩:=hI
 by_cases hj:j<N
 case neg =>
  obtain rfl:j=N:=by omega
  rw[Nat.sub_self,setsG] at hI3 hI4
  simp only[List.append_nil,Prod.mk.injEq] at hI3 hI4
  obtain⟨rfl,rfl⟩:=hI4
  subst hI3
  have q1:decide (((j-j:Nat):Int) > 0)=false:=decide_eq_false (by omega)
  repeat' (first|refine gA q1 ?_|refine sp ?_ ?_ <;> intro h|(with_reducible apply And.intro)|exact aG|fail)
  all_goals exact rt []
 have q1:decide (((N-j:Nat):Int) > 0)=true:=decide_eq_true (by omega)
 have w1:IntKind.i64.wrap (((N-j:Nat):Int)-1)=((N-(j+1):Nat):Int):=by rw[show ((N-j:Nat):Int)-1=((N-(j+1):Nat):Int) by omega];exact IntWalk.i64_in _ (by omega)
 rw[show N-j=(N-(j+1))+1 by omega,setsG] at hI3 hI4
 by_cases he:e=0
 case neg =>
  have q2:(e == 0)=false:=by simpa using he
  rw[if_pos he] at hI3 hI4
  simp only[List.append_nil,Prod.mk.injEq] at hI3 hI4
  obtain⟨rfl,rfl⟩:=hI4
  subst hI3
  repeat' (first|refine gB q1 q2 ?_|refine sp ?_ ?_ <;> intro h|(with_reducible apply And.intro)|exact aG|fail)
  all_goals exact rt []
 subst he
 rw[if_neg (by simp)] at hI3 hI4
 have g0:=readI s a 0 hs
 generalize rI s a 0=x at *
 obtain⟨x1,x2,x3⟩:=x
 simp only at g0 hI3 hI4
 have g1:=readL s x2 x3 64 hs
 generalize rL s x2 x3 64=y at *
 obtain⟨y1,y2,y3⟩:=y
 simp only at g1 hI3 hI4
 repeat' (first|refine gB q1 w1 ?_|refine sp ?_ ?_ <;> intro h|refine gL g0 ?_|refine gL g1 ?_|(with_reducible apply And.intro)|exact aG|fail)
 refine⟨[],[],⟨(j+1,v+1,y2,y3,acc++[⟨x1,y1⟩]),⟨by simp only;omega,by simp only[List.length_append,List.length_singleton];omega⟩,by simp only[List.append_assoc,List.singleton_append];exact hI3,hI4⟩,?_,aI⟩
 exact aY eSe.eq_1
def getG (s:List UInt8) (a:Int):PSt × Int × Int:=if (stepG s a 0).2.2 ≠ 0 then (noSt,0,(stepG s a 0).2.2) else ((stepG s a 0).1,(stepG s a 0).2.1,0)
theorem getD' (s:List UInt8) (a:Int) (hs:s.length≤1000000000000):Does Tryz.prog 10 [vS s,I a] [] (.tu [vSt (getG s a).1,I (getG s a).2.1,I (getG s a).2.2]) [] []:=by
 have e0:=(step s a 0 hs).nm1 12 0 (by omega) rfl rfl rfl rfl rfl
 unfold getG
 generalize stepG s a 0=z at *
 obtain⟨x,b,f⟩:=z
 simp only at e0 ⊢
 refine wD Tryz.func10 fun cx hm0=>?_
 by_cases hf:f=0
 ·subst hf
  rw[if_neg (by simp)]
  repeat' (first|refine gS ?_|refine sp ?_ ?_ <;> intro h|refine gL e0 ?_|(with_reducible apply And.intro)|exact aG|fail)
  all_goals exact rt []
 ·have q:(f != 0)=true:=by simpa using hf
  rw[if_pos hf]
  repeat' (first|refine gA q ?_|refine sp ?_ ?_ <;> intro h|refine gL e0 ?_|(with_reducible apply And.intro)|exact aG|fail)
  all_goals exact rtF [] noSt.eq_1
def stepsG (s:List UInt8):Nat→Int→Int→List PSt × Int × Int
 |0,a,e=>([],a,e)
 |k+1,a,e=>if e ≠ 0 then ([],a,e) else ((stepG s a e).1 :: (stepsG s k (stepG s a e).2.1 (stepG s a e).2.2).1,(stepsG s k (stepG s a e).2.1 (stepG s a e).2.2).2)
def decG (s:List UInt8):List PSt × Int :=
 let n:=rC s 0 0 512
 let y:=stepsG s n.1.toNat n.2.1 n.2.2
 if y.2.2 ≠ 0 then ([],y.2.2) else if y.2.1 ≠ s.length then ([],2) else (y.1,0)
theorem decodeD' (s:List UInt8) (hs:s.length≤1000000000000):Does Tryz.prog 13 [vS s] [] (.tu [.d (dSts (decG s).1),I (decG s).2]) [] []:=by
 have e0:=(readC s 0 0 512 hs).nm1 9 0 (by omega) rfl rfl rfl rfl rfl
 have hn:=rC_le s 0 0 512
 rw[show ((512:Nat):Int)=512 from rfl] at hn
 unfold decG
 simp only
 generalize rC s 0 0 512=n at *
 obtain⟨n1,n2,n3⟩:=n
 simp only at e0 hn ⊢
 obtain⟨N,rfl⟩:∃ N:Nat,n1=N:=⟨n1.toNat,by omega⟩
 simp only[Int.toNat_natCast]
 generalize hZ:stepsG s N n2 n3=Z
 obtain⟨Z1,Z2,Z3⟩:=Z
 simp only
 have hZ1:[]++(stepsG s (N-0) n2 n3).1=Z1:=by rw[Nat.sub_zero,hZ];rfl
 have hZ2:(stepsG s (N-0) n2 n3).2=(Z2,Z3):=by rw[Nat.sub_zero,hZ]
 refine wD Tryz.func13 fun cx hm0=>?_
 repeat' (first|refine gS ?_|refine sp ?_ ?_ <;> intro h|refine gL e0 ?_|(with_reducible apply And.intro)|exact aG|fail)
 refine gl (κ:=Nat × Nat × Int × Int × (List PSt)) hm0 (fun q_=>(q_.1≤N∧q_.2.2.2.2.length=q_.1)∧q_.2.2.2.2++(stepsG s (N-q_.1) q_.2.2.1 q_.2.2.2.1).1=Z1∧(stepsG s (N-q_.1) q_.2.2.1 q_.2.2.2.1).2=(Z2,Z3)) (fun q_=>[(0,vS s),(4,.bp 9 0 0),(5,.og 27 q_.2.1),(6,I ((N-q_.1:Nat):Int))]) (fun q_=>[(9,.box 0 [vS s,I q_.2.2.1,I q_.2.2.2.1]),(27,.arr q_.2.1 7 true (q_.2.2.2.2.map eSt))]) (fun q_=>N-q_.1) [] [27] (0,0,n2,n3,[]) ?_
 rintro⟨j,v,a,e,acc⟩ hI
 try simp only at hI ⊢
 try have hI2:=hI.2
 obtain⟨⟨hI1,hIl⟩,hI3,hI4⟩:=hI
 by_cases hj:j<N
 case neg =>
  obtain rfl:j=N:=by omega
  rw[Nat.sub_self,stepsG] at hI3 hI4
  simp only[List.append_nil,Prod.mk.injEq] at hI3 hI4
  obtain⟨rfl,rfl⟩:=hI4
  subst hI3
  have q1:decide (((j-j:Nat):Int) > 0)=false:=decide_eq_false (by omega)
  by_cases he:e=0
  ·subst he
   rw[if_neg (by simp)]
   by_cases ha:a=s.length
   ·have q3:(a != ((({ data:=s.toArray }:ByteArray).size:Nat):Int))=false:=by simpa [ByteArray.size] using ha
    rw[if_neg (by simpa using ha)]
    repeat' (first|refine gB q1 q3 ?_|refine sp ?_ ?_ <;> intro h|(with_reducible apply And.intro)|exact aG|fail)
    all_goals exact rt []
   ·have q3:(a != ((({ data:=s.toArray }:ByteArray).size:Nat):Int))=true:=by simpa [ByteArray.size] using ha
    rw[if_pos ha]
    repeat' (first|refine gB q1 q3 ?_|refine sp ?_ ?_ <;> intro h|(with_reducible apply And.intro)|exact aG|fail)
    all_goals exact rt []
  ·have q2:(e == 0)=false:=by simpa using he
   have q3:(e != 0)=true:=by simpa using he
   rw[if_pos he]
   repeat' (first|refine gC q1 q2 q3 ?_|refine sp ?_ ?_ <;> intro h|(with_reducible apply And.intro)|exact aG|fail)
   all_goals exact rt []
 have q1:decide (((N-j:Nat):Int) > 0)=true:=decide_eq_true (by omega)
 have w1:IntKind.i64.wrap (((N-j:Nat):Int)-1)=((N-(j+1):Nat):Int):=by rw[show ((N-j:Nat):Int)-1=((N-(j+1):Nat):Int) by omega];exact IntWalk.i64_in _ (by omega)
 rw[show N-j=(N-(j+1))+1 by omega,stepsG] at hI3 hI4
 by_cases he:e=0
 case neg =>
  have q2:(e == 0)=false:=by simpa using he
  have q3:(e != 0)=true:=by simpa using he
  rw[if_pos he] at hI3 hI4
  simp only[List.append_nil,Prod.mk.injEq] at hI3 hI4
  obtain⟨rfl,rfl⟩:=hI4
  subst hI3
  rw[if_pos he]
  repeat' (first|refine gC q1 q2 q3 ?_|refine sp ?_ ?_ <;> intro h|(with_reducible apply And.intro)|exact aG|fail)
  all_goals exact rt []
 subst he
 rw[if_neg (by simp)] at hI3 hI4
 have g0:=(step s a 0 hs).nm1 9 0 (by omega) rfl rfl rfl rfl rfl
 generalize stepG s a 0=x at *
 obtain⟨x1,x2,x3⟩:=x
 simp only at g0 hI3 hI4
 repeat' (first|refine gB q1 w1 ?_|refine sp ?_ ?_ <;> intro h|refine gL g0 ?_|(with_reducible apply And.intro)|exact aG|fail)
 refine⟨[],[],⟨(j+1,v+1,x2,x3,acc++[x1]),⟨by simp only;omega,by simp only[List.length_append,List.length_singleton];omega⟩,by simp only[List.append_assoc,List.singleton_append];exact hI3,hI4⟩,?_,aI⟩
 exact aY eSt.eq_1
end Go.Proofs.YticdbambknflgaaGreat.Sc
end
section
namespace Go.Proofs.YticdbambknflgaaGreat.Sc
open Go.Proofs.YticdbambknflgaaGreat.Sim
open Go Go.RowKit
set_option maxRecDepth 100000
set_option maxHeartbeats 8000000
set_option linter.unusedVariables false
set_option linter.unusedSimpArgs false
attribute [local irreducible] Go Mean
open Go.Proofs.YticdbambknflgaaGreat.Wire (putB putL putB_len getI getL getC rdL getI_put getL_put getI_ok getI_err rInt_any IntPost)
theorem rI_err {s:List UInt8} {a e:Int} (h:e ≠ 0):rI s a e=(0,a,e):=by unfold rI;rw[if_pos h]
theorem rL_err {s:List UInt8} {a e m:Int} (h:e ≠ 0):rL s a e m=([],a,e):=by unfold rL;rw[if_pos h]
theorem rC_err {s:List UInt8} {a e m:Int} (h:e ≠ 0):rC s a e m=(0,a,e):=by unfold rC;rw[rI_err h,if_neg (fun hh=>h hh.1)]
theorem setsG_err {s:List UInt8} {a e:Int} (h:e ≠ 0):∀ {n:Nat},setsG s n a e=([],a,e)
 |0=>rfl
 |n+1=>by rw[setsG,if_pos h]
theorem rI_at {s:List UInt8} {a x b f:Int} (h:getI s a=(x,b,f)):rI s a 0=if f ≠ 0 then (0,a,f) else (x,b,0):=by unfold rI;rw[if_neg (by simp),h]
theorem rL_at {s:List UInt8} {a m:Int} {x:List Int} {b f:Int} (h:getL s a m=(x,b,f)):rL s a 0 m=if f ≠ 0 then ([],a,f) else (x,b,0):=by unfold rL;rw[if_neg (by simp),h]
def sel7 (a b c d e f g:Int):Nat→Int
 |0=>a
 |1=>b
 |2=>c
 |3=>d
 |4=>e
 |5=>f
 |_=>g
def selL (l:List Int):Nat→List Int
 |0=>[]
 |1=>[]
 |2=>[]
 |_=>l
theorem rGetD (s:List UInt8) (a:Int) (hs:s.length≤1000000000000):Does Tryz.prog 19 [vS s,I a] [] (.tu [vSt (getG s a).1,I (getG s a).2.1,I (getG s a).2.2]) [] []:=by
 rcases h0:getI s a with ⟨x0,b0,f0⟩
 rcases h1:getI s b0 with ⟨x1,b1,f1⟩
 rcases hL:getL s b1 16 with ⟨l,bL,fL⟩
 rcases h2:getI s bL with ⟨x2,b2,f2⟩
 rcases h3:getI s b2 with ⟨x3,b3,f3⟩
 rcases h4:getI s b3 with ⟨x4,b4,f4⟩
 rcases h5:getI s b4 with ⟨x5,b5,f5⟩
 have e0:=rIntD s a hs
 have e1:=rIntD s b0 hs
 have eL:=rListD s b1 16 hs (by omega)
 have e2:=rIntD s bL hs
 have e3:=rIntD s b2 hs
 have e4:=rIntD s b3 hs
 have e5:=rIntD s b4 hs
 rw[h0] at e0
 rw[h1] at e1
 rw[hL] at eL
 rw[h2] at e2
 rw[h3] at e3
 rw[h4] at e4
 rw[h5] at e5
 simp only at e0 e1 eL e2 e3 e4 e5
 have r0:=rI_at h0
 have r1:=rI_at h1
 have rl:=rL_at hL
 have r2:=rI_at h2
 have r3:=rI_at h3
 have r4:=rI_at h4
 have r5:=rI_at h5
 have hl:=getL_len s b1 16
 rw[show ((16:Nat):Int)=16 from rfl,hL] at hl
 clear h0 h1 hL h2 h3 h4 h5
 refine wD Tryz.func19 fun cx hm0=>?_
 repeat' (first|refine gS ?_|refine sp ?_ ?_ <;> intro h|(with_reducible apply And.intro)|exact aG|fail)
 refine go_loopz 5000 hm0 (ι:={i:Nat // i≤6∧(0<i→f0=0)∧(1<i→f1=0)∧(2<i→fL=0∧f2=0)∧(3<i→f3=0)∧(4<i→f4=0)∧(5<i→f5=0)}) (fun i=>[(0,vS s),(1,I (sel7 a b0 b1 b2 b3 b4 b5 i.1)),(4,.bp 4 0 0),(7,.bp 7 0 0),(8,.d (dInts (selL l i.1))),(9,I i.1)]) (fun i=>[(4,.box 0 [I 0,I 0,.nl 1,I 0,I 0,I 0,.nl 2]),(7,.box 0 [I (sel7 0 x0 x0 x0 x0 x0 x0 i.1),I (sel7 0 0 x1 x1 x1 x1 x1 i.1),I (sel7 0 0 0 x2 x2 x2 x2 i.1),I (sel7 0 0 0 0 x3 x3 x3 i.1),I (sel7 0 0 0 0 0 x4 x4 i.1),I (sel7 0 0 0 0 0 0 x5 i.1)])]) (fun i=>6-i.1) [] [] ⟨0,by omega,by simp⟩ ?_ ?_
 ·simp only[GeZ];(simp only[GeS];refine⟨?_,?_,?_,?_⟩;all_goals (repeat' (first|(with_reducible exact True.intro)|(with_reducible rfl)|simp only[XC,↓reduceIte,seval]|(with_reducible apply And.intro)|(refine⟨_,rfl,?_⟩)|(simp [sel7,selL];done)|exact aS|fail)))
 rintro⟨i,hi,c0,c1,c2,c3,c4,c5⟩
 have hcs:i=0∨i=1∨i=2∨i=3∨i=4∨i=5∨i=6:=by omega
 rcases hcs with rfl|rfl|rfl|rfl|rfl|rfl|rfl
 ·by_cases hf:f0=0
  ·subst hf
   repeat' (first|simp (maxSteps:=9999999) only[↓GE,PQ,seval,sel7,selL]|refine gS ?_|refine sp ?_ ?_ <;> intro h|refine gP e0 ?_|(with_reducible apply And.intro)|exact aG|fail)
   refine⟨[],[],⟨1,by omega,by simp⟩,?_,by simp only;omega⟩
   simp only[GeZ];(simp only[GeS];refine⟨?_,?_,?_,?_⟩;all_goals (repeat' (first|(with_reducible exact True.intro)|(with_reducible rfl)|simp only[XC,↓reduceIte,seval]|(with_reducible apply And.intro)|(refine⟨_,rfl,?_⟩)|(simp [sel7,selL];done)|exact aS|fail)))
  ·have q:(f0 != 0)=true:=by simpa using hf
   have hg:getG s a=(noSt,0,f0):=by
    rw[if_pos hf] at r0
    simp only[getG,stepG,r0,rI_err hf,rL_err hf,rC_err hf,setsG_err hf]
    rw[if_pos hf]
   rw[hg]
   repeat' (first|simp (maxSteps:=9999999) only[↓GE,PQ,seval,q,sel7,selL]|refine gS ?_|refine sp ?_ ?_ <;> intro h|refine gP e0 ?_|(with_reducible apply And.intro)|exact aG|fail)
   all_goals exact rtF [] noSt.eq_1
 ·obtain rfl:f0=0:=c0 (by omega)
  rw[if_neg (by simp)] at r0
  by_cases hf:f1=0
  ·subst hf
   repeat' (first|simp (maxSteps:=9999999) only[↓GE,PQ,seval,sel7,selL]|refine gS ?_|refine sp ?_ ?_ <;> intro h|refine gP e1 ?_|(with_reducible apply And.intro)|exact aG|fail)
   refine⟨[],[],⟨2,by omega,by simp⟩,?_,by simp only;omega⟩
   simp only[GeZ];(simp only[GeS];refine⟨?_,?_,?_,?_⟩;all_goals (repeat' (first|(with_reducible exact True.intro)|(with_reducible rfl)|simp only[XC,↓reduceIte,seval]|(with_reducible apply And.intro)|(refine⟨_,rfl,?_⟩)|(simp [sel7,selL];done)|exact aS|fail)))
  ·skip
   have q:(f1 != 0)=true:=by simpa using hf
   have hg:getG s a=(noSt,0,f1):=by
    rw[if_pos hf] at r1
    simp only[getG,stepG,r0,r1,rI_err hf,rL_err hf,rC_err hf,setsG_err hf]
    rw[if_pos hf]
   rw[hg]
   repeat' (first|simp (maxSteps:=9999999) only[↓GE,PQ,seval,q,sel7,selL]|refine gS ?_|refine sp ?_ ?_ <;> intro h|refine gP e1 ?_|(with_reducible apply And.intro)|exact aG|fail)
   all_goals exact rtF [] noSt.eq_1
 ·obtain rfl:f0=0:=c0 (by omega)
  rw[if_neg (by simp)] at r0
  obtain rfl:f1=0:=c1 (by omega)
  rw[if_neg (by simp)] at r1
  by_cases hf:fL=0
  case neg =>
   have q:(fL != 0)=true:=by simpa using hf
   have hg:getG s a=(noSt,0,fL):=by
    rw[if_pos hf] at rl
    simp only[getG,stepG,r0,r1,rl,rI_err hf,rL_err hf,rC_err hf,setsG_err hf]
    rw[if_pos hf]
   rw[hg]
   repeat' (first|simp (maxSteps:=9999999) only[↓GE,PQ,seval,q,sel7,selL]|refine gS ?_|refine sp ?_ ?_ <;> intro h|refine gP eL ?_|(with_reducible apply And.intro)|exact aG|fail)
   all_goals exact rtF [] noSt.eq_1
  obtain rfl:=hf
  rw[if_neg (by simp)] at rl
  by_cases hf:f2=0
  ·subst hf
   repeat' (first|simp (maxSteps:=9999999) only[↓GE,PQ,seval,sel7,selL]|refine gS ?_|refine sp ?_ ?_ <;> intro h|refine gP eL ?_|refine gP e2 ?_|(with_reducible apply And.intro)|exact aG|fail)
   refine⟨[],[],⟨3,by omega,by simp⟩,?_,by simp only;omega⟩
   simp only[GeZ];(simp only[GeS];refine⟨?_,?_,?_,?_⟩;all_goals (repeat' (first|(with_reducible exact True.intro)|(with_reducible rfl)|simp only[XC,↓reduceIte,seval]|(with_reducible apply And.intro)|(refine⟨_,rfl,?_⟩)|(simp [sel7,selL];done)|exact aS|fail)))
  ·skip
   have q:(f2 != 0)=true:=by simpa using hf
   have hg:getG s a=(noSt,0,f2):=by
    rw[if_pos hf] at r2
    simp only[getG,stepG,r0,r1,rl,r2,rI_err hf,rL_err hf,rC_err hf,setsG_err hf]
    rw[if_pos hf]
   rw[hg]
   repeat' (first|simp (maxSteps:=9999999) only[↓GE,PQ,seval,q,sel7,selL]|refine gS ?_|refine sp ?_ ?_ <;> intro h|refine gP eL ?_|refine gP e2 ?_|(with_reducible apply And.intro)|exact aG|fail)
   all_goals exact rtF [] noSt.eq_1
 ·obtain rfl:f0=0:=c0 (by omega)
  rw[if_neg (by simp)] at r0
  obtain rfl:f1=0:=c1 (by omega)
  rw[if_neg (by simp)] at r1
  obtain rfl:fL=0:=(c2 (by omega)).1
  rw[if_neg (by simp)] at rl
  obtain rfl:f2=0:=(c2 (by omega)).2
  rw[if_neg (by simp)] at r2
  by_cases hf:f3=0
  ·subst hf
   repeat' (first|simp (maxSteps:=9999999) only[↓GE,PQ,seval,sel7,selL]|refine gS ?_|refine sp ?_ ?_ <;> intro h|refine gP e3 ?_|(with_reducible apply And.intro)|exact aG|fail)
   refine⟨[],[],⟨4,by omega,by simp⟩,?_,by simp only;omega⟩
   simp only[GeZ];(simp only[GeS];refine⟨?_,?_,?_,?_⟩;all_goals (repeat' (first|(with_reducible exact True.intro)|(with_reducible rfl)|simp only[XC,↓reduceIte,seval]|(with_reducible apply And.intro)|(refine⟨_,rfl,?_⟩)|(simp [sel7,selL];done)|exact aS|fail)))
  ·skip
   have q:(f3 != 0)=true:=by simpa using hf
   have hg:getG s a=(noSt,0,f3):=by
    rw[if_pos hf] at r3
    simp only[getG,stepG,r0,r1,rl,r2,r3,rI_err hf,rL_err hf,rC_err hf,setsG_err hf]
    rw[if_pos hf]
   rw[hg]
   repeat' (first|simp (maxSteps:=9999999) only[↓GE,PQ,seval,q,sel7,selL]|refine gS ?_|refine sp ?_ ?_ <;> intro h|refine gP e3 ?_|(with_reducible apply And.intro)|exact aG|fail)
   all_goals exact rtF [] noSt.eq_1
 ·obtain rfl:f0=0:=c0 (by omega)
  rw[if_neg (by simp)] at r0
  obtain rfl:f1=0:=c1 (by omega)
  rw[if_neg (by simp)] at r1
  obtain rfl:fL=0:=(c2 (by omega)).1
  rw[if_neg (by simp)] at rl
  obtain rfl:f2=0:=(c2 (by omega)).2
  rw[if_neg (by simp)] at r2
  obtain rfl:f3=0:=c3 (by omega)
  rw[if_neg (by simp)] at r3
  by_cases hf:f4=0
  ·subst hf
   repeat' (first|simp (maxSteps:=9999999) only[↓GE,PQ,seval,sel7,selL]|refine gS ?_|refine sp ?_ ?_ <;> intro h|refine gP e4 ?_|(with_reducible apply And.intro)|exact aG|fail)
   refine⟨[],[],⟨5,by omega,by simp⟩,?_,by simp only;omega⟩
   simp only[GeZ];(simp only[GeS];refine⟨?_,?_,?_,?_⟩;all_goals (repeat' (first|(with_reducible exact True.intro)|(with_reducible rfl)|simp only[XC,↓reduceIte,seval]|(with_reducible apply And.intro)|(refine⟨_,rfl,?_⟩)|(simp [sel7,selL];done)|exact aS|fail)))
  ·skip
   have q:(f4 != 0)=true:=by simpa using hf
   have hg:getG s a=(noSt,0,f4):=by
    rw[if_pos hf] at r4
    simp only[getG,stepG,r0,r1,rl,r2,r3,r4,rI_err hf,rL_err hf,rC_err hf,setsG_err hf]
    rw[if_pos hf]
   rw[hg]
   repeat' (first|simp (maxSteps:=9999999) only[↓GE,PQ,seval,q,sel7,selL]|refine gS ?_|refine sp ?_ ?_ <;> intro h|refine gP e4 ?_|(with_reducible apply And.intro)|exact aG|fail)
   all_goals exact rtF [] noSt.eq_1
 ·obtain rfl:f0=0:=c0 (by omega)
  rw[if_neg (by simp)] at r0
  obtain rfl:f1=0:=c1 (by omega)
  rw[if_neg (by simp)] at r1
  obtain rfl:fL=0:=(c2 (by omega)).1
  rw[if_neg (by simp)] at rl
  obtain rfl:f2=0:=(c2 (by omega)).2
  rw[if_neg (by simp)] at r2
  obtain rfl:f3=0:=c3 (by omega)
  rw[if_neg (by simp)] at r3
  obtain rfl:f4=0:=c4 (by omega)
  rw[if_neg (by simp)] at r4
  by_cases hf:f5=0
  ·subst hf
   repeat' (first|simp (maxSteps:=9999999) only[↓GE,PQ,seval,sel7,selL]|refine gS ?_|refine sp ?_ ?_ <;> intro h|refine gP e5 ?_|(with_reducible apply And.intro)|exact aG|fail)
   refine⟨[],[],⟨6,by omega,by simp⟩,?_,by simp only;omega⟩
   simp only[GeZ];(simp only[GeS];refine⟨?_,?_,?_,?_⟩;all_goals (repeat' (first|(with_reducible exact True.intro)|(with_reducible rfl)|simp only[XC,↓reduceIte,seval]|(with_reducible apply And.intro)|(refine⟨_,rfl,?_⟩)|(simp [sel7,selL];done)|exact aS|fail)))
  ·skip
   have q:(f5 != 0)=true:=by simpa using hf
   have hg:getG s a=(noSt,0,f5):=by
    rw[if_pos hf] at r5
    have hc:rC s b4 0 1024=(0,b4,f5):=by unfold rC;rw[r5,if_neg (fun h=>hf h.1)]
    simp only[getG,stepG,r0,r1,rl,r2,r3,r4,r5,hc,rI_err hf,rL_err hf,rC_err hf,setsG_err hf]
    rw[if_pos hf]
   rw[hg]
   repeat' (first|simp (maxSteps:=9999999) only[↓GE,PQ,seval,q,sel7,selL]|refine gS ?_|refine sp ?_ ?_ <;> intro h|refine gP e5 ?_|(with_reducible apply And.intro)|exact aG|fail)
   all_goals exact rtF [] noSt.eq_1
 obtain rfl:f0=0:=c0 (by omega)
 rw[if_neg (by simp)] at r0
 obtain rfl:f1=0:=c1 (by omega)
 rw[if_neg (by simp)] at r1
 obtain rfl:fL=0:=(c2 (by omega)).1
 rw[if_neg (by simp)] at rl
 obtain rfl:f2=0:=(c2 (by omega)).2
 rw[if_neg (by simp)] at r2
 obtain rfl:f3=0:=c3 (by omega)
 rw[if_neg (by simp)] at r3
 obtain rfl:f4=0:=c4 (by omega)
 rw[if_neg (by simp)] at r4
 obtain rfl:f5=0:=c5 (by omega)
 rw[if_neg (by simp)] at r5
 clear e0 e1 eL e2 e3 e4 e5
 by_cases hx:x5<0∨1024<x5
 ·have hc:rC s b4 0 1024=(0,b5,4):=by
   unfold rC
   rw[r5,if_pos ⟨rfl,hx⟩]
  have hg:getG s a=(noSt,0,4):=by
   simp only[getG,stepG,r0,r1,rl,r2,r3,r4,hc,Int.toNat_zero,setsG]
   rw[if_pos (by simp)]
  rw[hg]
  repeat' (first|simp (maxSteps:=9999999) only[↓GE,PQ,seval,sel7,selL]|refine gS ?_|refine sp ?_ ?_ <;> intro h|(with_reducible apply And.intro)|exact aG|fail)
  all_goals try (exfalso;omega)
  all_goals exact rtF [] noSt.eq_1
 have hc:rC s b4 0 1024=(x5,b5,0):=by
  unfold rC
  rw[r5,if_neg (fun h=>hx h.2)]
 obtain⟨N,rfl⟩:∃ N:Nat,x5=N:=⟨x5.toNat,by omega⟩
 have hg:getG s a=if (setsG s N b5 0).2.2 ≠ 0 then (noSt,0,(setsG s N b5 0).2.2) else (⟨x0,x1,l,x2,x3,x4,(setsG s N b5 0).1⟩,(setsG s N b5 0).2.1,0):=by
  simp only[getG,stepG,r0,r1,rl,r2,r3,r4,hc,Int.toNat_natCast]
 rw[hg]
 generalize hZ:setsG s N b5 0=Z
 obtain⟨Z1,Z2,Z3⟩:=Z
 simp only
 have hZ1:[]++(setsG s (N-0) b5 0).1=Z1:=by rw[Nat.sub_zero,hZ];rfl
 have hZ2:(setsG s (N-0) b5 0).2=(Z2,Z3):=by rw[Nat.sub_zero,hZ]
 clear hg hZ r0 r1 rl r2 r3 r4 r5 hc
 repeat' (first|simp (maxSteps:=9999999) only[↓GE,PQ,seval,sel7,selL]|refine gS ?_|refine sp ?_ ?_ <;> intro h|(with_reducible apply And.intro)|exact aG|fail)
 all_goals try (exfalso;omega)
 refine gl (κ:=Nat × Nat × Int × (List PSe)) hm0 (fun q_=>(q_.1≤N∧q_.2.2.2.length=q_.1)∧q_.2.2.2++(setsG s (N-q_.1) q_.2.2.1 0).1=Z1∧(setsG s (N-q_.1) q_.2.2.1 0).2=(Z2,Z3)) (fun q_=>[(0,vS s),(1,I q_.2.2.1),(4,.bp 4 0 0),(7,.bp 7 0 0),(16,.bp 16 0 0),(17,I q_.1)]) (fun q_=>[(4,.box 0 [I 0,I 0,.nl 1,I 0,I 0,I 0,.nl 2]),(7,.box 0 [I x0,I x1,I x2,I x3,I x4,I N]),(16,.box 0 [I x0,I x1,.d (dInts l),I x2,I x3,I x4,.og 114 q_.2.1]),(114,.arr q_.2.1 2 true (q_.2.2.2.map eSe))]) (fun q_=>N-q_.1) [] [114] (0,0,b5,[]) ?_ (h0:=(by simp only[GeZ];(simp only[GeS];refine⟨?_,?_,?_,?_⟩;all_goals (repeat' (first|(with_reducible exact True.intro)|(with_reducible rfl)|simp only[XC,↓reduceIte,seval]|(with_reducible apply And.intro)|(refine⟨_,rfl,?_⟩)|(simp [List.map_set,eI,sel7,selL];done)|exact aS|fail)))))
 rintro⟨j,v,b,acc⟩ hI
 try simp only at hI ⊢
 try have hI2:=hI.2
 obtain⟨⟨hI1,hIl⟩,hI3,hI4⟩:=hI
 by_cases hj:j<N
 case neg =>
  obtain rfl:j=N:=by omega
  rw[Nat.sub_self,setsG] at hI3 hI4
  simp only[List.append_nil,Prod.mk.injEq] at hI3 hI4
  obtain⟨rfl,rfl⟩:=hI4
  subst hI3
  rw[if_neg (by simp)]
  repeat' (first|refine gS ?_|refine sp ?_ ?_ <;> intro h|(with_reducible apply And.intro)|exact aG|fail)
  all_goals try (exfalso;omega)
  all_goals exact rt []
 have e0:=rIntD s b hs
 rw[show N-j=(N-(j+1))+1 by omega,setsG,if_neg (by simp)] at hI3 hI4
 rcases h0:getI s b with ⟨y0,d0,f0⟩
 rw[h0] at e0
 simp only at e0
 have r0:=rI_at h0
 by_cases hf:f0=0
 case neg =>
  have q:(f0 != 0)=true:=by simpa using hf
  rw[if_pos hf] at r0
  simp only[r0,rL_err hf,setsG_err hf,Prod.mk.injEq] at hI4
  obtain⟨rfl,rfl⟩:=hI4
  rw[if_pos hf]
  repeat' (first|refine gA q ?_|refine sp ?_ ?_ <;> intro h|refine gP e0 ?_|(with_reducible apply And.intro)|exact aG|fail)
  all_goals try (exfalso;omega)
  all_goals exact rtF [] noSt.eq_1
 subst hf
 rw[if_neg (by simp)] at r0
 have e1:=rListD s d0 64 hs (by omega)
 rcases h1:getL s d0 64 with ⟨y1,d1,f1⟩
 rw[h1] at e1
 simp only at e1
 have r1:=rL_at h1
 simp only[r0] at hI3 hI4
 by_cases hf:f1=0
 case neg =>
  have q:(f1 != 0)=true:=by simpa using hf
  rw[if_pos hf] at r1
  simp only[r1,setsG_err hf,Prod.mk.injEq] at hI4
  obtain⟨rfl,rfl⟩:=hI4
  rw[if_pos hf]
  repeat' (first|refine gA q ?_|refine sp ?_ ?_ <;> intro h|refine gP e0 ?_|refine gP e1 ?_|(with_reducible apply And.intro)|exact aG|fail)
  all_goals try (exfalso;omega)
  all_goals exact rtF [] noSt.eq_1
 subst hf
 rw[if_neg (by simp)] at r1
 simp only[r1] at hI3 hI4
 repeat' (first|refine gS ?_|refine sp ?_ ?_ <;> intro h|refine gP e0 ?_|refine gP e1 ?_|(with_reducible apply And.intro)|exact aG|fail)
 all_goals try (exfalso;omega)
 refine⟨[],[],⟨(j+1,v+1,d1,acc++[⟨y0,y1⟩]),⟨by simp only;omega,by simp only[List.length_append,List.length_singleton];omega⟩,by simp only[List.append_assoc,List.singleton_append];exact hI3,hI4⟩,?_,aI⟩
 exact aY eSe.eq_1
end Go.Proofs.YticdbambknflgaaGreat.Sc
end
