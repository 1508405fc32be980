/- The matrix of the equations: its memory. -/
import Derived.Test.YticdbambknflgaaGreatMWoE
import Derived.Test.YticdbambknflgaaGreatMSimSv
section
namespace Go.Proofs.YticdbambknflgaaGreat.Sim
open Go
set_option maxRecDepth 100000
set_option maxHeartbeats 4000000
set_option linter.unusedVariables false
set_option linter.unusedSimpArgs false
attribute [local irreducible] Go Mean
theorem Divide5 (p:Int) (a b:List Int) (ha:a.length≤1000) (hb:b.length≤1000):DoesP Tryz.prog 184 [.ag [I p],.d (dInts a),.d (dInts b)] (fun r=>∃ q s e,r=.tu [.d (dInts q),.d (dInts s),I e]∧q.length≤1001∧s.length≤1000):=by
 refine⟨⟨_,[],[],1,rfl,by simp,by simp⟩,wE Tryz.func184 fun cx hm0=>?_⟩
 repeat' (first|refine gA eR.eq_1 ?_|refine sp ?_ ?_ <;> intro h|(exfalso;omega)|(refine gW (lists5 p [a,b] (by simp) (by simp;omega)) ?_;rintro _ ⟨e,rfl,he⟩ <;> refine⟨rfl,?_⟩)|(with_reducible apply And.intro)|exact aG|fail)
 all_goals try (refine dP ?_;exact⟨[],[],_,rfl,by simp,by simp⟩)
 have hf:=he (by simp_all)
 have hp:=(fieldB_iff.1 hf).1
 (apply go_call 5000 (trim5 a (by omega)) rfl rfl;iterate 4 (first|(exact CallForm.news rfl rfl)|exact aC))
 repeat' (first|refine gS ?_|refine sp ?_ ?_ <;> intro h|(with_reducible apply And.intro)|exact aG|fail)
 (apply go_call 5000 (trim5 b (by omega)) rfl rfl;iterate 4 (first|(exact CallForm.news rfl rfl)|exact aC))
 have hA:=trimG_len a
 have hB:=trimG_len b
 generalize trimG a=A at *
 generalize trimG b=Bq at *
 by_cases hL:Bq.length=0
 ·have r1:((Bq.length:Int) == 0)=true:=by rw[beq_iff_eq];omega
  repeat' (first|refine gA r1 ?_|refine sp ?_ ?_ <;> intro h|(with_reducible apply And.intro)|exact aG|fail)
  all_goals (refine dP ?_;exact⟨[],[],_,rfl,by simp,by simp⟩)
 obtain⟨L,hL⟩:∃ L,Bq.length=L+1:=⟨Bq.length-1,by omega⟩
 have r1:(((L+1:Nat):Int) == 0)=false:=by rw[beq_eq_false_iff_ne];omega
 have w1:IntKind.i64.wrap (((L+1:Nat):Int)-1)=(L:Int):=by rw[IntWalk.i64_in _ (by omega)];omega
 have hs:=getD_map eI [] 0 Bq L (by omega)
 have hz:∀ k:Nat,List.replicate k [D.at (Value.int IntKind.i64 0)]=(List.replicate k (0:Int)).map eI:=fun k=>by simp [eI]
 have hlt:L<L+1:=by omega
 repeat' (first|simp (maxSteps:=9999999) only[↓GE,PQ,seval,r1,w1,hs,hL,hlt,hz,eI,List.length_replicate]|refine gS ?_|refine sp ?_ ?_ <;> intro h|(exfalso;omega)|(refine gW (inv3 p (Bq.getD L 0) (by omega)) ?_;rintro _ ⟨v,rfl⟩ <;> refine⟨rfl,?_⟩)|(with_reducible apply And.intro)|exact aG|fail)
 obtain⟨n,hn⟩:∃ n:Nat,(max 0 ((A.length:Int)-((L+1:Nat):Int)+1)).toNat=n:=⟨_,rfl⟩
 rw[hn]
 refine gl (κ:=Nat × (List Int) × (List Int)) hm0 (fun q_=>q_.1≤n∧q_.2.1.length=n∧q_.2.2.length=A.length) (fun q_=>[(2,.og 30000 0),(3,.bp 3 0 0),(10,.og 28000 0),(11,I v),(12,.og 47 0),(13,I ((q_.1:Int)-1))]) (fun q_=>[(3,.box 0 [I p]),(47,.arr 0 1 true (q_.2.1.map eI)),(28000,.arr 0 1 true (q_.2.2.map eI)),(30000,.arr 0 1 true (Bq.map eI))]) (fun q_=>q_.1) [] [] (n,List.replicate n 0,A) ?_
 rintro⟨j,qs,rs⟩ hI
 try simp only at hI ⊢
 try have hI2:=hI.2
 cases j with
 |zero =>
  repeat' (first|refine gS ?_|refine sp ?_ ?_ <;> intro h|(with_reducible apply And.intro)|exact aG|fail)
  (apply go_call 5000 (trim5 qs (by omega)) rfl rfl;iterate 4 (first|(exact CallForm.news rfl rfl)|exact aC))
  repeat' (first|refine gS ?_|refine sp ?_ ?_ <;> intro h|(with_reducible apply And.intro)|exact aG|fail)
  (apply go_call 5000 (trim5 rs (by omega)) rfl rfl;iterate 4 (first|(exact CallForm.news rfl rfl)|exact aC))
  repeat' (first|refine gS ?_|refine sp ?_ ?_ <;> intro h|(with_reducible apply And.intro)|exact aG|fail)
  have h1:=trimG_len qs
  have h2:=trimG_len rs
  all_goals (refine dP ?_;exact⟨_,_,_,rfl,by omega,by omega⟩)
 |succ i =>
  have hj:((i+1:Nat):Int)-1=(i:Int):=by omega
  have hi0:IntKind.i64.wrap ((i:Int)+((L+1:Nat):Int))=(i:Int)+((L+1:Nat):Int):=IntWalk.i64_in _ (by omega)
  have hi1:IntKind.i64.wrap ((i:Int)+((L+1:Nat):Int)-1)=((i+L:Nat):Int):=by rw[IntWalk.i64_in _ (by omega)];omega
  have hr:=getD_map eI [] 0 rs (i+L) (by omega)
  have hil:i+L<rs.length:=by omega
  have hq:=getD_map eI [] 0 qs i (by omega)
  have hiq:i<qs.length:=by omega
  generalize rs.getD (i+L) 0=x at *
  repeat' (first|simp (maxSteps:=9999999) only[↓GE,PQ,seval,hj,hi0,hi1,hr,hil,hq,hiq,hL,eI]|refine gS ?_|refine sp ?_ ?_ <;> intro h|(with_reducible apply And.intro)|exact aG|fail)
  generalize (IntKind.i64.wrap (x*v)).tmod p=y at *
  refine gl (κ:=Nat × (List Int)) hm0 (fun q_=>q_.1≤L+1∧q_.2.length=A.length) (fun q_=>[(2,.og 30000 0),(3,.bp 3 0 0),(10,.og 28000 0),(11,I v),(12,.og 47 0),(13,I i),(14,I y),(72,.og 30000 0),(73,I (L+1:Nat)),(74,I q_.1)]) (fun q_=>[(3,.box 0 [I p]),(47,.arr 0 1 true ((qs.set i y).map eI)),(28000,.arr 0 1 true (q_.2.map eI)),(30000,.arr 0 1 true (Bq.map eI))]) (fun q_=>L+1-q_.1) [] [] (0,rs) ?_
  rintro⟨k,rs⟩ hI
  try simp only at hI ⊢
  try have hI2:=hI.2
  by_cases hk:k<L+1
  ·have hs2:=getD_map eI [] 0 Bq k (by omega)
   have hk0:IntKind.i64.wrap ((i:Int)+(k:Int))=((i+k:Nat):Int):=by rw[IntWalk.i64_in _ (by omega)];omega
   have hr2:=getD_map eI [] 0 rs (i+k) (by omega)
   have hkl:i+k<rs.length:=by omega
   generalize Bq.getD k 0=u at *
   generalize rs.getD (i+k) 0=w at *
   repeat' (first|simp (maxSteps:=9999999) only[↓GE,PQ,seval,hk0,hs2,hr2,hkl,hk,hL,eI]|refine gS ?_|refine sp ?_ ?_ <;> intro h|(with_reducible apply And.intro)|exact aG|fail)
   (exact⟨[],[],⟨(k+1,rs.set (i+k) ((IntKind.i64.wrap (w+IntKind.i64.wrap (IntKind.i64.wrap (p-y)*u))).tmod p)),aI⟩,aX,aI⟩)
  ·repeat' (first|refine gS ?_|refine sp ?_ ?_ <;> intro h|(with_reducible apply And.intro)|exact aG|fail)
   (exact⟨[],[],⟨(i,qs.set i y,rs),aI⟩,aX,aI⟩)
theorem Interpolate5 (p:Int) (l:List (Int × Int)) (hl:l.length≤1000):DoesP Tryz.prog 187 [.ag [I p],.d (dTwos l)] (fun r=>∃ q e,r=.tu [.d (dInts q),I e]∧q.length≤1000):=by
 refine⟨⟨_,[],1,rfl,by simp⟩,wE Tryz.func187 fun cx hm0=>?_⟩
 repeat' (first|refine gS ?_|refine sp ?_ ?_ <;> intro h|(with_reducible apply And.intro)|exact aG|fail)
 refine gl (κ:=Nat × (List Int) × (List Int) × Nat) hm0 (fun q_=>q_.1≤l.length∧q_.2.1.length=q_.1∧q_.2.2.1.length=q_.1) (fun q_=>[(2,.bp 2 0 0),(6,.og 35 q_.2.2.2),(7,.og 40 q_.2.2.2),(25,.d (dTwos l)),(26,I l.length),(27,I q_.1)]) (fun q_=>[(2,.box 0 [I p]),(35,.arr q_.2.2.2 1 true (q_.2.1.map eI)),(40,.arr q_.2.2.2 1 true (q_.2.2.1.map eI))]) (fun q_=>l.length-q_.1) [] [35,40] (0,[],[],0) ?_
 rintro⟨k,xs,ys,v⟩ hI
 try simp only at hI ⊢
 try have hI2:=hI.2
 by_cases hk:k<l.length
 ·have hs:=getD_map eTwo [] (0,0) l k hk
  generalize l.getD k (0,0)=x at *
  repeat' (first|refine gB hs eTwo.eq_1 ?_|refine sp ?_ ?_ <;> intro h|(with_reducible apply And.intro)|exact aG|fail)
  (exact⟨[],[],⟨(k+1,xs++[x.1],ys++[x.2],v+1),aI⟩,aX,aI⟩)
 obtain rfl:k=l.length:=by omega
 obtain⟨-,hx,hy⟩:=hI
 repeat' (first|refine gA eR.eq_1 ?_|refine sp ?_ ?_ <;> intro h|(exfalso;omega)|(refine gW (lists5 p [xs,ys] (by simp) (by simp;omega)) ?_;rintro _ ⟨e,rfl,he⟩ <;> refine⟨rfl,?_⟩)|(with_reducible apply And.intro)|exact aG|fail)
 all_goals try (refine dP ?_;exact⟨[],_,rfl,by simp⟩)
 have hf:=he (by simp_all)
 have hp:=(fieldB_iff.1 hf).1
 clear he
 refine gl (κ:=Nat) hm0 (fun q_=>q_≤l.length) (fun q_=>[(2,.bp 2 0 0),(6,.d (dInts xs)),(7,.d (dInts ys)),(51,I l.length),(52,I q_)]) (fun q_=>[(2,.box 0 [I p])]) (fun q_=>l.length-q_) [.og 35 v,.og 40 v] [] (0) ?_ (h0:=(aY hx))
 rintro i hI
 try simp only at hI ⊢
 try have hI2:=hI.2
 by_cases hi:i<l.length
 ·have hm:(xs.map eI).take i=(xs.take i).map eI:=List.map_take.symm
  have hti:(xs.take i).length=i:=by rw[List.length_take];omega
  repeat' (first|refine gC hm hti hx ?_|refine sp ?_ ?_ <;> intro h|(with_reducible apply And.intro)|exact aG|fail)
  refine gl (κ:=Nat) hm0 (fun q_=>q_≤i) (fun q_=>[(2,.bp 2 0 0),(6,.d (dInts xs)),(7,.d (dInts ys)),(11,I i),(51,I l.length),(52,I i),(58,I i),(59,I q_)]) (fun q_=>[(2,.box 0 [I p])]) (fun q_=>i-q_) [] [] (0) ?_
  rintro j hI
  try simp only at hI ⊢
  try have hI2:=hI.2
  by_cases hj:j<i
  ·have hs1:=getD_map eI [] 0 xs i (by omega)
   have hs2:=getD_map eI [] 0 xs j (by omega)
   generalize xs.getD i 0=x1 at *
   generalize xs.getD j 0=x2 at *
   repeat' (first|refine gQ hs1 hs2 hx eI.eq_1 ?_|refine sp ?_ ?_ <;> intro h|(with_reducible apply And.intro)|exact aG|fail)
   all_goals first|(exact⟨[],[],⟨(j+1),aI⟩,aX,aI⟩)|(refine dP ?_;exact⟨[],_,rfl,by simp⟩)
  ·repeat' (first|refine gS ?_|refine sp ?_ ?_ <;> intro h|(with_reducible apply And.intro)|exact aG|fail)
   (exact⟨[],[],⟨(i+1),aI⟩,aX,aI⟩)
 repeat' (first|refine gA hx ?_|refine sp ?_ ?_ <;> intro h|(with_reducible apply And.intro)|exact aG|fail)
 refine gl (κ:=Nat × (List Int) × (List Int)) hm0 (fun q_=>q_.1≤l.length∧q_.2.2.length=q_.1+1∧q_.2.1.length≤q_.1) (fun q_=>[(2,.bp 2 0 0),(7,.d (dInts ys)),(13,.d (dInts q_.2.1)),(14,.d (dInts q_.2.2)),(74,.d (dInts xs)),(75,I l.length),(76,I q_.1)]) (fun q_=>[(2,.box 0 [I p])]) (fun q_=>l.length-q_.1) [.og 73 0] [] (0,[],[1]) ?_ (h0:=(aY hx))
 rintro⟨k,pl,w⟩ hI
 try simp only at hI ⊢
 try have hI2:=hI.2
 by_cases hk:k<l.length
 ·have hs1:=getD_map eI [] 0 xs k (by omega)
  have hs2:=getD_map eI [] 0 ys k (by omega)
  generalize xs.getD k 0=x at *
  generalize ys.getD k 0=y at *
  repeat' (first|refine gC hs1 hs2 eI.eq_1 ?_|refine sp ?_ ?_ <;> intro h|(exfalso;omega)|refine gP (value5 p x pl (by omega) (by omega)) ?_|refine gP (value5 p x w (by omega) (by omega)) ?_|(refine gW (inv3 p (valN p x w w.length) (by omega)) ?_;rintro _ ⟨iv,rfl⟩ <;> refine⟨rfl,?_⟩)|(with_reducible apply And.intro)|exact aG|fail)
  generalize hnx:pl.take w.length++(List.replicate w.length (0:Int)).drop pl.length=nx at *
  have hnl:nx.length=w.length:=by rw[← hnx];simp;omega
  generalize (IntKind.i64.wrap ((IntKind.i64.wrap (IntKind.i64.wrap (y+p)-valN p x pl pl.length)).tmod p*iv)).tmod p=c at *
  refine gl (κ:=Nat × (List Int)) hm0 (fun q_=>q_.1≤w.length∧q_.2.length=w.length) (fun q_=>[(2,.bp 2 0 0),(7,.d (dInts ys)),(14,.d (dInts w)),(16,I x),(19,I c),(20,.og 110 0),(74,.d (dInts xs)),(75,I l.length),(76,I k),(115,I w.length),(116,I q_.1)]) (fun q_=>[(2,.box 0 [I p]),(110,.arr 0 1 true (q_.2.map eI))]) (fun q_=>w.length-q_.1) [] [] (0,nx) ?_ (h0:=(by simp only[GeZ];(simp only[GeS];refine⟨?_,?_,?_,?_⟩;all_goals (repeat' (first|(with_reducible exact True.intro)|(with_reducible rfl)|simp only[XC,↓reduceIte,seval]|(with_reducible apply And.intro)|(refine⟨_,rfl,?_⟩)|(simp [List.map_set,eI,← hnx];done)|exact aS|fail)))))
  rintro⟨j,nx⟩ hI
  try simp only at hI ⊢
  try have hI2:=hI.2
  by_cases hj:j<w.length
  ·have hs3:=getD_map eI [] 0 w j (by omega)
   have hs4:=getD_map eI [] 0 nx j (by omega)
   have hjn:j<nx.length:=by omega
   generalize w.getD j 0=u at *
   generalize nx.getD j 0=z at *
   repeat' (first|refine gQ hs3 hs4 hjn eI.eq_1 ?_|refine sp ?_ ?_ <;> intro h|(with_reducible apply And.intro)|exact aG|fail)
   (exact⟨[],[],⟨(j+1,nx.set j ((IntKind.i64.wrap (z+IntKind.i64.wrap (c*u))).tmod p)),aI⟩,aX,aI⟩)
  have hz:∀ k:Nat,List.replicate k [D.at (Value.int IntKind.i64 0)]=(List.replicate k (0:Int)).map eI:=fun k=>by simp [eI]
  have hw1:IntKind.i64.wrap ((w.length:Int)+1)=((w.length+1:Nat):Int):=by rw[IntWalk.i64_in _ (by omega)];omega
  repeat' (first|refine gB hz hw1 ?_|refine sp ?_ ?_ <;> intro h|(with_reducible apply And.intro)|exact aG|fail)
  generalize hwd:List.replicate (w.length+1) (0:Int)=wd at *
  have hwl:wd.length=w.length+1:=by rw[← hwd];simp
  have hwd2:[D.at (Value.int IntKind.i64 0)] :: (List.replicate w.length (0:Int)).map eI=wd.map eI:=by rw[← hwd];simp [eI,List.replicate_succ]
  refine gl (κ:=Nat × (List Int)) hm0 (fun q_=>q_.1≤w.length∧q_.2.length=w.length+1) (fun q_=>[(2,.bp 2 0 0),(7,.d (dInts ys)),(13,.d (dInts nx)),(16,I x),(22,.og 141 0),(74,.d (dInts xs)),(75,I l.length),(76,I k),(142,.d (dInts w)),(143,I w.length),(144,I q_.1)]) (fun q_=>[(2,.box 0 [I p]),(141,.arr 0 1 true (q_.2.map eI))]) (fun q_=>w.length-q_.1) [.og 110 0] [] (0,wd) ?_ (h0:=(aY hwd2))
  rintro⟨j,wd⟩ hI
  try simp only at hI ⊢
  try have hI2:=hI.2
  by_cases hj:j<w.length
  ·have hs3:=getD_map eI [] 0 w j (by omega)
   have hj1:IntKind.i64.wrap ((j:Int)+1)=((j+1:Nat):Int):=by rw[IntWalk.i64_in _ (by omega)];omega
   have hs4:=getD_map eI [] 0 wd (j+1) (by omega)
   have hjn:j+1<wd.length:=by omega
   generalize w.getD j 0=u at *
   generalize wd.getD (j+1) 0=z at *
   generalize hy:(IntKind.i64.wrap (z+u)).tmod p=y2
   have hs5:((wd.set (j+1) y2).map eI).getD j []=eI ((wd.set (j+1) y2).getD j 0):=getD_map eI [] 0 _ j (by simp;omega)
   have hjn2:j<(wd.set (j+1) y2).length:=by simp;omega
   have hset:(wd.map eI).set (j+1) [D.at (Value.int IntKind.i64 y2)]=(wd.set (j+1) y2).map eI:=by simp [eI,List.map_set]
   repeat' (first|simp (maxSteps:=9999999) only[↓GE,PQ,seval,hs3,hs4,hjn,hj1,hy,hset,hs5,hjn2,eI]|refine gS ?_|refine sp ?_ ?_ <;> intro h|(with_reducible apply And.intro)|exact aG|fail)
   (exact⟨[],[],⟨(j+1,(wd.set (j+1) y2).set j ((IntKind.i64.wrap ((wd.set (j+1) y2).getD j 0+IntKind.i64.wrap (IntKind.i64.wrap (p-x)*u))).tmod p)),aI⟩,aX,aI⟩)
  repeat' (first|refine gS ?_|refine sp ?_ ?_ <;> intro h|(with_reducible apply And.intro)|exact aG|fail)
  (exact⟨[.og 141 0],[],⟨(k+1,nx,wd),aI⟩,aX,aI⟩)
 ·repeat' (first|refine gS ?_|refine sp ?_ ?_ <;> intro h|(with_reducible apply And.intro)|exact aG|fail)
  (apply go_call 5000 (trim5 pl (by omega)) rfl rfl;iterate 4 (first|(exact CallForm.news rfl rfl)|exact aC))
  have h1:=trimG_len pl
  repeat' (first|refine gS ?_|refine sp ?_ ?_ <;> intro h|(with_reducible apply And.intro)|exact aG|fail)
  all_goals (refine dP ?_;exact⟨_,_,rfl,by omega⟩)
end Go.Proofs.YticdbambknflgaaGreat.Sim
end
section
namespace Go.Proofs.YticdbambknflgaaGreat.Sim
open Go
set_option maxRecDepth 100000
set_option maxHeartbeats 4000000
set_option linter.unusedVariables false
set_option linter.unusedSimpArgs false
attribute [local irreducible] Go Mean
def eCell (c:Int × Bool):List D:=[.at (.int .i64 c.1),.at (.bool c.2)]
abbrev dCells (l:List (Int × Bool)):D:=.sl 2 (l.map eCell)
theorem cells8 (p:Int) (l:List (Int × Bool)) (hl:l.length≤1000):DoesP Tryz.prog 192 [.ag [I p],.d (dCells l)] (fun r=>∃ e,r=I e∧(e=0→fieldB p=true∧l.length≤32)):=by
 refine⟨⟨_,1,rfl,by simp⟩,wE Tryz.func192 fun cx hm0=>?_⟩
 cases hf:fieldB p with
 |false =>
  repeat' (first|refine gA hf ?_|refine sp ?_ ?_ <;> intro h|refine gP (r3check p) ?_|(with_reducible apply And.intro)|exact aG|fail)
  all_goals (refine dP ?_;exact⟨_,rfl,aQ⟩)
 |true =>
  repeat' (first|refine gA hf ?_|refine sp ?_ ?_ <;> intro h|refine gP (r3check p) ?_|(with_reducible apply And.intro)|exact aG|fail)
  all_goals try (refine dP ?_;exact⟨_,rfl,aQ⟩)
  refine gl (κ:=Nat) hm0 (fun q_=>q_≤l.length) (fun q_=>[(2,.bp 2 0 0),(23,.d (dCells l)),(24,I l.length),(25,I q_)]) (fun q_=>[(2,.box 0 [I p])]) (fun q_=>l.length-q_) [] [] (0) ?_
  rintro k hI
  try simp only at hI ⊢
  try have hI2:=hI.2
  by_cases hk:k<l.length
  ·have hs:=getD_map eCell [] (0,false) l k hk
   generalize l.getD k (0,false)=x at *
   obtain⟨x,b⟩:=x
   cases b with
   |false =>
    repeat' (first|refine gC hs eCell.eq_1 eI.eq_1 ?_|refine sp ?_ ?_ <;> intro h|(with_reducible apply And.intro)|exact aG|fail)
    (exact⟨[],[],⟨(k+1),aI⟩,aX,aI⟩)
   |true =>
    repeat' (first|refine gQ hf hs eCell.eq_1 eI.eq_1 ?_|refine sp ?_ ?_ <;> intro h|refine gP (r3in p [x] (by simp)) ?_|(with_reducible apply And.intro)|exact aG|fail)
    all_goals first|(exact⟨[],[],⟨(k+1),aI⟩,aX,aI⟩)|(refine dP ?_;exact⟨_,rfl,aQ⟩)
  ·repeat' (first|refine gS ?_|refine sp ?_ ?_ <;> intro h|(with_reducible apply And.intro)|exact aG|fail)
   all_goals (refine dP ?_;exact⟨_,rfl,aQ⟩)
theorem known8 (l:List (Int × Bool)) (hl:l.length≤1000):DoesP Tryz.prog 181 [.d (dCells l)] (fun r=>∃ kn,r=.d (dTwos kn)∧kn.length≤l.length∧∀ x ∈ kn,1≤x.1∧x.1≤l.length):=by
 refine⟨⟨_,[],rfl,by simp⟩,wE Tryz.func181 fun cx hm0=>?_⟩
 repeat' (first|refine gS ?_|refine sp ?_ ?_ <;> intro h|(with_reducible apply And.intro)|exact aG|fail)
 refine gl (κ:=Nat × (List (Int × Int)) × Nat) hm0 (fun q_=>(q_.1≤l.length∧q_.2.1.length≤q_.1)∧∀ x ∈ q_.2.1,1≤x.1∧x.1≤l.length) (fun q_=>[(3,.og 22 q_.2.2),(6,.d (dCells l)),(7,I l.length),(8,I q_.1)]) (fun q_=>[(22,.arr q_.2.2 2 true (q_.2.1.map eTwo))]) (fun q_=>l.length-q_.1) [] [22] (0,[],0) ?_
 rintro⟨k,kn,v⟩ hI
 try simp only at hI ⊢
 try have hI2:=hI.2
 by_cases hk:k<l.length
 ·have hs:=getD_map eCell [] (0,false) l k hk
  generalize l.getD k (0,false)=x at *
  obtain⟨x,b⟩:=x
  cases b with
  |false =>
   repeat' (first|refine gC hs eCell.eq_1 eI.eq_1 ?_|refine sp ?_ ?_ <;> intro h|(with_reducible apply And.intro)|exact aG|fail)
   (exact⟨[],[],⟨(k+1,kn,v),aI⟩,aX,aI⟩)
  |true =>
   repeat' (first|refine gC hs eCell.eq_1 eI.eq_1 ?_|refine sp ?_ ?_ <;> intro h|(with_reducible apply And.intro)|exact aG|fail)
   refine⟨[],[],⟨(k+1,kn++[((k:Int)+1,x)],v+1),⟨aI,fun y hy=>?_⟩⟩,?_,aI⟩
   ·rcases List.mem_append.1 hy with hy|hy
    ·exact hI.2 y hy
    ·simp only[List.mem_singleton] at hy;subst hy;simp only;omega
   ·exact aY eTwo.eq_1
 ·repeat' (first|refine gS ?_|refine sp ?_ ?_ <;> intro h|(with_reducible apply And.intro)|exact aG|fail)
  refine dP ?_
  exact⟨kn,rfl,by omega,hI.2⟩
theorem begin8 (p:Int) (l:List (Int × Bool)) (k:Int) (hl:l.length≤1000):DoesP Tryz.prog 186 [.ag [I p],.d (dCells l),I k] (fun r=>∃ e,r=I e∧(e=0→fieldB p=true∧l.length≤32∧1≤k∧k≤l.length)):=by
 refine⟨⟨_,1,rfl,by simp⟩,wE Tryz.func186 fun cx hm0=>?_⟩
 repeat' (first|refine gS ?_|refine sp ?_ ?_ <;> intro h|(exfalso;omega)|(refine gW (cells8 p l hl) ?_;rintro _ ⟨e,rfl,he⟩ <;> refine⟨rfl,?_⟩)|(with_reducible apply And.intro)|exact aG|fail)
 all_goals (refine dP ?_;exact⟨_,rfl,aQ⟩)
theorem fill8 (p:Int) (l:List (Int × Bool)) (k:Int) (hl:l.length≤1000):DoesP Tryz.prog 179 [.ag [I p],.d (dCells l),I k] (fun r=>∃ q e,r=.tu [.d (dInts q),I e]∧(e=0→fieldB p=true∧l.length≤32∧1≤k∧k≤l.length)):=by
 refine⟨⟨_,[],1,rfl,by simp⟩,wE Tryz.func179 fun cx hm0=>?_⟩
 have hm:∀ kn:List (Int × Int),(kn.map eTwo).take k.toNat=(kn.take k.toNat).map eTwo:=fun kn=>List.map_take.symm
 repeat' (first|refine gA hm ?_|refine sp ?_ ?_ <;> intro h|(exfalso;omega)|(refine gW (begin8 p l k hl) ?_;rintro _ ⟨e,rfl,he⟩ <;> refine⟨rfl,?_⟩)|(refine gW (known8 l hl) ?_;rintro _ ⟨kn,rfl,hk1,hk2⟩ <;> refine⟨rfl,?_⟩)|(with_reducible apply And.intro)|exact aG|fail)
 all_goals try (refine dP ?_;exact⟨[],_,rfl,aQ⟩)
 have he:=he (by simp_all)
 repeat' (first|refine gA hm ?_|refine sp ?_ ?_ <;> intro h|(exfalso;omega)|(refine gW (Interpolate5 p (kn.take k.toNat) (by rw[List.length_take];omega)) ?_;rintro _ ⟨q,e2,rfl,hq⟩ <;> refine⟨rfl,?_⟩)|(with_reducible apply And.intro)|exact aG|fail)
 all_goals (refine dP ?_;exact⟨_,_,rfl,aQ⟩)
theorem radius9 (kn k:Int):DoesP Tryz.prog 180 [I kn,I k] (fun r=>∃ v e,r=.tu [I v,I e]∧0≤v∧v≤16):=by
 refine⟨⟨_,0,1,rfl,by simp⟩,wE Tryz.func180 fun cx hm0=>?_⟩
 repeat' (first|refine gS ?_|refine sp ?_ ?_ <;> intro h|(with_reducible apply And.intro)|exact aG|fail)
 all_goals try (refine dP ?_;exact⟨0,_,rfl,by simp⟩)
 have hv:0≤(kn-k).tdiv 2∧(kn-k).tdiv 2≤16:=by rw[Int.tdiv_eq_ediv_of_nonneg (by omega)];omega
 have w1:IntKind.i64.wrap (kn-k)=kn-k:=IntWalk.i64_in _ (by omega)
 have w2:IntKind.i64.wrap ((kn-k).tdiv 2)=(kn-k).tdiv 2:=IntWalk.i64_in _ (by omega)
 refine dP ?_
 exact⟨_,_,rfl,by simpa only[w1,w2] using hv.1,by simpa only[w1,w2] using hv.2⟩
theorem wrong9 (p:Int) (l:List (Int × Bool)) (q:List Int) (hl:l.length≤1000) (hq:q.length≤1000000):DoesP Tryz.prog 185 [.ag [I p],.d (dCells l),.d (dInts q)] (fun r=>∃ w,r=.d (dInts w)∧w.length≤l.length∧∀ x ∈ w,1≤x∧x≤l.length):=by
 refine⟨⟨_,[],rfl,by simp⟩,wE Tryz.func185 fun cx hm0=>?_⟩
 repeat' (first|refine gS ?_|refine sp ?_ ?_ <;> intro h|(exfalso;omega)|(refine gW (known8 l hl) ?_;rintro _ ⟨kn,rfl,hk1,hk2⟩ <;> refine⟨rfl,?_⟩)|(with_reducible apply And.intro)|exact aG|fail)
 refine gl (κ:=Nat × (List Int) × Nat) hm0 (fun q_=>(q_.1≤kn.length∧q_.2.1.length≤q_.1)∧∀ x ∈ q_.2.1,1≤x∧x≤l.length) (fun q_=>[(2,.d (dInts q)),(3,.bp 3 0 0),(7,.og 35 q_.2.2),(13,.d (dTwos kn)),(14,I kn.length),(15,I q_.1)]) (fun q_=>[(3,.box 0 [I p]),(35,.arr q_.2.2 1 true (q_.2.1.map eI))]) (fun q_=>kn.length-q_.1) [] [35] (0,[],0) ?_
 rintro⟨k,w,v⟩ hI
 try simp only at hI ⊢
 try have hI2:=hI.2
 by_cases hk:k<kn.length
 ·have hs:=getD_map eTwo [] (0,0) kn k hk
  have hx:=hk2 _ (mem_getD (0,0) kn k hk)
  generalize kn.getD k (0,0)=x at *
  repeat' (first|refine gC hs eTwo.eq_1 eI.eq_1 ?_|refine sp ?_ ?_ <;> intro h|(exfalso;omega)|(refine gW (Value5 p x.1 q hq) ?_;rintro _ ⟨y,e,rfl⟩ <;> refine⟨rfl,?_⟩)|(with_reducible apply And.intro)|exact aG|fail)
  ·refine⟨[],[],⟨(k+1,w++[x.1],v+1),⟨aI,fun z hz=>?_⟩⟩,?_,aI⟩
   ·rcases List.mem_append.1 hz with hz|hz
    ·exact hI.2 z hz
    ·simp only[List.mem_singleton] at hz;subst hz;exact hx
   ·exact aX
  ·(exact⟨[],[],⟨(k+1,w,v),aI⟩,aX,aI⟩)
 ·repeat' (first|refine gS ?_|refine sp ?_ ?_ <;> intro h|(with_reducible apply And.intro)|exact aG|fail)
  refine dP ?_
  exact⟨w,rfl,by omega,hI.2⟩
theorem key9 (p:Int) (l:List (Int × Bool)) (k w:Int) (hl:l.length≤1000):DoesP Tryz.prog 182 [.ag [I p],.d (dCells l),I k,I w] (fun r=>∃ p' rows cols cells right e,r=.tu [.ag [I p',I rows,I cols,.d (dInts cells),.d (dInts right)],I e]∧cells.length≤70000∧right.length≤1000∧(p'=0∨cols=k+2*w)):=by
 refine⟨⟨_,0,0,0,[],[],1,rfl,by simp⟩,wE Tryz.func182 fun cx hm0=>?_⟩
 repeat' (first|refine gS ?_|refine sp ?_ ?_ <;> intro h|(exfalso;omega)|(refine gW (begin8 p l k hl) ?_;rintro _ ⟨e,rfl,he⟩ <;> refine⟨rfl,?_⟩)|(refine gW (known8 l hl) ?_;rintro _ ⟨kn,rfl,hk1,hk2⟩ <;> refine⟨rfl,?_⟩)|(with_reducible apply And.intro)|exact aG|fail)
 all_goals try (refine dP ?_;exact⟨0,0,0,[],[],_,rfl,by simp,by simp,.inl rfl⟩)
 have he:=he (by simp_all)
 have hp:=(fieldB_iff.1 he.1).1
 have hp2:=(fieldB_iff.1 he.1).2.1
 have hw0:IntKind.i64.wrap (k+2*w)=k+2*w:=IntWalk.i64_in _ (by omega)
 have hkw:k+2*w≤32:=by omega
 rw[hw0]
 refine gl (κ:=Nat × (List Int) × (List Int) × Nat × Nat) hm0 (fun q_=>q_.1≤kn.length∧q_.2.1.length≤64*q_.1∧q_.2.2.1.length=q_.1) (fun q_=>[(2,I k),(3,I w),(4,.bp 4 0 0),(8,.bp 8 0 0),(11,.bp 11 0 0),(45,.d (dTwos kn)),(46,I kn.length),(47,I q_.1)]) (fun q_=>[(4,.box 0 [I p]),(8,.box 0 [I 0,I 0,I 0,.nl 1,.nl 1]),(11,.box 0 [I p,I q_.1,I (k+2*w),.og 70 q_.2.2.2.2,.og 110 q_.2.2.2.1]),(70,.arr q_.2.2.2.2 1 true (q_.2.1.map eI)),(110,.arr q_.2.2.2.1 1 true (q_.2.2.1.map eI))]) (fun q_=>kn.length-q_.1) [] [70,110] (0,[],[],0,0) ?_
 rintro⟨j,cs,rs,v,u⟩ hI
 try simp only at hI ⊢
 try have hI2:=hI.2
 by_cases hj:j<kn.length
 ·have hs:=getD_map eTwo [] (0,0) kn j hj
  have hx:=hk2 _ (mem_getD (0,0) kn j hj)
  generalize kn.getD j (0,0)=x at *
  repeat' (first|refine gC hs eTwo.eq_1 eI.eq_1 ?_|refine sp ?_ ?_ <;> intro h|(with_reducible apply And.intro)|exact aG|fail)
  refine gl (κ:=Nat × (List Int) × Nat) hm0 (fun q_=>(q_.1:Int)≤k+w∧q_.2.1.length≤64*j+q_.1) (fun q_=>[(2,I k),(3,I w),(4,.bp 4 0 0),(8,.bp 8 0 0),(11,.bp 11 0 0),(13,.bp 13 0 0),(14,I q_.1),(45,.d (dTwos kn)),(46,I kn.length),(47,I j)]) (fun q_=>[(4,.box 0 [I p]),(8,.box 0 [I 0,I 0,I 0,.nl 1,.nl 1]),(11,.box 0 [I p,I ((j:Int)+1),I (k+2*w),.og 70 q_.2.2,.og 110 v]),(13,.box 0 [I x.1,I x.2]),(70,.arr q_.2.2 1 true (q_.2.1.map eI)),(110,.arr v 1 true (rs.map eI))]) (fun q_=>(k+w-q_.1).toNat) [] [] (0,cs,u) ?_
  rintro⟨i,cs,u⟩ hI
  try simp only at hI ⊢
  try have hI2:=hI.2
  by_cases hi:(i:Int)<k+w
  ·repeat' (first|refine gA eI.eq_1 ?_|refine sp ?_ ?_ <;> intro h|(exfalso;omega)|(refine gW (pow3 p x.1 i (by omega)) ?_;rintro _ ⟨y,rfl,hy⟩ <;> refine⟨rfl,?_⟩)|(with_reducible apply And.intro)|exact aG|fail)
   (exact⟨[],[],⟨(i+1,cs++[y],u+1),aI⟩,aX,aI⟩)
  repeat' (first|refine gA eI.eq_1 ?_|refine sp ?_ ?_ <;> intro h|(with_reducible apply And.intro)|exact aG|fail)
  refine gl (κ:=Nat × (List Int) × Nat) hm0 (fun q_=>(q_.1:Int)≤w∧q_.2.1.length≤64*j+32+q_.1) (fun q_=>[(2,I k),(3,I w),(4,.bp 4 0 0),(8,.bp 8 0 0),(11,.bp 11 0 0),(13,.bp 13 0 0),(15,I q_.1),(45,.d (dTwos kn)),(46,I kn.length),(47,I j)]) (fun q_=>[(4,.box 0 [I p]),(8,.box 0 [I 0,I 0,I 0,.nl 1,.nl 1]),(11,.box 0 [I p,I ((j:Int)+1),I (k+2*w),.og 70 q_.2.2,.og 110 v]),(13,.box 0 [I x.1,I x.2]),(70,.arr q_.2.2 1 true (q_.2.1.map eI)),(110,.arr v 1 true (rs.map eI))]) (fun q_=>(w-q_.1).toNat) [] [] (0,cs,u) ?_
  rintro⟨i,cs,u⟩ hI
  try simp only at hI ⊢
  try have hI2:=hI.2
  by_cases hi:(i:Int)<w
  ·repeat' (first|refine gA eI.eq_1 ?_|refine sp ?_ ?_ <;> intro h|(exfalso;omega)|(refine gW (pow3 p x.1 i (by omega)) ?_;rintro _ ⟨y,rfl,hy⟩ <;> refine⟨rfl,?_⟩)|(with_reducible apply And.intro)|exact aG|fail)
   (exact⟨[],[],⟨(i+1,cs++[(IntKind.i64.wrap (IntKind.i64.wrap (p-x.2)*y)).tmod p],u+1),aI⟩,aX,aI⟩)
  repeat' (first|refine gA eI.eq_1 ?_|refine sp ?_ ?_ <;> intro h|(exfalso;omega)|(refine gW (pow3 p x.1 w (by omega)) ?_;rintro _ ⟨y,rfl,hy⟩ <;> refine⟨rfl,?_⟩)|(with_reducible apply And.intro)|exact aG|fail)
  (exact⟨[],[],⟨(j+1,cs,rs++[(IntKind.i64.wrap (x.2*y)).tmod p],v+1,u),aI⟩,aX,aI⟩)
 ·repeat' (first|refine gS ?_|refine sp ?_ ?_ <;> intro h|(with_reducible apply And.intro)|exact aG|fail)
  refine dP ?_
  exact⟨_,_,_,cs,rs,_,rfl,by omega,by omega,.inr rfl⟩
theorem check6 (p rows cols:Int) (cells right:List Int) (hc:cells.length≤1000000) (hr:right.length≤1000000):DoesP Tryz.prog 188 [.ag [I p,I rows,I cols,.d (dInts cells),.d (dInts right)]] (fun r=>∃ e,r=I e∧(e=0→fieldB p=true∧0≤rows∧rows≤32∧0≤cols∧cols≤32∧(cells.length:Int)=rows*cols∧(right.length:Int)=rows)):=by
 refine⟨⟨_,1,rfl,by simp⟩,wE Tryz.func188 fun cx hm0=>?_⟩
 cases hf:fieldB p with
 |false =>
  repeat' (first|refine gA hf ?_|refine sp ?_ ?_ <;> intro h|refine gP (r3check p) ?_|(with_reducible apply And.intro)|exact aG|fail)
  all_goals (refine dP ?_;exact⟨_,rfl,aQ⟩)
 |true =>
  by_cases hb:0≤rows∧rows≤32∧0≤cols∧cols≤32
  ·have h1:=mul_bd (a:=rows) (b:=cols) (A:=32) (B:=32) hb.1 hb.2.1 hb.2.2.1 hb.2.2.2
   have hw:IntKind.i64.wrap (rows*cols)=rows*cols:=IntWalk.i64_in _ (by omega)
   repeat' (first|refine gB hf hw ?_|refine sp ?_ ?_ <;> intro h|refine gP (r3check p) ?_|refine gP (r3in p cells (by omega)) ?_|refine gP (r3in p right (by omega)) ?_|(with_reducible apply And.intro)|exact aG|fail)
   all_goals (refine dP ?_;exact⟨_,rfl,aQ⟩)
  ·repeat' (first|refine gA hf ?_|refine sp ?_ ?_ <;> intro h|refine gP (r3check p) ?_|(with_reducible apply And.intro)|exact aG|fail)
   all_goals first|(exfalso;omega)|(refine dP ?_;exact⟨_,rfl,aQ⟩)
end Go.Proofs.YticdbambknflgaaGreat.Sim
end
section
namespace Go.Proofs.YticdbambknflgaaGreat.Sim
open Go
set_option maxRecDepth 100000
set_option maxHeartbeats 4000000
set_option linter.unusedVariables false
set_option linter.unusedSimpArgs false
attribute [local irreducible] Go Mean
def cellX (σ:List Nat):List V:=σ.map fun j=>V.og (j+800000) 1
theorem cellX_len {σ:List Nat}:(cellX σ).length=σ.length:=by simp [cellX]
theorem cellX_get {σ:List Nat} {i:Nat} (h:i<σ.length):(cellX σ).getD i .un=.og (σ.getD i 0+800000) 1:=by simp [cellX,List.getD_eq_getElem?_getD,h]
theorem cellX_set {σ:List Nat} {i j:Nat}:(cellX σ).set i (.og (j+800000) 1)=cellX (σ.set i j):=by simp [cellX,List.map_set]
def memX (arg:List V) (v:Nat) (σ:List Nat) (rows:List (List Int)) (lo:Option O):M:=fun i=>if i=1 then some (.box 0 arg) else if i=47 then some (.vec v 1 (cellX σ)) else if i=193 then lo else if 800000≤i∧i<800000+rows.length then some (.arr 1 1 true ((rows.getD (i-800000) []).map eI)) else none
section
variable {arg:List V} {v v':Nat} {σ σ':List Nat} {rows:List (List Int)} {lo:Option O} {j:Nat}
theorem memX_1:memX arg v σ rows lo 1=some (.box 0 arg):=rfl
theorem memX_47:memX arg v σ rows lo 47=some (.vec v 1 (cellX σ)):=rfl
theorem memX_193:memX arg v σ rows lo 193=lo:=rfl
theorem memX_at (h:j<rows.length):memX arg v σ rows lo (j+800000)=some (.arr 1 1 true ((rows.getD j []).map eI)):=by
 unfold memX
 rw[if_neg (by omega),if_neg (by omega),if_neg (by omega),if_pos (by omega),Nat.add_sub_cancel]
theorem memX_none {i:Nat} (h:i<800000) (h1:i ≠ 1) (h2:i ≠ 47) (h3:i ≠ 193):memX arg v σ rows lo i=none:=by
 unfold memX
 rw[if_neg h1,if_neg h2,if_neg h3,if_neg (by omega)]
theorem memX_row (h:j<rows.length) (x:List Int):up (memX arg v σ rows lo) (j+800000) (some (.arr 1 1 true (x.map eI)))=memX arg v σ (rows.set j x) lo:=by
 funext i
 simp only[up_at]
 unfold memX
 rw[List.length_set]
 by_cases e:i=j+800000
 ·subst e
  rw[if_pos rfl,if_neg (by omega),if_neg (by omega),if_neg (by omega),if_pos (by omega),Nat.add_sub_cancel,List.getD_eq_getElem?_getD,List.getElem?_set,if_pos rfl,if_pos h];rfl
 ·rw[if_neg e]
  by_cases hc:800000≤i∧i<800000+rows.length
  ·rw[if_neg (by omega),if_neg (by omega),if_neg (by omega),if_pos hc,if_neg (by omega),if_neg (by omega),if_neg (by omega),if_pos hc,List.getD_eq_getElem?_getD,List.getD_eq_getElem?_getD,List.getElem?_set,if_neg (by omega)]
  ·rw[if_neg hc,if_neg hc]
theorem memX_vec:up (memX arg v σ rows lo) 47 (some (.vec v' 1 (cellX σ')))=memX arg v' σ' rows lo:=by
 funext i
 simp only[up_at]
 unfold memX
 by_cases e:i=47
 ·subst e;rfl
 ·rw[if_neg e,if_neg e,if_neg e]
theorem memX_lo {o:O}:up (memX arg v σ rows lo) 193 (some o)=memX arg v σ rows (some o):=by
 funext i
 simp only[up_at]
 unfold memX
 by_cases e:i=193
 ·subst e;rfl
 ·rw[if_neg e,if_neg e,if_neg e]
theorem memX_some {i:Nat} {o:O} (h:memX arg v σ rows lo i=some o):(i=1∧o=.box 0 arg)∨(i=47∧o=.vec v 1 (cellX σ))∨(i=193∧lo=some o)∨∃ j,j<rows.length∧i=j+800000∧o=.arr 1 1 true ((rows.getD j []).map eI):=by
 unfold memX at h
 split at h
 ·cases h;exact .inl ⟨by assumption,rfl⟩
 split at h
 ·cases h;exact .inr (.inl ⟨by assumption,rfl⟩)
 split at h
 ·exact .inr (.inr (.inl ⟨by assumption,h⟩))
 split at h
 ·rename_i hc
  cases h
  exact .inr (.inr (.inr ⟨i-800000,by omega,by omega,rfl⟩))
 ·cases h
theorem W_cellX {m m0:M} {ad:List Nat} (had:∀ i ∈ ad,i<800000):∀ {σ:List Nat},(∀ j ∈ σ,(m0 (j+800000)).isSome=true)→Ws m m0 ad (cellX σ) (cellX σ)
 |[],_=>by simp only[cellX,List.map_nil,Ws]
 |j :: σ,h=>by
  simp only[cellX,List.map_cons,Ws]
  exact⟨by simp only[W];exact⟨trivial,trivial,fun hj=>by have:=had _ hj;omega,h j (by simp)⟩,W_cellX had fun k hk=>h k (by simp [hk])⟩
def arg6 (p:Int) (R C:Nat) (cells right:List Int):List V:=[I p,I R,I C,.d (dInts cells),.d (dInts right)]
theorem W_arg6 {m m0:M} {ad:List Nat} {p:Int} {R C:Nat} {cells right:List Int}:Ws m m0 ad (arg6 p R C cells right) (arg6 p R C cells right):=by
 simp only[arg6,Ws,I,W]
 exact⟨trivial,trivial,trivial,trivial,trivial,trivial⟩
theorem wkX {cx:Cx} {T:Nat→V} {m:M} {p:Int} {R C:Nat} {cells right:List Int} (ad:List Nat) (had:ad=[]∨ad=[193]) (hm0:cx.m0=ups M0 []) (T0:List (Nat × V)) (h1:m 1=some (.box 0 (arg6 p R C cells right))) (h47:m 47=some (.vec v 1 (cellX σ))) (hlo:∀ o,lo=some o→(∃ a l,o=.arr a 1 true l∧(ad=[193]→a=0∧l=[]))∧(ad=[]→m 193=some o)) (hlo2:ad=[193]→lo ≠ none)
  (hrow:∀ j,j<rows.length→m (j+800000)=some (.arr 1 1 true ((rows.getD j []).map eI))) (hσ:∀ j ∈ σ,j<rows.length) (hT:TW m (memX (arg6 p R C cells right) v σ rows lo) ad T T0):Wk cx ⟨T,m⟩ ⟨tl T0,memX (arg6 p R C cells right) v σ rows lo⟩:=by
 have had2:∀ i ∈ ad,i=193:=fun i hi=>by rcases had with rfl|rfl <;> simp_all
 refine Wk.weaken ad _ _ (TW_ok hT) (fun i o hi=>?_) (fun i hi=>?_) (fun i o hi=>?_)
 ·rcases memX_some hi with ⟨rfl,rfl⟩|⟨rfl,rfl⟩|⟨rfl,hl⟩|⟨j,hj,rfl,rfl⟩
  ·exact⟨by rcases had with rfl|rfl <;> rfl,_,h1,W_arg6⟩
  ·exact⟨by rcases had with rfl|rfl <;> rfl,_,h47,W_cellX (fun i hi=>by have:=had2 i hi;omega) fun j hj=>by rw[memX_at (hσ j hj)];rfl⟩
  ·obtain⟨⟨a,l,rfl,ha⟩,hm⟩:=hlo _ hl
   simp only[MO]
   rcases had with rfl|rfl
   ·rw[if_neg (by simp)];exact hm rfl
   ·rw[if_pos (by simp)];simp_all
  ·simp only[MO]
   rw[if_neg (fun h=>by have:=had2 _ (List.contains_iff_mem.1 h);omega)]
   exact hrow j hj
 ·have:=had2 i hi
  subst this
  rw[memX_193]
  rcases had with rfl|rfl
  ·simp at hi
  ·cases hl:lo with
   |none=>exact absurd hl (hlo2 rfl)
   |some o =>
    obtain⟨⟨a,l,rfl,ha⟩,_⟩:=hlo _ hl
    rw[(ha rfl).1]
    exact⟨_,_,_,rfl⟩
 ·rw[hm0] at hi
  cases hi
end
def rowT (c:Nat) (vals right:List Int) (i:Nat):List Int:=(vals.drop (i*c)).take c++[right.getD i 0]
def rowsT (c:Nat) (vals right:List Int) (n:Nat):List (List Int):=(List.range n).map (rowT c vals right)
theorem rowsT_len {c:Nat} {vals right:List Int} {n:Nat}:(rowsT c vals right n).length=n:=by simp [rowsT]
theorem rowsT_get {c:Nat} {vals right:List Int} {n j:Nat} (h:j<n):(rowsT c vals right n).getD j []=rowT c vals right j:=by
 simp [rowsT,List.getD_eq_getElem?_getD,h]
theorem swp_no {i j k:Nat} (h:k ≠ i) (h2:k ≠ j):swp i j k=k:=by
 unfold swp
 rw[if_neg h,if_neg h2]
theorem swp_l {i j:Nat}:swp i j i=j:=by simp [swp]
theorem swp_r {i j:Nat}:swp i j j=i:=by unfold swp;split <;> simp_all
theorem rns_arg6 {σ δ:Nat→Nat} {p:Int} {R C:Nat} {cells right:List Int}:V.rns σ δ (arg6 p R C cells right)=arg6 p R C cells right:=rfl
theorem rns_growX {i:Nat}:V.rns (swp 38 (i+800000)) (fun _=>0) (cellX (List.range i)++[.og 38 1])=cellX (List.range (i+1)):=by
 rw[rns_map,List.map_append]
 unfold cellX
 rw[List.range_succ,List.map_append]
 refine congr (congrArg _ ?_) ?_
 ·rw[List.map_map]
  refine List.map_congr_left fun j hj=>?_
  rw[List.mem_range] at hj
  simp only[Function.comp,V.rn,Nat.add_zero]
  rw[swp_no (by omega) (by omega)]
 ·simp only[List.map_cons,List.map_nil,V.rn,swp_l,Nat.add_zero]
theorem wk_growX {cx:Cx} {T:Nat→V} {m:M} {v i:Nat} {p:Int} {R C:Nat} {cells right:List Int} (hm0:cx.m0=ups M0 []) (T0:List (Nat × V)) (h1:m 1=some (.box 0 (arg6 p R C cells right))) (h47:m 47=some (.vec v 1 (cellX (List.range i)++[.og 38 1]))) (h38:m 38=some (.arr 1 1 true ((rowT C cells right i).map eI))) (hrow:∀ j,j<i→m (j+800000)=some (.arr 1 1 true ((rowT C cells right j).map eI)))
  (hT:TW (fun k=>(m (swp 38 (i+800000) k)).map (O.rn (swp 38 (i+800000)) (fun _=>0) 0)) (memX (arg6 p R C cells right) v (List.range (i+1)) (rowsT C cells right (i+1)) none) [] (fun t=>(T t).rn (swp 38 (i+800000)) fun _=>0) T0):Wk cx ⟨T,m⟩ ⟨tl T0,memX (arg6 p R C cells right) v (List.range (i+1)) (rowsT C cells right (i+1)) none⟩:=by
 have hs:∀ k,k<800000→k ≠ 38→swp 38 (i+800000) k=k:=fun k h h2=>swp_no h2 (by omega)
 refine Wk.trans (Wk.rn (swp 38 (i+800000)) (fun _=>0) (swp_swp _ _) fun j o hj=>by rw[hm0] at hj;cases hj) (wkX [] (.inl rfl) hm0 T0 ?_ ?_ (fun o h=>by cases h) (fun h=>by cases h) (fun j hj=>?_) (fun j hj=>by rw[rowsT_len];exact List.mem_range.1 hj) hT)
 ·simp only[St.rn,hs 1 (by omega) (by omega),h1,Option.map_some,O.rn,rns_arg6]
 ·simp only[St.rn,hs 47 (by omega) (by omega),h47,Option.map_some,O.rn,rns_growX,Nat.add_zero]
 ·rw[rowsT_len] at hj
  rw[rowsT_get hj]
  by_cases e:j=i
  ·subst e
   simp only[St.rn,swp_r,h38,Option.map_some,O.rn,Nat.add_zero]
  ·simp only[St.rn,swp_no (i:=38) (j:=i+800000) (k:=j+800000) (by omega) (by omega),hrow j (by omega),Option.map_some,O.rn,Nat.add_zero]
theorem dcell_og {m:M} {i v k:Nat} {mu:Bool} {l:List (List D)} (h:m i=some (.arr v k mu l)):dcell m (.og i v)=some (.sl k l):=by
 simp only[dcell,h,if_true]
theorem dcells_cons {m:M} {x:V} {l:List V} {y:D} {ys:List D} (h1:dcell m x=some y) (h2:dcells m l=some ys):dcells m (x :: l)=some (y :: ys):=by
 simp only[dcells,h1,h2]
theorem dcells_cellX {arg:List V} {v:Nat} {σ0:List Nat} {rows:List (List Int)} {lo:Option O}:∀ {σ:List Nat},(∀ j ∈ σ,j<rows.length)→dcells (memX arg v σ0 rows lo) (cellX σ)=some (σ.map fun j=>dInts (rows.getD j []))
 |[],_=>rfl
 |j :: σ,h=>dcells_cons (dcell_og (memX_at (h j List.mem_cons_self))) (dcells_cellX fun k hk=>h k (List.mem_cons_of_mem _ hk))
theorem notOg_ne {i v k:Nat} (h:i ≠ k):V.notOg k (.og i v)=true:=by
 simp [V.notOg,h]
theorem flat1 {α:Type}:∀ {l:List α},(l.map fun d=>[d]).flatten=l
 |[]=>rfl
 |x :: l=>by rw[List.map_cons,List.flatten_cons,flat1];rfl
theorem rows_of {σ:List Nat} {rows:List (List Int)}:((σ.map fun j=>dInts (rows.getD j [])).map fun d=>[d])=(σ.map fun j=>rows.getD j []).map eR:=by
 rw[List.map_map,List.map_map]
 rfl
theorem wk_sealX {cx:Cx} {T:Nat→V} {arg:List V} {v a:Nat} {σ:List Nat} {rows:List (List Int)} {ld:List Int} (hm0:cx.m0=ups M0 []) (hσ:∀ j ∈ σ,j<rows.length) (h2:T 2=.vg 47 v) (h3:T 3=.og 193 a):Wk cx ⟨T,memX arg v σ rows (some (.arr a 1 true (ld.map eI)))⟩ ⟨tl [(2,.d (dRows (σ.map fun j=>rows.getD j []))),(3,.og 193 a)],up M0 193 (some (.arr a 1 true (ld.map eI)))⟩:=by
 have hno:∀ k,k<800000→(cellX σ).all (V.notOg k)=true:=fun k hk=>by
  rw[List.all_eq_true]
  intro x hx
  obtain⟨j,_,rfl⟩:=List.mem_map.1 hx
  exact notOg_ne (by omega)
 have h47:memX arg v σ rows (some (.arr a 1 true (ld.map eI))) 47=some (.vec v 1 (cellX σ)):=rfl
 have h193:memX arg v σ rows (some (.arr a 1 true (ld.map eI))) 193=some (.arr a 1 true (ld.map eI)):=rfl
 have hdc:=dcells_cellX (arg:=arg) (v:=v) (σ0:=σ) (rows:=rows) (lo:=some (.arr a 1 true (ld.map eI))) hσ
 have n47:=hno 47 (by omega)
 have n193:=hno 193 (by omega)
 generalize memX arg v σ rows (some (.arr a 1 true (ld.map eI)))=mm at *
 generalize cellX σ=cc at *
 have h:=Wk.sealT (cx:=cx) (s:=⟨T,mm⟩) 47 (rs:=(σ.map fun j=>dInts (rows.getD j [])).map fun d=>[d]) (fun t=>su 47 v (.sl 1 ((σ.map fun j=>dInts (rows.getD j [])).map fun d=>[d])) (T t)) h47 (by rw[hdc,flat1]) (by simp) (by omega) ((ups_frz_not 47 cc mm n47).trans h47) (fun _=>rfl)
 refine h.trans (Wk.weaken [] _ _ (TW_ok ?_) (fun i o hi=>?_) (fun i hi=>by cases hi) (fun i o hi=>by rw[hm0] at hi;cases hi))
 ·simp only[TW,h2,h3,su,W,up_same]
  rw[rows_of]
  simp only[up_same,and_self,if_true,not_false_eq_true,List.not_mem_nil,Option.isSome_some,true_and]
  exact⟨by simp only[W],trivial⟩
 ·simp only[up_at] at hi
  split at hi
  ·rename_i e
   subst e
   cases hi
   simp only[MO]
   rw[if_neg (by simp),up_at,if_neg (by omega)]
   exact (ups_frz_not 193 cc mm n193).trans h193
  ·cases hi
theorem wkXs {cx:Cx} {T:Nat→V} {p:Int} {R C:Nat} {cells right:List Int} {v a:Nat} {σ:List Nat} {rows:List (List Int)} {l:List (List D)} (hm0:cx.m0=ups M0 []) (T0:List (Nat × V)) (hσ:∀ j ∈ σ,j<rows.length) (hT:TW (memX (arg6 p R C cells right) v σ rows (some (.arr a 1 true l))) (memX (arg6 p R C cells right) v σ rows (some (.arr a 1 true l))) [] T T0):Wk cx ⟨T,memX (arg6 p R C cells right) v σ rows (some (.arr a 1 true l))⟩ ⟨tl T0,memX (arg6 p R C cells right) v σ rows (some (.arr a 1 true l))⟩ :=
 wkX [] (.inl rfl) hm0 _ rfl rfl (fun o ho=>⟨by cases ho;exact⟨_,_,rfl,fun h=>by cases h⟩,fun _=>ho⟩) (fun h=>by cases h) (fun j hj=>memX_at hj) hσ hT
end Go.Proofs.YticdbambknflgaaGreat.Sim
end
