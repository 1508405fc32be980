/- Channels. -/
import Derived.Test.YticdbambknflgaaGreatMWoH0
import Derived.Test.YticdbambknflgaaGreatMAcs
import Derived.Test.YticdbambknflgaaGreatMWoQ
import Derived.Test.YticdbambknflgaaGreatMWoAc
import Derived.Test.YticdbambknflgaaGreatMWoAb
import Derived.Test.YticdbambknflgaaGreatMWoV
import Derived.Test.YticdbambknflgaaGreatMWoR
section
namespace Go.Proofs.YticdbambknflgaaGreat.Sim
open Go
set_option maxRecDepth 100000
set_option maxHeartbeats 4000000
set_option linter.unusedVariables false
set_option linter.unusedSimpArgs false
attribute [local irreducible] Go Mean
theorem solve6 (p rows cols:Int) (cells right:List Int) (hc:cells.length≤1000000) (hr:right.length≤1000000):DoesP Tryz.prog 183 [.ag [I p,I rows,I cols,.d (dInts cells),.d (dInts right)]] (fun r=>∃ x e,r=.tu [.d (dInts x),I e]∧(e=0→fieldB p=true∧(x.length:Int)=cols∧cols≤32)):=by
 refine⟨⟨_,[],1,rfl,by simp⟩,wE Tryz.func183 fun cx hm0=>?_⟩
 repeat' (first|refine gS ?_|refine sp ?_ ?_ <;> intro h|(exfalso;omega)|(refine gW (check6 p rows cols cells right hc hr) ?_;rintro _ ⟨e,rfl,he⟩ <;> refine⟨rfl,?_⟩)|(with_reducible apply And.intro)|exact aG|fail)
 all_goals try (refine dP ?_;exact⟨[],_,rfl,aQ⟩)
 obtain⟨hf,hr0,hr1,hc0,hc1,hcl,hrl⟩:=he (by simp_all)
 obtain⟨R,rfl⟩:∃ R:Nat,rows=R:=⟨rows.toNat,by omega⟩
 obtain⟨C,rfl⟩:∃ C:Nat,cols=C:=⟨cols.toNat,by omega⟩
 have hcl2:cells.length=R*C:=by rw[← Int.natCast_mul] at hcl;omega
 (refine gW (reduce6 p R C cells right hf (by omega) (by omega) hcl2 (by omega)) ?_;rintro _ ⟨ms,ld,rfl,hm1,hm2,hl1,hl2⟩ <;> refine⟨rfl,?_⟩)
 have ht:(ms.map eR).take ms.length=ms.map eR:=List.take_of_length_le (by simp)
 have hd:(ms.map eR).drop ld.length=(ms.drop ld.length).map eR:=List.map_drop.symm
 have hdl:(ms.drop ld.length).length=R-ld.length:=by rw[List.length_drop,hm1]
 have hle:ld.length≤ms.length:=by omega
 repeat' (first|refine gQ ht hd hdl hle ?_|refine sp ?_ ?_ <;> intro h|(with_reducible apply And.intro)|exact aG|fail)
 refine gl (κ:=Nat) hm0 (fun q_=>q_≤R-ld.length) (fun q_=>[(1,.bp 1 0 0),(5,.d (dRows ms)),(6,.d (dInts ld)),(25,.d (dRows (ms.drop ld.length))),(26,I (R-ld.length:Nat)),(27,I q_)]) (fun q_=>[(1,.box 0 [I p,I R,I C,.d (dInts cells),.d (dInts right)])]) (fun q_=>R-ld.length-q_) [] [] (0) ?_
 rintro k hI
 try simp only at hI ⊢
 try have hI2:=hI.2
 by_cases hk:k<R-ld.length
 ·have hs:=getD_map eR [] [] (ms.drop ld.length) k (by omega)
  have hx:=hm2 _ (List.mem_of_mem_drop (mem_getD [] (ms.drop ld.length) k (by omega)))
  generalize (ms.drop ld.length).getD k []=x at *
  have hs2:=getD_map eI [] 0 x C (by omega)
  have hCl:C<C+1:=by omega
  repeat' (first|simp (maxSteps:=9999999) only[↓GE,PQ,seval,hs,hs2,hx,hCl,eR,eI,hdl]|refine gS ?_|refine sp ?_ ?_ <;> intro h|(with_reducible apply And.intro)|exact aG|fail)
  all_goals first|(refine dP ?_;exact⟨[],_,rfl,aQ⟩)|(exact⟨[],[],⟨(k+1),aI⟩,aX,aI⟩)
 have hz:∀ k:Nat,List.replicate k [D.at (Value.int IntKind.i64 0)]=(List.replicate k (0:Int)).map eI:=fun k=>by simp [eI]
 repeat' (first|refine gA hz ?_|refine sp ?_ ?_ <;> intro h|(with_reducible apply And.intro)|exact aG|fail)
 refine gl (κ:=Nat × (List Int)) hm0 (fun q_=>q_.1≤ld.length∧q_.2.length=C) (fun q_=>[(1,.bp 1 0 0),(5,.d (dRows ms)),(9,.og 40 0),(41,.d (dInts ld)),(42,I ld.length),(43,I q_.1)]) (fun q_=>[(1,.box 0 [I p,I R,I C,.d (dInts cells),.d (dInts right)]),(40,.arr 0 1 true (q_.2.map eI))]) (fun q_=>ld.length-q_.1) [] [] (0,List.replicate C 0) ?_
 rintro⟨i,xs⟩ hI
 try simp only at hI ⊢
 try have hI2:=hI.2
 by_cases hi:i<ld.length
 ·have hs:=getD_map eI [] 0 ld i hi
  have hy:=hl2 _ (mem_getD 0 ld i hi)
  have hs2:=getD_map eR [] [] ms i (by omega)
  have hx:=hm2 _ (mem_getD [] ms i (by omega))
  generalize ms.getD i []=x at *
  generalize ld.getD i 0=y at *
  obtain⟨y,rfl⟩:∃ m:Nat,y=m:=⟨y.toNat,by omega⟩
  have hs3:=getD_map eI [] 0 x C (by omega)
  have hs4:=getD_map eI [] 0 xs y (by omega)
  have him:i<ms.length:=by omega
  have hyl:y<xs.length:=by omega
  have hCl:C<C+1:=by omega
  repeat' (first|simp (maxSteps:=9999999) only[↓GE,PQ,seval,hs,hs2,hs3,hs4,hx,him,hyl,hCl,eR,eI]|refine gS ?_|refine sp ?_ ?_ <;> intro h|(with_reducible apply And.intro)|exact aG|fail)
  (exact⟨[],[],⟨(i+1,xs.set y (x.getD C 0)),aI⟩,aX,aI⟩)
 ·repeat' (first|refine gS ?_|refine sp ?_ ?_ <;> intro h|(with_reducible apply And.intro)|exact aG|fail)
  refine dP ?_
  exact⟨xs,_,rfl,aQ⟩
theorem Decode9 (p:Int) (l:List (Int × Bool)) (k:Int) (hl:l.length≤1000):DoesP Tryz.prog 178 [.ag [I p],.d (dCells l),I k] (fun r=>∃ q w e,r=.tu [.ag [.d (dInts q),.d (dInts w)],I e]∧q.length≤1001∧w.length≤l.length∧∀ x ∈ w,1≤x∧x≤l.length):=by
 refine⟨⟨_,[],[],1,rfl,by simp⟩,wE Tryz.func178 fun cx hm0=>?_⟩
 repeat' (first|refine gS ?_|refine sp ?_ ?_ <;> intro h|(exfalso;omega)|(refine gW (fill8 p l k hl) ?_;rintro _ ⟨q,e,rfl,he⟩ <;> refine⟨rfl,?_⟩)|(refine gW (known8 l hl) ?_;rintro _ ⟨kn,rfl,hk1,hk2⟩ <;> refine⟨rfl,?_⟩)|(refine gW (radius9 kn.length k) ?_;rintro _ ⟨v,e1,rfl,hv0,hv1⟩ <;> refine⟨rfl,?_⟩)|(refine gW (key9 p l k v hl) ?_;rintro _ ⟨p',rows,cols,cells,right,e2,rfl,hc1,hc2,hc3⟩ <;> refine⟨rfl,?_⟩)|(with_reducible apply And.intro)|exact aG|fail)
 all_goals try (refine dP ?_;exact⟨[],[],_,rfl,by simp,by simp,by simp⟩)
 obtain⟨hf,hl32,hk3,hk4⟩:=he (by simp_all)
 have hmt:∀ (l:List Int) n,(l.map eI).take n=(l.take n).map eI:=fun l n=>List.map_take.symm
 have hmd:∀ (l:List Int) n,(l.map eI).drop n=(l.drop n).map eI:=fun l n=>List.map_drop.symm
 have hap:∀ (l:List Int),l.map eI++[[D.at (Value.int IntKind.i64 1)]]=(l++[1]).map eI:=fun l=>by simp [eI]
 have hkv:IntKind.i64.wrap (k+v)=k+v:=IntWalk.i64_in _ (by omega)
 (refine gW (solve6 p' rows cols cells right (by omega) (by omega)) ?_;rintro _ ⟨x,e3,rfl,hx⟩ <;> refine⟨rfl,?_⟩)
 by_cases he3:e3=0
 ·obtain⟨hf2,hxl,hxc⟩:=hx he3
  subst he3
  have hp':p' ≠ 0:=by have:=(fieldB_iff.1 hf2).1;omega
  have hx2:(x.length:Int)=k+2*v:=by omega
  have hxt:x.take x.length=x:=List.take_of_length_le (by omega)
  have hb1:(k+v).toNat≤x.length:=by omega
  have hdl:(x.drop (k+v).toNat).length≤32:=by rw[List.length_drop];omega
  repeat' (first|simp (maxSteps:=9999999) only[↓GE,PQ,seval,hmt,hmd,hap,hkv,hxt,hb1]|refine gS ?_|refine sp ?_ ?_ <;> intro h|(exfalso;omega)|(refine gW (Divide5 p (x.take (k+v).toNat) (x.drop (k+v).toNat++[1]) (by rw[List.length_take];omega) (by simp;omega)) ?_;rintro _ ⟨q2,rs,e4,rfl,hq2,hrs⟩ <;> refine⟨rfl,?_⟩)|(refine gW (wrong9 p l q2 hl (by omega)) ?_;rintro _ ⟨wr,rfl,hw1,hw2⟩ <;> refine⟨rfl,?_⟩)|(with_reducible apply And.intro)|exact aG|fail)
  all_goals first|(refine dP ?_;exact⟨[],[],_,rfl,by simp,by simp,by simp⟩)|(refine dP ?_;exact⟨_,_,_,rfl,hq2,hw1,hw2⟩)
 ·have r1:(e3 != 0)=true:=by simpa using he3
  repeat' (first|refine gA r1 ?_|refine sp ?_ ?_ <;> intro h|(with_reducible apply And.intro)|exact aG|fail)
  all_goals (refine dP ?_;exact⟨[],[],_,rfl,by simp,by simp,by simp⟩)
end Go.Proofs.YticdbambknflgaaGreat.Sim
end
section
namespace Go.Proofs.YticdbambknflgaaGreat.Sim
open Go
set_option maxRecDepth 100000
set_option maxHeartbeats 4000000
set_option linter.unusedVariables false
set_option linter.unusedSimpArgs false
attribute [local irreducible] Go Mean
def eBo (b:Bool):List D:=[.at (.bool b)]
theorem columns17 (p sv k w:Int) (l:List PAns) (hl:l.length≤1000) (hs:∀ a ∈ l,a.row.length≤1000000):DoesP Tryz.prog 173 [.ag [I p],I sv,I k,I w,.d (dAns l)] (fun r=>∃ ps wr e,r=.tu [.d (dRows ps),.d (dInts wr),I e]∧ps.length≤64∧(∀ x ∈ ps,x.length≤1001)∧wr.length≤1002∧(e=0→0≤w∧w≤64∧(ps.length:Int)=w)):=by
 refine⟨⟨_,[],[],1,rfl,by simp⟩,wE Tryz.func173 fun cx hm0=>?_⟩
 repeat' (first|refine gS ?_|refine sp ?_ ?_ <;> intro h|(with_reducible apply And.intro)|exact aG|fail)
 all_goals try (refine dP ?_;exact⟨[],[],_,rfl,by simp,by simp,by simp,aQ⟩)
 obtain⟨W,rfl⟩:∃ W:Nat,w=W:=⟨w.toNat,by omega⟩
 have hsv:(l.length:Int)=sv:=by simp_all
 subst hsv
 refine gl (κ:=Nat × Int) hm0 (fun q_=>q_.1≤l.length∧∀ a ∈ l.take q_.1,a.known=true→a.row.length=W) (fun q_=>[(1,I l.length),(2,I k),(3,I W),(4,.d (dAns l)),(5,.bp 5 0 0),(13,I q_.2),(42,.d (dAns l)),(43,I l.length),(44,I q_.1)]) (fun q_=>[(5,.box 0 [I p])]) (fun q_=>l.length-q_.1) [] [] (0,0) ?_
 rintro⟨i,kn⟩ hI
 try simp only at hI ⊢
 try have hI2:=hI.2
 by_cases hi:i<l.length
 ·have hs0:=getD_map eAns [] noAns l i hi
  have ht:=take_succ_getD noAns l i hi
  generalize l.getD i noAns=x at *
  obtain⟨b,row⟩:=x
  have hnext:(b=true→row.length=W)→∀ a ∈ l.take (i+1),a.known=true→a.row.length=W:=fun h a ha hk=>by
   rw[ht] at ha
   rcases List.mem_append.1 ha with ha|ha
   ·exact hI.2 a ha hk
   ·simp only[List.mem_singleton] at ha;subst ha;exact h hk
  cases b with
  |false =>
   repeat' (first|refine gB hs0 eAns.eq_1 ?_|refine sp ?_ ?_ <;> intro h|(with_reducible apply And.intro)|exact aG|fail)
   exact⟨[],[],⟨(i+1,kn),hi,hnext (fun h=>by cases h)⟩,by exact aX,aI⟩
  |true =>
   repeat' (first|refine gB hs0 eAns.eq_1 ?_|refine sp ?_ ?_ <;> intro h|(with_reducible apply And.intro)|exact aG|fail)
   all_goals try (refine dP ?_;exact⟨[],[],_,rfl,by simp,by simp,by simp,aQ⟩)
   refine⟨[],[],⟨(i+1,IntKind.i64.wrap (kn+1)),hi,hnext (fun _=>?_)⟩,?_,aI⟩
   ·have h9:(row.length:Int)=W:=by simp_all
    omega
   ·exact aX
 have hw:∀ a ∈ l,a.known=true→a.row.length=W:=by
  have:=hI.2
  rwa [List.take_of_length_le (by omega)] at this
 repeat' (first|refine gS ?_|refine sp ?_ ?_ <;> intro h|(with_reducible apply And.intro)|exact aG|fail)
 refine gl (κ:=Nat) hm0 (fun q_=>q_≤l.length) (fun q_=>[(1,I l.length),(2,I k),(3,I W),(4,.d (dAns l)),(5,.bp 5 0 0),(13,I kn),(59,.d (dAns l)),(60,I l.length),(61,I q_)]) (fun q_=>[(5,.box 0 [I p])]) (fun q_=>l.length-q_) [] [] (0) ?_
 rintro i hI
 try simp only at hI ⊢
 try have hI2:=hI.2
 by_cases hi:i<l.length
 ·have hs0:=getD_map eAns [] noAns l i hi
  have hrl:=hs _ (mem_getD noAns l i hi)
  generalize l.getD i noAns=x at *
  obtain⟨b,row⟩:=x
  cases b with
  |false =>
   repeat' (first|refine gB hs0 eAns.eq_1 ?_|refine sp ?_ ?_ <;> intro h|(with_reducible apply And.intro)|exact aG|fail)
   (exact⟨[],[],⟨(i+1),aI⟩,aX,aI⟩)
  |true =>
   repeat' (first|refine gB hs0 eAns.eq_1 ?_|refine sp ?_ ?_ <;> intro h|refine gP (r3in p row (by simp only at hrl;omega)) ?_|(with_reducible apply And.intro)|exact aG|fail)
   all_goals first|(refine dP ?_;exact⟨[],[],_,rfl,by simp,by simp,by simp,aQ⟩)|(exact⟨[],[],⟨(i+1),aI⟩,aX,aI⟩)
 have hz:∀ k:Nat,List.replicate k [D.at (Value.bool false)]=(List.replicate k false).map eBo:=fun k=>by simp [eBo]
 have hw1:IntKind.i64.wrap ((l.length:Int)+1)=((l.length+1:Nat):Int):=by rw[IntWalk.i64_in _ (by omega)];omega
 have hbd:[D.at (Value.bool false)] :: (List.replicate l.length false).map eBo=(List.replicate (l.length+1) false).map eBo:=by simp [eBo,List.replicate_succ]
 repeat' (first|refine gB hz hw1 ?_|refine sp ?_ ?_ <;> intro h|(with_reducible apply And.intro)|exact aG|fail)
 all_goals try (refine dP ?_;exact⟨[],[],_,rfl,by simp,by simp,by simp,aQ⟩)
 refine gl (κ:=Nat × (List (List Int)) × (List Bool) × Nat) hm0 (fun q_=>(q_.1≤W∧q_.2.1.length=q_.1∧q_.2.2.1.length=l.length+1)∧∀ x ∈ q_.2.1,x.length≤1001) (fun q_=>[(2,I k),(3,I W),(4,.d (dAns l)),(5,.bp 5 0 0),(18,.og 80 0),(19,.og 121 q_.2.2.2),(20,I q_.1)]) (fun q_=>[(5,.box 0 [I p]),(80,.arr 0 1 true (q_.2.2.1.map eBo)),(121,.arr q_.2.2.2 1 true (q_.2.1.map eR))]) (fun q_=>W-q_.1) [] [121] (0,[],List.replicate (l.length+1) false,0) ?_ (h0:=(aY hbd))
 rintro⟨c,ps,bs,v⟩ hI
 try simp only at hI ⊢
 try have hI2:=hI.2
 by_cases hc:c<W
 ·repeat' (first|refine gS ?_|refine sp ?_ ?_ <;> intro h|(with_reducible apply And.intro)|exact aG|fail)
  refine gl (κ:=Nat × (List (Int × Bool)) × Nat) hm0 (fun q_=>q_.1≤l.length∧q_.2.1.length=q_.1) (fun q_=>[(2,I k),(3,I W),(4,.d (dAns l)),(5,.bp 5 0 0),(18,.og 80 0),(19,.og 121 v),(20,I c),(21,.og 106 q_.2.2),(86,.d (dAns l)),(87,I l.length),(88,I q_.1)]) (fun q_=>[(5,.box 0 [I p]),(80,.arr 0 1 true (bs.map eBo)),(106,.arr q_.2.2 2 true (q_.2.1.map eCell)),(121,.arr v 1 true (ps.map eR))]) (fun q_=>l.length-q_.1) [] [106] (0,[],0) ?_
  rintro⟨i,wd,u⟩ hI
  try simp only at hI ⊢
  try have hI2:=hI.2
  by_cases hi:i<l.length
  ·have hs0:=getD_map eAns [] noAns l i hi
   have hrw:=hw _ (mem_getD noAns l i hi)
   generalize l.getD i noAns=x at *
   obtain⟨b,row⟩:=x
   cases b with
   |false =>
    repeat' (first|refine gB hs0 eAns.eq_1 ?_|refine sp ?_ ?_ <;> intro h|(with_reducible apply And.intro)|exact aG|fail)
    (exact⟨[],[],⟨(i+1,wd++[(0,false)],u+1),aI⟩,(aY eCell.eq_1),aI⟩)
   |true =>
    have hrl:row.length=W:=hrw rfl
    have hs1:=getD_map eI [] 0 row c (by omega)
    repeat' (first|simp (maxSteps:=9999999) only[↓GE,PQ,seval,hs0,hs1,hrl,hc,eAns,eI]|refine gS ?_|refine sp ?_ ?_ <;> intro h|(with_reducible apply And.intro)|exact aG|fail)
    (exact⟨[],[],⟨(i+1,wd++[(row.getD c 0,true)],u+1),aI⟩,(aY eCell.eq_1),aI⟩)
  repeat' (first|refine gS ?_|refine sp ?_ ?_ <;> intro h|(exfalso;omega)|(refine gW (Decode9 p wd k (by omega)) ?_;rintro _ ⟨q,wr,e,rfl,hq,hwl,hwr⟩ <;> refine⟨rfl,?_⟩)|(with_reducible apply And.intro)|exact aG|fail)
  all_goals try (refine dP ?_;exact⟨[],[],_,rfl,by simp,by simp,by simp,aQ⟩)
  refine gl (κ:=Nat × (List Bool)) hm0 (fun q_=>q_.1≤wr.length∧q_.2.length=l.length+1) (fun q_=>[(2,I k),(3,I W),(4,.d (dAns l)),(5,.bp 5 0 0),(18,.og 80 0),(19,.og 121 (v+1)),(20,I c),(123,.d (dInts wr)),(124,I wr.length),(125,I q_.1)]) (fun q_=>[(5,.box 0 [I p]),(80,.arr 0 1 true (q_.2.map eBo)),(121,.arr (v+1) 1 true ((ps++[q]).map eR))]) (fun q_=>wr.length-q_.1) [] [] (0,bs) ?_ (h0:=(aY eR.eq_1))
  rintro⟨j,bs⟩ hI
  try simp only at hI ⊢
  try have hI2:=hI.2
  by_cases hj:j<wr.length
  ·have hs1:=getD_map eI [] 0 wr j hj
   have hy:=hwr _ (mem_getD 0 wr j hj)
   generalize wr.getD j 0=y at *
   obtain⟨y,rfl⟩:∃ m:Nat,y=m:=⟨y.toNat,by omega⟩
   have hs2:=getD_map eBo [] false bs y (by omega)
   have hyl:y<bs.length:=by omega
   repeat' (first|simp (maxSteps:=9999999) only[↓GE,PQ,seval,hs1,hs2,hyl,eBo,eI]|refine gS ?_|refine sp ?_ ?_ <;> intro h|(with_reducible apply And.intro)|exact aG|fail)
   (exact⟨[],[],⟨(j+1,bs.set y true),aI⟩,(aY eBo.eq_1),aI⟩)
  ·repeat' (first|refine gS ?_|refine sp ?_ ?_ <;> intro h|(with_reducible apply And.intro)|exact aG|fail)
   refine⟨[],[],⟨(c+1,ps++[q],bs,v+1),⟨aI,fun y hy=>?_⟩⟩,?_,aI⟩
   ·rcases List.mem_append.1 hy with hy|hy
    ·simp_all
    ·simp only[List.mem_singleton] at hy;subst hy;omega
   ·exact aY eR.eq_1
 repeat' (first|refine gS ?_|refine sp ?_ ?_ <;> intro h|(with_reducible apply And.intro)|exact aG|fail)
 refine gl (κ:=Nat × (List Int) × Nat) hm0 (fun q_=>q_.1≤bs.length∧q_.2.1.length≤q_.1) (fun q_=>[(19,.og 121 v),(29,.og 144 q_.2.2),(133,.og 80 0),(134,I bs.length),(135,I q_.1)]) (fun q_=>[(80,.arr 0 1 true (bs.map eBo)),(121,.arr v 1 true (ps.map eR)),(144,.arr q_.2.2 1 true (q_.2.1.map eI))]) (fun q_=>bs.length-q_.1) [] [144] (0,[],0) ?_
 rintro⟨i,out,u⟩ hI
 try simp only at hI ⊢
 try have hI2:=hI.2
 by_cases hi:i<bs.length
 ·have hs1:=getD_map eBo [] false bs i hi
  generalize bs.getD i false=b at *
  cases b with
  |false =>
   repeat' (first|refine gC hs1 hi eBo.eq_1 ?_|refine sp ?_ ?_ <;> intro h|(with_reducible apply And.intro)|exact aG|fail)
   (exact⟨[],[],⟨(i+1,out,u),aI⟩,aX,aI⟩)
  |true =>
   repeat' (first|refine gC hs1 hi eBo.eq_1 ?_|refine sp ?_ ?_ <;> intro h|(with_reducible apply And.intro)|exact aG|fail)
   (exact⟨[],[],⟨(i+1,out++[(i:Int)],u+1),aI⟩,aX,aI⟩)
 ·repeat' (first|refine gS ?_|refine sp ?_ ?_ <;> intro h|(with_reducible apply And.intro)|exact aG|fail)
  refine dP ?_
  exact⟨ps,out,_,rfl,by omega,by simp_all,by omega,aQ⟩
theorem decode17 (p sv deg w:Int) (l:List PAns) (hl:l.length≤1000) (hs:∀ a ∈ l,a.row.length≤1000000):DoesP Tryz.prog 168 [.ag [I p],.ag [I sv,I deg],I w,.d (dAns l)] (fun r=>∃ x y e,r=.tu [.ag [.d (dInts x),.d (dInts y)],I e]∧x.length≤64∧y.length≤1002):=by
 refine⟨⟨_,[],[],1,rfl,by simp⟩,wE Tryz.func168 fun cx hm0=>?_⟩
 repeat' (first|refine gS ?_|refine sp ?_ ?_ <;> intro h|(exfalso;omega)|(refine gW (check17 p sv deg) ?_;rintro _ ⟨e,rfl,he⟩ <;> refine⟨rfl,?_⟩)|(refine gW (columns17 p sv _ w l hl hs) ?_;rintro _ ⟨ps,wr,e2,rfl,hp1,hp2,hw,hpw⟩ <;> refine⟨rfl,?_⟩)|(with_reducible apply And.intro)|exact aG|fail)
 all_goals try (refine dP ?_;exact⟨[],[],_,rfl,by simp,by simp⟩)
 refine gl (κ:=Nat × (List Int) × Nat) hm0 (fun q_=>q_.1≤ps.length∧q_.2.1.length=q_.1) (fun q_=>[(4,.bp 4 0 0),(8,.bp 8 0 0),(14,.bp 14 0 0),(45,.d (dRows ps)),(46,I ps.length),(47,I q_.1)]) (fun q_=>[(4,.box 0 [I p]),(8,.box 0 [.nl 1,.nl 1]),(14,.box 0 [.og 61 q_.2.2,.d (dInts wr)]),(61,.arr q_.2.2 1 true (q_.2.1.map eI))]) (fun q_=>ps.length-q_.1) [] [61] (0,[],0) ?_
 rintro⟨k,xs,v⟩ hI
 try simp only at hI ⊢
 try have hI2:=hI.2
 by_cases hk:k<ps.length
 ·have hs1:=getD_map eR [] [] ps k hk
  have hx:=hp2 _ (mem_getD [] ps k hk)
  generalize ps.getD k []=x at *
  repeat' (first|refine gB hs1 eR.eq_1 ?_|refine sp ?_ ?_ <;> intro h|(exfalso;omega)|(refine gW (Value5 p 0 x (by omega)) ?_;rintro _ ⟨y,e3,rfl⟩ <;> refine⟨rfl,?_⟩)|(with_reducible apply And.intro)|exact aG|fail)
  (exact⟨[],[],⟨(k+1,xs++[y],v+1),aI⟩,aX,aI⟩)
 ·repeat' (first|refine gS ?_|refine sp ?_ ?_ <;> intro h|(with_reducible apply And.intro)|exact aG|fail)
  refine dP ?_
  exact⟨xs,wr,_,rfl,by omega,hw⟩
theorem decode18 (p sv deg grp w:Int) (l:List PAns) (hl:l.length≤1000) (hs:∀ a ∈ l,a.row.length≤1000000):DoesP Tryz.prog 169 [.ag [I p],.ag [I sv,I deg,I grp],I w,.d (dAns l)] (fun r=>∃ rs y e,r=.tu [.d (dRows rs),.d (dInts y),I e]∧(∀ x ∈ rs,x.length≤64)∧y.length≤1002∧(e=0→(rs.length:Int)=grp∧1≤grp)):=by
 refine⟨⟨_,[],[],1,rfl,by simp⟩,wE Tryz.func169 fun cx hm0=>?_⟩
 repeat' (first|refine gS ?_|refine sp ?_ ?_ <;> intro h|(exfalso;omega)|(refine gW (check18 p sv deg grp) ?_;rintro _ ⟨e,rfl,he⟩ <;> refine⟨rfl,?_⟩)|(refine gW (columns17 p sv _ w l hl hs) ?_;rintro _ ⟨ps,wr,e2,rfl,hp1,hp2,hw,hpw⟩ <;> refine⟨rfl,?_⟩)|(with_reducible apply And.intro)|exact aG|fail)
 all_goals try (refine dP ?_;exact⟨[],[],_,rfl,by simp,by simp,aQ⟩)
 have he:=he (by simp_all)
 have hpw:=hpw (by simp_all)
 obtain⟨W,rfl⟩:∃ W:Nat,w=W:=⟨w.toNat,by omega⟩
 obtain⟨G,rfl⟩:∃ G:Nat,grp=G:=⟨grp.toNat,by omega⟩
 have hz:∀ k:Nat,List.replicate k [D.at (Value.int IntKind.i64 0)]=(List.replicate k (0:Int)).map eI:=fun k=>by simp [eI]
 refine gl (κ:=Nat × (List (List Int)) × Nat) hm0 (fun q_=>(q_.1≤G∧q_.2.1.length=q_.1)∧∀ x ∈ q_.2.1,x.length≤64) (fun q_=>[(2,I W),(5,.bp 5 0 0),(12,.d (dRows ps)),(13,.d (dInts wr)),(15,.og 76 q_.2.2),(16,I q_.1)]) (fun q_=>[(5,.box 0 [I sv,I deg,I G]),(76,.arr q_.2.2 1 true (q_.2.1.map eR))]) (fun q_=>G-q_.1) [] [76] (0,[],0) ?_
 rintro⟨i,rs,v⟩ hI
 try simp only at hI ⊢
 try have hI2:=hI.2
 by_cases hi:i<G
 ·repeat' (first|refine gA hz ?_|refine sp ?_ ?_ <;> intro h|(with_reducible apply And.intro)|exact aG|fail)
  refine gl (κ:=Nat × (List Int)) hm0 (fun q_=>q_.1≤ps.length∧q_.2.length=W) (fun q_=>[(2,I W),(5,.bp 5 0 0),(12,.d (dRows ps)),(13,.d (dInts wr)),(15,.og 76 v),(16,I i),(17,.og 53 0),(54,.d (dRows ps)),(55,I ps.length),(56,I q_.1)]) (fun q_=>[(5,.box 0 [I sv,I deg,I G]),(53,.arr 0 1 true (q_.2.map eI)),(76,.arr v 1 true (rs.map eR))]) (fun q_=>ps.length-q_.1) [] [] (0,List.replicate W 0) ?_
  rintro⟨c,xs⟩ hI
  try simp only at hI ⊢
  try have hI2:=hI.2
  by_cases hc:c<ps.length
  ·have hs1:=getD_map eR [] [] ps c hc
   generalize ps.getD c []=x at *
   by_cases hix:i<x.length
   ·have hs2:=getD_map eI [] 0 x i hix
    have hs3:=getD_map eI [] 0 xs c (by omega)
    have hcx:c<xs.length:=by omega
    repeat' (first|simp (maxSteps:=9999999) only[↓GE,PQ,seval,hs1,hs2,hs3,hix,hcx,eR,eI]|refine gS ?_|refine sp ?_ ?_ <;> intro h|(with_reducible apply And.intro)|exact aG|fail)
    (exact⟨[],[],⟨(c+1,xs.set c (x.getD i 0)),aI⟩,aX,aI⟩)
   ·repeat' (first|refine gC hs1 eR.eq_1 eI.eq_1 ?_|refine sp ?_ ?_ <;> intro h|(with_reducible apply And.intro)|exact aG|fail)
    (exact⟨[],[],⟨(c+1,xs),aI⟩,aX,aI⟩)
  ·repeat' (first|refine gS ?_|refine sp ?_ ?_ <;> intro h|(with_reducible apply And.intro)|exact aG|fail)
   refine⟨[],[],⟨(i+1,rs++[xs],v+1),⟨aI,fun y hy=>?_⟩⟩,?_,aI⟩
   ·rcases List.mem_append.1 hy with hy|hy
    ·simp_all
    ·simp only[List.mem_singleton] at hy;subst hy;omega
   ·exact aY eR.eq_1
 ·repeat' (first|refine gS ?_|refine sp ?_ ?_ <;> intro h|(with_reducible apply And.intro)|exact aG|fail)
  refine dP ?_
  exact⟨rs,wr,_,rfl,hI2,hw,aQ⟩
end Go.Proofs.YticdbambknflgaaGreat.Sim
end
section
namespace Go.Proofs.YticdbambknflgaaGreat.Sim
open Go
set_option maxRecDepth 100000
set_option maxHeartbeats 4000000
set_option linter.unusedVariables false
set_option linter.unusedSimpArgs false
attribute [local irreducible] Go Mean
theorem decode23 (s:PSch) (p w ix:Int) (l:List PAns) (hl:l.length≤1000) (hs:∀ a ∈ l,a.row.length≤1000000):DoesP Tryz.prog 155 [vSch s,.ag [I p],I w,I ix,.d (dAns l)] (fun r=>∃ x y e,r=.tu [.ag [.d (dInts x),.d (dInts y)],I e]∧x.length≤64∧y.length≤1002):=by
 have e1:=valid23 s p
 refine⟨⟨_,[],[],1,rfl,by simp⟩,wE Tryz.func155 fun cx hm0=>?_⟩
 cases hv:vldB s p with
 |false =>
  repeat' (first|refine gA hv ?_|refine sp ?_ ?_ <;> intro h|refine gP e1 ?_|(with_reducible apply And.intro)|exact aG|fail)
  all_goals (refine dP ?_;exact⟨[],[],_,rfl,by simp,by simp⟩)
 |true =>
  have hS:=(vldB_iff.1 hv).1
  unfold SchOK at hS
  repeat' (first|refine gA hv ?_|refine sp ?_ ?_ <;> intro h|(exfalso;omega)|refine gP e1 ?_|(refine gW (decode16 p w l hl hs) ?_;rintro _ ⟨x,y,e,rfl,hx,hy⟩ <;> refine⟨rfl,?_⟩)|refine gP (plan23 s) ?_|refine gP (storage23 s) ?_|(refine gW (decode17 p s.sv s.deg w l hl hs) ?_;rintro _ ⟨x,y,e,rfl,hx,hy⟩ <;> refine⟨rfl,?_⟩)|(refine gW (decode18 p s.sv s.deg s.grp w l hl hs) ?_;rintro _ ⟨rs,y,e,rfl,hrs,hy,he⟩ <;> refine⟨rfl,?_⟩)|(with_reducible apply And.intro)|exact aG|fail)
  all_goals try first|(refine dP ?_;exact⟨[],[],_,rfl,by simp,by simp⟩)|(refine dP ?_;exact⟨_,_,_,rfl,by omega,by omega⟩)|(exfalso;omega)
  all_goals obtain⟨he1,he2⟩:=he (by simp_all)
  all_goals have ht1:0≤ix.tmod s.grp∧ix.tmod s.grp<s.grp:=⟨Int.tmod_nonneg _ (by omega),Int.tmod_lt_of_pos _ (by omega)⟩
  ·omega
  ·omega
  ·have hk:(ix.tmod s.grp).toNat<rs.length:=by omega
   have hs0:=getD_map eR [] [] rs _ hk
   have hx:=hrs _ (mem_getD [] rs _ hk)
   generalize rs.getD (ix.tmod s.grp).toNat []=x at *
   repeat' (first|refine gB hs0 eR.eq_1 ?_|refine sp ?_ ?_ <;> intro h|(with_reducible apply And.intro)|exact aG|fail)
   all_goals (refine dP ?_;exact⟨_,_,_,rfl,by omega,by omega⟩)
end Go.Proofs.YticdbambknflgaaGreat.Sim
end
section
namespace Go.Proofs.YticdbambknflgaaGreat.Sim
open Go
set_option maxRecDepth 100000
set_option maxHeartbeats 4000000
set_option linter.unusedVariables false
set_option linter.unusedSimpArgs false
attribute [local irreducible] Go Mean
theorem allA {α:Type} {P:α→Prop} {l:List α} {x:α} (h:∀ y ∈ l,P y) (hx:P x):∀ y ∈ l++[x],P y:=fun y hy=>by
 rcases List.mem_append.1 hy with hy|hy
 ·exact h y hy
 ·simp only[List.mem_singleton] at hy;subst hy;exact hx
theorem valid24 (rows:List Int) (cn:Int) (hr:rows.length≤1000000):DoesP Tryz.prog 91 [.d (dInts rows),I cn] (fun r=>∃ b,r=B b∧(b=true→1≤rows.length∧rows.length≤16∧1≤cn∧cn≤1024∧∀ x ∈ rows,-1≤x∧x<cn)):=by
 refine⟨⟨_,false,rfl,by simp⟩,wE Tryz.func91 fun cx hm0=>?_⟩
 repeat' (first|refine gS ?_|refine sp ?_ ?_ <;> intro h|(with_reducible apply And.intro)|exact aG|fail)
 all_goals try (refine dP ?_;exact⟨_,rfl,by simp⟩)
 refine gl (κ:=Nat) hm0 (fun q_=>q_≤rows.length∧∀ x ∈ rows.take q_,-1≤x∧x<cn) (fun q_=>[(0,.d (dInts rows)),(1,I cn),(5,I q_)]) (fun q_=>[]) (fun q_=>rows.length-q_) [] [] (0) ?_
 rintro k hI
 try simp only at hI ⊢
 try have hI2:=hI.2
 by_cases hk:k<rows.length
 ·have hs0:=getD_map eI [] 0 rows k hk
  have ht:=take_succ_getD 0 rows k hk
  generalize rows.getD k 0=x at *
  repeat' (first|refine gC hs0 hk eI.eq_1 ?_|refine sp ?_ ?_ <;> intro h|(with_reducible apply And.intro)|exact aG|fail)
  all_goals try (refine dP ?_;exact⟨_,rfl,by simp⟩)
  refine⟨[],[],⟨k+1,hk,fun y hy=>?_⟩,?_,aI⟩
  ·rw[ht] at hy
   rcases List.mem_append.1 hy with hy|hy
   ·exact hI.2 y hy
   ·simp only[List.mem_singleton] at hy
    subst hy
    omega
  ·exact aX
 ·have hall:=hI.2
  rw[List.take_of_length_le (by omega)] at hall
  repeat' (first|refine gS ?_|refine sp ?_ ?_ <;> intro h|(with_reducible apply And.intro)|exact aG|fail)
  refine dP ?_
  exact⟨_,rfl,fun _=>⟨by omega,by omega,by omega,by omega,hall⟩⟩
theorem limits24 (s:PSch) (p cn pr:Int):DoesP Tryz.prog 93 [vSch s,.ag [I p],I cn,I pr] (fun r=>∃ l e,r=.tu [.d (dInts l),I e]∧l.length≤320000):=by
 have e1:=valid23 s p
 refine⟨⟨_,[],1,rfl,by simp⟩,wE Tryz.func93 fun cx hm0=>?_⟩
 cases hv:vldB s p with
 |false =>
  repeat' (first|refine gA hv ?_|refine sp ?_ ?_ <;> intro h|refine gP e1 ?_|(with_reducible apply And.intro)|exact aG|fail)
  all_goals (refine dP ?_;exact⟨[],_,rfl,by simp⟩)
 |true =>
  repeat' (first|refine gA hv ?_|refine sp ?_ ?_ <;> intro h|refine gP e1 ?_|(with_reducible apply And.intro)|exact aG|fail)
  all_goals try (refine dP ?_;exact⟨[],_,rfl,by simp⟩)
  refine gl (κ:=Nat × Nat × (List Int)) hm0 (fun q_=>q_.1≤16∧q_.2.2.length≤q_.1*20000) (fun q_=>[(2,I cn),(3,I pr),(4,.bp 4 0 0),(5,.bp 5 0 0),(10,.og 49 q_.2.1),(11,I q_.1)]) (fun q_=>[(4,.box 0 [I s.kind,I s.sv,I s.deg,I s.grp]),(5,.box 0 [I p]),(49,.arr q_.2.1 1 true (q_.2.2.map eI))]) (fun q_=>16-q_.1) [] [49] (0,0,[]) ?_
  rintro⟨k,v,out⟩ hI
  try simp only at hI ⊢
  try have hI2:=hI.2
  by_cases hk:(k:Int)<pr
  ·repeat' (first|refine gA hk ?_|refine sp ?_ ?_ <;> intro h|(exfalso;omega)|(refine gW (limits23 s p cn) ?_;rintro _ ⟨l,e,rfl,hl⟩ <;> refine⟨rfl,?_⟩)|(with_reducible apply And.intro)|exact aG|fail)
   all_goals try (refine dP ?_;exact⟨[],_,rfl,by simp⟩)
   all_goals try (exfalso;omega)
   all_goals try omega
   refine⟨[],[],⟨(k+1,v+1,out++l),⟨by omega,by rw[List.length_append];simp only;omega⟩⟩,?_,aI⟩
   exact aX
  ·repeat' (first|refine gS ?_|refine sp ?_ ?_ <;> intro h|(with_reducible apply And.intro)|exact aG|fail)
   refine dP ?_
   exact⟨out,_,rfl,by omega⟩
theorem queries24 (s:PSch) (p cn:Int) (rows:List Int) (t:List Int) (a:Int) (hr:rows.length≤1000000) (ht:t.length≤1000000) (h3:3≤s.sv) (h6:s.sv≤6):DoesP Tryz.prog 128 [vSch s,.ag [I p],I cn,.d (dInts rows),vTape t a] (fun r=>∃ q u b e,r=.tu [.d (dQs q),vTape u b,I e]∧u.length≤1000000∧q.length≤16∧(∀ y ∈ q,y.length≤10∧∀ x ∈ y,x.length≤1024)∧(e=0→q.length=rows.length∧1≤rows.length∧rows.length≤16∧∀ y ∈ q,(y.length:Int)=s.sv)):=by
 have e1:=valid23 s p
 refine⟨⟨_,[],[],0,1,rfl,by simp⟩,wE Tryz.func128 fun cx hm0=>?_⟩
 cases hv:vldB s p with
 |false =>
  repeat' (first|refine gA hv ?_|refine sp ?_ ?_ <;> intro h|refine gP e1 ?_|(with_reducible apply And.intro)|exact aG|fail)
  all_goals (refine dP ?_;exact⟨[],[],_,_,rfl,by simp,by simp,by simp,aQ⟩)
 |true =>
  repeat' (first|refine gA hv ?_|refine sp ?_ ?_ <;> intro h|(exfalso;omega)|refine gP e1 ?_|(refine gW (valid24 rows cn hr) ?_;rintro _ ⟨b,rfl,hb⟩ <;> refine⟨rfl,?_⟩)|(with_reducible apply And.intro)|exact aG|fail)
  all_goals try (refine dP ?_;exact⟨[],[],_,_,rfl,by simp,by simp,by simp,aQ⟩)
  obtain⟨g1,g2,g3,g4,g5⟩:=hb (by simp_all)
  refine gl (κ:=Nat × Nat × (List Int) × Int × (List (List (List Int)))) hm0 (fun q_=>(q_.1≤rows.length∧q_.2.2.2.2.length=q_.1∧q_.2.2.1.length≤1000000)∧∀ y ∈ q_.2.2.2.2,(y.length≤10∧(y.length:Int)=s.sv)∧∀ x ∈ y,x.length≤1024) (fun q_=>[(2,I cn),(3,.d (dInts rows)),(5,.bp 5 0 0),(6,.bp 6 0 0),(9,.bp 9 0 0),(11,.bp 11 0 0),(13,.og 55 q_.2.1),(14,I q_.1)]) (fun q_=>[(5,.box 0 [I s.kind,I s.sv,I s.deg,I s.grp]),(6,.box 0 [I p]),(9,.box 0 [.d (dInts q_.2.2.1),I q_.2.2.2.1]),(11,.box 0 [.nl 1,I 0]),(55,.arr q_.2.1 1 true (q_.2.2.2.2.map eQ))]) (fun q_=>rows.length-q_.1) [] [55] (0,0,t,a,[]) ?_
  rintro⟨k,v,u,b,q⟩ hI
  try simp only at hI ⊢
  try have hI2:=hI.2
  by_cases hk:k<rows.length
  ·have hs0:=getD_map eI [] 0 rows k hk
   generalize rows.getD k 0=x at *
   repeat' (first|refine gC hs0 hk eI.eq_1 ?_|refine sp ?_ ?_ <;> intro h|(exfalso;omega)|(refine gW (queries23 s p cn (max x 0) u b (by omega) h3 h6) ?_;rintro _ ⟨q1,u1,b1,e,rfl,hu1,hq1,hx1,he⟩ <;> refine⟨rfl,?_⟩)|(with_reducible apply And.intro)|exact aG|fail)
   all_goals try (refine dP ?_;exact⟨[],[],_,_,rfl,by simp,by simp,by simp,aQ⟩)
   refine⟨[],[],⟨(k+1,v+1,u1,b1,q++[q1]),⟨aI,allA hI.2 ⟨⟨by omega,he (by simp_all)⟩,hx1⟩⟩⟩,?_,aI⟩
   simp only[GeZ];(simp only[GeS];refine⟨?_,?_,?_,?_⟩;all_goals (repeat' (first|(with_reducible exact True.intro)|(with_reducible rfl)|simp only[XC,↓reduceIte,seval]|(with_reducible apply And.intro)|(refine⟨_,rfl,?_⟩)|(simp [eQ,List.map_append,List.map_cons,List.map_nil];done)|exact aS|fail)))
  ·repeat' (first|refine gS ?_|refine sp ?_ ?_ <;> intro h|(with_reducible apply And.intro)|exact aG|fail)
   refine dP ?_
   refine⟨q,u,b,0,rfl,by omega,by omega,fun y hy=>⟨(hI.2 y hy).1.1,(hI.2 y hy).2⟩,fun _=>⟨by omega,by omega,by omega,fun y hy=>(hI.2 y hy).1.2⟩⟩
theorem decode24 (s:PSch) (p w:Int) (rows:List Int) (l:List (List PAns)) (hr:rows.length≤1000000) (hl:l.length≤1000000) (hl1:∀ x ∈ l,x.length≤1000) (hl2:∀ x ∈ l,∀ a ∈ x,a.row.length≤1000000):DoesP Tryz.prog 135 [vSch s,.ag [I p],I w,.d (dInts rows),.d (dAnss l)] (fun r=>∃ o e,r=.tu [.d (dOuts o),I e]∧o.length≤16∧∀ x ∈ o,x.row.length≤64∧x.wrong.length≤1002):=by
 have e1:=valid23 s p
 refine⟨⟨_,[],1,rfl,by simp⟩,wE Tryz.func135 fun cx hm0=>?_⟩
 cases hv:vldB s p with
 |false =>
  repeat' (first|refine gA hv ?_|refine sp ?_ ?_ <;> intro h|refine gP e1 ?_|(with_reducible apply And.intro)|exact aG|fail)
  all_goals (refine dP ?_;exact⟨[],_,rfl,by simp,by simp⟩)
 |true =>
  repeat' (first|refine gA hv ?_|refine sp ?_ ?_ <;> intro h|refine gP e1 ?_|(with_reducible apply And.intro)|exact aG|fail)
  all_goals try (refine dP ?_;exact⟨[],_,rfl,by simp,by simp⟩)
  refine gl (κ:=Nat) hm0 (fun q_=>q_≤rows.length) (fun q_=>[(2,I w),(3,.d (dInts rows)),(4,.d (dAnss l)),(5,.bp 5 0 0),(6,.bp 6 0 0),(12,I q_)]) (fun q_=>[(5,.box 0 [I s.kind,I s.sv,I s.deg,I s.grp]),(6,.box 0 [I p])]) (fun q_=>rows.length-q_) [] [] (0) ?_
  rintro k hI
  try simp only at hI ⊢
  try have hI2:=hI.2
  by_cases hk:k<rows.length
  ·have hs0:=getD_map eI [] 0 rows k hk
   generalize rows.getD k 0=x at *
   repeat' (first|refine gC hs0 hk eI.eq_1 ?_|refine sp ?_ ?_ <;> intro h|(with_reducible apply And.intro)|exact aG|fail)
   all_goals try (refine dP ?_;exact⟨[],_,rfl,by simp,by simp⟩)
   (exact⟨[],[],⟨(k+1),aI⟩,aX,aI⟩)
  clear hI
  repeat' (first|refine gS ?_|refine sp ?_ ?_ <;> intro h|(with_reducible apply And.intro)|exact aG|fail)
  all_goals try (refine dP ?_;exact⟨[],_,rfl,by simp,by simp⟩)
  have hlr:l.length=rows.length:=by simp at *;omega
  refine gl (κ:=Nat × Nat × (List POut)) hm0 (fun q_=>(q_.1≤rows.length∧q_.2.2.length=q_.1)∧∀ x ∈ q_.2.2,x.row.length≤64∧x.wrong.length≤1002) (fun q_=>[(2,I w),(3,.d (dInts rows)),(4,.d (dAnss l)),(5,.bp 5 0 0),(6,.bp 6 0 0),(13,.og 83 q_.2.1),(14,I q_.1)]) (fun q_=>[(5,.box 0 [I s.kind,I s.sv,I s.deg,I s.grp]),(6,.box 0 [I p]),(83,.arr q_.2.1 3 true (q_.2.2.map eOut))]) (fun q_=>rows.length-q_.1) [] [83] (0,0,[]) ?_
  rintro⟨k,v,o⟩ hI
  try simp only at hI ⊢
  try have hI2:=hI.2
  by_cases hk:k<rows.length
  ·have hs0:=getD_map eI [] 0 rows k hk
   have hs1:=getD_map eAnss [] [] l k (by omega)
   have hx:=hl1 _ (mem_getD [] l k (by omega))
   have hx2:=hl2 _ (mem_getD [] l k (by omega))
   generalize rows.getD k 0=x at *
   generalize l.getD k []=y at *
   repeat' (first|simp (maxSteps:=9999999) only[↓GE,PQ,seval,hs0,hs1,hk,eI,eAnss]|refine gS ?_|refine sp ?_ ?_ <;> intro h|(exfalso;omega)|(refine gW (decode23 s p w (max x 0) y hx hx2) ?_;rintro _ ⟨rw1,wr1,e,rfl,hrw,hwr⟩ <;> refine⟨rfl,?_⟩)|(with_reducible apply And.intro)|exact aG|fail)
   ·refine⟨[],[],⟨(k+1,v+1,o++[⟨e,[],wr1⟩]),⟨aI,allA hI.2 ⟨by simp,hwr⟩⟩⟩,?_,aI⟩
    exact aY eOut.eq_1
   ·refine⟨[],[],⟨(k+1,v+1,o++[⟨e,rw1,wr1⟩]),⟨aI,allA hI.2 ⟨hrw,hwr⟩⟩⟩,?_,aI⟩
    exact aY eOut.eq_1
  ·repeat' (first|refine gS ?_|refine sp ?_ ?_ <;> intro h|(with_reducible apply And.intro)|exact aG|fail)
   refine dP ?_
   refine⟨o,_,rfl,by omega,hI.2⟩
end Go.Proofs.YticdbambknflgaaGreat.Sim
end
section
namespace Go.Proofs.YticdbambknflgaaGreat.Sim
open Go
set_option maxRecDepth 100000
set_option maxHeartbeats 4000000
set_option linter.unusedVariables false
set_option linter.unusedSimpArgs false
attribute [local irreducible] Go Mean
structure PNote where
 kind:Int
 read:Int
 probe:Int
 server:Int
 version:Int
 query:List Int
 values:List Int
 mark:Int
def eNote (n:PNote):List D:=[iD n.kind,iD n.read,iD n.probe,iD n.server,iD n.version,dInts n.query,dInts n.values,iD n.mark]
abbrev dNotes (l:List PNote):D:=.sl 8 (l.map eNote)
abbrev vNote (n:PNote):V:=.ag [I n.kind,I n.read,I n.probe,I n.server,I n.version,.d (dInts n.query),.d (dInts n.values),I n.mark]
abbrev vChan (l:List PNote):V:=.ag [.d (dNotes l)]
def noNote:PNote:=⟨0,0,0,0,0,[],[],0⟩
structure PHeld where
 hd:PHead
 rows:List (List Int)
def eHeld (h:PHeld):List D:=[iD h.hd.num,iD h.hd.p,iD h.hd.count,iD h.hd.width,iD h.hd.root,dRows h.rows]
abbrev dHelds (l:List PHeld):D:=.sl 6 (l.map eHeld)
def noHeld:PHeld:=⟨⟨0,0,0,0,0⟩,[]⟩
structure PJob where
 read:Int
 probe:Int
 version:Int
 query:List Int
 done:List Int
def eJob (j:PJob):List D:=[iD j.read,iD j.probe,iD j.version,dInts j.query,dInts j.done]
abbrev dJobs (l:List PJob):D:=.sl 5 (l.map eJob)
def noJob:PJob:=⟨0,0,0,[],[]⟩
structure PSrv where
 id:Int
 s:PSch
 up:Bool
 vers:List PHeld
 jobs:List PJob
def eSrv (v:PSrv):List D:=[iD v.id,iD v.s.kind,iD v.s.sv,iD v.s.deg,iD v.s.grp,bD v.up,dHelds v.vers,dJobs v.jobs]
abbrev vSrv (v:PSrv):V:=.ag [I v.id,I v.s.kind,I v.s.sv,I v.s.deg,I v.s.grp,B v.up,.d (dHelds v.vers),.d (dJobs v.jobs)]
abbrev dSrvs (l:List PSrv):D:=.sl 8 (l.map eSrv)
def noSrv:PSrv:=⟨0,⟨0,0,0,0⟩,false,[],[]⟩
structure PRd where
 read:Int
 s:PSch
 h:PHead
 rows:List Int
 queries:List (List (List Int))
 answers:List (List PAns)
 marks:List (List Int)
 ended:Bool
def eRd (r:PRd):List D:=[iD r.read,iD r.s.kind,iD r.s.sv,iD r.s.deg,iD r.s.grp,iD r.h.num,iD r.h.p,iD r.h.count,iD r.h.width,iD r.h.root,dInts r.rows,dQs r.queries,dAnss r.answers,dRows r.marks,bD r.ended]
abbrev vRd (r:PRd):V:=.ag [I r.read,I r.s.kind,I r.s.sv,I r.s.deg,I r.s.grp,I r.h.num,I r.h.p,I r.h.count,I r.h.width,I r.h.root,.d (dInts r.rows),.d (dQs r.queries),.d (dAnss r.answers),.d (dRows r.marks),B r.ended]
abbrev dRds (l:List PRd):D:=.sl 15 (l.map eRd)
def noRd:PRd:=⟨0,⟨0,0,0,0⟩,⟨0,0,0,0,0⟩,[],[],[],[],false⟩
structure PStart where
 read:Int
 version:Int
 p:Int
 fr:Int
 draws:Int
def eStart (s:PStart):List D:=[iD s.read,iD s.version,iD s.p,iD s.fr,iD s.draws]
abbrev vStart (s:PStart):V:=.ag [I s.read,I s.version,I s.p,I s.fr,I s.draws]
abbrev dStarts (l:List PStart):D:=.sl 5 (l.map eStart)
def noStart:PStart:=⟨0,0,0,0,0⟩
structure PDisk where
 seed:Int
 drawn:Int
 begun:List PStart
abbrev vDisk (d:PDisk):V:=.ag [I d.seed,I d.drawn,.d (dStarts d.begun)]
structure PPins where
 rows:List (Int × Int)
 kept:List Int
abbrev vPins (p:PPins):V:=.ag [.d (dTwos p.rows),.d (dInts p.kept)]
structure PWorld where
 s:PSch
 people:List (Int × Int)
 tabs:List PTab
 srv:List PSrv
 flight:List PNote
 rd:List PRd
 disk:PDisk
 pins:PPins
 liars:List Int
 results:List (List D)
abbrev vWd (w:PWorld) (a b c:V):V:=.ag [I w.s.kind,I w.s.sv,I w.s.deg,I w.s.grp,.d (dTwos w.people),.d (dTabs w.tabs),a,.d (dNotes w.flight),b,I w.disk.seed,I w.disk.drawn,.d (dStarts w.disk.begun),.d (dTwos w.pins.rows),.d (dInts w.pins.kept),.d (dInts w.liars),c]
abbrev vWorld (w:PWorld):V:=vWd w (.d (dSrvs w.srv)) (.d (dRds w.rd)) (.d (.sl 4 w.results))
end Go.Proofs.YticdbambknflgaaGreat.Sim
end
section
namespace Go.Proofs.YticdbambknflgaaGreat.Sim
open Go
set_option maxRecDepth 100000
set_option maxHeartbeats 4000000
set_option linter.unusedVariables false
set_option linter.unusedSimpArgs false
attribute [local irreducible] Go Mean
theorem doesD {P:Program} {f:FuncId} {xs:List V} {r:V} (h:DoesP P f xs (fun r'=>r'=r)):Does P f xs [] r [] []:=fun w hd S X us h1 h2 h3=>(h.2 w hd S X us h1 h2 h3).mono fun e w' h=>by
 obtain⟨r',bx',⟨rfl,rfl⟩,h⟩:=h
 exact h
def findN (l:List PHeld) (n:Int):Nat:=l.findIdx fun h=>h.hd.num == n
def findI (l:List PHeld) (n:Int):Int:=if findN l n<l.length then (findN l n:Int) else -1
theorem findI_none {l:List PHeld} {n:Int} (h:∀ x ∈ l,x.hd.num ≠ n):findI l n=-1:=by
 rw[findI,if_neg]
 intro hlt
 have:=List.findIdx_getElem (w:=hlt)
 simp only[beq_iff_eq] at this
 exact h _ (List.getElem_mem _) this
theorem findI_at {l:List PHeld} {n:Int} {k:Nat} (hk:k<l.length) (h:∀ x ∈ l.take k,x.hd.num ≠ n) (he:(l.getD k noHeld).hd.num=n):findI l n=k:=by
 have:findN l n=k:=by
  refine (List.findIdx_eq hk).2 ⟨?_,fun j hj=>?_⟩
  ·rw[List.getD_eq_getElem?_getD,List.getElem?_eq_getElem hk] at he
   simpa using he
  ·have:=h (l[j]'(by omega)) (by rw[List.mem_take_iff_getElem];exact⟨j,by omega,rfl⟩)
   simpa using this
 rw[findI,this,if_pos hk]
theorem findI_lt {l:List PHeld} {n:Int} (h:0≤findI l n):(findI l n).toNat<l.length∧(l.getD (findI l n).toNat noHeld).hd.num=n∧l.find? (fun h=>h.hd.num == n)=some (l.getD (findI l n).toNat noHeld):=by
 rw[findI] at h ⊢
 by_cases hk:findN l n<l.length
 ·rw[if_pos hk] at h ⊢
  simp only[Int.toNat_natCast]
  have hget:l.getD (findN l n) noHeld=l[findN l n]:=by rw[List.getD_eq_getElem?_getD,List.getElem?_eq_getElem hk];rfl
  have hp:(l[findN l n]).hd.num=n:=by
   have:=List.findIdx_getElem (w:=hk)
   simp only[beq_iff_eq] at this
   exact this
  refine⟨hk,by rw[hget];exact hp,?_⟩
  rw[hget,List.find?_eq_some_iff_getElem]
  refine⟨by simp only[beq_iff_eq];exact hp,findN l n,hk,rfl,fun j hj=>?_⟩
  have:=List.not_of_lt_findIdx (p:=fun h:PHeld=>h.hd.num == n) (xs:=l) hj
  rw[this];rfl
 ·rw[if_neg hk] at h;omega
theorem findI_neg {l:List PHeld} {n:Int} (h:findI l n<0):∀ x ∈ l,x.hd.num ≠ n:=by
 intro x hx he
 rw[findI] at h
 split at h
 ·omega
 ·rename_i hk
  exact hk (List.findIdx_lt_length_of_exists ⟨x,hx,by simpa using he⟩)
theorem findI_bd (l:List PHeld) (n:Int):-1≤findI l n∧findI l n<l.length:=by
 rw[findI];split <;> omega
theorem find30 (v:PSrv) (n:Int) (hl:v.vers.length≤1000):Does Tryz.prog 118 [vSrv v,I n] [] (I (findI v.vers n)) [] []:=by
 refine wD Tryz.func118 fun cx hm0=>?_
 repeat' (first|refine gS ?_|refine sp ?_ ?_ <;> intro h|(with_reducible apply And.intro)|exact aG|fail)
 refine gl (κ:=Nat) hm0 (fun q_=>q_≤v.vers.length∧∀ x ∈ v.vers.take q_,x.hd.num ≠ n) (fun q_=>[(1,I n),(2,.bp 2 0 0),(5,I q_)]) (fun q_=>[(2,.box 0 [I v.id,I v.s.kind,I v.s.sv,I v.s.deg,I v.s.grp,B v.up,.d (dHelds v.vers),.d (dJobs v.jobs)])]) (fun q_=>v.vers.length-q_) [] [] (0) ?_
 rintro k hI
 try simp only at hI ⊢
 try have hI2:=hI.2
 by_cases hk:k<v.vers.length
 ·have hs0:=getD_map eHeld [] noHeld v.vers k hk
  have ht:=take_succ_getD noHeld v.vers k hk
  have hat:=findI_at (n:=n) hk hI.2
  generalize v.vers.getD k noHeld=x at *
  repeat' (first|refine gC hs0 hk eHeld.eq_1 ?_|refine sp ?_ ?_ <;> intro h|(with_reducible apply And.intro)|exact aG|fail)
  ·exact rtF [] (hat (by assumption))
  ·refine⟨[],[],⟨k+1,hk,?_⟩,?_,aI⟩
   ·rw[ht];exact allA hI.2 (by assumption)
   ·exact aX
 ·have hall:=hI.2
  rw[List.take_of_length_le (by omega)] at hall
  have hn:=findI_none hall
  repeat' (first|refine gS ?_|refine sp ?_ ?_ <;> intro h|(with_reducible apply And.intro)|exact aG|fail)
  exact rtF [] hn
theorem crash30 (v:PSrv):Does Tryz.prog 65 [vSrv v] [] (vSrv { v with up:=false,jobs:=[] }) [] []:=by
 refine doesD ⟨⟨_,rfl⟩,wE Tryz.func65 fun cx hm0=>?_⟩
 repeat' (first|refine gS ?_|refine sp ?_ ?_ <;> intro h|(with_reducible apply And.intro)|exact aG|fail)
 all_goals (refine dP ?_;exact rfl)
theorem start30 (v:PSrv):DoesP Tryz.prog 100 [vSrv v] (fun r=>∃ u e,r=.tu [vSrv { v with up:=u },I e]):=by
 refine⟨⟨_,false,1,rfl⟩,wE Tryz.func100 fun cx hm0=>?_⟩
 obtain⟨id,s,up,vers,jobs⟩:=v
 repeat' (first|refine gS ?_|refine sp ?_ ?_ <;> intro h|(with_reducible apply And.intro)|exact aG|fail)
 all_goals (refine dP ?_;exact⟨_,_,rfl⟩)
def numN (n:PNote):List Int:=[n.kind,n.read,n.probe,n.server,n.version,n.query.length]++n.query++[(n.values.length:Int)]++n.values
theorem numbers30 (n:PNote) (hq:n.query.length≤1000000) (hv:n.values.length≤1000000):Does Tryz.prog 133 [vNote n] [] (.d (dInts (numN n))) [] []:=by
 refine doesD ⟨⟨_,rfl⟩,wE Tryz.func133 fun cx hm0=>?_⟩
 repeat' (first|simp (maxSteps:=9999999) only[↓GE,PQ,seval,List.length_append]|refine gS ?_|refine sp ?_ ?_ <;> intro h|(with_reducible apply And.intro)|exact aG|fail)
 all_goals try omega
 all_goals (refine dP ?_;simp [numN,eI,I])
end Go.Proofs.YticdbambknflgaaGreat.Sim
end
section
namespace Go.Proofs.YticdbambknflgaaGreat.Sim
open Go
set_option maxRecDepth 100000
set_option maxHeartbeats 4000000
set_option linter.unusedVariables false
set_option linter.unusedSimpArgs false
attribute [local irreducible] Go Mean
theorem send31 (c l:List PNote) (hc:c.length≤1000000) (hl:l.length≤1000000):DoesP Tryz.prog 96 [vChan c,.d (dNotes l)] (fun r=>∃ c' e,r=.tu [vChan c',I e]∧(c'=c∨(c'=c++l∧c'.length≤256))):=by
 refine⟨⟨_,c,1,rfl,.inl rfl⟩,wE Tryz.func96 fun cx hm0=>?_⟩
 repeat' (first|simp (maxSteps:=9999999) only[↓GE,PQ,seval,List.length_append]|refine gS ?_|refine sp ?_ ?_ <;> intro h|(with_reducible apply And.intro)|exact aG|fail)
 all_goals try (refine dP ?_;exact⟨c,_,rfl,.inl rfl⟩)
 refine dP ?_
 refine⟨c++l,0,?_,.inr ⟨rfl,by rw[List.length_append];omega⟩⟩
 simp
theorem look31 (c:List PNote) (n:Int) (hc:c.length≤1000000):DoesP Tryz.prog 60 [vChan c,I n] (fun r=>∃ x e,r=.tu [vNote x,I e]∧(e=0∨e=6)∧(e=0→0≤n∧n<c.length∧x ∈ c)):=by
 refine⟨⟨_,noNote,6,rfl,by simp⟩,wE Tryz.func60 fun cx hm0=>?_⟩
 by_cases hn:0≤n∧n<c.length
 ·obtain⟨k,rfl⟩:∃ k:Nat,n=k:=⟨n.toNat,by omega⟩
  have hk:k<c.length:=by omega
  have hs0:=getD_map eNote [] noNote c k hk
  have hm:=mem_getD noNote c k hk
  generalize c.getD k noNote=x at *
  repeat' (first|refine gC hs0 hk eNote.eq_1 ?_|refine sp ?_ ?_ <;> intro h|(with_reducible apply And.intro)|exact aG|fail)
  all_goals try (exfalso;omega)
  refine dP ?_
  exact⟨x,_,rfl,by simp,fun _=>⟨by omega,by omega,hm⟩⟩
 ·repeat' (first|refine gS ?_|refine sp ?_ ?_ <;> intro h|(with_reducible apply And.intro)|exact aG|fail)
  all_goals try (exfalso;omega)
  all_goals (refine dP ?_;exact⟨noNote,_,rfl,by simp,aQ⟩)
theorem take31 (c:List PNote) (n:Int) (hc:c.length≤1000000):DoesP Tryz.prog 62 [vChan c,I n] (fun r=>∃ c' x e,r=.tu [vChan c',vNote x,I e]∧c'.length≤c.length∧(∀ y ∈ c',y ∈ c)∧(e=0→x ∈ c)):=by
 refine⟨⟨_,c,noNote,6,rfl,by simp,by simp,by simp⟩,wE Tryz.func62 fun cx hm0=>?_⟩
 by_cases hn:0≤n∧n<c.length
 ·obtain⟨k,rfl⟩:∃ k:Nat,n=k:=⟨n.toNat,by omega⟩
  have hk:k<c.length:=by omega
  have htk:(c.map eNote).take c.length=c.map eNote:=List.take_of_length_le (by simp)
  have hq:(c.take k).length≤1000000∧(c.drop (k+1)).length≤1000000:=by rw[List.length_take,List.length_drop];omega
  have w1:IntKind.i64.wrap ((k:Int)+1)=((k+1:Nat):Int):=by rw[IntWalk.i64_in _ (by omega)];omega
  repeat' (first|simp (maxSteps:=9999999) only[↓GE,PQ,seval,w1,htk,List.length_append,← List.map_take,← List.map_drop]|refine gS ?_|refine sp ?_ ?_ <;> intro h|(exfalso;omega)|(refine gW (look31 c k hc) ?_;rintro _ ⟨x,e,rfl,he0,he⟩ <;> refine⟨rfl,?_⟩)|(with_reducible apply And.intro)|exact aG|fail)
  all_goals try (refine dP ?_;exact⟨c,noNote,_,rfl,by simp,by simp,by simp_all⟩)
  refine dP ?_
  refine⟨c.take k++c.drop (k+1),x,0,by simp [I],by simp only[List.length_append,List.length_take,List.length_drop];omega,fun y hy=>?_,fun _=>(he (by simp_all)).2.2⟩
  rcases List.mem_append.1 hy with hy|hy
  ·exact List.mem_of_mem_take hy
  ·exact List.mem_of_mem_drop hy
 ·repeat' (first|refine gS ?_|refine sp ?_ ?_ <;> intro h|(exfalso;omega)|(refine gW (look31 c n hc) ?_;rintro _ ⟨x,e,rfl,he0,he⟩ <;> refine⟨rfl,?_⟩)|(with_reducible apply And.intro)|exact aG|fail)
  all_goals try (refine dP ?_;exact⟨c,noNote,_,rfl,by simp,by simp,by simp_all⟩)
  all_goals exact absurd (he (by simp_all)) (fun h=>hn ⟨h.1,h.2.1⟩)
theorem drop31 (c:List PNote) (n:Int) (hc:c.length≤1000000):DoesP Tryz.prog 109 [vChan c,I n] (fun r=>∃ c',r=vChan c'∧c'.length≤c.length∧∀ y ∈ c',y ∈ c):=by
 refine⟨⟨_,c,rfl,by simp,by simp⟩,wE Tryz.func109 fun cx hm0=>?_⟩
 repeat' (first|refine gS ?_|refine sp ?_ ?_ <;> intro h|(with_reducible apply And.intro)|exact aG|fail)
 refine gl (κ:=Nat × Nat × (List PNote)) hm0 (fun q_=>(q_.1≤c.length∧q_.2.2.length≤q_.1)∧∀ y ∈ q_.2.2,y ∈ c) (fun q_=>[(1,I n),(2,.bp 2 0 0),(4,.bp 4 0 0),(5,.og 29 q_.2.1),(6,I q_.1)]) (fun q_=>[(2,.box 0 [.d (dNotes c)]),(4,.box 0 [.nl 8]),(29,.arr q_.2.1 8 true (q_.2.2.map eNote))]) (fun q_=>c.length-q_.1) [] [29] (0,0,[]) ?_
 rintro⟨k,v,o⟩ hI
 try simp only at hI ⊢
 try have hI2:=hI.2
 by_cases hk:k<c.length
 ·have hs0:=getD_map eNote [] noNote c k hk
  have hm:=mem_getD noNote c k hk
  generalize c.getD k noNote=x at *
  repeat' (first|refine gC hs0 hk eNote.eq_1 ?_|refine sp ?_ ?_ <;> intro h|(with_reducible apply And.intro)|exact aG|fail)
  all_goals try (exfalso;omega)
  ·refine⟨[],[],⟨(k+1,v+1,o++[x]),⟨aI,allA hI.2 hm⟩⟩,?_,aI⟩
   exact aY eNote.eq_1
  ·(exact⟨[],[],⟨(k+1,v,o),aI⟩,aX,aI⟩)
 ·repeat' (first|refine gS ?_|refine sp ?_ ?_ <;> intro h|(with_reducible apply And.intro)|exact aG|fail)
  refine dP ?_
  exact⟨o,rfl,by omega,hI.2⟩
theorem ints31 (a b:List Int) (ha:a.length≤1000000) (hb:b.length≤1000000):Does Tryz.prog 28 [.d (dInts a),.d (dInts b)] [] (B (decide (a=b))) [] []:=by
 refine wD Tryz.func28 fun cx hm0=>?_
 by_cases hl:a.length=b.length
 case neg =>
  have hne:¬ a=b:=fun h=>hl (congrArg List.length h)
  have hr1:((a.length:Int) != b.length)=true:=by simp;omega
  repeat' (first|refine gA hr1 ?_|refine sp ?_ ?_ <;> intro h|(with_reducible apply And.intro)|exact aG|fail)
  all_goals exact rtF [] (decide_eq_false hne)
 repeat' (first|refine gA hl ?_|refine sp ?_ ?_ <;> intro h|(with_reducible apply And.intro)|exact aG|fail)
 refine gl (κ:=Nat) hm0 (fun q_=>q_≤a.length∧a.take q_=b.take q_) (fun q_=>[(0,.d (dInts a)),(1,.d (dInts b)),(5,I q_)]) (fun q_=>[]) (fun q_=>a.length-q_) [] [] (0) ?_
 rintro k hI
 try simp only at hI ⊢
 try have hI2:=hI.2
 by_cases hk:k<a.length
 ·have hs0:=getD_map eI [] 0 a k hk
  have hs1:=getD_map eI [] 0 b k (by omega)
  have ht:=take_succ_getD 0 a k hk
  have ht2:=take_succ_getD 0 b k (by omega)
  have hkb:k<b.length:=by omega
  by_cases hx:a.getD k 0=b.getD k 0
  ·have hr1:(a.getD k 0 != b.getD k 0)=false:=by simpa using hx
   rw[hx] at hs0 ht
   repeat' (first|simp (maxSteps:=9999999) only[↓GE,PQ,seval,hs0,hs1,hk,hkb,eI]|refine gS ?_|refine sp ?_ ?_ <;> intro h|(with_reducible apply And.intro)|exact aG|fail)
   all_goals try (exfalso;omega)
   refine⟨[],[],⟨k+1,hk,by rw[ht,ht2,hI.2]⟩,?_,aI⟩
   exact aX
  ·have hne:¬ a=b:=fun h=>hx (by rw[h])
   generalize a.getD k 0=x at *
   generalize b.getD k 0=y at *
   repeat' (first|simp (maxSteps:=9999999) only[↓GE,PQ,seval,hs0,hs1,hk,hkb,eI]|refine gS ?_|refine sp ?_ ?_ <;> intro h|(with_reducible apply And.intro)|exact aG|fail)
   all_goals first|(exfalso;omega)|(exfalso;simp_all;done)|exact rtF [] (decide_eq_false hne)
 ·have he:=hI.2
  rw[List.take_of_length_le (by omega),List.take_of_length_le (by omega)] at he
  repeat' (first|refine gS ?_|refine sp ?_ ?_ <;> intro h|(with_reducible apply And.intro)|exact aG|fail)
  all_goals try (exfalso;omega)
  exact rtF [] (decide_eq_true he)
end Go.Proofs.YticdbambknflgaaGreat.Sim
end
