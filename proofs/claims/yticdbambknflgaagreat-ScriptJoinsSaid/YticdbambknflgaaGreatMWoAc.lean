/- Queries (scheme). -/
import Derived.Test.YticdbambknflgaaGreatMWoE
import Derived.Test.YticdbambknflgaaGreatMWoP6
import Derived.Test.YticdbambknflgaaGreatMSimSl
import Derived.Test.YticdbambknflgaaGreatMWoQ
section
namespace Go.Proofs.YticdbambknflgaaGreat.Sim
open Go
set_option maxRecDepth 100000
set_option maxHeartbeats 4000000
set_option linter.unusedVariables false
set_option linter.unusedSimpArgs false
attribute [local irreducible] Go Mean
theorem map_slice {α β:Type} (f:α→β) (l:List α) (a b:Nat):((l.map f).take b).drop a=((l.take b).drop a).map f:=by rw[← List.map_take,← List.map_drop]
theorem queries16 (p rows sv ix:Int) (t:List Int) (a:Int) (ht:t.length≤1000000):DoesP Tryz.prog 162 [.ag [I p],I rows,I sv,I ix,vTape t a] (fun r=>∃ q u b e,r=.tu [.d (dRows q),vTape u b,I e]∧u.length≤1000000∧q.length≤10∧(∀ x ∈ q,x.length≤1024)∧(e=0→(q.length:Int)=sv)):=by
 refine⟨⟨_,[],[],0,1,rfl,by simp⟩,wE Tryz.func162 fun cx hm0=>?_⟩
 repeat' (first|refine gS ?_|refine sp ?_ ?_ <;> intro h|(exfalso;omega)|(refine gW (limits16 p rows sv) ?_;rintro _ ⟨l0,e,rfl,hl0,he⟩ <;> refine⟨rfl,?_⟩)|(with_reducible apply And.intro)|exact aG|fail)
 all_goals try (refine dP ?_;exact⟨[],[],_,_,rfl,by simp,by simp,by simp,aQ⟩)
 obtain⟨hf,h1,h2,h3,h4⟩:=he (by simp_all)
 have hp:=(fieldB_iff.1 hf).1
 obtain⟨R,rfl⟩:∃ R:Nat,rows=R:=⟨rows.toNat,by omega⟩
 obtain⟨S,rfl⟩:∃ S:Nat,sv=((S+1:Nat):Int):=⟨(sv-1).toNat,by omega⟩
 have hRS:R*S≤1024*9:=Nat.mul_le_mul (by omega) (by omega)
 have w1:IntKind.i64.wrap (((S+1:Nat):Int)-1)=(S:Int):=by rw[IntWalk.i64_in _ (by omega)];omega
 have w2:IntKind.i64.wrap ((R:Int)*(S:Int))=((R*S:Nat):Int):=by rw[← Int.natCast_mul,IntWalk.i64_in _ (by omega)]
 have w2':IntKind.i64.wrap ((R:Int)*(((S+1:Nat):Int)-1))=((R*S:Nat):Int):=by rw[show ((S+1:Nat):Int)-1=(S:Int) by omega];exact w2
 have hz:∀ k:Nat,List.replicate k [D.at (Value.int IntKind.i64 0)]=(List.replicate k (0:Int)).map eI:=fun k=>by simp [eI]
 have hix:ix.toNat<(List.replicate R (0:Int)).length:=by rw[List.length_replicate];omega
 have hg0:=getD_map eI [] 0 (List.replicate R (0:Int)) ix.toNat hix
 have hix2:ix.toNat<R:=by omega
 rw[w1,w2]
 (refine gW (draws2 t a p ((R*S:Nat):Int) ht (by omega)) ?_;rintro _ ⟨u,b,l,e,rfl,hu,hl,hle⟩ <;> refine⟨rfl,?_⟩)
 repeat' (first|simp (maxSteps:=9999999) only[↓GE,PQ,seval,hz,hg0,hix2,eI,List.length_replicate]|refine gS ?_|refine sp ?_ ?_ <;> intro h|(with_reducible apply And.intro)|exact aG|fail)
 all_goals try (refine dP ?_;exact⟨[],[],_,_,rfl,by simp,by simp,by simp,aQ⟩)
 have hll:l.length=R*S:=by have:=hle (by simp_all);omega
 refine gl (κ:=Nat × (List Int) × (List (List Int)) × Nat) hm0 (fun q_=>(q_.1≤S∧q_.2.1.length=R∧q_.2.2.1.length=q_.1)∧∀ x ∈ q_.2.2.1,x.length≤1024) (fun q_=>[(1,I R),(2,I (S+1:Nat)),(5,.bp 5 0 0),(9,.bp 9 0 0),(11,.bp 11 0 0),(15,.d (dInts l)),(17,.og 59 0),(18,.og 105 q_.2.2.2),(19,I q_.1)]) (fun q_=>[(5,.box 0 [I p]),(9,.box 0 [.d (dInts u),I b]),(11,.box 0 [.nl 1,I 0]),(59,.arr 0 1 true (q_.2.1.map eI)),(105,.arr q_.2.2.2 1 true (q_.2.2.1.map eR))]) (fun q_=>S-q_.1) [] [105] (0,(List.replicate R (0:Int)).set ix.toNat 1,[],0) ?_
 rintro⟨j,la,out,v⟩ hI
 try simp only at hI ⊢
 try have hI2:=hI.2
 by_cases hj:j<S
 ·have h5:(j+1)*R≤S*R:=Nat.mul_le_mul_right _ hj
  have h6:(j+1)*R=j*R+R:=by rw[Nat.add_mul,Nat.one_mul]
  have h7:S*R=R*S:=Nat.mul_comm _ _
  have w3:IntKind.i64.wrap ((j:Int)*(R:Int))=((j*R:Nat):Int):=by rw[← Int.natCast_mul,IntWalk.i64_in _ (by omega)]
  have w4:IntKind.i64.wrap ((j:Int)+1)=((j+1:Nat):Int):=by rw[IntWalk.i64_in _ (by omega)];omega
  have w5:IntKind.i64.wrap (((j+1:Nat):Int)*(R:Int))=(((j+1)*R:Nat):Int):=by rw[← Int.natCast_mul,IntWalk.i64_in _ (by omega)]
  have hsl:=map_slice eI l (j*R) ((j+1)*R)
  have hql:((l.take ((j+1)*R)).drop (j*R)).length=R:=by rw[List.length_drop,List.length_take];omega
  have hb1:(j+1)*R≤l.length:=by omega
  have hb2:j*R≤(j+1)*R:=by omega
  generalize (l.take ((j+1)*R)).drop (j*R)=q at *
  repeat' (first|simp (maxSteps:=9999999) only[↓GE,PQ,seval,w1,w3,w4,w5,hsl,hql,hb1,hb2]|refine gS ?_|refine sp ?_ ?_ <;> intro h|(with_reducible apply And.intro)|exact aG|fail)
  refine gl (κ:=Nat × (List Int)) hm0 (fun q_=>q_.1≤R∧q_.2.length=R) (fun q_=>[(1,I R),(2,I (S+1:Nat)),(5,.bp 5 0 0),(9,.bp 9 0 0),(11,.bp 11 0 0),(15,.d (dInts l)),(17,.og 59 0),(18,.og 105 v),(19,I j),(20,.og 78 0),(79,.og 78 0),(80,I R),(81,I q_.1)]) (fun q_=>[(5,.box 0 [I p]),(9,.box 0 [.d (dInts u),I b]),(11,.box 0 [.nl 1,I 0]),(59,.arr 0 1 true (q_.2.map eI)),(78,.arr 0 1 true (q.map eI)),(105,.arr v 1 true (out.map eR))]) (fun q_=>R-q_.1) [] [] (0,la) ?_
  rintro⟨i,la⟩ hI
  try simp only at hI ⊢
  try have hI2:=hI.2
  by_cases hi:i<R
  ·have hs1:=getD_map eI [] 0 q i (by omega)
   have hs2:=getD_map eI [] 0 la i (by omega)
   have hi2:i<la.length:=by omega
   generalize q.getD i 0=x at *
   generalize la.getD i 0=y at *
   repeat' (first|simp (maxSteps:=9999999) only[↓GE,PQ,seval,hs1,hs2,hi,hi2,hql,eI]|refine gS ?_|refine sp ?_ ?_ <;> intro h|(with_reducible apply And.intro)|exact aG|fail)
   (exact⟨[],[],⟨(i+1,la.set i ((IntKind.i64.wrap (IntKind.i64.wrap (y+p)-x)).tmod p)),aI⟩,aX,aI⟩)
  ·repeat' (first|refine gA hql ?_|refine sp ?_ ?_ <;> intro h|(with_reducible apply And.intro)|exact aG|fail)
   refine⟨[],[],⟨(j+1,la,out++[q],v+1),⟨aI,fun y hy=>?_⟩⟩,?_,aI⟩
   ·rcases List.mem_append.1 hy with hy|hy
    ·simp_all
    ·simp only[List.mem_singleton] at hy;subst hy;omega
   ·exact aY eR.eq_1
 ·repeat' (first|refine gS ?_|refine sp ?_ ?_ <;> intro h|(with_reducible apply And.intro)|exact aG|fail)
  refine dP ?_
  refine⟨out++[la],u,b,0,by simp [eR,I],hu,by simp;omega,fun y hy=>?_,fun _=>by simp;omega⟩
  rcases List.mem_append.1 hy with hy|hy
  ·exact hI.2 y hy
  ·simp only[List.mem_singleton] at hy;subst hy;omega
theorem decode16 (p w:Int) (l:List PAns) (hl:l.length≤1000) (hs:∀ a ∈ l,a.row.length≤1000000):DoesP Tryz.prog 167 [.ag [I p],I w,.d (dAns l)] (fun r=>∃ x y e,r=.tu [.ag [.d (dInts x),.d (dInts y)],I e]∧x.length≤64∧y.length≤1000):=by
 refine⟨⟨_,[],[],1,rfl,by simp⟩,wE Tryz.func167 fun cx hm0=>?_⟩
 have hz:∀ k:Nat,List.replicate k [D.at (Value.int IntKind.i64 0)]=(List.replicate k (0:Int)).map eI:=fun k=>by simp [eI]
 cases hf:fieldB p with
 |false =>
  repeat' (first|refine gA hf ?_|refine sp ?_ ?_ <;> intro h|refine gP (r3check p) ?_|(with_reducible apply And.intro)|exact aG|fail)
  all_goals (refine dP ?_;exact⟨[],[],_,rfl,by simp,by simp⟩)
 |true =>
  have hp:=(fieldB_iff.1 hf).1
  repeat' (first|refine gB hf hz ?_|refine sp ?_ ?_ <;> intro h|refine gP (r3check p) ?_|(with_reducible apply And.intro)|exact aG|fail)
  all_goals try (refine dP ?_;exact⟨[],[],_,rfl,by simp,by simp⟩)
  obtain⟨W,rfl⟩:∃ W:Nat,w=W:=⟨w.toNat,by omega⟩
  refine gl (κ:=Nat × (List Int)) hm0 (fun q_=>q_.1≤l.length∧q_.2.length=W) (fun q_=>[(1,I W),(3,.bp 3 0 0),(6,.bp 6 0 0),(9,.og 38 0),(39,.d (dAns l)),(40,I l.length),(41,I q_.1)]) (fun q_=>[(3,.box 0 [I p]),(6,.box 0 [.nl 1,.nl 1]),(38,.arr 0 1 true (q_.2.map eI))]) (fun q_=>l.length-q_.1) [] [] (0,List.replicate W 0) ?_
  rintro⟨k,sm⟩ hI
  try simp only at hI ⊢
  try have hI2:=hI.2
  by_cases hk:k<l.length
  ·have hs0:=getD_map eAns [] noAns l k hk
   have hx:=hs _ (mem_getD noAns l k hk)
   generalize l.getD k noAns=x at *
   obtain⟨kn,row⟩:=x
   cases kn with
   |false =>
    repeat' (first|refine gB hs0 eAns.eq_1 ?_|refine sp ?_ ?_ <;> intro h|(with_reducible apply And.intro)|exact aG|fail)
    all_goals (refine dP ?_;exact⟨[],[],_,rfl,by simp,by simp⟩)
   |true =>
    repeat' (first|refine gC hf hs0 eAns.eq_1 ?_|refine sp ?_ ?_ <;> intro h|refine gP (r3in p row (by simp only at hx;omega)) ?_|(with_reducible apply And.intro)|exact aG|fail)
    all_goals try (refine dP ?_;exact⟨[],[],_,rfl,by simp,by simp⟩)
    have hrl:row.length=W:=by simp at *;omega
    refine gl (κ:=Nat × (List Int)) hm0 (fun q_=>q_.1≤W∧q_.2.length=W) (fun q_=>[(1,I W),(3,.bp 3 0 0),(6,.bp 6 0 0),(9,.og 38 0),(39,.d (dAns l)),(40,I l.length),(41,I k),(62,.d (dInts row)),(63,I W),(64,I q_.1)]) (fun q_=>[(3,.box 0 [I p]),(6,.box 0 [.nl 1,.nl 1]),(38,.arr 0 1 true (q_.2.map eI))]) (fun q_=>W-q_.1) [] [] (0,sm) ?_ (h0:=(aY hrl))
    rintro⟨i,sm⟩ hI
    try simp only at hI ⊢
    try have hI2:=hI.2
    by_cases hi:i<W
    ·have hs1:=getD_map eI [] 0 row i (by omega)
     have hs2:=getD_map eI [] 0 sm i (by omega)
     have hi2:i<sm.length:=by omega
     generalize row.getD i 0=x at *
     generalize sm.getD i 0=y at *
     repeat' (first|simp (maxSteps:=9999999) only[↓GE,PQ,seval,hs1,hs2,hi,hi2,hrl,eI]|refine gS ?_|refine sp ?_ ?_ <;> intro h|(with_reducible apply And.intro)|exact aG|fail)
     (exact⟨[],[],⟨(i+1,sm.set i ((IntKind.i64.wrap (y+x)).tmod p)),aI⟩,aX,aI⟩)
    ·repeat' (first|refine gS ?_|refine sp ?_ ?_ <;> intro h|(with_reducible apply And.intro)|exact aG|fail)
     (exact⟨[],[],⟨(k+1,sm),aI⟩,aX,aI⟩)
  ·repeat' (first|refine gS ?_|refine sp ?_ ?_ <;> intro h|(with_reducible apply And.intro)|exact aG|fail)
   refine dP ?_
   exact⟨sm,[],_,rfl,by omega,by simp⟩
end Go.Proofs.YticdbambknflgaaGreat.Sim
end
section
namespace Go.Proofs.YticdbambknflgaaGreat.Sim
open Go
set_option maxRecDepth 100000
set_option maxHeartbeats 4000000
set_option linter.unusedVariables false
set_option linter.unusedSimpArgs false
attribute [local irreducible] Go Mean
theorem queries17_6 (p deg rows ix:Int) (t:List Int) (a:Int) (ht:t.length≤1000000):DoesP Tryz.prog 163 [.ag [I p],.ag [I 6,I deg],I rows,I ix,vTape t a] (fun r=>∃ q u b e,r=.tu [.d (dRows q),vTape u b,I e]∧u.length≤1000000∧q.length≤10∧(∀ x ∈ q,x.length≤1024)∧(e=0→(q.length:Int)=6)):=by
 refine⟨⟨_,[],[],0,1,rfl,by simp⟩,wE' Tryz.func163 fun cx hm0=>Awp.mayseal (go_in 5000 ?_)⟩
 repeat' (first|refine gS ?_|refine sp ?_ ?_ <;> intro h|(exfalso;omega)|(refine gW (limits17 p 6 deg rows) ?_;rintro _ ⟨l0,e,rfl,hl0,he⟩ <;> refine⟨rfl,?_⟩)|(with_reducible apply And.intro)|exact aG|fail)
 all_goals try (refine .inl ?_;refine dP ?_;exact⟨[],[],_,_,rfl,by simp,by simp,by simp,aQ⟩)
 obtain⟨hf,h1,h2,h3,h4,h5,h6,h7⟩:=he (by simp_all)
 obtain⟨u0,hu0⟩:∃ u,u=t:=⟨t,rfl⟩
 subst hu0
 refine gl (κ:=Nat × (List Int) × Int × (List Int) × (List Int) × (List Int) × (List Int) × (List Int) × (List Int) × Nat × Nat × Nat × Nat × Nat × Nat) hm0 (fun q_=>(q_.1:Int)≤rows∧q_.2.1.length≤1000000∧q_.2.2.2.1.length≤q_.1∧q_.2.2.2.2.1.length≤q_.1∧q_.2.2.2.2.2.1.length≤q_.1∧q_.2.2.2.2.2.2.1.length≤q_.1∧q_.2.2.2.2.2.2.2.1.length≤q_.1∧q_.2.2.2.2.2.2.2.2.1.length≤q_.1) (fun q_=>[(2,I rows),(3,I ix),(5,.bp 5 0 0),(6,.bp 6 0 0),(9,.bp 9 0 0),(11,.bp 11 0 0),(15,.ep 44 0 6 1),(16,I q_.1)]) (fun q_=>[(5,.box 0 [I p]),(6,.box 0 [I 6,I deg]),(9,.box 0 [.d (dInts q_.2.1),I q_.2.2.1]),(11,.box 0 [.nl 1,I 0]),(44,.box 0 [.og 5000 q_.2.2.2.2.2.2.2.2.2.1,.og 5001 q_.2.2.2.2.2.2.2.2.2.2.1,.og 5002 q_.2.2.2.2.2.2.2.2.2.2.2.1,.og 5003 q_.2.2.2.2.2.2.2.2.2.2.2.2.1,.og 5004 q_.2.2.2.2.2.2.2.2.2.2.2.2.2.1,.og 5005 q_.2.2.2.2.2.2.2.2.2.2.2.2.2.2]),(5000,.arr q_.2.2.2.2.2.2.2.2.2.1 1 true (q_.2.2.2.1.map eI)),(5001,.arr q_.2.2.2.2.2.2.2.2.2.2.1 1 true (q_.2.2.2.2.1.map eI)),(5002,.arr q_.2.2.2.2.2.2.2.2.2.2.2.1 1 true (q_.2.2.2.2.2.1.map eI)),(5003,.arr q_.2.2.2.2.2.2.2.2.2.2.2.2.1 1 true (q_.2.2.2.2.2.2.1.map eI)),(5004,.arr q_.2.2.2.2.2.2.2.2.2.2.2.2.2.1 1 true (q_.2.2.2.2.2.2.2.1.map eI)),(5005,.arr q_.2.2.2.2.2.2.2.2.2.2.2.2.2.2 1 true (q_.2.2.2.2.2.2.2.2.1.map eI))]) (fun q_=>(rows-q_.1).toNat) [] [5000,5001,5002,5003,5004,5005] (0,u0,a,[],[],[],[],[],[],0,0,0,0,0,0) ?_
 rintro⟨i,u,b,l0,l1,l2,l3,l4,l5,v0,v1,v2,v3,v4,v5⟩ hI
 try simp only at hI ⊢
 try have hI2:=hI.2
 by_cases hi:(i:Int)<rows
 ·have r0:decide ((i:Int)<rows)=true:=decide_eq_true hi
  by_cases hx:(i:Int)=ix
  all_goals
   first
   |have q1:((i:Int) == ix)=true:=by rw[beq_iff_eq];exact hx
   |have q1:((i:Int) == ix)=false:=by rw[beq_eq_false_iff_ne];exact hx
  all_goals
   repeat' (first|refine gB r0 q1 ?_|refine sp ?_ ?_ <;> intro h|(exfalso;omega)|(refine gW (split7 p _ deg 6 u b hI.2.1) ?_;rintro _ ⟨sh,u2,b2,e2,rfl,hu2,hsh⟩ <;> refine⟨rfl,?_⟩)|(with_reducible apply And.intro)|exact aG|fail)
  all_goals try (refine .inl ?_;refine dP ?_;exact⟨[],[],_,_,rfl,by simp,by simp,by simp,aQ⟩)
  all_goals
   have hshl:sh.length=6:=by have:=hsh (by simp_all);omega
   refine gl (κ:=Nat × (List Int) × (List Int) × (List Int) × (List Int) × (List Int) × (List Int) × Nat × Nat × Nat × Nat × Nat × Nat) hm0 (fun q_=>q_.1≤6∧((0<q_.1∨q_.2.1.length≤i)∧q_.2.1.length≤i+1)∧((1<q_.1∨q_.2.2.1.length≤i)∧q_.2.2.1.length≤i+1)∧((2<q_.1∨q_.2.2.2.1.length≤i)∧q_.2.2.2.1.length≤i+1)∧((3<q_.1∨q_.2.2.2.2.1.length≤i)∧q_.2.2.2.2.1.length≤i+1)∧((4<q_.1∨q_.2.2.2.2.2.1.length≤i)∧q_.2.2.2.2.2.1.length≤i+1)∧((5<q_.1∨q_.2.2.2.2.2.2.1.length≤i)∧q_.2.2.2.2.2.2.1.length≤i+1)) (fun q_=>[(2,I rows),(3,I ix),(5,.bp 5 0 0),(6,.bp 6 0 0),(9,.bp 9 0 0),(11,.bp 11 0 0),(15,.ep 44 0 6 1),(16,I i),(70,.d (dTwos sh)),(71,I 6),(72,I q_.1)]) (fun q_=>[(5,.box 0 [I p]),(6,.box 0 [I 6,I deg]),(9,.box 0 [.d (dInts u2),I b2]),(11,.box 0 [.nl 1,I 0]),(44,.box 0 [.og 5000 q_.2.2.2.2.2.2.2.1,.og 5001 q_.2.2.2.2.2.2.2.2.1,.og 5002 q_.2.2.2.2.2.2.2.2.2.1,.og 5003 q_.2.2.2.2.2.2.2.2.2.2.1,.og 5004 q_.2.2.2.2.2.2.2.2.2.2.2.1,.og 5005 q_.2.2.2.2.2.2.2.2.2.2.2.2]),(5000,.arr q_.2.2.2.2.2.2.2.1 1 true (q_.2.1.map eI)),(5001,.arr q_.2.2.2.2.2.2.2.2.1 1 true (q_.2.2.1.map eI)),(5002,.arr q_.2.2.2.2.2.2.2.2.2.1 1 true (q_.2.2.2.1.map eI)),(5003,.arr q_.2.2.2.2.2.2.2.2.2.2.1 1 true (q_.2.2.2.2.1.map eI)),(5004,.arr q_.2.2.2.2.2.2.2.2.2.2.2.1 1 true (q_.2.2.2.2.2.1.map eI)),(5005,.arr q_.2.2.2.2.2.2.2.2.2.2.2.2 1 true (q_.2.2.2.2.2.2.1.map eI))]) (fun q_=>6-q_.1) [] [] (0,l0,l1,l2,l3,l4,l5,v0,v1,v2,v3,v4,v5) ?_ (h0:=(aY hshl))
   rintro⟨c,l0,l1,l2,l3,l4,l5,v0,v1,v2,v3,v4,v5⟩ hI
   try simp only at hI ⊢
   try have hI2:=hI.2
   have hc:c=0∨c=1∨c=2∨c=3∨c=4∨c=5∨c=6:=by omega
   rcases hc with rfl|rfl|rfl|rfl|rfl|rfl|rfl
   ·have hs:=getD_map eTwo [] (0,0) sh 0 (by omega)
    have hk:0<sh.length:=by omega
    generalize sh.getD 0 (0,0)=x at *
    repeat' (first|simp (maxSteps:=9999999) only[↓GE,PQ,seval,hs,hk,hshl,eTwo,eI]|refine gS ?_|refine sp ?_ ?_ <;> intro h|(with_reducible apply And.intro)|exact aG|fail)
    (exact⟨[],[],⟨(1,l0++[x.2],l1,l2,l3,l4,l5,v0+1,v1,v2,v3,v4,v5),aI⟩,aX,aI⟩)
   ·have hs:=getD_map eTwo [] (0,0) sh 1 (by omega)
    have hk:1<sh.length:=by omega
    generalize sh.getD 1 (0,0)=x at *
    repeat' (first|simp (maxSteps:=9999999) only[↓GE,PQ,seval,hs,hk,hshl,eTwo,eI]|refine gS ?_|refine sp ?_ ?_ <;> intro h|(with_reducible apply And.intro)|exact aG|fail)
    (exact⟨[],[],⟨(2,l0,l1++[x.2],l2,l3,l4,l5,v0,v1+1,v2,v3,v4,v5),aI⟩,aX,aI⟩)
   ·have hs:=getD_map eTwo [] (0,0) sh 2 (by omega)
    have hk:2<sh.length:=by omega
    generalize sh.getD 2 (0,0)=x at *
    repeat' (first|simp (maxSteps:=9999999) only[↓GE,PQ,seval,hs,hk,hshl,eTwo,eI]|refine gS ?_|refine sp ?_ ?_ <;> intro h|(with_reducible apply And.intro)|exact aG|fail)
    (exact⟨[],[],⟨(3,l0,l1,l2++[x.2],l3,l4,l5,v0,v1,v2+1,v3,v4,v5),aI⟩,aX,aI⟩)
   ·have hs:=getD_map eTwo [] (0,0) sh 3 (by omega)
    have hk:3<sh.length:=by omega
    generalize sh.getD 3 (0,0)=x at *
    repeat' (first|simp (maxSteps:=9999999) only[↓GE,PQ,seval,hs,hk,hshl,eTwo,eI]|refine gS ?_|refine sp ?_ ?_ <;> intro h|(with_reducible apply And.intro)|exact aG|fail)
    (exact⟨[],[],⟨(4,l0,l1,l2,l3++[x.2],l4,l5,v0,v1,v2,v3+1,v4,v5),aI⟩,aX,aI⟩)
   ·have hs:=getD_map eTwo [] (0,0) sh 4 (by omega)
    have hk:4<sh.length:=by omega
    generalize sh.getD 4 (0,0)=x at *
    repeat' (first|simp (maxSteps:=9999999) only[↓GE,PQ,seval,hs,hk,hshl,eTwo,eI]|refine gS ?_|refine sp ?_ ?_ <;> intro h|(with_reducible apply And.intro)|exact aG|fail)
    (exact⟨[],[],⟨(5,l0,l1,l2,l3,l4++[x.2],l5,v0,v1,v2,v3,v4+1,v5),aI⟩,aX,aI⟩)
   ·have hs:=getD_map eTwo [] (0,0) sh 5 (by omega)
    have hk:5<sh.length:=by omega
    generalize sh.getD 5 (0,0)=x at *
    repeat' (first|simp (maxSteps:=9999999) only[↓GE,PQ,seval,hs,hk,hshl,eTwo,eI]|refine gS ?_|refine sp ?_ ?_ <;> intro h|(with_reducible apply And.intro)|exact aG|fail)
    (exact⟨[],[],⟨(6,l0,l1,l2,l3,l4,l5++[x.2],v0,v1,v2,v3,v4,v5+1),aI⟩,aX,aI⟩)
   ·repeat' (first|refine gS ?_|refine sp ?_ ?_ <;> intro h|(with_reducible apply And.intro)|exact aG|fail)
    (exact⟨[],[],⟨(i+1,u2,b2,l0,l1,l2,l3,l4,l5,v0,v1,v2,v3,v4,v5),aI⟩,aX,aI⟩)
 ·repeat' (first|refine gS ?_|refine sp ?_ ?_ <;> intro h|(with_reducible apply And.intro)|exact aG|fail)
  refine .inr (seal_mk 10 44 (v:=0) (n:=6) (q:=1) (cs:=[.og 5000 v0,.og 5001 v1,.og 5002 v2,.og 5003 v3,.og 5004 v4,.og 5005 v5]) (ds:=[dInts l0,dInts l1,dInts l2,dInts l3,dInts l4,dInts l5]) ?_ ?_ rfl (by simp [maxLen]) ?_ ?_ ?_)
  ·exact aR
  ·exact aR
  ·exact aR
  ·exact aR
  ·refine dP ?_
   exact⟨[l0,l1,l2,l3,l4,l5],u,b,0,rfl,hI.2.1,by simp,by simp;omega,by simp⟩
end Go.Proofs.YticdbambknflgaaGreat.Sim
end
section
namespace Go.Proofs.YticdbambknflgaaGreat.Sim
open Go
set_option maxRecDepth 100000
set_option maxHeartbeats 4000000
set_option linter.unusedVariables false
set_option linter.unusedSimpArgs false
attribute [local irreducible] Go Mean
theorem queries18_5 (p deg grp gs ix:Int) (t:List Int) (a:Int) (ht:t.length≤1000000):DoesP Tryz.prog 164 [.ag [I p],.ag [I 5,I deg,I grp],I gs,I ix,vTape t a] (fun r=>∃ q u b e,r=.tu [.d (dRows q),vTape u b,I e]∧u.length≤1000000∧q.length≤10∧(∀ x ∈ q,x.length≤1024)∧(e=0→(q.length:Int)=5)):=by
 refine⟨⟨_,[],[],0,1,rfl,by simp⟩,wE' Tryz.func164 fun cx hm0=>Awp.mayseal (go_in 5000 ?_)⟩
 repeat' (first|refine gS ?_|refine sp ?_ ?_ <;> intro h|(exfalso;omega)|(refine gW (limits18 p 5 deg grp gs) ?_;rintro _ ⟨l0,e,rfl,hl0,he⟩ <;> refine⟨rfl,?_⟩)|(with_reducible apply And.intro)|exact aG|fail)
 all_goals try (refine .inl ?_;refine dP ?_;exact⟨[],[],_,_,rfl,by simp,by simp,by simp,aQ⟩)
 obtain⟨hf,h1,h2,h3,h4,h5,h6,h7,h8,h9,h10⟩:=he (by simp_all)
 obtain⟨G,rfl⟩:∃ G:Nat,grp=G:=⟨grp.toNat,by omega⟩
 obtain⟨u0,hu0⟩:∃ u,u=t:=⟨t,rfl⟩
 subst hu0
 have hz:∀ k:Nat,List.replicate k [D.at (Value.int IntKind.i64 0)]=(List.replicate k (0:Int)).map eI:=fun k=>by simp [eI]
 have hG:∃ g,G=g+1:=⟨G-1,by omega⟩
 have hap:∀ l:List Int,(List.replicate G (0:Int)).map eI++l.map eI=(List.replicate G (0:Int)++l).map eI:=fun l=>List.map_append.symm
 have hs0:∀ l:List Int,((List.replicate G (0:Int)++l).map eI).getD 0 []=eI 0:=fun l=>by obtain⟨g,rfl⟩:=hG;simp [List.replicate_succ]
 have hset:∀ l:List Int,((List.replicate G (0:Int)++l).map eI).set 0 [D.at (Value.int IntKind.i64 1)]=((List.replicate G (0:Int)++l).set 0 1).map eI:=fun l=>by simp [eI,List.map_set]
 have hln:∀ l:List Int,0<(List.replicate G (0:Int)++l).length:=fun l=>by simp;omega
 refine gl (κ:=Nat × (List Int) × Int × (List Int) × (List Int) × (List Int) × (List Int) × (List Int) × Nat × Nat × Nat × Nat × Nat) hm0 (fun q_=>(q_.1:Int)≤gs∧q_.2.1.length≤1000000∧q_.2.2.2.1.length≤q_.1∧q_.2.2.2.2.1.length≤q_.1∧q_.2.2.2.2.2.1.length≤q_.1∧q_.2.2.2.2.2.2.1.length≤q_.1∧q_.2.2.2.2.2.2.2.1.length≤q_.1) (fun q_=>[(2,I gs),(3,I ix),(5,.bp 5 0 0),(6,.bp 6 0 0),(9,.bp 9 0 0),(11,.bp 11 0 0),(15,.ep 45 0 5 1),(16,I q_.1)]) (fun q_=>[(5,.box 0 [I p]),(6,.box 0 [I 5,I deg,I G]),(9,.box 0 [.d (dInts q_.2.1),I q_.2.2.1]),(11,.box 0 [.nl 1,I 0]),(45,.box 0 [.og 5000 q_.2.2.2.2.2.2.2.2.1,.og 5001 q_.2.2.2.2.2.2.2.2.2.1,.og 5002 q_.2.2.2.2.2.2.2.2.2.2.1,.og 5003 q_.2.2.2.2.2.2.2.2.2.2.2.1,.og 5004 q_.2.2.2.2.2.2.2.2.2.2.2.2]),(5000,.arr q_.2.2.2.2.2.2.2.2.1 1 true (q_.2.2.2.1.map eI)),(5001,.arr q_.2.2.2.2.2.2.2.2.2.1 1 true (q_.2.2.2.2.1.map eI)),(5002,.arr q_.2.2.2.2.2.2.2.2.2.2.1 1 true (q_.2.2.2.2.2.1.map eI)),(5003,.arr q_.2.2.2.2.2.2.2.2.2.2.2.1 1 true (q_.2.2.2.2.2.2.1.map eI)),(5004,.arr q_.2.2.2.2.2.2.2.2.2.2.2.2 1 true (q_.2.2.2.2.2.2.2.1.map eI))]) (fun q_=>(gs-q_.1).toNat) [] [5000,5001,5002,5003,5004] (0,u0,a,[],[],[],[],[],0,0,0,0,0) ?_
 rintro⟨i,u,b,l0,l1,l2,l3,l4,v0,v1,v2,v3,v4⟩ hI
 try simp only at hI ⊢
 try have hI2:=hI.2
 by_cases hi:(i:Int)<gs
 ·have r0:decide ((i:Int)<gs)=true:=decide_eq_true hi
  by_cases hx:(i:Int)=ix
  all_goals
   first
   |have q1:((i:Int) == ix)=true:=by rw[beq_iff_eq];exact hx
   |have q1:((i:Int) == ix)=false:=by rw[beq_eq_false_iff_ne];exact hx
  all_goals
   repeat' (first|simp (maxSteps:=9999999) only[↓GE,PQ,seval,r0,q1,hz,hap,hs0,hset,hln,eI,List.length_replicate]|refine gS ?_|refine sp ?_ ?_ <;> intro h|(exfalso;omega)|(refine gW (draws2 u b p deg hI.2.1 (by omega)) ?_;rintro _ ⟨u2,b2,l,e2,rfl,hu2,hll,hle⟩ <;> refine⟨rfl,?_⟩)|(with_reducible apply And.intro)|exact aG|fail)
  all_goals try (refine .inl ?_;refine dP ?_;exact⟨[],[],_,_,rfl,by simp,by simp,by simp,aQ⟩)
  all_goals
   have hle:=hle (by simp_all)
   first
   |(obtain⟨pl,hpl⟩:∃ pl:List Int,(List.replicate G (0:Int)++l).set 0 1=pl:=⟨_,rfl⟩
     rw[hpl])
   |(obtain⟨pl,hpl⟩:∃ pl:List Int,List.replicate G (0:Int)++l=pl:=⟨_,rfl⟩
     rw[hpl])
   have hpll:pl.length≤100:=by rw[← hpl];simp;omega
   refine gl (κ:=Nat × (List Int) × (List Int) × (List Int) × (List Int) × (List Int) × Nat × Nat × Nat × Nat × Nat) hm0 (fun q_=>q_.1≤5∧((0<q_.1∨q_.2.1.length≤i)∧q_.2.1.length≤i+1)∧((1<q_.1∨q_.2.2.1.length≤i)∧q_.2.2.1.length≤i+1)∧((2<q_.1∨q_.2.2.2.1.length≤i)∧q_.2.2.2.1.length≤i+1)∧((3<q_.1∨q_.2.2.2.2.1.length≤i)∧q_.2.2.2.2.1.length≤i+1)∧((4<q_.1∨q_.2.2.2.2.2.1.length≤i)∧q_.2.2.2.2.2.1.length≤i+1)) (fun q_=>[(2,I gs),(3,I ix),(5,.bp 5 0 0),(6,.bp 6 0 0),(9,.bp 9 0 0),(11,.bp 11 0 0),(15,.ep 45 0 5 1),(16,I i),(20,.d (dInts pl)),(21,I (q_.1+1:Nat))]) (fun q_=>[(5,.box 0 [I p]),(6,.box 0 [I 5,I deg,I G]),(9,.box 0 [.d (dInts u2),I b2]),(11,.box 0 [.nl 1,I 0]),(45,.box 0 [.og 5000 q_.2.2.2.2.2.2.1,.og 5001 q_.2.2.2.2.2.2.2.1,.og 5002 q_.2.2.2.2.2.2.2.2.1,.og 5003 q_.2.2.2.2.2.2.2.2.2.1,.og 5004 q_.2.2.2.2.2.2.2.2.2.2]),(5000,.arr q_.2.2.2.2.2.2.1 1 true (q_.2.1.map eI)),(5001,.arr q_.2.2.2.2.2.2.2.1 1 true (q_.2.2.1.map eI)),(5002,.arr q_.2.2.2.2.2.2.2.2.1 1 true (q_.2.2.2.1.map eI)),(5003,.arr q_.2.2.2.2.2.2.2.2.2.1 1 true (q_.2.2.2.2.1.map eI)),(5004,.arr q_.2.2.2.2.2.2.2.2.2.2 1 true (q_.2.2.2.2.2.1.map eI))]) (fun q_=>5-q_.1) [.og 68 1] [] (0,l0,l1,l2,l3,l4,v0,v1,v2,v3,v4) ?_
   rintro⟨c,l0,l1,l2,l3,l4,v0,v1,v2,v3,v4⟩ hI
   try simp only at hI ⊢
   try have hI2:=hI.2
   have hc:c=0∨c=1∨c=2∨c=3∨c=4∨c=5:=by omega
   rcases hc with rfl|rfl|rfl|rfl|rfl|rfl
   ·repeat' (first|refine gA eI.eq_1 ?_|refine sp ?_ ?_ <;> intro h|(exfalso;omega)|(refine gW (Value5 p _ pl (by omega)) ?_;rintro _ ⟨y,e3,rfl⟩ <;> refine⟨rfl,?_⟩)|(with_reducible apply And.intro)|exact aG|fail)
    (exact⟨[],[],⟨(1,l0++[y],l1,l2,l3,l4,v0+1,v1,v2,v3,v4),aI⟩,aX,aI⟩)
   ·repeat' (first|refine gA eI.eq_1 ?_|refine sp ?_ ?_ <;> intro h|(exfalso;omega)|(refine gW (Value5 p _ pl (by omega)) ?_;rintro _ ⟨y,e3,rfl⟩ <;> refine⟨rfl,?_⟩)|(with_reducible apply And.intro)|exact aG|fail)
    (exact⟨[],[],⟨(2,l0,l1++[y],l2,l3,l4,v0,v1+1,v2,v3,v4),aI⟩,aX,aI⟩)
   ·repeat' (first|refine gA eI.eq_1 ?_|refine sp ?_ ?_ <;> intro h|(exfalso;omega)|(refine gW (Value5 p _ pl (by omega)) ?_;rintro _ ⟨y,e3,rfl⟩ <;> refine⟨rfl,?_⟩)|(with_reducible apply And.intro)|exact aG|fail)
    (exact⟨[],[],⟨(3,l0,l1,l2++[y],l3,l4,v0,v1,v2+1,v3,v4),aI⟩,aX,aI⟩)
   ·repeat' (first|refine gA eI.eq_1 ?_|refine sp ?_ ?_ <;> intro h|(exfalso;omega)|(refine gW (Value5 p _ pl (by omega)) ?_;rintro _ ⟨y,e3,rfl⟩ <;> refine⟨rfl,?_⟩)|(with_reducible apply And.intro)|exact aG|fail)
    (exact⟨[],[],⟨(4,l0,l1,l2,l3++[y],l4,v0,v1,v2,v3+1,v4),aI⟩,aX,aI⟩)
   ·repeat' (first|refine gA eI.eq_1 ?_|refine sp ?_ ?_ <;> intro h|(exfalso;omega)|(refine gW (Value5 p _ pl (by omega)) ?_;rintro _ ⟨y,e3,rfl⟩ <;> refine⟨rfl,?_⟩)|(with_reducible apply And.intro)|exact aG|fail)
    (exact⟨[],[],⟨(5,l0,l1,l2,l3,l4++[y],v0,v1,v2,v3,v4+1),aI⟩,aX,aI⟩)
   ·repeat' (first|refine gS ?_|refine sp ?_ ?_ <;> intro h|(with_reducible apply And.intro)|exact aG|fail)
    (exact⟨[],[],⟨(i+1,u2,b2,l0,l1,l2,l3,l4,v0,v1,v2,v3,v4),aI⟩,aX,aI⟩)
 ·repeat' (first|refine gS ?_|refine sp ?_ ?_ <;> intro h|(with_reducible apply And.intro)|exact aG|fail)
  refine .inr (seal_mk 10 45 (v:=0) (n:=5) (q:=1) (cs:=[.og 5000 v0,.og 5001 v1,.og 5002 v2,.og 5003 v3,.og 5004 v4]) (ds:=[dInts l0,dInts l1,dInts l2,dInts l3,dInts l4]) ?_ ?_ rfl (by simp [maxLen]) ?_ ?_ ?_)
  ·exact aR
  ·exact aR
  ·exact aR
  ·exact aR
  ·refine dP ?_
   exact⟨[l0,l1,l2,l3,l4],u,b,0,rfl,hI.2.1,by simp,by simp;omega,by simp⟩
end Go.Proofs.YticdbambknflgaaGreat.Sim
end
section
namespace Go.Proofs.YticdbambknflgaaGreat.Sim
open Go
set_option maxRecDepth 100000
set_option maxHeartbeats 4000000
set_option linter.unusedVariables false
set_option linter.unusedSimpArgs false
attribute [local irreducible] Go Mean
theorem queries17_5 (p deg rows ix:Int) (t:List Int) (a:Int) (ht:t.length≤1000000):DoesP Tryz.prog 163 [.ag [I p],.ag [I 5,I deg],I rows,I ix,vTape t a] (fun r=>∃ q u b e,r=.tu [.d (dRows q),vTape u b,I e]∧u.length≤1000000∧q.length≤10∧(∀ x ∈ q,x.length≤1024)∧(e=0→(q.length:Int)=5)):=by
 refine⟨⟨_,[],[],0,1,rfl,by simp⟩,wE' Tryz.func163 fun cx hm0=>Awp.mayseal (go_in 5000 ?_)⟩
 repeat' (first|refine gS ?_|refine sp ?_ ?_ <;> intro h|(exfalso;omega)|(refine gW (limits17 p 5 deg rows) ?_;rintro _ ⟨l0,e,rfl,hl0,he⟩ <;> refine⟨rfl,?_⟩)|(with_reducible apply And.intro)|exact aG|fail)
 all_goals try (refine .inl ?_;refine dP ?_;exact⟨[],[],_,_,rfl,by simp,by simp,by simp,aQ⟩)
 obtain⟨hf,h1,h2,h3,h4,h5,h6,h7⟩:=he (by simp_all)
 obtain⟨u0,hu0⟩:∃ u,u=t:=⟨t,rfl⟩
 subst hu0
 refine gl (κ:=Nat × (List Int) × Int × (List Int) × (List Int) × (List Int) × (List Int) × (List Int) × Nat × Nat × Nat × Nat × Nat) hm0 (fun q_=>(q_.1:Int)≤rows∧q_.2.1.length≤1000000∧q_.2.2.2.1.length≤q_.1∧q_.2.2.2.2.1.length≤q_.1∧q_.2.2.2.2.2.1.length≤q_.1∧q_.2.2.2.2.2.2.1.length≤q_.1∧q_.2.2.2.2.2.2.2.1.length≤q_.1) (fun q_=>[(2,I rows),(3,I ix),(5,.bp 5 0 0),(6,.bp 6 0 0),(9,.bp 9 0 0),(11,.bp 11 0 0),(15,.ep 44 0 5 1),(16,I q_.1)]) (fun q_=>[(5,.box 0 [I p]),(6,.box 0 [I 5,I deg]),(9,.box 0 [.d (dInts q_.2.1),I q_.2.2.1]),(11,.box 0 [.nl 1,I 0]),(44,.box 0 [.og 5000 q_.2.2.2.2.2.2.2.2.1,.og 5001 q_.2.2.2.2.2.2.2.2.2.1,.og 5002 q_.2.2.2.2.2.2.2.2.2.2.1,.og 5003 q_.2.2.2.2.2.2.2.2.2.2.2.1,.og 5004 q_.2.2.2.2.2.2.2.2.2.2.2.2]),(5000,.arr q_.2.2.2.2.2.2.2.2.1 1 true (q_.2.2.2.1.map eI)),(5001,.arr q_.2.2.2.2.2.2.2.2.2.1 1 true (q_.2.2.2.2.1.map eI)),(5002,.arr q_.2.2.2.2.2.2.2.2.2.2.1 1 true (q_.2.2.2.2.2.1.map eI)),(5003,.arr q_.2.2.2.2.2.2.2.2.2.2.2.1 1 true (q_.2.2.2.2.2.2.1.map eI)),(5004,.arr q_.2.2.2.2.2.2.2.2.2.2.2.2 1 true (q_.2.2.2.2.2.2.2.1.map eI))]) (fun q_=>(rows-q_.1).toNat) [] [5000,5001,5002,5003,5004] (0,u0,a,[],[],[],[],[],0,0,0,0,0) ?_
 rintro⟨i,u,b,l0,l1,l2,l3,l4,v0,v1,v2,v3,v4⟩ hI
 try simp only at hI ⊢
 try have hI2:=hI.2
 by_cases hi:(i:Int)<rows
 ·have r0:decide ((i:Int)<rows)=true:=decide_eq_true hi
  by_cases hx:(i:Int)=ix
  all_goals
   first
   |have q1:((i:Int) == ix)=true:=by rw[beq_iff_eq];exact hx
   |have q1:((i:Int) == ix)=false:=by rw[beq_eq_false_iff_ne];exact hx
  all_goals
   repeat' (first|refine gB r0 q1 ?_|refine sp ?_ ?_ <;> intro h|(exfalso;omega)|(refine gW (split7 p _ deg 5 u b hI.2.1) ?_;rintro _ ⟨sh,u2,b2,e2,rfl,hu2,hsh⟩ <;> refine⟨rfl,?_⟩)|(with_reducible apply And.intro)|exact aG|fail)
  all_goals try (refine .inl ?_;refine dP ?_;exact⟨[],[],_,_,rfl,by simp,by simp,by simp,aQ⟩)
  all_goals
   have hshl:sh.length=5:=by have:=hsh (by simp_all);omega
   refine gl (κ:=Nat × (List Int) × (List Int) × (List Int) × (List Int) × (List Int) × Nat × Nat × Nat × Nat × Nat) hm0 (fun q_=>q_.1≤5∧((0<q_.1∨q_.2.1.length≤i)∧q_.2.1.length≤i+1)∧((1<q_.1∨q_.2.2.1.length≤i)∧q_.2.2.1.length≤i+1)∧((2<q_.1∨q_.2.2.2.1.length≤i)∧q_.2.2.2.1.length≤i+1)∧((3<q_.1∨q_.2.2.2.2.1.length≤i)∧q_.2.2.2.2.1.length≤i+1)∧((4<q_.1∨q_.2.2.2.2.2.1.length≤i)∧q_.2.2.2.2.2.1.length≤i+1)) (fun q_=>[(2,I rows),(3,I ix),(5,.bp 5 0 0),(6,.bp 6 0 0),(9,.bp 9 0 0),(11,.bp 11 0 0),(15,.ep 44 0 5 1),(16,I i),(70,.d (dTwos sh)),(71,I 5),(72,I q_.1)]) (fun q_=>[(5,.box 0 [I p]),(6,.box 0 [I 5,I deg]),(9,.box 0 [.d (dInts u2),I b2]),(11,.box 0 [.nl 1,I 0]),(44,.box 0 [.og 5000 q_.2.2.2.2.2.2.1,.og 5001 q_.2.2.2.2.2.2.2.1,.og 5002 q_.2.2.2.2.2.2.2.2.1,.og 5003 q_.2.2.2.2.2.2.2.2.2.1,.og 5004 q_.2.2.2.2.2.2.2.2.2.2]),(5000,.arr q_.2.2.2.2.2.2.1 1 true (q_.2.1.map eI)),(5001,.arr q_.2.2.2.2.2.2.2.1 1 true (q_.2.2.1.map eI)),(5002,.arr q_.2.2.2.2.2.2.2.2.1 1 true (q_.2.2.2.1.map eI)),(5003,.arr q_.2.2.2.2.2.2.2.2.2.1 1 true (q_.2.2.2.2.1.map eI)),(5004,.arr q_.2.2.2.2.2.2.2.2.2.2 1 true (q_.2.2.2.2.2.1.map eI))]) (fun q_=>5-q_.1) [] [] (0,l0,l1,l2,l3,l4,v0,v1,v2,v3,v4) ?_ (h0:=(aY hshl))
   rintro⟨c,l0,l1,l2,l3,l4,v0,v1,v2,v3,v4⟩ hI
   try simp only at hI ⊢
   try have hI2:=hI.2
   have hc:c=0∨c=1∨c=2∨c=3∨c=4∨c=5:=by omega
   rcases hc with rfl|rfl|rfl|rfl|rfl|rfl
   ·have hs:=getD_map eTwo [] (0,0) sh 0 (by omega)
    have hk:0<sh.length:=by omega
    generalize sh.getD 0 (0,0)=x at *
    repeat' (first|simp (maxSteps:=9999999) only[↓GE,PQ,seval,hs,hk,hshl,eTwo,eI]|refine gS ?_|refine sp ?_ ?_ <;> intro h|(with_reducible apply And.intro)|exact aG|fail)
    (exact⟨[],[],⟨(1,l0++[x.2],l1,l2,l3,l4,v0+1,v1,v2,v3,v4),aI⟩,aX,aI⟩)
   ·have hs:=getD_map eTwo [] (0,0) sh 1 (by omega)
    have hk:1<sh.length:=by omega
    generalize sh.getD 1 (0,0)=x at *
    repeat' (first|simp (maxSteps:=9999999) only[↓GE,PQ,seval,hs,hk,hshl,eTwo,eI]|refine gS ?_|refine sp ?_ ?_ <;> intro h|(with_reducible apply And.intro)|exact aG|fail)
    (exact⟨[],[],⟨(2,l0,l1++[x.2],l2,l3,l4,v0,v1+1,v2,v3,v4),aI⟩,aX,aI⟩)
   ·have hs:=getD_map eTwo [] (0,0) sh 2 (by omega)
    have hk:2<sh.length:=by omega
    generalize sh.getD 2 (0,0)=x at *
    repeat' (first|simp (maxSteps:=9999999) only[↓GE,PQ,seval,hs,hk,hshl,eTwo,eI]|refine gS ?_|refine sp ?_ ?_ <;> intro h|(with_reducible apply And.intro)|exact aG|fail)
    (exact⟨[],[],⟨(3,l0,l1,l2++[x.2],l3,l4,v0,v1,v2+1,v3,v4),aI⟩,aX,aI⟩)
   ·have hs:=getD_map eTwo [] (0,0) sh 3 (by omega)
    have hk:3<sh.length:=by omega
    generalize sh.getD 3 (0,0)=x at *
    repeat' (first|simp (maxSteps:=9999999) only[↓GE,PQ,seval,hs,hk,hshl,eTwo,eI]|refine gS ?_|refine sp ?_ ?_ <;> intro h|(with_reducible apply And.intro)|exact aG|fail)
    (exact⟨[],[],⟨(4,l0,l1,l2,l3++[x.2],l4,v0,v1,v2,v3+1,v4),aI⟩,aX,aI⟩)
   ·have hs:=getD_map eTwo [] (0,0) sh 4 (by omega)
    have hk:4<sh.length:=by omega
    generalize sh.getD 4 (0,0)=x at *
    repeat' (first|simp (maxSteps:=9999999) only[↓GE,PQ,seval,hs,hk,hshl,eTwo,eI]|refine gS ?_|refine sp ?_ ?_ <;> intro h|(with_reducible apply And.intro)|exact aG|fail)
    (exact⟨[],[],⟨(5,l0,l1,l2,l3,l4++[x.2],v0,v1,v2,v3,v4+1),aI⟩,aX,aI⟩)
   ·repeat' (first|refine gS ?_|refine sp ?_ ?_ <;> intro h|(with_reducible apply And.intro)|exact aG|fail)
    (exact⟨[],[],⟨(i+1,u2,b2,l0,l1,l2,l3,l4,v0,v1,v2,v3,v4),aI⟩,aX,aI⟩)
 ·repeat' (first|refine gS ?_|refine sp ?_ ?_ <;> intro h|(with_reducible apply And.intro)|exact aG|fail)
  refine .inr (seal_mk 10 44 (v:=0) (n:=5) (q:=1) (cs:=[.og 5000 v0,.og 5001 v1,.og 5002 v2,.og 5003 v3,.og 5004 v4]) (ds:=[dInts l0,dInts l1,dInts l2,dInts l3,dInts l4]) ?_ ?_ rfl (by simp [maxLen]) ?_ ?_ ?_)
  ·exact aR
  ·exact aR
  ·exact aR
  ·exact aR
  ·refine dP ?_
   exact⟨[l0,l1,l2,l3,l4],u,b,0,rfl,hI.2.1,by simp,by simp;omega,by simp⟩
end Go.Proofs.YticdbambknflgaaGreat.Sim
end
section
namespace Go.Proofs.YticdbambknflgaaGreat.Sim
open Go
set_option maxRecDepth 100000
set_option maxHeartbeats 4000000
set_option linter.unusedVariables false
set_option linter.unusedSimpArgs false
attribute [local irreducible] Go Mean
theorem queries18_4 (p deg grp gs ix:Int) (t:List Int) (a:Int) (ht:t.length≤1000000):DoesP Tryz.prog 164 [.ag [I p],.ag [I 4,I deg,I grp],I gs,I ix,vTape t a] (fun r=>∃ q u b e,r=.tu [.d (dRows q),vTape u b,I e]∧u.length≤1000000∧q.length≤10∧(∀ x ∈ q,x.length≤1024)∧(e=0→(q.length:Int)=4)):=by
 refine⟨⟨_,[],[],0,1,rfl,by simp⟩,wE' Tryz.func164 fun cx hm0=>Awp.mayseal (go_in 5000 ?_)⟩
 repeat' (first|refine gS ?_|refine sp ?_ ?_ <;> intro h|(exfalso;omega)|(refine gW (limits18 p 4 deg grp gs) ?_;rintro _ ⟨l0,e,rfl,hl0,he⟩ <;> refine⟨rfl,?_⟩)|(with_reducible apply And.intro)|exact aG|fail)
 all_goals try (refine .inl ?_;refine dP ?_;exact⟨[],[],_,_,rfl,by simp,by simp,by simp,aQ⟩)
 obtain⟨hf,h1,h2,h3,h4,h5,h6,h7,h8,h9,h10⟩:=he (by simp_all)
 obtain⟨G,rfl⟩:∃ G:Nat,grp=G:=⟨grp.toNat,by omega⟩
 obtain⟨u0,hu0⟩:∃ u,u=t:=⟨t,rfl⟩
 subst hu0
 have hz:∀ k:Nat,List.replicate k [D.at (Value.int IntKind.i64 0)]=(List.replicate k (0:Int)).map eI:=fun k=>by simp [eI]
 have hG:∃ g,G=g+1:=⟨G-1,by omega⟩
 have hap:∀ l:List Int,(List.replicate G (0:Int)).map eI++l.map eI=(List.replicate G (0:Int)++l).map eI:=fun l=>List.map_append.symm
 have hs0:∀ l:List Int,((List.replicate G (0:Int)++l).map eI).getD 0 []=eI 0:=fun l=>by obtain⟨g,rfl⟩:=hG;simp [List.replicate_succ]
 have hset:∀ l:List Int,((List.replicate G (0:Int)++l).map eI).set 0 [D.at (Value.int IntKind.i64 1)]=((List.replicate G (0:Int)++l).set 0 1).map eI:=fun l=>by simp [eI,List.map_set]
 have hln:∀ l:List Int,0<(List.replicate G (0:Int)++l).length:=fun l=>by simp;omega
 refine gl (κ:=Nat × (List Int) × Int × (List Int) × (List Int) × (List Int) × (List Int) × Nat × Nat × Nat × Nat) hm0 (fun q_=>(q_.1:Int)≤gs∧q_.2.1.length≤1000000∧q_.2.2.2.1.length≤q_.1∧q_.2.2.2.2.1.length≤q_.1∧q_.2.2.2.2.2.1.length≤q_.1∧q_.2.2.2.2.2.2.1.length≤q_.1) (fun q_=>[(2,I gs),(3,I ix),(5,.bp 5 0 0),(6,.bp 6 0 0),(9,.bp 9 0 0),(11,.bp 11 0 0),(15,.ep 45 0 4 1),(16,I q_.1)]) (fun q_=>[(5,.box 0 [I p]),(6,.box 0 [I 4,I deg,I G]),(9,.box 0 [.d (dInts q_.2.1),I q_.2.2.1]),(11,.box 0 [.nl 1,I 0]),(45,.box 0 [.og 5000 q_.2.2.2.2.2.2.2.1,.og 5001 q_.2.2.2.2.2.2.2.2.1,.og 5002 q_.2.2.2.2.2.2.2.2.2.1,.og 5003 q_.2.2.2.2.2.2.2.2.2.2]),(5000,.arr q_.2.2.2.2.2.2.2.1 1 true (q_.2.2.2.1.map eI)),(5001,.arr q_.2.2.2.2.2.2.2.2.1 1 true (q_.2.2.2.2.1.map eI)),(5002,.arr q_.2.2.2.2.2.2.2.2.2.1 1 true (q_.2.2.2.2.2.1.map eI)),(5003,.arr q_.2.2.2.2.2.2.2.2.2.2 1 true (q_.2.2.2.2.2.2.1.map eI))]) (fun q_=>(gs-q_.1).toNat) [] [5000,5001,5002,5003] (0,u0,a,[],[],[],[],0,0,0,0) ?_
 rintro⟨i,u,b,l0,l1,l2,l3,v0,v1,v2,v3⟩ hI
 try simp only at hI ⊢
 try have hI2:=hI.2
 by_cases hi:(i:Int)<gs
 ·have r0:decide ((i:Int)<gs)=true:=decide_eq_true hi
  by_cases hx:(i:Int)=ix
  all_goals
   first
   |have q1:((i:Int) == ix)=true:=by rw[beq_iff_eq];exact hx
   |have q1:((i:Int) == ix)=false:=by rw[beq_eq_false_iff_ne];exact hx
  all_goals
   repeat' (first|simp (maxSteps:=9999999) only[↓GE,PQ,seval,r0,q1,hz,hap,hs0,hset,hln,eI,List.length_replicate]|refine gS ?_|refine sp ?_ ?_ <;> intro h|(exfalso;omega)|(refine gW (draws2 u b p deg hI.2.1 (by omega)) ?_;rintro _ ⟨u2,b2,l,e2,rfl,hu2,hll,hle⟩ <;> refine⟨rfl,?_⟩)|(with_reducible apply And.intro)|exact aG|fail)
  all_goals try (refine .inl ?_;refine dP ?_;exact⟨[],[],_,_,rfl,by simp,by simp,by simp,aQ⟩)
  all_goals
   have hle:=hle (by simp_all)
   first
   |(obtain⟨pl,hpl⟩:∃ pl:List Int,(List.replicate G (0:Int)++l).set 0 1=pl:=⟨_,rfl⟩
     rw[hpl])
   |(obtain⟨pl,hpl⟩:∃ pl:List Int,List.replicate G (0:Int)++l=pl:=⟨_,rfl⟩
     rw[hpl])
   have hpll:pl.length≤100:=by rw[← hpl];simp;omega
   refine gl (κ:=Nat × (List Int) × (List Int) × (List Int) × (List Int) × Nat × Nat × Nat × Nat) hm0 (fun q_=>q_.1≤4∧((0<q_.1∨q_.2.1.length≤i)∧q_.2.1.length≤i+1)∧((1<q_.1∨q_.2.2.1.length≤i)∧q_.2.2.1.length≤i+1)∧((2<q_.1∨q_.2.2.2.1.length≤i)∧q_.2.2.2.1.length≤i+1)∧((3<q_.1∨q_.2.2.2.2.1.length≤i)∧q_.2.2.2.2.1.length≤i+1)) (fun q_=>[(2,I gs),(3,I ix),(5,.bp 5 0 0),(6,.bp 6 0 0),(9,.bp 9 0 0),(11,.bp 11 0 0),(15,.ep 45 0 4 1),(16,I i),(20,.d (dInts pl)),(21,I (q_.1+1:Nat))]) (fun q_=>[(5,.box 0 [I p]),(6,.box 0 [I 4,I deg,I G]),(9,.box 0 [.d (dInts u2),I b2]),(11,.box 0 [.nl 1,I 0]),(45,.box 0 [.og 5000 q_.2.2.2.2.2.1,.og 5001 q_.2.2.2.2.2.2.1,.og 5002 q_.2.2.2.2.2.2.2.1,.og 5003 q_.2.2.2.2.2.2.2.2]),(5000,.arr q_.2.2.2.2.2.1 1 true (q_.2.1.map eI)),(5001,.arr q_.2.2.2.2.2.2.1 1 true (q_.2.2.1.map eI)),(5002,.arr q_.2.2.2.2.2.2.2.1 1 true (q_.2.2.2.1.map eI)),(5003,.arr q_.2.2.2.2.2.2.2.2 1 true (q_.2.2.2.2.1.map eI))]) (fun q_=>4-q_.1) [.og 68 1] [] (0,l0,l1,l2,l3,v0,v1,v2,v3) ?_
   rintro⟨c,l0,l1,l2,l3,v0,v1,v2,v3⟩ hI
   try simp only at hI ⊢
   try have hI2:=hI.2
   have hc:c=0∨c=1∨c=2∨c=3∨c=4:=by omega
   rcases hc with rfl|rfl|rfl|rfl|rfl
   ·repeat' (first|refine gA eI.eq_1 ?_|refine sp ?_ ?_ <;> intro h|(exfalso;omega)|(refine gW (Value5 p _ pl (by omega)) ?_;rintro _ ⟨y,e3,rfl⟩ <;> refine⟨rfl,?_⟩)|(with_reducible apply And.intro)|exact aG|fail)
    (exact⟨[],[],⟨(1,l0++[y],l1,l2,l3,v0+1,v1,v2,v3),aI⟩,aX,aI⟩)
   ·repeat' (first|refine gA eI.eq_1 ?_|refine sp ?_ ?_ <;> intro h|(exfalso;omega)|(refine gW (Value5 p _ pl (by omega)) ?_;rintro _ ⟨y,e3,rfl⟩ <;> refine⟨rfl,?_⟩)|(with_reducible apply And.intro)|exact aG|fail)
    (exact⟨[],[],⟨(2,l0,l1++[y],l2,l3,v0,v1+1,v2,v3),aI⟩,aX,aI⟩)
   ·repeat' (first|refine gA eI.eq_1 ?_|refine sp ?_ ?_ <;> intro h|(exfalso;omega)|(refine gW (Value5 p _ pl (by omega)) ?_;rintro _ ⟨y,e3,rfl⟩ <;> refine⟨rfl,?_⟩)|(with_reducible apply And.intro)|exact aG|fail)
    (exact⟨[],[],⟨(3,l0,l1,l2++[y],l3,v0,v1,v2+1,v3),aI⟩,aX,aI⟩)
   ·repeat' (first|refine gA eI.eq_1 ?_|refine sp ?_ ?_ <;> intro h|(exfalso;omega)|(refine gW (Value5 p _ pl (by omega)) ?_;rintro _ ⟨y,e3,rfl⟩ <;> refine⟨rfl,?_⟩)|(with_reducible apply And.intro)|exact aG|fail)
    (exact⟨[],[],⟨(4,l0,l1,l2,l3++[y],v0,v1,v2,v3+1),aI⟩,aX,aI⟩)
   ·repeat' (first|refine gS ?_|refine sp ?_ ?_ <;> intro h|(with_reducible apply And.intro)|exact aG|fail)
    (exact⟨[],[],⟨(i+1,u2,b2,l0,l1,l2,l3,v0,v1,v2,v3),aI⟩,aX,aI⟩)
 ·repeat' (first|refine gS ?_|refine sp ?_ ?_ <;> intro h|(with_reducible apply And.intro)|exact aG|fail)
  refine .inr (seal_mk 10 45 (v:=0) (n:=4) (q:=1) (cs:=[.og 5000 v0,.og 5001 v1,.og 5002 v2,.og 5003 v3]) (ds:=[dInts l0,dInts l1,dInts l2,dInts l3]) ?_ ?_ rfl (by simp [maxLen]) ?_ ?_ ?_)
  ·exact aR
  ·exact aR
  ·exact aR
  ·exact aR
  ·refine dP ?_
   exact⟨[l0,l1,l2,l3],u,b,0,rfl,hI.2.1,by simp,by simp;omega,by simp⟩
end Go.Proofs.YticdbambknflgaaGreat.Sim
end
section
namespace Go.Proofs.YticdbambknflgaaGreat.Sim
open Go
set_option maxRecDepth 100000
set_option maxHeartbeats 4000000
set_option linter.unusedVariables false
set_option linter.unusedSimpArgs false
attribute [local irreducible] Go Mean
theorem queries18_3 (p deg grp gs ix:Int) (t:List Int) (a:Int) (ht:t.length≤1000000):DoesP Tryz.prog 164 [.ag [I p],.ag [I 3,I deg,I grp],I gs,I ix,vTape t a] (fun r=>∃ q u b e,r=.tu [.d (dRows q),vTape u b,I e]∧u.length≤1000000∧q.length≤10∧(∀ x ∈ q,x.length≤1024)∧(e=0→(q.length:Int)=3)):=by
 refine⟨⟨_,[],[],0,1,rfl,by simp⟩,wE' Tryz.func164 fun cx hm0=>Awp.mayseal (go_in 5000 ?_)⟩
 repeat' (first|refine gS ?_|refine sp ?_ ?_ <;> intro h|(exfalso;omega)|(refine gW (limits18 p 3 deg grp gs) ?_;rintro _ ⟨l0,e,rfl,hl0,he⟩ <;> refine⟨rfl,?_⟩)|(with_reducible apply And.intro)|exact aG|fail)
 all_goals try (refine .inl ?_;refine dP ?_;exact⟨[],[],_,_,rfl,by simp,by simp,by simp,aQ⟩)
 obtain⟨hf,h1,h2,h3,h4,h5,h6,h7,h8,h9,h10⟩:=he (by simp_all)
 obtain⟨G,rfl⟩:∃ G:Nat,grp=G:=⟨grp.toNat,by omega⟩
 obtain⟨u0,hu0⟩:∃ u,u=t:=⟨t,rfl⟩
 subst hu0
 have hz:∀ k:Nat,List.replicate k [D.at (Value.int IntKind.i64 0)]=(List.replicate k (0:Int)).map eI:=fun k=>by simp [eI]
 have hG:∃ g,G=g+1:=⟨G-1,by omega⟩
 have hap:∀ l:List Int,(List.replicate G (0:Int)).map eI++l.map eI=(List.replicate G (0:Int)++l).map eI:=fun l=>List.map_append.symm
 have hs0:∀ l:List Int,((List.replicate G (0:Int)++l).map eI).getD 0 []=eI 0:=fun l=>by obtain⟨g,rfl⟩:=hG;simp [List.replicate_succ]
 have hset:∀ l:List Int,((List.replicate G (0:Int)++l).map eI).set 0 [D.at (Value.int IntKind.i64 1)]=((List.replicate G (0:Int)++l).set 0 1).map eI:=fun l=>by simp [eI,List.map_set]
 have hln:∀ l:List Int,0<(List.replicate G (0:Int)++l).length:=fun l=>by simp;omega
 refine gl (κ:=Nat × (List Int) × Int × (List Int) × (List Int) × (List Int) × Nat × Nat × Nat) hm0 (fun q_=>(q_.1:Int)≤gs∧q_.2.1.length≤1000000∧q_.2.2.2.1.length≤q_.1∧q_.2.2.2.2.1.length≤q_.1∧q_.2.2.2.2.2.1.length≤q_.1) (fun q_=>[(2,I gs),(3,I ix),(5,.bp 5 0 0),(6,.bp 6 0 0),(9,.bp 9 0 0),(11,.bp 11 0 0),(15,.ep 45 0 3 1),(16,I q_.1)]) (fun q_=>[(5,.box 0 [I p]),(6,.box 0 [I 3,I deg,I G]),(9,.box 0 [.d (dInts q_.2.1),I q_.2.2.1]),(11,.box 0 [.nl 1,I 0]),(45,.box 0 [.og 5000 q_.2.2.2.2.2.2.1,.og 5001 q_.2.2.2.2.2.2.2.1,.og 5002 q_.2.2.2.2.2.2.2.2]),(5000,.arr q_.2.2.2.2.2.2.1 1 true (q_.2.2.2.1.map eI)),(5001,.arr q_.2.2.2.2.2.2.2.1 1 true (q_.2.2.2.2.1.map eI)),(5002,.arr q_.2.2.2.2.2.2.2.2 1 true (q_.2.2.2.2.2.1.map eI))]) (fun q_=>(gs-q_.1).toNat) [] [5000,5001,5002] (0,u0,a,[],[],[],0,0,0) ?_
 rintro⟨i,u,b,l0,l1,l2,v0,v1,v2⟩ hI
 try simp only at hI ⊢
 try have hI2:=hI.2
 by_cases hi:(i:Int)<gs
 ·have r0:decide ((i:Int)<gs)=true:=decide_eq_true hi
  by_cases hx:(i:Int)=ix
  all_goals
   first
   |have q1:((i:Int) == ix)=true:=by rw[beq_iff_eq];exact hx
   |have q1:((i:Int) == ix)=false:=by rw[beq_eq_false_iff_ne];exact hx
  all_goals
   repeat' (first|simp (maxSteps:=9999999) only[↓GE,PQ,seval,r0,q1,hz,hap,hs0,hset,hln,eI,List.length_replicate]|refine gS ?_|refine sp ?_ ?_ <;> intro h|(exfalso;omega)|(refine gW (draws2 u b p deg hI.2.1 (by omega)) ?_;rintro _ ⟨u2,b2,l,e2,rfl,hu2,hll,hle⟩ <;> refine⟨rfl,?_⟩)|(with_reducible apply And.intro)|exact aG|fail)
  all_goals try (refine .inl ?_;refine dP ?_;exact⟨[],[],_,_,rfl,by simp,by simp,by simp,aQ⟩)
  all_goals
   have hle:=hle (by simp_all)
   first
   |(obtain⟨pl,hpl⟩:∃ pl:List Int,(List.replicate G (0:Int)++l).set 0 1=pl:=⟨_,rfl⟩
     rw[hpl])
   |(obtain⟨pl,hpl⟩:∃ pl:List Int,List.replicate G (0:Int)++l=pl:=⟨_,rfl⟩
     rw[hpl])
   have hpll:pl.length≤100:=by rw[← hpl];simp;omega
   refine gl (κ:=Nat × (List Int) × (List Int) × (List Int) × Nat × Nat × Nat) hm0 (fun q_=>q_.1≤3∧((0<q_.1∨q_.2.1.length≤i)∧q_.2.1.length≤i+1)∧((1<q_.1∨q_.2.2.1.length≤i)∧q_.2.2.1.length≤i+1)∧((2<q_.1∨q_.2.2.2.1.length≤i)∧q_.2.2.2.1.length≤i+1)) (fun q_=>[(2,I gs),(3,I ix),(5,.bp 5 0 0),(6,.bp 6 0 0),(9,.bp 9 0 0),(11,.bp 11 0 0),(15,.ep 45 0 3 1),(16,I i),(20,.d (dInts pl)),(21,I (q_.1+1:Nat))]) (fun q_=>[(5,.box 0 [I p]),(6,.box 0 [I 3,I deg,I G]),(9,.box 0 [.d (dInts u2),I b2]),(11,.box 0 [.nl 1,I 0]),(45,.box 0 [.og 5000 q_.2.2.2.2.1,.og 5001 q_.2.2.2.2.2.1,.og 5002 q_.2.2.2.2.2.2]),(5000,.arr q_.2.2.2.2.1 1 true (q_.2.1.map eI)),(5001,.arr q_.2.2.2.2.2.1 1 true (q_.2.2.1.map eI)),(5002,.arr q_.2.2.2.2.2.2 1 true (q_.2.2.2.1.map eI))]) (fun q_=>3-q_.1) [.og 68 1] [] (0,l0,l1,l2,v0,v1,v2) ?_
   rintro⟨c,l0,l1,l2,v0,v1,v2⟩ hI
   try simp only at hI ⊢
   try have hI2:=hI.2
   have hc:c=0∨c=1∨c=2∨c=3:=by omega
   rcases hc with rfl|rfl|rfl|rfl
   ·repeat' (first|refine gA eI.eq_1 ?_|refine sp ?_ ?_ <;> intro h|(exfalso;omega)|(refine gW (Value5 p _ pl (by omega)) ?_;rintro _ ⟨y,e3,rfl⟩ <;> refine⟨rfl,?_⟩)|(with_reducible apply And.intro)|exact aG|fail)
    (exact⟨[],[],⟨(1,l0++[y],l1,l2,v0+1,v1,v2),aI⟩,aX,aI⟩)
   ·repeat' (first|refine gA eI.eq_1 ?_|refine sp ?_ ?_ <;> intro h|(exfalso;omega)|(refine gW (Value5 p _ pl (by omega)) ?_;rintro _ ⟨y,e3,rfl⟩ <;> refine⟨rfl,?_⟩)|(with_reducible apply And.intro)|exact aG|fail)
    (exact⟨[],[],⟨(2,l0,l1++[y],l2,v0,v1+1,v2),aI⟩,aX,aI⟩)
   ·repeat' (first|refine gA eI.eq_1 ?_|refine sp ?_ ?_ <;> intro h|(exfalso;omega)|(refine gW (Value5 p _ pl (by omega)) ?_;rintro _ ⟨y,e3,rfl⟩ <;> refine⟨rfl,?_⟩)|(with_reducible apply And.intro)|exact aG|fail)
    (exact⟨[],[],⟨(3,l0,l1,l2++[y],v0,v1,v2+1),aI⟩,aX,aI⟩)
   ·repeat' (first|refine gS ?_|refine sp ?_ ?_ <;> intro h|(with_reducible apply And.intro)|exact aG|fail)
    (exact⟨[],[],⟨(i+1,u2,b2,l0,l1,l2,v0,v1,v2),aI⟩,aX,aI⟩)
 ·repeat' (first|refine gS ?_|refine sp ?_ ?_ <;> intro h|(with_reducible apply And.intro)|exact aG|fail)
  refine .inr (seal_mk 10 45 (v:=0) (n:=3) (q:=1) (cs:=[.og 5000 v0,.og 5001 v1,.og 5002 v2]) (ds:=[dInts l0,dInts l1,dInts l2]) ?_ ?_ rfl (by simp [maxLen]) ?_ ?_ ?_)
  ·exact aR
  ·exact aR
  ·exact aR
  ·exact aR
  ·refine dP ?_
   exact⟨[l0,l1,l2],u,b,0,rfl,hI.2.1,by simp,by simp;omega,by simp⟩
end Go.Proofs.YticdbambknflgaaGreat.Sim
end
section
namespace Go.Proofs.YticdbambknflgaaGreat.Sim
open Go
set_option maxRecDepth 100000
set_option maxHeartbeats 4000000
set_option linter.unusedVariables false
set_option linter.unusedSimpArgs false
attribute [local irreducible] Go Mean
theorem queries17_4 (p deg rows ix:Int) (t:List Int) (a:Int) (ht:t.length≤1000000):DoesP Tryz.prog 163 [.ag [I p],.ag [I 4,I deg],I rows,I ix,vTape t a] (fun r=>∃ q u b e,r=.tu [.d (dRows q),vTape u b,I e]∧u.length≤1000000∧q.length≤10∧(∀ x ∈ q,x.length≤1024)∧(e=0→(q.length:Int)=4)):=by
 refine⟨⟨_,[],[],0,1,rfl,by simp⟩,wE' Tryz.func163 fun cx hm0=>Awp.mayseal (go_in 5000 ?_)⟩
 repeat' (first|refine gS ?_|refine sp ?_ ?_ <;> intro h|(exfalso;omega)|(refine gW (limits17 p 4 deg rows) ?_;rintro _ ⟨l0,e,rfl,hl0,he⟩ <;> refine⟨rfl,?_⟩)|(with_reducible apply And.intro)|exact aG|fail)
 all_goals try (refine .inl ?_;refine dP ?_;exact⟨[],[],_,_,rfl,by simp,by simp,by simp,aQ⟩)
 obtain⟨hf,h1,h2,h3,h4,h5,h6,h7⟩:=he (by simp_all)
 obtain⟨u0,hu0⟩:∃ u,u=t:=⟨t,rfl⟩
 subst hu0
 refine gl (κ:=Nat × (List Int) × Int × (List Int) × (List Int) × (List Int) × (List Int) × Nat × Nat × Nat × Nat) hm0 (fun q_=>(q_.1:Int)≤rows∧q_.2.1.length≤1000000∧q_.2.2.2.1.length≤q_.1∧q_.2.2.2.2.1.length≤q_.1∧q_.2.2.2.2.2.1.length≤q_.1∧q_.2.2.2.2.2.2.1.length≤q_.1) (fun q_=>[(2,I rows),(3,I ix),(5,.bp 5 0 0),(6,.bp 6 0 0),(9,.bp 9 0 0),(11,.bp 11 0 0),(15,.ep 44 0 4 1),(16,I q_.1)]) (fun q_=>[(5,.box 0 [I p]),(6,.box 0 [I 4,I deg]),(9,.box 0 [.d (dInts q_.2.1),I q_.2.2.1]),(11,.box 0 [.nl 1,I 0]),(44,.box 0 [.og 5000 q_.2.2.2.2.2.2.2.1,.og 5001 q_.2.2.2.2.2.2.2.2.1,.og 5002 q_.2.2.2.2.2.2.2.2.2.1,.og 5003 q_.2.2.2.2.2.2.2.2.2.2]),(5000,.arr q_.2.2.2.2.2.2.2.1 1 true (q_.2.2.2.1.map eI)),(5001,.arr q_.2.2.2.2.2.2.2.2.1 1 true (q_.2.2.2.2.1.map eI)),(5002,.arr q_.2.2.2.2.2.2.2.2.2.1 1 true (q_.2.2.2.2.2.1.map eI)),(5003,.arr q_.2.2.2.2.2.2.2.2.2.2 1 true (q_.2.2.2.2.2.2.1.map eI))]) (fun q_=>(rows-q_.1).toNat) [] [5000,5001,5002,5003] (0,u0,a,[],[],[],[],0,0,0,0) ?_
 rintro⟨i,u,b,l0,l1,l2,l3,v0,v1,v2,v3⟩ hI
 try simp only at hI ⊢
 try have hI2:=hI.2
 by_cases hi:(i:Int)<rows
 ·have r0:decide ((i:Int)<rows)=true:=decide_eq_true hi
  by_cases hx:(i:Int)=ix
  all_goals
   first
   |have q1:((i:Int) == ix)=true:=by rw[beq_iff_eq];exact hx
   |have q1:((i:Int) == ix)=false:=by rw[beq_eq_false_iff_ne];exact hx
  all_goals
   repeat' (first|refine gB r0 q1 ?_|refine sp ?_ ?_ <;> intro h|(exfalso;omega)|(refine gW (split7 p _ deg 4 u b hI.2.1) ?_;rintro _ ⟨sh,u2,b2,e2,rfl,hu2,hsh⟩ <;> refine⟨rfl,?_⟩)|(with_reducible apply And.intro)|exact aG|fail)
  all_goals try (refine .inl ?_;refine dP ?_;exact⟨[],[],_,_,rfl,by simp,by simp,by simp,aQ⟩)
  all_goals
   have hshl:sh.length=4:=by have:=hsh (by simp_all);omega
   refine gl (κ:=Nat × (List Int) × (List Int) × (List Int) × (List Int) × Nat × Nat × Nat × Nat) hm0 (fun q_=>q_.1≤4∧((0<q_.1∨q_.2.1.length≤i)∧q_.2.1.length≤i+1)∧((1<q_.1∨q_.2.2.1.length≤i)∧q_.2.2.1.length≤i+1)∧((2<q_.1∨q_.2.2.2.1.length≤i)∧q_.2.2.2.1.length≤i+1)∧((3<q_.1∨q_.2.2.2.2.1.length≤i)∧q_.2.2.2.2.1.length≤i+1)) (fun q_=>[(2,I rows),(3,I ix),(5,.bp 5 0 0),(6,.bp 6 0 0),(9,.bp 9 0 0),(11,.bp 11 0 0),(15,.ep 44 0 4 1),(16,I i),(70,.d (dTwos sh)),(71,I 4),(72,I q_.1)]) (fun q_=>[(5,.box 0 [I p]),(6,.box 0 [I 4,I deg]),(9,.box 0 [.d (dInts u2),I b2]),(11,.box 0 [.nl 1,I 0]),(44,.box 0 [.og 5000 q_.2.2.2.2.2.1,.og 5001 q_.2.2.2.2.2.2.1,.og 5002 q_.2.2.2.2.2.2.2.1,.og 5003 q_.2.2.2.2.2.2.2.2]),(5000,.arr q_.2.2.2.2.2.1 1 true (q_.2.1.map eI)),(5001,.arr q_.2.2.2.2.2.2.1 1 true (q_.2.2.1.map eI)),(5002,.arr q_.2.2.2.2.2.2.2.1 1 true (q_.2.2.2.1.map eI)),(5003,.arr q_.2.2.2.2.2.2.2.2 1 true (q_.2.2.2.2.1.map eI))]) (fun q_=>4-q_.1) [] [] (0,l0,l1,l2,l3,v0,v1,v2,v3) ?_ (h0:=(aY hshl))
   rintro⟨c,l0,l1,l2,l3,v0,v1,v2,v3⟩ hI
   try simp only at hI ⊢
   try have hI2:=hI.2
   have hc:c=0∨c=1∨c=2∨c=3∨c=4:=by omega
   rcases hc with rfl|rfl|rfl|rfl|rfl
   ·have hs:=getD_map eTwo [] (0,0) sh 0 (by omega)
    have hk:0<sh.length:=by omega
    generalize sh.getD 0 (0,0)=x at *
    repeat' (first|simp (maxSteps:=9999999) only[↓GE,PQ,seval,hs,hk,hshl,eTwo,eI]|refine gS ?_|refine sp ?_ ?_ <;> intro h|(with_reducible apply And.intro)|exact aG|fail)
    (exact⟨[],[],⟨(1,l0++[x.2],l1,l2,l3,v0+1,v1,v2,v3),aI⟩,aX,aI⟩)
   ·have hs:=getD_map eTwo [] (0,0) sh 1 (by omega)
    have hk:1<sh.length:=by omega
    generalize sh.getD 1 (0,0)=x at *
    repeat' (first|simp (maxSteps:=9999999) only[↓GE,PQ,seval,hs,hk,hshl,eTwo,eI]|refine gS ?_|refine sp ?_ ?_ <;> intro h|(with_reducible apply And.intro)|exact aG|fail)
    (exact⟨[],[],⟨(2,l0,l1++[x.2],l2,l3,v0,v1+1,v2,v3),aI⟩,aX,aI⟩)
   ·have hs:=getD_map eTwo [] (0,0) sh 2 (by omega)
    have hk:2<sh.length:=by omega
    generalize sh.getD 2 (0,0)=x at *
    repeat' (first|simp (maxSteps:=9999999) only[↓GE,PQ,seval,hs,hk,hshl,eTwo,eI]|refine gS ?_|refine sp ?_ ?_ <;> intro h|(with_reducible apply And.intro)|exact aG|fail)
    (exact⟨[],[],⟨(3,l0,l1,l2++[x.2],l3,v0,v1,v2+1,v3),aI⟩,aX,aI⟩)
   ·have hs:=getD_map eTwo [] (0,0) sh 3 (by omega)
    have hk:3<sh.length:=by omega
    generalize sh.getD 3 (0,0)=x at *
    repeat' (first|simp (maxSteps:=9999999) only[↓GE,PQ,seval,hs,hk,hshl,eTwo,eI]|refine gS ?_|refine sp ?_ ?_ <;> intro h|(with_reducible apply And.intro)|exact aG|fail)
    (exact⟨[],[],⟨(4,l0,l1,l2,l3++[x.2],v0,v1,v2,v3+1),aI⟩,aX,aI⟩)
   ·repeat' (first|refine gS ?_|refine sp ?_ ?_ <;> intro h|(with_reducible apply And.intro)|exact aG|fail)
    (exact⟨[],[],⟨(i+1,u2,b2,l0,l1,l2,l3,v0,v1,v2,v3),aI⟩,aX,aI⟩)
 ·repeat' (first|refine gS ?_|refine sp ?_ ?_ <;> intro h|(with_reducible apply And.intro)|exact aG|fail)
  refine .inr (seal_mk 10 44 (v:=0) (n:=4) (q:=1) (cs:=[.og 5000 v0,.og 5001 v1,.og 5002 v2,.og 5003 v3]) (ds:=[dInts l0,dInts l1,dInts l2,dInts l3]) ?_ ?_ rfl (by simp [maxLen]) ?_ ?_ ?_)
  ·exact aR
  ·exact aR
  ·exact aR
  ·exact aR
  ·refine dP ?_
   exact⟨[l0,l1,l2,l3],u,b,0,rfl,hI.2.1,by simp,by simp;omega,by simp⟩
end Go.Proofs.YticdbambknflgaaGreat.Sim
end
section
namespace Go.Proofs.YticdbambknflgaaGreat.Sim
open Go
set_option maxRecDepth 100000
set_option maxHeartbeats 4000000
set_option linter.unusedVariables false
set_option linter.unusedSimpArgs false
attribute [local irreducible] Go Mean
theorem queries17_3 (p deg rows ix:Int) (t:List Int) (a:Int) (ht:t.length≤1000000):DoesP Tryz.prog 163 [.ag [I p],.ag [I 3,I deg],I rows,I ix,vTape t a] (fun r=>∃ q u b e,r=.tu [.d (dRows q),vTape u b,I e]∧u.length≤1000000∧q.length≤10∧(∀ x ∈ q,x.length≤1024)∧(e=0→(q.length:Int)=3)):=by
 refine⟨⟨_,[],[],0,1,rfl,by simp⟩,wE' Tryz.func163 fun cx hm0=>Awp.mayseal (go_in 5000 ?_)⟩
 repeat' (first|refine gS ?_|refine sp ?_ ?_ <;> intro h|(exfalso;omega)|(refine gW (limits17 p 3 deg rows) ?_;rintro _ ⟨l0,e,rfl,hl0,he⟩ <;> refine⟨rfl,?_⟩)|(with_reducible apply And.intro)|exact aG|fail)
 all_goals try (refine .inl ?_;refine dP ?_;exact⟨[],[],_,_,rfl,by simp,by simp,by simp,aQ⟩)
 obtain⟨hf,h1,h2,h3,h4,h5,h6,h7⟩:=he (by simp_all)
 obtain⟨u0,hu0⟩:∃ u,u=t:=⟨t,rfl⟩
 subst hu0
 refine gl (κ:=Nat × (List Int) × Int × (List Int) × (List Int) × (List Int) × Nat × Nat × Nat) hm0 (fun q_=>(q_.1:Int)≤rows∧q_.2.1.length≤1000000∧q_.2.2.2.1.length≤q_.1∧q_.2.2.2.2.1.length≤q_.1∧q_.2.2.2.2.2.1.length≤q_.1) (fun q_=>[(2,I rows),(3,I ix),(5,.bp 5 0 0),(6,.bp 6 0 0),(9,.bp 9 0 0),(11,.bp 11 0 0),(15,.ep 44 0 3 1),(16,I q_.1)]) (fun q_=>[(5,.box 0 [I p]),(6,.box 0 [I 3,I deg]),(9,.box 0 [.d (dInts q_.2.1),I q_.2.2.1]),(11,.box 0 [.nl 1,I 0]),(44,.box 0 [.og 5000 q_.2.2.2.2.2.2.1,.og 5001 q_.2.2.2.2.2.2.2.1,.og 5002 q_.2.2.2.2.2.2.2.2]),(5000,.arr q_.2.2.2.2.2.2.1 1 true (q_.2.2.2.1.map eI)),(5001,.arr q_.2.2.2.2.2.2.2.1 1 true (q_.2.2.2.2.1.map eI)),(5002,.arr q_.2.2.2.2.2.2.2.2 1 true (q_.2.2.2.2.2.1.map eI))]) (fun q_=>(rows-q_.1).toNat) [] [5000,5001,5002] (0,u0,a,[],[],[],0,0,0) ?_
 rintro⟨i,u,b,l0,l1,l2,v0,v1,v2⟩ hI
 try simp only at hI ⊢
 try have hI2:=hI.2
 by_cases hi:(i:Int)<rows
 ·have r0:decide ((i:Int)<rows)=true:=decide_eq_true hi
  by_cases hx:(i:Int)=ix
  all_goals
   first
   |have q1:((i:Int) == ix)=true:=by rw[beq_iff_eq];exact hx
   |have q1:((i:Int) == ix)=false:=by rw[beq_eq_false_iff_ne];exact hx
  all_goals
   repeat' (first|refine gB r0 q1 ?_|refine sp ?_ ?_ <;> intro h|(exfalso;omega)|(refine gW (split7 p _ deg 3 u b hI.2.1) ?_;rintro _ ⟨sh,u2,b2,e2,rfl,hu2,hsh⟩ <;> refine⟨rfl,?_⟩)|(with_reducible apply And.intro)|exact aG|fail)
  all_goals try (refine .inl ?_;refine dP ?_;exact⟨[],[],_,_,rfl,by simp,by simp,by simp,aQ⟩)
  all_goals
   have hshl:sh.length=3:=by have:=hsh (by simp_all);omega
   refine gl (κ:=Nat × (List Int) × (List Int) × (List Int) × Nat × Nat × Nat) hm0 (fun q_=>q_.1≤3∧((0<q_.1∨q_.2.1.length≤i)∧q_.2.1.length≤i+1)∧((1<q_.1∨q_.2.2.1.length≤i)∧q_.2.2.1.length≤i+1)∧((2<q_.1∨q_.2.2.2.1.length≤i)∧q_.2.2.2.1.length≤i+1)) (fun q_=>[(2,I rows),(3,I ix),(5,.bp 5 0 0),(6,.bp 6 0 0),(9,.bp 9 0 0),(11,.bp 11 0 0),(15,.ep 44 0 3 1),(16,I i),(70,.d (dTwos sh)),(71,I 3),(72,I q_.1)]) (fun q_=>[(5,.box 0 [I p]),(6,.box 0 [I 3,I deg]),(9,.box 0 [.d (dInts u2),I b2]),(11,.box 0 [.nl 1,I 0]),(44,.box 0 [.og 5000 q_.2.2.2.2.1,.og 5001 q_.2.2.2.2.2.1,.og 5002 q_.2.2.2.2.2.2]),(5000,.arr q_.2.2.2.2.1 1 true (q_.2.1.map eI)),(5001,.arr q_.2.2.2.2.2.1 1 true (q_.2.2.1.map eI)),(5002,.arr q_.2.2.2.2.2.2 1 true (q_.2.2.2.1.map eI))]) (fun q_=>3-q_.1) [] [] (0,l0,l1,l2,v0,v1,v2) ?_ (h0:=(aY hshl))
   rintro⟨c,l0,l1,l2,v0,v1,v2⟩ hI
   try simp only at hI ⊢
   try have hI2:=hI.2
   have hc:c=0∨c=1∨c=2∨c=3:=by omega
   rcases hc with rfl|rfl|rfl|rfl
   ·have hs:=getD_map eTwo [] (0,0) sh 0 (by omega)
    have hk:0<sh.length:=by omega
    generalize sh.getD 0 (0,0)=x at *
    repeat' (first|simp (maxSteps:=9999999) only[↓GE,PQ,seval,hs,hk,hshl,eTwo,eI]|refine gS ?_|refine sp ?_ ?_ <;> intro h|(with_reducible apply And.intro)|exact aG|fail)
    (exact⟨[],[],⟨(1,l0++[x.2],l1,l2,v0+1,v1,v2),aI⟩,aX,aI⟩)
   ·have hs:=getD_map eTwo [] (0,0) sh 1 (by omega)
    have hk:1<sh.length:=by omega
    generalize sh.getD 1 (0,0)=x at *
    repeat' (first|simp (maxSteps:=9999999) only[↓GE,PQ,seval,hs,hk,hshl,eTwo,eI]|refine gS ?_|refine sp ?_ ?_ <;> intro h|(with_reducible apply And.intro)|exact aG|fail)
    (exact⟨[],[],⟨(2,l0,l1++[x.2],l2,v0,v1+1,v2),aI⟩,aX,aI⟩)
   ·have hs:=getD_map eTwo [] (0,0) sh 2 (by omega)
    have hk:2<sh.length:=by omega
    generalize sh.getD 2 (0,0)=x at *
    repeat' (first|simp (maxSteps:=9999999) only[↓GE,PQ,seval,hs,hk,hshl,eTwo,eI]|refine gS ?_|refine sp ?_ ?_ <;> intro h|(with_reducible apply And.intro)|exact aG|fail)
    (exact⟨[],[],⟨(3,l0,l1,l2++[x.2],v0,v1,v2+1),aI⟩,aX,aI⟩)
   ·repeat' (first|refine gS ?_|refine sp ?_ ?_ <;> intro h|(with_reducible apply And.intro)|exact aG|fail)
    (exact⟨[],[],⟨(i+1,u2,b2,l0,l1,l2,v0,v1,v2),aI⟩,aX,aI⟩)
 ·repeat' (first|refine gS ?_|refine sp ?_ ?_ <;> intro h|(with_reducible apply And.intro)|exact aG|fail)
  refine .inr (seal_mk 10 44 (v:=0) (n:=3) (q:=1) (cs:=[.og 5000 v0,.og 5001 v1,.og 5002 v2]) (ds:=[dInts l0,dInts l1,dInts l2]) ?_ ?_ rfl (by simp [maxLen]) ?_ ?_ ?_)
  ·exact aR
  ·exact aR
  ·exact aR
  ·exact aR
  ·refine dP ?_
   exact⟨[l0,l1,l2],u,b,0,rfl,hI.2.1,by simp,by simp;omega,by simp⟩
end Go.Proofs.YticdbambknflgaaGreat.Sim
end
section
namespace Go.Proofs.YticdbambknflgaaGreat.Sim
open Go
set_option maxRecDepth 100000
set_option maxHeartbeats 4000000
set_option linter.unusedVariables false
set_option linter.unusedSimpArgs false
attribute [local irreducible] Go Mean
theorem queries17 (p sv deg rows ix:Int) (t:List Int) (a:Int) (ht:t.length≤1000000) (h3:3≤sv) (h6:sv≤6):DoesP Tryz.prog 163 [.ag [I p],.ag [I sv,I deg],I rows,I ix,vTape t a] (fun r=>∃ q u b e,r=.tu [.d (dRows q),vTape u b,I e]∧u.length≤1000000∧q.length≤10∧(∀ x ∈ q,x.length≤1024)∧(e=0→(q.length:Int)=sv)):=by
 rcases (by omega:sv=3∨sv=4∨sv=5∨sv=6) with rfl|rfl|rfl|rfl
 ·exact queries17_3 p deg rows ix t a ht
 ·exact queries17_4 p deg rows ix t a ht
 ·exact queries17_5 p deg rows ix t a ht
 ·exact queries17_6 p deg rows ix t a ht
theorem queries18 (p sv deg grp gs ix:Int) (t:List Int) (a:Int) (ht:t.length≤1000000) (h3:3≤sv) (h6:sv≤6):DoesP Tryz.prog 164 [.ag [I p],.ag [I sv,I deg,I grp],I gs,I ix,vTape t a] (fun r=>∃ q u b e,r=.tu [.d (dRows q),vTape u b,I e]∧u.length≤1000000∧q.length≤10∧(∀ x ∈ q,x.length≤1024)∧(e=0→(q.length:Int)=sv)):=by
 rcases (by omega:sv=3∨sv=4∨sv=5∨sv=6) with rfl|rfl|rfl|rfl
 ·exact queries18_3 p deg grp gs ix t a ht
 ·exact queries18_4 p deg grp gs ix t a ht
 ·exact queries18_5 p deg grp gs ix t a ht
 ·exact queries18_6 p deg grp gs ix t a ht
theorem queries23 (s:PSch) (p rows ix:Int) (t:List Int) (a:Int) (ht:t.length≤1000000) (h3:3≤s.sv) (h6:s.sv≤6):DoesP Tryz.prog 151 [vSch s,.ag [I p],I rows,I ix,vTape t a] (fun r=>∃ q u b e,r=.tu [.d (dRows q),vTape u b,I e]∧u.length≤1000000∧q.length≤10∧(∀ x ∈ q,x.length≤1024)∧(e=0→(q.length:Int)=s.sv)):=by
 have e1:=valid23 s p
 refine⟨⟨_,[],[],0,1,rfl,by simp⟩,wE Tryz.func151 fun cx hm0=>?_⟩
 cases hv:vldB s p with
 |false =>
  repeat' (first|refine gA hv ?_|refine sp ?_ ?_ <;> intro h|refine gP e1 ?_|(with_reducible apply And.intro)|exact aG|fail)
  all_goals (refine dP ?_;exact⟨[],[],_,_,rfl,by simp,by simp,by simp,aQ⟩)
 |true =>
  have hS:=(vldB_iff.1 hv).1
  unfold SchOK at hS
  repeat' (first|refine gA hv ?_|refine sp ?_ ?_ <;> intro h|(exfalso;omega)|refine gP e1 ?_|(refine gW (queries16 p rows s.sv ix t a ht) ?_;rintro _ ⟨q,u,b,e,rfl,hu,hq,hx,he⟩ <;> refine⟨rfl,?_⟩)|refine gP (plan23 s) ?_|refine gP (storage23 s) ?_|refine gP (units23 s rows) ?_|(refine gW (queries17 p s.sv s.deg rows ix t a ht h3 h6) ?_;rintro _ ⟨q,u,b,e,rfl,hu,hq,hx,he⟩ <;> refine⟨rfl,?_⟩)|(refine gW (queries18 p s.sv s.deg s.grp (unitsF s rows) (IntKind.i64.wrap (ix.tdiv s.grp)) t a ht h3 h6) ?_;rintro _ ⟨q,u,b,e,rfl,hu,hq,hx,he⟩ <;> refine⟨rfl,?_⟩)|(with_reducible apply And.intro)|exact aG|fail)
  all_goals first|(refine dP ?_;exact⟨[],[],_,_,rfl,by simp,by simp,by simp,aQ⟩)|(refine dP ?_;exact⟨_,_,_,_,rfl,hu,hq,hx,he⟩)|(exfalso;omega)
end Go.Proofs.YticdbambknflgaaGreat.Sim
end
