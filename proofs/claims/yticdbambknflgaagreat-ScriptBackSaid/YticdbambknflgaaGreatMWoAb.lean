/- Limits, answers, what a server holds (scheme). -/
import Derived.Test.YticdbambknflgaaGreatMWoQ
import Derived.Test.YticdbambknflgaaGreatMAcs
import Derived.Test.YticdbambknflgaaGreatMWoE
import Derived.Test.YticdbambknflgaaGreatMWoV
section
namespace Go.Proofs.YticdbambknflgaaGreat.Sim
open Go
set_option maxRecDepth 100000
set_option maxHeartbeats 4000000
set_option linter.unusedVariables false
set_option linter.unusedSimpArgs false
attribute [local irreducible] Go Mean
def CombOK (p w:Int) (c:List Int) (rows:List (List Int)):Prop:=fieldB p=true∧0≤w∧w≤64∧c.length=rows.length∧(∀ x ∈ rows,(x.length:Int)=w∧x.all (inE p)=true)∧c.all (inE p)=true
theorem combine4 (p w:Int) (c:List Int) (rows:List (List Int)) (hc:c.length≤1000000) (hr:rows.length≤1000000) (hs:∀ x ∈ rows,x.length≤1000000):DoesP Tryz.prog 165 [.ag [I p],.d (dInts c),.d (dRows rows),I w] (fun r=>∃ out e,r=.tu [.d (dInts out),I e]∧out.length≤64∧(CombOK p w c rows→e=0∧(out.length:Int)=w)):=by
 by_cases hN:CombOK p w c rows
 case neg =>
  refine⟨⟨_,[],1,rfl,by simp,fun h=>absurd h hN⟩,wE Tryz.func165 fun cx hm0=>?_⟩
  cases hf:fieldB p with
  |false =>
   repeat' (first|refine gA hf ?_|refine sp ?_ ?_ <;> intro h|refine gP (r3check p) ?_|(with_reducible apply And.intro)|exact aG|fail)
   all_goals (refine dP ?_;exact⟨[],_,rfl,by simp,fun h=>absurd h hN⟩)
  |true =>
   have hp:=(fieldB_iff.1 hf).1
   repeat' (first|refine gA hf ?_|refine sp ?_ ?_ <;> intro h|refine gP (r3check p) ?_|(with_reducible apply And.intro)|exact aG|fail)
   all_goals try (refine dP ?_;exact⟨[],_,rfl,by simp,fun h=>absurd h hN⟩)
   obtain⟨W,rfl⟩:∃ W:Nat,w=W:=⟨w.toNat,by omega⟩
   have hcl:c.length=rows.length:=by (try simp at *);omega
   refine gl (κ:=Nat) hm0 (fun q_=>q_≤rows.length∧∀ x ∈ rows.take q_,x.length=W) (fun q_=>[(1,.d (dInts c)),(2,.d (dRows rows)),(3,I W),(4,.bp 4 0 0),(36,.d (dRows rows)),(37,I rows.length),(38,I q_)]) (fun q_=>[(4,.box 0 [I p])]) (fun q_=>rows.length-q_) [] [] (0) ?_
   rintro k hI
   try simp only at hI ⊢
   try have hI2:=hI.2
   by_cases hk:k<rows.length
   ·have hs0:=getD_map eR [] [] rows k hk
    have ht:=take_succ_getD [] rows k hk
    generalize rows.getD k []=x at *
    repeat' (first|refine gB hs0 eR.eq_1 ?_|refine sp ?_ ?_ <;> intro h|(with_reducible apply And.intro)|exact aG|fail)
    all_goals try (refine dP ?_;exact⟨[],_,rfl,by simp,fun h=>absurd h hN⟩)
    refine⟨[],[],⟨k+1,hk,fun y hy=>?_⟩,?_,aI⟩
    ·rw[ht] at hy
     rcases List.mem_append.1 hy with hy|hy
     ·exact hI.2 y hy
     ·simp only[List.mem_singleton] at hy
      subst hy
      have h10:(y.length:Int)=W:=by simp_all
      omega
    ·exact aX
   have hrows:∀ x ∈ rows,x.length=W:=by
    have:=hI.2
    rwa [List.take_of_length_le (by omega)] at this
   clear hI hI2
   repeat' (first|refine gA hf ?_|refine sp ?_ ?_ <;> intro h|refine gP (r3in p c (by omega)) ?_|(with_reducible apply And.intro)|exact aG|fail)
   all_goals try (refine dP ?_;exact⟨[],_,rfl,by simp,fun h=>absurd h hN⟩)
   refine gl (κ:=Nat) hm0 (fun q_=>q_≤rows.length) (fun q_=>[(1,.d (dInts c)),(2,.d (dRows rows)),(3,I W),(4,.bp 4 0 0),(51,.d (dRows rows)),(52,I rows.length),(53,I q_)]) (fun q_=>[(4,.box 0 [I p])]) (fun q_=>rows.length-q_) [] [] (0) ?_
   rintro k hI
   try simp only at hI ⊢
   try have hI2:=hI.2
   by_cases hk:k<rows.length
   ·have hs0:=getD_map eR [] [] rows k hk
    have hx:=hs _ (mem_getD [] rows k hk)
    generalize rows.getD k []=x at *
    repeat' (first|refine gC hf hs0 eR.eq_1 ?_|refine sp ?_ ?_ <;> intro h|refine gP (r3in p x (by omega)) ?_|(with_reducible apply And.intro)|exact aG|fail)
    all_goals first|(refine dP ?_;exact⟨[],_,rfl,by simp,fun h=>absurd h hN⟩)|(exact⟨[],[],⟨(k+1),aI⟩,aX,aI⟩)
   have hz:∀ k:Nat,List.replicate k [D.at (Value.int IntKind.i64 0)]=(List.replicate k (0:Int)).map eI:=fun k=>by simp [eI]
   repeat' (first|refine gA hz ?_|refine sp ?_ ?_ <;> intro h|(with_reducible apply And.intro)|exact aG|fail)
   refine gl (κ:=Nat × (List Int)) hm0 (fun q_=>q_.1≤rows.length∧q_.2.length=W) (fun q_=>[(1,.d (dInts c)),(4,.bp 4 0 0),(15,.og 63 0),(64,.d (dRows rows)),(65,I rows.length),(66,I q_.1)]) (fun q_=>[(4,.box 0 [I p]),(63,.arr 0 1 true (q_.2.map eI))]) (fun q_=>rows.length-q_.1) [] [] (0,List.replicate W 0) ?_
   rintro⟨k,o⟩ hI
   try simp only at hI ⊢
   try have hI2:=hI.2
   by_cases hk:k<rows.length
   ·have hs0:=getD_map eR [] [] rows k hk
    have hx:=hrows _ (mem_getD [] rows k hk)
    have hs1:=getD_map eI [] 0 c k (by omega)
    have hkc:k<c.length:=by omega
    generalize rows.getD k []=x at *
    generalize c.getD k 0=ck at *
    repeat' (first|refine gC hs0 hx eR.eq_1 ?_|refine sp ?_ ?_ <;> intro h|(with_reducible apply And.intro)|exact aG|fail)
    refine gl (κ:=Nat × (List Int)) hm0 (fun q_=>q_.1≤W∧q_.2.length=W) (fun q_=>[(1,.d (dInts c)),(4,.bp 4 0 0),(15,.og 63 0),(16,I k),(64,.d (dRows rows)),(65,I rows.length),(66,I k),(71,.d (dInts x)),(72,I W),(73,I q_.1)]) (fun q_=>[(4,.box 0 [I p]),(63,.arr 0 1 true (q_.2.map eI))]) (fun q_=>W-q_.1) [] [] (0,o) ?_
    rintro⟨j,o⟩ hI
    try simp only at hI ⊢
    try have hI2:=hI.2
    by_cases hj:j<W
    ·have hs2:=getD_map eI [] 0 x j (by omega)
     have hs3:=getD_map eI [] 0 o j (by omega)
     have hjo:j<o.length:=by omega
     generalize x.getD j 0=y at *
     generalize o.getD j 0=z at *
     repeat' (first|simp (maxSteps:=9999999) only[↓GE,PQ,seval,hs1,hs2,hs3,hx,hj,hjo,hkc,eI]|refine gS ?_|refine sp ?_ ?_ <;> intro h|(with_reducible apply And.intro)|exact aG|fail)
     (exact⟨[],[],⟨(j+1,o.set j ((IntKind.i64.wrap (z+IntKind.i64.wrap (ck*y))).tmod p)),aI⟩,aX,aI⟩)
    ·repeat' (first|refine gS ?_|refine sp ?_ ?_ <;> intro h|(with_reducible apply And.intro)|exact aG|fail)
     (exact⟨[],[],⟨(k+1,o),aI⟩,aX,aI⟩)
   ·repeat' (first|refine gS ?_|refine sp ?_ ?_ <;> intro h|(with_reducible apply And.intro)|exact aG|fail)
    refine dP ?_
    exact⟨o,_,rfl,by omega,fun h=>absurd h hN⟩
 have hN':=hN
 obtain⟨hf,hw0,hw,hcl,hrw,hca⟩:=hN'
 have hp:=(fieldB_iff.1 hf).1
 refine⟨⟨_,List.replicate w.toNat 0,0,rfl,by simp;omega,fun h=>⟨rfl,by simp;omega⟩⟩,wE Tryz.func165 fun cx hm0=>?_⟩
 obtain⟨W,rfl⟩:∃ W:Nat,w=W:=⟨w.toNat,by omega⟩
 repeat' (first|refine gB hf hcl ?_|refine sp ?_ ?_ <;> intro h|refine gP (r3check p) ?_|(with_reducible apply And.intro)|exact aG|fail)
 refine gl (κ:=Nat) hm0 (fun q_=>q_≤rows.length) (fun q_=>[(1,.d (dInts c)),(2,.d (dRows rows)),(3,I W),(4,.bp 4 0 0),(36,.d (dRows rows)),(37,I rows.length),(38,I q_)]) (fun q_=>[(4,.box 0 [I p])]) (fun q_=>rows.length-q_) [] [] (0) ?_
 rintro k hI
 try simp only at hI ⊢
 try have hI2:=hI.2
 by_cases hk:k<rows.length
 ·have hs0:=getD_map eR [] [] rows k hk
  obtain⟨hx,hxa⟩:=hrw _ (mem_getD [] rows k hk)
  generalize rows.getD k []=x at *
  repeat' (first|refine gC hs0 hx eR.eq_1 ?_|refine sp ?_ ?_ <;> intro h|(with_reducible apply And.intro)|exact aG|fail)
  all_goals (exact⟨[],[],⟨(k+1),aI⟩,aX,aI⟩)
 clear hI
 repeat' (first|refine gB hf hca ?_|refine sp ?_ ?_ <;> intro h|refine gP (r3in p c (by omega)) ?_|(with_reducible apply And.intro)|exact aG|fail)
 refine gl (κ:=Nat) hm0 (fun q_=>q_≤rows.length) (fun q_=>[(1,.d (dInts c)),(2,.d (dRows rows)),(3,I W),(4,.bp 4 0 0),(51,.d (dRows rows)),(52,I rows.length),(53,I q_)]) (fun q_=>[(4,.box 0 [I p])]) (fun q_=>rows.length-q_) [] [] (0) ?_
 rintro k hI
 try simp only at hI ⊢
 try have hI2:=hI.2
 by_cases hk:k<rows.length
 ·have hs0:=getD_map eR [] [] rows k hk
  obtain⟨hx,hxa⟩:=hrw _ (mem_getD [] rows k hk)
  generalize rows.getD k []=x at *
  repeat' (first|refine gQ hf hs0 hxa eR.eq_1 ?_|refine sp ?_ ?_ <;> intro h|refine gP (r3in p x (by omega)) ?_|(with_reducible apply And.intro)|exact aG|fail)
  (exact⟨[],[],⟨(k+1),aI⟩,aX,aI⟩)
 have hz:∀ k:Nat,List.replicate k [D.at (Value.int IntKind.i64 0)]=(List.replicate k (0:Int)).map eI:=fun k=>by simp [eI]
 repeat' (first|refine gA hz ?_|refine sp ?_ ?_ <;> intro h|(with_reducible apply And.intro)|exact aG|fail)
 refine gl (κ:=Nat × (List Int)) hm0 (fun q_=>q_.1≤rows.length∧q_.2.length=W) (fun q_=>[(1,.d (dInts c)),(4,.bp 4 0 0),(15,.og 63 0),(64,.d (dRows rows)),(65,I rows.length),(66,I q_.1)]) (fun q_=>[(4,.box 0 [I p]),(63,.arr 0 1 true (q_.2.map eI))]) (fun q_=>rows.length-q_.1) [] [] (0,List.replicate W 0) ?_
 rintro⟨k,o⟩ hI
 try simp only at hI ⊢
 try have hI2:=hI.2
 by_cases hk:k<rows.length
 ·have hs0:=getD_map eR [] [] rows k hk
  have hx:=(hrw _ (mem_getD [] rows k hk)).1
  have hs1:=getD_map eI [] 0 c k (by omega)
  have hkc:k<c.length:=by omega
  generalize rows.getD k []=x at *
  generalize c.getD k 0=ck at *
  repeat' (first|refine gC hs0 hx eR.eq_1 ?_|refine sp ?_ ?_ <;> intro h|(with_reducible apply And.intro)|exact aG|fail)
  refine gl (κ:=Nat × (List Int)) hm0 (fun q_=>q_.1≤W∧q_.2.length=W) (fun q_=>[(1,.d (dInts c)),(4,.bp 4 0 0),(15,.og 63 0),(16,I k),(64,.d (dRows rows)),(65,I rows.length),(66,I k),(71,.d (dInts x)),(72,I W),(73,I q_.1)]) (fun q_=>[(4,.box 0 [I p]),(63,.arr 0 1 true (q_.2.map eI))]) (fun q_=>W-q_.1) [] [] (0,o) ?_
  rintro⟨j,o⟩ hI
  try simp only at hI ⊢
  try have hI2:=hI.2
  by_cases hj:j<W
  ·have hs2:=getD_map eI [] 0 x j (by omega)
   have hs3:=getD_map eI [] 0 o j (by omega)
   have hjo:j<o.length:=by omega
   generalize x.getD j 0=y at *
   generalize o.getD j 0=z at *
   repeat' (first|simp (maxSteps:=9999999) only[↓GE,PQ,seval,hs1,hs2,hs3,hx,hj,hjo,hkc,eI]|refine gS ?_|refine sp ?_ ?_ <;> intro h|(with_reducible apply And.intro)|exact aG|fail)
   (exact⟨[],[],⟨(j+1,o.set j ((IntKind.i64.wrap (z+IntKind.i64.wrap (ck*y))).tmod p)),aI⟩,aX,aI⟩)
  ·repeat' (first|refine gS ?_|refine sp ?_ ?_ <;> intro h|(with_reducible apply And.intro)|exact aG|fail)
   (exact⟨[],[],⟨(k+1,o),aI⟩,aX,aI⟩)
 ·repeat' (first|refine gS ?_|refine sp ?_ ?_ <;> intro h|(with_reducible apply And.intro)|exact aG|fail)
  refine dP ?_
  exact⟨o,_,rfl,by omega,fun h=>⟨rfl,by omega⟩⟩
end Go.Proofs.YticdbambknflgaaGreat.Sim
end
section
namespace Go.Proofs.YticdbambknflgaaGreat.Sim
open Go
set_option maxRecDepth 100000
set_option maxHeartbeats 4000000
set_option linter.unusedVariables false
set_option linter.unusedSimpArgs false
attribute [local irreducible] Go Mean
theorem allIn1 {p x:Int} {l:List Int} (h:l.all (inE p)=true) (hx:x ∈ l):0≤x∧x<p:=by
 have:=List.all_eq_true.1 h x hx
 simpa [inE] using this
theorem all_set {p v:Int} {l:List Int} {i:Nat} (h:l.all (inE p)=true) (hv:0≤v∧v<p):(l.set i v).all (inE p)=true:=by
 rw[List.all_eq_true] at h ⊢
 intro x hx
 rcases List.mem_or_eq_of_mem_set hx with hx|rfl
 ·exact h x hx
 ·simp [inE,hv]
theorem tm_in2 {p z u v:Int} (hp:1≤p) (hp2:p≤65521) (hz:0≤z∧z<p) (hu:0≤u∧u<p) (hv:0≤v∧v<p):0≤(IntKind.i64.wrap (z+IntKind.i64.wrap (u*v))).tmod p∧(IntKind.i64.wrap (z+IntKind.i64.wrap (u*v))).tmod p<p:=by
 have h1:0≤u*v:=Int.mul_nonneg hu.1 hv.1
 have h2:u*v≤65521*65521:=Int.mul_le_mul (by omega) (by omega) hv.1 (by omega)
 have e1:IntKind.i64.wrap (u*v)=u*v:=IntWalk.i64_in _ (by omega)
 rw[e1,IntWalk.i64_in _ (by omega),Int.tmod_eq_emod_of_nonneg (by omega)]
 exact⟨Int.emod_nonneg _ (by omega),Int.emod_lt_of_pos _ (by omega)⟩
theorem hold18 (p sv deg grp w server:Int) (rows:List (List Int)) (hl:rows.length≤1000000) (hs:∀ x ∈ rows,x.length≤1000000):DoesP Tryz.prog 139 [.ag [I p],.ag [I sv,I deg,I grp],I w,.d (dRows rows),I server] (fun r=>∃ h e,r=.tu [.d (dRows h),I e]∧h.length≤1025∧∀ x ∈ h,(x.length:Int)=w∧x.all (inE p)=true):=by
 refine⟨⟨_,[],1,rfl,by simp⟩,wE Tryz.func139 fun cx hm0=>?_⟩
 repeat' (first|refine gS ?_|refine sp ?_ ?_ <;> intro h|(exfalso;omega)|(refine gW (check18 p sv deg grp) ?_;rintro _ ⟨e,rfl,he⟩ <;> refine⟨rfl,?_⟩)|(with_reducible apply And.intro)|exact aG|fail)
 all_goals try (refine dP ?_;exact⟨[],_,rfl,by simp,by simp⟩)
 obtain⟨hf,hv2,hv10,hpv,h5,h6,h7,h8,h9⟩:=he (by simp_all)
 have hp:=(fieldB_iff.1 hf).1
 have hp2:=(fieldB_iff.1 hf).2.1
 obtain⟨W,rfl⟩:∃ W:Nat,w=W:=⟨w.toNat,by omega⟩
 obtain⟨G,rfl⟩:∃ G:Nat,grp=G:=⟨grp.toNat,by omega⟩
 refine gl (κ:=Nat) hm0 (fun q_=>q_≤rows.length∧∀ x ∈ rows.take q_,x.length=W∧x.all (inE p)=true) (fun q_=>[(2,I W),(3,.d (dRows rows)),(4,I server),(5,.bp 5 0 0),(6,.bp 6 0 0),(49,.d (dRows rows)),(50,I rows.length),(51,I q_)]) (fun q_=>[(5,.box 0 [I p]),(6,.box 0 [I sv,I deg,I G])]) (fun q_=>rows.length-q_) [] [] (0) ?_
 rintro k hI
 try simp only at hI ⊢
 try have hI2:=hI.2
 by_cases hk:k<rows.length
 ·have hs0:=getD_map eR [] [] rows k hk
  have hx:=hs _ (mem_getD [] rows k hk)
  have ht:=take_succ_getD [] rows k hk
  generalize rows.getD k []=x at *
  repeat' (first|refine gC hf hs0 eR.eq_1 ?_|refine sp ?_ ?_ <;> intro h|refine gP (r3in p x (by omega)) ?_|(with_reducible apply And.intro)|exact aG|fail)
  all_goals try (refine dP ?_;exact⟨[],_,rfl,by simp,by simp⟩)
  refine⟨[],[],⟨k+1,hk,fun y hy=>?_⟩,?_,aI⟩
  ·rw[ht] at hy
   rcases List.mem_append.1 hy with hy|hy
   ·exact hI.2 y hy
   ·simp only[List.mem_singleton] at hy
    subst hy
    have h10:(y.length:Int)=W:=by simp_all
    exact⟨by omega,by simp_all⟩
  ·exact aX
 have hrows:∀ x ∈ rows,x.length=W∧x.all (inE p)=true:=by
  have:=hI.2
  rwa [List.take_of_length_le (by omega)] at this
 clear hI hI2
 have hz0:(List.replicate W (0:Int)).all (inE p)=true:=by rw[List.all_eq_true];intro x hx;rw[List.eq_of_mem_replicate hx];simp [inE];omega
 have hz:∀ k:Nat,List.replicate k [D.at (Value.int IntKind.i64 0)]=(List.replicate k (0:Int)).map eI:=fun k=>by simp [eI]
 repeat' (first|refine gS ?_|refine sp ?_ ?_ <;> intro h|(exfalso;omega)|(refine gW (groups18 sv deg G rows.length (by omega) (by omega) (by omega)) ?_;rintro _ ⟨n,e2,rfl,hn0,hn1⟩ <;> refine⟨rfl,?_⟩)|(with_reducible apply And.intro)|exact aG|fail)
 obtain⟨n,rfl⟩:∃ m:Nat,n=m:=⟨n.toNat,by omega⟩
 refine gl (κ:=Nat × (List (List Int)) × Nat) hm0 (fun q_=>(q_.1≤n∧q_.2.1.length=q_.1)∧∀ x ∈ q_.2.1,x.length=W∧x.all (inE p)=true) (fun q_=>[(2,I W),(3,.d (dRows rows)),(4,I server),(5,.bp 5 0 0),(6,.bp 6 0 0),(15,I n),(17,.og 132 q_.2.2),(18,I q_.1)]) (fun q_=>[(5,.box 0 [I p]),(6,.box 0 [I sv,I deg,I G]),(132,.arr q_.2.2 1 true (q_.2.1.map eR))]) (fun q_=>n-q_.1) [] [132] (0,[],0) ?_
 rintro⟨g,out,v⟩ hI
 try simp only at hI ⊢
 try have hI2:=hI.2
 have hout:=hI2
 by_cases hg:g<n
 ·repeat' (first|refine gA hz ?_|refine sp ?_ ?_ <;> intro h|(with_reducible apply And.intro)|exact aG|fail)
  have hgG:g*G≤1025*10:=Nat.mul_le_mul (by omega) (by omega)
  have wg:IntKind.i64.wrap ((g:Int)*(G:Int))=((g*G:Nat):Int):=by rw[← Int.natCast_mul,IntWalk.i64_in _ (by omega)]
  refine gl (κ:=Nat × (List Int)) hm0 (fun q_=>q_.1≤G∧q_.2.length=W∧q_.2.all (inE p)=true) (fun q_=>[(2,I W),(3,.d (dRows rows)),(4,I server),(5,.bp 5 0 0),(6,.bp 6 0 0),(15,I n),(17,.og 132 v),(18,I g),(19,.og 77 0),(20,I q_.1)]) (fun q_=>[(5,.box 0 [I p]),(6,.box 0 [I sv,I deg,I G]),(77,.arr 0 1 true (q_.2.map eI)),(132,.arr v 1 true (out.map eR))]) (fun q_=>G-q_.1) [] [] (0,List.replicate W 0) ?_ (h0:=(aY hz0))
  rintro⟨i,hd⟩ hI
  try simp only at hI ⊢
  try have hI2:=hI.2
  have wi:IntKind.i64.wrap (((g*G:Nat):Int)+(i:Int))=((g*G+i:Nat):Int):=by rw[IntWalk.i64_in _ (by omega)];omega
  by_cases hi:i<G∧g*G+i<rows.length
  ·have r1:decide ((i:Int)<(G:Int))=true:=decide_eq_true (by omega)
   have r2:decide (((g*G+i:Nat):Int)<(rows.length:Int))=true:=decide_eq_true (by omega)
   have hs0:=getD_map eR [] [] rows (g*G+i) hi.2
   obtain⟨hrl,hra⟩:=hrows _ (mem_getD [] rows (g*G+i) hi.2)
   have hil:=hi.2
   generalize rows.getD (g*G+i) []=row at *
   repeat' (first|simp (maxSteps:=9999999) only[↓GE,PQ,seval,r1,r2,wg,wi,hs0,hil,hrl,eR]|refine gS ?_|refine sp ?_ ?_ <;> intro h|(exfalso;omega)|(refine gW (pow3 p server i (by omega)) ?_;rintro _ ⟨x,rfl,hx⟩ <;> refine⟨rfl,?_⟩)|(with_reducible apply And.intro)|exact aG|fail)
   obtain⟨hx1,hx2⟩:=hx (by omega) (by omega) (by omega)
   refine gl (κ:=Nat × (List Int)) hm0 (fun q_=>q_.1≤W∧q_.2.length=W∧q_.2.all (inE p)=true) (fun q_=>[(2,I W),(3,.d (dRows rows)),(4,I server),(5,.bp 5 0 0),(6,.bp 6 0 0),(15,I n),(17,.og 132 v),(18,I g),(19,.og 77 0),(20,I i),(21,I x),(107,.d (dInts row)),(108,I W),(109,I q_.1)]) (fun q_=>[(5,.box 0 [I p]),(6,.box 0 [I sv,I deg,I G]),(77,.arr 0 1 true (q_.2.map eI)),(132,.arr v 1 true (out.map eR))]) (fun q_=>W-q_.1) [] [] (0,hd) ?_
   rintro⟨c,hd⟩ hI
   try simp only at hI ⊢
   try have hI2:=hI.2
   by_cases hc:c<W
   ·have hs1:=getD_map eI [] 0 row c (by omega)
    have hs2:=getD_map eI [] 0 hd c (by omega)
    have hy:=allIn1 hra (mem_getD 0 row c (by omega))
    have hz1:=allIn1 hI2.2 (mem_getD 0 hd c (by omega))
    have hcl:c<hd.length:=by omega
    generalize row.getD c 0=y at *
    generalize hd.getD c 0=z at *
    have hv:=tm_in2 (p:=p) (by omega) hp2 hz1 ⟨hx1,hx2⟩ hy
    repeat' (first|simp (maxSteps:=9999999) only[↓GE,PQ,seval,hs1,hs2,hcl,hc,hrl,eI]|refine gS ?_|refine sp ?_ ?_ <;> intro h|(with_reducible apply And.intro)|exact aG|fail)
    refine⟨[],[],⟨(c+1,hd.set c ((IntKind.i64.wrap (z+IntKind.i64.wrap (x*y))).tmod p)),by omega,by simp only[List.length_set];omega,all_set hI2.2 hv⟩,?_,aI⟩
    exact aX
   ·repeat' (first|refine gS ?_|refine sp ?_ ?_ <;> intro h|(with_reducible apply And.intro)|exact aG|fail)
    (exact⟨[],[],⟨(i+1,hd),aI⟩,aX,aI⟩)
  ·have hno:¬ (i<G)∨¬ (g*G+i<rows.length):=by omega
   by_cases hiG:i<G
   ·have r1:decide ((i:Int)<(G:Int))=true:=decide_eq_true (by omega)
    have r2:decide (((g*G+i:Nat):Int)<(rows.length:Int))=false:=decide_eq_false (by omega)
    repeat' (first|refine gQ r1 r2 wg wi ?_|refine sp ?_ ?_ <;> intro h|(with_reducible apply And.intro)|exact aG|fail)
    refine⟨[],[],⟨(g+1,out++[hd],v+1),⟨aI,fun y hy=>?_⟩⟩,?_,aI⟩
    ·rcases List.mem_append.1 hy with hy|hy
     ·exact hout y hy
     ·simp only[List.mem_singleton] at hy;subst hy;exact hI2
    ·exact aY eR.eq_1
   ·have r1:decide ((i:Int)<(G:Int))=false:=decide_eq_false (by omega)
    repeat' (first|refine gA r1 ?_|refine sp ?_ ?_ <;> intro h|(with_reducible apply And.intro)|exact aG|fail)
    refine⟨[],[],⟨(g+1,out++[hd],v+1),⟨aI,fun y hy=>?_⟩⟩,?_,aI⟩
    ·rcases List.mem_append.1 hy with hy|hy
     ·exact hout y hy
     ·simp only[List.mem_singleton] at hy;subst hy;exact hI2
    ·exact aY eR.eq_1
 ·repeat' (first|refine gS ?_|refine sp ?_ ?_ <;> intro h|(with_reducible apply And.intro)|exact aG|fail)
  refine dP ?_
  refine⟨out,_,rfl,by omega,fun x hx=>?_⟩
  have:=hI2 x hx
  exact⟨by omega,this.2⟩
end Go.Proofs.YticdbambknflgaaGreat.Sim
end
section
namespace Go.Proofs.YticdbambknflgaaGreat.Sim
open Go
set_option maxRecDepth 100000
set_option maxHeartbeats 4000000
set_option linter.unusedVariables false
set_option linter.unusedSimpArgs false
attribute [local irreducible] Go Mean
theorem answer16 (p w:Int) (c:List Int) (rows:List (List Int)) (hc:c.length≤1000000) (hr:rows.length≤1000000) (hs:∀ x ∈ rows,x.length≤1000000):DoesP Tryz.prog 152 [.ag [I p],I w,.d (dRows rows),.d (dInts c)] (fun r=>∃ out e,r=.tu [.d (dInts out),I e]∧out.length≤64∧(CombOK p w c rows→e=0∧(out.length:Int)=w)):=by
 refine⟨(combine4 p w c rows hc hr hs).1,wE Tryz.func152 fun cx hm0=>?_⟩
 repeat' (first|refine gS ?_|refine sp ?_ ?_ <;> intro h|(exfalso;omega)|(refine gW (combine4 p w c rows hc hr hs) ?_;rintro _ ⟨l,e,rfl,hl,he⟩ <;> refine⟨rfl,?_⟩)|(with_reducible apply And.intro)|exact aG|fail)
 all_goals (refine dP ?_;exact⟨_,_,rfl,hl,he⟩)
theorem answer23 (p w:Int) (c:List Int) (rows:List (List Int)) (hc:c.length≤1000000) (hr:rows.length≤1000000) (hs:∀ x ∈ rows,x.length≤1000000):DoesP Tryz.prog 131 [.ag [I p],I w,.d (dRows rows),.d (dInts c)] (fun r=>∃ out e,r=.tu [.d (dInts out),I e]∧out.length≤64∧(CombOK p w c rows→e=0∧(out.length:Int)=w)):=by
 refine⟨(combine4 p w c rows hc hr hs).1,wE Tryz.func131 fun cx hm0=>?_⟩
 repeat' (first|refine gS ?_|refine sp ?_ ?_ <;> intro h|(exfalso;omega)|(refine gW (answer16 p w c rows hc hr hs) ?_;rintro _ ⟨l,e,rfl,hl,he⟩ <;> refine⟨rfl,?_⟩)|(with_reducible apply And.intro)|exact aG|fail)
 all_goals (refine dP ?_;exact⟨_,_,rfl,hl,he⟩)
theorem limits23 (s:PSch) (p rows:Int):DoesP Tryz.prog 125 [vSch s,.ag [I p],I rows] (fun r=>∃ l e,r=.tu [.d (dInts l),I e]∧l.length≤20000):=by
 have e1:=valid23 s p
 refine⟨⟨_,[],1,rfl,by simp⟩,wE Tryz.func125 fun cx hm0=>?_⟩
 cases hv:vldB s p with
 |false =>
  repeat' (first|refine gA hv ?_|refine sp ?_ ?_ <;> intro h|refine gP e1 ?_|(with_reducible apply And.intro)|exact aG|fail)
  all_goals (refine dP ?_;exact⟨[],_,rfl,by simp⟩)
 |true =>
  repeat' (first|refine gA hv ?_|refine sp ?_ ?_ <;> intro h|(exfalso;omega)|refine gP e1 ?_|(refine gW (limits16 p rows s.sv) ?_;rintro _ ⟨l,e,rfl,hl,he⟩ <;> refine⟨rfl,?_⟩)|refine gP (plan23 s) ?_|refine gP (storage23 s) ?_|refine gP (units23 s rows) ?_|(refine gW (limits17 p s.sv s.deg rows) ?_;rintro _ ⟨l,e,rfl,hl,he⟩ <;> refine⟨rfl,?_⟩)|(refine gW (limits18 p s.sv s.deg s.grp (unitsF s rows)) ?_;rintro _ ⟨l,e,rfl,hl,he⟩ <;> refine⟨rfl,?_⟩)|(with_reducible apply And.intro)|exact aG|fail)
  all_goals first|(refine dP ?_;exact⟨[],_,rfl,by simp⟩)|(refine dP ?_;exact⟨_,_,rfl,by omega⟩)
theorem hold23 (s:PSch) (t:PTab) (j:Int) (hl:t.rows.length≤1000000) (hs:∀ x ∈ t.rows,x.length≤1000000):DoesP Tryz.prog 119 [vSch s,vTab t,I j] (fun r=>∃ h e,r=.tu [.d (dRows h),I e]∧h.length≤1025∧∀ x ∈ h,(x.length:Int)=t.width∧x.all (inE t.p)=true):=by
 have e1:=valid23 s t.p
 have e2:=r14check t (by omega) (fun x hx=>by have:=hs x hx;omega)
 refine⟨⟨_,[],1,rfl,by simp⟩,wE Tryz.func119 fun cx hm0=>?_⟩
 by_cases hc:checkT t=0
 case neg =>
  have hc':(checkT t != 0)=true:=by simpa using hc
  repeat' (first|refine gA hc' ?_|refine sp ?_ ?_ <;> intro h|refine gP e1 ?_|refine gP e2 ?_|(with_reducible apply And.intro)|exact aG|fail)
  all_goals (refine dP ?_;exact⟨[],_,rfl,by simp⟩)
 cases hv:vldB s t.p with
 |false =>
  repeat' (first|refine gB hv hc ?_|refine sp ?_ ?_ <;> intro h|refine gP e1 ?_|refine gP e2 ?_|(with_reducible apply And.intro)|exact aG|fail)
  all_goals (refine dP ?_;exact⟨[],_,rfl,by simp⟩)
 |true =>
  repeat' (first|refine gB hv hc ?_|refine sp ?_ ?_ <;> intro h|(exfalso;omega)|refine gP e1 ?_|refine gP e2 ?_|refine gP (storage23 s) ?_|(refine gW (hold18 t.p s.sv s.deg s.grp t.width j t.rows hl hs) ?_;rintro _ ⟨h,e,rfl,hl2,he⟩ <;> refine⟨rfl,?_⟩)|(with_reducible apply And.intro)|exact aG|fail)
  all_goals try first|(refine dP ?_;exact⟨[],_,rfl,by simp,by simp⟩)|(refine dP ?_;exact⟨_,_,rfl,hl2,he⟩)
  refine gl (κ:=Nat × Nat) hm0 (fun q_=>q_.1≤t.rows.length) (fun q_=>[(4,.bp 4 0 0),(9,.og 60 q_.2),(10,I q_.1)]) (fun q_=>[(4,.box 0 [I t.num,I t.p,I t.width,.d (dRows t.rows)]),(60,.arr q_.2 1 true ((t.rows.take q_.1).map eR))]) (fun q_=>t.rows.length-q_.1) [] [60] (0,0) ?_
  rintro⟨k,v⟩ hI
  try simp only at hI ⊢
  try have hI2:=hI.2
  by_cases hk:k<t.rows.length
  ·have hs0:=getD_map eR [] [] t.rows k hk
   have ht:=take_succ_getD [] t.rows k hk
   have hx:=hs _ (mem_getD [] t.rows k hk)
   generalize t.rows.getD k []=x at *
   have hq0:((t.rows.take k).length+1)*24≤140737488355328:=by rw[List.length_take];omega
   have hq:Nat.le (((t.rows.take k).length+1)*24) 140737488355328:=hq0
   repeat' (first|refine gQ hs0 hk hq eR.eq_1 ?_|refine sp ?_ ?_ <;> intro h|(with_reducible apply And.intro)|exact aG|fail)
   all_goals try (exfalso;omega)
   (exact⟨[],[],⟨(k+1,v+1),aI⟩,(aY (And.intro ht eR.eq_1)),aI⟩)
  ·rw[List.take_of_length_le (by omega)]
   repeat' (first|refine gS ?_|refine sp ?_ ?_ <;> intro h|(with_reducible apply And.intro)|exact aG|fail)
   refine dP ?_
   obtain⟨h1,h2,h3,h4,h5,h6,h7⟩:=checkT_ok hc
   exact⟨t.rows,_,rfl,by omega,fun x hx=>⟨by have:=((rowsErr_ok (by omega)).1 h7 x hx).1;omega,((rowsErr_ok (by omega)).1 h7 x hx).2⟩⟩
end Go.Proofs.YticdbambknflgaaGreat.Sim
end
