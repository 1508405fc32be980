/- Tapes, powers. -/
import Derived.Test.YticdbambknflgaaGreatMWoR
import Derived.Test.YticdbambknflgaaGreatMAcs
import Derived.Test.YticdbambknflgaaGreatMSimZf
namespace Go.Proofs.YticdbambknflgaaGreat.Sim
open Go
set_option maxRecDepth 100000
set_option maxHeartbeats 4000000
set_option linter.unusedVariables false
set_option linter.unusedSimpArgs false
attribute [local irreducible] Go Mean
theorem valid2 (t:List Int) (a:Int):DoesP Tryz.prog 174 [vTape t a] (fun r=>∃ b,r=B b∧(b=true→t.length≤16384∧0≤a∧a≤t.length)):=by
 refine⟨⟨_,false,rfl,by simp⟩,wE Tryz.func174 fun cx hm0=>?_⟩
 repeat' (first|refine gS ?_|refine sp ?_ ?_ <;> intro h|(with_reducible apply And.intro)|exact aG|fail)
 all_goals
  refine dP ?_
  refine⟨_,rfl,fun hb=>?_⟩
  first|cases hb|(simp at *;omega)
theorem copy2 (t:List Int) (a:Int) (hl:t.length≤1000000):Does Tryz.prog 175 [vTape t a] [] (vTape t a) [] []:=by
 refine wD Tryz.func175 fun cx hm0=>?_
 repeat' (first|refine gS ?_|refine sp ?_ ?_ <;> intro h|(with_reducible apply And.intro)|exact aG|fail)
 all_goals exact rt []
theorem draws2 (t:List Int) (a n c:Int) (hl:t.length≤1000000) (hc:c≤1000000):DoesP Tryz.prog 170 [vTape t a,I n,I c] (fun r=>∃ u b l e,r=.tu [vTape u b,.d (dInts l),I e]∧u.length≤1000000∧l.length≤1000000∧(e=0→l.length=c.toNat)):=by
 refine⟨⟨_,[],0,[],1,rfl,by simp,by simp,by simp⟩,wE Tryz.func170 fun cx hm0=>?_⟩
 repeat' (first|refine gS ?_|refine sp ?_ ?_ <;> intro h|(exfalso;omega)|(refine gW (valid2 t a) ?_;rintro _ ⟨b,rfl,hb⟩ <;> refine⟨rfl,?_⟩)|refine gP (copy2 t a hl) ?_|(with_reducible apply And.intro)|exact aG|fail)
 all_goals try (refine dP ?_;exact⟨[],_,[],_,rfl,by simp,by simp,fun h=>by omega⟩)
 have hb:=hb (by simp_all)
 obtain⟨a,rfl⟩:∃ m:Nat,a=m:=⟨a.toNat,by omega⟩
 refine gl (κ:=Nat × Nat × (List Int) × Nat) hm0 (fun q_=>q_.1≤c.toNat∧q_.2.1≤t.length∧q_.2.2.1.length=q_.1) (fun q_=>[(1,I n),(2,I c),(3,.bp 3 0 0),(6,.bp 6 0 0),(9,.og 62 q_.2.2.2),(10,I q_.1)]) (fun q_=>[(3,.box 0 [.d (dInts t),I q_.2.1]),(6,.box 0 [.nl 1,I 0]),(62,.arr q_.2.2.2 1 true (q_.2.2.1.map eI))]) (fun q_=>c.toNat-q_.1) [] [62] (0,a,[],0) ?_
 rintro⟨k,b,out,v⟩ hI
 try simp only at hI ⊢
 try have hI2:=hI.2
 by_cases hk:k<c.toNat
 ·by_cases hbt:b<t.length
  ·have r1:((b:Int) == (t.length:Int))=false:=by rw[beq_eq_false_iff_ne];omega
   have hs:=getD_map eI [] 0 t b hbt
   generalize t.getD b 0=x at *
   repeat' (first|refine gC r1 hs eI.eq_1 ?_|refine sp ?_ ?_ <;> intro h|(with_reducible apply And.intro)|exact aG|fail)
   all_goals try (refine dP ?_;exact⟨[],_,[],_,rfl,by simp,by simp,fun h=>by omega⟩)
   (exact⟨[],[],⟨(k+1,b+1,out++[x],v+1),aI⟩,aX,aI⟩)
  ·have r1:((b:Int) == (t.length:Int))=true:=by rw[beq_iff_eq];omega
   repeat' (first|refine gA r1 ?_|refine sp ?_ ?_ <;> intro h|(with_reducible apply And.intro)|exact aG|fail)
   all_goals (refine dP ?_;exact⟨[],_,[],_,rfl,by simp,by simp,fun h=>by omega⟩)
 ·repeat' (first|refine gS ?_|refine sp ?_ ?_ <;> intro h|(with_reducible apply And.intro)|exact aG|fail)
  all_goals (refine dP ?_;exact⟨t,_,out,_,rfl,hl,by omega,fun h=>by omega⟩)
theorem seeded2 (s:Int) (l:List Int) (hl:l.length≤1000000):DoesP Tryz.prog 150 [I s,.d (dInts l)] (fun r=>∃ u e,r=.tu [vTape u 0,I e]∧u.length≤l.length):=by
 refine⟨⟨_,[],1,rfl,by simp⟩,wE Tryz.func150 fun cx hm0=>?_⟩
 repeat' (first|refine gS ?_|refine sp ?_ ?_ <;> intro h|(with_reducible apply And.intro)|exact aG|fail)
 all_goals try (refine dP ?_;exact⟨[],_,rfl,by simp⟩)
 refine gl (κ:=Nat) hm0 (fun q_=>q_≤l.length∧∀ x ∈ l.take q_,1≤x) (fun q_=>[(0,I s),(1,.d (dInts l)),(4,.bp 4 0 0),(22,.d (dInts l)),(23,I l.length),(24,I q_)]) (fun q_=>[(4,.box 0 [.nl 1,I 0])]) (fun q_=>l.length-q_) [] [] (0) ?_
 rintro k hI
 try simp only at hI ⊢
 try have hI2:=hI.2
 by_cases hk:k<l.length
 ·have hs:=getD_map eI [] 0 l k hk
  have ht:=take_succ_getD 0 l k hk
  generalize l.getD k 0=x at *
  repeat' (first|refine gB hs eI.eq_1 ?_|refine sp ?_ ?_ <;> intro h|(with_reducible apply And.intro)|exact aG|fail)
  all_goals try (refine dP ?_;exact⟨[],_,rfl,by simp⟩)
  refine⟨[],[],⟨k+1,hk,fun y hy=>?_⟩,?_,by simp only;omega⟩
  ·rw[ht] at hy
   rcases List.mem_append.1 hy with hy|hy
   ·exact hI.2 y hy
   ·simp only[List.mem_singleton] at hy;omega
  ·exact aX
 obtain rfl:k=l.length:=by omega
 have hpos:∀ x ∈ l,1≤x:=by simpa using hI.2
 repeat' (first|refine gS ?_|refine sp ?_ ?_ <;> intro h|(with_reducible apply And.intro)|exact aG|fail)
 refine gl (κ:=Nat × Int × (List Int) × Nat) hm0 (fun q_=>q_.1≤l.length∧q_.2.2.1.length=q_.1) (fun q_=>[(0,I q_.2.1),(4,.bp 4 0 0),(8,.bp 8 0 0),(36,.d (dInts l)),(37,I l.length),(38,I q_.1)]) (fun q_=>[(4,.box 0 [.nl 1,I 0]),(8,.box 0 [.og 51 q_.2.2.2,I 0]),(51,.arr q_.2.2.2 1 true (q_.2.2.1.map eI))]) (fun q_=>l.length-q_.1) [] [51] (0,s,[],0) ?_
 rintro⟨k,s,out,v⟩ hI
 try simp only at hI ⊢
 try have hI2:=hI.2
 by_cases hk:k<l.length
 ·have hs:=getD_map eI [] 0 l k hk
  have hx:=hpos _ (mem_getD 0 l k hk)
  generalize l.getD k 0=x at *
  repeat' (first|refine gB hs eI.eq_1 ?_|refine sp ?_ ?_ <;> intro h|(with_reducible apply And.intro)|exact aG|fail)
  (exact⟨[],[],⟨(k+1,(IntKind.i64.wrap (s*48271)).tmod 2147483647,out++[((IntKind.i64.wrap (s*48271)).tmod 2147483647).tmod x],v+1),aI⟩,aX,aI⟩)
 ·repeat' (first|refine gS ?_|refine sp ?_ ?_ <;> intro h|(with_reducible apply And.intro)|exact aG|fail)
  all_goals (refine dP ?_;exact⟨out,_,rfl,by omega⟩)
theorem tm_in {p u v:Int} (hp:1≤p) (hu:0≤u∧u≤65521) (hv:0≤v∧v≤65521):0≤(IntKind.i64.wrap (u*v)).tmod p∧(IntKind.i64.wrap (u*v)).tmod p<p:=by
 have h1:0≤u*v:=Int.mul_nonneg hu.1 hv.1
 have h2:u*v≤65521*65521:=Int.mul_le_mul hu.2 hv.2 hv.1 (by omega)
 rw[IntWalk.i64_in _ (by omega),Int.tmod_eq_emod_of_nonneg h1]
 exact⟨Int.emod_nonneg _ (by omega),Int.emod_lt_of_pos _ (by omega)⟩
theorem pow3 (p a n:Int) (hp:1≤p):DoesP Tryz.prog 158 [.ag [I p],I a,I n] (fun r=>∃ x,r=I x∧(0≤a→a≤65521→p≤65521→0≤x∧x<p)):=by
 refine⟨⟨_,0,rfl,fun _ _ _=>by omega⟩,wE Tryz.func158 fun cx hm0=>?_⟩
 have h1:0≤(1:Int).tmod p∧(1:Int).tmod p<p:=by
  rw[Int.tmod_eq_emod_of_nonneg (by omega)]
  exact⟨Int.emod_nonneg _ (by omega),Int.emod_lt_of_pos _ (by omega)⟩
 repeat' (first|refine gS ?_|refine sp ?_ ?_ <;> intro h|(with_reducible apply And.intro)|exact aG|fail)
 generalize (1:Int).tmod p=x0 at *
 refine gl (κ:=Int × Int × Int) hm0 (fun q_=>0≤a→a≤65521→p≤65521→(0≤q_.1∧q_.1≤65521)∧0≤q_.2.2∧q_.2.2<p) (fun q_=>[(1,I q_.1),(2,I q_.2.1),(3,.bp 3 0 0),(7,I q_.2.2)]) (fun q_=>[(3,.box 0 [I p])]) (fun q_=>q_.2.1.toNat) [] [] (a,n,x0) ?_
 rintro⟨b,n,x⟩ hI
 try simp only at hI ⊢
 try have hI2:=hI.2
 repeat' (first|refine gS ?_|refine sp ?_ ?_ <;> intro h|(with_reducible apply And.intro)|exact aG|fail)
 ·refine⟨[],[],⟨((IntKind.i64.wrap (b*b)).tmod p,n / 2,(IntKind.i64.wrap (x*b)).tmod p),fun h1 h2 h3=>?_⟩,?_,aI⟩
  ·have:=hI h1 h2 h3
   have k1:=tm_in hp this.1 this.1
   have k2:=tm_in (u:=x) hp ⟨this.2.1,by omega⟩ this.1
   exact⟨⟨k1.1,by omega⟩,k2⟩
  ·exact aX
 ·refine⟨[],[],⟨((IntKind.i64.wrap (b*b)).tmod p,n / 2,x),fun h1 h2 h3=>?_⟩,?_,aI⟩
  ·have:=hI h1 h2 h3
   have k1:=tm_in hp this.1 this.1
   exact⟨⟨k1.1,by omega⟩,this.2⟩
  ·exact aX
 ·refine dP ?_
  exact⟨_,rfl,fun h1 h2 h3=>(hI h1 h2 h3).2⟩
theorem inv3 (p a:Int) (hp:1≤p):DoesP Tryz.prog 191 [.ag [I p],I a] (fun r=>∃ x,r=I x):=by
 refine⟨⟨_,0,rfl⟩,wE Tryz.func191 fun cx hm0=>?_⟩
 repeat' (first|refine gS ?_|refine sp ?_ ?_ <;> intro h|(exfalso;omega)|(refine gW (pow3 p a _ hp) ?_;rintro _ ⟨x,rfl,hx⟩ <;> refine⟨rfl,?_⟩)|(with_reducible apply And.intro)|exact aG|fail)
 refine dP ?_
 exact⟨_,rfl⟩
end Go.Proofs.YticdbambknflgaaGreat.Sim
