/- Limits. -/
import Derived.Test.YticdbambknflgaaGreatMWoB
import Derived.Test.YticdbambknflgaaGreatMAcs
section
namespace Go.Proofs.YticdbambknflgaaGreat.Sim
open Go
set_option maxRecDepth 100000
set_option maxHeartbeats 4000000
set_option linter.unusedVariables false
set_option linter.unusedSimpArgs false
attribute [local irreducible] Go Mean
theorem lists5 (p:Int) (l:List (List Int)) (hl:l.length≤1000) (hs:∀ x ∈ l,x.length≤1000000):DoesP Tryz.prog 176 [.ag [I p],.d (dRows l)] (fun r=>∃ e,r=I e∧(e=0→fieldB p=true)):=by
 refine⟨⟨_,1,rfl,by simp⟩,wE Tryz.func176 fun cx hm0=>?_⟩
 cases hf:fieldB p with
 |false =>
  repeat' (first|refine gA hf ?_|refine sp ?_ ?_ <;> intro h|refine gP (r3check p) ?_|(with_reducible apply And.intro)|exact aG|fail)
  all_goals (refine dP ?_;exact⟨_,rfl,aQ⟩)
 |true =>
  repeat' (first|refine gA hf ?_|refine sp ?_ ?_ <;> intro h|refine gP (r3check p) ?_|(with_reducible apply And.intro)|exact aG|fail)
  refine gl (κ:=Nat) hm0 (fun q_=>q_≤l.length) (fun q_=>[(1,.d (dRows l)),(2,.bp 2 0 0),(15,.d (dRows l)),(16,I l.length),(17,I q_)]) (fun q_=>[(2,.box 0 [I p])]) (fun q_=>l.length-q_) [] [] (0) ?_
  rintro k hI
  try simp only at hI ⊢
  try have hI2:=hI.2
  by_cases hk:k<l.length
  ·have hr:=getD_map eR [] [] l k hk
   have hx:=hs _ (mem_getD [] l k hk)
   generalize l.getD k []=x at *
   repeat' (first|refine gC hf hr eR.eq_1 ?_|refine sp ?_ ?_ <;> intro h|refine gP (r3in p x (by omega)) ?_|(with_reducible apply And.intro)|exact aG|fail)
   all_goals first|(exact⟨[],[],⟨(k+1),aI⟩,aX,aI⟩)|(refine dP ?_;exact⟨_,rfl,aQ⟩)
  repeat' (first|refine gS ?_|refine sp ?_ ?_ <;> intro h|(with_reducible apply And.intro)|exact aG|fail)
  refine gl (κ:=Nat) hm0 (fun q_=>q_≤l.length) (fun q_=>[(26,.d (dRows l)),(27,I l.length),(28,I q_)]) (fun q_=>[]) (fun q_=>l.length-q_) [] [] (0) ?_
  rintro k hI
  try simp only at hI ⊢
  try have hI2:=hI.2
  by_cases hk:k<l.length
  ·have hr:=getD_map eR [] [] l k hk
   have hx:=hs _ (mem_getD [] l k hk)
   generalize l.getD k []=x at *
   repeat' (first|refine gB hr eR.eq_1 ?_|refine sp ?_ ?_ <;> intro h|(with_reducible apply And.intro)|exact aG|fail)
   all_goals first|(exact⟨[],[],⟨(k+1),aI⟩,aX,aI⟩)|(refine dP ?_;exact⟨_,rfl,aQ⟩)
  repeat' (first|refine gS ?_|refine sp ?_ ?_ <;> intro h|(with_reducible apply And.intro)|exact aG|fail)
  all_goals (refine dP ?_;exact⟨_,rfl,aQ⟩)
def trimG (l:List Int):List Int:=(l.reverse.dropWhile fun x=>decide (x=0)).reverse
theorem trimG_len (l:List Int):(trimG l).length≤l.length:=by
 unfold trimG
 have:=(List.dropWhile_sublist (l:=l.reverse) (fun x=>decide (x=0))).length_le
 simpa using this
theorem trimG_app (l:List Int) (x:Int):trimG (l++[x])=if x=0 then trimG l else l++[x]:=by
 unfold trimG
 rw[List.reverse_append,List.reverse_singleton,List.singleton_append,List.dropWhile_cons]
 by_cases h:x=0 <;> simp [h]
theorem trimG_last {l:List Int} {j:Nat} (h:l.length=j+1):trimG l=if l.getD j 0=0 then trimG (l.take j) else l:=by
 have e:l=l.take j++[l.getD j 0]:=by
  have:=take_succ_getD 0 l j (by omega)
  rw[List.take_of_length_le (by omega)] at this
  exact this
 have:=trimG_app (l.take j) (l.getD j 0)
 rw[← e] at this
 exact this
theorem trim5 (l:List Int) (hl:l.length≤1000000):Does Tryz.prog 190 [.d (dInts l)] [] (.og 1000000 0) [] [.arr 0 1 true ((trimG l).map eI)]:=by
 refine wD Tryz.func190 fun cx hm0=>?_
 repeat' (first|refine gS ?_|refine sp ?_ ?_ <;> intro h|(with_reducible apply And.intro)|exact aG|fail)
 refine gl (κ:=(List Int)) hm0 (fun q_=>q_.length≤l.length∧trimG q_=trimG l) (fun q_=>[(0,.d (dInts q_))]) (fun q_=>[]) (fun q_=>q_.length) [] [] (l) ?_
 rintro q hI
 try simp only at hI ⊢
 try have hI2:=hI.2
 cases hq:q.length with
 |zero =>
  obtain rfl:q=[]:=List.length_eq_zero_iff.1 hq
  rw[← hI.2]
  repeat' (first|refine gS ?_|refine sp ?_ ?_ <;> intro h|(with_reducible apply And.intro)|exact aG|fail)
  all_goals ((first|apply ret_mk [some 21]|apply end_mk [some 21]);(· exact aR);all_goals exact aF)
 |succ j =>
  have hs:=getD_map eI [] 0 q j (by omega)
  have ht:=trimG_last hq
  have w1:IntKind.i64.wrap (((j+1:Nat):Int)-1)=(j:Int):=by rw[IntWalk.i64_in _ (by omega)];omega
  have hm:(q.map eI).take j=(q.take j).map eI:=List.map_take.symm
  by_cases hx:q.getD j 0=0
  ·rw[hx] at hs ht
   rw[if_pos rfl] at ht
   repeat' (first|simp (maxSteps:=9999999) only[↓GE,PQ,seval,hs,w1,hq,hm,eI]|refine gS ?_|refine sp ?_ ?_ <;> intro h|(with_reducible apply And.intro)|exact aG|fail)
   refine⟨[],[],⟨q.take j,by rw[List.length_take];omega,by rw[← ht];exact hI.2⟩,?_,by simp only[List.length_take];omega⟩
   exact aX
  ·rw[if_neg hx] at ht
   have r1:((q.getD j 0) == 0)=false:=by rw[beq_eq_false_iff_ne];exact hx
   rw[← hI.2,ht]
   generalize q.getD j 0=x at *
   repeat' (first|simp (maxSteps:=9999999) only[↓GE,PQ,seval,hs,w1,hq,hm,r1,eI]|refine gS ?_|refine sp ?_ ?_ <;> intro h|(with_reducible apply And.intro)|exact aG|fail)
   all_goals ((first|apply ret_mk [some 21]|apply end_mk [some 21]);(· exact aR);all_goals exact aF)
def valN (p x:Int) (l:List Int):Nat→Int
 |0=>0
 |k+1=>(IntKind.i64.wrap (IntKind.i64.wrap (valN p x l k*x)+l.getD (l.length-1-k) 0)).tmod p
theorem value5 (p x:Int) (l:List Int) (hp:1≤p) (hl:l.length≤1000000):Does Tryz.prog 177 [.ag [I p],.d (dInts l),I x] [] (I (valN p x l l.length)) [] []:=by
 refine wD Tryz.func177 fun cx hm0=>?_
 repeat' (first|refine gS ?_|refine sp ?_ ?_ <;> intro h|(with_reducible apply And.intro)|exact aG|fail)
 have hv0:valN p x l (l.length-l.length)=0:=by simp [valN]
 refine gl (κ:=Int × Nat) hm0 (fun q_=>q_.2≤l.length∧q_.1=valN p x l (l.length-q_.2)) (fun q_=>[(1,.d (dInts l)),(2,I x),(3,.bp 3 0 0),(7,I q_.1),(8,I ((q_.2:Int)-1))]) (fun q_=>[(3,.box 0 [I p])]) (fun q_=>q_.2) [] [] (0,l.length) ?_
 rintro⟨n,j⟩ hI
 try simp only at hI ⊢
 try have hI2:=hI.2
 obtain⟨hj,rfl⟩:=hI
 cases j with
 |zero =>
  rw[Nat.sub_zero]
  repeat' (first|refine gS ?_|refine sp ?_ ?_ <;> intro h|(with_reducible apply And.intro)|exact aG|fail)
  all_goals exact rt []
 |succ i =>
  have hj:((i+1:Nat):Int)-1=(i:Int):=by omega
  have hs:=getD_map eI [] 0 l i (by omega)
  have hv:valN p x l (l.length-i)=(IntKind.i64.wrap (IntKind.i64.wrap (valN p x l (l.length-(i+1))*x)+l.getD i 0)).tmod p:=by
   obtain⟨k,hk⟩:∃ k,l.length-(i+1)=k:=⟨_,rfl⟩
   rw[show l.length-i=k+1 by omega,hk,valN,show l.length-1-k=i by omega]
  generalize l.getD i 0=y at *
  generalize valN p x l (l.length-(i+1))=n at *
  repeat' (first|refine gC hj hs eI.eq_1 ?_|refine sp ?_ ?_ <;> intro h|(with_reducible apply And.intro)|exact aG|fail)
  refine⟨[],[],⟨((IntKind.i64.wrap (IntKind.i64.wrap (n*x)+y)).tmod p,i),by simp only;omega,hv.symm⟩,?_,aI⟩
  exact aX
theorem Value5 (p x:Int) (l:List Int) (hl:l.length≤1000000):DoesP Tryz.prog 172 [.ag [I p],.d (dInts l),I x] (fun r=>∃ y e,r=.tu [I y,I e]):=by
 refine⟨⟨_,0,0,rfl⟩,wE Tryz.func172 fun cx hm0=>?_⟩
 cases hf:fieldB p with
 |false =>
  repeat' (first|simp (maxSteps:=9999999) only[↓GE,PQ,seval,eI,hf,Bool.false_and]|refine gS ?_|refine sp ?_ ?_ <;> intro h|refine gP (r3in p [x] (by simp)) ?_|(with_reducible apply And.intro)|exact aG|fail)
  all_goals (refine dP ?_;exact⟨_,_,rfl⟩)
 |true =>
  have hp:=(fieldB_iff.1 hf).1
  repeat' (first|refine gC eI.eq_1 eR.eq_1 hf ?_|refine sp ?_ ?_ <;> intro h|(exfalso;omega)|refine gP (r3in p [x] (by simp)) ?_|(refine gW (lists5 p [l] (by simp) (by simpa using hl)) ?_;rintro _ ⟨e,rfl,he⟩ <;> refine⟨rfl,?_⟩)|refine gP (value5 p x l (by omega) hl) ?_|(with_reducible apply And.intro)|exact aG|fail)
  all_goals (refine dP ?_;exact⟨_,_,rfl⟩)
end Go.Proofs.YticdbambknflgaaGreat.Sim
end
section
namespace Go.Proofs.YticdbambknflgaaGreat.Sim
open Go
set_option maxRecDepth 100000
set_option maxHeartbeats 4000000
set_option linter.unusedVariables false
set_option linter.unusedSimpArgs false
attribute [local irreducible] Go Mean
theorem mul_bd {a b A B:Int} (h1:0≤a) (h2:a≤A) (h3:0≤b) (h4:b≤B):0≤a*b∧a*b≤A*B:=⟨Int.mul_nonneg h1 h3,Int.mul_le_mul h2 h4 h3 (by omega)⟩
theorem limits16 (p rows sv:Int):DoesP Tryz.prog 145 [.ag [I p],I rows,I sv] (fun r=>∃ l e,r=.tu [.d (dInts l),I e]∧l.length≤10000∧(e=0→fieldB p=true∧1≤rows∧rows≤1024∧2≤sv∧sv≤10)):=by
 refine⟨⟨_,[],1,rfl,by simp,by simp⟩,wE Tryz.func145 fun cx hm0=>?_⟩
 cases hf:fieldB p with
 |false =>
  repeat' (first|refine gA hf ?_|refine sp ?_ ?_ <;> intro h|refine gP (r3check p) ?_|(with_reducible apply And.intro)|exact aG|fail)
  all_goals (refine dP ?_;exact⟨[],_,rfl,by simp,aQ⟩)
 |true =>
  repeat' (first|refine gA hf ?_|refine sp ?_ ?_ <;> intro h|refine gP (r3check p) ?_|(with_reducible apply And.intro)|exact aG|fail)
  all_goals try (refine dP ?_;exact⟨[],_,rfl,by simp,aQ⟩)
  have hb:=mul_bd (a:=rows) (b:=sv-1) (A:=1024) (B:=9) (by omega) (by omega) (by omega) (by omega)
  have hn:IntKind.i64.wrap (rows*(sv-1))≤9216:=by rw[IntWalk.i64_in _ (by omega)];omega
  generalize IntKind.i64.wrap (rows*(sv-1))=n at *
  refine gl (κ:=Nat × (List Int) × Nat) hm0 (fun q_=>q_.2.1.length=q_.1∧((q_.1:Int)≤n∨q_.1=0)) (fun q_=>[(3,.bp 3 0 0),(9,.og 39 q_.2.2),(32,I n),(33,I q_.1)]) (fun q_=>[(3,.box 0 [I p]),(39,.arr q_.2.2 1 true (q_.2.1.map eI))]) (fun q_=>(n-q_.1).toNat) [] [39] (0,[],0) ?_
  rintro⟨k,out,v⟩ hI
  try simp only at hI ⊢
  try have hI2:=hI.2
  repeat' (first|refine gS ?_|refine sp ?_ ?_ <;> intro h|(with_reducible apply And.intro)|exact aG|fail)
  ·(exact⟨[],[],⟨(k+1,out++[p],v+1),aI⟩,aX,aI⟩)
  ·refine dP ?_
   exact⟨out,_,rfl,by omega,aQ⟩
theorem check17 (p sv deg:Int):DoesP Tryz.prog 161 [.ag [I p],.ag [I sv,I deg]] (fun r=>∃ e,r=I e∧(e=0→fieldB p=true∧2≤sv∧sv≤10∧sv<p∧1≤deg∧deg≤sv-1)):=by
 refine⟨⟨_,1,rfl,by simp⟩,wE Tryz.func161 fun cx hm0=>?_⟩
 cases hf:fieldB p with
 |false =>
  repeat' (first|refine gA hf ?_|refine sp ?_ ?_ <;> intro h|refine gP (r3check p) ?_|(with_reducible apply And.intro)|exact aG|fail)
  all_goals (refine dP ?_;exact⟨_,rfl,aQ⟩)
 |true =>
  repeat' (first|refine gA hf ?_|refine sp ?_ ?_ <;> intro h|refine gP (r3check p) ?_|(with_reducible apply And.intro)|exact aG|fail)
  all_goals (refine dP ?_;exact⟨_,rfl,aQ⟩)
theorem limits17 (p sv deg rows:Int):DoesP Tryz.prog 146 [.ag [I p],.ag [I sv,I deg],I rows] (fun r=>∃ l e,r=.tu [.d (dInts l),I e]∧l.length≤10000∧(e=0→fieldB p=true∧1≤rows∧rows≤1024∧2≤sv∧sv≤10∧sv<p∧1≤deg∧deg≤sv-1)):=by
 refine⟨⟨_,[],1,rfl,by simp,by simp⟩,wE Tryz.func146 fun cx hm0=>?_⟩
 repeat' (first|refine gS ?_|refine sp ?_ ?_ <;> intro h|(exfalso;omega)|(refine gW (check17 p sv deg) ?_;rintro _ ⟨e,rfl,he⟩ <;> refine⟨rfl,?_⟩)|(with_reducible apply And.intro)|exact aG|fail)
 all_goals try (refine dP ?_;exact⟨[],_,rfl,by simp,aQ⟩)
 have he:=he (by simp_all)
 have hb:=mul_bd (a:=rows) (b:=deg) (A:=1024) (B:=9) (by omega) (by omega) (by omega) (by omega)
 have hn:IntKind.i64.wrap (rows*deg)≤9216:=by rw[IntWalk.i64_in _ (by omega)];omega
 generalize IntKind.i64.wrap (rows*deg)=n at *
 refine gl (κ:=Nat × (List Int) × Nat) hm0 (fun q_=>q_.2.1.length=q_.1∧((q_.1:Int)≤n∨q_.1=0)) (fun q_=>[(3,.bp 3 0 0),(9,.og 32 q_.2.2),(25,I n),(26,I q_.1)]) (fun q_=>[(3,.box 0 [I p]),(32,.arr q_.2.2 1 true (q_.2.1.map eI))]) (fun q_=>(n-q_.1).toNat) [] [32] (0,[],0) ?_
 rintro⟨k,out,v⟩ hI
 try simp only at hI ⊢
 try have hI2:=hI.2
 repeat' (first|refine gS ?_|refine sp ?_ ?_ <;> intro h|(with_reducible apply And.intro)|exact aG|fail)
 ·(exact⟨[],[],⟨(k+1,out++[p],v+1),aI⟩,aX,aI⟩)
 ·refine dP ?_
  exact⟨out,_,rfl,by omega,aQ⟩
theorem check18 (p sv deg grp:Int):DoesP Tryz.prog 156 [.ag [I p],.ag [I sv,I deg,I grp]] (fun r=>∃ e,r=I e∧(e=0→fieldB p=true∧2≤sv∧sv≤10∧sv<p∧1≤deg∧deg≤sv∧1≤grp∧grp≤sv∧2*grp+deg-1≤sv)):=by
 refine⟨⟨_,1,rfl,by simp⟩,wE Tryz.func156 fun cx hm0=>?_⟩
 cases hf:fieldB p with
 |false =>
  repeat' (first|refine gA hf ?_|refine sp ?_ ?_ <;> intro h|refine gP (r3check p) ?_|(with_reducible apply And.intro)|exact aG|fail)
  all_goals (refine dP ?_;exact⟨_,rfl,aQ⟩)
 |true =>
  repeat' (first|refine gA hf ?_|refine sp ?_ ?_ <;> intro h|refine gP (r3check p) ?_|(with_reducible apply And.intro)|exact aG|fail)
  all_goals (refine dP ?_;exact⟨_,rfl,aQ⟩)
theorem limits18 (p sv deg grp g:Int):DoesP Tryz.prog 148 [.ag [I p],.ag [I sv,I deg,I grp],I g] (fun r=>∃ l e,r=.tu [.d (dInts l),I e]∧l.length≤20000∧(e=0→fieldB p=true∧1≤g∧g≤1024∧2≤sv∧sv≤10∧sv<p∧1≤deg∧deg≤sv∧1≤grp∧grp≤sv∧2*grp+deg-1≤sv)):=by
 refine⟨⟨_,[],1,rfl,by simp,by simp⟩,wE Tryz.func148 fun cx hm0=>?_⟩
 repeat' (first|refine gS ?_|refine sp ?_ ?_ <;> intro h|(exfalso;omega)|(refine gW (check18 p sv deg grp) ?_;rintro _ ⟨e,rfl,he⟩ <;> refine⟨rfl,?_⟩)|(with_reducible apply And.intro)|exact aG|fail)
 all_goals try (refine dP ?_;exact⟨[],_,rfl,by simp,aQ⟩)
 have he:=he (by simp_all)
 have hb:=mul_bd (a:=g) (b:=deg) (A:=1024) (B:=10) (by omega) (by omega) (by omega) (by omega)
 have hn:IntKind.i64.wrap (g*deg)≤10240:=by rw[IntWalk.i64_in _ (by omega)];omega
 generalize IntKind.i64.wrap (g*deg)=n at *
 refine gl (κ:=Nat × (List Int) × Nat) hm0 (fun q_=>q_.2.1.length=q_.1∧((q_.1:Int)≤n∨q_.1=0)) (fun q_=>[(3,.bp 3 0 0),(9,.og 32 q_.2.2),(25,I n),(26,I q_.1)]) (fun q_=>[(3,.box 0 [I p]),(32,.arr q_.2.2 1 true (q_.2.1.map eI))]) (fun q_=>(n-q_.1).toNat) [] [32] (0,[],0) ?_
 rintro⟨k,out,v⟩ hI
 try simp only at hI ⊢
 try have hI2:=hI.2
 repeat' (first|refine gS ?_|refine sp ?_ ?_ <;> intro h|(with_reducible apply And.intro)|exact aG|fail)
 ·(exact⟨[],[],⟨(k+1,out++[p],v+1),aI⟩,aX,aI⟩)
 ·refine dP ?_
  exact⟨out,_,rfl,by omega,aQ⟩
theorem groups18 (sv deg grp rows:Int) (h1:1≤grp) (h2:0≤rows) (h3:rows≤1024):DoesP Tryz.prog 157 [.ag [I sv,I deg,I grp],I rows] (fun r=>∃ n e,r=.tu [I n,I e]∧0≤n∧n≤1025):=by
 refine⟨⟨_,0,0,rfl,by simp⟩,wE Tryz.func157 fun cx hm0=>?_⟩
 have hq:0≤rows.tdiv grp∧rows.tdiv grp≤1024:=by
  rw[Int.tdiv_eq_ediv_of_nonneg h2]
  exact⟨Int.ediv_nonneg h2 (by omega),Int.le_trans (Int.ediv_le_self _ h2) h3⟩
 have w1:IntKind.i64.wrap (rows.tdiv grp)=rows.tdiv grp:=IntWalk.i64_in _ (by omega)
 have w2:IntKind.i64.wrap (rows.tdiv grp+1)=rows.tdiv grp+1:=IntWalk.i64_in _ (by omega)
 repeat' (first|refine gB w1 w2 ?_|refine sp ?_ ?_ <;> intro h|(with_reducible apply And.intro)|exact aG|fail)
 all_goals (refine dP ?_;exact⟨_,_,rfl,by omega,by omega⟩)
end Go.Proofs.YticdbambknflgaaGreat.Sim
end
