/- All that the three statements stand on. -/
import Derived.Test.YticdbambknflgaaGreatMLaA
import Derived.Test.YticdbambknflgaaGreatMLaO
import Derived.Test.YticdbambknflgaaGreatMSimBr
section
namespace Go.Proofs.YticdbambknflgaaGreat.Sc
open Go.Proofs.YticdbambknflgaaGreat.Sim
open Go Go.RowKit
set_option maxRecDepth 100000
set_option maxHeartbeats 8000000
set_option linter.unusedVariables false
set_option linter.unusedSimpArgs false
attribute [local irreducible] Go Mean
open Go.Proofs.YticdbambknflgaaGreat.Wire (putB putL putB_len getI getL getC rdL getI_put getL_put getI_ok getI_err rInt_any IntPost)
def headB:List UInt8:=[104,101,97,100]
def catN (xs:List PSt) (k:Nat):List UInt8:=headB++(xs.take k).flatMap encSt
def endsN (xs:List PSt) (k:Nat):List Int:=(List.range (k+1)).map fun j=>((catN xs j).length:Int)
theorem catN_z (xs:List PSt):catN xs 0=headB:=by simp [catN]
theorem catN_s {xs:List PSt} {k:Nat} (h:k<xs.length):catN xs (k+1)=catN xs k++encSt (xs.getD k noSt):=by
 simp only[catN]
 rw[List.take_succ_eq_append_getElem h,List.flatMap_append,List.append_assoc,List.getD_eq_getElem?_getD,List.getElem?_eq_getElem h]
 simp
theorem endsN_s (xs:List PSt) (k:Nat):endsN xs (k+1)=endsN xs k++[((catN xs (k+1)).length:Int)]:=by
 simp only[endsN]
 rw[List.range_succ,List.map_append]
 rfl
theorem endsN0 (xs:List PSt):endsN xs 0=[4]:=by simp [endsN,catN,headB]
theorem endsN_len (xs:List PSt) (k:Nat):(endsN xs k).length=k+1:=by simp [endsN]
theorem endsN_at {xs:List PSt} {k j:Nat} (h:j≤k):(endsN xs k).getD j 0=((catN xs j).length:Int):=by
 simp only[endsN]
 rw[List.getD_eq_getElem?_getD,List.getElem?_map,List.getElem?_range (by omega)]
 rfl
theorem catN_len {xs:List PSt} (h:∀ x ∈ xs,Small x):∀ k:Nat,k≤xs.length→(catN xs k).length≤4+k*41000000
 |0,_=>by rw[catN_z];decide
 |k+1,hk=>by
  have h1:=catN_len h k (by omega)
  have hx:=h _ (mem_getD noSt xs k (by omega))
  have h2:=encSt_len hx.ok hx.ck
  rw[catN_s (by omega),List.length_append]
  omega
theorem encSt_pos (x:PSt) (h:okSt x):0<(encSt x).length:=by
 have:=(putB_len (n:=x.kind) h.kind.1 h.kind.2).2
 simp only[encSt,List.length_append]
 omega
theorem cat_at {xs:List PSt} {k:Nat} (h:k<xs.length):At (catN xs xs.length) ((catN xs k).length:Int) ((catN xs (k+1)).length:Int) (encSt (xs.getD k noSt)):=by
 refine⟨catN xs k,(xs.drop (k+1)).flatMap encSt,?_,rfl,by rw[catN_s h]⟩
 have e:xs=xs.take (k+1)++xs.drop (k+1):=(List.take_append_drop _ _).symm
 rw[← List.append_assoc,← catN_s h]
 simp only[catN]
 rw[List.take_length,List.append_assoc,← List.flatMap_append,← e]
theorem ext_pre (a b:List UInt8):(⟨(a++b).toArray⟩:ByteArray).extract 0 a.length=⟨a.toArray⟩:=by
 apply ByteArray.ext
 simp [ByteArray.extract,ByteArray.copySlice]
theorem lawJoins (s:List UInt8) (hs:s.length≤140737488355328):Does Tryz.prog 3 [.d (dBytes s)] [] (B true) [] []:=by
 have hl:(s.take 300).length≤140737488355328:=by rw[List.length_take];omega
 have e0:=Sim.dice s hs
 generalize s.take 300=l at *
 have e1:=steps18 l hl 0
 refine doesD ⟨⟨_,rfl⟩,wE Tryz.func3 fun cx hm0=>?_⟩
 repeat' (first|refine gS ?_|refine sp ?_ ?_ <;> intro h|(exfalso;omega)|refine gP sane41 ?_|refine gN e0 ?_|(refine gE e1 ?_;rintro _ _ ⟨xs,k,rfl,rfl,hn,hx⟩ <;> refine gG ?_)|(with_reducible apply And.intro)|exact aG|fail)
 refine go_loop 5000 hm0 (ι:={q:Nat × Nat // q.1≤xs.length}) (fun i=>[(3,.d (dSts xs)),(4,vS (catN xs i.1.1)),(5,.og 20 i.1.2),(21,.d (dSts xs)),(22,I xs.length),(23,I i.1.1)]) (fun i=>[(20,.arr i.1.2 1 true ((endsN xs i.1.1).map eI))]) (fun i=>xs.length-i.1.1) [] ⟨(0,0),Nat.zero_le _⟩ ?_ ?_
 ·exact aY (And.intro @catN_z (And.intro @endsN0 headB.eq_1))
 rintro⟨⟨k,v⟩,hk⟩
 simp only at hk
 by_cases hlt:k<xs.length
 ·have h1:=getD_map eSt [] noSt xs k hlt
  have h2:=hx _ (mem_getD noSt xs k hlt)
  have hl1:=catN_len hx k (by omega)
  have hl2:=catN_len hx (k+1) (by omega)
  have c1:=catN_s hlt
  have en:=endsN_s xs k
  have el:=endsN_len xs k
  have hp:=encSt_pos _ h2.ok
  have e2:=putD (catN xs k) (xs.getD k noSt) h2.ok (by omega)
  rw[outS,outE,if_pos h2.ck,if_pos h2.ck,← c1] at e2
  have q1:decide ((k:Int)<(xs.length:Int))=true:=decide_eq_true (by omega)
  have q2:decide (((catN xs (k+1)).length:Int)≤((catN xs k).length:Int))=false:=decide_eq_false (by rw[c1,List.length_append];omega)
  have q3:(⟨(catN xs (k+1)).toArray⟩:ByteArray).extract 0 (catN xs k).length=⟨(catN xs k).toArray⟩:=by rw[c1];exact ext_pre _ _
  have q4:((⟨(catN xs k).toArray⟩:ByteArray).toList != (⟨(catN xs k).toArray⟩:ByteArray).toList)=false:=by simp
  have q5:((⟨(catN xs k).toArray⟩:ByteArray).toList == (⟨(catN xs k).toArray⟩:ByteArray).toList)=true:=by simp
  have z1:(⟨(catN xs k).toArray⟩:ByteArray).size=(catN xs k).length:=rfl
  have z2:(⟨(catN xs (k+1)).toArray⟩:ByteArray).size=(catN xs (k+1)).length:=rfl
  have hcl:(catN xs k).length≤(catN xs (k+1)).length:=by rw[c1,List.length_append];omega
  generalize xs.getD k noSt=x at *
  repeat' (first|simp (maxSteps:=9999999) only[↓GE,PQ,seval,h1,q1,q2,q3,q4,q5,z1,z2,eSt,el]|refine gS ?_|refine sp ?_ ?_ <;> intro h|refine gP e2 ?_|(with_reducible apply And.intro)|exact aG|fail)
  refine⟨⟨(k+1,v+1),hlt⟩,?_,by simp only;omega⟩
  exact aY en
 ·obtain rfl:k=xs.length:=by omega
  repeat' (first|refine gS ?_|refine sp ?_ ?_ <;> intro h|(with_reducible apply And.intro)|exact aG|fail)
  have hl1:=catN_len hx xs.length (by omega)
  have el:=endsN_len xs xs.length
  have hil:∀ j,j≤xs.length→(List.map eI (endsN xs xs.length)).getD j []=[.at (.int .i64 ((catN xs j).length:Int))]:=fun j hj=>by
   rw[getD_map eI [] 0 _ j (by omega),endsN_at hj];rfl
  generalize hB:catN xs xs.length=A at *
  refine go_loopz 5000 hm0 (ι:={k:Nat // k≤xs.length}) (fun i=>[(3,.d (dSts xs)),(4,vS A),(5,.d (.sl 1 (List.map eI (endsN xs xs.length)))),(57,.d (dSts xs)),(58,I xs.length),(59,I i.1)]) (fun i=>[]) (fun i=>xs.length-i.1) [.og 20 v] [] ⟨0,Nat.zero_le _⟩ ?_ ?_
  ·exact aX
  rintro⟨k,hk⟩
  by_cases hlt:k<xs.length
  ·have h1:=getD_map eSt [] noSt xs k hlt
   have h2:=hx _ (mem_getD noSt xs k hlt)
   have i1:=hil k (by omega)
   have i2:=hil (k+1) (by omega)
   have ca:=cat_at hlt
   rw[hB] at ca
   have e2:=getD' A ((catN xs k).length:Int) (by omega)
   have e3:=one41 (xs.getD k noSt) (xs.getD k noSt) h2.q h2.q
   rw[eqB_s] at e3
   rw[getG,stepG_at h2.ok h2.ck ca,if_neg (by simp)] at e2
   have q1:decide ((k:Int)<(xs.length:Int))=true:=decide_eq_true (by omega)
   have w1:IntKind.i64.wrap ((k:Int)+1)=((k+1:Nat):Int):=by rw[show (k:Int)+1=((k+1:Nat):Int) by omega];exact IntWalk.i64_in _ (by omega)
   have q6:(((catN xs (k+1)).length:Int) != ((catN xs (k+1)).length:Int))=false:=by simp
   generalize xs.getD k noSt=x at *
   repeat' (first|simp (maxSteps:=9999999) only[↓GE,PQ,seval,h1,q1,q6,i1,i2,w1,eSt,el]|refine gS ?_|refine sp ?_ ?_ <;> intro h|refine gP e2 ?_|refine gP e3 ?_|(with_reducible apply And.intro)|exact aG|fail)
   refine⟨[],[],⟨k+1,hlt⟩,?_,by simp only;omega⟩
   exact aX
  ·obtain rfl:k=xs.length:=by omega
   repeat' (first|refine gS ?_|refine sp ?_ ?_ <;> intro h|(with_reducible apply And.intro)|exact aG|fail)
   all_goals (refine dP ?_;exact rfl)
end Go.Proofs.YticdbambknflgaaGreat.Sc
end
section
end
