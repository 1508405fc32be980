/- Answers with faults are made: the memory. -/
import Derived.Test.YtacfbiegbdlldaaGreatDoorMPnB
import Derived.Test.YtacfbiegbdlldaaGreatDoorMTpR
section
namespace Go.Proofs.YtacfbiegbdlldaaGreatDoor.Sim
open Go Go.RowKit Go.Deep
set_option maxRecDepth 100000
set_option maxHeartbeats 4000000
set_option linter.unusedVariables false
set_option linter.unusedSimpArgs false
attribute [local irreducible] Go Mean
theorem fitsT (p x:Int) (ls q ans:List Int) (hf:fieldB p=true) (hx:0≤x∧x<p) (h1:ls.all (inE p)=true) (h2:q.all (inE p)=true) (h3:ans.all (inE p)=true) (hl:q.length=ls.length) (hl2:ls.length≤1024) (hl3:ans.length≤64) :
  Does Tryz.prog 24 [.ag [I p],I x,.d (dInts ls),.d (dInts q),.d (dInts ans)] [] (.tu [B (valF p ans x == sumP p (mulsF p q ls)),I 0]) [] []:=by
 refine go_digest_Fits rfl BxOK.nil fun cx hm0=>go_in 5000 ?_
 unfold ac_digest_Fits rs_digest_Fits
 obtain⟨g1,g2,g3⟩:=fieldB_iff.1 hf
 have e1:=resOf p
 rw[hf,if_pos rfl] at e1
 have e2:=has p x
 have hin:inE p x=true:=by simp [inE];omega
 rw[hin] at e2
 have e3:=allF p ls (by omega)
 rw[h1] at e3
 have e4:=allF p q (by omega)
 rw[h2] at e4
 have e5:=allF p ans (by omega)
 rw[h3] at e5
 have e6:=dotT p q ls hf h2 h1 hl (by omega)
 have e7:=value p x ans (by omega) g2 hx h3 (by omega)
 have r1:decide ((64:Int)<(ans.length:Int))=false:=decide_eq_false (by omega)
 have r1':decide ((ans.length:Int) > 64)=false:=decide_eq_false (by omega)
 have r2:decide ((1024:Int)<(ls.length:Int))=false:=decide_eq_false (by omega)
 have r2':decide ((ls.length:Int) > 1024)=false:=decide_eq_false (by omega)
 have r3:decide ((1024:Int)<(q.length:Int))=false:=decide_eq_false (by omega)
 have r3':decide ((q.length:Int) > 1024)=false:=decide_eq_false (by omega)
 generalize valF p ans x=V1 at *
 generalize sumP p (mulsF p q ls)=V2 at *
 repeat' (first|simp (maxSteps:=9999999) only[↓GE,PL,PP,EE,QQ,seval,r1,r1',r2,r2',r3,r3',List.length_map]|(simp (disch:=omega) only[IntWalk.i64_in])|(apply go_brD<;>intro h)|(apply go_gsD aE<;>intro h)|(apply go_br<;>intro h)|(apply go_gs aE<;>intro h)|(apply go_call 5000 (e1) rfl rfl;iterate 4 (first|(exact CallForm.plain rfl)|exact aC))|(apply go_call 5000 (e2) rfl rfl;iterate 4 (first|(exact CallForm.plain rfl)|exact aC))|(with_reducible apply And.intro)|exact aG|fail)
 (apply go_call 5000 (e3) rfl rfl;iterate 4 (first|(exact CallForm.plain rfl)|exact aC))
 repeat' (first|simp (maxSteps:=9999999) only[↓GE,PL,PP,EE,QQ,seval,r1,r1',r2,r2',r3,r3',List.length_map]|(simp (disch:=omega) only[IntWalk.i64_in])|(apply go_brD<;>intro h)|(apply go_gsD aE<;>intro h)|(apply go_br<;>intro h)|(apply go_gs aE<;>intro h)|(with_reducible apply And.intro)|exact aG|fail)
 (apply go_call 5000 (e4) rfl rfl;iterate 4 (first|(exact CallForm.plain rfl)|exact aC))
 repeat' (first|simp (maxSteps:=9999999) only[↓GE,PL,PP,EE,QQ,seval,r1,r1',r2,r2',r3,r3',List.length_map]|(simp (disch:=omega) only[IntWalk.i64_in])|(apply go_brD<;>intro h)|(apply go_gsD aE<;>intro h)|(apply go_br<;>intro h)|(apply go_gs aE<;>intro h)|(with_reducible apply And.intro)|exact aG|fail)
 (apply go_call 5000 (e5) rfl rfl;iterate 4 (first|(exact CallForm.plain rfl)|exact aC))
 repeat' (first|simp (maxSteps:=9999999) only[↓GE,PL,PP,EE,QQ,seval,r1,r1',r2,r2',r3,r3',List.length_map]|(simp (disch:=omega) only[IntWalk.i64_in])|(apply go_brD<;>intro h)|(apply go_gsD aE<;>intro h)|(apply go_br<;>intro h)|(apply go_gs aE<;>intro h)|(apply go_call 5000 (e6) rfl rfl;iterate 4 (first|(exact CallForm.plain rfl)|exact aC))|(apply go_call 5000 (e7) rfl rfl;iterate 4 (first|(exact CallForm.plain rfl)|exact aC))|(with_reducible apply And.intro)|exact aG|fail)
 all_goals ((first|apply ret_mk []|apply end_mk []);(· exact aR);(· exact aZ);all_goals exact aF)
theorem withinT (n:Int) (h:1≤n∧n<2147483647):Does Tryz.prog 55 [I n] [] (B true) [] []:=by
 refine go_mark_within rfl BxOK.nil fun cx hm0=>go_in 5000 ?_
 unfold ac_mark_within rs_mark_within
 have q1:decide (n ≥ 1)=true:=decide_eq_true (by omega)
 have q1':decide (1≤n)=true:=decide_eq_true (by omega)
 have q2:decide (n<2147483647)=true:=decide_eq_true (by omega)
 repeat' (first|simp (maxSteps:=9999999) only[↓GE,PL,PP,EE,QQ,seval,q1,q1',q2]|(simp (disch:=omega) only[IntWalk.i64_in])|(apply go_brD<;>intro h)|(apply go_gsD aE<;>intro h)|(apply go_br<;>intro h)|(apply go_gs aE<;>intro h)|(with_reducible apply And.intro)|exact aG|fail)
 all_goals ((first|apply ret_mk []|apply end_mk []);(· exact aR);(· exact aZ);all_goals exact aF)
theorem signT (sec:Int) (l:List Int) (h:1≤sec∧sec<2147483647) (hl:l.length≤16384):Does Tryz.prog 21 [I sec,.d (dInts l)] [] (.tu [I (rowF (sec :: l)),I 0]) [] []:=by
 refine go_mark_Sign rfl BxOK.nil fun cx hm0=>go_in 5000 ?_
 unfold ac_mark_Sign rs_mark_Sign
 have e1:=withinT sec h
 have e2:=drow (sec :: l) (by rw[List.length_cons];omega)
 have r1:decide ((16384:Int)<(l.length:Int))=false:=decide_eq_false (by omega)
 have r1':decide ((l.length:Int) > 16384)=false:=decide_eq_false (by omega)
 have hd:dInts (sec :: l)=.sl 1 ([D.at (.int .i64 sec)] :: l.map eI):=rfl
 rw[hd] at e2
 generalize rowF (sec :: l)=V1 at *
 repeat' (first|simp (maxSteps:=9999999) only[↓GE,PL,PP,EE,QQ,seval,r1,r1',List.length_map]|(simp (disch:=omega) only[IntWalk.i64_in])|(apply go_brD<;>intro h)|(apply go_gsD aE<;>intro h)|(apply go_br<;>intro h)|(apply go_gs aE<;>intro h)|(apply go_call 5000 (e1) rfl rfl;iterate 4 (first|(exact CallForm.plain rfl)|exact aC))|(apply go_call 5000 (e2) rfl rfl;iterate 4 (first|(exact CallForm.plain rfl)|exact aC))|(with_reducible apply And.intro)|exact aG|fail)
 all_goals ((first|apply ret_mk []|apply end_mk []);(· exact aR);(· exact aZ);all_goals exact aF)
theorem compareT (n a b:Int) (h:0≤n∧n<1000000) (h2:0≤a∧a<1000000):Does Tryz.prog 86 [I n,.ag [I a,I b]] [] (I (a-n)) [] []:=by
 refine go_mark_number_compare rfl BxOK.nil fun cx hm0=>go_in 5000 ?_
 unfold ac_mark_number_compare rs_mark_number_compare
 have w1:IntKind.i64.wrap (a-n)=a-n:=IntWalk.i64_in _ (by omega)
 have w2:IntKind.i64.wrap n=n:=IntWalk.i64_in _ (by omega)
 repeat' (first|simp (maxSteps:=9999999) only[↓GE,PL,PP,EE,QQ,seval,w1,w2]|(simp (disch:=omega) only[IntWalk.i64_in])|(apply go_brD<;>intro h)|(apply go_gsD aE<;>intro h)|(apply go_br<;>intro h)|(apply go_gs aE<;>intro h)|(with_reducible apply And.intro)|exact aG|fail)
 all_goals ((first|apply ret_mk []|apply end_mk []);(· exact aR);(· exact aZ);all_goals exact aF)
end Go.Proofs.YtacfbiegbdlldaaGreatDoor.Sim
end
section
namespace Go.Proofs.YtacfbiegbdlldaaGreatDoor.Sim
open Go Go.RowKit Go.Deep
set_option maxRecDepth 100000
set_option maxHeartbeats 4000000
set_option linter.unusedVariables false
set_option linter.unusedSimpArgs false
attribute [local irreducible] Go Mean
structure PplOK (l:List (Int × Int)):Prop where
 len:l.length≤16
 id:∀ j,j<l.length→(l.getD j (0,0)).1=(j:Int)+1
 lo:∀ j,j<l.length→1≤(l.getD j (0,0)).2∧(l.getD j (0,0)).2<2147483647
 up:∀ i j,i<j→j<l.length→(l.getD i (0,0)).2<(l.getD j (0,0)).2
def secs (l:List (Int × Int)) (j:Nat):List Int:=(l.take j).map (·.2)
theorem secs_next {l:List (Int × Int)} {j:Nat} (h:j<l.length):secs l (j+1)=secs l j++[(l.getD j (0,0)).2]:=by
 unfold secs
 rw[List.take_succ_eq_append_getElem h,List.map_append,List.getD_eq_getElem?_getD,List.getElem?_eq_getElem h]
 rfl
theorem secs_no {l:List (Int × Int)} (ho:PplOK l) {j:Nat} (h:j<l.length):(secs l j).contains (l.getD j (0,0)).2=false:=by
 rw[List.contains_eq_mem,decide_eq_false_iff_not]
 intro hm
 unfold secs at hm
 obtain⟨x,hx,he⟩:=List.mem_map.1 hm
 obtain⟨i,hi,hxi⟩:=List.getElem_of_mem hx
 rw[List.length_take] at hi
 have hlt:=ho.up i j (by omega) h
 rw[List.getElem_take] at hxi
 have:l.getD i (0,0)=x:=by rw[List.getD_eq_getElem?_getD,List.getElem?_eq_getElem (by omega),Option.getD_some];exact hxi
 rw[this] at hlt
 omega
theorem checkM (l:List (Int × Int)) (ho:PplOK l):Does Tryz.prog 85 [.d (dShares l)] [] (I 0) [] []:=by
 refine go_mark_Check rfl BxOK.nil fun cx hm0=>go_in 5000 ?_
 unfold ac_mark_Check rs_mark_Check
 have hlen:=ho.len
 have r0:decide ((16:Int)<(l.length:Int))=false:=decide_eq_false (by omega)
 have r0':decide ((l.length:Int) > 16)=false:=decide_eq_false (by omega)
 repeat' (first|simp (maxSteps:=9999999) only[↓GE,PL,PP,EE,QQ,seval,r0,r0',List.length_map]|(simp (disch:=omega) only[IntWalk.i64_in])|(apply go_brD<;>intro h)|(apply go_gsD aE<;>intro h)|(apply go_br<;>intro h)|(apply go_gs aE<;>intro h)|(with_reducible apply And.intro)|exact aG|fail)
 refine go_loopz 5000 hm0 (ι:={j:Nat // j≤l.length}) (fun j=>[(0,.d (dShares l)),(3,.mh 9 0),(10,.d (dShares l)),(11,I l.length),(12,I j.1)]) (fun j=>[(9,.mp 0 (secs l j.1))]) (fun j=>l.length-j.1) [] [] ⟨0,Nat.zero_le _⟩ ?_ ?_
 ·simp only[GeZ];(simp only[GeS];refine⟨?_,?_,?_,?_⟩;all_goals (repeat' (first|(with_reducible exact True.intro)|(with_reducible rfl)|simp only[XC,↓reduceIte,seval]|(with_reducible apply And.intro)|(refine⟨_,rfl,?_⟩)|(simp [secs];done)|exact aS|fail)))
 rintro⟨j,hj⟩
 simp only at hj ⊢
 by_cases hjn:j<l.length
 ·have r1:decide ((j:Int)<(l.length:Int))=true:=decide_eq_true (by omega)
  have u1:IntKind.i64.wrap ((j:Int)+1)=((j+1:Nat):Int):=by rw[IntWalk.i64_in _ (by omega)];omega
  have hs:=getD_map eS [] (0,0) l j hjn
  have hid:=ho.id j hjn
  have hlo:=ho.lo j hjn
  have hno:=secs_no ho hjn
  have hnx:=secs_next hjn
  have e1:=withinT ((j:Int)+1) (by omega)
  have e2:=withinT (l.getD j (0,0)).2 hlo
  rcases Nat.eq_zero_or_pos j with hj0|hj0
  ·have r2:decide ((j:Int) > 0)=false:=decide_eq_false (by omega)
   have r2':decide ((0:Int)<(j:Int))=false:=decide_eq_false (by omega)
   generalize l.getD j (0,0)=P at *
   obtain⟨a,b⟩:=P
   simp only at hid hlo hno hnx e2
   subst hid
   repeat' (first|simp (maxSteps:=9999999) only[↓GE,PL,PP,EE,QQ,seval,r1,r2,r2',u1,hs,hno,eS,hjn,List.length_map]|(simp (disch:=omega) only[IntWalk.i64_in])|(apply go_brD<;>intro h)|(apply go_gsD aE<;>intro h)|(apply go_br<;>intro h)|(apply go_gs aE<;>intro h)|(with_reducible apply And.intro)|exact aG|fail)
   (apply go_call 5000 (e1) rfl rfl;iterate 4 (first|(exact CallForm.plain rfl)|exact aC))
   repeat' (first|simp (maxSteps:=9999999) only[↓GE,PL,PP,EE,QQ,seval,r1,r2,r2',u1,hs,hno,eS,hjn,List.length_map]|(simp (disch:=omega) only[IntWalk.i64_in])|(apply go_brD<;>intro h)|(apply go_gsD aE<;>intro h)|(apply go_br<;>intro h)|(apply go_gs aE<;>intro h)|(with_reducible apply And.intro)|exact aG|fail)
   (apply go_call 5000 (e2) rfl rfl;iterate 4 (first|(exact CallForm.plain rfl)|exact aC))
   repeat' (first|simp (maxSteps:=9999999) only[↓GE,PL,PP,EE,QQ,seval,r1,r2,r2',u1,hs,hno,eS,hjn,List.length_map]|(simp (disch:=omega) only[IntWalk.i64_in])|(apply go_brD<;>intro h)|(apply go_gsD aE<;>intro h)|(apply go_br<;>intro h)|(apply go_gs aE<;>intro h)|(with_reducible apply And.intro)|exact aG|fail)
   refine⟨[],[],⟨j+1,hjn⟩,?_,by simp only;omega⟩
   simp only[GeZ];(simp only[GeS];refine⟨?_,?_,?_,?_⟩;all_goals (repeat' (first|(with_reducible exact True.intro)|(with_reducible rfl)|simp only[XC,↓reduceIte,seval]|(with_reducible apply And.intro)|(refine⟨_,rfl,?_⟩)|(simp [hnx];done)|exact aS|fail)))
  ·have r2:decide ((j:Int) > 0)=true:=decide_eq_true (by omega)
   have r2':decide ((0:Int)<(j:Int))=true:=decide_eq_true (by omega)
   have u2:IntKind.i64.wrap ((j:Int)-1)=((j-1:Nat):Int):=by rw[IntWalk.i64_in _ (by omega)];omega
   have hj1:j-1<l.length:=by omega
   have hs1:=getD_map eS [] (0,0) l (j-1) hj1
   have hid1:=ho.id (j-1) hj1
   generalize l.getD (j-1) (0,0)=P1 at *
   generalize l.getD j (0,0)=P at *
   obtain⟨a,b⟩:=P
   obtain⟨a1,b1⟩:=P1
   simp only at hid hlo hno hnx e2 hid1
   subst hid
   have r3:decide ((j:Int)+1≤a1)=false:=decide_eq_false (by omega)
   generalize j-1=j1 at *
   repeat' (first|simp (maxSteps:=9999999) only[↓GE,PL,PP,EE,QQ,seval,r1,r2,r2',r3,u1,u2,hs,hs1,hj1,hno,eS,hjn,List.length_map]|(simp (disch:=omega) only[IntWalk.i64_in])|(apply go_brD<;>intro h)|(apply go_gsD aE<;>intro h)|(apply go_br<;>intro h)|(apply go_gs aE<;>intro h)|(with_reducible apply And.intro)|exact aG|fail)
   (apply go_call 5000 (e1) rfl rfl;iterate 4 (first|(exact CallForm.plain rfl)|exact aC))
   repeat' (first|simp (maxSteps:=9999999) only[↓GE,PL,PP,EE,QQ,seval,r1,r2,r2',r3,u1,u2,hs,hs1,hj1,hno,eS,hjn,List.length_map]|(simp (disch:=omega) only[IntWalk.i64_in])|(apply go_brD<;>intro h)|(apply go_gsD aE<;>intro h)|(apply go_br<;>intro h)|(apply go_gs aE<;>intro h)|(with_reducible apply And.intro)|exact aG|fail)
   (apply go_call 5000 (e2) rfl rfl;iterate 4 (first|(exact CallForm.plain rfl)|exact aC))
   repeat' (first|simp (maxSteps:=9999999) only[↓GE,PL,PP,EE,QQ,seval,r1,r2,r2',r3,u1,u2,hs,hs1,hj1,hno,eS,hjn,List.length_map]|(simp (disch:=omega) only[IntWalk.i64_in])|(apply go_brD<;>intro h)|(apply go_gsD aE<;>intro h)|(apply go_br<;>intro h)|(apply go_gs aE<;>intro h)|(with_reducible apply And.intro)|exact aG|fail)
   refine⟨[],[],⟨j+1,hjn⟩,?_,by simp only;omega⟩
   simp only[GeZ];(simp only[GeS];refine⟨?_,?_,?_,?_⟩;all_goals (repeat' (first|(with_reducible exact True.intro)|(with_reducible rfl)|simp only[XC,↓reduceIte,seval]|(with_reducible apply And.intro)|(refine⟨_,rfl,?_⟩)|(simp [hnx];done)|exact aS|fail)))
 obtain rfl:j=l.length:=by omega
 have r1:decide ((l.length:Int)<(l.length:Int))=false:=decide_eq_false (by omega)
 repeat' (first|simp (maxSteps:=9999999) only[↓GE,PL,PP,EE,QQ,seval,r1]|(simp (disch:=omega) only[IntWalk.i64_in])|(apply go_brD<;>intro h)|(apply go_gsD aE<;>intro h)|(apply go_br<;>intro h)|(apply go_gs aE<;>intro h)|(with_reducible apply And.intro)|exact aG|fail)
 all_goals ((first|apply ret_mk []|apply end_mk []);(· exact aR);(· exact aZ);all_goals exact aF)
end Go.Proofs.YtacfbiegbdlldaaGreatDoor.Sim
end
section
namespace Go.Proofs.YtacfbiegbdlldaaGreatDoor.Sim
open Go Go.RowKit Go.Deep
set_option maxRecDepth 100000
set_option maxHeartbeats 4000000
set_option linter.unusedVariables false
set_option linter.unusedSimpArgs false
attribute [local irreducible] Go Mean
abbrev cmpB:U:=[(900000,.box 0 [.cl 86 []])]
theorem find1T (n a b:Int) (h:0≤n∧n<1000000) (h2:0≤a∧a<1000000):Does Tryz.prog 88 [.ag [I a,I b],I n,.bp 900000 0 0] cmpB (I (a-n)) cmpB []:=by
 refine go_mark_Find_1 rfl BxOK.one fun cx hm0=>go_in 5000 ?_
 unfold ac_mark_Find_1 rs_mark_Find_1
 have e1:=compareT n a b h h2
 repeat' (first|simp (maxSteps:=9999999) only[↓GE,PL,PP,EE,QQ,seval]|(simp (disch:=omega) only[IntWalk.i64_in])|(apply go_brD<;>intro h)|(apply go_gsD aE<;>intro h)|(apply go_br<;>intro h)|(apply go_gs aE<;>intro h)|(apply go_callv 5000 (e1) rfl (by kernel_rfl) rfl;iterate 4 (first|(exact CallForm.plain rfl)|exact aC))|(with_reducible apply And.intro)|exact aG|fail)
 all_goals ((first|apply ret_mk []|apply end_mk []);(· exact aR);(· exact aZ);all_goals exact aF)
end Go.Proofs.YtacfbiegbdlldaaGreatDoor.Sim
end
section
namespace Go.Proofs.YtacfbiegbdlldaaGreatDoor.Sim
open Go Go.RowKit Go.Deep
set_option maxRecDepth 100000
set_option maxHeartbeats 4000000
set_option linter.unusedVariables false
set_option linter.unusedSimpArgs false
attribute [local irreducible] Go Mean
theorem bsearchT (l:List (Int × Int)) (ho:PplOK l) (n:Nat) (h1:1≤n) (h2:n≤l.length):Does Tryz.prog 87 [.d (dShares l),I n,.cl 88 [.bp 900000 0 0]] cmpB (.tu [I (n-1:Nat),B true]) cmpB []:=by
 refine go_slices_BinarySearchFunc_api_Person_api_Person_mark_number rfl BxOK.one fun cx hm0=>go_in 5000 ?_
 unfold ac_slices_BinarySearchFunc_api_Person_api_Person_mark_number rs_slices_BinarySearchFunc_api_Person_api_Person_mark_number
 have hlen:=ho.len
 repeat' (first|simp (maxSteps:=9999999) only[↓GE,PL,PP,EE,QQ,seval,List.length_map]|(simp (disch:=omega) only[IntWalk.i64_in])|(apply go_brD<;>intro h)|(apply go_gsD aE<;>intro h)|(apply go_br<;>intro h)|(apply go_gs aE<;>intro h)|(with_reducible apply And.intro)|exact aG|fail)
 refine go_loopz 5000 hm0 (ι:={q:Nat × Nat // q.1≤n-1∧n-1≤q.2∧q.2≤l.length}) (fun q=>[(0,.d (dShares l)),(1,I n),(2,.cl 88 [.bp 900000 0 0]),(8,I l.length),(9,I q.1.1),(10,I q.1.2)]) (fun q=>cmpB) (fun q=>q.1.2-q.1.1) [] [] ⟨(0,l.length),by omega,by omega,Nat.le_refl _⟩ ?_ ?_
 ·simp only[GeZ];exact aH
 rintro⟨⟨i,j⟩,g1,g2,g3⟩
 simp only at g1 g2 g3 ⊢
 by_cases hij:i<j
 ·have r1:decide ((i:Int)<(j:Int))=true:=decide_eq_true (by omega)
  have w1:IntKind.i64.wrap ((i:Int)+(j:Int))=((i+j:Nat):Int):=by rw[IntWalk.i64_in _ (by omega)];omega
  obtain⟨k,hk⟩:∃ k:Nat,k=(i+j) / 2:=⟨_,rfl⟩
  have w2:IntKind.u64.wrap ((i+j:Nat):Int) / 2=(k:Int):=by simp only[IntKind.wrap,IntKind.bits,IntKind.signed,Bool.false_and,Bool.false_eq_true,if_false];omega
  have w3:IntKind.i64.wrap (k:Int)=(k:Int):=IntWalk.i64_in _ (by omega)
  have hkl:k<l.length:=by omega
  have hs:=getD_map eS [] (0,0) l k hkl
  have hid:=ho.id k hkl
  generalize l.getD k (0,0)=P at *
  obtain⟨a,b⟩:=P
  simp only at hid
  subst hid
  have e1:=find1T (n:Int) ((k:Int)+1) b (by omega) (by omega)
  have hik:i≤k:=by omega
  have hkj:k<j:=by omega
  generalize (i+j:Nat)=ij at *
  by_cases hlt:k+1<n
  ·have r2:decide ((k:Int)+1-(n:Int)<0)=true:=decide_eq_true (by omega)
   have w4:IntKind.i64.wrap ((k:Int)+1)=((k+1:Nat):Int):=by rw[IntWalk.i64_in _ (by omega)];omega
   repeat' (first|simp (maxSteps:=9999999) only[↓GE,PL,PP,EE,QQ,seval,r1,r2,w1,w2,w3,w4,hs,hkl,eS,List.length_map]|(simp (disch:=omega) only[IntWalk.i64_in])|(apply go_brD<;>intro h)|(apply go_gsD aE<;>intro h)|(apply go_br<;>intro h)|(apply go_gs aE<;>intro h)|(apply go_callv 5000 (e1) rfl (by kernel_rfl) rfl;iterate 4 (first|(exact CallForm.lent aL rfl rfl)|exact aC))|(with_reducible apply And.intro)|exact aG|fail)
   refine⟨[],[],⟨(k+1,j),by omega,by omega,g3⟩,?_,by simp only;omega⟩
   simp only[GeZ];exact aH
  ·have r2:decide ((k:Int)+1-(n:Int)<0)=false:=decide_eq_false (by omega)
   repeat' (first|simp (maxSteps:=9999999) only[↓GE,PL,PP,EE,QQ,seval,r1,r2,w1,w2,w3,hs,hkl,eS,List.length_map]|(simp (disch:=omega) only[IntWalk.i64_in])|(apply go_brD<;>intro h)|(apply go_gsD aE<;>intro h)|(apply go_br<;>intro h)|(apply go_gs aE<;>intro h)|(apply go_callv 5000 (e1) rfl (by kernel_rfl) rfl;iterate 4 (first|(exact CallForm.lent aL rfl rfl)|exact aC))|(with_reducible apply And.intro)|exact aG|fail)
   refine⟨[],[],⟨(i,k),by omega,by omega,by omega⟩,?_,by simp only;omega⟩
   simp only[GeZ];exact aH
 have r1:decide ((i:Int)<(j:Int))=false:=decide_eq_false (by omega)
 obtain rfl:i=n-1:=by omega
 have hil:n-1<l.length:=by omega
 have r2:decide (((n-1:Nat):Int)<(l.length:Int))=true:=decide_eq_true (by omega)
 have hs:=getD_map eS [] (0,0) l (n-1) hil
 have hid:=ho.id (n-1) hil
 generalize l.getD (n-1) (0,0)=P at *
 obtain⟨a,b⟩:=P
 simp only at hid
 have e1:=find1T (n:Int) a b (by omega) (by omega)
 have r3:(a-(n:Int) == 0)=true:=by rw[beq_iff_eq];omega
 generalize (n-1:Nat)=n1 at *
 repeat' (first|simp (maxSteps:=9999999) only[↓GE,PL,PP,EE,QQ,seval,r1,r2,r3,hs,hil,eS,List.length_map]|(simp (disch:=omega) only[IntWalk.i64_in])|(apply go_brD<;>intro h)|(apply go_gsD aE<;>intro h)|(apply go_br<;>intro h)|(apply go_gs aE<;>intro h)|(apply go_callv 5000 (e1) rfl (by kernel_rfl) rfl;iterate 4 (first|(exact CallForm.lent aL rfl rfl)|exact aC))|(with_reducible apply And.intro)|exact aG|fail)
 ((first|apply ret_mk []|apply end_mk []);(· exact aR);(· exact aZ);all_goals exact aF)
end Go.Proofs.YtacfbiegbdlldaaGreatDoor.Sim
end
section
namespace Go.Proofs.YtacfbiegbdlldaaGreatDoor.Sim
open Go Go.RowKit Go.Deep
set_option maxRecDepth 100000
set_option maxHeartbeats 4000000
set_option linter.unusedVariables false
set_option linter.unusedSimpArgs false
attribute [local irreducible] Go Mean
theorem findT (l:List (Int × Int)) (ho:PplOK l) (n:Nat) (h1:1≤n) (h2:n≤l.length):Does Tryz.prog 56 [.d (dShares l),I n] [] (.tu [.ag [I n,I (l.getD (n-1) (0,0)).2],B true]) [] []:=by
 refine go_mark_Find rfl BxOK.nil fun cx hm0=>go_in 5000 ?_
 unfold ac_mark_Find rs_mark_Find
 have hlen:=ho.len
 have e1:=checkM l ho
 have e2:=withinT (n:Int) (by omega)
 have e3:=(bsearchT l ho n h1 h2).nm1 6 0 (by decide) rfl rfl rfl rfl rfl
 have hil:n-1<l.length:=by omega
 have hs:=getD_map eS [] (0,0) l (n-1) hil
 have hid:=ho.id (n-1) hil
 generalize l.getD (n-1) (0,0)=P at *
 obtain⟨a,b⟩:=P
 simp only at hid
 obtain rfl:a=(n:Int):=by omega
 generalize (n-1:Nat)=n1 at *
 repeat' (first|simp (maxSteps:=9999999) only[↓GE,PL,PP,EE,QQ,seval,hs,hil,eS,List.length_map]|(simp (disch:=omega) only[IntWalk.i64_in])|(apply go_brD<;>intro h)|(apply go_gsD aE<;>intro h)|(apply go_br<;>intro h)|(apply go_gs aE<;>intro h)|(apply go_call 5000 (e1) rfl rfl;iterate 4 (first|(exact CallForm.plain rfl)|exact aC))|(apply go_call 5000 (e2) rfl rfl;iterate 4 (first|(exact CallForm.plain rfl)|exact aC))|(apply go_call 5000 (e3) rfl rfl;iterate 4 (first|(exact CallForm.lent aL rfl rfl)|exact aC))|(with_reducible apply And.intro)|exact aG|fail)
 all_goals ((first|apply ret_mk []|apply end_mk []);(· exact aR);(· exact aZ);all_goals exact aF)
theorem verifyT (l:List (Int × Int)) (ho:PplOK l) (n:Nat) (h1:1≤n) (h2:n≤l.length) (x:List Int) (hx:x.length≤16384) (mk:Int):Does Tryz.prog 22 [.d (dShares l),I n,.d (dInts x),I mk] [] (B (mk == rowF ((l.getD (n-1) (0,0)).2 :: x))) [] []:=by
 refine go_mark_Verify rfl BxOK.nil fun cx hm0=>go_in 5000 ?_
 unfold ac_mark_Verify rs_mark_Verify
 have e1:=findT l ho n h1 h2
 have hil:n-1<l.length:=by omega
 have hlo:=ho.lo (n-1) hil
 generalize l.getD (n-1) (0,0)=P at *
 obtain⟨a,b⟩:=P
 have e2:=signT b x hlo hx
 simp only at e1 e2 ⊢
 generalize rowF (b :: x)=y at *
 repeat' (first|simp (maxSteps:=9999999) only[↓GE,PL,PP,EE,QQ,seval]|(simp (disch:=omega) only[IntWalk.i64_in])|(apply go_brD<;>intro h)|(apply go_gsD aE<;>intro h)|(apply go_br<;>intro h)|(apply go_gs aE<;>intro h)|(apply go_call 5000 (e1) rfl rfl;iterate 4 (first|(exact CallForm.plain rfl)|exact aC))|(apply go_call 5000 (e2) rfl rfl;iterate 4 (first|(exact CallForm.plain rfl)|exact aC))|(with_reducible apply And.intro)|exact aG|fail)
 all_goals ((first|apply ret_mk []|apply end_mk []);(· exact aR);(· exact aZ);all_goals exact aF)
end Go.Proofs.YtacfbiegbdlldaaGreatDoor.Sim
end
section
namespace Go.Proofs.YtacfbiegbdlldaaGreatDoor.Sim
open Go Go.RowKit Go.Deep
set_option maxRecDepth 100000
set_option maxHeartbeats 4000000
set_option linter.unusedVariables false
set_option linter.unusedSimpArgs false
attribute [local irreducible] Go Mean
def ansCell (b:Bool) (j:Nat):List V:=if b then [B true,.og (j+800000) 0] else [B false,.nl 1]
def ansC:Nat→List Bool→List V
 |_,[]=>[]
 |i,b :: r=>ansCell b i++ansC (i+1) r
theorem ansCell_len {b:Bool} {j:Nat}:(ansCell b j).length=2:=by cases b <;> rfl
theorem ansC_len:∀ {r:List Bool} {i:Nat},(ansC i r).length=r.length*2
 |[],_=>rfl
 |b :: r,i=>by rw[ansC,List.length_append,ansCell_len,ansC_len,List.length_cons];omega
theorem ansC_snoc {b:Bool}:∀ {r:List Bool} {i:Nat},ansC i (r++[b])=ansC i r++ansCell b (i+r.length)
 |[],i=>by simp [ansC]
 |c :: r,i=>by
  rw[List.cons_append,ansC,ansC_snoc,ansC,List.append_assoc,List.length_cons,show i+1+r.length=i+(r.length+1) by omega]
theorem ansC_get:∀ {r:List Bool} {i j:Nat},j<r.length→(ansC i r).getD (j*2+1) .un=if r.getD j true then .og (i+j+800000) 0 else .nl 1
 |[],_,j,h=>by simp at h
 |b :: r,i,0,h=>by cases b <;> rfl
 |b :: r,i,j+1,h=>by
  rw[ansC,List.getD_eq_getElem?_getD,List.getElem?_append_right (by rw[ansCell_len];omega),ansCell_len,show (j+1)*2+1-2=j*2+1 by omega,← List.getD_eq_getElem?_getD,ansC_get (by simpa using h),List.getD_cons_succ,show i+1+j=i+(j+1) by omega]
theorem ansC_off:∀ {r:List Bool} {i j:Nat},j<r.length→(ansC i r).take (j*2)++B false :: .nl 1 :: (ansC i r).drop (j*2+2)=ansC i (r.set j false)
 |[],_,j,h=>by simp at h
 |b :: r,i,0,h=>by cases b <;> rfl
 |b :: r,i,j+1,h=>by
  have ih:=ansC_off (r:=r) (i:=i+1) (j:=j) (by simpa using h)
  have e:∃ x y,ansCell b i=[x,y]:=by cases b <;> exact⟨_,_,rfl⟩
  obtain⟨x,y,e⟩:=e
  rw[ansC,e,List.set_cons_succ,ansC,e,← ih,show (j+1)*2=j*2+2 by omega]
  simp only[List.cons_append,List.nil_append,List.take_succ_cons,List.drop_succ_cons]
def aMem (l:List Int) (k:Nat) (p:Int) (v:Nat) (kn:List Bool) (rows:List (List Int)) (ob:Option O):M:=fun i=>if i=900000 then some (.box 0 [.d (dInts l),I k]) else if i=6 then some (.box 0 [I p]) else if i=33 then some (.vec v 2 (ansC 0 kn)) else if i=37 then ob else if 800000≤i∧i<800000+rows.length then some (.arr 0 1 true ((rows.getD (i-800000) []).map eI)) else none
section
variable {l:List Int} {k:Nat} {p:Int} {v:Nat} {kn:List Bool} {rows:List (List Int)} {ob:Option O}
theorem aMem_d:aMem l k p v kn rows ob 900000=some (.box 0 [.d (dInts l),I k]):=rfl
theorem aMem_6:aMem l k p v kn rows ob 6=some (.box 0 [I p]):=rfl
theorem aMem_33:aMem l k p v kn rows ob 33=some (.vec v 2 (ansC 0 kn)):=rfl
theorem aMem_37:aMem l k p v kn rows ob 37=ob:=rfl
theorem aMem_up:aMem l k p v kn rows ob=up (aMem l k p v kn rows ob) 900000 (some (.box 0 [.d (dInts l),I k])):=by
 funext i
 rw[up_at]
 split
 ·rename_i e;rw[e];rfl
 ·rfl
theorem aMem_at {j:Nat} (h:j<rows.length) (h2:rows.length≤1000):aMem l k p v kn rows ob (j+800000)=some (.arr 0 1 true ((rows.getD j []).map eI)):=by
 unfold aMem
 rw[if_neg (by omega),if_neg (by omega),if_neg (by omega),if_neg (by omega),if_pos (by omega),Nat.add_sub_cancel]
theorem aMem_none {i:Nat} (h:i<800000) (h1:i ≠ 6) (h2:i ≠ 33) (h3:i ≠ 37):aMem l k p v kn rows ob i=none:=by
 unfold aMem
 rw[if_neg (by omega),if_neg h1,if_neg h2,if_neg h3,if_neg (by omega)]
theorem aMem_some {i:Nat} {o:O} (h:aMem l k p v kn rows ob i=some o):(i=900000∧o=.box 0 [.d (dInts l),I k])∨(i=6∧o=.box 0 [I p])∨(i=33∧o=.vec v 2 (ansC 0 kn))∨(i=37∧ob=some o)∨∃ j,j<rows.length∧i=j+800000∧o=.arr 0 1 true ((rows.getD j []).map eI):=by
 unfold aMem at h
 split at h
 ·cases h;exact .inl ⟨by assumption,rfl⟩
 split at h
 ·cases h;exact .inr (.inl ⟨by assumption,rfl⟩)
 split at h
 ·cases h;exact .inr (.inr (.inl ⟨by assumption,rfl⟩))
 split at h
 ·exact .inr (.inr (.inr (.inl ⟨by assumption,h⟩)))
 split at h
 ·rename_i hc
  cases h
  exact .inr (.inr (.inr (.inr ⟨i-800000,by omega,by omega,rfl⟩)))
 ·cases h
theorem Ws_append {m m0:M}:∀ {a b c d:List V},Ws m m0 [] a b→Ws m m0 [] c d→Ws m m0 [] (a++c) (b++d)
 |[],[],_,_,_,h=>h
 |x :: a,y :: b,c,d,h,h2=>by
  simp only[List.cons_append,Ws] at h ⊢
  exact⟨h.1,Ws_append h.2 h2⟩
 |[],y :: b,_,_,h,_=>by simp only[Ws] at h
 |x :: a,[],_,_,h,_=>by simp only[Ws] at h
theorem W_ansC {m m0:M}:∀ {r:List Bool} {i:Nat},(∀ j,j<r.length→(m0 (i+j+800000)).isSome=true)→Ws m m0 [] (ansC i r) (ansC i r)
 |[],_,_=>by simp only[ansC,Ws]
 |b :: r,i,h=>by
  rw[ansC]
  refine Ws_append ?_ (W_ansC fun j hj=>?_)
  ·have h0:=h 0 (by simp)
   cases b with
   |true=>simp only[ansCell,if_true,Ws,W,B];exact⟨trivial,⟨trivial,trivial,by simp,h0⟩,trivial⟩
   |false=>simp only[ansCell,Bool.false_eq_true,if_false,Ws,W,B];exact⟨trivial,trivial,trivial⟩
  ·have:=h (j+1) (by simp only[List.length_cons];omega)
   rw[show i+1+j=i+(j+1) by omega];exact this
variable {cx:Cx} {T:Nat→V} {m:M}
theorem wk_aMem (T0:List (Nat × V)) (hn:rows.length≤1000) (hkl:kn.length=rows.length) (hd:m 900000=some (.box 0 [.d (dInts l),I k])) (h6:m 6=some (.box 0 [I p])) (h33:m 33=some (.vec v 2 (ansC 0 kn))) (h37:∀ o,ob=some o→(∃ v k mu l,o=.arr v k mu l)∧m 37=some o) (hrow:∀ j,j<rows.length→m (j+800000)=some (.arr 0 1 true ((rows.getD j []).map eI)))
  (hT:TW m (aMem l k p v kn rows ob) [] T T0) (hP:∀ i o,cx.m0 i=some o→i=900000):Wk cx ⟨T,m⟩ ⟨tl T0,aMem l k p v kn rows ob⟩:=by
 refine Wk.weaken [] _ _ (TW_ok hT) (fun i o hi=>?_) (fun i hi=>by cases hi) (fun i o hi=>?_)
 ·rcases aMem_some hi with ⟨rfl,rfl⟩|⟨rfl,rfl⟩|⟨rfl,rfl⟩|⟨rfl,h1⟩|⟨j,hj,rfl,rfl⟩
  ·refine⟨rfl,_,hd,?_⟩
   simp only[Ws]
   exact⟨W_d,W_I,trivial⟩
  ·refine⟨rfl,_,h6,?_⟩
   simp only[Ws]
   exact⟨W_I,trivial⟩
  ·exact⟨rfl,_,h33,W_ansC fun j hj=>by rw[Nat.zero_add,aMem_at (by omega) hn];rfl⟩
  ·obtain⟨⟨v',k',mu',l',rfl⟩,h2⟩:=h37 o h1
   simp only[MO]
   rw[if_neg (by simp)]
   exact h2
  ·simp only[MO]
   rw[if_neg (by simp)]
   exact hrow j hj
 ·obtain rfl:=hP i o hi
  exact⟨rfl,rfl⟩
end
theorem rns_ansC {i j:Nat}:∀ {r:List Bool} {i0:Nat},i0+r.length≤i→V.rns (swp 30 (i+800000)) (fun _=>0) (ansC i0 r)=ansC i0 r
 |[],_,_=>rfl
 |b :: r,i0,h=>by
  simp only[List.length_cons] at h
  have ih:=rns_ansC (i:=i) (j:=j) (r:=r) (i0:=i0+1) (by omega)
  rw[rns_map] at ih ⊢
  rw[ansC,List.map_append,ih]
  cases b with
  |true=>simp only[ansCell,if_true,List.map_cons,List.map_nil,B,V.rn,Nat.add_zero];rw[swp_no (by omega) (by omega)]
  |false=>rfl
theorem rns_more {i:Nat}:V.rns (swp 30 (i+800000)) (fun _=>0) (ansC 0 (List.replicate i true)++[B true,.og 30 0])=ansC 0 (List.replicate (i+1) true):=by
 have h:=rns_ansC (i:=i) (j:=0) (r:=List.replicate i true) (i0:=0) (by simp)
 rw[rns_map] at h ⊢
 rw[List.map_append,h,List.replicate_succ',ansC_snoc,List.length_replicate,Nat.zero_add]
 simp only[ansCell,if_true,List.map_cons,List.map_nil,B,V.rn,Nat.add_zero]
 rw[swp_l]
theorem wk_more {cx:Cx} {T:Nat→V} {m:M} {l:List Int} {k:Nat} {p:Int} {i:Nat} {H:List (List Int)} (T0:List (Nat × V)) (hn:H.length≤1000) (hi:i<H.length) (hd:m 900000=some (.box 0 [.d (dInts l),I k])) (h6:m 6=some (.box 0 [I p])) (h33:m 33=some (.vec i 2 (ansC 0 (List.replicate i true)++[B true,.og 30 0]))) (h30:m 30=some (.arr 0 1 true ((H.getD i []).map eI))) (hrow:∀ j,j<i→m (j+800000)=some (.arr 0 1 true ((H.getD j []).map eI))) (hP:∀ i o,cx.m0 i=some o→i=900000)
  (hT:TW (fun q=>(m (swp 30 (i+800000) q)).map (O.rn (swp 30 (i+800000)) (fun _=>0) 0)) (aMem l k p i (List.replicate (i+1) true) (H.take (i+1)) none) [] (fun t=>(T t).rn (swp 30 (i+800000)) fun _=>0) T0):Wk cx ⟨T,m⟩ ⟨tl T0,aMem l k p i (List.replicate (i+1) true) (H.take (i+1)) none⟩:=by
 have hs:∀ q,q<800000→q ≠ 30→swp 30 (i+800000) q=q:=fun q h h2=>swp_no h2 (by omega)
 have hs9:swp 30 (i+800000) 900000=900000:=swp_no (by omega) (by omega)
 have htl:(H.take (i+1)).length=i+1:=by rw[List.length_take];omega
 have htg:∀ j,j<i+1→(H.take (i+1)).getD j []=H.getD j []:=fun j hj=>by
  rw[List.getD_eq_getElem?_getD,List.getElem?_take,if_pos hj,← List.getD_eq_getElem?_getD]
 refine Wk.trans (Wk.rn (swp 30 (i+800000)) (fun _=>0) (swp_swp _ _) fun j o hj=>?_) (wk_aMem T0 (by omega) (by rw[htl];simp) ?_ ?_ ?_ (fun o ho=>by cases ho) (fun j hj=>?_) hT hP)
 ·rw[hP j o hj];exact .inl ⟨hs9,rfl⟩
 ·simp only[St.rn,hs9,hd,Option.map_some,O.rn,Nat.add_zero];rfl
 ·simp only[St.rn,hs 6 (by omega) (by omega),h6,Option.map_some,O.rn,Nat.add_zero];rfl
 ·simp only[St.rn,hs 33 (by omega) (by omega),h33,Option.map_some,O.rn,rns_more,Nat.add_zero]
 ·rw[htl] at hj
  rw[htg j hj]
  by_cases e:j=i
  ·subst e
   simp only[St.rn,swp_r,h30,Option.map_some,O.rn,Nat.add_zero]
  ·simp only[St.rn,swp_no (i:=30) (j:=i+800000) (k:=j+800000) (by omega) (by omega),hrow j (by omega),Option.map_some,O.rn,Nat.add_zero]
def eT (b:Bool):List D:=[.at (.bool b)]
theorem dcells_append {m:M}:∀ {a b:List V} {x y:List D},dcells m a=some x→dcells m b=some y→dcells m (a++b)=some (x++y)
 |[],b,x,y,h1,h2=>by simp only[dcells] at h1;cases h1;exact h2
 |c :: a,b,x,y,h1,h2=>by
  simp only[dcells] at h1
  cases hc:dcell m c with
  |none=>rw[hc] at h1;cases h1
  |some z =>
   rw[hc] at h1
   cases ha:dcells m a with
   |none=>rw[ha] at h1;cases h1
   |some zs =>
    rw[ha] at h1
    cases h1
    exact dcells_cons hc (dcells_append ha h2)
theorem dcells_ans {l:List Int} {k:Nat} {p:Int} {v:Nat} {kn:List Bool} {rows:List (List Int)} {ob:Option O} (hn:rows.length≤1000) (f:Nat→Nat):∀ {r:List Bool} {i:Nat},(∀ j,j<r.length→r.getD j true=kn.getD (i+j) true)→i+r.length≤rows.length →
  dcells (aMem l k p v kn rows ob) (ansC i r)=some (((List.range r.length).map fun j=>eA (ansAt rows kn (i+j))).flatten)
 |[],_,_,_=>rfl
 |b :: r,i,h,hl=>by
  simp only[List.length_cons] at hl
  have ih:=dcells_ans (l:=l) (k:=k) (p:=p) (v:=v) (kn:=kn) (rows:=rows) (ob:=ob) hn f (r:=r) (i:=i+1) (fun j hj=>by
   have:=h (j+1) (by simp only[List.length_cons];omega)
   rw[List.getD_cons_succ] at this
   rw[this,show i+(j+1)=i+1+j by omega]) (by omega)
  rw[ansC,List.length_cons,List.range_succ_eq_map,List.map_cons,List.flatten_cons,List.map_map]
  have e:(List.range r.length).map ((fun j=>eA (ansAt rows kn (i+j))) ∘ Nat.succ)=(List.range r.length).map fun j=>eA (ansAt rows kn (i+1+j)):=List.map_congr_left fun j _=>by
   simp only[Function.comp]
   rw[show i+Nat.succ j=i+1+j by omega]
  rw[e]
  refine dcells_append ?_ ih
  have h0:=h 0 (by simp)
  rw[List.getD_cons_zero] at h0
  simp only[Nat.add_zero] at h0 ⊢
  subst h0
  unfold ansAt
  cases hk:kn.getD i true with
  |true =>
   simp only[ansCell,if_true]
   exact dcells_cons rfl (dcells_cons (dcell_og (aMem_at (by omega) hn)) rfl)
  |false=>rfl
theorem ansC_no {q:Nat} (hq:q<800000∨810000≤q):∀ {r:List Bool} {i:Nat},i+r.length≤1000→(ansC i r).all (V.notOg q)=true
 |[],_,_=>rfl
 |b :: r,i,h=>by
  simp only[List.length_cons] at h
  rw[ansC,List.all_append,ansC_no hq (by omega)]
  cases b with
  |true =>
   have:V.notOg q (.og (i+800000) 0)=true:=notOg_ne (by omega)
   simp [ansCell,B,V.notOg] at this ⊢
   exact this
  |false=>rfl
theorem wk_ans {cx:Cx} {T:Nat→V} {l:List Int} {k:Nat} {p:Int} {v:Nat} {kn bads:List Bool} {rows:List (List Int)} (T0:List (Nat × V)) (hn:rows.length≤1000) (hkl:kn.length=rows.length) (hP:∀ i o,cx.m0 i=some o→i=900000)
  (hT:TW (up (ups (aMem l k p v kn rows (some (.arr 0 1 true (bads.map eT)))) (frz (aMem l k p v kn rows (some (.arr 0 1 true (bads.map eT)))) (ansC 0 kn))) 33 (some (.arr (v+1) 2 false ((ansL rows kn).map eA)))) (ups M0 [(37,.arr 0 1 true (bads.map eT)),(900000,.box 0 [.d (dInts l),I k])]) [] (fun t=>su 33 v (dAns (ansL rows kn)) (T t)) T0) :
  Wk cx ⟨T,aMem l k p v kn rows (some (.arr 0 1 true (bads.map eT)))⟩ ⟨tl T0,ups M0 [(37,.arr 0 1 true (bads.map eT)),(900000,.box 0 [.d (dInts l),I k])]⟩:=by
 have h33:=aMem_33 (l:=l) (k:=k) (p:=p) (v:=v) (kn:=kn) (rows:=rows) (ob:=some (.arr 0 1 true (bads.map eT)))
 have h37:=aMem_37 (l:=l) (k:=k) (p:=p) (v:=v) (kn:=kn) (rows:=rows) (ob:=some (.arr 0 1 true (bads.map eT)))
 have h9:=aMem_d (l:=l) (k:=k) (p:=p) (v:=v) (kn:=kn) (rows:=rows) (ob:=some (.arr 0 1 true (bads.map eT)))
 have hdc:=dcells_ans (l:=l) (k:=k) (p:=p) (v:=v) (kn:=kn) (rows:=rows) (ob:=some (.arr 0 1 true (bads.map eT))) hn (fun j=>j) (r:=kn) (i:=0) (fun j _=>by rw[Nat.zero_add]) (by omega)
 have e:((List.range kn.length).map fun j=>eA (ansAt rows kn (0+j)))=(ansL rows kn).map eA:=by
  unfold ansL
  rw[List.map_map,hkl]
  exact List.map_congr_left fun j _=>by rw[Nat.zero_add];rfl
 rw[e] at hdc
 have n33:=ansC_no (q:=33) (.inl (by omega)) (r:=kn) (i:=0) (by omega)
 have n37:=ansC_no (q:=37) (.inl (by omega)) (r:=kn) (i:=0) (by omega)
 have n9:=ansC_no (q:=900000) (.inr (by omega)) (r:=kn) (i:=0) (by omega)
 generalize aMem l k p v kn rows (some (.arr 0 1 true (bads.map eT)))=mm at *
 generalize ansC 0 kn=cc at *
 have hr2:∀ r ∈ (ansL rows kn).map eA,r.length=2:=fun r hr=>by
  obtain⟨a,_,rfl⟩:=List.mem_map.1 hr
  rfl
 have h:=Wk.sealT (cx:=cx) (s:=⟨T,mm⟩) 33 (fun t=>su 33 v (dAns (ansL rows kn)) (T t)) h33 hdc hr2 (by omega) ((ups_frz_not 33 cc mm n33).trans h33) (fun t=>rfl)
 refine h.trans (Wk.weaken [] _ _ (TW_ok hT) (fun i o hi=>?_) (fun i hi=>by cases hi) (fun i o hi=>?_))
 ·simp only[ups,up_at] at hi
  split at hi
  ·rename_i e
   subst e
   cases hi
   refine⟨rfl,[.d (dInts l),I k],?_,?_⟩
   ·simp only[up_at]
    rw[if_neg (by omega),ups_frz_not 900000 cc mm n9]
    exact h9
   ·simp only[Ws]
    exact⟨W_d,W_I,trivial⟩
  split at hi
  ·rename_i e
   subst e
   cases hi
   simp only[MO,up_at]
   rw[if_neg (by simp),if_neg (by omega),ups_frz_not 37 cc mm n37]
   exact h37
  ·cases hi
 ·obtain rfl:=hP i o hi
  exact⟨rfl,rfl⟩
end Go.Proofs.YtacfbiegbdlldaaGreatDoor.Sim
end
