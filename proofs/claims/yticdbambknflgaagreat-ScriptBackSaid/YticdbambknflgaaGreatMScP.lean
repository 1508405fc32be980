/- Scripts come back (plain). -/
import Derived.Test.YticdbambknflgaaGreatMScA
import Derived.Test.YticdbambknflgaaGreatMScU
section
namespace Go.Proofs.YticdbambknflgaaGreat.Sc
open Go.Proofs.YticdbambknflgaaGreat.Sim
open Go Go.RowKit
set_option maxRecDepth 100000
set_option maxHeartbeats 8000000
set_option linter.unusedVariables false
set_option linter.unusedSimpArgs false
attribute [local irreducible] Go Mean
open Go.Proofs.YticdbambknflgaaGreat.Wire (putB putL putB_len)
def sel5 (a b c d e:List UInt8):Nat→List UInt8
 |0=>a
 |1=>b
 |2=>c
 |3=>d
 |_=>e
def outS (b:List UInt8) (x:PSt):List UInt8:=if chk x=true then b++encSt x else []
def outE (x:PSt):Int:=if chk x=true then 0 else 4
theorem putD (b:List UInt8) (x:PSt) (h:okSt x) (hb:b.length≤100000000000):Does Tryz.prog 9 [vS b,vSt x] [] (.tu [vS (outS b x),I (outE x)]) [] []:=by
 refine wD Tryz.func9 fun cx hm0=>?_
 have e0:=checkD x h
 by_cases hc:chk x=true
 case neg =>
  have hp:outS b x=[]:=by rw[outS,if_neg hc]
  have hq:outE x=4:=by rw[outE,if_neg hc]
  rw[if_neg hc] at e0
  repeat' (first|refine gS ?_|refine sp ?_ ?_ <;> intro h|refine gP e0 ?_|(with_reducible apply And.intro)|exact aG|fail)
  all_goals exact rtF [] (And.intro hp hq)
 rw[if_pos hc] at e0
 have hp:outS b x=b++encSt x:=by rw[outS,if_pos hc]
 have hq:outE x=0:=by rw[outE,if_pos hc]
 have hsl:=h.slen
 have a1:=(putB_len h.kind.1 h.kind.2).1
 have a2:=(putB_len h.num.1 h.num.2).1
 have a3:=putL_len2 h.row h.len
 have a4:=(putB_len h.fr.1 h.fr.2).1
 have a5:=(putB_len h.tt.1 h.tt.2).1
 have a6:=(putB_len h.cnt.1 h.cnt.2).1
 have a7:=(putB_len (n:=(x.sets.length:Int)) (by omega) (by omega)).1
 have hrl:=h.len
 obtain⟨P1,hP1⟩:∃ P1,P1=b++putB x.kind:=⟨_,rfl⟩
 have l1:P1.length≤b.length+10:=by rw[hP1,List.length_append];omega
 obtain⟨P2,hP2⟩:∃ P2,P2=P1++putB x.num:=⟨_,rfl⟩
 have l2:P2.length≤b.length+20:=by rw[hP2,List.length_append];omega
 obtain⟨P3,hP3⟩:∃ P3,P3=P2++putL x.rows:=⟨_,rfl⟩
 have l3:P3.length≤b.length+20030:=by rw[hP3,List.length_append];omega
 obtain⟨P4,hP4⟩:∃ P4,P4=P3++putB x.fr:=⟨_,rfl⟩
 have l4:P4.length≤b.length+20040:=by rw[hP4,List.length_append];omega
 obtain⟨P5,hP5⟩:∃ P5,P5=P4++putB x.tt:=⟨_,rfl⟩
 have l5:P5.length≤b.length+20050:=by rw[hP5,List.length_append];omega
 obtain⟨P6,hP6⟩:∃ P6,P6=P5++putB x.cnt:=⟨_,rfl⟩
 have l6:P6.length≤b.length+20060:=by rw[hP6,List.length_append];omega
 obtain⟨P7,hP7⟩:∃ P7,P7=P6++putB (x.sets.length:Int):=⟨_,rfl⟩
 have l7:P7.length≤b.length+20070:=by rw[hP7,List.length_append];omega
 have e1:=wPutIntD b x.kind h.kind (by omega)
 have e2:=wPutIntD P1 x.num h.num (by omega)
 have e3:=wPutListD P2 x.rows h.row (by omega)
 have e4:=wPutIntD P3 x.fr h.fr (by omega)
 have e5:=wPutIntD P4 x.tt h.tt (by omega)
 have e6:=wPutIntD P5 x.cnt h.cnt (by omega)
 have e7:=wPutIntD P6 (x.sets.length:Int) ⟨by omega,by omega⟩ (by omega)
 rw[← hP1] at e1
 rw[← hP2] at e2
 rw[← hP3] at e3
 rw[← hP4] at e4
 rw[← hP5] at e5
 rw[← hP6] at e6
 rw[← hP7] at e7
 have hfin:b++encSt x=P7++x.sets.flatMap encSe:=by
  rw[hP7,hP6,hP5,hP4,hP3,hP2,hP1,encSt];simp only[List.append_assoc]
 have hlk:∀ k,((x.sets.take k).flatMap encSe).length≤40100000:=fun k=>by
  have h1:=flatMap_le (f:=encSe) (l:=x.sets.take k) (m:=20020) fun s hs=>encSe_len (h.set s (List.mem_of_mem_take hs)) (by have:=(chk_iff hc).2.2 s (List.mem_of_mem_take hs);omega)
  have h2:(x.sets.take k).length*20020≤2000*20020:=Nat.mul_le_mul_right _ (by rw[List.length_take];omega)
  omega
 repeat' (first|refine gS ?_|refine sp ?_ ?_ <;> intro h|refine gP e0 ?_|refine gP e1 ?_|refine gP e2 ?_|refine gP e3 ?_|(with_reducible apply And.intro)|exact aG|fail)
 refine go_loop 5000 hm0 (ι:={i:Nat // i≤4}) (fun i=>[(0,vS (sel5 P3 P4 P5 P6 P7 i.1)),(3,.bp 3 0 0),(40,.ag [I x.fr,I x.tt,I x.cnt,I x.sets.length]),(41,I i.1)]) (fun i=>[(3,.box 0 [I x.kind,I x.num,.d (dInts x.rows),I x.fr,I x.tt,I x.cnt,.d (dSets x.sets)])]) (fun i=>4-i.1) [] ⟨0,Nat.zero_le _⟩ ?_ ?_
 ·(simp only[GeS];refine⟨?_,?_,?_,?_⟩;all_goals (repeat' (first|(with_reducible exact True.intro)|(with_reducible rfl)|simp only[XC,↓reduceIte,seval]|(with_reducible apply And.intro)|(refine⟨_,rfl,?_⟩)|(simp [sel5];done)|exact aS|fail)))
 rintro⟨i,hi⟩
 have hcs:i=0∨i=1∨i=2∨i=3∨i=4:=by omega
 rcases hcs with rfl|rfl|rfl|rfl|rfl
 ·repeat' (first|simp (maxSteps:=9999999) only[↓GE,PQ,seval,sel5]|refine gS ?_|refine sp ?_ ?_ <;> intro h|refine gP e4 ?_|(with_reducible apply And.intro)|exact aG|fail)
  refine⟨⟨1,by omega⟩,?_,by simp only;omega⟩
  (simp only[GeS];refine⟨?_,?_,?_,?_⟩;all_goals (repeat' (first|(with_reducible exact True.intro)|(with_reducible rfl)|simp only[XC,↓reduceIte,seval]|(with_reducible apply And.intro)|(refine⟨_,rfl,?_⟩)|(simp [sel5];done)|exact aS|fail)))
 ·repeat' (first|simp (maxSteps:=9999999) only[↓GE,PQ,seval,sel5]|refine gS ?_|refine sp ?_ ?_ <;> intro h|refine gP e5 ?_|(with_reducible apply And.intro)|exact aG|fail)
  refine⟨⟨2,by omega⟩,?_,by simp only;omega⟩
  (simp only[GeS];refine⟨?_,?_,?_,?_⟩;all_goals (repeat' (first|(with_reducible exact True.intro)|(with_reducible rfl)|simp only[XC,↓reduceIte,seval]|(with_reducible apply And.intro)|(refine⟨_,rfl,?_⟩)|(simp [sel5];done)|exact aS|fail)))
 ·repeat' (first|simp (maxSteps:=9999999) only[↓GE,PQ,seval,sel5]|refine gS ?_|refine sp ?_ ?_ <;> intro h|refine gP e6 ?_|(with_reducible apply And.intro)|exact aG|fail)
  refine⟨⟨3,by omega⟩,?_,by simp only;omega⟩
  (simp only[GeS];refine⟨?_,?_,?_,?_⟩;all_goals (repeat' (first|(with_reducible exact True.intro)|(with_reducible rfl)|simp only[XC,↓reduceIte,seval]|(with_reducible apply And.intro)|(refine⟨_,rfl,?_⟩)|(simp [sel5];done)|exact aS|fail)))
 ·repeat' (first|simp (maxSteps:=9999999) only[↓GE,PQ,seval,sel5]|refine gS ?_|refine sp ?_ ?_ <;> intro h|refine gP e7 ?_|(with_reducible apply And.intro)|exact aG|fail)
  refine⟨⟨4,by omega⟩,?_,by simp only;omega⟩
  (simp only[GeS];refine⟨?_,?_,?_,?_⟩;all_goals (repeat' (first|(with_reducible exact True.intro)|(with_reducible rfl)|simp only[XC,↓reduceIte,seval]|(with_reducible apply And.intro)|(refine⟨_,rfl,?_⟩)|(simp [sel5];done)|exact aS|fail)))
 repeat' (first|simp (maxSteps:=9999999) only[↓GE,PQ,seval,sel5]|refine gS ?_|refine sp ?_ ?_ <;> intro h|(with_reducible apply And.intro)|exact aG|fail)
 refine go_loop 5000 hm0 (ι:={k:Nat // k≤x.sets.length}) (fun i=>[(0,vS (P7++(x.sets.take i.1).flatMap encSe)),(50,.d (dSets x.sets)),(51,I x.sets.length),(52,I i.1)]) (fun i=>[]) (fun i=>x.sets.length-i.1) [] ⟨0,Nat.zero_le _⟩ ?_ ?_
 ·(simp only[GeS];refine⟨?_,?_,?_,?_⟩;all_goals (repeat' (first|(with_reducible exact True.intro)|(with_reducible rfl)|simp only[XC,↓reduceIte,seval]|(with_reducible apply And.intro)|(refine⟨_,rfl,?_⟩)|(simp [sel5];done)|exact aS|fail)))
 rintro⟨k,hk⟩
 by_cases hkl:k<x.sets.length
 ·have hs1:=getD_map eSe [] noSe x.sets k hkl
  have hse:=h.set _ (mem_getD noSe x.sets k hkl)
  have hw3:=(chk_iff hc).2.2 _ (mem_getD noSe x.sets k hkl)
  have htk:=take_flatMap encSe noSe hkl
  have hlt:=hlk k
  generalize x.sets.getD k noSe=y at *
  generalize (x.sets.take k).flatMap encSe=tk at *
  have b1:=(putB_len hse.1.1 hse.1.2).1
  have g1:=wPutIntD (P7++tk) y.idx hse.1 (by rw[List.length_append];omega)
  have g2:=wPutListD (P7++tk++putB y.idx) y.row hse.2.2 (by have:=hse.2.1;simp only[List.length_append];omega)
  have hN:P7++(x.sets.take (k+1)).flatMap encSe=P7++tk++putB y.idx++putL y.row:=by rw[htk,encSe];simp only[List.append_assoc]
  repeat' (first|refine gC hs1 hkl eSe.eq_1 ?_|refine sp ?_ ?_ <;> intro h|refine gP g1 ?_|refine gP g2 ?_|(with_reducible apply And.intro)|exact aG|fail)
  refine⟨⟨k+1,hkl⟩,?_,by simp only;omega⟩
  exact aY hN
 ·obtain rfl:k=x.sets.length:=by omega
  have hN:P7++(x.sets.take x.sets.length).flatMap encSe=b++encSt x:=by rw[List.take_length,hfin]
  repeat' (first|refine gA hN ?_|refine sp ?_ ?_ <;> intro h|(with_reducible apply And.intro)|exact aG|fail)
  all_goals exact rtF [] (And.intro hp hq)
theorem rPutD (b:List UInt8) (x:PSt) (h:okSt x) (hb:b.length≤100000000000):Does Tryz.prog 20 [vS b,vSt x] [] (.tu [vS (outS b x),I (outE x)]) [] []:=by
 refine wD Tryz.func20 fun cx hm0=>?_
 have e0:=rCheckD x h
 by_cases hc:chk x=true
 case neg =>
  have hp:outS b x=[]:=by rw[outS,if_neg hc]
  have hq:outE x=4:=by rw[outE,if_neg hc]
  rw[if_neg hc] at e0
  repeat' (first|refine gS ?_|refine sp ?_ ?_ <;> intro h|refine gP e0 ?_|(with_reducible apply And.intro)|exact aG|fail)
  all_goals exact rtF [] (And.intro hp hq)
 rw[if_pos hc] at e0
 have hp:outS b x=b++encSt x:=by rw[outS,if_pos hc]
 have hq:outE x=0:=by rw[outE,if_pos hc]
 have hsl:=h.slen
 have a1:=(putB_len h.kind.1 h.kind.2).1
 have a2:=(putB_len h.num.1 h.num.2).1
 have a3:=putL_len2 h.row h.len
 have a4:=(putB_len h.fr.1 h.fr.2).1
 have a5:=(putB_len h.tt.1 h.tt.2).1
 have a6:=(putB_len h.cnt.1 h.cnt.2).1
 have a7:=(putB_len (n:=(x.sets.length:Int)) (by omega) (by omega)).1
 have hrl:=h.len
 obtain⟨P1,hP1⟩:∃ P1,P1=b++putB x.kind:=⟨_,rfl⟩
 have l1:P1.length≤b.length+10:=by rw[hP1,List.length_append];omega
 obtain⟨P2,hP2⟩:∃ P2,P2=P1++putB x.num:=⟨_,rfl⟩
 have l2:P2.length≤b.length+20:=by rw[hP2,List.length_append];omega
 obtain⟨P3,hP3⟩:∃ P3,P3=P2++putL x.rows:=⟨_,rfl⟩
 have l3:P3.length≤b.length+20030:=by rw[hP3,List.length_append];omega
 obtain⟨P4,hP4⟩:∃ P4,P4=P3++putB x.fr:=⟨_,rfl⟩
 have l4:P4.length≤b.length+20040:=by rw[hP4,List.length_append];omega
 obtain⟨P5,hP5⟩:∃ P5,P5=P4++putB x.tt:=⟨_,rfl⟩
 have l5:P5.length≤b.length+20050:=by rw[hP5,List.length_append];omega
 obtain⟨P6,hP6⟩:∃ P6,P6=P5++putB x.cnt:=⟨_,rfl⟩
 have l6:P6.length≤b.length+20060:=by rw[hP6,List.length_append];omega
 obtain⟨P7,hP7⟩:∃ P7,P7=P6++putB (x.sets.length:Int):=⟨_,rfl⟩
 have l7:P7.length≤b.length+20070:=by rw[hP7,List.length_append];omega
 have e1:=rPutIntD b x.kind h.kind (by omega)
 have e2:=rPutIntD P1 x.num h.num (by omega)
 have e3:=rPutListD P2 x.rows h.row (by omega)
 have e4:=rPutIntD P3 x.fr h.fr (by omega)
 have e5:=rPutIntD P4 x.tt h.tt (by omega)
 have e6:=rPutIntD P5 x.cnt h.cnt (by omega)
 have e7:=rPutIntD P6 (x.sets.length:Int) ⟨by omega,by omega⟩ (by omega)
 rw[← hP1] at e1
 rw[← hP2] at e2
 rw[← hP3] at e3
 rw[← hP4] at e4
 rw[← hP5] at e5
 rw[← hP6] at e6
 rw[← hP7] at e7
 have hfin:b++encSt x=P7++x.sets.flatMap encSe:=by
  rw[hP7,hP6,hP5,hP4,hP3,hP2,hP1,encSt];simp only[List.append_assoc]
 have hlk:∀ k,((x.sets.take k).flatMap encSe).length≤40100000:=fun k=>by
  have h1:=flatMap_le (f:=encSe) (l:=x.sets.take k) (m:=20020) fun s hs=>encSe_len (h.set s (List.mem_of_mem_take hs)) (by have:=(chk_iff hc).2.2 s (List.mem_of_mem_take hs);omega)
  have h2:(x.sets.take k).length*20020≤2000*20020:=Nat.mul_le_mul_right _ (by rw[List.length_take];omega)
  omega
 repeat' (first|refine gS ?_|refine sp ?_ ?_ <;> intro h|refine gP e0 ?_|refine gP e1 ?_|refine gP e2 ?_|refine gP e3 ?_|refine gP e4 ?_|refine gP e5 ?_|refine gP e6 ?_|refine gP e7 ?_|(with_reducible apply And.intro)|exact aG|fail)
 refine go_loop 5000 hm0 (ι:={k:Nat // k≤x.sets.length}) (fun i=>[(0,vS (P7++(x.sets.take i.1).flatMap encSe)),(7,.bp 7 0 0),(8,I i.1)]) (fun i=>[(7,.box 0 [I x.fr,I x.tt,I x.cnt,.d (dSets x.sets)])]) (fun i=>x.sets.length-i.1) [] ⟨0,Nat.zero_le _⟩ ?_ ?_
 ·exact aH
 rintro⟨k,hk⟩
 by_cases hkl:k<x.sets.length
 ·have hs1:=getD_map eSe [] noSe x.sets k hkl
  have hse:=h.set _ (mem_getD noSe x.sets k hkl)
  have hw3:=(chk_iff hc).2.2 _ (mem_getD noSe x.sets k hkl)
  have htk:=take_flatMap encSe noSe hkl
  have hlt:=hlk k
  generalize x.sets.getD k noSe=y at *
  generalize (x.sets.take k).flatMap encSe=tk at *
  have b1:=(putB_len hse.1.1 hse.1.2).1
  have g1:=rPutIntD (P7++tk) y.idx hse.1 (by rw[List.length_append];omega)
  have g2:=rPutListD (P7++tk++putB y.idx) y.row hse.2.2 (by have:=hse.2.1;simp only[List.length_append];omega)
  have hN:P7++(x.sets.take (k+1)).flatMap encSe=P7++tk++putB y.idx++putL y.row:=by rw[htk,encSe];simp only[List.append_assoc]
  repeat' (first|refine gC hs1 hkl eSe.eq_1 ?_|refine sp ?_ ?_ <;> intro h|refine gP g1 ?_|refine gP g2 ?_|(with_reducible apply And.intro)|exact aG|fail)
  refine⟨⟨k+1,hkl⟩,?_,by simp only;omega⟩
  exact aY hN
 ·obtain rfl:k=x.sets.length:=by omega
  have hN:P7++(x.sets.take x.sets.length).flatMap encSe=b++encSt x:=by rw[List.take_length,hfin]
  repeat' (first|refine gA hN ?_|refine sp ?_ ?_ <;> intro h|(with_reducible apply And.intro)|exact aG|fail)
  all_goals exact rtF [] (And.intro hp hq)
def encE (l:List PSt):Int:=if l.length≤512∧l.all chk=true then 0 else 4
def encL (l:List PSt):List UInt8:=putB l.length++l.flatMap encSt
def encS (l:List PSt):List UInt8:=if l.length≤512∧l.all chk=true then encL l else []
theorem encodeD (l:List PSt) (hl:l.length≤600) (h:∀ x ∈ l,okSt x):Does Tryz.prog 12 [.d (dSts l)] [] (.tu [vS (encS l),I (encE l)]) [] []:=by
 refine wD Tryz.func12 fun cx hm0=>?_
 by_cases hn:l.length≤512
 case neg =>
  have q1:decide ((l.length:Int) > 512)=true:=decide_eq_true (by omega)
  have h1:encS l=[]:=by rw[encS,if_neg fun hh=>hn hh.1]
  have h2:encE l=4:=by rw[encE,if_neg fun hh=>hn hh.1]
  repeat' (first|refine gA q1 ?_|refine sp ?_ ?_ <;> intro h|(with_reducible apply And.intro)|exact aG|fail)
  all_goals exact rtF [] (And.intro h1 h2)
 have q1:decide ((l.length:Int) > 512)=false:=decide_eq_false (by omega)
 have e1:Does Tryz.prog 25 [.d (.at (.string ⟨⟨[]⟩⟩)),I l.length] [] (vS (putB l.length)) [] []:=wPutIntD [] (l.length:Int) ⟨by omega,by omega⟩ (by simp only[List.length_nil];omega)
 have a1:=(putB_len (n:=(l.length:Int)) (by omega) (by omega)).1
 repeat' (first|refine gA q1 ?_|refine sp ?_ ?_ <;> intro h|refine gP e1 ?_|(with_reducible apply And.intro)|exact aG|fail)
 refine go_loop 5000 hm0 (ι:={k:Nat // k≤l.length∧l.all chk=(l.drop k).all chk∧∀ y ∈ l.take k,chk y=true}) (fun i=>[(4,vS (putB l.length++(l.take i.1).flatMap encSt)),(15,.d (dSts l)),(16,I l.length),(17,I i.1)]) (fun i=>[]) (fun i=>l.length-i.1) [] ⟨0,Nat.zero_le _,rfl,by simp⟩ ?_ ?_
 ·exact aH
 rintro⟨k,hk,hv,hpr⟩
 by_cases hkl:k<l.length
 ·have hs1:=getD_map eSt [] noSt l k hkl
  have hst:=h _ (mem_getD noSt l k hkl)
  have htk:=take_flatMap encSt noSt hkl
  have htk2:=take_succ_getD noSt l k hkl
  have g1:=flatMap_le (f:=encSt) (l:=l.take k) (m:=41000000) fun s hs=>encSt_len (h s (List.mem_of_mem_take hs)) (hpr s hs)
  have g2:(l.take k).length*41000000≤600*41000000:=Nat.mul_le_mul_right _ (by rw[List.length_take];omega)
  rw[drop_get noSt _ _ hkl] at hv
  generalize l.getD k noSt=y at *
  generalize (l.take k).flatMap encSt=tk at *
  simp only[List.all_cons] at hv
  have e2:=putD (putB l.length++tk) y hst (by rw[List.length_append];omega)
  cases hc:chk y with
  |true =>
   rw[hc,Bool.true_and] at hv
   rw[outS,outE,if_pos hc,if_pos hc] at e2
   have hN:putB l.length++(l.take (k+1)).flatMap encSt=putB l.length++tk++encSt y:=by rw[htk];simp only[List.append_assoc]
   repeat' (first|refine gC hs1 hkl eSt.eq_1 ?_|refine sp ?_ ?_ <;> intro h|refine gP e2 ?_|(with_reducible apply And.intro)|exact aG|fail)
   refine⟨⟨k+1,hkl,hv,fun z hz=>?_⟩,?_,by simp only;omega⟩
   ·rw[htk2] at hz
    rcases List.mem_append.1 hz with hz|hz
    ·exact hpr z hz
    ·simp only[List.mem_singleton] at hz;subst hz;exact hc
   exact aY hN
  |false =>
   rw[hc,Bool.false_and] at hv
   have hc2:¬ chk y=true:=by rw[hc];simp
   rw[outS,outE,if_neg hc2,if_neg hc2] at e2
   have h1:encS l=[]:=by rw[encS,if_neg fun hh=>by rw[hv] at hh;simp at hh]
   have h2:encE l=4:=by rw[encE,if_neg fun hh=>by rw[hv] at hh;simp at hh]
   rw[h1,h2]
   clear h1 h2 hv htk
   repeat' (first|refine gC hs1 hkl eSt.eq_1 ?_|refine sp ?_ ?_ <;> intro h|refine gP e2 ?_|(with_reducible apply And.intro)|exact aG|fail)
   all_goals exact rt []
 ·obtain rfl:k=l.length:=by omega
  rw[List.drop_length,List.all_nil] at hv
  have h1:encS l=putB l.length++(l.take l.length).flatMap encSt:=by rw[encS,if_pos ⟨hn,hv⟩,List.take_length];rfl
  have h2:encE l=0:=by rw[encE,if_pos ⟨hn,hv⟩]
  repeat' (first|refine gS ?_|refine sp ?_ ?_ <;> intro h|(with_reducible apply And.intro)|exact aG|fail)
  all_goals exact rtF [] (And.intro h1 h2)
theorem rEncodeD (l:List PSt) (hl:l.length≤600) (h:∀ x ∈ l,okSt x):Does Tryz.prog 16 [.d (dSts l)] [] (.tu [vS (encS l),I (encE l)]) [] []:=by
 refine wD Tryz.func16 fun cx hm0=>?_
 by_cases hn:l.length≤512
 case neg =>
  have q1:decide ((l.length:Int) > 512)=true:=decide_eq_true (by omega)
  have h1:encS l=[]:=by rw[encS,if_neg fun hh=>hn hh.1]
  have h2:encE l=4:=by rw[encE,if_neg fun hh=>hn hh.1]
  repeat' (first|refine gA q1 ?_|refine sp ?_ ?_ <;> intro h|(with_reducible apply And.intro)|exact aG|fail)
  all_goals exact rtF [] (And.intro h1 h2)
 have q1:decide ((l.length:Int) > 512)=false:=decide_eq_false (by omega)
 have e1:Does Tryz.prog 36 [.d (.at (.string ⟨⟨[]⟩⟩)),I l.length] [] (vS (putB l.length)) [] []:=rPutIntD [] (l.length:Int) ⟨by omega,by omega⟩ (by simp only[List.length_nil];omega)
 have a1:=(putB_len (n:=(l.length:Int)) (by omega) (by omega)).1
 repeat' (first|refine gA q1 ?_|refine sp ?_ ?_ <;> intro h|refine gP e1 ?_|(with_reducible apply And.intro)|exact aG|fail)
 refine go_loop 5000 hm0 (ι:={k:Nat // k≤l.length∧l.all chk=(l.drop k).all chk∧∀ y ∈ l.take k,chk y=true}) (fun i=>[(0,.d (dSts l)),(4,vS (putB l.length++(l.take i.1).flatMap encSt)),(5,I i.1)]) (fun i=>[]) (fun i=>l.length-i.1) [] ⟨0,Nat.zero_le _,rfl,by simp⟩ ?_ ?_
 ·exact aH
 rintro⟨k,hk,hv,hpr⟩
 by_cases hkl:k<l.length
 ·have hs1:=getD_map eSt [] noSt l k hkl
  have hst:=h _ (mem_getD noSt l k hkl)
  have htk:=take_flatMap encSt noSt hkl
  have htk2:=take_succ_getD noSt l k hkl
  have g1:=flatMap_le (f:=encSt) (l:=l.take k) (m:=41000000) fun s hs=>encSt_len (h s (List.mem_of_mem_take hs)) (hpr s hs)
  have g2:(l.take k).length*41000000≤600*41000000:=Nat.mul_le_mul_right _ (by rw[List.length_take];omega)
  rw[drop_get noSt _ _ hkl] at hv
  generalize l.getD k noSt=y at *
  generalize (l.take k).flatMap encSt=tk at *
  simp only[List.all_cons] at hv
  have e2:=rPutD (putB l.length++tk) y hst (by rw[List.length_append];omega)
  cases hc:chk y with
  |true =>
   rw[hc,Bool.true_and] at hv
   rw[outS,outE,if_pos hc,if_pos hc] at e2
   have hN:putB l.length++(l.take (k+1)).flatMap encSt=putB l.length++tk++encSt y:=by rw[htk];simp only[List.append_assoc]
   repeat' (first|refine gC hs1 hkl eSt.eq_1 ?_|refine sp ?_ ?_ <;> intro h|refine gP e2 ?_|(with_reducible apply And.intro)|exact aG|fail)
   refine⟨⟨k+1,hkl,hv,fun z hz=>?_⟩,?_,by simp only;omega⟩
   ·rw[htk2] at hz
    rcases List.mem_append.1 hz with hz|hz
    ·exact hpr z hz
    ·simp only[List.mem_singleton] at hz;subst hz;exact hc
   exact aY hN
  |false =>
   rw[hc,Bool.false_and] at hv
   have hc2:¬ chk y=true:=by rw[hc];simp
   rw[outS,outE,if_neg hc2,if_neg hc2] at e2
   have h1:encS l=[]:=by rw[encS,if_neg fun hh=>by rw[hv] at hh;simp at hh]
   have h2:encE l=4:=by rw[encE,if_neg fun hh=>by rw[hv] at hh;simp at hh]
   rw[h1,h2]
   clear h1 h2 hv htk
   repeat' (first|refine gC hs1 hkl eSt.eq_1 ?_|refine sp ?_ ?_ <;> intro h|refine gP e2 ?_|(with_reducible apply And.intro)|exact aG|fail)
   all_goals exact rt []
 ·obtain rfl:k=l.length:=by omega
  rw[List.drop_length,List.all_nil] at hv
  have h1:encS l=putB l.length++(l.take l.length).flatMap encSt:=by rw[encS,if_pos ⟨hn,hv⟩,List.take_length];rfl
  have h2:encE l=0:=by rw[encE,if_pos ⟨hn,hv⟩]
  repeat' (first|refine gS ?_|refine sp ?_ ?_ <;> intro h|(with_reducible apply And.intro)|exact aG|fail)
  all_goals exact rtF [] (And.intro h1 h2)
end Go.Proofs.YticdbambknflgaaGreat.Sc
end
section
namespace Go.Proofs.YticdbambknflgaaGreat.Sc
open Go.Proofs.YticdbambknflgaaGreat.Sim
open Go Go.RowKit
set_option maxRecDepth 100000
set_option maxHeartbeats 8000000
set_option linter.unusedVariables false
set_option linter.unusedSimpArgs false
attribute [local irreducible] Go Mean
open Go.Proofs.YticdbambknflgaaGreat.Wire (putB putL putB_len getI getL getC rdL getI_put getL_put getI_ok getI_err rInt_any IntPost)
theorem stepsG_err {s:List UInt8} {a e:Int} (h:e ≠ 0):∀ {n:Nat},stepsG s n a e=([],a,e)
 |0=>rfl
 |n+1=>by rw[stepsG,if_pos h]
theorem rDecodeD (s:List UInt8) (hs:s.length≤1000000000000):Does Tryz.prog 18 [vS s] [] (.tu [.d (dSts (decG s).1),I (decG s).2]) [] []:=by
 have e0:=rIntD s 0 hs
 rcases h0:getI s 0 with ⟨x,b0,f⟩
 rw[h0] at e0
 simp only at e0
 have r0:=rI_at h0
 refine wD Tryz.func18 fun cx hm0=>?_
 by_cases hf:f=0
 case neg =>
  have q:(f != 0)=true:=by simpa using hf
  have hg:decG s=([],f):=by
   rw[if_pos hf] at r0
   have hc:rC s 0 0 512=(0,0,f):=by unfold rC;rw[r0,if_neg (fun h=>hf h.1)]
   simp only[decG,hc,Int.toNat_zero,stepsG]
   rw[if_pos hf]
  rw[hg]
  repeat' (first|refine gA q ?_|refine sp ?_ ?_ <;> intro h|refine gP e0 ?_|(with_reducible apply And.intro)|exact aG|fail)
  all_goals exact rt []
 subst hf
 rw[if_neg (by simp)] at r0
 by_cases hx:x<0∨512<x
 ·have hg:decG s=([],4):=by
   have hc:rC s 0 0 512=(0,b0,4):=by unfold rC;rw[r0,if_pos ⟨rfl,hx⟩]
   simp only[decG,hc,Int.toNat_zero,stepsG]
   rw[if_pos (by simp)]
  rw[hg]
  repeat' (first|refine gS ?_|refine sp ?_ ?_ <;> intro h|refine gP e0 ?_|(with_reducible apply And.intro)|exact aG|fail)
  all_goals try (exfalso;omega)
  all_goals exact rt []
 obtain⟨N,rfl⟩:∃ N:Nat,x=N:=⟨x.toNat,by omega⟩
 have hg:decG s=if (stepsG s N b0 0).2.2 ≠ 0 then ([],(stepsG s N b0 0).2.2) else if (stepsG s N b0 0).2.1 ≠ s.length then ([],2) else ((stepsG s N b0 0).1,0):=by
  have hc:rC s 0 0 512=((N:Int),b0,0):=by unfold rC;rw[r0,if_neg (fun h=>hx h.2)]
  simp only[decG,hc,Int.toNat_natCast]
 rw[hg]
 generalize hZ:stepsG s N b0 0=Z
 obtain⟨Z1,Z2,Z3⟩:=Z
 simp only
 have hZ1:[]++(stepsG s (N-0) b0 0).1=Z1:=by rw[Nat.sub_zero,hZ];rfl
 have hZ2:(stepsG s (N-0) b0 0).2=(Z2,Z3):=by rw[Nat.sub_zero,hZ]
 clear hg hZ r0 h0
 repeat' (first|refine gS ?_|refine sp ?_ ?_ <;> intro h|refine gP e0 ?_|(with_reducible apply And.intro)|exact aG|fail)
 all_goals try (exfalso;omega)
 refine gl (κ:=Nat × Nat × Int × (List PSt)) hm0 (fun q_=>(q_.1≤N∧q_.2.2.2.length=q_.1)∧q_.2.2.2++(stepsG s (N-q_.1) q_.2.2.1 0).1=Z1∧(stepsG s (N-q_.1) q_.2.2.1 0).2=(Z2,Z3)) (fun q_=>[(0,vS s),(4,I N),(5,I q_.2.2.1),(7,.og 45 q_.2.1),(8,I q_.1)]) (fun q_=>[(45,.arr q_.2.1 7 true (q_.2.2.2.map eSt))]) (fun q_=>N-q_.1) [] [45] (0,0,b0,[]) ?_
 rintro⟨j,v,a,acc⟩ hI
 try simp only at hI ⊢
 try have hI2:=hI.2
 obtain⟨⟨hI1,hIl⟩,hI3,hI4⟩:=hI
 by_cases hj:j<N
 case neg =>
  obtain rfl:j=N:=by omega
  rw[Nat.sub_self,stepsG] at hI3 hI4
  simp only[List.append_nil,Prod.mk.injEq] at hI3 hI4
  obtain⟨rfl,rfl⟩:=hI4
  subst hI3
  rw[if_neg (by simp)]
  by_cases ha:a=s.length
  ·have q3:(a != ((({ data:=s.toArray }:ByteArray).size:Nat):Int))=false:=by simpa [ByteArray.size] using ha
   rw[if_neg (by simpa using ha)]
   repeat' (first|refine gA q3 ?_|refine sp ?_ ?_ <;> intro h|(with_reducible apply And.intro)|exact aG|fail)
   all_goals try (exfalso;omega)
   all_goals exact rt []
  ·have q3:(a != ((({ data:=s.toArray }:ByteArray).size:Nat):Int))=true:=by simpa [ByteArray.size] using ha
   rw[if_pos ha]
   repeat' (first|refine gA q3 ?_|refine sp ?_ ?_ <;> intro h|(with_reducible apply And.intro)|exact aG|fail)
   all_goals try (exfalso;omega)
   all_goals exact rt []
 have e1:=rGetD s a hs
 rw[show N-j=(N-(j+1))+1 by omega,stepsG,if_neg (by simp)] at hI3 hI4
 unfold getG at e1
 generalize stepG s a 0=z at *
 obtain⟨y,d,g⟩:=z
 simp only at e1 hI3 hI4
 by_cases hgz:g=0
 case neg =>
  have q:(g != 0)=true:=by simpa using hgz
  rw[if_pos hgz] at e1
  rw[stepsG_err hgz] at hI4
  simp only[Prod.mk.injEq] at hI4
  obtain⟨rfl,rfl⟩:=hI4
  rw[if_pos hgz]
  repeat' (first|refine gA q ?_|refine sp ?_ ?_ <;> intro h|refine gP e1 ?_|(with_reducible apply And.intro)|exact aG|fail)
  all_goals try (exfalso;omega)
  all_goals exact rt []
 subst hgz
 rw[if_neg (by simp)] at e1
 simp only at e1
 repeat' (first|refine gS ?_|refine sp ?_ ?_ <;> intro h|refine gP e1 ?_|(with_reducible apply And.intro)|exact aG|fail)
 all_goals try (exfalso;omega)
 refine⟨[],[],⟨(j+1,v+1,d,acc++[y]),⟨by simp only;omega,by simp only[List.length_append,List.length_singleton];omega⟩,by simp only[List.append_assoc,List.singleton_append];exact hI3,hI4⟩,?_,aI⟩
 exact aY eSt.eq_1
end Go.Proofs.YticdbambknflgaaGreat.Sc
end
section
namespace Go.Proofs.YticdbambknflgaaGreat.Sc
open Go.Proofs.YticdbambknflgaaGreat.Sim
open Go Go.RowKit
set_option maxRecDepth 100000
set_option maxHeartbeats 8000000
set_option linter.unusedVariables false
set_option linter.unusedSimpArgs false
attribute [local irreducible] Go Mean
open Go.Proofs.YticdbambknflgaaGreat.Wire (putB putL putB_len getI getL getC rdL getI_put getL_put getI_ok getI_err rInt_any IntPost)
/-! ### Bytes at a place -/
def At (s:List UInt8) (a b:Int) (x:List UInt8):Prop:=∃ P R,s=P++(x++R)∧a=(P.length:Int)∧b=((P++x).length:Int)
theorem At.trans {s:List UInt8} {a b c:Int} {x y:List UInt8} (h:At s a b x) (k:At s b c y):At s a c (x++y):=by
 obtain⟨P,R,h1,h2,h3⟩:=h
 obtain⟨Q,T,k1,k2,k3⟩:=k
 have e:(P++x)++R=Q++(y++T):=by rw[List.append_assoc,← h1,k1]
 obtain⟨rfl,rfl⟩:=List.append_inj e (by omega)
 exact⟨P,T,by rw[h1,List.append_assoc],h2,by rw[k3,List.append_assoc]⟩
theorem At.nil {s:List UInt8} {a b:Int} {x:List UInt8} (h:At s a b x):At s b b []:=by
 obtain⟨P,R,h1,h2,h3⟩:=h
 exact⟨P++x,R,by rw[h1];simp,h3,by rw[h3];simp⟩
theorem At.split {s:List UInt8} {a c:Int} {x y:List UInt8} (h:At s a c (x++y)):∃ b,At s a b x∧At s b c y:=by
 obtain⟨P,R,h1,h2,h3⟩:=h
 exact⟨((P++x).length:Int),⟨P,y++R,by rw[h1,List.append_assoc],h2,rfl⟩,⟨P++x,R,by rw[h1];simp only[List.append_assoc],rfl,by rw[h3];simp only[List.append_assoc]⟩⟩
theorem getI_ok2 {s:List UInt8} {a x b:Int} (h:getI s a=(x,b,0)):I64 x∧At s a b (putB x):=by
 obtain⟨n,j,h1,h2,h3,h4,h5,h6,h7⟩:=getI_ok (l:=s) (a:=a) (by rw[h])
 rw[h] at h2 h5 h6 h7
 simp only at h2 h5 h6 h7
 refine⟨⟨h6,h7⟩,s.take n,s.drop (n+j),?_,by rw[List.length_take];omega,?_⟩
 ·rw[← h5]
  conv=>lhs;rw[← List.take_append_drop n s,← List.take_append_drop j (s.drop n)]
  rw[List.drop_drop]
 ·rw[← h5,List.length_append,List.length_take,List.length_take,List.length_drop];omega
theorem getI_at {s:List UInt8} {a b n:Int} (hn:I64 n) (h:At s a b (putB n)):getI s a=(n,b,0):=by
 obtain⟨P,R,rfl,rfl,rfl⟩:=h
 rw[getI_put hn.1 hn.2 P R,List.length_append]
theorem rdL_ok {s:List UInt8}:∀ {n:Nat} {a:Int} {acc l:List Int} {b:Int},At s a a []→rdL n s a acc=(l,b,0)→∃ r,l=acc++r∧r.length=n∧(∀ x ∈ r,I64 x)∧At s a b (r.flatMap putB)
 |0,a,acc,l,b,h0,h=>by
  simp only[rdL,Prod.mk.injEq] at h
  obtain⟨rfl,rfl,_⟩:=h
  exact⟨[],by simp,rfl,by simp,by simpa using h0⟩
 |n+1,a,acc,l,b,h0,h=>by
  rw[rdL] at h
  rcases hg:getI s a with ⟨x,c,e⟩
  rw[hg] at h
  simp only at h
  by_cases he:e=0
  case neg =>
   rw[if_pos he] at h
   simp only[Prod.mk.injEq] at h
   exact absurd h.2.2 he
  subst he
  rw[if_neg (by simp)] at h
  obtain⟨h1,h2⟩:=getI_ok2 hg
  obtain⟨r,rfl,h4,h5,h6⟩:=rdL_ok h2.nil h
  exact⟨x :: r,by simp,by simp [h4],fun y hy=>(List.mem_cons.1 hy).elim (fun e=>e ▸ h1) (h5 y),by rw[List.flatMap_cons];exact h2.trans h6⟩
theorem getL_ok2 {s:List UInt8} {a most b:Int} {l:List Int} (h:getL s a most=(l,b,0)):(∀ x ∈ l,I64 x)∧At s a b (putL l):=by
 unfold getL at h
 by_cases h0:(getC s a most).2.2=0
 case neg =>
  rw[if_pos h0] at h
  simp only[Prod.mk.injEq] at h
  exact absurd h.2.2 h0
 rw[if_neg (by simpa using h0)] at h
 have hc:getC s a most=getI s a∧0≤(getI s a).1∧(getI s a).2.2=0:=by
  unfold getC at h0 ⊢
  by_cases c1:(getI s a).2.2=0
  case neg=>rw[if_pos c1] at h0;exact absurd h0 c1
  rw[if_neg (by simpa using c1)] at h0 ⊢
  by_cases c2:(getI s a).1<0
  ·rw[if_pos c2] at h0;simp at h0
  rw[if_neg c2] at h0 ⊢
  by_cases c3:most<(getI s a).1
  ·rw[if_pos c3] at h0;simp at h0
  rw[if_neg c3]
  exact⟨rfl,by omega,c1⟩
 rw[hc.1] at h
 rcases hg:getI s a with ⟨x,c,e⟩
 rw[hg] at h hc
 simp only at h hc
 obtain⟨_,hx,rfl⟩:=hc
 obtain⟨h1,h2⟩:=getI_ok2 hg
 obtain⟨r,hr,h4,h5,h6⟩:=rdL_ok h2.nil h
 rw[List.nil_append] at hr
 subst hr
 refine⟨h5,?_⟩
 rw[putL,h4,Int.toNat_of_nonneg hx]
 exact h2.trans h6
theorem getL_at {s:List UInt8} {a b most:Int} {l:List Int} (hn:∀ x ∈ l,I64 x) (hl:l.length≤2000) (hm:(l.length:Int)≤most) (h:At s a b (putL l)):getL s a most=(l,b,0):=by
 obtain⟨P,R,rfl,rfl,rfl⟩:=h
 rw[getL_put hn (by omega) hm P R,List.length_append]
theorem rI_ok {s:List UInt8} {a e x b:Int} (h:rI s a e=(x,b,0)):e=0∧getI s a=(x,b,0):=by
 unfold rI at h
 split at h
 ·simp only[Prod.mk.injEq] at h;exact absurd h.2.2 (by assumption)
 ·split at h
  ·simp only[Prod.mk.injEq] at h;exact absurd h.2.2 (by assumption)
  ·rename_i h1 h2
   simp only[Prod.mk.injEq] at h
   obtain⟨rfl,rfl,_⟩:=h
   refine⟨by simpa using h1,?_⟩
   have:(getI s a).2.2=0:=by simpa using h2
   rw[← this]
theorem rL_ok {s:List UInt8} {a e most b:Int} {x:List Int} (h:rL s a e most=(x,b,0)):e=0∧getL s a most=(x,b,0):=by
 unfold rL at h
 split at h
 ·simp only[Prod.mk.injEq] at h;exact absurd h.2.2 (by assumption)
 ·split at h
  ·simp only[Prod.mk.injEq] at h;exact absurd h.2.2 (by assumption)
  ·rename_i h1 h2
   simp only[Prod.mk.injEq] at h
   obtain⟨rfl,rfl,_⟩:=h
   refine⟨by simpa using h1,?_⟩
   have:(getL s a most).2.2=0:=by simpa using h2
   rw[← this]
theorem rC_ok {s:List UInt8} {a e most x b:Int} (h:rC s a e most=(x,b,0)):e=0∧getI s a=(x,b,0)∧0≤x∧x≤most:=by
 unfold rC at h
 split at h
 ·simp at h
 ·rename_i hc
  obtain⟨h1,h2⟩:=rI_ok h
  rw[h] at hc
  simp only[true_and] at hc
  exact⟨h1,h2,by omega,by omega⟩
theorem rI_at2 {s:List UInt8} {a b n:Int} (hn:I64 n) (h:At s a b (putB n)):rI s a 0=(n,b,0):=by rw[rI_at (getI_at hn h),if_neg (by simp)]
theorem rL_at2 {s:List UInt8} {a b most:Int} {l:List Int} (hn:∀ x ∈ l,I64 x) (hl:l.length≤2000) (hm:(l.length:Int)≤most) (h:At s a b (putL l)):rL s a 0 most=(l,b,0):=by rw[rL_at (getL_at hn hl hm h),if_neg (by simp)]
theorem rC_at2 {s:List UInt8} {a b most n:Int} (hn:I64 n) (h0:0≤n) (hm:n≤most) (h:At s a b (putB n)):rC s a 0 most=(n,b,0):=by
 unfold rC
 rw[rI_at2 hn h,if_neg (fun hh=>by have:=hh.2;simp only at this;omega)]
theorem setsG_ok {s:List UInt8}:∀ {n:Nat} {a e b:Int} {l:List PSe},At s a a []→setsG s n a e=(l,b,0)→e=0∧l.length=n∧(∀ x ∈ l,okSe x∧x.row.length≤64)∧At s a b (l.flatMap encSe)
 |0,a,e,b,l,h0,h=>by
  simp only[setsG,Prod.mk.injEq] at h
  obtain⟨rfl,rfl,rfl⟩:=h
  exact⟨rfl,rfl,by simp,by simpa using h0⟩
 |n+1,a,e,b,l,h0,h=>by
  by_cases he:e=0
  case neg =>
   rw[setsG_err he] at h
   simp only[Prod.mk.injEq] at h
   exact absurd h.2.2 he
  subst he
  rw[setsG,if_neg (by simp)] at h
  rcases hx:rI s a 0 with ⟨x1,x2,x3⟩
  rw[hx] at h
  simp only at h
  rcases hy:rL s x2 x3 64 with ⟨y1,y2,y3⟩
  rw[hy] at h
  simp only at h
  rcases hz:setsG s n y2 y3 with ⟨z1,z2,z3⟩
  rw[hz] at h
  simp only[Prod.mk.injEq] at h
  obtain⟨rfl,rfl,rfl⟩:=h
  by_cases hy3:y3=0
  case neg =>
   rw[setsG_err hy3] at hz
   simp only[Prod.mk.injEq] at hz
   exact absurd hz.2.2 hy3
  subst hy3
  obtain⟨rfl,hl⟩:=rL_ok hy
  obtain⟨_,hi⟩:=rI_ok hx
  obtain⟨i1,i2⟩:=getI_ok2 hi
  obtain⟨l1,l2⟩:=getL_ok2 hl
  have hle:=getL_len s x2 64
  rw[show ((64:Nat):Int)=64 from rfl,hl] at hle
  simp only at hle
  obtain⟨_,k1,k2,k3⟩:=setsG_ok l2.nil hz
  refine⟨rfl,by simp [k1],fun w hw=>?_,?_⟩
  ·rcases List.mem_cons.1 hw with rfl|hw
   ·exact⟨⟨i1,by simp only;omega,l1⟩,hle⟩
   ·exact k2 w hw
  ·rw[List.flatMap_cons,encSe,List.append_assoc]
   exact i2.trans (l2.trans k3)
theorem setsG_at {s:List UInt8}:∀ {l:List PSe} {a b:Int},(∀ x ∈ l,okSe x∧x.row.length≤64)→At s a b (l.flatMap encSe)→setsG s l.length a 0=(l,b,0)
 |[],a,b,_,h=>by
  obtain⟨P,R,h1,h2,h3⟩:=h
  simp only[List.length_nil,setsG,Prod.mk.injEq]
  refine⟨trivial,?_,trivial⟩
  rw[h2,h3];simp
 |x :: l,a,b,hl,h=>by
  rw[List.flatMap_cons,encSe,List.append_assoc] at h
  obtain⟨c,h1,h2⟩:=h.split
  obtain⟨d,h3,h4⟩:=h2.split
  obtain⟨o1,o2⟩:=hl x (by simp)
  rw[List.length_cons,setsG,if_neg (by simp),rI_at2 o1.1 h1]
  simp only
  rw[rL_at2 o1.2.2 (by omega) (by omega) h3]
  simp only
  rw[setsG_at (fun y hy=>hl y (by simp [hy])) h4]
theorem chk_of {x:PSt} (h1:x.rows.length≤16) (h2:x.sets.length≤1024) (h3:∀ s ∈ x.sets,s.row.length≤64):chk x=true:=by
 have hw:∀ l:List PSe,(∀ s ∈ l,s.row.length≤64)→wideN l=l.length:=fun l=>by
  induction l with
  |nil=>intro _;rfl
  |cons a l ih =>
   intro h
   rw[wideN,if_neg (by have:=h a (by simp);omega),ih fun s hs=>h s (by simp [hs]),List.length_cons];omega
 rw[chk,hw _ h3,decide_eq_true h1,decide_eq_true h2]
 simp
theorem stepG_ok {s:List UInt8} {a e b:Int} {x:PSt} (h:stepG s a e=(x,b,0)):e=0∧okSt x∧chk x=true∧At s a b (encSt x):=by
 unfold stepG at h
 rcases hk:rI s a e with ⟨k1,k2,k3⟩
 rw[hk] at h
 simp only at h
 rcases hm:rI s k2 k3 with ⟨m1,m2,m3⟩
 rw[hm] at h
 simp only at h
 rcases hr:rL s m2 m3 16 with ⟨r1,r2,r3⟩
 rw[hr] at h
 simp only at h
 rcases hf:rI s r2 r3 with ⟨f1,f2,f3⟩
 rw[hf] at h
 simp only at h
 rcases ht:rI s f2 f3 with ⟨t1,t2,t3⟩
 rw[ht] at h
 simp only at h
 rcases hc:rI s t2 t3 with ⟨c1,c2,c3⟩
 rw[hc] at h
 simp only at h
 rcases hn:rC s c2 c3 1024 with ⟨n1,n2,n3⟩
 rw[hn] at h
 simp only at h
 rcases hz:setsG s n1.toNat n2 n3 with ⟨z1,z2,z3⟩
 rw[hz] at h
 simp only[Prod.mk.injEq] at h
 obtain⟨rfl,rfl,rfl⟩:=h
 by_cases hn3:n3=0
 case neg =>
  rw[setsG_err hn3] at hz
  simp only[Prod.mk.injEq] at hz
  exact absurd hz.2.2 hn3
 subst hn3
 obtain⟨rfl,gn,gn1,gn2⟩:=rC_ok hn
 obtain⟨rfl,gc⟩:=rI_ok hc
 obtain⟨rfl,gt⟩:=rI_ok ht
 obtain⟨rfl,gf⟩:=rI_ok hf
 obtain⟨rfl,gr⟩:=rL_ok hr
 obtain⟨rfl,gm⟩:=rI_ok hm
 obtain⟨rfl,gk⟩:=rI_ok hk
 obtain⟨ok,ak⟩:=getI_ok2 gk
 obtain⟨om,am⟩:=getI_ok2 gm
 obtain⟨or_,ar⟩:=getL_ok2 gr
 obtain⟨of,af⟩:=getI_ok2 gf
 obtain⟨ot,at_⟩:=getI_ok2 gt
 obtain⟨oc,ac⟩:=getI_ok2 gc
 obtain⟨on,an⟩:=getI_ok2 gn
 have hrl:=getL_len s m2 16
 rw[show ((16:Nat):Int)=16 from rfl,gr] at hrl
 simp only at hrl
 obtain⟨_,j1,j2,j3⟩:=setsG_ok an.nil hz
 refine⟨rfl,⟨ok,om,of,ot,oc,by simp only;omega,or_,by simp only;omega,fun w hw=>(j2 w hw).1⟩,chk_of hrl (by simp only;omega) fun w hw=>(j2 w hw).2,?_⟩
 rw[encSt]
 have hnn:((z1.length:Nat):Int)=n1:=by omega
 rw[hnn]
 exact ak.trans (am.trans (ar.trans (af.trans (at_.trans (ac.trans (an.trans j3))))))
theorem stepG_at {s:List UInt8} {a b:Int} {x:PSt} (h:okSt x) (hc:chk x=true) (ha:At s a b (encSt x)):stepG s a 0=(x,b,0):=by
 obtain⟨c1,c2,c3⟩:=chk_iff hc
 rw[encSt] at ha
 obtain⟨p1,h1,ha⟩:=ha.split
 obtain⟨p2,h2,ha⟩:=ha.split
 obtain⟨p3,h3,ha⟩:=ha.split
 obtain⟨p4,h4,ha⟩:=ha.split
 obtain⟨p5,h5,ha⟩:=ha.split
 obtain⟨p6,h6,ha⟩:=ha.split
 obtain⟨p7,h7,ha⟩:=ha.split
 have e1:=rI_at2 h.kind h1
 have e2:=rI_at2 h.num h2
 have e3:=rL_at2 (most:=16) h.row h.len (by omega) h3
 have e4:=rI_at2 h.fr h4
 have e5:=rI_at2 h.tt h5
 have e6:=rI_at2 h.cnt h6
 have e7:=rC_at2 (most:=1024) ⟨by omega,by omega⟩ (by omega) (by omega) h7
 have e8:=setsG_at (fun w hw=>⟨h.set w hw,c3 w hw⟩) ha
 simp only[stepG,e1,e2,e3,e4,e5,e6,e7,Int.toNat_natCast,e8]
theorem stepsG_ok {s:List UInt8}:∀ {n:Nat} {a e b:Int} {l:List PSt},At s a a []→stepsG s n a e=(l,b,0)→e=0∧l.length=n∧(∀ x ∈ l,okSt x∧chk x=true)∧At s a b (l.flatMap encSt)
 |0,a,e,b,l,h0,h=>by
  simp only[stepsG,Prod.mk.injEq] at h
  obtain⟨rfl,rfl,rfl⟩:=h
  exact⟨rfl,rfl,by simp,by simpa using h0⟩
 |n+1,a,e,b,l,h0,h=>by
  by_cases he:e=0
  case neg =>
   rw[stepsG_err he] at h
   simp only[Prod.mk.injEq] at h
   exact absurd h.2.2 he
  subst he
  rw[stepsG,if_neg (by simp)] at h
  rcases hx:stepG s a 0 with ⟨x1,x2,x3⟩
  rw[hx] at h
  simp only at h
  rcases hz:stepsG s n x2 x3 with ⟨z1,z2,z3⟩
  rw[hz] at h
  simp only[Prod.mk.injEq] at h
  obtain⟨rfl,rfl,rfl⟩:=h
  by_cases hx3:x3=0
  case neg =>
   rw[stepsG_err hx3] at hz
   simp only[Prod.mk.injEq] at hz
   exact absurd hz.2.2 hx3
  subst hx3
  obtain⟨_,o1,o2,o3⟩:=stepG_ok hx
  obtain⟨_,k1,k2,k3⟩:=stepsG_ok o3.nil hz
  refine⟨rfl,by simp [k1],fun w hw=>?_,by rw[List.flatMap_cons];exact o3.trans k3⟩
  rcases List.mem_cons.1 hw with rfl|hw
  ·exact⟨o1,o2⟩
  ·exact k2 w hw
theorem stepsG_at {s:List UInt8}:∀ {l:List PSt} {a b:Int},(∀ x ∈ l,okSt x∧chk x=true)→At s a b (l.flatMap encSt)→stepsG s l.length a 0=(l,b,0)
 |[],a,b,_,h=>by
  obtain⟨P,R,h1,h2,h3⟩:=h
  simp only[List.length_nil,stepsG,Prod.mk.injEq]
  refine⟨trivial,?_,trivial⟩
  rw[h2,h3];simp
 |x :: l,a,b,hl,h=>by
  rw[List.flatMap_cons] at h
  obtain⟨c,h1,h2⟩:=h.split
  obtain⟨o1,o2⟩:=hl x (by simp)
  rw[List.length_cons,stepsG,if_neg (by simp),stepG_at o1 o2 h1]
  simp only
  rw[stepsG_at (fun y hy=>hl y (by simp [hy])) h2]
theorem decG_enc {l:List PSt} (hn:l.length≤512) (h:∀ x ∈ l,okSt x∧chk x=true):decG (encL l)=(l,0):=by
 have h0:At (encL l) 0 ((encL l).length:Int) (putB l.length++l.flatMap encSt):=⟨[],[],by simp [encL],by simp,by simp [encL]⟩
 obtain⟨b,h1,h2⟩:=h0.split
 have e1:=rC_at2 (most:=512) ⟨by omega,by omega⟩ (by omega) (by omega) h1
 have e2:=stepsG_at h h2
 simp only[decG,e1,Int.toNat_natCast,e2]
 rw[if_neg (by simp),if_neg (by simp)]
theorem decG_ok {s:List UInt8} {l:List PSt} (h:decG s=(l,0)):l.length≤512∧(∀ x ∈ l,okSt x∧chk x=true)∧encL l=s:=by
 unfold decG at h
 rcases hn:rC s 0 0 512 with ⟨n1,n2,n3⟩
 rw[hn] at h
 simp only at h
 rcases hz:stepsG s n1.toNat n2 n3 with ⟨z1,z2,z3⟩
 rw[hz] at h
 simp only at h
 by_cases hz3:z3=0
 case neg =>
  rw[if_pos hz3] at h
  simp only[Prod.mk.injEq] at h
  exact absurd h.2 hz3
 subst hz3
 rw[if_neg (by simp)] at h
 by_cases hz2:z2=s.length
 case neg =>
  rw[if_pos hz2] at h
  simp at h
 rw[if_neg (by simpa using hz2)] at h
 simp only[Prod.mk.injEq,and_true] at h
 subst h
 by_cases hn3:n3=0
 case neg =>
  rw[stepsG_err hn3] at hz
  simp only[Prod.mk.injEq] at hz
  exact absurd hz.2.2 hn3
 subst hn3
 obtain⟨_,g1,g2,g3⟩:=rC_ok hn
 obtain⟨o1,o2⟩:=getI_ok2 g1
 obtain⟨_,k1,k2,k3⟩:=stepsG_ok o2.nil hz
 refine⟨by omega,k2,?_⟩
 obtain⟨P,R,p1,p2,p3⟩:=o2.trans k3
 have hP:P=[]:=List.eq_nil_of_length_eq_zero (by omega)
 subst hP
 have hnn:((z1.length:Nat):Int)=n1:=by omega
 rw[encL,hnn]
 simp only[List.nil_append] at p1 p3
 rw[hz2] at p3
 have:R=[]:=List.eq_nil_of_length_eq_zero (by have:=congrArg List.length p1;simp only[List.length_append] at this p3;omega)
 rw[this,List.append_nil] at p1
 exact p1.symm
end Go.Proofs.YticdbambknflgaaGreat.Sc
end
