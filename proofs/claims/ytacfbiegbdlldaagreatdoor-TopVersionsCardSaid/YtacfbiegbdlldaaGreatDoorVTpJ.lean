/- Answers: sums of rows times numbers. -/
import Derived.Test.YtacfbiegbdlldaaGreatDoorVTpF
section
namespace Go.Proofs.YtacfbiegbdlldaaGreatDoor.Sim
open Go Go.RowKit Go.Deep
open Go.Proofs.YtacfbiegbdlldaaGreatDoor.Tw (WCell kn kn_len kn_all kn_next)
set_option maxRecDepth 100000
set_option maxHeartbeats 4000000
set_option linter.unusedVariables false
set_option linter.unusedSimpArgs false
attribute [local irreducible] Go Mean
theorem radius (n k:Nat) (hk:1≤k) (hkn:k≤n) (hn:n≤32):Does Tryz.prog 119 [I n,I k] [] (.tu [I ((n-k) / 2:Nat),I 0]) [] []:=by
 refine G87' rfl BxOK.nil fun cx hm0=>go_in 5000 ?_
 unfold A87' R87'
 have q1:decide ((k:Int)<1)=false:=df (by omega)
 have q2:decide ((n:Int)<0)=false:=df (by omega)
 have q3:decide ((32:Int)<(n:Int))=false:=df (by omega)
 have q4:decide ((n:Int)<(k:Int))=false:=df (by omega)
 have w1:IntKind.i64.wrap ((n:Int)-(k:Int))=((n-k:Nat):Int):=by rw[i6 _ (by omega)];omega
 have w2:IntKind.i64.wrap (((n-k:Nat):Int).tdiv 2)=(((n-k) / 2:Nat):Int):=by
  rw[Int.tdiv_eq_ediv_of_nonneg (by omega),i6 _ (by omega)];omega
 have w3:(((n-k:Nat):Int).tdiv 2)=(((n-k) / 2:Nat):Int):=by
  rw[Int.tdiv_eq_ediv_of_nonneg (by omega)];omega
 repeat' (first|simp (maxSteps:=9999999) only[↓GE,PL,PP,EE,QQ,seval,q1,q2,q3,q4,w1,w2,w3]|(simp (disch:=omega) only[i6])|(apply go_brD<;>intro h)|(apply go_gsD aE<;>intro h)|(apply go_br<;>intro h)|(apply go_gs aE<;>intro h)|(with_reducible apply And.intro)|exact aG|fail)
 all_goals ((first|apply ret_mk []|apply end_mk []);(· exact aR);(· exact aZ);all_goals exact aF)
theorem coefficient (l:List Int) (i:Nat) (hl:l.length≤1000000) (hi:i≤1000000):Does Tryz.prog 54 [.d (dInts l),I i] [] (I (l.getD i 0)) [] []:=by
 refine G29' rfl BxOK.nil fun cx hm0=>go_in 5000 ?_
 unfold A29' R29'
 by_cases h:i<l.length
 ·have q1:decide ((i:Int)<(l.length:Int))=true:=dt (by omega)
  have hs:=getD_map eI [] 0 l i h
  repeat' (first|simp (maxSteps:=9999999) only[↓GE,PL,PP,EE,QQ,seval,q1,hs,h,eI,lm]|(simp (disch:=omega) only[i6])|(apply go_brD<;>intro h)|(apply go_gsD aE<;>intro h)|(apply go_br<;>intro h)|(apply go_gs aE<;>intro h)|(with_reducible apply And.intro)|exact aG|fail)
  all_goals ((first|apply ret_mk []|apply end_mk []);(· exact aR);(· exact aZ);all_goals exact aF)
 ·have q1:decide ((i:Int)<(l.length:Int))=false:=df (by omega)
  have e:l.getD i 0=0:=by rw[List.getD_eq_getElem?_getD,List.getElem?_eq_none (by omega)];rfl
  rw[e]
  repeat' (first|simp (maxSteps:=9999999) only[↓GE,PL,PP,EE,QQ,seval,q1,lm]|(simp (disch:=omega) only[i6])|(apply go_brD<;>intro h)|(apply go_gsD aE<;>intro h)|(apply go_br<;>intro h)|(apply go_gs aE<;>intro h)|(with_reducible apply And.intro)|exact aG|fail)
  all_goals ((first|apply ret_mk []|apply end_mk []);(· exact aR);(· exact aZ);all_goals exact aF)
theorem countT (l:List WCell) (hl:l.length≤1000000):Does Tryz.prog 120 [.d (dCells l)] [] (I (kn 0 l).length) [] []:=by
 refine G88' rfl BxOK.nil fun cx hm0=>go_in 5000 ?_
 unfold A88' R88'
 repeat' (first|simp (maxSteps:=9999999) only[↓GE,PL,PP,EE,QQ,seval,lm]|(simp (disch:=omega) only[i6])|(apply go_brD<;>intro h)|(apply go_gsD aE<;>intro h)|(apply go_br<;>intro h)|(apply go_gs aE<;>intro h)|(with_reducible apply And.intro)|exact aG|fail)
 refine go_loop 5000 hm0 (ι:={k:Nat // k≤l.length}) (fun k=>[(3,I (kn 0 (l.take k.1)).length),(6,.d (dCells l)),(7,I l.length),(8,I k.1)]) (fun k=>[]) (fun k=>l.length-k.1) [] ⟨0,Nat.zero_le _⟩ ?_ ?_
 ·(simp only[GeS];refine⟨?_,?_,?_,?_⟩;all_goals (repeat' (first|(with_reducible exact True.intro)|(with_reducible rfl)|simp only[XC,↓reduceIte,seval]|(with_reducible apply And.intro)|(refine⟨_,rfl,?_⟩)|(simp [kn];done)|exact aS|fail)))
 ·rintro⟨k,hk⟩
  simp only
  by_cases hkl:k<l.length
  ·have q1:decide ((k:Int)<(l.length:Int))=true:=dt (by omega)
   have w1:IntKind.i64.wrap ((k:Int)+1)=((k+1:Nat):Int):=by rw[i6 _ (by omega)];omega
   have hle:=kn_len 0 (l.take k)
   rw[List.length_take] at hle
   have w2:IntKind.i64.wrap (((kn 0 (l.take k)).length:Int)+1)=(((kn 0 (l.take k)).length+1:Nat):Int):=by rw[i6 _ (by omega)];omega
   have hnx:=kn_next hkl
   have hs:=getD_map eC [] ⟨0,false⟩ l k hkl
   have hg:l.getD k ⟨0,false⟩=l[k]:=by simp [List.getD_eq_getElem?_getD,hkl]
   rw[hg] at hs
   generalize l[k]=c at hs hnx
   obtain⟨cv,ck⟩:=c
   cases ck with
   |true =>
    repeat' (first|simp (maxSteps:=9999999) only[↓GE,PL,PP,EE,QQ,seval,q1,w1,w2,hs,hkl,eC,lm]|(simp (disch:=omega) only[i6])|(apply go_brD<;>intro h)|(apply go_gsD aE<;>intro h)|(apply go_br<;>intro h)|(apply go_gs aE<;>intro h)|(with_reducible apply And.intro)|exact aG|fail)
    refine⟨⟨k+1,hkl⟩,?_,by simp only;omega⟩
    (simp only[GeS];refine⟨?_,?_,?_,?_⟩;all_goals (repeat' (first|(with_reducible exact True.intro)|(with_reducible rfl)|simp only[XC,↓reduceIte,seval]|(with_reducible apply And.intro)|(refine⟨_,rfl,?_⟩)|(simp [hnx];done)|exact aS|fail)))
   |false =>
    repeat' (first|simp (maxSteps:=9999999) only[↓GE,PL,PP,EE,QQ,seval,q1,w1,w2,hs,hkl,eC,lm]|(simp (disch:=omega) only[i6])|(apply go_brD<;>intro h)|(apply go_gsD aE<;>intro h)|(apply go_br<;>intro h)|(apply go_gs aE<;>intro h)|(with_reducible apply And.intro)|exact aG|fail)
    refine⟨⟨k+1,hkl⟩,?_,by simp only;omega⟩
    (simp only[GeS];refine⟨?_,?_,?_,?_⟩;all_goals (repeat' (first|(with_reducible exact True.intro)|(with_reducible rfl)|simp only[XC,↓reduceIte,seval]|(with_reducible apply And.intro)|(refine⟨_,rfl,?_⟩)|(simp [hnx];done)|exact aS|fail)))
  ·obtain rfl:k=l.length:=by omega
   have q1:decide ((l.length:Int)<(l.length:Int))=false:=df (by omega)
   rw[List.take_length]
   repeat' (first|simp (maxSteps:=9999999) only[↓GE,PL,PP,EE,QQ,seval,q1]|(simp (disch:=omega) only[i6])|(apply go_brD<;>intro h)|(apply go_gsD aE<;>intro h)|(apply go_br<;>intro h)|(apply go_gs aE<;>intro h)|(with_reducible apply And.intro)|exact aG|fail)
   ((first|apply ret_mk []|apply end_mk []);(· exact aR);(· exact aZ);all_goals exact aF)
def wrN (p:Int) (f:List Int):Nat→List WCell→List Int
 |_,[]=>[]
 |i,c :: r=>if c.k&&valF p f ((i:Int)+1) != c.v then ((i:Int)+1) :: wrN p f (i+1) r else wrN p f (i+1) r
theorem wrN_append {p:Int} {f:List Int}:∀ (i:Nat) (a b:List WCell),wrN p f i (a++b)=wrN p f i a++wrN p f (i+a.length) b
 |i,[],b=>by simp [wrN]
 |i,c :: r,b=>by
  simp only[List.cons_append,wrN,List.length_cons]
  rw[wrN_append (i+1) r b,show i+1+r.length=i+(r.length+1) by omega]
  split <;> rfl
theorem wrN_next {p:Int} {f:List Int} {l:List WCell} {k:Nat} (h:k<l.length):wrN p f 0 (l.take (k+1))=wrN p f 0 (l.take k)++if l[k].k&&valF p f ((k:Int)+1) != l[k].v then [(k:Int)+1] else []:=by
 rw[List.take_succ_eq_append_getElem h,wrN_append,List.length_take,Nat.min_eq_left (by omega),Nat.zero_add]
 simp only[wrN]
theorem wrN_len {p:Int} {f:List Int}:∀ (i:Nat) (l:List WCell),(wrN p f i l).length≤l.length
 |_,[]=>Nat.le_refl _
 |i,c :: r=>by
  have:=wrN_len (p:=p) (f:=f) (i+1) r
  simp only[wrN]
  split <;> simp only[List.length_cons] <;> omega
theorem wrongsT (p:Int) (l:List WCell) (f:List Int) (hf:fieldB p=true) (hl:WordIn p l) (hfi:f.all (inE p)=true) (hfl:f.length≤1000000):Does Tryz.prog 124 [I p,.d (dCells l),.d (dInts f)] [] (.d (dInts (wrN p f 0 l))) [] []:=by
 refine G92' rfl BxOK.nil fun cx hm0=>go_in 5000 ?_
 unfold A92' R92'
 have hp:=(fieldB_iff.1 hf).1
 have hp2:=(fieldB_iff.1 hf).2.1
 have hll:=hl.len
 have hlp:=hl.lp
 repeat' (first|simp (maxSteps:=9999999) only[↓GE,PL,PP,EE,QQ,seval,lm]|(simp (disch:=omega) only[i6])|(apply go_brD<;>intro h)|(apply go_gsD aE<;>intro h)|(apply go_br<;>intro h)|(apply go_gs aE<;>intro h)|(with_reducible apply And.intro)|exact aG|fail)
 refine go_loopz 5000 hm0 (ι:={q:Nat × Nat // q.1≤l.length}) (fun q=>[(0,I p),(2,.d (dInts f)),(7,.og 33 q.1.2),(10,.d (dCells l)),(11,I l.length),(12,I q.1.1)]) (fun q=>[(33,.arr q.1.2 1 true ((wrN p f 0 (l.take q.1.1)).map eI))]) (fun q=>l.length-q.1.1) [] [33] ⟨(0,0),Nat.zero_le _⟩ ?_ ?_
 ·simp only[GeZ];(simp only[GeS];refine⟨?_,?_,?_,?_⟩;all_goals (repeat' (first|(with_reducible exact True.intro)|(with_reducible rfl)|simp only[XC,↓reduceIte,seval]|(with_reducible apply And.intro)|(refine⟨_,rfl,?_⟩)|(simp [wrN];done)|exact aS|fail)))
 ·rintro⟨⟨k,v⟩,hk⟩
  simp only at hk ⊢
  by_cases hkl:k<l.length
  ·have q1:decide ((k:Int)<(l.length:Int))=true:=dt (by omega)
   have w1:IntKind.i64.wrap ((k:Int)+1)=(k:Int)+1:=i6 _ (by omega)
   have hle:=wrN_len (p:=p) (f:=f) 0 (l.take k)
   rw[List.length_take] at hle
   have hnx:=wrN_next (p:=p) (f:=f) hkl
   have hs:=getD_map eC [] ⟨0,false⟩ l k hkl
   have hg:l.getD k ⟨0,false⟩=l[k]:=by simp [List.getD_eq_getElem?_getD,hkl]
   rw[hg] at hs
   have e1:=value p ((k:Int)+1) f (by omega) hp2 ⟨by omega,by omega⟩ hfi hfl
   generalize l[k]=c at hs hnx
   obtain⟨cv,ck⟩:=c
   cases ck with
   |true =>
    simp only[Bool.true_and] at hnx
    cases hd:valF p f ((k:Int)+1) != cv with
    |true =>
     rw[hd,if_pos rfl] at hnx
     repeat' (first|simp (maxSteps:=9999999) only[↓GE,PL,PP,EE,QQ,seval,q1,w1,hs,hkl,hd,eC,lm]|(simp (disch:=omega) only[i6])|(apply go_brD<;>intro h)|(apply go_gsD aE<;>intro h)|(apply go_br<;>intro h)|(apply go_gs aE<;>intro h)|(apply go_call 5000 (e1) rfl rfl;iterate 4 (first|(exact CallForm.plain rfl)|exact aC))|(with_reducible apply And.intro)|exact aG|fail)
     refine⟨[],[],⟨(k+1,v+1),hkl⟩,?_,by simp only;omega⟩
     simp only[GeZ];(simp only[GeS];refine⟨?_,?_,?_,?_⟩;all_goals (repeat' (first|(with_reducible exact True.intro)|(with_reducible rfl)|simp only[XC,↓reduceIte,seval]|(with_reducible apply And.intro)|(refine⟨_,rfl,?_⟩)|(simp [hnx,eI];done)|exact aS|fail)))
    |false =>
     rw[hd,if_neg (by simp),List.append_nil] at hnx
     repeat' (first|simp (maxSteps:=9999999) only[↓GE,PL,PP,EE,QQ,seval,q1,w1,hs,hkl,hd,eC,lm]|(simp (disch:=omega) only[i6])|(apply go_brD<;>intro h)|(apply go_gsD aE<;>intro h)|(apply go_br<;>intro h)|(apply go_gs aE<;>intro h)|(apply go_call 5000 (e1) rfl rfl;iterate 4 (first|(exact CallForm.plain rfl)|exact aC))|(with_reducible apply And.intro)|exact aG|fail)
     refine⟨[],[],⟨(k+1,v),hkl⟩,?_,by simp only;omega⟩
     simp only[GeZ];(simp only[GeS];refine⟨?_,?_,?_,?_⟩;all_goals (repeat' (first|(with_reducible exact True.intro)|(with_reducible rfl)|simp only[XC,↓reduceIte,seval]|(with_reducible apply And.intro)|(refine⟨_,rfl,?_⟩)|(simp [hnx];done)|exact aS|fail)))
   |false =>
    simp only[Bool.false_and,Bool.false_eq_true,if_false,List.append_nil] at hnx
    repeat' (first|simp (maxSteps:=9999999) only[↓GE,PL,PP,EE,QQ,seval,q1,w1,hs,hkl,eC,lm]|(simp (disch:=omega) only[i6])|(apply go_brD<;>intro h)|(apply go_gsD aE<;>intro h)|(apply go_br<;>intro h)|(apply go_gs aE<;>intro h)|(with_reducible apply And.intro)|exact aG|fail)
    refine⟨[],[],⟨(k+1,v),hkl⟩,?_,by simp only;omega⟩
    simp only[GeZ];(simp only[GeS];refine⟨?_,?_,?_,?_⟩;all_goals (repeat' (first|(with_reducible exact True.intro)|(with_reducible rfl)|simp only[XC,↓reduceIte,seval]|(with_reducible apply And.intro)|(refine⟨_,rfl,?_⟩)|(simp [hnx];done)|exact aS|fail)))
  ·obtain rfl:k=l.length:=by omega
   have q1:decide ((l.length:Int)<(l.length:Int))=false:=df (by omega)
   rw[List.take_length]
   repeat' (first|simp (maxSteps:=9999999) only[↓GE,PL,PP,EE,QQ,seval,q1]|(simp (disch:=omega) only[i6])|(apply go_brD<;>intro h)|(apply go_gsD aE<;>intro h)|(apply go_br<;>intro h)|(apply go_gs aE<;>intro h)|(with_reducible apply And.intro)|exact aG|fail)
   ((first|apply ret_mk []|apply end_mk []);(· exact aR);(· exact aZ);all_goals exact aF)
end Go.Proofs.YtacfbiegbdlldaaGreatDoor.Sim
end
section
namespace Go.Proofs.YtacfbiegbdlldaaGreatDoor.Sim
open Go Go.RowKit Go.Deep
set_option maxRecDepth 100000
set_option maxHeartbeats 4000000
set_option linter.unusedVariables false
set_option linter.unusedSimpArgs false
attribute [local irreducible] Go Mean
structure PlanOK (s d:Int):Prop where
 s2:2≤s
 s10:s≤10
 d1:1≤d
 ds:d<s
theorem validT (s d:Int) (h:PlanOK s d):Does Tryz.prog 81 [.ag [I s,I d]] [] (B true) [] []:=by
 refine G69' rfl BxOK.nil fun cx hm0=>go_in 5000 ?_
 unfold A69' R69'
 have q1:decide ((2:Int)≤s)=true:=dt h.s2
 have q2:decide (s≤10)=true:=dt h.s10
 have q3:decide ((1:Int)≤d)=true:=dt h.d1
 have q4:decide (d<s)=true:=dt h.ds
 repeat' (first|simp (maxSteps:=9999999) only[↓GE,PL,PP,EE,QQ,seval,q1,q2,q3,q4]|(simp (disch:=omega) only[i6])|(apply go_brD<;>intro h)|(apply go_gsD aE<;>intro h)|(apply go_br<;>intro h)|(apply go_gs aE<;>intro h)|(with_reducible apply And.intro)|exact aG|fail)
 all_goals ((first|apply ret_mk []|apply end_mk []);(· exact aR);(· exact aZ);all_goals exact aF)
theorem checkC (p s d:Int) (hf:fieldB p=true) (h:PlanOK s d) (hp:s<p):Does Tryz.prog 50 [.ag [I p],.ag [I s,I d]] [] (I 0) [] []:=by
 refine G25' rfl BxOK.nil fun cx hm0=>go_in 5000 ?_
 unfold A25' R25'
 have e1:=resOf p
 rw[hf] at e1
 have e2:=validT s d h
 have q1:decide (p≤s)=false:=df (by omega)
 repeat' (first|simp (maxSteps:=9999999) only[↓GE,PL,PP,EE,QQ,seval,q1]|(simp (disch:=omega) only[i6])|(apply go_brD<;>intro h)|(apply go_gsD aE<;>intro h)|(apply go_br<;>intro h)|(apply go_gs aE<;>intro h)|(apply go_call 5000 (e1) rfl rfl;iterate 4 (first|(exact CallForm.plain rfl)|exact aC))|(apply go_call 5000 (e2) rfl rfl;iterate 4 (first|(exact CallForm.plain rfl)|exact aC))|(with_reducible apply And.intro)|exact aG|fail)
 all_goals ((first|apply ret_mk []|apply end_mk []);(· exact aR);(· exact aZ);all_goals exact aF)
theorem checkRows (p s d n:Int) (hf:fieldB p=true) (h:PlanOK s d) (hp:s<p) (h1:1≤n) (h2:n≤1024):Does Tryz.prog 40 [.ag [I p],.ag [I s,I d],I n] [] (I 0) [] []:=by
 refine G21' rfl BxOK.nil fun cx hm0=>go_in 5000 ?_
 unfold A21' R21'
 have e1:=checkC p s d hf h hp
 have q1:decide (n<1)=false:=df (by omega)
 have q2:decide ((1024:Int)<n)=false:=df (by omega)
 repeat' (first|simp (maxSteps:=9999999) only[↓GE,PL,PP,EE,QQ,seval,q1,q2]|(simp (disch:=omega) only[i6])|(apply go_brD<;>intro h)|(apply go_gsD aE<;>intro h)|(apply go_br<;>intro h)|(apply go_gs aE<;>intro h)|(apply go_call 5000 (e1) rfl rfl;iterate 4 (first|(exact CallForm.plain rfl)|exact aC))|(with_reducible apply And.intro)|exact aG|fail)
 all_goals ((first|apply ret_mk []|apply end_mk []);(· exact aR);(· exact aZ);all_goals exact aF)
def repF (p:Int):Nat→List (List D)
 |0=>[]
 |k+1=>repF p k++[eI p]
theorem repF_len {p:Int}:∀ k,(repF p k).length=k
 |0=>rfl
 |k+1=>by rw[repF,List.length_append,repF_len k];rfl
theorem repF_all {p:Int}:∀ k,repF p k=(List.replicate k p).map eI
 |0=>rfl
 |k+1=>by rw[repF,repF_all k,List.replicate_succ',List.map_append];rfl
theorem limitsT (p s d:Int) (n dd:Nat) (hd:d=(dd:Int)) (hf:fieldB p=true) (h:PlanOK s d) (hp:s<p) (h1:1≤n) (h2:n≤1024):Does Tryz.prog 12 [.ag [I p],.ag [I s,I d],I n] [] (.tu [.d (dInts (List.replicate (n*dd) p)),I 0]) [] []:=by
 subst hd
 refine G16' rfl BxOK.nil fun cx hm0=>go_in 5000 ?_
 unfold A16' R16'
 have e1:=checkRows p s dd n hf h hp (by omega) (by omega)
 have h3:=h.ds
 have h4:=h.s10
 have hnd:n*dd≤1024*10:=Nat.mul_le_mul h2 (by omega)
 have w0:IntKind.i64.wrap ((n:Int)*(dd:Int))=((n*dd:Nat):Int):=by rw[← Int.natCast_mul];exact i6 _ (by omega)
 repeat' (first|simp (maxSteps:=9999999) only[↓GE,PL,PP,EE,QQ,seval,w0]|(simp (disch:=omega) only[i6])|(apply go_brD<;>intro h)|(apply go_gsD aE<;>intro h)|(apply go_br<;>intro h)|(apply go_gs aE<;>intro h)|(apply go_call 5000 (e1) rfl rfl;iterate 4 (first|(exact CallForm.plain rfl)|exact aC))|(with_reducible apply And.intro)|exact aG|fail)
 generalize n*dd=N at *
 refine go_loopz 5000 hm0 (ι:={q:Nat × Nat // q.1≤N}) (fun q=>[(3,.bp 3 0 0),(9,.og 27 q.1.2),(20,I N),(21,I q.1.1)]) (fun q=>[(3,.box 0 [I p]),(27,.arr q.1.2 1 true (repF p q.1.1))]) (fun q=>N-q.1.1) [] [27] ⟨(0,0),Nat.zero_le _⟩ ?_ ?_
 ·simp only[GeZ];(simp only[GeS];refine⟨?_,?_,?_,?_⟩;all_goals (repeat' (first|(with_reducible exact True.intro)|(with_reducible rfl)|simp only[XC,↓reduceIte,seval]|(with_reducible apply And.intro)|(refine⟨_,rfl,?_⟩)|(simp [repF];done)|exact aS|fail)))
 ·rintro⟨⟨k,v⟩,hk⟩
  simp only at hk ⊢
  by_cases hkl:k<N
  ·have q1:decide ((k:Int)<(N:Int))=true:=dt (by omega)
   have w1:IntKind.i64.wrap ((k:Int)+1)=((k+1:Nat):Int):=by rw[i6 _ (by omega)];omega
   have hl:=repF_len (p:=p) k
   repeat' (first|simp (maxSteps:=9999999) only[↓GE,PL,PP,EE,QQ,seval,q1,w1,hl]|(simp (disch:=omega) only[i6])|(apply go_brD<;>intro h)|(apply go_gsD aE<;>intro h)|(apply go_br<;>intro h)|(apply go_gs aE<;>intro h)|(with_reducible apply And.intro)|exact aG|fail)
   refine⟨[],[],⟨(k+1,v+1),hkl⟩,?_,by simp only;omega⟩
   simp only[GeZ];(simp only[GeS];refine⟨?_,?_,?_,?_⟩;all_goals (repeat' (first|(with_reducible exact True.intro)|(with_reducible rfl)|simp only[XC,↓reduceIte,seval]|(with_reducible apply And.intro)|(refine⟨_,rfl,?_⟩)|(simp [repF,eI];done)|exact aS|fail)))
  ·obtain rfl:k=N:=by omega
   have q1:decide ((k:Int)<(k:Int))=false:=df (by omega)
   rw[show dInts (List.replicate k p)=D.sl 1 (repF p k) from by rw[repF_all]]
   repeat' (first|simp (maxSteps:=9999999) only[↓GE,PL,PP,EE,QQ,seval,q1]|(simp (disch:=omega) only[i6])|(apply go_brD<;>intro h)|(apply go_gsD aE<;>intro h)|(apply go_br<;>intro h)|(apply go_gs aE<;>intro h)|(with_reducible apply And.intro)|exact aG|fail)
   ((first|apply ret_mk []|apply end_mk []);(· exact aR);(· exact aZ);all_goals exact aF)
end Go.Proofs.YtacfbiegbdlldaaGreatDoor.Sim
end
section
namespace Go.Proofs.YtacfbiegbdlldaaGreatDoor.Sim
open Go Go.RowKit Go.Deep
set_option maxRecDepth 100000
set_option maxHeartbeats 4000000
set_option linter.unusedVariables false
set_option linter.unusedSimpArgs false
attribute [local irreducible] Go Mean
def RowsOK (p w:Int) (rows:List (List Int)):Prop:=∀ r ∈ rows,r.length=w.toNat∧r.all (inE p)=true
theorem allIn {p:Int} {l:List Int}:l.all (inE p)=true↔∀ x ∈ l,0≤x∧x<p:=by simp [inE,List.all_eq_true]
def combN (p:Int) (w:Nat) (c:List Int) (rows:List (List Int)):Nat→List Int
 |0=>List.replicate w 0
 |j+1=>addStep p (c.getD j 0) (combN p w c rows j) (rows.getD j []) w
def combL (p:Int) (w:Nat) (c:List Int) (rows:List (List Int)):List Int:=combN p w c rows rows.length
theorem combN_len {p:Int} {w:Nat} {c:List Int} {rows:List (List Int)}:∀ {n:Nat},(combN p w c rows n).length=w
 |0=>by simp [combN]
 |n+1=>by rw[combN,addStep_len,combN_len]
theorem combN_in {p:Int} {w:Nat} {c:List Int} {rows:List (List Int)} (hp:1≤p):∀ {n i:Nat},i<w→0≤(combN p w c rows n).getD i 0∧(combN p w c rows n).getD i 0<p
 |0,i,h=>by simp [combN,List.getD_eq_getElem?_getD,h];omega
 |n+1,i,h=>by
  rw[combN,addStep_get (by rw[combN_len];exact h),if_pos h]
  exact⟨Int.emod_nonneg _ (by omega),Int.emod_lt_of_pos _ (by omega)⟩
theorem combN_all {p:Int} {w:Nat} {c:List Int} {rows:List (List Int)} (hp:1≤p) {n:Nat}:(combN p w c rows n).all (inE p)=true:=by
 rw[allIn]
 intro x hx
 obtain⟨i,hi,rfl⟩:=List.getElem_of_mem hx
 rw[combN_len] at hi
 have:=combN_in (p:=p) (w:=w) (c:=c) (rows:=rows) hp (n:=n) hi
 simpa [List.getD_eq_getElem?_getD,combN_len,hi] using this
theorem all_getD {p:Int} {l:List Int} (h:l.all (inE p)=true) {i:Nat} (hi:i<l.length):0≤l.getD i 0∧l.getD i 0<p:=allIn.1 h _ (mem_getD _ _ _ hi)
theorem comb0 {p:Int} {w:Nat} {c:List Int} {rows:List (List Int)}:(combN p w c rows 0).map eI=List.replicate w [D.at (.int .i64 0)]:=zeros_map w
theorem vcombine (p:Int) (w:Nat) (c:List Int) (rows:List (List Int)) (hf:fieldB p=true) (hw:w≤64) (hlen:c.length=rows.length) (hr:RowsOK p w rows) (hb:rows.length≤1024) (hc:c.all (inE p)=true):Does Tryz.prog 16 [.ag [I p],.d (dInts c),.d (dRows rows),I w] [] (.tu [.d (dInts (combL p w c rows)),I 0]) [] []:=by
 refine G30' rfl BxOK.nil fun cx hm0=>go_in 5000 ?_
 unfold A30' R30'
 obtain⟨h1,h2,h3⟩:=fieldB_iff.1 hf
 have e1:=resOf p
 rw[hf,if_pos rfl] at e1
 have e2:=allF p c (by omega)
 rw[hc] at e2
 have q0:decide ((w:Int) > 64)=false:=df (by omega)
 have q1:((c.length:Int) != (rows.length:Int))=false:=by rw[hlen];simp
 repeat' (first|simp (maxSteps:=9999999) only[↓GE,PL,PP,EE,QQ,seval,q0,q1,lm]|(simp (disch:=omega) only[i6])|(apply go_brD<;>intro h)|(apply go_gsD aE<;>intro h)|(apply go_br<;>intro h)|(apply go_gs aE<;>intro h)|(apply go_call 5000 (e1) rfl rfl;iterate 4 (first|(exact CallForm.plain rfl)|exact aC))|(apply go_call 5000 (e2) rfl rfl;iterate 4 (first|(exact CallForm.plain rfl)|exact aC))|(with_reducible apply And.intro)|exact aG|fail)
 refine go_loop 5000 hm0 (ι:={k:Nat // k≤rows.length}) (fun i=>[(1,.d (dInts c)),(2,.d (dRows rows)),(3,I w),(10,I p),(12,B true),(39,.d (dRows rows)),(40,I rows.length),(41,I i.1)]) (fun i=>[]) (fun i=>rows.length-i.1) [] ⟨0,Nat.zero_le _⟩ ?_ ?_
 ·exact aH
 ·rintro⟨k,hk⟩
  simp only
  by_cases hkr:k<rows.length
  ·have hs:=getD_map eR [] [] rows k hkr
   have hm:=hr _ (mem_getD [] rows k hkr)
   generalize rows.getD k []=r at hs hm
   have e3:=allF p r (by have:=hm.1;omega)
   rw[hm.2] at e3
   have q2:((r.length:Int) != (w:Int))=false:=by have:=hm.1;simp;omega
   repeat' (first|simp (maxSteps:=9999999) only[↓GE,PL,PP,EE,QQ,seval,hs,q2,eR,lm]|(simp (disch:=omega) only[i6])|(apply go_brD<;>intro h)|(apply go_gsD aE<;>intro h)|(apply go_br<;>intro h)|(apply go_gs aE<;>intro h)|(apply go_call 5000 (e3) rfl rfl;iterate 4 (first|(exact CallForm.plain rfl)|exact aC))|(with_reducible apply And.intro)|exact aG|fail)
   refine⟨⟨k+1,hkr⟩,?_,by simp only;omega⟩
   exact aH
  ·obtain rfl:k=rows.length:=by omega
   repeat' (first|simp (maxSteps:=9999999) only[↓GE,PL,PP,EE,QQ,seval]|(simp (disch:=omega) only[i6])|(apply go_brD<;>intro h)|(apply go_gsD aE<;>intro h)|(apply go_br<;>intro h)|(apply go_gs aE<;>intro h)|(with_reducible apply And.intro)|exact aG|fail)
   refine go_loop 5000 hm0 (ι:={k:Nat // k≤rows.length}) (fun i=>[(1,.d (dInts c)),(10,I p),(15,.og 59 0),(60,.d (dRows rows)),(61,I rows.length),(62,I i.1)]) (fun i=>[(59,.arr 0 1 true ((combN p w c rows i.1).map eI))]) (fun i=>rows.length-i.1) [] ⟨0,Nat.zero_le _⟩ ?_ ?_
   ·(simp only[GeS];refine⟨?_,?_,?_,?_⟩;all_goals (repeat' (first|(with_reducible exact True.intro)|(with_reducible rfl)|simp only[XC,↓reduceIte,seval]|(with_reducible apply And.intro)|(refine⟨_,rfl,?_⟩)|(simp [comb0];done)|exact aS|fail)))
   ·rintro⟨k,hk⟩
    simp only
    by_cases hkr:k<rows.length
    ·have hs:=getD_map eR [] [] rows k hkr
     have hs2:=getD_map eI [] 0 c k (by omega)
     have hm:=hr _ (mem_getD [] rows k hkr)
     have hN:combN p w c rows (k+1)=addStep p (c.getD k 0) (combN p w c rows k) (rows.getD k []) (rows.getD k []).length:=by rw[combN,hm.1];simp
     have hx:=all_getD hc (i:=k) (by omega)
     generalize rows.getD k []=r at hs hm hN
     generalize c.getD k 0=x at *
     have e3:=(addTimes p x (combN p w c rows k) r (by omega) h2 hx (fun i hi=>combN_in (by omega) (by rw[combN_len] at hi;exact hi)) (fun i hi=>all_getD hm.2 hi) (by rw[combN_len];have:=hm.1;omega) (by have:=hm.1;omega)).nm [(900000,59,0)] rfl rfl rfl rfl rfl rfl rfl rfl rfl
     repeat' (first|simp (maxSteps:=9999999) only[↓GE,PL,PP,EE,QQ,seval,hs,hs2,eR,eI,lm]|(simp (disch:=omega) only[i6])|(apply go_brD<;>intro h)|(apply go_gsD aE<;>intro h)|(apply go_br<;>intro h)|(apply go_gs aE<;>intro h)|(apply go_call 5000 (e3) rfl rfl;iterate 4 (first|(exact CallForm.lent aL rfl rfl)|exact aC))|(with_reducible apply And.intro)|exact aG|fail)
     refine⟨⟨k+1,hkr⟩,?_,by simp only;omega⟩
     (simp only[GeS];refine⟨?_,?_,?_,?_⟩;all_goals (repeat' (first|(with_reducible exact True.intro)|(with_reducible rfl)|simp only[XC,↓reduceIte,seval]|(with_reducible apply And.intro)|(refine⟨_,rfl,?_⟩)|(simp [hN,O.addv];done)|exact aS|fail)))
    ·obtain rfl:k=rows.length:=by omega
     repeat' (first|simp (maxSteps:=9999999) only[↓GE,PL,PP,EE,QQ,seval]|(simp (disch:=omega) only[i6])|(apply go_brD<;>intro h)|(apply go_gsD aE<;>intro h)|(apply go_br<;>intro h)|(apply go_gs aE<;>intro h)|(with_reducible apply And.intro)|exact aG|fail)
     all_goals ((first|apply ret_mk []|apply end_mk []);(· exact aR);(· ((try simp only[CC,LL,EE,QQ,seval]) <;> repeat' (first|exact aD|(with_reducible apply And.intro)|(simp [*,combL];done)|(simp [*,combL];omega)|(simp_all [combL];done)|(simp_all [combL];omega))));all_goals (first|((try simp only[CC,LL,EE,QQ,seval]) <;> (repeat' (first|(with_reducible apply And.intro)|trivial|rfl|(simp [combL];done)));done)|exact aF))
theorem answerT (p:Int) (w:Nat) (c:List Int) (rows:List (List Int)) (hf:fieldB p=true) (hw:w≤64) (hlen:c.length=rows.length) (hr:RowsOK p w rows) (hb:rows.length≤1024) (hc:c.all (inE p)=true):Does Tryz.prog 23 [.ag [I p],I w,.d (dRows rows),.d (dInts c)] [] (.tu [.d (dInts (combL p w c rows)),I 0]) [] []:=by
 refine G19' rfl BxOK.nil fun cx hm0=>go_in 5000 ?_
 unfold A19' R19'
 have e1:=vcombine p w c rows hf hw hlen hr hb hc
 repeat' (first|simp (maxSteps:=9999999) only[↓GE,PL,PP,EE,QQ,seval]|(simp (disch:=omega) only[i6])|(apply go_brD<;>intro h)|(apply go_gsD aE<;>intro h)|(apply go_br<;>intro h)|(apply go_gs aE<;>intro h)|(apply go_call 5000 (e1) rfl rfl;iterate 4 (first|(exact CallForm.plain rfl)|exact aC))|(with_reducible apply And.intro)|exact aG|fail)
 ((first|apply ret_mk []|apply end_mk []);(· exact aR);(· exact aZ);all_goals exact aF)
end Go.Proofs.YtacfbiegbdlldaaGreatDoor.Sim
end
