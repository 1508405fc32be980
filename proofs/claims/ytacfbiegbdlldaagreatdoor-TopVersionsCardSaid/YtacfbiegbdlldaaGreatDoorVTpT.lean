/- A word is decoded. -/
import Derived.Test.YtacfbiegbdlldaaGreatDoorVTpP
import Derived.Test.YtacfbiegbdlldaaGreatDoorVTpJ
import Derived.Test.YtacfbiegbdlldaaGreatDoorVSimLq
section
namespace Go.Proofs.YtacfbiegbdlldaaGreatDoor.Sim
open Go Go.RowKit Go.Deep
open Go.Proofs.YtacfbiegbdlldaaGreatDoor.Tw (WCell kn kn_len kn_all kn_next)
set_option maxRecDepth 100000
set_option maxHeartbeats 4000000
set_option linter.unusedVariables false
set_option linter.unusedSimpArgs false
attribute [local irreducible] Go Mean
def powN (p x:Int):Nat→Int
 |0=>1
 |n+1=>powN p x n*x % p
def powL (p x:Int) (n:Nat):List Int:=(List.range n).map (powN p x)
theorem powL_len {p x:Int} {n:Nat}:(powL p x n).length=n:=by simp [powL]
theorem powL_next {p x:Int} {n:Nat}:powL p x (n+1)=powL p x n++[powN p x n]:=by simp [powL,List.range_succ]
theorem powL_take {p x:Int} {n m:Nat} (h:m≤n):(powL p x n).take m=powL p x m:=by
 simp [powL,← List.map_take,List.take_range,Nat.min_eq_left h]
theorem powL_get {p x:Int} {n i:Nat} (h:i<n):(powL p x n).getD i 0=powN p x i:=by simp [powL,List.getD_eq_getElem?_getD,h]
theorem powN_in {p x:Int} (hp:2≤p):∀ n,0≤powN p x n∧powN p x n<p
 |0=>⟨by simp [powN],by simp [powN];omega⟩
 |n+1=>⟨Int.emod_nonneg _ (by omega),Int.emod_lt_of_pos _ (by omega)⟩
def negM (p y t:Int):Int:=(0-y*t % p+p) % p
def keyL (p:Int) (m w:Nat) (x:Nat × Int):List Int:=powL p x.1 m++(powL p x.1 w).map (negM p x.2)
def keyB (p:Int) (w:Nat) (x:Nat × Int):Int:=x.2*powN p x.1 w % p
def keyC (p:Int) (m w:Nat) (l:List (Nat × Int)):List Int:=l.flatMap (keyL p m w)
def keyR (p:Int) (w:Nat) (l:List (Nat × Int)):List Int:=l.map (keyB p w)
theorem keyC_snoc {p:Int} {m w:Nat} {l:List (Nat × Int)} {x:Nat × Int}:keyC p m w (l++[x])=keyC p m w l++keyL p m w x:=by simp [keyC]
theorem keyR_snoc {p:Int} {w:Nat} {l:List (Nat × Int)} {x:Nat × Int}:keyR p w (l++[x])=keyR p w l++[keyB p w x]:=by simp [keyR]
theorem keyL_len {p:Int} {m w:Nat} {x:Nat × Int}:(keyL p m w x).length=m+w:=by simp [keyL,powL_len]
theorem keyC_len {p:Int} {m w:Nat}:∀ {l:List (Nat × Int)},(keyC p m w l).length=l.length*(m+w)
 |[]=>by simp [keyC]
 |x :: r=>by
  have ih:=keyC_len (p:=p) (m:=m) (w:=w) (l:=r)
  simp only[keyC,List.flatMap_cons,List.length_append,keyL_len,List.length_cons] at ih ⊢
  rw[ih,Nat.succ_mul,Nat.add_comm]
theorem negs_next {p x y:Int} {w i:Nat} (h:i<w):((powL p x w).take (i+1)).map (negM p y)=((powL p x w).take i).map (negM p y)++[negM p y (powN p x i)]:=by
 rw[powL_take (by omega),powL_take (by omega),powL_next,List.map_append];rfl
theorem keyT (p:Int) (l:List WCell) (k w:Nat) (hf:fieldB p=true) (hl:WordIn p l) (h1:1≤k) (h2:k≤(kn 0 l).length) (hw:k+2*w≤32) (ho:FillOK p l k) :
  Does Tryz.prog 121 [.ag [I p],.d (dCells l),I k,I w] [] (.tu [.ag [I p,I (kn 0 l).length,I (k+2*w:Nat),.og 1000000 0,.og 1000001 0],I 0]) [] [.arr 0 1 true ((keyC p (k+w) w (kn 0 l)).map eI),.arr 0 1 true ((keyR p w (kn 0 l)).map eI)]:=by
 refine G89' rfl BxOK.nil fun cx hm0=>go_in 5000 ?_
 unfold A89' R89'
 have hp:=(fieldB_iff.1 hf).1
 have hp2:=(fieldB_iff.1 hf).2.1
 have e1:=fillT p l k hf hl h1 h2 ho
 have hll:=hl.len
 have hlp:=hl.lp
 have q1:decide ((w:Int)<0)=false:=df (by omega)
 have q2:decide ((32:Int)<(w:Int))=false:=df (by omega)
 have w1:IntKind.i64.wrap (2*(w:Int))=((2*w:Nat):Int):=by rw[i6 _ (by omega)];omega
 have w2:IntKind.i64.wrap ((k:Int)+((2*w:Nat):Int))=((k+2*w:Nat):Int):=by rw[i6 _ (by omega)];omega
 have q3:decide ((32:Int)<((k+2*w:Nat):Int))=false:=df (by omega)
 have w3:IntKind.i64.wrap ((k:Int)+(w:Int))=((k+w:Nat):Int):=by rw[i6 _ (by omega)];omega
 have w4:IntKind.i64.wrap (((k+w:Nat):Int)+1)=((k+w+1:Nat):Int):=by rw[i6 _ (by omega)];omega
 repeat' (first|simp (maxSteps:=9999999) only[↓GE,PL,PP,EE,QQ,seval,q1,q2,q3,w1,w2,lm]|(simp (disch:=omega) only[i6])|(apply go_brD<;>intro h)|(apply go_gsD aE<;>intro h)|(apply go_br<;>intro h)|(apply go_gs aE<;>intro h)|(apply go_call 5000 (e1) rfl rfl;iterate 4 (first|(exact CallForm.news rfl rfl)|exact aC))|(with_reducible apply And.intro)|exact aG|fail)
 refine go_loopz 5000 hm0 (ι:={q:Nat × Nat × Nat // q.1≤l.length}) (fun q=>[(1,.d (dCells l)),(2,I k),(3,I w),(8,.bp 8 0 0),(9,I 0),(12,I p),(13,.bp 13 0 0),(57,.d (dCells l)),(58,I l.length),(59,I q.1.1)])
  (fun q=>[(8,.box 0 [I 0,I 0,I 0,.nl 1,.nl 1]),(13,.box 0 [I p,I (kn 0 (l.take q.1.1)).length,I (k+2*w:Nat),.og 90 q.1.2.1,.og 124 q.1.2.2]),(90,.arr q.1.2.1 1 true ((keyC p (k+w) w (kn 0 (l.take q.1.1))).map eI)),(124,.arr q.1.2.2 1 true ((keyR p w (kn 0 (l.take q.1.1))).map eI))]) (fun q=>l.length-q.1.1) [] [90,124] ⟨(0,0,0),Nat.zero_le _⟩ ?_ ?_
 ·simp only[GeZ];(simp only[GeS];refine⟨?_,?_,?_,?_⟩;all_goals (repeat' (first|(with_reducible exact True.intro)|(with_reducible rfl)|simp only[XC,↓reduceIte,seval]|(with_reducible apply And.intro)|(refine⟨_,rfl,?_⟩)|(simp [kn,keyC,keyR];done)|exact aS|fail)))
 ·rintro⟨⟨j,vc,vr⟩,hj⟩
  simp only at hj ⊢
  by_cases hjl:j<l.length
  ·have r1:decide ((j:Int)<(l.length:Int))=true:=dt (by omega)
   have u1:IntKind.i64.wrap ((j:Int)+1)=((j+1:Nat):Int):=by rw[i6 _ (by omega)];omega
   have hnx:=kn_next hjl
   have hle:=kn_len 0 (l.take j)
   rw[List.length_take] at hle
   have hs:=getD_map eC [] ⟨0,false⟩ l j hjl
   have hg:l.getD j ⟨0,false⟩=l[j]:=by simp [List.getD_eq_getElem?_getD,hjl]
   rw[hg] at hs
   have hin:=hl.el l[j] (List.getElem_mem hjl)
   generalize l[j]=c at hs hnx hin
   obtain⟨y,ck⟩:=c
   simp only at hin hnx
   generalize kn 0 (l.take j)=K at *
   cases ck with
   |false =>
    repeat' (first|simp (maxSteps:=9999999) only[↓GE,PL,PP,EE,QQ,seval,r1,u1,hs,hjl,eC,lm]|(simp (disch:=omega) only[i6])|(apply go_brD<;>intro h)|(apply go_gsD aE<;>intro h)|(apply go_br<;>intro h)|(apply go_gs aE<;>intro h)|(with_reducible apply And.intro)|exact aG|fail)
    simp only[Bool.false_eq_true,if_false,List.append_nil] at hnx
    refine⟨[],[],⟨(j+1,vc,vr),hjl⟩,?_,by simp only;omega⟩
    simp only[GeZ];(simp only[GeS];refine⟨?_,?_,?_,?_⟩;all_goals (repeat' (first|(with_reducible exact True.intro)|(with_reducible rfl)|simp only[XC,↓reduceIte,seval]|(with_reducible apply And.intro)|(refine⟨_,rfl,?_⟩)|(simp [hnx];done)|exact aS|fail)))
   |true =>
    simp only[if_true] at hnx
    have u2:IntKind.i64.wrap ((K.length:Int)+1)=((K.length+1:Nat):Int):=by rw[i6 _ (by omega)];omega
    have hx:(0:Int)≤((j+1:Nat):Int)∧((j+1:Nat):Int)<p:=by omega
    repeat' (first|simp (maxSteps:=9999999) only[↓GE,PL,PP,EE,QQ,seval,r1,u1,w3,w4,hs,hjl,eC,lm]|(simp (disch:=omega) only[i6])|(apply go_brD<;>intro h)|(apply go_gsD aE<;>intro h)|(apply go_br<;>intro h)|(apply go_gs aE<;>intro h)|(with_reducible apply And.intro)|exact aG|fail)
    generalize hxx:((j+1:Nat):Int)=x at *
    refine go_loopq 5000 hm0 (ι:={q:Nat × Nat // q.1≤k+w+1}) (fun q=>[(1,.d (dCells l)),(2,I k),(3,I w),(8,.bp 8 0 0),(9,I 0),(12,I p),(13,.bp 13 0 0),(14,I j),(15,.bp 15 0 0),(16,I (powN p x q.1.1)),(17,.og 76 q.1.2),(57,.d (dCells l)),(58,I l.length),(59,I j),(70,I (k+w+1:Nat)),(71,I q.1.1)])
     (fun q=>[(8,.box 0 [I 0,I 0,I 0,.nl 1,.nl 1]),(13,.box 0 [I p,I K.length,I (k+2*w:Nat),.og 90 vc,.og 124 vr]),(15,.box 0 [I y,B true]),(90,.arr vc 1 true ((keyC p (k+w) w K).map eI)),(124,.arr vr 1 true ((keyR p w K).map eI)),(76,.arr q.1.2 1 true ((powL p x q.1.1).map eI))]) (fun q=>k+w+1-q.1.1) [] [76] ⟨(0,0),Nat.zero_le _⟩ ?_ ?_
    ·simp only[GeZ];(simp only[GeS];refine⟨?_,?_,?_,?_⟩;all_goals (repeat' (first|(with_reducible exact True.intro)|(with_reducible rfl)|simp only[XC,↓reduceIte,seval]|(with_reducible apply And.intro)|(refine⟨_,rfl,?_⟩)|(simp [powN,powL];done)|exact aS|fail)))
    ·rintro⟨⟨i,v⟩,hi⟩
     simp only at hi ⊢
     by_cases hik:i<k+w+1
     ·have s1:decide ((i:Int)<((k+w+1:Nat):Int))=true:=dt (by omega)
      have u3:IntKind.i64.wrap ((i:Int)+1)=((i+1:Nat):Int):=by rw[i6 _ (by omega)];omega
      have f1:=fmul p (powN p x i) x (by omega) hp2 (powN_in hp i) hx
      have hpn:powN p x i*x % p=powN p x (i+1):=rfl
      rw[hpn] at f1
      repeat' (first|simp (maxSteps:=9999999) only[↓GE,PL,PP,EE,QQ,seval,s1,u1,u3,powL_len,eI,lm]|(simp (disch:=omega) only[i6])|(apply go_brD<;>intro h)|(apply go_gsD aE<;>intro h)|(apply go_br<;>intro h)|(apply go_gs aE<;>intro h)|(apply go_call 5000 (f1) rfl rfl;iterate 4 (first|(exact CallForm.plain rfl)|exact aC))|(with_reducible apply And.intro)|exact aG|fail)
      refine⟨[],[],⟨(i+1,v+1),hik⟩,?_,by simp only;omega⟩
      simp only[GeZ];(simp only[GeS];refine⟨?_,?_,?_,?_⟩;all_goals (repeat' (first|(with_reducible exact True.intro)|(with_reducible rfl)|simp only[XC,↓reduceIte,seval]|(with_reducible apply And.intro)|(refine⟨_,rfl,?_⟩)|(simp [powL_next,eI];done)|exact aS|fail)))
     ·obtain rfl:i=k+w+1:=by omega
      have s1:decide (((k+w+1:Nat):Int)<((k+w+1:Nat):Int))=false:=df (by omega)
      repeat' (first|simp (maxSteps:=9999999) only[↓GE,PL,PP,EE,QQ,seval,s1]|(simp (disch:=omega) only[i6])|(apply go_brD<;>intro h)|(apply go_gsD aE<;>intro h)|(apply go_br<;>intro h)|(apply go_gs aE<;>intro h)|(with_reducible apply And.intro)|exact aG|fail)
      have hP:powL p x (k+w+1)=powL p x (k+w+1):=rfl
      have ht1:((powL p x (k+w+1)).map eI).take (k+w)=(powL p x (k+w)).map eI:=by rw[← List.map_take,powL_take (by omega)]
      have ht2:((powL p x (k+w+1)).map eI).take w=(powL p x w).map eI:=by rw[← List.map_take,powL_take (by omega)]
      have hk2:k+w≤(powL p x (k+w+1)).length:=by rw[powL_len];omega
      have hk3:w≤(powL p x (k+w+1)).length:=by rw[powL_len];omega
      have hkC:(keyC p (k+w) w K).length≤32*32:=by
       rw[keyC_len]
       exact Nat.mul_le_mul (by omega) (by omega)
      refine go_blkMeet 5000 hm0 [.og 76 v] [] [(1,.d (dCells l)),(2,I k),(3,I w),(8,.bp 8 0 0),(9,I 0),(12,I p),(13,.bp 13 0 0),(14,I j),(15,.bp 15 0 0),(17,.d (dInts (powL p x (k+w+1)))),(57,.d (dCells l)),(58,I l.length),(59,I j)]
       [(8,.box 0 [I 0,I 0,I 0,.nl 1,.nl 1]),(13,.box 0 [I p,I K.length,I (k+2*w:Nat),.og 90 vc,.og 124 vr]),(15,.box 0 [I y,B true]),(90,.arr vc 1 true ((keyC p (k+w) w K).map eI)),(124,.arr vr 1 true ((keyR p w K).map eI))] ?_ ?_
      ·simp only[GeZ];exact aH
      ·repeat' (first|simp (maxSteps:=9999999) only[↓GE,PL,PP,EE,QQ,seval,w3,ht1,ht2,hk2,hk3,powL_len,lm]|(simp (disch:=omega) only[i6])|(apply go_brD<;>intro h)|(apply go_gsD aE<;>intro h)|(apply go_br<;>intro h)|(apply go_gs aE<;>intro h)|(with_reducible apply And.intro)|exact aG|fail)
       refine go_loopz 5000 hm0 (ι:={q:Nat × Nat // q.1≤w}) (fun q=>[(1,.d (dCells l)),(2,I k),(3,I w),(8,.bp 8 0 0),(9,I 0),(12,I p),(13,.bp 13 0 0),(14,I j),(15,.bp 15 0 0),(17,.d (dInts (powL p x (k+w+1)))),(57,.d (dCells l)),(58,I l.length),(59,I j),(94,.d (dInts (powL p x w))),(95,I w),(96,I q.1.1)])
        (fun q=>[(8,.box 0 [I 0,I 0,I 0,.nl 1,.nl 1]),(13,.box 0 [I p,I K.length,I (k+2*w:Nat),.og 90 q.1.2,.og 124 vr]),(15,.box 0 [I y,B true]),(90,.arr q.1.2 1 true ((keyC p (k+w) w K++(powL p x (k+w)++((powL p x w).take q.1.1).map (negM p y))).map eI)),(124,.arr vr 1 true ((keyR p w K).map eI))]) (fun q=>w-q.1.1) [] [] ⟨(0,vc+1),Nat.zero_le _⟩ ?_ ?_
       ·simp only[GeZ];(simp only[GeS];refine⟨?_,?_,?_,?_⟩;all_goals (repeat' (first|(with_reducible exact True.intro)|(with_reducible rfl)|simp only[XC,↓reduceIte,seval]|(with_reducible apply And.intro)|(refine⟨_,rfl,?_⟩)|(simp [List.map_append];done)|exact aS|fail)))
       ·rintro⟨⟨i,v2⟩,hi2⟩
        simp only at hi2 ⊢
        by_cases hiw:i<w
        ·have s2:decide ((i:Int)<(w:Int))=true:=dt (by omega)
         have u3:IntKind.i64.wrap ((i:Int)+1)=((i+1:Nat):Int):=by rw[i6 _ (by omega)];omega
         have hs2:=getD_map eI [] 0 (powL p x w) i (by rw[powL_len];exact hiw)
         rw[powL_get hiw] at hs2
         have hnn:=negs_next (p:=p) (x:=x) (y:=y) hiw
         have hnl:(((powL p x w).take i).map (negM p y)).length=i:=by rw[lm,List.length_take,powL_len];omega
         have hpb:=powN_in (x:=x) hp i
         have f1:=fmul p y (powN p x i) (by omega) hp2 hin hpb
         have f2:=fsub p 0 (y*powN p x i % p) (by omega) hp2 ⟨by omega,by omega⟩ ⟨Int.emod_nonneg _ (by omega),Int.emod_lt_of_pos _ (by omega)⟩
         have hng:(0-y*powN p x i % p+p) % p=negM p y (powN p x i):=rfl
         rw[hng] at f2
         generalize ((powL p x w).take i).map (negM p y)=NG at *
         have hlA:(List.map eI (keyC p (k+w) w K++(powL p x (k+w)++NG))).length=(keyC p (k+w) w K).length+(k+w+i):=by rw[lm,List.length_append,List.length_append,powL_len,hnl]
         repeat' (first|simp (maxSteps:=9999999) only[↓GE,PL,PP,EE,QQ,seval,s2,u3,hs2,hiw,hlA,powL_len,eI,lm]|(simp (disch:=omega) only[i6])|(apply go_brD<;>intro h)|(apply go_gsD aE<;>intro h)|(apply go_br<;>intro h)|(apply go_gs aE<;>intro h)|(apply go_call 5000 (f1) rfl rfl;iterate 4 (first|(exact CallForm.plain rfl)|exact aC))|(apply go_call 5000 (f2) rfl rfl;iterate 4 (first|(exact CallForm.plain rfl)|exact aC))|(with_reducible apply And.intro)|exact aG|fail)
         refine⟨[],[],⟨(i+1,v2+1),hiw⟩,?_,by simp only;omega⟩
         simp only[GeZ];(simp only[GeS];refine⟨?_,?_,?_,?_⟩;all_goals (repeat' (first|(with_reducible exact True.intro)|(with_reducible rfl)|simp only[XC,↓reduceIte,seval]|(with_reducible apply And.intro)|(refine⟨_,rfl,?_⟩)|(simp [hnn,eI,List.map_append,List.append_assoc];done)|exact aS|fail)))
        ·obtain rfl:i=w:=by omega
         have s2:decide ((i:Int)<(i:Int))=false:=df (by omega)
         have hs2:=getD_map eI [] 0 (powL p x (k+i+1)) i (by rw[powL_len];omega)
         rw[powL_get (by omega)] at hs2
         have hpb:=powN_in (x:=x) hp i
         have f1:=fmul p y (powN p x i) (by omega) hp2 hin hpb
         have hkb:y*powN p x i % p=keyB p i (j+1,y):=by rw[keyB,hxx]
         rw[hkb] at f1
         have hlw:i<(powL p x (k+i+1)).length:=by rw[powL_len];omega
         have hKR:(keyR p i K).length=K.length:=by simp [keyR]
         have htk:(powL p x i).take i=powL p x i:=powL_take (Nat.le_refl _)
         have hkk:keyC p (k+i) i K++(powL p x (k+i)++((powL p x i).take i).map (negM p y))=keyC p (k+i) i (K++[(j+1,y)]):=by rw[keyC_snoc,keyL,htk,hxx]
         rw[hkk]
         have u1':IntKind.i64.wrap ((j:Int)+1)=((j+1:Nat):Int):=by rw[hxx];exact u1
         clear u1
         repeat' (first|simp (maxSteps:=9999999) only[↓GE,PL,PP,EE,QQ,seval,s2,u1',u2,hs2,hlw,hKR,powL_len,eI,lm]|(simp (disch:=omega) only[i6])|(apply go_brD<;>intro h)|(apply go_gsD aE<;>intro h)|(apply go_br<;>intro h)|(apply go_gs aE<;>intro h)|(apply go_call 5000 (f1) rfl rfl;iterate 4 (first|(exact CallForm.plain rfl)|exact aC))|(with_reducible apply And.intro)|exact aG|fail)
         refine⟨[],[],⟨(j+1,v2,vr+1),hjl⟩,?_,by simp only;omega⟩
         simp only[GeZ];(simp only[GeS];refine⟨?_,?_,?_,?_⟩;all_goals (repeat' (first|(with_reducible exact True.intro)|(with_reducible rfl)|simp only[XC,↓reduceIte,seval]|(with_reducible apply And.intro)|(refine⟨_,rfl,?_⟩)|(simp [hnx,keyR_snoc,eI];done)|exact aS|fail)))
  ·obtain rfl:j=l.length:=by omega
   have r1:decide ((l.length:Int)<(l.length:Int))=false:=df (by omega)
   rw[List.take_length]
   repeat' (first|simp (maxSteps:=9999999) only[↓GE,PL,PP,EE,QQ,seval,r1]|(simp (disch:=omega) only[i6])|(apply go_brD<;>intro h)|(apply go_gsD aE<;>intro h)|(apply go_br<;>intro h)|(apply go_gs aE<;>intro h)|(with_reducible apply And.intro)|exact aG|fail)
   ((first|apply ret_mk [some 90,some 124]|apply end_mk [some 90,some 124]);(· exact aR);(· exact aZ);all_goals exact aF)
end Go.Proofs.YtacfbiegbdlldaaGreatDoor.Sim
end
section
namespace Go.Proofs.YtacfbiegbdlldaaGreatDoor.Sim
open Go Go.RowKit Go.Deep
open Go.Proofs.YtacfbiegbdlldaaGreatDoor.Tw (WCell kn kn_len kn_all kn_next)
set_option maxRecDepth 100000
set_option maxHeartbeats 4000000
set_option linter.unusedVariables false
set_option linter.unusedSimpArgs false
theorem eq_nil (w:World) (t:TypeId) (fs:Array (String × TypeId)) (u:TypeId) (v:Value) (ht:Tryz.prog.underlying t=some (.interface fs)):(binOp .eql t .nilIface (.iface u v)).run Tryz.prog w=.ok (.bool false) w:=by
 have he:(Op.equalIn Op.maxDepth t .nilIface (.iface u v)).run Tryz.prog w=.ok false w:=by
  show (Op.equalIn (9999+1) t .nilIface (.iface u v)).run Tryz.prog w=.ok false w
  unfold Op.equalIn
  simp [run_underlying ht]
 simp [binOp,Op.equal,he]
theorem is_nil (w:World):Calls Tryz.prog 102 #[.nilIface,GLV] w fun e w'=>e=.returned (.bool false)∧w=w':=by
 unfold GLV
 go_enter Tryz.func102,Tryz.ntmps102
 go_wp2_with (rw[eq_nil _ _ _ _ _ Tryz.underlying178])
 go_ret
 exact⟨rfl,rfl⟩
theorem isNil:Does Tryz.prog 102 [.d (.at .nilIface),.d (.at GLV)] [] (B false) [] []:=by
 refine does_at (r:=.bool false) rfl fun w m hd S us hS hv=>?_
 simp only[VRs,VR,D.is] at hv
 obtain⟨u1,r1,rfl,⟨rfl,-⟩,u2,r2,rfl,⟨rfl,-⟩,rfl⟩:=hv
 refine (is_nil w).mono ?_
 rintro e w' ⟨rfl,rfl⟩
 exact⟨rfl,Below.refl _ _⟩
attribute [local irreducible] Go Mean GLV
theorem numberNil:Does Tryz.prog 103 [.d (.at .nilIface)] [] (I 0) [] []:=by
 refine G80' rfl BxOK.nil fun cx hm0=>go_in 5000 ?_
 unfold A80' R80'
 repeat' (first|simp (maxSteps:=9999999) only[↓GE,PL,PP,EE,QQ,seval]|(simp (disch:=omega) only[i6])|(apply go_brD<;>intro h)|(apply go_gsD aE<;>intro h)|(apply go_br<;>intro h)|(apply go_gs aE<;>intro h)|(with_reducible apply And.intro)|exact aG|fail)
 all_goals ((first|apply ret_mk []|apply end_mk []);(· exact aR);(· exact aZ);all_goals exact aF)
section
variable (p:Int) (l:List WCell) (k:Nat)
def decW:Nat:=((kn 0 l).length-k) / 2
def decS:List (List Int) × Nat × List Int:=solveN p (kn 0 l).length (k+2*decW l k) (keyC p (k+decW l k) (decW l k) (kn 0 l)) (keyR p (decW l k) (kn 0 l))
def decX:List Int:=solF (k+2*decW l k) (decS p l k)
def decD:List Int × List Int:=divF p ((decX p l k).take (k+decW l k)) ((decX p l k).drop (k+decW l k)++[1])
def decP:List Int:=trimF (decD p l k).2
structure DecOK:Prop where
 fill:FillOK p l k
 ok:okZ (k+2*decW l k) ((decS p l k).1.drop (decS p l k).2.1)=true
 rest:trimF (decD p l k).1=[]
 len:(decP p l k).length≤k
 wrong:(wrN p (decP p l k) 0 l).length≤decW l k
end
theorem keyL_in {p:Int} (hp:2≤p) {m w:Nat} {x:Nat × Int}:(keyL p m w x).all (inE p)=true:=by
 have h:∀ n,(powL p (x.1:Int) n).all (inE p)=true:=fun n=>by
  rw[List.all_eq_true]
  intro y hy
  simp only[powL,List.mem_map] at hy
  obtain⟨i,_,rfl⟩:=hy
  simpa [inE] using powN_in hp i
 unfold keyL
 rw[List.all_append,h,List.all_map,List.all_eq_true.2]
 ·rfl
 ·intro y hy
  have h1:=Int.emod_nonneg (0-x.2*y % p+p) (show p ≠ 0 by omega)
  have h2:=Int.emod_lt_of_pos (0-x.2*y % p+p) (show 0<p by omega)
  simp only[inE,negM,Function.comp,Bool.and_eq_true];exact⟨dt h1,dt h2⟩
theorem keyC_in {p:Int} (hp:2≤p) {m w:Nat} {l:List (Nat × Int)}:(keyC p m w l).all (inE p)=true:=by
 unfold keyC
 rw[List.all_flatMap,List.all_eq_true]
 exact fun x _=>keyL_in hp
theorem keyR_in {p:Int} (hp:2≤p) {w:Nat} {l:List (Nat × Int)}:(keyR p w l).all (inE p)=true:=by
 rw[List.all_eq_true]
 intro y hy
 simp only[keyR,List.mem_map] at hy
 obtain⟨x,_,rfl⟩:=hy
 have h1:=Int.emod_nonneg (x.2*powN p x.1 w) (show p ≠ 0 by omega)
 have h2:=Int.emod_lt_of_pos (x.2*powN p x.1 w) (show 0<p by omega)
 simp only[inE,keyB,Bool.and_eq_true];exact⟨dt h1,dt h2⟩
theorem solF_in {p:Int} {c:Nat} (hp:1≤p) {s:List (List Int) × Nat × List Int} (h:RowsC p c s.1):(solF c s).all (inE p)=true:=by
 rw[List.all_eq_true]
 intro y hy
 simp only[solF,List.mem_map,List.mem_range] at hy
 obtain⟨i,hi,rfl⟩:=hy
 unfold solAt
 split
 ·rw[List.getD_eq_getElem?_getD (l:=s.1)]
  cases hr:s.1[(s.2.2.getD i 0-1).toNat]? with
  |none=>simp [inE];omega
  |some r =>
   have:=h r (List.mem_of_getElem? hr)
   have hc:=all_getD this.2 (i:=c) (by omega)
   simpa [inE] using hc
 ·simp [inE];omega
theorem trimN_last {l:List Int} {x:Int} (hx:x ≠ 0):trimF (l++[x])=l++[x]:=by
 unfold trimF
 rw[List.length_append,List.length_singleton,trimN]
 rw[if_neg (by simp [List.getD_eq_getElem?_getD];exact hx)]
 rw[List.take_of_length_le (by simp)]
theorem divN_in {p by_:Int} {b:List Int} (hp:1≤p):∀ (f:Nat) (rest quot:List Int),quot.all (inE p)=true→(divN p by_ b f rest quot).2.all (inE p)=true
 |0,_,_,h=>h
 |f+1,rest,quot,h=>by
  rw[divN]
  split
  ·refine divN_in hp f _ _ ?_
   rw[List.all_eq_true] at h ⊢
   intro x hx
   rcases List.mem_or_eq_of_mem_set hx with h1|rfl
   ·exact h x h1
   ·have h1:=Int.emod_nonneg (rest.getD (rest.length-1) 0*by_) (show p ≠ 0 by omega)
    have h2:=Int.emod_lt_of_pos (rest.getD (rest.length-1) 0*by_) (show 0<p by omega)
    simp only[inE,divQ,Bool.and_eq_true];exact⟨dt h1,dt h2⟩
  ·exact h
theorem divF_in {p:Int} {a b:List Int} (hp:1≤p):(divF p a b).2.all (inE p)=true:=by
 unfold divF
 refine divN_in hp _ _ _ ?_
 rw[List.all_eq_true]
 intro x hx
 rw[List.eq_of_mem_replicate hx]
 simp [inE];omega
theorem decodeT (p:Int) (l:List WCell) (k:Nat) (hf:fieldB p=true) (hl:WordIn p l) (h1:1≤k) (h2:k≤(kn 0 l).length) (ho:DecOK p l k) :
  Does Tryz.prog 101 [.ag [I p],.d (dCells l),I k] [] (.tu [.ag [.d (dInts (decP p l k)),.d (dInts (wrN p (decP p l k) 0 l))],.d (.at .nilIface)]) [] []:=by
 refine G79' rfl BxOK.nil fun cx hm0=>go_in 5000 ?_
 unfold A79' R79'
 have hp:=(fieldB_iff.1 hf).1
 have hp2:=(fieldB_iff.1 hf).2.1
 have hkn:=kn_len 0 l
 have hll:=hl.len
 have e1:=fillT p l k hf hl h1 h2 ho.fill
 have e2:=countT l (by omega)
 have e3:=radius (kn 0 l).length k h1 h2 (by omega)
 have hw:((kn 0 l).length-k) / 2=decW l k:=rfl
 rw[hw] at e3
 have hw2:k+2*decW l k≤(kn 0 l).length:=by unfold decW;omega
 have e4:=keyT p l k (decW l k) hf hl h1 h2 (by omega) ho.fill
 have e5:=solveT p (kn 0 l).length (k+2*decW l k) (keyC p (k+decW l k) (decW l k) (kn 0 l)) (keyR p (decW l k) (kn 0 l)) hf (by omega) (by omega) (by omega) (by rw[keyC_len];congr 1;omega) (by simp [keyR]) (keyC_in hp) (keyR_in hp) ho.ok
 have hR0:=rowsT_rows (p:=p) (n:=(kn 0 l).length) (c:=k+2*decW l k) (vals:=keyC p (k+decW l k) (decW l k) (kn 0 l)) (right:=keyR p (decW l k) (kn 0 l)) (by rw[keyC_len];congr 1;omega) (by simp [keyR]) (keyC_in hp) (keyR_in hp)
 have hsi:(decX p l k).all (inE p)=true:=solF_in (by omega) (redN_ok (k:=k+2*decW l k) hf hR0).2.1
 have hsx:solF (k+2*decW l k) (solveN p (kn 0 l).length (k+2*decW l k) (keyC p (k+decW l k) (decW l k) (kn 0 l)) (keyR p (decW l k) (kn 0 l)))=decX p l k:=rfl
 rw[hsx] at e5
 unfold argR at e5
 have hxl:(decX p l k).length=k+2*decW l k:=by simp [decX,solF]
 have hkC:(keyC p (k+decW l k) (decW l k) (kn 0 l))=keyC p (k+decW l k) (decW l k) (kn 0 l):=rfl
 have hD:divF p ((decX p l k).take (k+decW l k)) ((decX p l k).drop (k+decW l k)++[1])=decD p l k:=rfl
 have ho3:=ho.rest
 have ho4:=ho.len
 have ho5:=ho.wrong
 have hdl:((decX p l k).drop (k+decW l k)).length=decW l k:=by rw[List.length_drop];omega
 have htl:((decX p l k).take (k+decW l k)).length=k+decW l k:=by rw[List.length_take];omega
 have htr:trimF ((decX p l k).drop (k+decW l k)++[1])=(decX p l k).drop (k+decW l k)++[1]:=trimN_last (by decide)
 have e6:=cloneInts ((decX p l k).drop (k+decW l k)) (by omega)
 have e7:=divideT p ((decX p l k).take (k+decW l k)) ((decX p l k).drop (k+decW l k)++[1]) hf (take_in hsi) (by rw[List.all_append,List.all_eq_true.2 fun x hx=>List.all_eq_true.1 hsi x (List.mem_of_mem_drop hx)];simp [inE];omega) (by omega) (by rw[List.length_append,hdl];simp;omega) (by rw[htr];simp) (by rw[htr];simp [List.getD_eq_getElem?_getD,hdl])
 rw[hD] at e7
 have hP:trimF (decD p l k).2=decP p l k:=rfl
 rw[hP,ho3] at e7
 have hpi:(decP p l k).all (inE p)=true:=trimF_in (divF_in (by omega))
 have e8:=wrongsT p l (decP p l k) hf hl hpi (by omega)
 generalize decP p l k=f at *
 generalize decX p l k=x at *
 generalize decW l k=r at *
 generalize hkc:keyC p (k+r) r (kn 0 l)=C at *
 generalize hkr:keyR p r (kn 0 l)=R at *
 have hmt:∀ n,(x.map eI).take n=(x.take n).map eI:=fun n=>List.map_take.symm
 have hmd:∀ n,(x.map eI).drop n=(x.drop n).map eI:=fun n=>List.map_drop.symm
 have w1:IntKind.i64.wrap ((k:Int)+(r:Int))=((k+r:Nat):Int):=by rw[i6 _ (by omega)];omega
 have q1:decide ((k:Int)<(f.length:Int))=false:=df (by omega)
 have q2:decide ((r:Int)<((wrN p f 0 l).length:Int))=false:=df (by omega)
 have htx:x.take (k+2*r)=x:=List.take_of_length_le (by omega)
 have hloc:dInts (x.drop (k+r)++[1])=D.sl 1 ((x.drop (k+r)).map eI++[[D.at (Value.int IntKind.i64 1)]]):=by simp [eI]
 rw[hloc] at e7
 repeat' (first|simp (maxSteps:=9999999) only[↓GE,PL,PP,EE,QQ,seval,w1,q1,q2,htx,hmt,hmd,hxl,lm]|(simp (disch:=omega) only[i6])|(apply go_brD<;>intro h)|(apply go_gsD aE<;>intro h)|(apply go_br<;>intro h)|(apply go_gs aE<;>intro h)|(apply go_call 5000 (e1) rfl rfl;iterate 4 (first|(exact CallForm.news rfl rfl)|exact aC))|(apply go_call 5000 (e2) rfl rfl;iterate 4 (first|(exact CallForm.plain rfl)|exact aC))|(apply go_call 5000 (e3) rfl rfl;iterate 4 (first|(exact CallForm.plain rfl)|exact aC))|(apply go_call 5000 (e4) rfl rfl;iterate 4 (first|(exact CallForm.news rfl rfl)|exact aC))|(apply go_call 5000 (e5) rfl rfl;iterate 4 (first|(exact CallForm.plain rfl)|exact aC))|(apply go_call 5000 (e6) rfl rfl;iterate 4 (first|(exact CallForm.news rfl rfl)|exact aC))|(apply go_call 5000 (e7) rfl rfl;iterate 4 (first|(exact CallForm.news rfl rfl)|exact aC))|(apply go_call 5000 (e8) rfl rfl;iterate 4 (first|(exact CallForm.plain rfl)|exact aC))|(with_reducible apply And.intro)|exact aG|fail)
 all_goals ((first|apply ret_mk []|apply end_mk []);(· exact aR);(· exact aZ);all_goals exact aF)
theorem decodeU (p:Int) (l:List WCell) (k:Nat) (hf:fieldB p=true) (hl:WordIn p l) (h1:1≤k) (h2:k≤(kn 0 l).length) (ho:DecOK p l k) :
  Does Tryz.prog 84 [.ag [I p],.d (dCells l),I k] [] (.tu [.ag [.d (dInts (decP p l k)),.d (dInts (wrN p (decP p l k) 0 l))],I 0]) [] []:=by
 refine G73' rfl BxOK.nil fun cx hm0=>go_in 5000 ?_
 unfold A73' R73'
 have e1:=decodeT p l k hf hl h1 h2 ho
 have hgl:GL.contains 0=true:=rfl
 repeat' (first|simp (maxSteps:=9999999) only[↓GE,PL,PP,EE,QQ,seval,hgl,if_true]|(simp (disch:=omega) only[i6])|(apply go_brD<;>intro h)|(apply go_gsD aE<;>intro h)|(apply go_br<;>intro h)|(apply go_gs aE<;>intro h)|(apply go_call 5000 (e1) rfl rfl;iterate 4 (first|(exact CallForm.plain rfl)|exact aC))|(apply go_call 5000 (isNil) rfl rfl;iterate 4 (first|(exact CallForm.plain rfl)|exact aC))|(apply go_call 5000 (numberNil) rfl rfl;iterate 4 (first|(exact CallForm.plain rfl)|exact aC))|(with_reducible apply And.intro)|exact aG|fail)
 all_goals ((first|apply ret_mk []|apply end_mk []);(· exact aR);(· exact aZ);all_goals exact aF)
end Go.Proofs.YtacfbiegbdlldaaGreatDoor.Sim
end
