/- Rows are decoded; which row is asked for. -/
import Derived.Test.YtacfbiegbdlldaaGreatDoorVTpM
import Derived.Test.YtacfbiegbdlldaaGreatDoorVLibI
import Derived.Test.YtacfbiegbdlldaaGreatDoorVTpT
section
namespace Go.Proofs.YtacfbiegbdlldaaGreatDoor.Sim
open Go Go.RowKit Go.Deep
set_option maxRecDepth 100000
set_option maxHeartbeats 4000000
set_option linter.unusedVariables false
set_option linter.unusedSimpArgs false
attribute [local irreducible] Go Mean
theorem isNaNT (x:Int):Does Tryz.prog 132 [I x] [] (B false) [] []:=by
 refine G93' rfl BxOK.nil fun cx hm0=>go_in 5000 ?_
 unfold A93' R93'
 have q:(x != x)=false:=by simp
 repeat' (first|simp (maxSteps:=9999999) only[↓GE,PL,PP,EE,QQ,seval,q]|(simp (disch:=omega) only[i6])|(apply go_brD<;>intro h)|(apply go_gsD aE<;>intro h)|(apply go_br<;>intro h)|(apply go_gs aE<;>intro h)|(with_reducible apply And.intro)|exact aG|fail)
 all_goals ((first|apply ret_mk []|apply end_mk []);(· exact aR);(· exact aZ);all_goals exact aF)
theorem lessT (x y:Int):Does Tryz.prog 112 [I x,I y] [] (B (decide (x<y))) [] []:=by
 refine G84' rfl BxOK.nil fun cx hm0=>go_in 5000 ?_
 unfold A84' R84'
 have e1:=isNaNT x
 repeat' (first|simp (maxSteps:=9999999) only[↓GE,PL,PP,EE,QQ,seval]|(simp (disch:=omega) only[i6])|(apply go_brD<;>intro h)|(apply go_gsD aE<;>intro h)|(apply go_br<;>intro h)|(apply go_gs aE<;>intro h)|(apply go_call 5000 (e1) rfl rfl;iterate 4 (first|(exact CallForm.plain rfl)|exact aC))|(with_reducible apply And.intro)|exact aG|fail)
 all_goals ((first|apply ret_mk []|apply end_mk []);(· exact aR);(· exact aZ);all_goals exact aF)
def swpL (l:List Int) (j:Nat):List Int:=(l.set (j+1) (l.getD j 0)).set j (l.getD (j+1) 0)
def sink:Nat→List Int→List Int
 |0,l=>l
 |j+1,l=>if l.getD (j+1) 0<l.getD j 0 then sink j (swpL l j) else l
theorem swpL_len {l:List Int} {j:Nat}:(swpL l j).length=l.length:=by simp [swpL]
theorem sink_len:∀ {j:Nat} {l:List Int},(sink j l).length=l.length
 |0,_=>rfl
 |j+1,l=>by
  rw[sink]
  split
  ·rw[sink_len,swpL_len]
  ·rfl
def sorts (l:List Int):Nat→List Int
 |0=>l
 |i+1=>sink (i+1) (sorts l i)
theorem sorts_len {l:List Int}:∀ {i:Nat},(sorts l i).length=l.length
 |0=>rfl
 |i+1=>by rw[sorts,sink_len,sorts_len]
theorem insertT (l:List Int) (hl:l.length≤1000) (hl1:1≤l.length):Does Tryz.prog 106 [.og 900000 0,I 0,I l.length] [(900000,.arr 0 1 true (l.map eI))] (.tu []) [(900000,.arr 0 1 true ((sorts l (l.length-1)).map eI))] []:=by
 refine G83' rfl ⟨rfl,by simp⟩ fun cx hm0=>go_in 5000 ?_
 unfold A83' R83'
 repeat' (first|simp (maxSteps:=9999999) only[↓GE,PL,PP,EE,QQ,seval]|(simp (disch:=omega) only[i6])|(apply go_brD<;>intro h)|(apply go_gsD aE<;>intro h)|(apply go_br<;>intro h)|(apply go_gs aE<;>intro h)|(with_reducible apply And.intro)|exact aG|fail)
 refine go_loop 5000 hm0 (ι:={i:Nat // i+1≤l.length}) (fun i=>[(0,.og 900000 0),(1,I 0),(2,I l.length),(6,I (i.1+1:Nat))]) (fun i=>[(900000,.arr 0 1 true ((sorts l i.1).map eI))]) (fun i=>l.length-i.1) [] ⟨0,hl1⟩ ?_ ?_
 ·(simp only[GeS];refine⟨?_,?_,?_,?_⟩;all_goals (repeat' (first|(with_reducible exact True.intro)|(with_reducible rfl)|simp only[XC,↓reduceIte,seval]|(with_reducible apply And.intro)|(refine⟨_,rfl,?_⟩)|(simp [sorts];done)|exact aS|fail)))
 ·rintro⟨i,hi⟩
  simp only
  have hsl:=sorts_len (l:=l) (i:=i)
  by_cases hil:i+1<l.length
  ·have q1:decide (((i+1:Nat):Int)<(l.length:Int))=true:=dt (by omega)
   have w1:IntKind.i64.wrap (((i+1:Nat):Int)+1)=((i+1+1:Nat):Int):=by rw[i6 _ (by omega)];omega
   repeat' (first|simp (maxSteps:=9999999) only[↓GE,PL,PP,EE,QQ,seval,q1,w1]|(simp (disch:=omega) only[i6])|(apply go_brD<;>intro h)|(apply go_gsD aE<;>intro h)|(apply go_br<;>intro h)|(apply go_gs aE<;>intro h)|(with_reducible apply And.intro)|exact aG|fail)
   refine go_loop 5000 hm0 (ι:={q:Nat × List Int // q.1≤i+1∧q.2.length=l.length∧sink q.1 q.2=sorts l (i+1)}) (fun q=>[(0,.og 900000 0),(1,I 0),(2,I l.length),(6,I (i+1:Nat)),(7,I q.1.1)]) (fun q=>[(900000,.arr 0 1 true (q.1.2.map eI))]) (fun q=>q.1.1) [] ⟨(i+1,sorts l i),Nat.le_refl _,hsl,rfl⟩ ?_ ?_
   ·exact aH
   ·rintro⟨⟨j,L⟩,hj,hL,hv⟩
    simp only at hj hL hv ⊢
    cases j with
    |zero =>
     simp only[sink] at hv
     have q2:decide ((0:Int)<((0:Nat):Int))=false:=rfl
     rw[hv]
     repeat' (first|simp (maxSteps:=9999999) only[↓GE,PL,PP,EE,QQ,seval,q2,w1]|(simp (disch:=omega) only[i6])|(apply go_brD<;>intro h)|(apply go_gsD aE<;>intro h)|(apply go_br<;>intro h)|(apply go_gs aE<;>intro h)|(with_reducible apply And.intro)|exact aG|fail)
     refine⟨⟨i+1,by omega⟩,?_,by simp only;omega⟩
     exact aH
    |succ j =>
     have q2:decide ((0:Int)<((j+1:Nat):Int))=true:=dt (by omega)
     have w2:IntKind.i64.wrap (((j+1:Nat):Int)-1)=(j:Int):=by rw[i6 _ (by omega)];omega
     have hs1:=getD_map eI [] 0 L (j+1) (by omega)
     have hs2:=getD_map eI [] 0 L j (by omega)
     have hl1':j+1<L.length:=by omega
     have hl2':j<L.length:=by omega
     have e1:=lessT (L.getD (j+1) 0) (L.getD j 0)
     rw[sink] at hv
     by_cases hlt:L.getD (j+1) 0<L.getD j 0
     ·rw[if_pos hlt] at hv
      rw[dt hlt] at e1
      have hsw:(swpL L j).map eI=((L.map eI).set (j+1) (eI (L.getD j 0))).set j (eI (L.getD (j+1) 0)):=by rw[swpL,List.map_set,List.map_set]
      have hs3:((L.map eI).set (j+1) [D.at (Value.int IntKind.i64 (L.getD j 0))]).getD j []=[D.at (Value.int IntKind.i64 (L.getD j 0))]:=by
       rw[List.getD_eq_getElem?_getD,List.getElem?_set,if_neg (by omega),← List.getD_eq_getElem?_getD,hs2];rfl
      repeat' (first|simp (maxSteps:=9999999) only[↓GE,PL,PP,EE,QQ,seval,q2,w1,w2,hs1,hs2,hs3,hl1',hl2',eI,lm,List.length_set]|(simp (disch:=omega) only[i6])|(apply go_brD<;>intro h)|(apply go_gsD aE<;>intro h)|(apply go_br<;>intro h)|(apply go_gs aE<;>intro h)|(apply go_call 5000 (e1) rfl rfl;iterate 4 (first|(exact CallForm.plain rfl)|exact aC))|(with_reducible apply And.intro)|exact aG|fail)
      refine⟨⟨(j,swpL L j),by omega,by rw[swpL_len];exact hL,hv⟩,?_,by simp only;omega⟩
      (simp only[GeS];refine⟨?_,?_,?_,?_⟩;all_goals (repeat' (first|(with_reducible exact True.intro)|(with_reducible rfl)|simp only[XC,↓reduceIte,seval]|(with_reducible apply And.intro)|(refine⟨_,rfl,?_⟩)|(simp [hsw,eI];done)|exact aS|fail)))
     ·rw[if_neg hlt] at hv
      rw[df hlt] at e1
      rw[hv] at hs1 hs2 hl1' hl2' e1
      rw[hv]
      repeat' (first|simp (maxSteps:=9999999) only[↓GE,PL,PP,EE,QQ,seval,q2,w1,w2,hs1,hs2,hl1',hl2',eI,lm,List.length_set]|(simp (disch:=omega) only[i6])|(apply go_brD<;>intro h)|(apply go_gsD aE<;>intro h)|(apply go_br<;>intro h)|(apply go_gs aE<;>intro h)|(apply go_call 5000 (e1) rfl rfl;iterate 4 (first|(exact CallForm.plain rfl)|exact aC))|(with_reducible apply And.intro)|exact aG|fail)
      refine⟨⟨i+1,by omega⟩,?_,by simp only;omega⟩
      exact aH
  ·obtain rfl:i=l.length-1:=by omega
   have q1:decide (((l.length-1+1:Nat):Int)<(l.length:Int))=false:=df (by omega)
   repeat' (first|simp (maxSteps:=9999999) only[↓GE,PL,PP,EE,QQ,seval,q1]|(simp (disch:=omega) only[i6])|(apply go_brD<;>intro h)|(apply go_gsD aE<;>intro h)|(apply go_br<;>intro h)|(apply go_gs aE<;>intro h)|(with_reducible apply And.intro)|exact aG|fail)
   ((first|apply ret_mk []|apply end_mk []);(· exact aR);(· exact aZ);all_goals exact aF)
theorem pdqT (l:List Int) (lim:Int) (hl:l.length≤12) (hl1:1≤l.length):Does Tryz.prog 99 [.og 900000 0,I 0,I l.length,I lim] [(900000,.arr 0 1 true (l.map eI))] (.tu []) [(900000,.arr 0 1 true ((sorts l (l.length-1)).map eI))] []:=by
 refine G77' rfl ⟨rfl,by simp⟩ fun cx hm0=>go_in 5000 ?_
 unfold A77' R77'
 repeat' (first|simp (maxSteps:=9999999) only[↓GE,PL,PP,EE,QQ,seval]|(simp (disch:=omega) only[i6])|(apply go_brD<;>intro h)|(apply go_gsD aE<;>intro h)|(apply go_br<;>intro h)|(apply go_gs aE<;>intro h)|(with_reducible apply And.intro)|exact aG|fail)
 refine go_loop 5000 hm0 (ι:=Unit) (fun _=>[(0,.og 900000 0),(1,I 0),(2,I l.length),(3,I lim)]) (fun _=>[(900000,.arr 0 1 true (l.map eI))]) (fun _=>0) [] () ?_ ?_
 ·exact aH
 ·rintro⟨⟩
  have w1:IntKind.i64.wrap ((l.length:Int)-0)=(l.length:Int):=by rw[i6 _ (by omega)];omega
  have w2:IntKind.i64.wrap (l.length:Int)=(l.length:Int):=i6 _ (by omega)
  have q1:decide ((l.length:Int)≤12)=true:=dt (by omega)
  have e1:=insertT l (by omega) hl1
  repeat' (first|simp (maxSteps:=9999999) only[↓GE,PL,PP,EE,QQ,seval,w1,w2,q1,Int.sub_zero]|(simp (disch:=omega) only[i6])|(apply go_brD<;>intro h)|(apply go_gsD aE<;>intro h)|(apply go_br<;>intro h)|(apply go_gs aE<;>intro h)|(apply go_call 5000 (e1) rfl rfl;iterate 4 (first|(exact CallForm.lent aL rfl rfl)|exact aC))|(with_reducible apply And.intro)|exact aG|fail)
  all_goals ((first|apply ret_mk []|apply end_mk []);(· exact aR);(· exact aZ);all_goals exact aF)
end Go.Proofs.YtacfbiegbdlldaaGreatDoor.Sim
end
section
namespace Go.Proofs.YtacfbiegbdlldaaGreatDoor.Sim
open Go Go.RowKit Go.Deep
set_option maxRecDepth 100000
set_option maxHeartbeats 4000000
set_option linter.unusedVariables false
set_option linter.unusedSimpArgs false
attribute [local irreducible] Go Mean
def len64F (n:Nat):Int:=([0,1,2,2,3,3,3,3,4,4,4,4,4]:List Int).getD n 0
theorem u8w:IntKind.u8.wrap 0=0∧IntKind.u8.wrap 1=1∧IntKind.u8.wrap 2=2∧IntKind.u8.wrap 3=3∧IntKind.u8.wrap 4=4∧IntKind.u8.wrap 5=5∧IntKind.u8.wrap 6=6∧IntKind.u8.wrap 7=7∧IntKind.u8.wrap 8=8∧IntKind.u8.wrap 9=9∧IntKind.u8.wrap 10=10∧IntKind.u8.wrap 11=11∧IntKind.u8.wrap 12=12:=by decide
theorem len64 (n:Nat) (hn:n≤12):Does Tryz.prog 116 [.d (.at (.int .u64 n))] [] (I (len64F n)) [] []:=by
 refine G85' rfl BxOK.nil fun cx hm0=>go_in 5000 ?_
 unfold A85' R85'
 have h:n=0∨n=1∨n=2∨n=3∨n=4∨n=5∨n=6∨n=7∨n=8∨n=9∨n=10∨n=11∨n=12:=by omega
 rcases h with rfl|rfl|rfl|rfl|rfl|rfl|rfl|rfl|rfl|rfl|rfl|rfl|rfl
 all_goals
  repeat' (first|simp (maxSteps:=9999999) only[↓GE,PL,PP,EE,QQ,seval,u8w]|(simp (disch:=omega) only[i6])|(apply go_brD<;>intro h)|(apply go_gsD aE<;>intro h)|(apply go_br<;>intro h)|(apply go_gs aE<;>intro h)|(with_reducible apply And.intro)|exact aG|fail)
  ((first|apply ret_mk []|apply end_mk []);(· exact aR);(· ((try simp only[CC,LL,EE,QQ,seval]) <;> repeat' (first|exact aD|(with_reducible apply And.intro)|(simp [*,len64F];done)|(simp [*,len64F];omega)|(simp_all [len64F];done)|(simp_all [len64F];omega))));all_goals (first|((try simp only[CC,LL,EE,QQ,seval]) <;> (repeat' (first|(with_reducible apply And.intro)|trivial|rfl|(simp [len64F];done)));done)|exact aF))
theorem lenT (n:Nat) (hn:n≤12):Does Tryz.prog 100 [.d (.at (.int .u64 n))] [] (I (len64F n)) [] []:=by
 refine G78' rfl BxOK.nil fun cx hm0=>go_in 5000 ?_
 unfold A78' R78'
 have e1:=len64 n hn
 repeat' (first|simp (maxSteps:=9999999) only[↓GE,PL,PP,EE,QQ,seval]|(simp (disch:=omega) only[i6])|(apply go_brD<;>intro h)|(apply go_gsD aE<;>intro h)|(apply go_br<;>intro h)|(apply go_gs aE<;>intro h)|(apply go_call 5000 (e1) rfl rfl;iterate 4 (first|(exact CallForm.plain rfl)|exact aC))|(with_reducible apply And.intro)|exact aG|fail)
 all_goals ((first|apply ret_mk []|apply end_mk []);(· exact aR);(· exact aZ);all_goals exact aF)
theorem sortT (l:List Int) (hl:l.length≤12) (hl1:1≤l.length):Does Tryz.prog 82 [.og 900000 0] [(900000,.arr 0 1 true (l.map eI))] (.tu []) [(900000,.arr 0 1 true ((sorts l (l.length-1)).map eI))] []:=by
 refine G71' rfl ⟨rfl,by simp⟩ fun cx hm0=>go_in 5000 ?_
 unfold A71' R71'
 have w1:IntKind.u64.wrap (l.length:Int)=(l.length:Int):=IntWalk.u64_in _ (by omega)
 have e1:=lenT l.length hl
 have e2:=pdqT l (len64F l.length) hl hl1
 repeat' (first|simp (maxSteps:=9999999) only[↓GE,PL,PP,EE,QQ,seval,w1,lm]|(simp (disch:=omega) only[i6])|(apply go_brD<;>intro h)|(apply go_gsD aE<;>intro h)|(apply go_br<;>intro h)|(apply go_gs aE<;>intro h)|(apply go_call 5000 (e1) rfl rfl;iterate 4 (first|(exact CallForm.plain rfl)|exact aC))|(apply go_call 5000 (e2) rfl rfl;iterate 4 (first|(exact CallForm.lent aL rfl rfl)|exact aC))|(with_reducible apply And.intro)|exact aG|fail)
 all_goals ((first|apply ret_mk []|apply end_mk []);(· exact aR);(· exact aZ);all_goals exact aF)
theorem insert0:Does Tryz.prog 106 [.og 900000 0,I 0,I 0] [(900000,.arr 0 1 true [])] (.tu []) [(900000,.arr 0 1 true [])] []:=by
 refine G83' rfl ⟨rfl,by simp⟩ fun cx hm0=>go_in 5000 ?_
 unfold A83' R83'
 repeat' (first|simp (maxSteps:=9999999) only[↓GE,PL,PP,EE,QQ,seval]|(simp (disch:=omega) only[i6])|(apply go_brD<;>intro h)|(apply go_gsD aE<;>intro h)|(apply go_br<;>intro h)|(apply go_gs aE<;>intro h)|(with_reducible apply And.intro)|exact aG|fail)
 refine go_loop 5000 hm0 (ι:=Unit) (fun _=>[(0,.og 900000 0),(1,I 0),(2,I 0),(6,I 1)]) (fun _=>[(900000,.arr 0 1 true [])]) (fun _=>0) [] () ?_ ?_
 ·exact aH
 ·rintro⟨⟩
  have q:decide ((1:Int)<0)=false:=rfl
  repeat' (first|simp (maxSteps:=9999999) only[↓GE,PL,PP,EE,QQ,seval,q]|(simp (disch:=omega) only[i6])|(apply go_brD<;>intro h)|(apply go_gsD aE<;>intro h)|(apply go_br<;>intro h)|(apply go_gs aE<;>intro h)|(with_reducible apply And.intro)|exact aG|fail)
  ((first|apply ret_mk []|apply end_mk []);(· exact aR);(· exact aZ);all_goals exact aF)
theorem pdq0 (lim:Int):Does Tryz.prog 99 [.og 900000 0,I 0,I 0,I lim] [(900000,.arr 0 1 true [])] (.tu []) [(900000,.arr 0 1 true [])] []:=by
 refine G77' rfl ⟨rfl,by simp⟩ fun cx hm0=>go_in 5000 ?_
 unfold A77' R77'
 repeat' (first|simp (maxSteps:=9999999) only[↓GE,PL,PP,EE,QQ,seval]|(simp (disch:=omega) only[i6])|(apply go_brD<;>intro h)|(apply go_gsD aE<;>intro h)|(apply go_br<;>intro h)|(apply go_gs aE<;>intro h)|(with_reducible apply And.intro)|exact aG|fail)
 refine go_loop 5000 hm0 (ι:=Unit) (fun _=>[(0,.og 900000 0),(1,I 0),(2,I 0),(3,I lim)]) (fun _=>[(900000,.arr 0 1 true [])]) (fun _=>0) [] () ?_ ?_
 ·exact aH
 ·rintro⟨⟩
  have w1:IntKind.i64.wrap ((0:Int)-0)=0:=by decide
  have q1:decide ((0:Int)≤12)=true:=rfl
  repeat' (first|simp (maxSteps:=9999999) only[↓GE,PL,PP,EE,QQ,seval,w1,q1,Int.sub_zero]|(simp (disch:=omega) only[i6])|(apply go_brD<;>intro h)|(apply go_gsD aE<;>intro h)|(apply go_br<;>intro h)|(apply go_gs aE<;>intro h)|(apply go_call 5000 (insert0) rfl rfl;iterate 4 (first|(exact CallForm.lent aL rfl rfl)|exact aC))|(with_reducible apply And.intro)|exact aG|fail)
  all_goals ((first|apply ret_mk []|apply end_mk []);(· exact aR);(· exact aZ);all_goals exact aF)
theorem sort0:Does Tryz.prog 82 [.og 900000 0] [(900000,.arr 0 1 true [])] (.tu []) [(900000,.arr 0 1 true [])] []:=by
 refine G71' rfl ⟨rfl,by simp⟩ fun cx hm0=>go_in 5000 ?_
 unfold A71' R71'
 have w1:IntKind.u64.wrap 0=0:=IntWalk.u64_in _ (by omega)
 have e1:=lenT 0 (by omega)
 have e2:=pdq0 (len64F 0)
 repeat' (first|simp (maxSteps:=9999999) only[↓GE,PL,PP,EE,QQ,seval,w1,lm]|(simp (disch:=omega) only[i6])|(apply go_brD<;>intro h)|(apply go_gsD aE<;>intro h)|(apply go_br<;>intro h)|(apply go_gs aE<;>intro h)|(apply go_call 5000 (e1) rfl rfl;iterate 4 (first|(exact CallForm.plain rfl)|exact aC))|(apply go_call 5000 (e2) rfl rfl;iterate 4 (first|(exact CallForm.lent aL rfl rfl)|exact aC))|(with_reducible apply And.intro)|exact aG|fail)
 all_goals ((first|apply ret_mk []|apply end_mk []);(· exact aR);(· exact aZ);all_goals exact aF)
def sortF (l:List Int):List Int:=sorts l (l.length-1)
theorem sortA (l:List Int) (hl:l.length≤12):Does Tryz.prog 82 [.og 900000 0] [(900000,.arr 0 1 true (l.map eI))] (.tu []) [(900000,.arr 0 1 true ((sortF l).map eI))] []:=by
 cases l with
 |nil=>exact sort0
 |cons x r=>exact sortT _ hl (by simp)
theorem compactT (l:List Int) (hl:l.length≤1000000) (ho:∀ i,i+1<l.length→l.getD (i+1) 0 ≠ l.getD i 0):Does Tryz.prog 83 [.d (dInts l)] [] (.d (dInts l)) [] []:=by
 refine G72' rfl BxOK.nil fun cx hm0=>go_in 5000 ?_
 unfold A72' R72'
 by_cases h2:l.length<2
 ·have q1:decide ((l.length:Int)<2)=true:=dt (by omega)
  repeat' (first|simp (maxSteps:=9999999) only[↓GE,PL,PP,EE,QQ,seval,q1,lm]|(simp (disch:=omega) only[i6])|(apply go_brD<;>intro h)|(apply go_gsD aE<;>intro h)|(apply go_br<;>intro h)|(apply go_gs aE<;>intro h)|(with_reducible apply And.intro)|exact aG|fail)
  all_goals ((first|apply ret_mk []|apply end_mk []);(· exact aR);(· exact aZ);all_goals exact aF)
 ·have q1:decide ((l.length:Int)<2)=false:=df (by omega)
  repeat' (first|simp (maxSteps:=9999999) only[↓GE,PL,PP,EE,QQ,seval,q1,lm]|(simp (disch:=omega) only[i6])|(apply go_brD<;>intro h)|(apply go_gsD aE<;>intro h)|(apply go_br<;>intro h)|(apply go_gs aE<;>intro h)|(with_reducible apply And.intro)|exact aG|fail)
  refine go_loop 5000 hm0 (ι:={k:Nat // 1≤k∧k≤l.length}) (fun k=>[(0,.d (dInts l)),(3,I k.1)]) (fun k=>[]) (fun k=>l.length-k.1) [] ⟨1,by omega⟩ ?_ ?_
  ·exact aH
  ·rintro⟨k,hk1,hk⟩
   simp only
   by_cases hkl:k<l.length
   ·have q2:decide ((k:Int)<(l.length:Int))=true:=dt (by omega)
    have w1:IntKind.i64.wrap ((k:Int)+1)=((k+1:Nat):Int):=by rw[i6 _ (by omega)];omega
    have w2:IntKind.i64.wrap ((k:Int)-1)=((k-1:Nat):Int):=by rw[i6 _ (by omega)];omega
    have hs:=getD_map eI [] 0 l k hkl
    have hs2:=getD_map eI [] 0 l (k-1) (by omega)
    have hlt:k-1<l.length:=by omega
    have hne:=ho (k-1) (by omega)
    rw[show k-1+1=k by omega] at hne
    have q3:(l.getD k 0 == l.getD (k-1) 0)=false:=by simpa using hne
    repeat' (first|simp (maxSteps:=9999999) only[↓GE,PL,PP,EE,QQ,seval,q2,q3,w1,w2,hs,hs2,hkl,hlt,eI,lm,Int.toNat_natCast]|(simp (disch:=omega) only[i6])|(apply go_brD<;>intro h)|(apply go_gsD aE<;>intro h)|(apply go_br<;>intro h)|(apply go_gs aE<;>intro h)|(with_reducible apply And.intro)|exact aG|fail)
    refine⟨⟨k+1,by omega,hkl⟩,?_,by simp only;omega⟩
    exact aH
   ·obtain rfl:k=l.length:=by omega
    have q2:decide ((l.length:Int)<(l.length:Int))=false:=df (by omega)
    repeat' (first|simp (maxSteps:=9999999) only[↓GE,PL,PP,EE,QQ,seval,q2]|(simp (disch:=omega) only[i6])|(apply go_brD<;>intro h)|(apply go_gsD aE<;>intro h)|(apply go_br<;>intro h)|(apply go_gs aE<;>intro h)|(with_reducible apply And.intro)|exact aG|fail)
    ((first|apply ret_mk []|apply end_mk []);(· exact aR);(· exact aZ);all_goals exact aF)
end Go.Proofs.YtacfbiegbdlldaaGreatDoor.Sim
end
section
namespace Go.Proofs.YtacfbiegbdlldaaGreatDoor.Sim
open Go Go.RowKit Go.Deep
open Go.Proofs.YtacfbiegbdlldaaGreatDoor.Tw (WCell kn kn_len kn_all kn_next)
set_option maxRecDepth 100000
set_option maxHeartbeats 4000000
set_option linter.unusedVariables false
set_option linter.unusedSimpArgs false
attribute [local irreducible] Go Mean
structure PAns where
 k:Bool
 row:List Int
def eA (a:PAns):List D:=[.at (.bool a.k),dInts a.row]
abbrev dAns (l:List PAns):D:=.sl 2 (l.map eA)
def cntA:List PAns→Nat
 |[]=>0
 |a :: r=>(if a.k then 1 else 0)+cntA r
theorem cntA_append:∀ {a b:List PAns},cntA (a++b)=cntA a+cntA b
 |[],b=>by simp [cntA]
 |x :: a,b=>by simp only[List.cons_append,cntA];rw[cntA_append];omega
theorem cntA_le:∀ {l:List PAns},cntA l≤l.length
 |[]=>Nat.le_refl _
 |a :: r=>by have:=cntA_le (l:=r);simp only[cntA,List.length_cons];split <;> omega
theorem cntA_next {l:List PAns} {k:Nat} (h:k<l.length):cntA (l.take (k+1))=cntA (l.take k)+if l[k].k then 1 else 0:=by
 rw[List.take_succ_eq_append_getElem h,cntA_append];simp [cntA]
def AnsOK (p:Int) (w:Nat) (l:List PAns):Prop:=∀ a ∈ l,a.k=true→a.row.length=w∧a.row.all (inE p)=true
theorem checkA (p:Int) (w need:Nat) (l:List PAns) (hw:w≤64) (hl:l.length≤32) (ha:AnsOK p w l) (hn:need≤cntA l) :
  Does Tryz.prog 51 [.ag [I p],I w,I l.length,I need,.d (dAns l)] [] (I 0) [] []:=by
 refine G60' rfl BxOK.nil fun cx hm0=>go_in 5000 ?_
 unfold A60' R60'
 have q1:decide ((w:Int)<0)=false:=df (by omega)
 have q2:decide ((64:Int)<(w:Int))=false:=df (by omega)
 have q3:((l.length:Int) != (l.length:Int))=false:=by simp
 have q4:decide ((cntA l:Int)<(need:Int))=false:=df (by omega)
 repeat' (first|simp (maxSteps:=9999999) only[↓GE,PL,PP,EE,QQ,seval,q1,q2,q3,lm]|(simp (disch:=omega) only[i6])|(apply go_brD<;>intro h)|(apply go_gsD aE<;>intro h)|(apply go_br<;>intro h)|(apply go_gs aE<;>intro h)|(with_reducible apply And.intro)|exact aG|fail)
 refine go_loopz 5000 hm0 (ι:={k:Nat // k≤l.length}) (fun k=>[(1,I w),(3,I need),(5,.bp 5 0 0),(10,I 0),(11,I (cntA (l.take k.1))),(12,B true),(25,.d (dAns l)),(26,I l.length),(27,I k.1)]) (fun k=>[(5,.box 0 [I p])]) (fun k=>l.length-k.1) [] [] ⟨0,Nat.zero_le _⟩ ?_ ?_
 ·simp only[GeZ];(simp only[GeS];refine⟨?_,?_,?_,?_⟩;all_goals (repeat' (first|(with_reducible exact True.intro)|(with_reducible rfl)|simp only[XC,↓reduceIte,seval]|(with_reducible apply And.intro)|(refine⟨_,rfl,?_⟩)|(simp [cntA];done)|exact aS|fail)))
 ·rintro⟨k,hk⟩
  simp only
  by_cases hkl:k<l.length
  ·have r1:decide ((k:Int)<(l.length:Int))=true:=dt (by omega)
   have u1:IntKind.i64.wrap ((k:Int)+1)=((k+1:Nat):Int):=by rw[i6 _ (by omega)];omega
   have hcl:=cntA_le (l:=l.take k)
   rw[List.length_take] at hcl
   have hnx:=cntA_next hkl
   have hs:=getD_map eA [] ⟨false,[]⟩ l k hkl
   have hg:l.getD k ⟨false,[]⟩=l[k]:=by simp [List.getD_eq_getElem?_getD,hkl]
   rw[hg] at hs
   have hin:=ha l[k] (List.getElem_mem hkl)
   generalize l[k]=a at hs hnx hin
   obtain⟨ck,row⟩:=a
   have u2:IntKind.i64.wrap ((cntA (l.take k):Int)+1)=((cntA (l.take k)+1:Nat):Int):=by rw[i6 _ (by omega)];omega
   generalize cntA (l.take k)=c at *
   simp only at hnx hin
   cases ck with
   |false =>
    repeat' (first|simp (maxSteps:=9999999) only[↓GE,PL,PP,EE,QQ,seval,r1,u1,hs,hkl,eA,lm]|(simp (disch:=omega) only[i6])|(apply go_brD<;>intro h)|(apply go_gsD aE<;>intro h)|(apply go_br<;>intro h)|(apply go_gs aE<;>intro h)|(with_reducible apply And.intro)|exact aG|fail)
    simp only[Bool.false_eq_true,if_false,Nat.add_zero] at hnx
    refine⟨[],[],⟨k+1,hkl⟩,?_,by simp only;omega⟩
    simp only[GeZ];(simp only[GeS];refine⟨?_,?_,?_,?_⟩;all_goals (repeat' (first|(with_reducible exact True.intro)|(with_reducible rfl)|simp only[XC,↓reduceIte,seval]|(with_reducible apply And.intro)|(refine⟨_,rfl,?_⟩)|(simp [hnx];done)|exact aS|fail)))
   |true =>
    obtain⟨h1,h2⟩:=hin rfl
    have q5:((row.length:Int) != (w:Int))=false:=by rw[h1];simp
    have e1:=allF p row (by omega)
    rw[h2] at e1
    repeat' (first|simp (maxSteps:=9999999) only[↓GE,PL,PP,EE,QQ,seval,r1,u1,u2,hs,hkl,q5,eA,lm]|(simp (disch:=omega) only[i6])|(apply go_brD<;>intro h)|(apply go_gsD aE<;>intro h)|(apply go_br<;>intro h)|(apply go_gs aE<;>intro h)|(apply go_call 5000 (e1) rfl rfl;iterate 4 (first|(exact CallForm.plain rfl)|exact aC))|(with_reducible apply And.intro)|exact aG|fail)
    simp only[if_true] at hnx
    refine⟨[],[],⟨k+1,hkl⟩,?_,by simp only;omega⟩
    simp only[GeZ];(simp only[GeS];refine⟨?_,?_,?_,?_⟩;all_goals (repeat' (first|(with_reducible exact True.intro)|(with_reducible rfl)|simp only[XC,↓reduceIte,seval]|(with_reducible apply And.intro)|(refine⟨_,rfl,?_⟩)|(simp [hnx];done)|exact aS|fail)))
  ·obtain rfl:k=l.length:=by omega
   have r1:decide ((l.length:Int)<(l.length:Int))=false:=df (by omega)
   rw[List.take_length]
   repeat' (first|simp (maxSteps:=9999999) only[↓GE,PL,PP,EE,QQ,seval,r1,q4]|(simp (disch:=omega) only[i6])|(apply go_brD<;>intro h)|(apply go_gsD aE<;>intro h)|(apply go_br<;>intro h)|(apply go_gs aE<;>intro h)|(with_reducible apply And.intro)|exact aG|fail)
   all_goals ((first|apply ret_mk []|apply end_mk []);(· exact aR);(· exact aZ);all_goals exact aF)
def colC (i:Nat) (l:List PAns):List WCell:=l.map fun a=>⟨if a.k then a.row.getD i 0 else 0,a.k⟩
theorem colC_next {i:Nat} {l:List PAns} {k:Nat} (h:k<l.length):colC i (l.take (k+1))=colC i (l.take k)++[⟨if l[k].k then l[k].row.getD i 0 else 0,l[k].k⟩]:=by
 unfold colC
 rw[List.take_succ_eq_append_getElem h,List.map_append];rfl
theorem colC_len {i:Nat} {l:List PAns}:(colC i l).length=l.length:=by simp [colC]
theorem colC_in {p:Int} {w i:Nat} {l:List PAns} (hp:2≤p) (ha:AnsOK p w l) (hi:i<w) (hl:l.length≤32) (hlp:(l.length:Int)<p):WordIn p (colC i l):=by
 refine⟨?_,by rw[colC_len];exact hl,by rw[colC_len];exact hlp⟩
 intro y hy
 simp only[colC,List.mem_map] at hy
 obtain⟨a,h1,rfl⟩:=hy
 simp only
 split
 ·rename_i hk
  obtain⟨h2,h3⟩:=ha a h1 hk
  exact all_getD h3 (by omega)
 ·omega
theorem kn_colC:∀ {i j:Nat} {l:List PAns},(kn j (colC i l)).length=cntA l
 |i,j,[]=>by simp [colC,kn,cntA]
 |i,j,a :: r=>by
  have ih:=kn_colC (i:=i) (j:=j+1) (l:=r)
  unfold colC at ih ⊢
  rw[List.map_cons,kn,cntA,← ih]
  simp only
  split
  ·rw[List.length_cons];omega
  ·omega
theorem columnT (p:Int) (w need i:Nat) (l:List PAns) (hf:fieldB p=true) (hw:w≤64) (hi:i<w) (hl:l.length≤32) (hlp:(l.length:Int)<p) (ha:AnsOK p w l) (h1:1≤need) (hn:need≤cntA l) (ho:DecOK p (colC i l) need) :
  Does Tryz.prog 53 [.ag [I p,I need,.d (dAns l)],I i] [] (.tu [.ag [.d (dInts (decP p (colC i l) need)),.d (dInts (wrN p (decP p (colC i l) need) 0 (colC i l)))],I 0]) [] []:=by
 refine G28' rfl BxOK.nil fun cx hm0=>go_in 5000 ?_
 unfold A28' R28'
 have hp:=(fieldB_iff.1 hf).1
 have e1:=decodeU p (colC i l) need hf (colC_in hp ha hi hl hlp) h1 (by rw[kn_colC];exact hn) ho
 repeat' (first|simp (maxSteps:=9999999) only[↓GE,PL,PP,EE,QQ,seval,lm]|(simp (disch:=omega) only[i6])|(apply go_brD<;>intro h)|(apply go_gsD aE<;>intro h)|(apply go_br<;>intro h)|(apply go_gs aE<;>intro h)|(with_reducible apply And.intro)|exact aG|fail)
 refine go_loopz 5000 hm0 (ι:={q:Nat × Nat // q.1≤l.length}) (fun q=>[(1,I i),(2,.bp 2 0 0),(4,.bp 4 0 0),(5,I 0),(6,.og 31 q.1.2),(11,.d (dAns l)),(12,I l.length),(13,I q.1.1)]) (fun q=>[(2,.box 0 [I p,I need,.d (dAns l)]),(4,.box 0 [.nl 1,.nl 1]),(31,.arr q.1.2 2 true ((colC i (l.take q.1.1)).map eC))]) (fun q=>l.length-q.1.1) [] [31] ⟨(0,0),Nat.zero_le _⟩ ?_ ?_
 ·simp only[GeZ];(simp only[GeS];refine⟨?_,?_,?_,?_⟩;all_goals (repeat' (first|(with_reducible exact True.intro)|(with_reducible rfl)|simp only[XC,↓reduceIte,seval]|(with_reducible apply And.intro)|(refine⟨_,rfl,?_⟩)|(simp [colC];done)|exact aS|fail)))
 ·rintro⟨⟨k,v⟩,hk⟩
  simp only at hk ⊢
  by_cases hkl:k<l.length
  ·have r1:decide ((k:Int)<(l.length:Int))=true:=dt (by omega)
   have u1:IntKind.i64.wrap ((k:Int)+1)=((k+1:Nat):Int):=by rw[i6 _ (by omega)];omega
   have hnx:=colC_next (i:=i) hkl
   have hcl:(colC i (l.take k)).length=k:=by rw[colC_len,List.length_take];omega
   have hs:=getD_map eA [] ⟨false,[]⟩ l k hkl
   have hg:l.getD k ⟨false,[]⟩=l[k]:=by simp [List.getD_eq_getElem?_getD,hkl]
   rw[hg] at hs
   have hin:=ha l[k] (List.getElem_mem hkl)
   generalize l[k]=a at hs hnx hin
   obtain⟨ck,row⟩:=a
   generalize colC i (l.take k)=C at *
   simp only at hnx hin
   cases ck with
   |false =>
    repeat' (first|simp (maxSteps:=9999999) only[↓GE,PL,PP,EE,QQ,seval,r1,u1,hs,hkl,hcl,eA,lm]|(simp (disch:=omega) only[i6])|(apply go_brD<;>intro h)|(apply go_gsD aE<;>intro h)|(apply go_br<;>intro h)|(apply go_gs aE<;>intro h)|(with_reducible apply And.intro)|exact aG|fail)
    simp only[Bool.false_eq_true,if_false] at hnx
    refine⟨[],[],⟨(k+1,v+1),hkl⟩,?_,by simp only;omega⟩
    simp only[GeZ];(simp only[GeS];refine⟨?_,?_,?_,?_⟩;all_goals (repeat' (first|(with_reducible exact True.intro)|(with_reducible rfl)|simp only[XC,↓reduceIte,seval]|(with_reducible apply And.intro)|(refine⟨_,rfl,?_⟩)|(simp [hnx,eC];done)|exact aS|fail)))
   |true =>
    obtain⟨h2,h3⟩:=hin rfl
    have hs2:=getD_map eI [] 0 row i (by omega)
    have hir:i<row.length:=by omega
    repeat' (first|simp (maxSteps:=9999999) only[↓GE,PL,PP,EE,QQ,seval,r1,u1,hs,hkl,hcl,hs2,hir,eA,eI,lm]|(simp (disch:=omega) only[i6])|(apply go_brD<;>intro h)|(apply go_gsD aE<;>intro h)|(apply go_br<;>intro h)|(apply go_gs aE<;>intro h)|(with_reducible apply And.intro)|exact aG|fail)
    simp only[if_true] at hnx
    refine⟨[],[],⟨(k+1,v+1),hkl⟩,?_,by simp only;omega⟩
    simp only[GeZ];(simp only[GeS];refine⟨?_,?_,?_,?_⟩;all_goals (repeat' (first|(with_reducible exact True.intro)|(with_reducible rfl)|simp only[XC,↓reduceIte,seval]|(with_reducible apply And.intro)|(refine⟨_,rfl,?_⟩)|(simp [hnx,eC];done)|exact aS|fail)))
  ·obtain rfl:k=l.length:=by omega
   have r1:decide ((l.length:Int)<(l.length:Int))=false:=df (by omega)
   rw[List.take_length]
   repeat' (first|simp (maxSteps:=9999999) only[↓GE,PL,PP,EE,QQ,seval,r1]|(simp (disch:=omega) only[i6])|(apply go_brD<;>intro h)|(apply go_gsD aE<;>intro h)|(apply go_br<;>intro h)|(apply go_gs aE<;>intro h)|(apply go_call 5000 (e1) rfl rfl;iterate 4 (first|(exact CallForm.plain rfl)|exact aC))|(with_reducible apply And.intro)|exact aG|fail)
   all_goals ((first|apply ret_mk []|apply end_mk []);(· exact aR);(· exact aZ);all_goals exact aF)
theorem sortAt (l:List Int) (i u:Nat) (hi:i<1000000) (hl:l.length≤12):Does Tryz.prog 82 [.og i u] [(i,.arr u 1 true (l.map eI))] (.tu []) [(i,.arr u 1 true ((sortF l).map eI))] []:=by
 have h:=(sortA l hl).nm [(900000,i,u)] (by simp [rhoOK,hi]) rfl rfl rfl (by simp [O.wfB,eI]) (by simp [O.wfB,eI]) rfl rfl rfl
 simpa [V.nms,V.nm,nmU,rl,O.addv,I,Nat.add_comm] using h
def polysF (p:Int) (need w:Nat) (l:List PAns):List (List Int):=(List.range w).map fun i=>decP p (colC i l) need
def wrgsF (p:Int) (need w:Nat) (l:List PAns):List Int:=(List.range w).flatMap fun i=>wrN p (decP p (colC i l) need) 0 (colC i l)
theorem polysF_next {p:Int} {need w:Nat} {l:List PAns}:polysF p need (w+1) l=polysF p need w l++[decP p (colC w l) need]:=by simp [polysF,List.range_succ]
theorem wrgsF_next {p:Int} {need w:Nat} {l:List PAns}:wrgsF p need (w+1) l=wrgsF p need w l++wrN p (decP p (colC w l) need) 0 (colC w l):=by simp [wrgsF,List.range_succ]
theorem wrgsF_len {p:Int} {need:Nat} {l:List PAns}:∀ {w:Nat},(wrgsF p need w l).length≤w*l.length
 |0=>by simp [wrgsF]
 |w+1=>by
  rw[wrgsF_next,List.length_append,Nat.succ_mul]
  have h1:=wrgsF_len (p:=p) (need:=need) (l:=l) (w:=w)
  have h2:=wrN_len (p:=p) (f:=decP p (colC w l) need) 0 (colC w l)
  rw[colC_len] at h2
  omega
structure ColsOK (p:Int) (need w:Nat) (l:List PAns):Prop where
 ok:∀ i,i<w→DecOK p (colC i l) need
 few:(wrgsF p need w l).length≤12
 once:∀ i,i+1<(sortF (wrgsF p need w l)).length→(sortF (wrgsF p need w l)).getD (i+1) 0 ≠ (sortF (wrgsF p need w l)).getD i 0
theorem sortF_len {l:List Int}:(sortF l).length=l.length:=sorts_len
theorem allT (p:Int) (w need:Nat) (l:List PAns) (hf:fieldB p=true) (hw:w≤64) (hl:l.length≤32) (hlp:(l.length:Int)<p) (ha:AnsOK p w l) (h1:1≤need) (hn:need≤cntA l) (ho:ColsOK p need w l) :
  Does Tryz.prog 52 [.ag [I p,I need,.d (dAns l)],I w,.cl 53 []] [] (.tu [.d (dRows (polysF p need w l)),.d (dInts (sortF (wrgsF p need w l))),I 0]) [] []:=by
 refine G27' rfl BxOK.nil fun cx hm0=>go_in 5000 ?_
 unfold A27' R27'
 repeat' (first|simp (maxSteps:=9999999) only[↓GE,PL,PP,EE,QQ,seval]|(simp (disch:=omega) only[i6])|(apply go_brD<;>intro h)|(apply go_gsD aE<;>intro h)|(apply go_br<;>intro h)|(apply go_gs aE<;>intro h)|(with_reducible apply And.intro)|exact aG|fail)
 refine go_loopz 5000 hm0 (ι:={q:Nat × Nat × Nat // q.1≤w}) (fun q=>[(2,.cl 53 []),(3,.bp 3 0 0),(9,.og 31 q.1.2.1),(10,.og 35 q.1.2.2),(14,I w),(15,I q.1.1)]) (fun q=>[(3,.box 0 [I p,I need,.d (dAns l)]),(31,.arr q.1.2.1 1 true ((polysF p need q.1.1 l).map eR)),(35,.arr q.1.2.2 1 true ((wrgsF p need q.1.1 l).map eI))]) (fun q=>w-q.1.1) [] [31,35] ⟨(0,0,0),Nat.zero_le _⟩ ?_ ?_
 ·simp only[GeZ];(simp only[GeS];refine⟨?_,?_,?_,?_⟩;all_goals (repeat' (first|(with_reducible exact True.intro)|(with_reducible rfl)|simp only[XC,↓reduceIte,seval]|(with_reducible apply And.intro)|(refine⟨_,rfl,?_⟩)|(simp [polysF,wrgsF];done)|exact aS|fail)))
 ·rintro⟨⟨i,v,u⟩,hi⟩
  simp only at hi ⊢
  by_cases hiw:i<w
  ·have r1:decide ((i:Int)<(w:Int))=true:=dt (by omega)
   have u1:IntKind.i64.wrap ((i:Int)+1)=((i+1:Nat):Int):=by rw[i6 _ (by omega)];omega
   have e1:=columnT p w need i l hf hw hiw hl hlp ha h1 hn (ho.ok i hiw)
   have hpn:=polysF_next (p:=p) (need:=need) (w:=i) (l:=l)
   have hwn:=wrgsF_next (p:=p) (need:=need) (w:=i) (l:=l)
   have hpl:(polysF p need i l).length=i:=by simp [polysF]
   have hwl:=wrgsF_len (p:=p) (need:=need) (l:=l) (w:=i)
   have h2:=wrN_len (p:=p) (f:=decP p (colC i l) need) 0 (colC i l)
   rw[colC_len] at h2
   have h3:i*l.length≤64*32:=Nat.mul_le_mul (by omega) hl
   generalize decP p (colC i l) need=f at *
   generalize wrN p f 0 (colC i l)=wr at *
   generalize polysF p need i l=PP' at *
   generalize wrgsF p need i l=WW at *
   repeat' (first|simp (maxSteps:=9999999) only[↓GE,PL,PP,EE,QQ,seval,r1,u1,hpl,eR,lm]|(simp (disch:=omega) only[i6])|(apply go_brD<;>intro h)|(apply go_gsD aE<;>intro h)|(apply go_br<;>intro h)|(apply go_gs aE<;>intro h)|(apply go_callv 5000 (e1) rfl (by kernel_rfl) rfl;iterate 4 (first|(exact CallForm.plain rfl)|exact aC))|(with_reducible apply And.intro)|exact aG|fail)
   refine⟨[],[],⟨(i+1,v+1,u+1),hiw⟩,?_,by simp only;omega⟩
   simp only[GeZ];(simp only[GeS];refine⟨?_,?_,?_,?_⟩;all_goals (repeat' (first|(with_reducible exact True.intro)|(with_reducible rfl)|simp only[XC,↓reduceIte,seval]|(with_reducible apply And.intro)|(refine⟨_,rfl,?_⟩)|(simp [hpn,hwn,eR,List.map_append];done)|exact aS|fail)))
  ·obtain rfl:i=w:=by omega
   have r1:decide ((i:Int)<(i:Int))=false:=df (by omega)
   have e1:=sortAt (wrgsF p need i l) 35 u (by decide) ho.few
   have e2:=compactT (sortF (wrgsF p need i l)) (by rw[sortF_len];have:=ho.few;omega) ho.once
   have e3:=cloneInts (sortF (wrgsF p need i l)) (by rw[sortF_len];have:=ho.few;omega)
   repeat' (first|simp (maxSteps:=9999999) only[↓GE,PL,PP,EE,QQ,seval,r1]|(simp (disch:=omega) only[i6])|(apply go_brD<;>intro h)|(apply go_gsD aE<;>intro h)|(apply go_br<;>intro h)|(apply go_gs aE<;>intro h)|(apply go_call 5000 (e1) rfl rfl;iterate 4 (first|(exact CallForm.lent aL rfl rfl)|exact aC))|(apply go_call 5000 (e2) rfl rfl;iterate 4 (first|(exact CallForm.plain rfl)|exact aC))|(apply go_call 5000 (e3) rfl rfl;iterate 4 (first|(exact CallForm.news rfl rfl)|exact aC))|(with_reducible apply And.intro)|exact aG|fail)
   all_goals ((first|apply ret_mk []|apply end_mk []);(· exact aR);(· exact aZ);all_goals exact aF)
end Go.Proofs.YtacfbiegbdlldaaGreatDoor.Sim
end
section
namespace Go.Proofs.YtacfbiegbdlldaaGreatDoor.Sim
open Go Go.RowKit Go.Deep
open Go.Proofs.YtacfbiegbdlldaaGreatDoor.Tw (WCell kn kn_len kn_all kn_next)
set_option maxRecDepth 100000
set_option maxHeartbeats 4000000
set_option linter.unusedVariables false
set_option linter.unusedSimpArgs false
attribute [local irreducible] Go Mean
def heads (l:List (List Int)):List Int:=l.map fun r=>r.getD 0 0
theorem heads_next {l:List (List Int)} {k:Nat} (h:k<l.length):heads (l.take (k+1))=heads (l.take k)++[(l.getD k []).getD 0 0]:=by
 unfold heads
 rw[List.take_succ_eq_append_getElem h,List.map_append,List.getD_eq_getElem?_getD (l:=l),List.getElem?_eq_getElem h];rfl
theorem heads_len {l:List (List Int)}:(heads l).length=l.length:=by simp [heads]
theorem polys_row {p:Int} {need w:Nat} {l:List PAns} (ho:ColsOK p need w l) {k:Nat} (hk:k<w):((polysF p need w l).getD k []).length≤need:=by
 simp only[polysF,List.getD_eq_getElem?_getD,List.getElem?_map,List.getElem?_range hk,Option.map_some,Option.getD_some]
 exact (ho.ok k hk).len
theorem curveDecode (p s:Int) (d w:Nat) (l:List PAns) (hf:fieldB p=true) (hP:PlanOK s d) (hsp:s<p) (hls:(l.length:Int)=s) (hw:w≤64) (ha:AnsOK p w l) (hn:d+1≤cntA l) (ho:ColsOK p (d+1) w l) :
  Does Tryz.prog 19 [.ag [I p],.ag [I s,I d],I w,.d (dAns l)] [] (.tu [.ag [.d (dInts (heads (polysF p (d+1) w l))),.d (dInts (sortF (wrgsF p (d+1) w l)))],I 0]) [] []:=by
 refine G20' rfl BxOK.nil fun cx hm0=>go_in 5000 ?_
 unfold A20' R20'
 have hs10:=hP.s10
 have hds:=hP.ds
 have e1:=checkC p s d hf hP hsp
 have e2:=checkA p w (d+1) l hw (by omega) ha hn
 rw[hls] at e2
 have e3:=allT p w (d+1) l hf hw (by omega) (by omega) ha (by omega) hn ho
 have w1:IntKind.i64.wrap ((d:Int)+1)=((d+1:Nat):Int):=by rw[i6 _ (by omega)];omega
 have hpl:(polysF p (d+1) w l).length=w:=by simp [polysF]
 have hrow:=fun k hk=>polys_row ho (k:=k) hk
 generalize polysF p (d+1) w l=PS at *
 generalize sortF (wrgsF p (d+1) w l)=WS at *
 repeat' (first|simp (maxSteps:=9999999) only[↓GE,PL,PP,EE,QQ,seval,w1,lm]|(simp (disch:=omega) only[i6])|(apply go_brD<;>intro h)|(apply go_gsD aE<;>intro h)|(apply go_br<;>intro h)|(apply go_gs aE<;>intro h)|(apply go_call 5000 (e1) rfl rfl;iterate 4 (first|(exact CallForm.plain rfl)|exact aC))|(apply go_call 5000 (e2) rfl rfl;iterate 4 (first|(exact CallForm.plain rfl)|exact aC))|(apply go_call 5000 (e3) rfl rfl;iterate 4 (first|(exact CallForm.plain rfl)|exact aC))|(with_reducible apply And.intro)|exact aG|fail)
 refine go_loopz 5000 hm0 (ι:={q:Nat × Nat // q.1≤w}) (fun q=>[(8,.bp 8 0 0),(9,I 0),(16,.bp 16 0 0),(58,.d (dRows PS)),(59,I PS.length),(60,I q.1.1)]) (fun q=>[(8,.box 0 [.nl 1,.nl 1]),(16,.box 0 [.og 69 q.1.2,.d (dInts WS)]),(69,.arr q.1.2 1 true ((heads (PS.take q.1.1)).map eI))]) (fun q=>w-q.1.1) [] [69] ⟨(0,0),Nat.zero_le _⟩ ?_ ?_
 ·simp only[GeZ];(simp only[GeS];refine⟨?_,?_,?_,?_⟩;all_goals (repeat' (first|(with_reducible exact True.intro)|(with_reducible rfl)|simp only[XC,↓reduceIte,seval]|(with_reducible apply And.intro)|(refine⟨_,rfl,?_⟩)|(simp [heads];done)|exact aS|fail)))
 ·rintro⟨⟨k,v⟩,hk⟩
  simp only at hk ⊢
  by_cases hkl:k<w
  ·have r1:decide ((k:Int)<(PS.length:Int))=true:=dt (by omega)
   have u1:IntKind.i64.wrap ((k:Int)+1)=((k+1:Nat):Int):=by rw[i6 _ (by omega)];omega
   have hkp:k<PS.length:=by omega
   have hnx:=heads_next hkp
   have hs:=getD_map eR [] [] PS k hkp
   have hhl:(heads (PS.take k)).length=k:=by rw[heads_len,List.length_take];omega
   have hr:=hrow k hkl
   generalize PS.getD k []=r at *
   generalize heads (PS.take k)=HH at *
   have e4:=coefficient r 0 (by omega) (by omega)
   repeat' (first|simp (maxSteps:=9999999) only[↓GE,PL,PP,EE,QQ,seval,r1,u1,hs,hkp,hhl,eR,lm]|(simp (disch:=omega) only[i6])|(apply go_brD<;>intro h)|(apply go_gsD aE<;>intro h)|(apply go_br<;>intro h)|(apply go_gs aE<;>intro h)|(apply go_call 5000 (e4) rfl rfl;iterate 4 (first|(exact CallForm.plain rfl)|exact aC))|(with_reducible apply And.intro)|exact aG|fail)
   refine⟨[],[],⟨(k+1,v+1),hkl⟩,?_,by simp only;omega⟩
   simp only[GeZ];(simp only[GeS];refine⟨?_,?_,?_,?_⟩;all_goals (repeat' (first|(with_reducible exact True.intro)|(with_reducible rfl)|simp only[XC,↓reduceIte,seval]|(with_reducible apply And.intro)|(refine⟨_,rfl,?_⟩)|(simp [hnx,eI];done)|exact aS|fail)))
  ·obtain rfl:k=w:=by omega
   have r1:decide ((k:Int)<(PS.length:Int))=false:=df (by omega)
   have ht:PS.take k=PS:=List.take_of_length_le (by omega)
   rw[ht]
   repeat' (first|simp (maxSteps:=9999999) only[↓GE,PL,PP,EE,QQ,seval,r1]|(simp (disch:=omega) only[i6])|(apply go_brD<;>intro h)|(apply go_gsD aE<;>intro h)|(apply go_br<;>intro h)|(apply go_gs aE<;>intro h)|(with_reducible apply And.intro)|exact aG|fail)
   all_goals ((first|apply ret_mk []|apply end_mk []);(· exact aR);(· exact aZ);all_goals exact aF)
end Go.Proofs.YtacfbiegbdlldaaGreatDoor.Sim
end
