/- The sanity check of the tops. -/
import Derived.Test.YtacfbiegbdlldaaGreatDoorVTpCq
import Derived.Test.YtacfbiegbdlldaaGreatDoorVTpY
section
namespace Go.Proofs.YtacfbiegbdlldaaGreatDoor.Sim
open Go Go.RowKit Go.Deep
set_option maxRecDepth 100000
set_option maxHeartbeats 4000000
set_option linter.unusedVariables false
set_option linter.unusedSimpArgs false
attribute [local irreducible] Go Mean
theorem queriesC_3 (p:Int) (deg rows ix:Nat) (hf:fieldB p=true) (hsp:3<p) (h5:1≤deg) (h6:deg<3) (h1:1≤rows) (h2:rows≤1024) (hix:ix<rows) (nums:List Int) (at_:Nat) (ht:TapeOK nums at_ p (rows*deg)) :
  Does Tryz.prog 13 [.ag [I p],.ag [I 3,I deg],I rows,I ix,.ag [.d (dInts nums),I at_]] [] (.tu [.d (dRows [colQ p (cfQ ix deg (drwF nums at_ (rows*deg))) 0 rows,colQ p (cfQ ix deg (drwF nums at_ (rows*deg))) 1 rows,colQ p (cfQ ix deg (drwF nums at_ (rows*deg))) 2 rows]),.ag [.d (dInts nums),I (at_+rows*deg:Nat)],I 0]) [] []:=by
 refine G17' rfl BxOK.nil fun cx hm0=>Awp.seal (go_in 5000 ?_)
 unfold A17' R17'
 have hp:=(fieldB_iff.1 hf).1
 have hp2:=(fieldB_iff.1 hf).2.1
 have e1:=checkRows p 3 deg rows hf ⟨by omega,by omega,by omega,by omega⟩ hsp (by omega) (by omega)
 have hrd:rows*deg≤1024*10:=Nat.mul_le_mul h2 (by omega)
 have w0:IntKind.i64.wrap ((rows:Int)*(deg:Int))=((rows*deg:Nat):Int):=by rw[← Int.natCast_mul];exact i6 _ (by omega)
 have e0:=drawsT nums at_ p (rows*deg) ht.len (by omega) (by omega) ht.dr
 have hdi:=drw_in ht.dr
 have hdl:=drw_len ht.dr
 have hdd:(nums.drop at_).take (rows*deg)=drwF nums at_ (rows*deg):=rfl
 rw[hdd] at e0
 have htl:=ht.len
 have hdo:=ht.dr.1
 generalize drwF nums at_ (rows*deg)=dr at *
 have q1:decide ((ix:Int)<0)=false:=df (by omega)
 have q2:decide ((rows:Int)≤(ix:Int))=false:=df (by omega)
 repeat' (first|simp (maxSteps:=9999999) only[↓GE,PL,PP,EE,QQ,seval,q1,q2,w0]|(simp (disch:=omega) only[i6])|(apply go_brD<;>intro h)|(apply go_gsD aE<;>intro h)|(apply go_br<;>intro h)|(apply go_gs aE<;>intro h)|(apply go_call 5000 (e1) rfl rfl;iterate 4 (first|(exact CallForm.plain rfl)|exact aC))|(apply go_call 5000 (e0) rfl rfl;iterate 4 (first|(exact CallForm.plain rfl)|exact aC))|(with_reducible apply And.intro)|exact aG|fail)
 refine go_loopz 5000 hm0 (ι:={q:Nat × Nat // q.1≤rows}) (fun i=>[(2,I rows),(3,I ix),(5,.bp 5 0 0),(6,.bp 6 0 0),(9,.bp 9 0 0),(11,.bp 11 0 0),(15,.d (dInts dr)),(17,.ep 59 0 3 1),(60,I rows),(61,I i.1.1)]) (fun i=>[(5,.box 0 [I p]),(6,.box 0 [I 3,I deg]),(9,.box 0 [.d (dInts nums),I at_]),(11,.box 0 [.nl 1,I 0]),(59,.box 0 [.og 5000 i.1.2,.og 5001 i.1.2,.og 5002 i.1.2]),(5000,.arr i.1.2 1 true ((colQ p (cfQ ix deg dr) 0 i.1.1).map eI)),(5001,.arr i.1.2 1 true ((colQ p (cfQ ix deg dr) 1 i.1.1).map eI)),(5002,.arr i.1.2 1 true ((colQ p (cfQ ix deg dr) 2 i.1.1).map eI))]) (fun i=>rows-i.1.1) [] [5000,5001,5002] ⟨(0,0),Nat.zero_le _⟩ ?_ ?_
 ·simp only[GeZ];(simp only[GeS];refine⟨?_,?_,?_,?_⟩;all_goals (repeat' (first|(with_reducible exact True.intro)|(with_reducible rfl)|simp only[XC,↓reduceIte,seval]|(with_reducible apply And.intro)|(refine⟨_,rfl,?_⟩)|(simp [colQ];done)|exact aS|fail)))
 rintro⟨⟨i,v⟩,hi⟩
 simp only at hi
 by_cases hir:i<rows
 ·have q3:decide ((i:Int)<(rows:Int))=true:=dt (by omega)
  have hid:(i+1)*deg=i*deg+deg:=by rw[Nat.add_mul,Nat.one_mul]
  have hle:(i+1)*deg≤rows*deg:=Nat.mul_le_mul_right _ hir
  have w1:IntKind.i64.wrap ((i:Int)+1)=((i+1:Nat):Int):=by rw[i6 _ (by omega)];omega
  have w2:IntKind.i64.wrap ((i:Int)*(deg:Int))=((i*deg:Nat):Int):=by rw[← Int.natCast_mul];exact i6 _ (by omega)
  have w3:IntKind.i64.wrap (((i+1:Nat):Int)*(deg:Int))=(((i+1)*deg:Nat):Int):=by rw[← Int.natCast_mul];exact i6 _ (by omega)
  have e2:=splitT p (if i=ix then 1 else 0) deg 3 ((dr.take ((i+1)*deg)).drop (i*deg)) 0 hf (by split <;> omega) (by omega) (by omega) (by omega) (by omega) (by rw[List.length_drop,List.length_take];omega) (part_ok hdi (by omega))
  have hnl:((dr.take ((i+1)*deg)).drop (i*deg)).length=deg:=by rw[List.length_drop,List.length_take];omega
  rw[show (if i=ix then 1 else 0) :: (((dr.take ((i+1)*deg)).drop (i*deg)).drop 0).take deg=cfQ ix deg dr i by rw[cfQ,List.drop_zero,List.take_of_length_le (by omega)]] at e2
  have hmt:(dr.map eI).take ((i+1)*deg)=(dr.take ((i+1)*deg)).map eI:=List.map_take.symm
  have hmd:((dr.take ((i+1)*deg)).map eI).drop (i*deg)=((dr.take ((i+1)*deg)).drop (i*deg)).map eI:=List.map_drop.symm
  have hlo:i*deg≤(i+1)*deg:=by omega
  have hhi:(i+1)*deg≤dr.length:=by omega
  have hsl:(shareF p (cfQ ix deg dr i) (ptsF 3)).length=3:=by rw[shareF_len,ptsF_len]
  have hN0:(colQ p (cfQ ix deg dr) 0 (i+1)).map eI=(colQ p (cfQ ix deg dr) 0 i).map eI++[eI (valF p (cfQ ix deg dr i) 1)]:=by rw[colQ,List.map_append];rfl
  have hl0:=colQ_len (p:=p) (cf:=(cfQ ix deg dr)) (k:=0) (i:=i)
  have hs0:((shareF p (cfQ ix deg dr i) (ptsF 3)).map eS).getD 0 []=[.at (.int .i64 1),.at (.int .i64 (valF p (cfQ ix deg dr i) 1))]:=by rw[getD_map eS [] (0,0) _ _ (by rw[shareF_len,ptsF_len];omega),shareF_get (by omega)];rfl
  have hN1:(colQ p (cfQ ix deg dr) 1 (i+1)).map eI=(colQ p (cfQ ix deg dr) 1 i).map eI++[eI (valF p (cfQ ix deg dr i) 2)]:=by rw[colQ,List.map_append];rfl
  have hl1:=colQ_len (p:=p) (cf:=(cfQ ix deg dr)) (k:=1) (i:=i)
  have hs1:((shareF p (cfQ ix deg dr i) (ptsF 3)).map eS).getD 1 []=[.at (.int .i64 2),.at (.int .i64 (valF p (cfQ ix deg dr i) 2))]:=by rw[getD_map eS [] (0,0) _ _ (by rw[shareF_len,ptsF_len];omega),shareF_get (by omega)];rfl
  have hN2:(colQ p (cfQ ix deg dr) 2 (i+1)).map eI=(colQ p (cfQ ix deg dr) 2 i).map eI++[eI (valF p (cfQ ix deg dr i) 3)]:=by rw[colQ,List.map_append];rfl
  have hl2:=colQ_len (p:=p) (cf:=(cfQ ix deg dr)) (k:=2) (i:=i)
  have hs2:((shareF p (cfQ ix deg dr i) (ptsF 3)).map eS).getD 2 []=[.at (.int .i64 3),.at (.int .i64 (valF p (cfQ ix deg dr i) 3))]:=by rw[getD_map eS [] (0,0) _ _ (by rw[shareF_len,ptsF_len];omega),shareF_get (by omega)];rfl
  generalize cfQ ix deg dr i=cf at *
  apply join_on (α:=Unit) (C:=fun _=>True)
  ·intro hkey
   obtain⟨un,-⟩:∃ un:Unit,True:=⟨(),trivial⟩
   by_cases hii:i=ix
   all_goals
    first
    |have hq:((i:Int) == (ix:Int))=true:=by rw[beq_iff_eq];omega
     have e2':=e2
     rw[if_pos hii] at e2'
    |have hq:((i:Int) == (ix:Int))=false:=by rw[beq_eq_false_iff_ne];omega
     have e2':=e2
     rw[if_neg hii] at e2'
   all_goals
    repeat' (first|simp (maxSteps:=9999999) only[↓GE,PL,PP,EE,QQ,seval,q3,hq,w1,w2,w3,hmt,hmd,hlo,hhi,hsl,lm]|(simp (disch:=omega) only[i6])|(apply go_brD<;>intro h)|(apply go_gsD aE<;>intro h)|(apply go_br<;>intro h)|(apply go_gs aE<;>intro h)|(apply go_call 5000 (e2') rfl rfl;iterate 4 (first|(exact CallForm.plain rfl)|exact aC))|(with_reducible apply And.intro)|exact aG|fail)
   all_goals
    refine awp_meet hm0 [] [] [(2,I rows),(3,I ix),(5,.bp 5 0 0),(6,.bp 6 0 0),(9,.bp 9 0 0),(11,.bp 11 0 0),(15,.d (dInts dr)),(17,.ep 59 0 3 1),(60,I rows),(61,I i),(94,.d (dShares (shareF p cf (ptsF 3)))),(95,I 3),(96,I 0)] [(5,.box 0 [I p]),(6,.box 0 [I 3,I deg]),(9,.box 0 [.d (dInts nums),I at_]),(11,.box 0 [.nl 1,I 0]),(59,.box 0 [.og 5000 v,.og 5001 v,.og 5002 v]),(5000,.arr v 1 true ((colQ p (cfQ ix deg dr) 0 i).map eI)),(5001,.arr v 1 true ((colQ p (cfQ ix deg dr) 1 i).map eI)),(5002,.arr v 1 true ((colQ p (cfQ ix deg dr) 2 i).map eI))] ?_ (hkey un trivial)
    simp only[GeZ];exact aH
  intro _ _
  refine go_loop 5000 hm0 (ι:={c:Nat // c≤3}) (fun c=>[(2,I rows),(3,I ix),(5,.bp 5 0 0),(6,.bp 6 0 0),(9,.bp 9 0 0),(11,.bp 11 0 0),(15,.d (dInts dr)),(17,.ep 59 0 3 1),(60,I rows),(61,I i),(94,.d (dShares (shareF p cf (ptsF 3)))),(95,I 3),(96,I c.1)]) (fun c=>[(5,.box 0 [I p]),(6,.box 0 [I 3,I deg]),(9,.box 0 [.d (dInts nums),I at_]),(11,.box 0 [.nl 1,I 0]),(59,.box 0 [.og 5000 (v+if 0<c.1 then 1 else 0),.og 5001 (v+if 1<c.1 then 1 else 0),.og 5002 (v+if 2<c.1 then 1 else 0)]),(5000,.arr (v+if 0<c.1 then 1 else 0) 1 true (if 0<c.1 then (colQ p (cfQ ix deg dr) 0 (i+1)).map eI else (colQ p (cfQ ix deg dr) 0 i).map eI)),(5001,.arr (v+if 1<c.1 then 1 else 0) 1 true (if 1<c.1 then (colQ p (cfQ ix deg dr) 1 (i+1)).map eI else (colQ p (cfQ ix deg dr) 1 i).map eI)),(5002,.arr (v+if 2<c.1 then 1 else 0) 1 true (if 2<c.1 then (colQ p (cfQ ix deg dr) 2 (i+1)).map eI else (colQ p (cfQ ix deg dr) 2 i).map eI))]) (fun c=>3-c.1) [] ⟨0,Nat.zero_le _⟩ ?_ ?_
  ·exact aH
  rintro⟨c,hc⟩
  have hcs:c=0∨c=1∨c=2∨c=3:=by omega
  rcases hcs with rfl|rfl|rfl|rfl
  ·repeat' (first|simp (maxSteps:=9999999) only[↓GE,PL,PP,EE,QQ,seval,hs0,hl0,hsl,lm]|(simp (disch:=omega) only[i6])|(apply go_brD<;>intro h)|(apply go_gsD aE<;>intro h)|(apply go_br<;>intro h)|(apply go_gs aE<;>intro h)|(with_reducible apply And.intro)|exact aG|fail)
   refine⟨⟨1,by omega⟩,?_,by simp only;omega⟩
   (simp only[GeS];refine⟨?_,?_,?_,?_⟩;all_goals (repeat' (first|(with_reducible exact True.intro)|(with_reducible rfl)|simp only[XC,↓reduceIte,seval]|(with_reducible apply And.intro)|(refine⟨_,rfl,?_⟩)|(simp [hN0,eI];done)|exact aS|fail)))
  ·repeat' (first|simp (maxSteps:=9999999) only[↓GE,PL,PP,EE,QQ,seval,hs1,hl1,hsl,lm]|(simp (disch:=omega) only[i6])|(apply go_brD<;>intro h)|(apply go_gsD aE<;>intro h)|(apply go_br<;>intro h)|(apply go_gs aE<;>intro h)|(with_reducible apply And.intro)|exact aG|fail)
   refine⟨⟨2,by omega⟩,?_,by simp only;omega⟩
   (simp only[GeS];refine⟨?_,?_,?_,?_⟩;all_goals (repeat' (first|(with_reducible exact True.intro)|(with_reducible rfl)|simp only[XC,↓reduceIte,seval]|(with_reducible apply And.intro)|(refine⟨_,rfl,?_⟩)|(simp [hN1,eI];done)|exact aS|fail)))
  ·repeat' (first|simp (maxSteps:=9999999) only[↓GE,PL,PP,EE,QQ,seval,hs2,hl2,hsl,lm]|(simp (disch:=omega) only[i6])|(apply go_brD<;>intro h)|(apply go_gsD aE<;>intro h)|(apply go_br<;>intro h)|(apply go_gs aE<;>intro h)|(with_reducible apply And.intro)|exact aG|fail)
   refine⟨⟨3,by omega⟩,?_,by simp only;omega⟩
   (simp only[GeS];refine⟨?_,?_,?_,?_⟩;all_goals (repeat' (first|(with_reducible exact True.intro)|(with_reducible rfl)|simp only[XC,↓reduceIte,seval]|(with_reducible apply And.intro)|(refine⟨_,rfl,?_⟩)|(simp [hN2,eI];done)|exact aS|fail)))
  ·repeat' (first|simp (maxSteps:=9999999) only[↓GE,PL,PP,EE,QQ,seval]|(simp (disch:=omega) only[i6])|(apply go_brD<;>intro h)|(apply go_gsD aE<;>intro h)|(apply go_br<;>intro h)|(apply go_gs aE<;>intro h)|(with_reducible apply And.intro)|exact aG|fail)
   refine⟨[],[],⟨(i+1,v+1),hir⟩,?_,by simp only;omega⟩
   simp only[GeZ];exact aH
 ·obtain rfl:i=rows:=by omega
  have q3:decide ((i:Int)<(i:Int))=false:=df (by omega)
  have w4:IntKind.i64.wrap ((at_:Int)+((i*deg:Nat):Int))=((at_+i*deg:Nat):Int):=by rw[i6 _ (by omega)];omega
  repeat' (first|simp (maxSteps:=9999999) only[↓GE,PL,PP,EE,QQ,seval,q3,hdl,w4,lm]|(simp (disch:=omega) only[i6])|(apply go_brD<;>intro h)|(apply go_gsD aE<;>intro h)|(apply go_br<;>intro h)|(apply go_gs aE<;>intro h)|(with_reducible apply And.intro)|exact aG|fail)
  refine seal_mk 10 59 (v:=0) (n:=3) (q:=1) (cs:=[.og 5000 v,.og 5001 v,.og 5002 v]) (ds:=[dInts (colQ p (cfQ ix deg dr) 0 i),dInts (colQ p (cfQ ix deg dr) 1 i),dInts (colQ p (cfQ ix deg dr) 2 i)]) ?_ ?_ rfl (by simp [maxLen]) ?_ ?_ ?_
  ·exact aR
  ·exact aR
  ·exact aR
  ·exact aR
  ·((first|apply ret_mk []|apply end_mk []);(· exact aR);(· exact aZ);all_goals exact aF)
end Go.Proofs.YtacfbiegbdlldaaGreatDoor.Sim
end
section
namespace Go.Proofs.YtacfbiegbdlldaaGreatDoor.Sim
open Go Go.RowKit Go.Deep
open Go.Proofs.YtacfbiegbdlldaaGreatDoor.Tw (WCell kn kn_len kn_all kn_next)
set_option maxRecDepth 100000
set_option maxHeartbeats 4000000
def fillB (p:Int) (l:List WCell) (k:Nat):Bool:=(List.range ((knS l).take k).length).all fun j=>decide (0<valF p (intN p ((knS l).take k) j).2 (((knS l).take k).getD j (0,0)).1)
theorem fillB_ok {p:Int} {l:List WCell} {k:Nat} (h:fillB p l k=true):FillOK p l k:=fun j hj=>by
 have:=List.all_eq_true.1 h j (List.mem_range.2 hj)
 exact of_decide_eq_true this
def decB (p:Int) (l:List WCell) (k:Nat):Bool:=fillB p l k&&okZ (k+2*decW l k) ((decS p l k).1.drop (decS p l k).2.1)&&(trimF (decD p l k).1).isEmpty&&decide ((decP p l k).length≤k)&&decide ((wrN p (decP p l k) 0 l).length≤decW l k)
theorem decB_ok {p:Int} {l:List WCell} {k:Nat} (h:decB p l k=true):DecOK p l k:=by
 unfold decB at h
 simp only[Bool.and_eq_true,decide_eq_true_eq,List.isEmpty_iff] at h
 obtain⟨⟨⟨⟨h1,h2⟩,h3⟩,h4⟩,h5⟩:=h
 exact⟨fillB_ok h1,h2,h3,h4,h5⟩
def onceA (l:List Int):Bool:=(List.range (l.length-1)).all fun i=>l.getD (i+1) 0 != l.getD i 0
def colsB (p:Int) (need w:Nat) (l:List PAns):Bool:=((List.range w).all fun i=>decB p (colC i l) need)&&decide ((wrgsF p need w l).length≤12)&&onceA (sortF (wrgsF p need w l))
theorem colsB_ok {p:Int} {need w:Nat} {l:List PAns} (h:colsB p need w l=true):ColsOK p need w l:=by
 unfold colsB at h
 simp only[Bool.and_eq_true,decide_eq_true_eq,List.all_eq_true,List.mem_range] at h
 obtain⟨⟨h1,h2⟩,h3⟩:=h
 refine⟨fun i hi=>decB_ok (h1 i hi),h2,fun i hi=>?_⟩
 have:=List.all_eq_true.1 h3 i (List.mem_range.2 (by omega))
 simpa using this
def awA:List PAns:=[⟨true,[3,0]⟩,⟨false,[]⟩,⟨true,[3,2]⟩]
theorem awA_ok:colsB 5 2 2 awA=true:=by kernel_rfl
theorem awA_row:heads (polysF 5 2 2 awA)=[3,4]:=by kernel_rfl
theorem awA_wr:sortF (wrgsF 5 2 2 awA)=[]:=by kernel_rfl
theorem root_le {d r p:Int} (h0:2≤d) (h:d*d≤p) (hr0:0≤r) (hr:p<(r+1)*(r+1)):d≤r:=by
 rcases Int.lt_or_le r d with h1|h1
 ·have:=Int.mul_le_mul (show r+1≤d by omega) (show r+1≤d by omega) (by omega) (by omega)
  omega
 ·exact h1
theorem field5:fieldB 5=true:=fieldB_iff.2 ⟨by decide,by decide,fun d h1 h2=>by
 have:=root_le (r:=2) h1 h2 (by decide) (by decide)
 obtain rfl:d=2:=by omega
 decide⟩
end Go.Proofs.YtacfbiegbdlldaaGreatDoor.Sim
end
section
namespace Go.Proofs.YtacfbiegbdlldaaGreatDoor.Sim
open Go Go.RowKit Go.Deep
set_option maxRecDepth 100000
set_option maxHeartbeats 4000000
set_option linter.unusedVariables false
set_option linter.unusedSimpArgs false
attribute [local irreducible] Go Mean
theorem awQ0:colQ 5 (cfQ 1 1 (drwF [4,2] 0 (2*1))) 0 2=[4,3]:=by kernel_rfl
theorem awQ1:colQ 5 (cfQ 1 1 (drwF [4,2] 0 (2*1))) 1 2=[3,0]:=by kernel_rfl
theorem awQ2:colQ 5 (cfQ 1 1 (drwF [4,2] 0 (2*1))) 2 2=[2,2]:=by kernel_rfl
theorem awR0:combL 5 2 [4,3] [[1,2],[3,4]]=[3,0]:=by kernel_rfl
theorem awR2:combL 5 2 [2,2] [[1,2],[3,4]]=[3,2]:=by kernel_rfl
theorem awakeT:Does Tryz.prog 5 [] [] (B true) [] []:=by
 refine G1' rfl BxOK.nil fun cx hm0=>go_in 5000 ?_
 unfold A1' R1'
 have hdr:DrawOK [4,2] 0 5 (2*1):=⟨by decide,by decide⟩
 have e1:Does Tryz.prog 13 [.ag [I 5],.ag [I 3,I 1],I 2,I 1,.ag [.d (dInts [4,2]),I 0]] [] (.tu [.d (dRows [[4,3],[3,0],[2,2]]),.ag [.d (dInts [4,2]),I 2],I 0]) [] []:=by
  have h:=queriesC_3 5 1 2 1 field5 (by decide) (by decide) (by decide) (by decide) (by decide) (by decide) [4,2] 0 ⟨by decide,hdr⟩
  rw[awQ0,awQ1,awQ2] at h
  exact h
 have hr:RowsOK 5 2 [[1,2],[3,4]]:=by unfold RowsOK;decide
 have e2:Does Tryz.prog 23 [.ag [I 5],I 2,.d (dRows [[1,2],[3,4]]),.d (dInts [4,3])] [] (.tu [.d (dInts [3,0]),I 0]) [] []:=by
  have h:=answerT 5 2 [4,3] [[1,2],[3,4]] field5 (by decide) rfl hr (by decide) (by decide)
  rw[awR0] at h
  exact h
 have e3:Does Tryz.prog 23 [.ag [I 5],I 2,.d (dRows [[1,2],[3,4]]),.d (dInts [2,2])] [] (.tu [.d (dInts [3,2]),I 0]) [] []:=by
  have h:=answerT 5 2 [2,2] [[1,2],[3,4]] field5 (by decide) rfl hr (by decide) (by decide)
  rw[awR2] at h
  exact h
 have ha:AnsOK 5 2 awA:=by
  intro a h hk
  simp only[awA,List.mem_cons,List.not_mem_nil,or_false] at h
  rcases h with rfl|rfl|rfl
  ·decide
  ·cases hk
  ·decide
 have e4:Does Tryz.prog 19 [.ag [I 5],.ag [I 3,I 1],I 2,.d (dAns awA)] [] (.tu [.ag [.d (dInts [3,4]),.d (dInts [])],I 0]) [] []:=by
  have h:=curveDecode 5 3 1 2 awA field5 ⟨by decide,by decide,by decide,by decide⟩ (by decide) (by decide) (by decide) ha (by decide) (colsB_ok awA_ok)
  rw[awA_row,awA_wr] at h
  exact h
 have e5:=sameI [3,4] [3,4] (by decide) (by decide)
 simp only[decide_true] at e5
 repeat' (first|simp (maxSteps:=9999999) only[↓GE,PL,PP,EE,QQ,seval,eI,eR]|(simp (disch:=omega) only[i6])|(apply go_brD<;>intro h)|(apply go_gsD aE<;>intro h)|(apply go_br<;>intro h)|(apply go_gs aE<;>intro h)|(apply go_call 5000 (e1) rfl rfl;iterate 4 (first|(exact CallForm.plain rfl)|exact aC))|(with_reducible apply And.intro)|exact aG|fail)
 (apply go_call 5000 e2 rfl rfl;iterate 4 (first|(exact CallForm.plain rfl)|exact aC))
 repeat' (first|simp (maxSteps:=9999999) only[↓GE,PL,PP,EE,QQ,seval,eI,eR]|(simp (disch:=omega) only[i6])|(apply go_brD<;>intro h)|(apply go_gsD aE<;>intro h)|(apply go_br<;>intro h)|(apply go_gs aE<;>intro h)|(with_reducible apply And.intro)|exact aG|fail)
 (apply go_call 5000 e3 rfl rfl;iterate 4 (first|(exact CallForm.plain rfl)|exact aC))
 repeat' (first|simp (maxSteps:=9999999) only[↓GE,PL,PP,EE,QQ,seval,eI,eR]|(simp (disch:=omega) only[i6])|(apply go_brD<;>intro h)|(apply go_gsD aE<;>intro h)|(apply go_br<;>intro h)|(apply go_gs aE<;>intro h)|(apply go_call 5000 (e4) rfl rfl;iterate 4 (first|(exact CallForm.plain rfl)|exact aC))|(apply go_call 5000 (e5) rfl rfl;iterate 4 (first|(exact CallForm.plain rfl)|exact aC))|(with_reducible apply And.intro)|exact aG|fail)
 all_goals ((first|apply ret_mk []|apply end_mk []);(· exact aR);(· exact aZ);all_goals exact aF)
end Go.Proofs.YtacfbiegbdlldaaGreatDoor.Sim
end
