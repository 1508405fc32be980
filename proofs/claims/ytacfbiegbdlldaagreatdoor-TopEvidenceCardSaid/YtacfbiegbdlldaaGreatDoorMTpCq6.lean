/- Queries on polynomials, 6 servers. -/
import Derived.Test.YtacfbiegbdlldaaGreatDoorMTpCq
namespace Go.Proofs.YtacfbiegbdlldaaGreatDoor.Sim
open Go Go.RowKit Go.Deep
set_option maxRecDepth 100000
set_option maxHeartbeats 4000000
set_option linter.unusedVariables false
set_option linter.unusedSimpArgs false
attribute [local irreducible] Go Mean
theorem queriesC_6 (p:Int) (deg rows ix:Nat) (hf:fieldB p=true) (hsp:6<p) (h5:1≤deg) (h6:deg<6) (h1:1≤rows) (h2:rows≤1024) (hix:ix<rows) (nums:List Int) (at_:Nat) (ht:TapeOK nums at_ p (rows*deg)) :
  Does Tryz.prog 13 [.ag [I p],.ag [I 6,I deg],I rows,I ix,.ag [.d (dInts nums),I at_]] [] (.tu [.d (dRows [colQ p (cfQ ix deg (drwF nums at_ (rows*deg))) 0 rows,colQ p (cfQ ix deg (drwF nums at_ (rows*deg))) 1 rows,colQ p (cfQ ix deg (drwF nums at_ (rows*deg))) 2 rows,colQ p (cfQ ix deg (drwF nums at_ (rows*deg))) 3 rows,colQ p (cfQ ix deg (drwF nums at_ (rows*deg))) 4 rows,colQ p (cfQ ix deg (drwF nums at_ (rows*deg))) 5 rows]),.ag [.d (dInts nums),I (at_+rows*deg:Nat)],I 0]) [] []:=by
 refine go_curve_Queries rfl BxOK.nil fun cx hm0=>Awp.seal (go_in 5000 ?_)
 unfold ac_curve_Queries rs_curve_Queries
 have hp:=(fieldB_iff.1 hf).1
 have hp2:=(fieldB_iff.1 hf).2.1
 have e1:=checkRows p 6 deg rows hf ⟨by omega,by omega,by omega,by omega⟩ hsp (by omega) (by omega)
 have hrd:rows*deg≤1024*10:=Nat.mul_le_mul h2 (by omega)
 have w0:IntKind.i64.wrap ((rows:Int)*(deg:Int))=((rows*deg:Nat):Int):=by rw[← Int.natCast_mul];exact IntWalk.i64_in _ (by omega)
 have e0:=drawsT nums at_ p (rows*deg) ht.len (by omega) (by omega) ht.dr
 have hdi:=drw_in ht.dr
 have hdl:=drw_len ht.dr
 have hdd:(nums.drop at_).take (rows*deg)=drwF nums at_ (rows*deg):=rfl
 rw[hdd] at e0
 have htl:=ht.len
 have hdo:=ht.dr.1
 generalize drwF nums at_ (rows*deg)=dr at *
 have q1:decide ((ix:Int)<0)=false:=decide_eq_false (by omega)
 have q2:decide ((rows:Int)≤(ix:Int))=false:=decide_eq_false (by omega)
 repeat' (first|simp (maxSteps:=9999999) only[↓GE,PL,PP,EE,QQ,seval,q1,q2,w0]|(simp (disch:=omega) only[IntWalk.i64_in])|(apply go_brD<;>intro h)|(apply go_gsD aE<;>intro h)|(apply go_br<;>intro h)|(apply go_gs aE<;>intro h)|(apply go_call 5000 (e1) rfl rfl;iterate 4 (first|(exact CallForm.plain rfl)|exact aC))|(apply go_call 5000 (e0) rfl rfl;iterate 4 (first|(exact CallForm.plain rfl)|exact aC))|(with_reducible apply And.intro)|exact aG|fail)
 refine go_loopz 5000 hm0 (ι:={q:Nat × Nat // q.1≤rows}) (fun i=>[(2,I rows),(3,I ix),(5,.bp 5 0 0),(6,.bp 6 0 0),(9,.bp 9 0 0),(11,.bp 11 0 0),(15,.d (dInts dr)),(17,.ep 59 0 6 1),(60,I rows),(61,I i.1.1)]) (fun i=>[(5,.box 0 [I p]),(6,.box 0 [I 6,I deg]),(9,.box 0 [.d (dInts nums),I at_]),(11,.box 0 [.nl 1,I 0]),(59,.box 0 [.og 5000 i.1.2,.og 5001 i.1.2,.og 5002 i.1.2,.og 5003 i.1.2,.og 5004 i.1.2,.og 5005 i.1.2]),(5000,.arr i.1.2 1 true ((colQ p (cfQ ix deg dr) 0 i.1.1).map eI)),(5001,.arr i.1.2 1 true ((colQ p (cfQ ix deg dr) 1 i.1.1).map eI)),(5002,.arr i.1.2 1 true ((colQ p (cfQ ix deg dr) 2 i.1.1).map eI)),(5003,.arr i.1.2 1 true ((colQ p (cfQ ix deg dr) 3 i.1.1).map eI)),(5004,.arr i.1.2 1 true ((colQ p (cfQ ix deg dr) 4 i.1.1).map eI)),(5005,.arr i.1.2 1 true ((colQ p (cfQ ix deg dr) 5 i.1.1).map eI))]) (fun i=>rows-i.1.1) [] [5000,5001,5002,5003,5004,5005] ⟨(0,0),Nat.zero_le _⟩ ?_ ?_
 ·simp only[GeZ];(simp only[GeS];refine⟨?_,?_,?_,?_⟩;all_goals (repeat' (first|(with_reducible exact True.intro)|(with_reducible rfl)|simp only[XC,↓reduceIte,seval]|(with_reducible apply And.intro)|(refine⟨_,rfl,?_⟩)|(simp [colQ];done)|exact aS|fail)))
 rintro⟨⟨i,v⟩,hi⟩
 simp only at hi
 by_cases hir:i<rows
 ·have q3:decide ((i:Int)<(rows:Int))=true:=decide_eq_true (by omega)
  have hid:(i+1)*deg=i*deg+deg:=by rw[Nat.add_mul,Nat.one_mul]
  have hle:(i+1)*deg≤rows*deg:=Nat.mul_le_mul_right _ hir
  have w1:IntKind.i64.wrap ((i:Int)+1)=((i+1:Nat):Int):=by rw[IntWalk.i64_in _ (by omega)];omega
  have w2:IntKind.i64.wrap ((i:Int)*(deg:Int))=((i*deg:Nat):Int):=by rw[← Int.natCast_mul];exact IntWalk.i64_in _ (by omega)
  have w3:IntKind.i64.wrap (((i+1:Nat):Int)*(deg:Int))=(((i+1)*deg:Nat):Int):=by rw[← Int.natCast_mul];exact IntWalk.i64_in _ (by omega)
  have e2:=splitT p (if i=ix then 1 else 0) deg 6 ((dr.take ((i+1)*deg)).drop (i*deg)) 0 hf (by split <;> omega) (by omega) (by omega) (by omega) (by omega) (by rw[List.length_drop,List.length_take];omega) (part_ok hdi (by omega))
  have hnl:((dr.take ((i+1)*deg)).drop (i*deg)).length=deg:=by rw[List.length_drop,List.length_take];omega
  rw[show (if i=ix then 1 else 0) :: (((dr.take ((i+1)*deg)).drop (i*deg)).drop 0).take deg=cfQ ix deg dr i by rw[cfQ,List.drop_zero,List.take_of_length_le (by omega)]] at e2
  have hmt:(dr.map eI).take ((i+1)*deg)=(dr.take ((i+1)*deg)).map eI:=List.map_take.symm
  have hmd:((dr.take ((i+1)*deg)).map eI).drop (i*deg)=((dr.take ((i+1)*deg)).drop (i*deg)).map eI:=List.map_drop.symm
  have hlo:i*deg≤(i+1)*deg:=by omega
  have hhi:(i+1)*deg≤dr.length:=by omega
  have hsl:(shareF p (cfQ ix deg dr i) (ptsF 6)).length=6:=by rw[shareF_len,ptsF_len]
  have hN0:(colQ p (cfQ ix deg dr) 0 (i+1)).map eI=(colQ p (cfQ ix deg dr) 0 i).map eI++[eI (valF p (cfQ ix deg dr i) 1)]:=by rw[colQ,List.map_append];rfl
  have hl0:=colQ_len (p:=p) (cf:=(cfQ ix deg dr)) (k:=0) (i:=i)
  have hs0:((shareF p (cfQ ix deg dr i) (ptsF 6)).map eS).getD 0 []=[.at (.int .i64 1),.at (.int .i64 (valF p (cfQ ix deg dr i) 1))]:=by rw[getD_map eS [] (0,0) _ _ (by rw[shareF_len,ptsF_len];omega),shareF_get (by omega)];rfl
  have hN1:(colQ p (cfQ ix deg dr) 1 (i+1)).map eI=(colQ p (cfQ ix deg dr) 1 i).map eI++[eI (valF p (cfQ ix deg dr i) 2)]:=by rw[colQ,List.map_append];rfl
  have hl1:=colQ_len (p:=p) (cf:=(cfQ ix deg dr)) (k:=1) (i:=i)
  have hs1:((shareF p (cfQ ix deg dr i) (ptsF 6)).map eS).getD 1 []=[.at (.int .i64 2),.at (.int .i64 (valF p (cfQ ix deg dr i) 2))]:=by rw[getD_map eS [] (0,0) _ _ (by rw[shareF_len,ptsF_len];omega),shareF_get (by omega)];rfl
  have hN2:(colQ p (cfQ ix deg dr) 2 (i+1)).map eI=(colQ p (cfQ ix deg dr) 2 i).map eI++[eI (valF p (cfQ ix deg dr i) 3)]:=by rw[colQ,List.map_append];rfl
  have hl2:=colQ_len (p:=p) (cf:=(cfQ ix deg dr)) (k:=2) (i:=i)
  have hs2:((shareF p (cfQ ix deg dr i) (ptsF 6)).map eS).getD 2 []=[.at (.int .i64 3),.at (.int .i64 (valF p (cfQ ix deg dr i) 3))]:=by rw[getD_map eS [] (0,0) _ _ (by rw[shareF_len,ptsF_len];omega),shareF_get (by omega)];rfl
  have hN3:(colQ p (cfQ ix deg dr) 3 (i+1)).map eI=(colQ p (cfQ ix deg dr) 3 i).map eI++[eI (valF p (cfQ ix deg dr i) 4)]:=by rw[colQ,List.map_append];rfl
  have hl3:=colQ_len (p:=p) (cf:=(cfQ ix deg dr)) (k:=3) (i:=i)
  have hs3:((shareF p (cfQ ix deg dr i) (ptsF 6)).map eS).getD 3 []=[.at (.int .i64 4),.at (.int .i64 (valF p (cfQ ix deg dr i) 4))]:=by rw[getD_map eS [] (0,0) _ _ (by rw[shareF_len,ptsF_len];omega),shareF_get (by omega)];rfl
  have hN4:(colQ p (cfQ ix deg dr) 4 (i+1)).map eI=(colQ p (cfQ ix deg dr) 4 i).map eI++[eI (valF p (cfQ ix deg dr i) 5)]:=by rw[colQ,List.map_append];rfl
  have hl4:=colQ_len (p:=p) (cf:=(cfQ ix deg dr)) (k:=4) (i:=i)
  have hs4:((shareF p (cfQ ix deg dr i) (ptsF 6)).map eS).getD 4 []=[.at (.int .i64 5),.at (.int .i64 (valF p (cfQ ix deg dr i) 5))]:=by rw[getD_map eS [] (0,0) _ _ (by rw[shareF_len,ptsF_len];omega),shareF_get (by omega)];rfl
  have hN5:(colQ p (cfQ ix deg dr) 5 (i+1)).map eI=(colQ p (cfQ ix deg dr) 5 i).map eI++[eI (valF p (cfQ ix deg dr i) 6)]:=by rw[colQ,List.map_append];rfl
  have hl5:=colQ_len (p:=p) (cf:=(cfQ ix deg dr)) (k:=5) (i:=i)
  have hs5:((shareF p (cfQ ix deg dr i) (ptsF 6)).map eS).getD 5 []=[.at (.int .i64 6),.at (.int .i64 (valF p (cfQ ix deg dr i) 6))]:=by rw[getD_map eS [] (0,0) _ _ (by rw[shareF_len,ptsF_len];omega),shareF_get (by omega)];rfl
  generalize cfQ ix deg dr i=cf at *
  apply join_on (α:=Unit) (C:=fun _=>True)
  ·intro hkey
   obtain⟨un,-⟩:∃ un:Unit,True:=⟨(),trivial⟩
   by_cases hii:i=ix
   all_goals
    first
    |have hq:((i:Int) == (ix:Int))=true:=by rw[beq_iff_eq];omega
     have e2':=e2
     rw[if_pos hii] at e2'
    |have hq:((i:Int) == (ix:Int))=false:=by rw[beq_eq_false_iff_ne];omega
     have e2':=e2
     rw[if_neg hii] at e2'
   all_goals
    repeat' (first|simp (maxSteps:=9999999) only[↓GE,PL,PP,EE,QQ,seval,q3,hq,w1,w2,w3,hmt,hmd,hlo,hhi,hsl,List.length_map]|(simp (disch:=omega) only[IntWalk.i64_in])|(apply go_brD<;>intro h)|(apply go_gsD aE<;>intro h)|(apply go_br<;>intro h)|(apply go_gs aE<;>intro h)|(apply go_call 5000 (e2') rfl rfl;iterate 4 (first|(exact CallForm.plain rfl)|exact aC))|(with_reducible apply And.intro)|exact aG|fail)
   all_goals
    refine awp_meet hm0 [] [] [(2,I rows),(3,I ix),(5,.bp 5 0 0),(6,.bp 6 0 0),(9,.bp 9 0 0),(11,.bp 11 0 0),(15,.d (dInts dr)),(17,.ep 59 0 6 1),(60,I rows),(61,I i),(94,.d (dShares (shareF p cf (ptsF 6)))),(95,I 6),(96,I 0)] [(5,.box 0 [I p]),(6,.box 0 [I 6,I deg]),(9,.box 0 [.d (dInts nums),I at_]),(11,.box 0 [.nl 1,I 0]),(59,.box 0 [.og 5000 v,.og 5001 v,.og 5002 v,.og 5003 v,.og 5004 v,.og 5005 v]),(5000,.arr v 1 true ((colQ p (cfQ ix deg dr) 0 i).map eI)),(5001,.arr v 1 true ((colQ p (cfQ ix deg dr) 1 i).map eI)),(5002,.arr v 1 true ((colQ p (cfQ ix deg dr) 2 i).map eI)),(5003,.arr v 1 true ((colQ p (cfQ ix deg dr) 3 i).map eI)),(5004,.arr v 1 true ((colQ p (cfQ ix deg dr) 4 i).map eI)),(5005,.arr v 1 true ((colQ p (cfQ ix deg dr) 5 i).map eI))] ?_ (hkey un trivial)
    simp only[GeZ];exact aH
  intro _ _
  refine go_loop 5000 hm0 (ι:={c:Nat // c≤6}) (fun c=>[(2,I rows),(3,I ix),(5,.bp 5 0 0),(6,.bp 6 0 0),(9,.bp 9 0 0),(11,.bp 11 0 0),(15,.d (dInts dr)),(17,.ep 59 0 6 1),(60,I rows),(61,I i),(94,.d (dShares (shareF p cf (ptsF 6)))),(95,I 6),(96,I c.1)]) (fun c=>[(5,.box 0 [I p]),(6,.box 0 [I 6,I deg]),(9,.box 0 [.d (dInts nums),I at_]),(11,.box 0 [.nl 1,I 0]),(59,.box 0 [.og 5000 (v+if 0<c.1 then 1 else 0),.og 5001 (v+if 1<c.1 then 1 else 0),.og 5002 (v+if 2<c.1 then 1 else 0),.og 5003 (v+if 3<c.1 then 1 else 0),.og 5004 (v+if 4<c.1 then 1 else 0),.og 5005 (v+if 5<c.1 then 1 else 0)]),(5000,.arr (v+if 0<c.1 then 1 else 0) 1 true (if 0<c.1 then (colQ p (cfQ ix deg dr) 0 (i+1)).map eI else (colQ p (cfQ ix deg dr) 0 i).map eI)),(5001,.arr (v+if 1<c.1 then 1 else 0) 1 true (if 1<c.1 then (colQ p (cfQ ix deg dr) 1 (i+1)).map eI else (colQ p (cfQ ix deg dr) 1 i).map eI)),(5002,.arr (v+if 2<c.1 then 1 else 0) 1 true (if 2<c.1 then (colQ p (cfQ ix deg dr) 2 (i+1)).map eI else (colQ p (cfQ ix deg dr) 2 i).map eI)),(5003,.arr (v+if 3<c.1 then 1 else 0) 1 true (if 3<c.1 then (colQ p (cfQ ix deg dr) 3 (i+1)).map eI else (colQ p (cfQ ix deg dr) 3 i).map eI)),(5004,.arr (v+if 4<c.1 then 1 else 0) 1 true (if 4<c.1 then (colQ p (cfQ ix deg dr) 4 (i+1)).map eI else (colQ p (cfQ ix deg dr) 4 i).map eI)),(5005,.arr (v+if 5<c.1 then 1 else 0) 1 true (if 5<c.1 then (colQ p (cfQ ix deg dr) 5 (i+1)).map eI else (colQ p (cfQ ix deg dr) 5 i).map eI))]) (fun c=>6-c.1) [] ⟨0,Nat.zero_le _⟩ ?_ ?_
  ·exact aH
  rintro⟨c,hc⟩
  have hcs:c=0∨c=1∨c=2∨c=3∨c=4∨c=5∨c=6:=by omega
  rcases hcs with rfl|rfl|rfl|rfl|rfl|rfl|rfl
  ·repeat' (first|simp (maxSteps:=9999999) only[↓GE,PL,PP,EE,QQ,seval,hs0,hl0,hsl,List.length_map]|(simp (disch:=omega) only[IntWalk.i64_in])|(apply go_brD<;>intro h)|(apply go_gsD aE<;>intro h)|(apply go_br<;>intro h)|(apply go_gs aE<;>intro h)|(with_reducible apply And.intro)|exact aG|fail)
   refine⟨⟨1,by omega⟩,?_,by simp only;omega⟩
   (simp only[GeS];refine⟨?_,?_,?_,?_⟩;all_goals (repeat' (first|(with_reducible exact True.intro)|(with_reducible rfl)|simp only[XC,↓reduceIte,seval]|(with_reducible apply And.intro)|(refine⟨_,rfl,?_⟩)|(simp [hN0,eI];done)|exact aS|fail)))
  ·repeat' (first|simp (maxSteps:=9999999) only[↓GE,PL,PP,EE,QQ,seval,hs1,hl1,hsl,List.length_map]|(simp (disch:=omega) only[IntWalk.i64_in])|(apply go_brD<;>intro h)|(apply go_gsD aE<;>intro h)|(apply go_br<;>intro h)|(apply go_gs aE<;>intro h)|(with_reducible apply And.intro)|exact aG|fail)
   refine⟨⟨2,by omega⟩,?_,by simp only;omega⟩
   (simp only[GeS];refine⟨?_,?_,?_,?_⟩;all_goals (repeat' (first|(with_reducible exact True.intro)|(with_reducible rfl)|simp only[XC,↓reduceIte,seval]|(with_reducible apply And.intro)|(refine⟨_,rfl,?_⟩)|(simp [hN1,eI];done)|exact aS|fail)))
  ·repeat' (first|simp (maxSteps:=9999999) only[↓GE,PL,PP,EE,QQ,seval,hs2,hl2,hsl,List.length_map]|(simp (disch:=omega) only[IntWalk.i64_in])|(apply go_brD<;>intro h)|(apply go_gsD aE<;>intro h)|(apply go_br<;>intro h)|(apply go_gs aE<;>intro h)|(with_reducible apply And.intro)|exact aG|fail)
   refine⟨⟨3,by omega⟩,?_,by simp only;omega⟩
   (simp only[GeS];refine⟨?_,?_,?_,?_⟩;all_goals (repeat' (first|(with_reducible exact True.intro)|(with_reducible rfl)|simp only[XC,↓reduceIte,seval]|(with_reducible apply And.intro)|(refine⟨_,rfl,?_⟩)|(simp [hN2,eI];done)|exact aS|fail)))
  ·repeat' (first|simp (maxSteps:=9999999) only[↓GE,PL,PP,EE,QQ,seval,hs3,hl3,hsl,List.length_map]|(simp (disch:=omega) only[IntWalk.i64_in])|(apply go_brD<;>intro h)|(apply go_gsD aE<;>intro h)|(apply go_br<;>intro h)|(apply go_gs aE<;>intro h)|(with_reducible apply And.intro)|exact aG|fail)
   refine⟨⟨4,by omega⟩,?_,by simp only;omega⟩
   (simp only[GeS];refine⟨?_,?_,?_,?_⟩;all_goals (repeat' (first|(with_reducible exact True.intro)|(with_reducible rfl)|simp only[XC,↓reduceIte,seval]|(with_reducible apply And.intro)|(refine⟨_,rfl,?_⟩)|(simp [hN3,eI];done)|exact aS|fail)))
  ·repeat' (first|simp (maxSteps:=9999999) only[↓GE,PL,PP,EE,QQ,seval,hs4,hl4,hsl,List.length_map]|(simp (disch:=omega) only[IntWalk.i64_in])|(apply go_brD<;>intro h)|(apply go_gsD aE<;>intro h)|(apply go_br<;>intro h)|(apply go_gs aE<;>intro h)|(with_reducible apply And.intro)|exact aG|fail)
   refine⟨⟨5,by omega⟩,?_,by simp only;omega⟩
   (simp only[GeS];refine⟨?_,?_,?_,?_⟩;all_goals (repeat' (first|(with_reducible exact True.intro)|(with_reducible rfl)|simp only[XC,↓reduceIte,seval]|(with_reducible apply And.intro)|(refine⟨_,rfl,?_⟩)|(simp [hN4,eI];done)|exact aS|fail)))
  ·repeat' (first|simp (maxSteps:=9999999) only[↓GE,PL,PP,EE,QQ,seval,hs5,hl5,hsl,List.length_map]|(simp (disch:=omega) only[IntWalk.i64_in])|(apply go_brD<;>intro h)|(apply go_gsD aE<;>intro h)|(apply go_br<;>intro h)|(apply go_gs aE<;>intro h)|(with_reducible apply And.intro)|exact aG|fail)
   refine⟨⟨6,by omega⟩,?_,by simp only;omega⟩
   (simp only[GeS];refine⟨?_,?_,?_,?_⟩;all_goals (repeat' (first|(with_reducible exact True.intro)|(with_reducible rfl)|simp only[XC,↓reduceIte,seval]|(with_reducible apply And.intro)|(refine⟨_,rfl,?_⟩)|(simp [hN5,eI];done)|exact aS|fail)))
  ·repeat' (first|simp (maxSteps:=9999999) only[↓GE,PL,PP,EE,QQ,seval]|(simp (disch:=omega) only[IntWalk.i64_in])|(apply go_brD<;>intro h)|(apply go_gsD aE<;>intro h)|(apply go_br<;>intro h)|(apply go_gs aE<;>intro h)|(with_reducible apply And.intro)|exact aG|fail)
   refine⟨[],[],⟨(i+1,v+1),hir⟩,?_,by simp only;omega⟩
   simp only[GeZ];exact aH
 ·obtain rfl:i=rows:=by omega
  have q3:decide ((i:Int)<(i:Int))=false:=decide_eq_false (by omega)
  have w4:IntKind.i64.wrap ((at_:Int)+((i*deg:Nat):Int))=((at_+i*deg:Nat):Int):=by rw[IntWalk.i64_in _ (by omega)];omega
  repeat' (first|simp (maxSteps:=9999999) only[↓GE,PL,PP,EE,QQ,seval,q3,hdl,w4,List.length_map]|(simp (disch:=omega) only[IntWalk.i64_in])|(apply go_brD<;>intro h)|(apply go_gsD aE<;>intro h)|(apply go_br<;>intro h)|(apply go_gs aE<;>intro h)|(with_reducible apply And.intro)|exact aG|fail)
  refine seal_mk 10 59 (v:=0) (n:=6) (q:=1) (cs:=[.og 5000 v,.og 5001 v,.og 5002 v,.og 5003 v,.og 5004 v,.og 5005 v]) (ds:=[dInts (colQ p (cfQ ix deg dr) 0 i),dInts (colQ p (cfQ ix deg dr) 1 i),dInts (colQ p (cfQ ix deg dr) 2 i),dInts (colQ p (cfQ ix deg dr) 3 i),dInts (colQ p (cfQ ix deg dr) 4 i),dInts (colQ p (cfQ ix deg dr) 5 i)]) ?_ ?_ rfl (by simp [maxLen]) ?_ ?_ ?_
  ·exact aR
  ·exact aR
  ·exact aR
  ·exact aR
  ·((first|apply ret_mk []|apply end_mk []);(· exact aR);(· exact aZ);all_goals exact aF)
end Go.Proofs.YtacfbiegbdlldaaGreatDoor.Sim
