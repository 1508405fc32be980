/- A row is read from servers of which some are silent and some wrong. -/
import Derived.Test.YtacfbiegbdlldaaGreatDoorVTpCq
import Derived.Test.YtacfbiegbdlldaaGreatDoorVTvR
section
namespace Go.Proofs.YtacfbiegbdlldaaGreatDoor.Sim
open Go Go.RowKit Go.Deep
set_option maxRecDepth 100000
set_option maxHeartbeats 4000000
set_option linter.unusedVariables false
set_option linter.unusedSimpArgs false
attribute [local irreducible] Go Mean
theorem queriesC_4 (p:Int) (deg rows ix:Nat) (hf:fieldB p=true) (hsp:4<p) (h5:1≤deg) (h6:deg<4) (h1:1≤rows) (h2:rows≤1024) (hix:ix<rows) (nums:List Int) (at_:Nat) (ht:TapeOK nums at_ p (rows*deg)) :
  Does Tryz.prog 13 [.ag [I p],.ag [I 4,I deg],I rows,I ix,.ag [.d (dInts nums),I at_]] [] (.tu [.d (dRows [colQ p (cfQ ix deg (drwF nums at_ (rows*deg))) 0 rows,colQ p (cfQ ix deg (drwF nums at_ (rows*deg))) 1 rows,colQ p (cfQ ix deg (drwF nums at_ (rows*deg))) 2 rows,colQ p (cfQ ix deg (drwF nums at_ (rows*deg))) 3 rows]),.ag [.d (dInts nums),I (at_+rows*deg:Nat)],I 0]) [] []:=by
 refine G17' rfl BxOK.nil fun cx hm0=>Awp.seal (go_in 5000 ?_)
 unfold A17' R17'
 have hp:=(fieldB_iff.1 hf).1
 have hp2:=(fieldB_iff.1 hf).2.1
 have e1:=checkRows p 4 deg rows hf ⟨by omega,by omega,by omega,by omega⟩ hsp (by omega) (by omega)
 have hrd:rows*deg≤1024*10:=Nat.mul_le_mul h2 (by omega)
 have w0:IntKind.i64.wrap ((rows:Int)*(deg:Int))=((rows*deg:Nat):Int):=by rw[← Int.natCast_mul];exact i6 _ (by omega)
 have e0:=drawsT nums at_ p (rows*deg) ht.len (by omega) (by omega) ht.dr
 have hdi:=drw_in ht.dr
 have hdl:=drw_len ht.dr
 have hdd:(nums.drop at_).take (rows*deg)=drwF nums at_ (rows*deg):=rfl
 rw[hdd] at e0
 have htl:=ht.len
 have hdo:=ht.dr.1
 generalize drwF nums at_ (rows*deg)=dr at *
 have q1:decide ((ix:Int)<0)=false:=df (by omega)
 have q2:decide ((rows:Int)≤(ix:Int))=false:=df (by omega)
 repeat' (first|simp (maxSteps:=9999999) only[↓GE,PL,PP,EE,QQ,seval,q1,q2,w0]|(simp (disch:=omega) only[i6])|(apply go_brD<;>intro h)|(apply go_gsD aE<;>intro h)|(apply go_br<;>intro h)|(apply go_gs aE<;>intro h)|(apply go_call 5000 (e1) rfl rfl;iterate 4 (first|(exact CallForm.plain rfl)|exact aC))|(apply go_call 5000 (e0) rfl rfl;iterate 4 (first|(exact CallForm.plain rfl)|exact aC))|(with_reducible apply And.intro)|exact aG|fail)
 refine go_loopz 5000 hm0 (ι:={q:Nat × Nat // q.1≤rows}) (fun i=>[(2,I rows),(3,I ix),(5,.bp 5 0 0),(6,.bp 6 0 0),(9,.bp 9 0 0),(11,.bp 11 0 0),(15,.d (dInts dr)),(17,.ep 59 0 4 1),(60,I rows),(61,I i.1.1)]) (fun i=>[(5,.box 0 [I p]),(6,.box 0 [I 4,I deg]),(9,.box 0 [.d (dInts nums),I at_]),(11,.box 0 [.nl 1,I 0]),(59,.box 0 [.og 5000 i.1.2,.og 5001 i.1.2,.og 5002 i.1.2,.og 5003 i.1.2]),(5000,.arr i.1.2 1 true ((colQ p (cfQ ix deg dr) 0 i.1.1).map eI)),(5001,.arr i.1.2 1 true ((colQ p (cfQ ix deg dr) 1 i.1.1).map eI)),(5002,.arr i.1.2 1 true ((colQ p (cfQ ix deg dr) 2 i.1.1).map eI)),(5003,.arr i.1.2 1 true ((colQ p (cfQ ix deg dr) 3 i.1.1).map eI))]) (fun i=>rows-i.1.1) [] [5000,5001,5002,5003] ⟨(0,0),Nat.zero_le _⟩ ?_ ?_
 ·simp only[GeZ];(simp only[GeS];refine⟨?_,?_,?_,?_⟩;all_goals (repeat' (first|(with_reducible exact True.intro)|(with_reducible rfl)|simp only[XC,↓reduceIte,seval]|(with_reducible apply And.intro)|(refine⟨_,rfl,?_⟩)|(simp [colQ];done)|exact aS|fail)))
 rintro⟨⟨i,v⟩,hi⟩
 simp only at hi
 by_cases hir:i<rows
 ·have q3:decide ((i:Int)<(rows:Int))=true:=dt (by omega)
  have hid:(i+1)*deg=i*deg+deg:=by rw[Nat.add_mul,Nat.one_mul]
  have hle:(i+1)*deg≤rows*deg:=Nat.mul_le_mul_right _ hir
  have w1:IntKind.i64.wrap ((i:Int)+1)=((i+1:Nat):Int):=by rw[i6 _ (by omega)];omega
  have w2:IntKind.i64.wrap ((i:Int)*(deg:Int))=((i*deg:Nat):Int):=by rw[← Int.natCast_mul];exact i6 _ (by omega)
  have w3:IntKind.i64.wrap (((i+1:Nat):Int)*(deg:Int))=(((i+1)*deg:Nat):Int):=by rw[← Int.natCast_mul];exact i6 _ (by omega)
  have e2:=splitT p (if i=ix then 1 else 0) deg 4 ((dr.take ((i+1)*deg)).drop (i*deg)) 0 hf (by split <;> omega) (by omega) (by omega) (by omega) (by omega) (by rw[List.length_drop,List.length_take];omega) (part_ok hdi (by omega))
  have hnl:((dr.take ((i+1)*deg)).drop (i*deg)).length=deg:=by rw[List.length_drop,List.length_take];omega
  rw[show (if i=ix then 1 else 0) :: (((dr.take ((i+1)*deg)).drop (i*deg)).drop 0).take deg=cfQ ix deg dr i by rw[cfQ,List.drop_zero,List.take_of_length_le (by omega)]] at e2
  have hmt:(dr.map eI).take ((i+1)*deg)=(dr.take ((i+1)*deg)).map eI:=List.map_take.symm
  have hmd:((dr.take ((i+1)*deg)).map eI).drop (i*deg)=((dr.take ((i+1)*deg)).drop (i*deg)).map eI:=List.map_drop.symm
  have hlo:i*deg≤(i+1)*deg:=by omega
  have hhi:(i+1)*deg≤dr.length:=by omega
  have hsl:(shareF p (cfQ ix deg dr i) (ptsF 4)).length=4:=by rw[shareF_len,ptsF_len]
  have hN0:(colQ p (cfQ ix deg dr) 0 (i+1)).map eI=(colQ p (cfQ ix deg dr) 0 i).map eI++[eI (valF p (cfQ ix deg dr i) 1)]:=by rw[colQ,List.map_append];rfl
  have hl0:=colQ_len (p:=p) (cf:=(cfQ ix deg dr)) (k:=0) (i:=i)
  have hs0:((shareF p (cfQ ix deg dr i) (ptsF 4)).map eS).getD 0 []=[.at (.int .i64 1),.at (.int .i64 (valF p (cfQ ix deg dr i) 1))]:=by rw[getD_map eS [] (0,0) _ _ (by rw[shareF_len,ptsF_len];omega),shareF_get (by omega)];rfl
  have hN1:(colQ p (cfQ ix deg dr) 1 (i+1)).map eI=(colQ p (cfQ ix deg dr) 1 i).map eI++[eI (valF p (cfQ ix deg dr i) 2)]:=by rw[colQ,List.map_append];rfl
  have hl1:=colQ_len (p:=p) (cf:=(cfQ ix deg dr)) (k:=1) (i:=i)
  have hs1:((shareF p (cfQ ix deg dr i) (ptsF 4)).map eS).getD 1 []=[.at (.int .i64 2),.at (.int .i64 (valF p (cfQ ix deg dr i) 2))]:=by rw[getD_map eS [] (0,0) _ _ (by rw[shareF_len,ptsF_len];omega),shareF_get (by omega)];rfl
  have hN2:(colQ p (cfQ ix deg dr) 2 (i+1)).map eI=(colQ p (cfQ ix deg dr) 2 i).map eI++[eI (valF p (cfQ ix deg dr i) 3)]:=by rw[colQ,List.map_append];rfl
  have hl2:=colQ_len (p:=p) (cf:=(cfQ ix deg dr)) (k:=2) (i:=i)
  have hs2:((shareF p (cfQ ix deg dr i) (ptsF 4)).map eS).getD 2 []=[.at (.int .i64 3),.at (.int .i64 (valF p (cfQ ix deg dr i) 3))]:=by rw[getD_map eS [] (0,0) _ _ (by rw[shareF_len,ptsF_len];omega),shareF_get (by omega)];rfl
  have hN3:(colQ p (cfQ ix deg dr) 3 (i+1)).map eI=(colQ p (cfQ ix deg dr) 3 i).map eI++[eI (valF p (cfQ ix deg dr i) 4)]:=by rw[colQ,List.map_append];rfl
  have hl3:=colQ_len (p:=p) (cf:=(cfQ ix deg dr)) (k:=3) (i:=i)
  have hs3:((shareF p (cfQ ix deg dr i) (ptsF 4)).map eS).getD 3 []=[.at (.int .i64 4),.at (.int .i64 (valF p (cfQ ix deg dr i) 4))]:=by rw[getD_map eS [] (0,0) _ _ (by rw[shareF_len,ptsF_len];omega),shareF_get (by omega)];rfl
  generalize cfQ ix deg dr i=cf at *
  apply join_on (α:=Unit) (C:=fun _=>True)
  ·intro hkey
   obtain⟨un,-⟩:∃ un:Unit,True:=⟨(),trivial⟩
   by_cases hii:i=ix
   all_goals
    first
    |have hq:((i:Int) == (ix:Int))=true:=by rw[beq_iff_eq];omega
     have e2':=e2
     rw[if_pos hii] at e2'
    |have hq:((i:Int) == (ix:Int))=false:=by rw[beq_eq_false_iff_ne];omega
     have e2':=e2
     rw[if_neg hii] at e2'
   all_goals
    repeat' (first|simp (maxSteps:=9999999) only[↓GE,PL,PP,EE,QQ,seval,q3,hq,w1,w2,w3,hmt,hmd,hlo,hhi,hsl,lm]|(simp (disch:=omega) only[i6])|(apply go_brD<;>intro h)|(apply go_gsD aE<;>intro h)|(apply go_br<;>intro h)|(apply go_gs aE<;>intro h)|(apply go_call 5000 (e2') rfl rfl;iterate 4 (first|(exact CallForm.plain rfl)|exact aC))|(with_reducible apply And.intro)|exact aG|fail)
   all_goals
    refine awp_meet hm0 [] [] [(2,I rows),(3,I ix),(5,.bp 5 0 0),(6,.bp 6 0 0),(9,.bp 9 0 0),(11,.bp 11 0 0),(15,.d (dInts dr)),(17,.ep 59 0 4 1),(60,I rows),(61,I i),(94,.d (dShares (shareF p cf (ptsF 4)))),(95,I 4),(96,I 0)] [(5,.box 0 [I p]),(6,.box 0 [I 4,I deg]),(9,.box 0 [.d (dInts nums),I at_]),(11,.box 0 [.nl 1,I 0]),(59,.box 0 [.og 5000 v,.og 5001 v,.og 5002 v,.og 5003 v]),(5000,.arr v 1 true ((colQ p (cfQ ix deg dr) 0 i).map eI)),(5001,.arr v 1 true ((colQ p (cfQ ix deg dr) 1 i).map eI)),(5002,.arr v 1 true ((colQ p (cfQ ix deg dr) 2 i).map eI)),(5003,.arr v 1 true ((colQ p (cfQ ix deg dr) 3 i).map eI))] ?_ (hkey un trivial)
    simp only[GeZ];exact aH
  intro _ _
  refine go_loop 5000 hm0 (ι:={c:Nat // c≤4}) (fun c=>[(2,I rows),(3,I ix),(5,.bp 5 0 0),(6,.bp 6 0 0),(9,.bp 9 0 0),(11,.bp 11 0 0),(15,.d (dInts dr)),(17,.ep 59 0 4 1),(60,I rows),(61,I i),(94,.d (dShares (shareF p cf (ptsF 4)))),(95,I 4),(96,I c.1)]) (fun c=>[(5,.box 0 [I p]),(6,.box 0 [I 4,I deg]),(9,.box 0 [.d (dInts nums),I at_]),(11,.box 0 [.nl 1,I 0]),(59,.box 0 [.og 5000 (v+if 0<c.1 then 1 else 0),.og 5001 (v+if 1<c.1 then 1 else 0),.og 5002 (v+if 2<c.1 then 1 else 0),.og 5003 (v+if 3<c.1 then 1 else 0)]),(5000,.arr (v+if 0<c.1 then 1 else 0) 1 true (if 0<c.1 then (colQ p (cfQ ix deg dr) 0 (i+1)).map eI else (colQ p (cfQ ix deg dr) 0 i).map eI)),(5001,.arr (v+if 1<c.1 then 1 else 0) 1 true (if 1<c.1 then (colQ p (cfQ ix deg dr) 1 (i+1)).map eI else (colQ p (cfQ ix deg dr) 1 i).map eI)),(5002,.arr (v+if 2<c.1 then 1 else 0) 1 true (if 2<c.1 then (colQ p (cfQ ix deg dr) 2 (i+1)).map eI else (colQ p (cfQ ix deg dr) 2 i).map eI)),(5003,.arr (v+if 3<c.1 then 1 else 0) 1 true (if 3<c.1 then (colQ p (cfQ ix deg dr) 3 (i+1)).map eI else (colQ p (cfQ ix deg dr) 3 i).map eI))]) (fun c=>4-c.1) [] ⟨0,Nat.zero_le _⟩ ?_ ?_
  ·exact aH
  rintro⟨c,hc⟩
  have hcs:c=0∨c=1∨c=2∨c=3∨c=4:=by omega
  rcases hcs with rfl|rfl|rfl|rfl|rfl
  ·repeat' (first|simp (maxSteps:=9999999) only[↓GE,PL,PP,EE,QQ,seval,hs0,hl0,hsl,lm]|(simp (disch:=omega) only[i6])|(apply go_brD<;>intro h)|(apply go_gsD aE<;>intro h)|(apply go_br<;>intro h)|(apply go_gs aE<;>intro h)|(with_reducible apply And.intro)|exact aG|fail)
   refine⟨⟨1,by omega⟩,?_,by simp only;omega⟩
   (simp only[GeS];refine⟨?_,?_,?_,?_⟩;all_goals (repeat' (first|(with_reducible exact True.intro)|(with_reducible rfl)|simp only[XC,↓reduceIte,seval]|(with_reducible apply And.intro)|(refine⟨_,rfl,?_⟩)|(simp [hN0,eI];done)|exact aS|fail)))
  ·repeat' (first|simp (maxSteps:=9999999) only[↓GE,PL,PP,EE,QQ,seval,hs1,hl1,hsl,lm]|(simp (disch:=omega) only[i6])|(apply go_brD<;>intro h)|(apply go_gsD aE<;>intro h)|(apply go_br<;>intro h)|(apply go_gs aE<;>intro h)|(with_reducible apply And.intro)|exact aG|fail)
   refine⟨⟨2,by omega⟩,?_,by simp only;omega⟩
   (simp only[GeS];refine⟨?_,?_,?_,?_⟩;all_goals (repeat' (first|(with_reducible exact True.intro)|(with_reducible rfl)|simp only[XC,↓reduceIte,seval]|(with_reducible apply And.intro)|(refine⟨_,rfl,?_⟩)|(simp [hN1,eI];done)|exact aS|fail)))
  ·repeat' (first|simp (maxSteps:=9999999) only[↓GE,PL,PP,EE,QQ,seval,hs2,hl2,hsl,lm]|(simp (disch:=omega) only[i6])|(apply go_brD<;>intro h)|(apply go_gsD aE<;>intro h)|(apply go_br<;>intro h)|(apply go_gs aE<;>intro h)|(with_reducible apply And.intro)|exact aG|fail)
   refine⟨⟨3,by omega⟩,?_,by simp only;omega⟩
   (simp only[GeS];refine⟨?_,?_,?_,?_⟩;all_goals (repeat' (first|(with_reducible exact True.intro)|(with_reducible rfl)|simp only[XC,↓reduceIte,seval]|(with_reducible apply And.intro)|(refine⟨_,rfl,?_⟩)|(simp [hN2,eI];done)|exact aS|fail)))
  ·repeat' (first|simp (maxSteps:=9999999) only[↓GE,PL,PP,EE,QQ,seval,hs3,hl3,hsl,lm]|(simp (disch:=omega) only[i6])|(apply go_brD<;>intro h)|(apply go_gsD aE<;>intro h)|(apply go_br<;>intro h)|(apply go_gs aE<;>intro h)|(with_reducible apply And.intro)|exact aG|fail)
   refine⟨⟨4,by omega⟩,?_,by simp only;omega⟩
   (simp only[GeS];refine⟨?_,?_,?_,?_⟩;all_goals (repeat' (first|(with_reducible exact True.intro)|(with_reducible rfl)|simp only[XC,↓reduceIte,seval]|(with_reducible apply And.intro)|(refine⟨_,rfl,?_⟩)|(simp [hN3,eI];done)|exact aS|fail)))
  ·repeat' (first|simp (maxSteps:=9999999) only[↓GE,PL,PP,EE,QQ,seval]|(simp (disch:=omega) only[i6])|(apply go_brD<;>intro h)|(apply go_gsD aE<;>intro h)|(apply go_br<;>intro h)|(apply go_gs aE<;>intro h)|(with_reducible apply And.intro)|exact aG|fail)
   refine⟨[],[],⟨(i+1,v+1),hir⟩,?_,by simp only;omega⟩
   simp only[GeZ];exact aH
 ·obtain rfl:i=rows:=by omega
  have q3:decide ((i:Int)<(i:Int))=false:=df (by omega)
  have w4:IntKind.i64.wrap ((at_:Int)+((i*deg:Nat):Int))=((at_+i*deg:Nat):Int):=by rw[i6 _ (by omega)];omega
  repeat' (first|simp (maxSteps:=9999999) only[↓GE,PL,PP,EE,QQ,seval,q3,hdl,w4,lm]|(simp (disch:=omega) only[i6])|(apply go_brD<;>intro h)|(apply go_gsD aE<;>intro h)|(apply go_br<;>intro h)|(apply go_gs aE<;>intro h)|(with_reducible apply And.intro)|exact aG|fail)
  refine seal_mk 10 59 (v:=0) (n:=4) (q:=1) (cs:=[.og 5000 v,.og 5001 v,.og 5002 v,.og 5003 v]) (ds:=[dInts (colQ p (cfQ ix deg dr) 0 i),dInts (colQ p (cfQ ix deg dr) 1 i),dInts (colQ p (cfQ ix deg dr) 2 i),dInts (colQ p (cfQ ix deg dr) 3 i)]) ?_ ?_ rfl (by simp [maxLen]) ?_ ?_ ?_
  ·exact aR
  ·exact aR
  ·exact aR
  ·exact aR
  ·((first|apply ret_mk []|apply end_mk []);(· exact aR);(· exact aZ);all_goals exact aF)
end Go.Proofs.YtacfbiegbdlldaaGreatDoor.Sim
end
section
namespace Go.Proofs.YtacfbiegbdlldaaGreatDoor.Sim
open Go Go.RowKit Go.Deep
set_option maxRecDepth 100000
set_option maxHeartbeats 8000000
set_option linter.unusedVariables false
set_option linter.unusedSimpArgs false
attribute [local irreducible] Go Mean
theorem readT (l:List Int) (hl:l.length≤17592186044416) (k:Nat) (p:Int) (s d w ix silent wrong:Nat) (rows:List (List Int)) (hf:fieldB p=true) (hs:s=4) (hsp:(s:Int)<p) (hd:1≤d∧d<s) (hw:1≤w) (hw2:w≤64) (hrok:RowsOK p w rows) (hn:rows.length≤100) (hix:ix<rows.length) (hfl:silent+2*wrong+d+1≤s) :
  ∃ (B0:List Int) (k':Nat),B0.length≤s∧Does Tryz.prog 33 [dkp,.ag [I p],.ag [I s,I d],I w,.d (dRows rows),I ix,I silent,I wrong] (dk l k) (.tu [.ag [.d (dInts (rows.getD ix [])),.d (dInts B0)],.d (dInts B0),B true]) (dk l k') []:=by
 have hs2:2≤s:=by omega
 have hs7:s≤7:=by omega
 obtain⟨hd1,hds⟩:=hd
 obtain⟨p2,p65,_⟩:=fieldB_iff.1 hf
 obtain⟨n,hrl⟩:∃ n,rows.length=n:=⟨_,rfl⟩
 have hPl:PlanOK s d:=⟨by omega,by omega,by omega,by omega⟩
 have e8:=limitsT p s d n d rfl hf hPl hsp (by omega) (by omega)
 have hnd:n*d≤100*7:=Nat.mul_le_mul (by omega) (by omega)
 have e9:=seedM l hl k (List.replicate (n*d) p) (by rw[List.length_replicate];omega) (lim_ok (by omega) p65)
 have ht:=seed_tape (seed:=seedV l k) (p:=p) (m:=n*d) (by omega) (by omega)
 generalize seedF (seedV l k) (List.replicate (n*d) p) (List.replicate (n*d) p).length=nums at *
 generalize nextK l k 2147483646=k8 at *
 have e10:Does Tryz.prog 13 [.ag [I p],.ag [I s,I d],I n,I ix,.ag [.d (dInts nums),I 0]] [] (.tu [.d (dRows (qsF p s d n ix nums 0)),.ag [.d (dInts nums),I (0+n*d:Nat)],I 0]) [] []:=by
  subst hs
  exact queriesC_4 p d n ix hf hsp hd1 hds (by omega) (by omega) (by omega) nums 0 ht
 have hql:=qsF_len (p:=p) (s:=s) (d:=d) (n:=n) (ix:=ix) (nums:=nums) (a:=0)
 have hqk:∀ j,j<s→((qsF p s d n ix nums 0).getD j []).length=rows.length∧((qsF p s d n ix nums 0).getD j []).all (inE p)=true:=fun j hj=>by
  rw[qsF_get hj]
  exact⟨by rw[colQ_len,hrl],colQ_in (by omega)⟩
 obtain⟨Q,hQ⟩:∃ Q,Q=qsF p s d n ix nums 0:=⟨_,rfl⟩
 rw[← hQ] at e10 hql hqk
 have hHl:(honF p w rows Q).length=s:=by rw[honF_len,hql]
 have hor:=orderT l hl k8 s (by omega)
 have hoo:=ordOK (l:=l) (n:=s) (k:=k8)
 generalize (ordF l s (upTo s) k8).1=o at *
 generalize (ordF l s (upTo s) k8).2=ko at *
 obtain⟨S,hS⟩:∃ S,S=ansN l p w wrong silent o (ansZ (honF p w rows Q) ko) s:=⟨_,rfl⟩
 obtain⟨hI,hA1,hA2,hA3,hA4,hA5⟩:=read_ok (ix:=ix) hf ⟨hs2,hs7⟩ hsp ⟨hd1,hds⟩ hw hrok hrl (by omega) ht hoo hfl (l:=l) (ko:=ko) (S:=S) (by rw[← hQ];exact hS)
 rw[← hQ] at hI
 have e2:=answersM l hl k8 p w wrong silent (honF p w rows Q) p2 p65 hw hw2 (honF_rows (by omega)) (by omega) (by omega) (by omega) o ko (by rw[hHl];exact hoo) S (by rw[hHl];exact hS) (by rw[hHl];exact hor)
 rw[hHl] at e2
 have hAl:(ansL S.rows S.kn).length=s:=by rw[ansL_len,hI.rl,hHl]
 have e3:=curveDecode p s d w (ansL S.rows S.kn) hf hPl hsp (by rw[hAl]) (by omega) hA1 hA2 hA3
 rw[hA4,hA5] at e3
 have hbl:=badL_len (b:=S.bad) (n:=s)
 refine⟨badL S.bad s,S.k,hbl,?_⟩
 refine G3' rfl BxOK.one fun cx hm0=>go_in 5000 ?_
 unfold A3' R3'
 obtain⟨L,hL⟩:∃ L,L=ansL S.rows S.kn:=⟨_,rfl⟩
 rw[← hL] at e2 e3 hAl
 generalize badL S.bad s=BL at *
 generalize S.k=kz at *
 repeat' (first|simp (maxSteps:=9999999) only[↓GE,PL,PP,EE,QQ,seval,hrl,hql,lm]|(simp (disch:=omega) only[i6])|(apply go_brD<;>intro h)|(apply go_gsD aE<;>intro h)|(apply go_br<;>intro h)|(apply go_gs aE<;>intro h)|(apply go_call 5000 (e8) rfl rfl;iterate 4 (first|(exact CallForm.plain rfl)|exact aC))|(apply go_call 5000 (e9) rfl rfl;iterate 4 (first|(exact CallForm.lent aL rfl rfl)|exact aC))|(apply go_call 5000 (e10) rfl rfl;iterate 4 (first|(exact CallForm.plain rfl)|exact aC))|(with_reducible apply And.intro)|exact aG|fail)
 clear e8 e9 e10
 refine go_loopz 5000 hm0 (ι:={q:Nat × Nat // q.1≤s}) (fun q=>[(0,dkp),(3,I w),(4,.d (dRows rows)),(6,I silent),(7,I wrong),(9,.bp 9 0 0),(10,.bp 10 0 0),(16,.bp 16 0 0),(24,.og 81 q.1.2),(61,.d (dRows Q)),(62,I s),(63,I q.1.1)]) (fun q=>[(900000,.box 0 [.d (dInts l),I k8]),(9,.box 0 [I p]),(10,.box 0 [I s,I d]),(16,.box 0 [.nl 1,.nl 1]),(81,.arr q.1.2 1 true ((honF p w rows (Q.take q.1.1)).map eR))]) (fun q=>s-q.1.1) [] [81] ⟨(0,0),Nat.zero_le _⟩ ?_ ?_
 ·simp only[GeZ];(simp only[GeS];refine⟨?_,?_,?_,?_⟩;all_goals (repeat' (first|(with_reducible exact True.intro)|(with_reducible rfl)|simp only[XC,↓reduceIte,seval]|(with_reducible apply And.intro)|(refine⟨_,rfl,?_⟩)|(simp [honF];done)|exact aS|fail)))
 rintro⟨⟨j,v⟩,hj⟩
 simp only at hj ⊢
 by_cases hjs:j<s
 ·have r1:decide ((j:Int)<(s:Int))=true:=dt (by omega)
  have u3:IntKind.i64.wrap ((j:Int)+1)=((j+1:Nat):Int):=by rw[i6 _ (by omega)];omega
  have hjq:j<Q.length:=by omega
  have hsq:=getD_map eR [] [] Q j hjq
  obtain⟨g1,g2⟩:=hqk j hjs
  have e1:=answerT p w (Q.getD j []) rows hf (by omega) g1 hrok (by omega) g2
  have hnx:=honF_next (p:=p) (w:=w) (rows:=rows) hjq
  have hlen:(honF p w rows (Q.take j)).length=j:=by rw[honF_len,List.length_take];omega
  generalize Q.getD j []=qj at *
  generalize combL p w qj rows=cj at *
  generalize honF p w rows (Q.take j)=HH at *
  repeat' (first|simp (maxSteps:=9999999) only[↓GE,PL,PP,EE,QQ,seval,r1,u3,hsq,hjq,hlen,eR,lm]|(simp (disch:=omega) only[i6])|(apply go_brD<;>intro h)|(apply go_gsD aE<;>intro h)|(apply go_br<;>intro h)|(apply go_gs aE<;>intro h)|(apply go_call 5000 (e1) rfl rfl;iterate 4 (first|(exact CallForm.plain rfl)|exact aC))|(with_reducible apply And.intro)|exact aG|fail)
  refine⟨[],[],⟨(j+1,v+1),hjs⟩,?_,by simp only;omega⟩
  simp only[GeZ];(simp only[GeS];refine⟨?_,?_,?_,?_⟩;all_goals (repeat' (first|(with_reducible exact True.intro)|(with_reducible rfl)|simp only[XC,↓reduceIte,seval]|(with_reducible apply And.intro)|(refine⟨_,rfl,?_⟩)|(simp [hnx,eR];done)|exact aS|fail)))
 obtain rfl:j=s:=by omega
 have r1:decide ((j:Int)<(j:Int))=false:=df (by omega)
 have htk:Q.take j=Q:=by rw[← hql,List.take_length]
 rw[htk]
 generalize honF p w rows Q=H at *
 repeat' (first|simp (maxSteps:=9999999) only[↓GE,PL,PP,EE,QQ,seval,r1,hAl,lm]|(simp (disch:=omega) only[i6])|(apply go_brD<;>intro h)|(apply go_gsD aE<;>intro h)|(apply go_br<;>intro h)|(apply go_gs aE<;>intro h)|(apply go_call 5000 (e2) rfl rfl;iterate 4 (first|(exact CallForm.lent aL rfl rfl)|exact aC))|(apply go_call 5000 (e3) rfl rfl;iterate 4 (first|(exact CallForm.plain rfl)|exact aC))|(with_reducible apply And.intro)|exact aG|fail)
 ((first|apply ret_mk []|apply end_mk []);(· exact aR);(· exact aZ);all_goals exact aF)
end Go.Proofs.YtacfbiegbdlldaaGreatDoor.Sim
end
