/- topEvidence: at every input the law returns true, and each argument reads afterwards as it read before. -/
import Derived.Test.YtacfbiegbdlldaaGreatDoorMTvN
import Derived.Test.YtacfbiegbdlldaaGreatDoorMTpDb
import Derived.Test.YtacfbiegbdlldaaGreatDoorMRep
import Derived.ProofKit
import Derived.Deep.Slices
import Derived.Lib.SmallJoins
import Derived.Test.YtacfbiegbdlldaaGreatDoorMSimZ
import Derived.Below
import Derived.Test.YtacfbiegbdlldaaGreatDoorRows
import Derived.Look8
import Derived.LaidLaws
import Derived.Lay
import Derived.MakeChecks
import Derived.FnData
import Derived.LaidHandle
import Derived.ChangeSame
import Derived.WideShapes
import Derived.Test.YtacfbiegbdlldaaGreatDoorTie
import Derived.Test.YtacfbiegbdlldaaGreatDoorCards
import Derived.LaidMore
import Derived.Stop.Joined
import Derived.SevenTiedAt
import Derived.OpenShut
import Derived.ShutString
import Derived.ChangeOld
import Derived.SizedLaws
section
namespace Go.Proofs.YtacfbiegbdlldaaGreatDoor.Sim
open Go Go.RowKit Go.Deep
set_option maxRecDepth 100000
set_option maxHeartbeats 8000000
set_option linter.unusedVariables false
set_option linter.unusedSimpArgs false
attribute [local irreducible] Go Mean
theorem topEvid (l:List Int) (a:Int) (hl:l.length≤17592186044416) (ha:0≤a∧a≤255) :
  Does Tryz.prog 3 [.d (dInts l),.d (.at (.int .u8 a))] [] (B true) [] []:=by
 refine go_top_TopEvidence rfl BxOK.nil fun cx hm0=>go_in 5000 ?_
 unfold ac_top_TopEvidence rs_top_TopEvidence
 have e1:=few l hl
 rcases Nat.lt_or_ge 500 l.length with hfw|hfw
 ·rw[decide_eq_false (by omega)] at e1
  repeat' (first|simp (maxSteps:=9999999) only[↓GE,PL,PP,EE,QQ,seval]|(simp (disch:=omega) only[IntWalk.i64_in])|(apply go_brD<;>intro h)|(apply go_gsD aE<;>intro h)|(apply go_br<;>intro h)|(apply go_gs aE<;>intro h)|(apply go_call 5000 (awakeT) rfl rfl;iterate 4 (first|(exact CallForm.plain rfl)|exact aC))|(apply go_call 5000 (e1) rfl rfl;iterate 4 (first|(exact CallForm.plain rfl)|exact aC))|(with_reducible apply And.intro)|exact aG|fail)
  all_goals ((first|apply ret_mk []|apply end_mk []);(· exact aR);(· exact aZ);all_goals exact aF)
 rw[decide_eq_true hfw] at e1
 have e2:=makeNew l
 have e3:=(planT l hl 0).nm1 49000 0 (by omega) rfl rfl rfl rfl rfl
 obtain⟨hs2,hs7,hd1,hds,hf,hsp⟩:=planG_ok l 0
 generalize planG l 0=P at *
 obtain⟨s,d,p,k1⟩:=P
 simp only at *
 obtain⟨p2,p65,_⟩:=fieldB_iff.1 hf
 have e4:=(nextD l hl k1 5 (by omega)).nm1 49000 0 (by omega) rfl rfl rfl rfl rfl
 have hn5:nextN l k1 5<5:=nextN_lt l k1 5 (by omega)
 generalize nextN l k1 5=n0 at *
 generalize nextK l k1 5=k2 at *
 have e5:=(nextD l hl k2 4 (by omega)).nm1 49000 0 (by omega) rfl rfl rfl rfl rfl
 have hw4:nextN l k2 4<4:=nextN_lt l k2 4 (by omega)
 generalize nextN l k2 4=w0 at *
 generalize nextK l k2 4=k3 at *
 obtain⟨n,hn⟩:∃ n,n=1+n0:=⟨_,rfl⟩
 obtain⟨w,hw⟩:∃ w,w=1+w0:=⟨_,rfl⟩
 have u1:IntKind.i64.wrap (1+(n0:Int))=(n:Int):=by rw[IntWalk.i64_in _ (by omega)];omega
 have u2:IntKind.i64.wrap (1+(w0:Int))=(w:Int):=by rw[IntWalk.i64_in _ (by omega)];omega
 have e6:=(makeRows l hl k3 p (by omega) n w (by omega) (by omega)).nm1 49000 0 (by omega) rfl rfl rfl rfl rfl
 have hrok:=rwG_ok (l:=l) (p:=p) (w:=w) (k:=k3) (n:=n) (by omega)
 have hrl:=rwG_len (l:=l) (p:=p) (w:=w) (k:=k3) (n:=n)
 generalize (rwG l p w k3 n).1=rows at *
 generalize (rwG l p w k3 n).2=k4 at *
 have e7:=(peopleT l hl k4 s (by omega)).nm1 49000 0 (by omega) rfl rfl rfl rfl rfl
 have hpp:=ppl_ok (l:=l) (k:=k4) (n:=s) (by omega)
 have hpl:=pplG_len (l:=l) (k:=k4) (n:=s)
 generalize (pplG l k4 s).1=ppl at *
 generalize (pplG l k4 s).2.2=k5 at *
 have hPl:PlanOK s d:=⟨by omega,by omega,by omega,by omega⟩
 have e8:=limitsT p s d n d rfl hf hPl hsp (by omega) (by omega)
 have hnd:n*d≤5*7:=Nat.mul_le_mul (by omega) (by omega)
 have e9:=(seedM l hl k5 (List.replicate (n*d) p) (by rw[List.length_replicate];omega) (lim_ok (by omega) p65)).nm1 49000 0 (by omega) rfl rfl rfl rfl rfl
 have ht:=seed_tape (seed:=seedV l k5) (p:=p) (m:=n*d) (by omega) (by omega)
 generalize seedF (seedV l k5) (List.replicate (n*d) p) (List.replicate (n*d) p).length=nums at *
 generalize nextK l k5 2147483646=k6 at *
 obtain⟨ix,hix,rix⟩:=rem_nat ha.1 (n:=n) (by omega)
 have wa:IntKind.i64.wrap a=a:=IntWalk.i64_in _ (by omega)
 have e10:=queriesT p s d n ix hf ⟨hs2,hs7⟩ hsp hd1 hds (by omega) (by omega) hix nums ht
 have hql:=qsF_len (p:=p) (s:=s) (d:=d) (n:=n) (ix:=ix) (nums:=nums) (a:=0)
 have e11:=(next l hl k6 p (by omega)).nm1 49000 0 (by omega) rfl rfl rfl rfl rfl
 have hpt:=nextV_in l k6 p
 generalize nextV l k6 p=pt at *
 generalize nextK l k6 p=k7 at *
 have e12:=linesT p pt w rows hf ⟨hpt.1,hpt.2.1 (by omega)⟩ (by omega) hrok (by omega)
 have hqk:∀ j,j<s→((qsF p s d n ix nums 0).getD j []).length=rows.length∧((qsF p s d n ix nums 0).getD j []).all (inE p)=true:=fun j hj=>by
  rw[qsF_get hj]
  exact⟨by rw[colQ_len,hrl],colQ_in (by omega)⟩
 have hQ:∃ Q,Q=qsF p s d n ix nums 0:=⟨_,rfl⟩
 obtain⟨Q,hQ⟩:=hQ
 have hlf:(linesF p pt rows).length=rows.length:=linesF_len
 have hlfi:=linesF_in (p:=p) (x:=pt) (by omega) (rows:=rows)
 obtain⟨LS,hLS⟩:∃ x,x=linesF p pt rows:=⟨_,rfl⟩
 rw[← hLS] at e12 hlf hlfi
 rw[← hQ] at e10 hql hqk
 have q1:((s:Int) != (s:Int))=false:=by simp
 have q2:decide ((16:Int)<(s:Int))=false:=decide_eq_false (by omega)
 have q2':decide ((s:Int) > 16)=false:=decide_eq_false (by omega)
 have qn:((n:Int) == 0)=false:=by simp;omega
 repeat' (first|simp (maxSteps:=9999999) only[↓GE,PL,PP,EE,QQ,seval,u1,u2]|(simp (disch:=omega) only[IntWalk.i64_in])|(apply go_brD<;>intro h)|(apply go_gsD aE<;>intro h)|(apply go_br<;>intro h)|(apply go_gs aE<;>intro h)|(apply go_call 5000 (awakeT) rfl rfl;iterate 4 (first|(exact CallForm.plain rfl)|exact aC))|(apply go_call 5000 (e1) rfl rfl;iterate 4 (first|(exact CallForm.plain rfl)|exact aC))|(apply go_call 5000 (e2) rfl rfl;iterate 4 (first|(exact CallForm.news rfl rfl)|exact aC))|(apply go_call 5000 (e3) rfl rfl;iterate 4 (first|(exact CallForm.lent aL rfl rfl)|exact aC))|(with_reducible apply And.intro)|exact aG|fail)
 (apply go_call 5000 (e4) rfl rfl;iterate 4 (first|(exact CallForm.lent aL rfl rfl)|exact aC))
 repeat' (first|simp (maxSteps:=9999999) only[↓GE,PL,PP,EE,QQ,seval,u1,u2]|(simp (disch:=omega) only[IntWalk.i64_in])|(apply go_brD<;>intro h)|(apply go_gsD aE<;>intro h)|(apply go_br<;>intro h)|(apply go_gs aE<;>intro h)|(with_reducible apply And.intro)|exact aG|fail)
 (apply go_call 5000 (e5) rfl rfl;iterate 4 (first|(exact CallForm.lent aL rfl rfl)|exact aC))
 repeat' (first|simp (maxSteps:=9999999) only[↓GE,PL,PP,EE,QQ,seval,u1,u2,wa,rix,qn,hql,hpl,q1,q2,q2',List.length_map]|(simp (disch:=omega) only[IntWalk.i64_in])|(apply go_brD<;>intro h)|(apply go_gsD aE<;>intro h)|(apply go_br<;>intro h)|(apply go_gs aE<;>intro h)|(apply go_call 5000 (e6) rfl rfl;iterate 4 (first|(exact CallForm.lent aL rfl rfl)|exact aC))|(apply go_call 5000 (e7) rfl rfl;iterate 4 (first|(exact CallForm.lent aL rfl rfl)|exact aC))|(apply go_call 5000 (e8) rfl rfl;iterate 4 (first|(exact CallForm.plain rfl)|exact aC))|(apply go_call 5000 (e9) rfl rfl;iterate 4 (first|(exact CallForm.lent aL rfl rfl)|exact aC))|(apply go_call 5000 (e10) rfl rfl;iterate 4 (first|(exact CallForm.plain rfl)|exact aC))|(apply go_call 5000 (e11) rfl rfl;iterate 4 (first|(exact CallForm.lent aL rfl rfl)|exact aC))|(apply go_call 5000 (e12) rfl rfl;iterate 4 (first|(exact CallForm.plain rfl)|exact aC))|(with_reducible apply And.intro)|exact aG|fail)
 clear e1 e2 e3 e4 e5 e6 e7 e8 e9 e10 e11 e12
 refine go_loopz 5000 hm0 (ι:={q:Nat × Nat // q.1≤s}) (fun q=>[(5,.bp 49000 0 0),(6,.bp 6 0 0),(7,.bp 7 0 0),(9,I w),(10,.d (dRows rows)),(11,.d (dShares ppl)),(14,.d (dRows Q)),(17,I pt),(18,.d (dInts LS)),(20,.og 142 q.1.2),(123,.d (dRows Q)),(124,I s),(125,I q.1.1)]) (fun q=>[(49000,.box 0 [.d (dInts l),I k7]),(6,.box 0 [I p]),(7,.box 0 [I s,I d]),(142,.arr q.1.2 1 true ((honF p w rows (Q.take q.1.1)).map eR))]) (fun q=>s-q.1.1) [] [142] ⟨(0,0),Nat.zero_le _⟩ ?_ ?_
 ·simp only[GeZ];(simp only[GeS];refine⟨?_,?_,?_,?_⟩;all_goals (repeat' (first|(with_reducible exact True.intro)|(with_reducible rfl)|simp only[XC,↓reduceIte,seval]|(with_reducible apply And.intro)|(refine⟨_,rfl,?_⟩)|(simp [honF];done)|exact aS|fail)))
 rintro⟨⟨j,v⟩,hj⟩
 simp only at hj ⊢
 by_cases hjs:j<s
 ·have r1:decide ((j:Int)<(s:Int))=true:=decide_eq_true (by omega)
  have u3:IntKind.i64.wrap ((j:Int)+1)=((j+1:Nat):Int):=by rw[IntWalk.i64_in _ (by omega)];omega
  have hjq:j<Q.length:=by omega
  have hs:=getD_map eR [] [] Q j hjq
  obtain⟨g1,g2⟩:=hqk j hjs
  have e1:=vcombine p w (Q.getD j []) rows hf (by omega) g1 hrok (by omega) g2
  have hnx:=honF_next (p:=p) (w:=w) (rows:=rows) hjq
  have hlen:(honF p w rows (Q.take j)).length=j:=by rw[honF_len,List.length_take];omega
  generalize Q.getD j []=qj at *
  generalize combL p w qj rows=cj at *
  generalize honF p w rows (Q.take j)=HH at *
  repeat' (first|simp (maxSteps:=9999999) only[↓GE,PL,PP,EE,QQ,seval,r1,u3,hs,hjq,hlen,eR,List.length_map]|(simp (disch:=omega) only[IntWalk.i64_in])|(apply go_brD<;>intro h)|(apply go_gsD aE<;>intro h)|(apply go_br<;>intro h)|(apply go_gs aE<;>intro h)|(apply go_call 5000 (e1) rfl rfl;iterate 4 (first|(exact CallForm.plain rfl)|exact aC))|(with_reducible apply And.intro)|exact aG|fail)
  refine⟨[],[],⟨(j+1,v+1),hjs⟩,?_,by simp only;omega⟩
  simp only[GeZ];(simp only[GeS];refine⟨?_,?_,?_,?_⟩;all_goals (repeat' (first|(with_reducible exact True.intro)|(with_reducible rfl)|simp only[XC,↓reduceIte,seval]|(with_reducible apply And.intro)|(refine⟨_,rfl,?_⟩)|(simp [hnx,eR];done)|exact aS|fail)))
 obtain rfl:j=s:=by omega
 have r1:decide ((j:Int)<(j:Int))=false:=decide_eq_false (by omega)
 have htk:Q.take j=Q:=by rw[← hql,List.take_length]
 rw[htk]
 have hHl:(honF p w rows Q).length=j:=by rw[honF_len,hql]
 have e1:=(faultsT l hl k7 j d (by omega) (by omega)).nm1 49000 0 (by omega) rfl rfl rfl rfl rfl
 have hfl:=faultG_ok l k7 j d (by omega)
 generalize hFG:faultG l k7 j d=FG at *
 obtain⟨silent,wrong,k8⟩:=FG
 simp only at e1 hfl
 have hor:=orderT l hl k8 j (by omega)
 have hoo:=ordOK (l:=l) (n:=j) (k:=k8)
 generalize (ordF l j (upTo j) k8).1=o at *
 generalize (ordF l j (upTo j) k8).2=ko at *
 obtain⟨S,hS⟩:∃ S,S=ansN l p w wrong silent o (ansZ (honF p w rows Q) ko) j:=⟨_,rfl⟩
 obtain⟨hI,hA1,hA2,hA3,hA4,hA5⟩:=read_ok (ix:=ix) hf ⟨hs2,hs7⟩ hsp ⟨hd1,hds⟩ (by omega) hrok hrl hix ht hoo hfl (l:=l) (ko:=ko) (S:=S) (by rw[← hQ];exact hS)
 rw[← hQ] at hI
 have e2:=(answersM l hl k8 p w wrong silent (honF p w rows Q) p2 p65 (by omega) (by omega) (honF_rows (by omega)) (by omega) (by omega) (by omega) o ko (by rw[hHl];exact hoo) S (by rw[hHl];exact hS) (by rw[hHl];exact hor)).nm1 49000 0 (by omega) rfl rfl rfl rfl rfl
 rw[hHl] at e2
 have hAl:(ansL S.rows S.kn).length=j:=by rw[ansL_len,hI.rl,hHl]
 have e3:=curveDecode p j d w (ansL S.rows S.kn) hf hPl hsp (by rw[hAl]) (by omega) hA1 hA2 hA3
 rw[hA4,hA5] at e3
 have hbl:=badL_len (b:=S.bad) (n:=j)
 have e4:=sameI (badL S.bad j) (badL S.bad j) (by omega) (by omega)
 rw[decide_eq_true rfl] at e4
 obtain⟨L,hL⟩:∃ L,L=ansL S.rows S.kn:=⟨_,rfl⟩
 rw[← hL] at e2 e3 hAl
 obtain⟨BL,hBL⟩:∃ BL,BL=badL S.bad j:=⟨_,rfl⟩
 rw[← hBL] at e2 e3 e4 hbl
 have hHg:∀ i,i<j→(honF p w rows Q).getD i []=combL p w (Q.getD i []) rows:=fun i hi=>honF_get (by omega)
 have hHr:=honF_rows (p:=p) (by omega) (w:=w) (rows:=rows) (qs:=Q)
 generalize honF p w rows Q=H at *
 repeat' (first|simp (maxSteps:=9999999) only[↓GE,PL,PP,EE,QQ,seval,r1,hAl,List.length_map]|(simp (disch:=omega) only[IntWalk.i64_in])|(apply go_brD<;>intro h)|(apply go_gsD aE<;>intro h)|(apply go_br<;>intro h)|(apply go_gs aE<;>intro h)|(apply go_call 5000 (e1) rfl rfl;iterate 4 (first|(exact CallForm.lent aL rfl rfl)|exact aC))|(apply go_call 5000 (e2) rfl rfl;iterate 4 (first|(exact CallForm.lent aL rfl rfl)|exact aC))|(apply go_call 5000 (e3) rfl rfl;iterate 4 (first|(exact CallForm.plain rfl)|exact aC))|(apply go_call 5000 (e4) rfl rfl;iterate 4 (first|(exact CallForm.plain rfl)|exact aC))|(with_reducible apply And.intro)|exact aG|fail)
 clear e1 e2 e3 e4
 refine go_loopz 5000 hm0 (ι:={q:Nat × Nat // q.1≤j}) (fun q=>[(6,.bp 6 0 0),(7,.bp 7 0 0),(9,I w),(10,.d (dRows rows)),(11,.d (dShares ppl)),(14,.d (dRows Q)),(17,I pt),(18,.d (dInts LS)),(28,.d (dInts BL)),(31,.og 267 q.1.2),(176,.d (dAns L)),(177,I j),(178,I q.1.1)]) (fun q=>[(6,.box 0 [I p]),(7,.box 0 [I j,I d]),(267,.arr q.1.2 1 true ((badL S.bad q.1.1).map eI))]) (fun q=>j-q.1.1) [] [267] ⟨(0,0),Nat.zero_le _⟩ ?_ ?_
 ·simp only[GeZ];(simp only[GeS];refine⟨?_,?_,?_,?_⟩;all_goals (repeat' (first|(with_reducible exact True.intro)|(with_reducible rfl)|simp only[XC,↓reduceIte,seval]|(with_reducible apply And.intro)|(refine⟨_,rfl,?_⟩)|(simp [badL];done)|exact aS|fail)))
 rintro⟨⟨i,v⟩,hi⟩
 simp only at hi ⊢
 by_cases hij:i<j
 ·have r2:decide ((i:Int)<(j:Int))=true:=decide_eq_true (by omega)
  have u3:IntKind.i64.wrap ((i:Int)+1)=((i+1:Nat):Int):=by rw[IntWalk.i64_in _ (by omega)];omega
  have hiL:i<L.length:=by omega
  have hs:=getD_map eA [] ⟨false,[]⟩ L i hiL
  have hLi:L.getD i ⟨false,[]⟩=ansAt S.rows S.kn i:=by
   rw[List.getD_eq_getElem?_getD,List.getElem?_eq_getElem hiL]
   subst hL
   rw[Option.getD_some]
   exact ansL_get (by rw[hI.rl];omega)
  have hbln:=badL_len (b:=S.bad) (n:=i)
  have hbnx:badL S.bad (i+1)=if S.bad.getD i false then badL S.bad i++[(i:Int)+1] else badL S.bad i:=rfl
  rw[hLi] at hs
  have hno:=hI.no i (by omega)
  have hyes:=hI.yes i (by omega)
  cases hk:S.kn.getD i true with
  |false =>
   have hb:S.bad.getD i false=false:=by
    cases hb:S.bad.getD i false with
    |false=>rfl
    |true=>have:=(hyes hb).1;rw[hk] at this;cases this
   rw[hb,if_neg (by simp)] at hbnx
   have hsa:ansAt S.rows S.kn i=⟨false,[]⟩:=by unfold ansAt;rw[if_neg (by rw[hk];simp)]
   rw[hsa] at hs
   generalize badL S.bad i=GG at *
   repeat' (first|simp (maxSteps:=9999999) only[↓GE,PL,PP,EE,QQ,seval,r2,u3,hs,hiL,eA,List.length_map]|(simp (disch:=omega) only[IntWalk.i64_in])|(apply go_brD<;>intro h)|(apply go_gsD aE<;>intro h)|(apply go_br<;>intro h)|(apply go_gs aE<;>intro h)|(with_reducible apply And.intro)|exact aG|fail)
   refine⟨[],[],⟨(i+1,v),hij⟩,?_,by simp only;omega⟩
   simp only[GeZ];(simp only[GeS];refine⟨?_,?_,?_,?_⟩;all_goals (repeat' (first|(with_reducible exact True.intro)|(with_reducible rfl)|simp only[XC,↓reduceIte,seval]|(with_reducible apply And.intro)|(refine⟨_,rfl,?_⟩)|(simp [hbnx,eI];done)|exact aS|fail)))
  |true =>
   have hsa:ansAt S.rows S.kn i=⟨true,S.rows.getD i []⟩:=by unfold ansAt;rw[if_pos hk]
   rw[hsa] at hs
   have hrw:=hA1 (ansAt S.rows S.kn i) (by rw[← hL,← hLi];exact mem_getD _ L i hiL) (by rw[hsa])
   rw[hsa] at hrw
   simp only at hrw
   obtain⟨g1,g2⟩:=hqk i hij
   have hip:i<ppl.length:=by omega
   have hsp1:=getD_map eS [] (0,0) ppl i hip
   have hid1:=hpp.id i hip
   have hlo1:=hpp.lo i hip
   have hm:(i+1) % j<j:=Nat.mod_lt _ (by omega)
   have hmi:(i+1) % j ≠ i:=by
    by_cases e:i+1<j
    ·rw[Nat.mod_eq_of_lt e];omega
    ·have:i+1=j:=by omega
     rw[this,Nat.mod_self];omega
   obtain⟨m,hmd⟩:∃ m,m=(i+1) % j:=⟨_,rfl⟩
   rw[← hmd] at hm hmi
   have hlo2:=hpp.lo m (by omega)
   have hne:(ppl.getD i (0,0)).2 ≠ (ppl.getD m (0,0)).2:=by
    rcases Nat.lt_or_gt_of_ne hmi with h|h
    ·have:=hpp.up m i h hip;omega
    ·have:=hpp.up i m h (by omega);omega
   have hiq:i<Q.length:=by omega
   have hsq:=getD_map eR [] [] Q i hiq
   have hsl:(7 :: (Q.getD i []++S.rows.getD i [])).length≤16384:=by simp only[List.length_cons,List.length_append];omega
   have hsaid:dInts (7 :: (Q.getD i []++S.rows.getD i []))=.sl 1 ([D.at (.int .i64 7)] :: ((Q.getD i []).map eI++(S.rows.getD i []).map eI)):=by rw[← List.map_append];rfl
   have e1:=signT (ppl.getD i (0,0)).2 (7 :: (Q.getD i []++S.rows.getD i [])) hlo1 hsl
   have e2:=verifyT ppl hpp (i+1) (by omega) (by omega) (7 :: (Q.getD i []++S.rows.getD i [])) hsl (rowF ((ppl.getD i (0,0)).2 :: 7 :: (Q.getD i []++S.rows.getD i [])))
   have e3:=verifyT ppl hpp (1+m) (by omega) (by omega) (7 :: (Q.getD i []++S.rows.getD i [])) hsl (rowF ((ppl.getD i (0,0)).2 :: 7 :: (Q.getD i []++S.rows.getD i [])))
   rw[Nat.add_sub_cancel,beq_self_eq_true] at e2
   rw[Nat.add_sub_cancel_left,mark_ne hlo1 hlo2 hne] at e3
   rw[hsaid] at e1 e2 e3
   have e4:=answerT p w (Q.getD i []) rows hf (by omega) g1 hrok (by omega) g2
   have e5:=fitsT p pt LS (Q.getD i []) (S.rows.getD i []) hf ⟨hpt.1,hpt.2.1 (by omega)⟩ hlfi g2 hrw.2 (by rw[g1,hlf]) (by omega) (by omega)
   have hcl:(combL p w (Q.getD i []) rows).length=w:=combN_len
   have e6:=sameI (combL p w (Q.getD i []) rows) (S.rows.getD i []) (by omega) (by omega)
   have hfo:=fits_ok (p:=p) (x:=pt) (by omega) hrok g1
   rw[← hLS] at hfo
   have hHi:=hHg i hij
   rw[hHi] at hno hyes
   have u4:((i+1:Nat):Int).tmod (j:Int)=(m:Int):=by rw[tmod_pos (by omega),hmd];omega
   have u5:IntKind.i64.wrap (1+(m:Int))=((1+m:Nat):Int):=by rw[IntWalk.i64_in _ (by omega)];omega
   have qj:((j:Int) == 0)=false:=by simp;omega
   generalize ppl.getD i (0,0)=P1 at *
   obtain⟨a1,b1⟩:=P1
   simp only at hid1 e1 e2 e3
   generalize rowF (b1 :: 7 :: (Q.getD i []++S.rows.getD i []))=MK at *
   cases hb:S.bad.getD i false with
   |false =>
    have hrE:=hno hb
    rw[hrE] at hs hrw hsl hsaid e1 e2 e3 e5 e6
    rw[decide_eq_true rfl] at e6
    rw[hfo,beq_self_eq_true] at e5
    rw[hb,if_neg (by simp)] at hbnx
    generalize combL p w (Q.getD i []) rows=cj at *
    generalize Q.getD i []=qi at *
    generalize badL S.bad i=GG at *
    repeat' (first|simp (maxSteps:=9999999) only[↓GE,PL,PP,EE,QQ,seval,r2,u3,u4,u5,qj,hs,hiL,hsq,hiq,hsp1,hip,eA,eR,eS,List.length_map]|(simp (disch:=omega) only[IntWalk.i64_in])|(apply go_brD<;>intro h)|(apply go_gsD aE<;>intro h)|(apply go_br<;>intro h)|(apply go_gs aE<;>intro h)|(apply go_call 5000 (e1) rfl rfl;iterate 4 (first|(exact CallForm.plain rfl)|exact aC))|(with_reducible apply And.intro)|exact aG|fail)
    (apply go_call 5000 (e2) rfl rfl;iterate 4 (first|(exact CallForm.plain rfl)|exact aC))
    repeat' (first|simp (maxSteps:=9999999) only[↓GE,PL,PP,EE,QQ,seval,r2,u3,u4,u5,qj,hs,hiL,hsq,hiq,hsp1,hip,eA,eR,eS,List.length_map]|(simp (disch:=omega) only[IntWalk.i64_in])|(apply go_brD<;>intro h)|(apply go_gsD aE<;>intro h)|(apply go_br<;>intro h)|(apply go_gs aE<;>intro h)|(with_reducible apply And.intro)|exact aG|fail)
    (apply go_call 5000 (e3) rfl rfl;iterate 4 (first|(exact CallForm.plain rfl)|exact aC))
    repeat' (first|simp (maxSteps:=9999999) only[↓GE,PL,PP,EE,QQ,seval,r2,u3,u4,u5,qj,hs,hiL,hsq,hiq,hsp1,hip,eA,eR,eS,List.length_map]|(simp (disch:=omega) only[IntWalk.i64_in])|(apply go_brD<;>intro h)|(apply go_gsD aE<;>intro h)|(apply go_br<;>intro h)|(apply go_gs aE<;>intro h)|(apply go_call 5000 (e4) rfl rfl;iterate 4 (first|(exact CallForm.plain rfl)|exact aC))|(apply go_call 5000 (e5) rfl rfl;iterate 4 (first|(exact CallForm.plain rfl)|exact aC))|(apply go_call 5000 (e6) rfl rfl;iterate 4 (first|(exact CallForm.plain rfl)|exact aC))|(with_reducible apply And.intro)|exact aG|fail)
    refine⟨[],[],⟨(i+1,v),hij⟩,?_,by simp only;omega⟩
    simp only[GeZ];(simp only[GeS];refine⟨?_,?_,?_,?_⟩;all_goals (repeat' (first|(with_reducible exact True.intro)|(with_reducible rfl)|simp only[XC,↓reduceIte,seval]|(with_reducible apply And.intro)|(refine⟨_,rfl,?_⟩)|(simp [hbnx,eI];done)|exact aS|fail)))
   |true =>
    obtain⟨_,c,vv,hc,_,_,hvn,hrE⟩:=hyes hb
    have hcne:¬ combL p w (Q.getD i []) rows=S.rows.getD i []:=fun e=>by
     have e7:(S.rows.getD i []).getD c 0=vv:=by rw[hrE,getD_set' (by omega),if_pos rfl]
     rw[← e] at e7
     exact hvn e7.symm
    rw[decide_eq_false hcne] at e6
    rw[hb,if_pos rfl] at hbnx
    clear hno hyes hfo
    generalize (valF p (S.rows.getD i []) pt == sumP p (mulsF p (Q.getD i []) LS))=fb at *
    clear hcne hrE
    generalize S.rows.getD i []=ri at *
    generalize combL p w (Q.getD i []) rows=cj at *
    generalize Q.getD i []=qi at *
    generalize badL S.bad i=GG at *
    have hcast:((i+1:Nat):Int)=(i:Int)+1:=by omega
    repeat' (first|simp (maxSteps:=9999999) only[↓GE,PL,PP,EE,QQ,seval,r2,u3,u4,u5,qj,hs,hiL,hsq,hiq,hsp1,hip,eA,eR,eS,List.length_map]|(simp (disch:=omega) only[IntWalk.i64_in])|(apply go_brD<;>intro h)|(apply go_gsD aE<;>intro h)|(apply go_br<;>intro h)|(apply go_gs aE<;>intro h)|(apply go_call 5000 (e1) rfl rfl;iterate 4 (first|(exact CallForm.plain rfl)|exact aC))|(with_reducible apply And.intro)|exact aG|fail)
    (apply go_call 5000 (e2) rfl rfl;iterate 4 (first|(exact CallForm.plain rfl)|exact aC))
    repeat' (first|simp (maxSteps:=9999999) only[↓GE,PL,PP,EE,QQ,seval,r2,u3,u4,u5,qj,hs,hiL,hsq,hiq,hsp1,hip,eA,eR,eS,List.length_map]|(simp (disch:=omega) only[IntWalk.i64_in])|(apply go_brD<;>intro h)|(apply go_gsD aE<;>intro h)|(apply go_br<;>intro h)|(apply go_gs aE<;>intro h)|(with_reducible apply And.intro)|exact aG|fail)
    (apply go_call 5000 (e3) rfl rfl;iterate 4 (first|(exact CallForm.plain rfl)|exact aC))
    repeat' (first|simp (maxSteps:=9999999) only[↓GE,PL,PP,EE,QQ,seval,r2,u3,u4,u5,qj,hs,hiL,hsq,hiq,hsp1,hip,hbln,eA,eR,eS,List.length_map]|(simp (disch:=omega) only[IntWalk.i64_in])|(apply go_brD<;>intro h)|(apply go_gsD aE<;>intro h)|(apply go_br<;>intro h)|(apply go_gs aE<;>intro h)|(apply go_call 5000 (e4) rfl rfl;iterate 4 (first|(exact CallForm.plain rfl)|exact aC))|(apply go_call 5000 (e5) rfl rfl;iterate 4 (first|(exact CallForm.plain rfl)|exact aC))|(apply go_call 5000 (e6) rfl rfl;iterate 4 (first|(exact CallForm.plain rfl)|exact aC))|(with_reducible apply And.intro)|exact aG|fail)
    refine⟨[],[],⟨(i+1,v+1),hij⟩,?_,by simp only;omega⟩
    simp only[GeZ];(simp only[GeS];refine⟨?_,?_,?_,?_⟩;all_goals (repeat' (first|(with_reducible exact True.intro)|(with_reducible rfl)|simp only[XC,↓reduceIte,seval]|(with_reducible apply And.intro)|(refine⟨_,rfl,?_⟩)|(simp [hbnx,eI,hcast];done)|exact aS|fail)))
 obtain rfl:i=j:=by omega
 have r2:decide ((i:Int)<(i:Int))=false:=decide_eq_false (by omega)
 have e5:=sameI BL BL (by omega) (by omega)
 rw[decide_eq_true rfl] at e5
 rw[← hBL]
 repeat' (first|simp (maxSteps:=9999999) only[↓GE,PL,PP,EE,QQ,seval,r2]|(simp (disch:=omega) only[IntWalk.i64_in])|(apply go_brD<;>intro h)|(apply go_gsD aE<;>intro h)|(apply go_br<;>intro h)|(apply go_gs aE<;>intro h)|(apply go_call 5000 (e5) rfl rfl;iterate 4 (first|(exact CallForm.plain rfl)|exact aC))|(with_reducible apply And.intro)|exact aG|fail)
 ((first|apply ret_mk []|apply end_mk []);(· exact aR);(· exact aZ);all_goals exact aF)
end Go.Proofs.YtacfbiegbdlldaaGreatDoor.Sim
end
section
namespace Go.Proofs.YtacfbiegbdlldaaGreatDoor
open Go Go.RowKit Go.Deep Go.ChangeShapes Go.WideShapes
set_option linter.unusedVariables false
def Opens (P:Program) (t:TypeId) (α:Type) [Rep α] (bulk:{H:Type}→DataW H→α→Prop):Prop :=
 ∀ (H:Type) (enc:TypeId × Value→H) (w:World) (base:Nat) (spare:Nat→Bool) (held:Bool) (fuel:Nat) (cs:List Value) (x:DataW H × List MemPlace),
  DataW.trod enc P w base spare held fuel t cs=some x→∃ a:α,Rep.is w (Lo w.heap.size) cs a∧bulk x.1 a
theorem i64_of_wf {x:Int} (h:(Lit.int .i64 x).wf=true):I64 x:=by simpa [Lit.wf,IntKind.min,IntKind.max,IntKind.signed,IntKind.bits] using h
theorem Opens.int {P:Program} {t:TypeId} (ht:P.underlying t=some (.int .i64)):Opens P t Int (fun _ _=>True):=by
 intro H enc w base spare held fuel cs x h
 obtain⟨n,rfl,rfl,hw⟩:=DataW.trod_int ht h
 exact⟨n,⟨rfl,i64_of_wf hw⟩,trivial⟩
def sliceBulk {α:Type} (bulk:{H:Type}→DataW H→α→Prop) {H:Type} (d:DataW H) (l:List α):Prop :=
 (d=.nil∧l=[])∨∃ elems spare,d=.slice elems spare∧elems.length=l.length∧∀ i (h:i<l.length) (h':i<elems.length),bulk elems[i] l[i]
theorem chunks_of {α:Type} [Rep α] {w:World} {S:Nat→Prop}:∀ (l:List α) (f:Nat→List Value),(∀ i (h:i<l.length),Rep.is w S (f i) l[i])→Chunks w S ((List.range l.length).flatMap f) l
 |[],f,_=>rfl
 |a :: l,f,h=>by
  refine⟨f 0,(List.range l.length).flatMap (fun i=>f (i+1)),?_,h 0 (by simp),chunks_of l _ fun i hi=>h (i+1) (by simpa using hi)⟩
  rw[List.length_cons,List.range_succ_eq_map,List.flatMap_cons,List.flatMap_map]
theorem list_of {β:Type} (p:Nat→β→Prop):∀ n:Nat,(∀ i,i<n→∃ y,p i y)→∃ l:List β,l.length=n∧∀ i (h:i<l.length),p i l[i]
 |0,_=>⟨[],rfl,fun i h=>absurd h (Nat.not_lt_zero _)⟩
 |n+1,h=>by
  obtain⟨l,hl,hp⟩:=list_of p n fun i hi=>h i (by omega)
  obtain⟨y,hy⟩:=h n (Nat.lt_succ_self n)
  refine⟨l++[y],by simp [hl],fun i hi=>?_⟩
  rcases Nat.lt_or_ge i l.length with h1|h1
  ·rw[List.getElem_append_left h1];exact hp i h1
  ·have e:i=l.length:=by simp at hi;omega
   subst e
   rw[List.getElem_append_right (Nat.le_refl _)]
   simp only[Nat.sub_self,List.getElem_cons_zero]
   rw[hl];exact hy
theorem range_of {w:World} {g off sz:Nat}:∀ (l:List (List Value)),(∀ i (h:i<l.length),(l[i]).length=sz∧w.rangeAt g (off+i*sz) l[i])→w.rangeAt g off l.flatten
 |[],_=>fun j v hv=>by simp at hv
 |c :: l,h=>by
  have h0:=h 0 (by simp)
  have ih:=range_of (w:=w) (g:=g) (off:=off+sz) (sz:=sz) l fun i hi=>by
   have:=h (i+1) (by simpa using hi)
   rw[List.getElem_cons_succ] at this
   refine⟨this.1,?_⟩
   have e:off+sz+i*sz=off+(i+1)*sz:=by rw[Nat.add_mul,Nat.one_mul];omega
   rw[e];exact this.2
  intro j v hv
  rw[List.flatten_cons] at hv
  have hl:c.length=sz:=h0.1
  rcases Nat.lt_or_ge j c.length with hj|hj
  ·rw[List.getElem?_append_left hj] at hv
   have:=h0.2 j v hv
   simpa using this
  ·rw[List.getElem?_append_right hj] at hv
   have:=ih (j-c.length) v hv
   rw[show off+sz+(j-c.length)=off+j by omega] at this
   exact this
theorem chunks_flat {α:Type} [Rep α] {w:World} {S:Nat→Prop}:∀ (l:List (List Value × α)),(∀ i (h:i<l.length),Rep.is w S (l[i]).1 (l[i]).2)→Chunks w S (l.map (·.1)).flatten (l.map (·.2))
 |[],_=>rfl
 |a :: l,h=>⟨a.1,_,rfl,h 0 (by simp),chunks_flat l fun i hi=>h (i+1) (by simpa using hi)⟩
theorem Opens.slice {P:Program} {t e:TypeId} {α:Type} [Rep α] {bulk:{H:Type}→DataW H→α→Prop} (ht:P.underlying t=some (.slice e)) (hC:P.cellsOf e=Rep.sz α) (hpos:0<Rep.sz α) (he:Opens P e α bulk):Opens P t (List α) (sliceBulk bulk):=by
 intro H enc w base spare held fuel cs x h
 rcases open_slice ht h with ⟨rfl,rfl⟩|⟨a,len,cap,m,n,D,Pl,rfl,hb,hl,hm,hmm,rfl,hi⟩
 ·exact⟨[],⟨_,rfl,Lst.nil _ _ _ (Nat.zero_le _)⟩,.inl ⟨rfl,rfl⟩⟩
 ·have hlm:len≤m:=by rw[hmm];split <;> omega
  obtain⟨ys,hlen,hy⟩:=list_of (fun i (y:List Value × α)=>w.cells? base (a.add (i*P.cellsOf e)) (P.cellsOf e)=some y.1∧Rep.is w (Lo w.heap.size) y.1 y.2∧bulk (D i) y.2) len fun i hil=>by
   obtain⟨cs',h1,h2⟩:=hi i (by omega)
   obtain⟨y,h3,h4⟩:=he _ _ _ _ _ _ _ _ _ h2
   exact⟨(cs',y),h1,h3,h4⟩
  rw[hC] at hy
  refine⟨ys.map (·.2),⟨_,rfl,(ys.map (·.1)).flatten,some a,cap,by rw[List.length_map,hlen],by rw[List.length_map,hlen];exact hl,hm,chunks_flat ys fun i h=>(hy i h).2.1,fun h0=>?_⟩,?_⟩
  ·rw[List.length_map] at h0
   obtain⟨b,off,spot⟩:=a
   have h1:=(hy 0 h0).1
   obtain⟨_,hcl,hat⟩:=World.cells?_some h1
   have hc0:=hat 0 hpos
   rw[List.getElem?_eq_getElem (by omega)] at hc0
   have hspot:spot=none:=by
    have:=World.cell?_spot hc0
    simpa [Addr.add] using this
   subst hspot
   refine⟨b,off,rfl,?_,range_of (sz:=Rep.sz α) _ fun i hi=>?_⟩
   ·have:=block_lt_of_cell hc0
    simpa [Addr.add] using this
   ·have hi':i<ys.length:=by simpa using hi
    obtain⟨_,hcl,hat⟩:=World.cells?_some (hy i hi').1
    rw[List.getElem_map]
    refine⟨hcl,fun j v hv=>?_⟩
    have hj:j<Rep.sz α:=by have:=(List.getElem?_eq_some_iff.1 hv).1;omega
    have:=hat j hj
    rw[hv,Addr.add_lit,Addr.add_lit] at this
    exact this
  ·refine .inr ⟨_,_,rfl,by simp [hlen],fun i h h'=>?_⟩
   have hi':i<ys.length:=by simpa using h
   have:=(hy i hi').2.2
   simpa using this
theorem Opens.parts {P:Program} {t:TypeId} {fs:Array Field} (ht:P.underlying t=some (.struct fs)) {H:Type} {enc:TypeId × Value→H} {w:World} {base:Nat} {spare:Nat→Bool} {held:Bool} {fuel:Nat} {cs:List Value} {x:DataW H × List MemPlace}
  (h:DataW.trod enc P w base spare held fuel t cs=some x) :
  ∃ (n:Nat) (xs:List (DataW H × List MemPlace)),cs.length=P.cellsOf t∧xs.length=fs.size∧x.1=.agg (xs.map (·.1))∧∀ (j:Nat) (f:Field),fs[j]?=some f→DataW.trod enc P w base spare held n f.type ((cs.drop f.offset).take (P.cellsOf f.type))=xs[j]?:=by
 obtain⟨xs,n,_,hx,hl,hxl,hf⟩:=DataW.trod_struct ht h
 exact⟨n,xs,hl,hxl,by rw[hx],hf⟩
theorem Opens.one {P:Program} {t e:TypeId} {f:Field} (ht:P.underlying t=some (.struct #[f])) (hf:f.type=e) (he:P.underlying e=some (.int .i64)) (ho:f.offset=0) (hC:P.cellsOf t=1) (hC2:P.cellsOf e=1):Opens P t Int (fun _ _=>True):=by
 intro H enc w base spare held fuel cs x h
 obtain⟨n,xs,hl,hxl,hx,hff⟩:=Opens.parts ht h
 have h0:=hff 0 f rfl
 subst hf
 rw[ho,hC2,List.drop_zero,List.take_of_length_le (by omega)] at h0
 match xs,hxl with
 |[y],_=>exact Opens.int he _ _ _ _ _ _ _ _ _ h0
end Go.Proofs.YtacfbiegbdlldaaGreatDoor
end
section
namespace Go.Proofs.YtacfbiegbdlldaaGreatDoor.Sim
open Go Go.RowKit Go.Deep
def IsTrueS (w:World) (e:Ending) (w':World):Prop:=e=.returned (.bool true)∧Below w.heap.size w w'
set_option linter.unusedVariables false
theorem rows_of {α:Type} [Rep α] (f:α→List D) (hf:∀ w S cs x,Rep.is w S cs x→Cells w S (f x) cs) {w:World} {S:Nat→Prop}:∀ (l:List α) (xs:List Value),Chunks w S xs l→Rows w S (Rep.sz α) (l.map f) xs
 |[],xs,h=>by simp only[Rows,List.map_nil];exact h
 |a :: l,xs,h=>by
  obtain⟨x,r,rfl,h1,h2⟩:=h
  simp only[Rows,List.map_cons]
  have hc:=hf _ _ _ _ h1
  exact⟨x,r,rfl,by rw[← hc.len];exact Rep.len h1,hc,rows_of f hf l r h2⟩
theorem lst_sl {α:Type} [Rep α] (f:α→List D) (hf:∀ w S cs x,Rep.is w S cs x→Cells w S (f x) cs) {w:World} {S:Nat→Prop} {v:Value} {l:List α} (h:Lst w S v l):(D.sl (Rep.sz α) (l.map f)).is w S v:=by
 obtain⟨xs,a,cap,rfl,h1,h2,h3,h4⟩:=h
 simp only[D.is]
 exact⟨a,cap,xs,by rw[List.length_map],by rw[List.length_map];exact h1,h2,rows_of f hf l xs h3,fun h0=>h4 (by rw[List.length_map] at h0;exact h0)⟩
theorem int_cells:∀ (w:World) (S:Nat→Prop) (cs:List Value) (x:Int),Rep.is w S cs x→Cells w S [.at (.int .i64 x)] cs:=by
 rintro w S cs x ⟨rfl,_⟩
 simp only[Cells,D.is]
 exact⟨_,_,rfl,⟨rfl,rfl⟩,rfl⟩
theorem u8_cells:∀ (w:World) (S:Nat→Prop) (cs:List Value) (x:UInt8),Rep.is w S cs x→Cells w S [.at (.int .u8 x.toNat)] cs:=by
 rintro w S cs x rfl
 simp only[Cells,D.is]
 exact⟨_,_,rfl,⟨rfl,rfl⟩,rfl⟩
theorem list_cells {α:Type} [Rep α] (f:α→List D) (hf:∀ w S cs x,Rep.is w S cs x→Cells w S (f x) cs):∀ (w:World) (S:Nat→Prop) (cs:List Value) (l:List α),Rep.is w S cs l→Cells w S [.sl (Rep.sz α) (l.map f)] cs:=by
 rintro w S cs l ⟨v,rfl,h⟩
 simp only[Cells]
 exact⟨_,_,rfl,lst_sl f hf h,rfl⟩
theorem calls_true {P:Program} {f:FuncId} {xs:List V} {us:List Value} {w:World} {hd:H} (hgk:Gk w (fun _=>False):=by intro g hg;simp [GL] at hg) (h:Does P f xs [] (B true) [] []) (hv:VRs M0 hd w (Lo w.heap.size) xs us):Calls P f us.toArray w (IsTrueS w):=by
 have hm:Mem (ups M0 []) hd w (Lo w.heap.size) (fun _=>False) w.heap.size :=
  ⟨fun i o h=>(by simp only[ups] at h;cases h),fun i j oi oj b _ h=>(by simp only[ups] at h;cases h),fun b h=>h,Nat.le_refl _,fun b h=>h.elim⟩
 refine (h w hd _ _ us hgk hm hv).mono ?_
 rintro e w' ⟨u,hd',S',rfl,hfr,_,hu,_⟩
 have:u=.bool true:=by simp only[B,VR,D.is] at hu;exact hu.1
 subst this
 exact⟨rfl,⟨hfr.os,hfr.tape,hfr.output,hfr.size,fun k hk=>hfr.block k hk fun h=>h⟩⟩
end Go.Proofs.YtacfbiegbdlldaaGreatDoor.Sim
end
section
namespace Go.Proofs.YtacfbiegbdlldaaGreatDoor.Sim
open Go Go.RowKit Go.ChangeShapes Go.WideShapes
set_option maxRecDepth 100000
set_option linter.unusedVariables false
theorem failName {u:TypeId} (h:Tryz.prog.typeName? 3 u=some "privatefetch/unique.failure"):u=214:=by
 have hu:u<Tryz.prog.types.size:=by
  rcases Nat.lt_or_ge u Tryz.prog.types.size with hu|hu
  ·exact hu
  ·exfalso
   unfold Program.typeName? at h
   cases hi:Tryz.prog.info? u with
   |none=>simp [hi] at h
   |some i =>
    have hb:=Tables.info?_beyond (Nat.not_lt.2 hu) hi
    simp only[hi] at h
    cases hd:i.desc <;> simp only[hd,TypeDesc.tableOnly] at h hb <;> try cases hb
    all_goals try cases h
    simp only[Option.map_eq_some_iff] at h
    obtain⟨n',hn',hs⟩:=h
    have:=congrArg String.toList hs
    simp only[String.toList_append] at this
    have h0:=congrArg List.head? this
    rw[List.head?_append] at h0
    revert h0
    rw[show "*".toList.head?=some '*' by decide,show "privatefetch/unique.failure".toList.head?=some 'p' by decide]
    simp
 exact Program.typeNamed8_inj (by kernel_rfl) hu h
theorem gkOf {W:World} (h:laidMetH Tryz.prog [("privatefetch/unique.errWrong",Rows.laid_privatefetch_unique_errWrong)] W):Gk W (fun _=>False):=by
 rw[MakeChecks.laidMetH_plain _ _ _ (by kernel_rfl)] at h
 obtain⟨ps,⟨g0,t0,cs0,f0,p0,q0,hg0,ht0,hv0,hd0,hq,hps⟩,hnd,hcells⟩:=h
 have hgn:Tryz.prog.globalNamed "privatefetch/unique.errWrong"=some 0:=by kernel_rfl
 have htn:(Tryz.prog.globals[0]?).map (·.type)=some 178:=by kernel_rfl
 obtain rfl:=Option.some.inj (hgn.symm.trans hg0)
 obtain rfl:=Option.some.inj (htn.symm.trans ht0)
 obtain⟨f1,u,v,hcs,hn,hd1⟩:=iface_of_trod Tryz.underlying178 hd0
 have hu:=failName hn
 subst hu
 have hc1:cs0=#[.iface 214 v]:=Array.eq_one_of_toList hcs
 subst hc1
 have hcell:=World.var?_cell hg0 hv0 0
 simp only[List.getElem?_toArray,List.getElem?_cons_zero] at hcell
 have hmem:MemPlace.cell 0 0 ∈ ps:=by
  rw[hps];simp [MemPlace.row]
 obtain⟨⟨c,t,hb⟩,hok⟩:=hcells _ _ hmem
 obtain⟨cs,rfl,hsz⟩:=okWide_struct Tryz.underlying214 (hok _ _ hcell)
 have hz:Value.agg cs=.agg #[.int .i64 12]:=by
  have h2:=trod_struct1 Tryz.underlying214 hd1
  obtain⟨y0,n,he,hl,hy⟩:=h2
  have c1:Tryz.prog.cellsOf 38=1:=by kernel_rfl
  have c2:Tryz.prog.cellsOf 214=1:=by kernel_rfl
  obtain⟨l⟩:=cs
  simp only[Value.cells] at hy hl
  rw[c2] at hl
  rw[c1,List.drop_zero,List.take_of_length_le (by omega)] at hy
  obtain⟨k,e1,e2,_⟩:=DataW.trod_int Tryz.underlying38 hy
  subst e2
  simp only[Prod.mk.injEq,DataW.agg.injEq,List.cons.injEq,DataW.lit.injEq,Lit.int.injEq,true_and,and_true] at he
  obtain⟨rfl,-⟩:=he
  rw[show l=[Value.int .i64 12] from e1]
 rw[hz] at hcell
 intro g hg
 have hgl:GL=[0]:=rfl
 rw[hgl] at hg
 obtain rfl:g=0:=by simpa using hg
 exact⟨(Array.getElem?_eq_some_iff.1 hb).1,fun h=>h,hcell⟩
end Go.Proofs.YtacfbiegbdlldaaGreatDoor.Sim
end
section
namespace Go.Proofs.YtacfbiegbdlldaaGreatDoor
open Go Go.RowKit Go.ChangeShapes Go.WideShapes
set_option linter.unusedVariables false
theorem opens_ints:Opens Tryz.prog 22 (List Int) (sliceBulk fun _ _=>True):=Opens.slice Tryz.underlying22 (by kernel_rfl) (by decide) (Opens.int Tryz.underlying3)
theorem topEvidence_args (w:World) (hg:Sim.Gk w (fun _=>False)) (v0:Value) (l0:List Int) (h0:Lst w (Lo w.heap.size) v0 l0) (hb0:l0.length*8≤140737488351232)
  (x1:Int) (ha1:0≤x1) (hc1:x1≤255):Calls Tryz.prog 3 #[v0,.int .u8 x1] w (Sim.IsTrueS w):=by
 have:=Sim.calls_true (hgk:=hg) (us:=[v0,.int .u8 x1]) (hd:=fun _=>.bool true) ((fun (l:List Int) (hl:l.length≤17592186044416) (x1:Int) (a1:0≤x1) (c1:x1≤255)=>Sim.topEvid l x1 hl ⟨a1,c1⟩) l0 (by omega) x1 ha1 hc1) (by
  simp only[Sim.VRs,Sim.VR,Sim.D.is]
  exact⟨_,_,rfl,Sim.lst_sl (α:=Int) Sim.eI Sim.int_cells h0,⟨_,_,rfl,⟨rfl,rfl⟩,rfl⟩⟩)
 simpa using this
end Go.Proofs.YtacfbiegbdlldaaGreatDoor
namespace Go.Proofs.YtacfbiegbdlldaaGreatDoor.topEvidence
open Go.ChangeShapes Go.WideShapes Go.ChangeAt Go.RowKit
open Go.ChangeMaps (open_string shut_string)
set_option linter.unusedVariables false
theorem own:ownKnob Tryz.prog.godebug=none:=by kernel_rfl
theorem laidOut:laidOutB Tryz.prog=true:=by kernel_rfl
theorem wf_u8 {x:Int} (h:(Lit.int .u8 x).wf=true):0≤x∧x≤255:=by simpa [Lit.wf,IntKind.min,IntKind.max,IntKind.signed,IntKind.bits] using h
theorem bytesOf_ints:Tryz.prog.bytesOf 3=8:=by kernel_rfl
abbrev laid:List (String × DataW Unit):=[("privatefetch/unique.errWrong",Rows.laid_privatefetch_unique_errWrong)]
theorem met (os:Os) (args:Array Value):laidMetH Tryz.prog laid ((World.laidAll Tryz.prog os laid).forCall (fun _ _=>0) ⟨#[],args,[]⟩).memory:=by
 rw[MakeChecks.laidMetH_plain _ _ _ (by kernel_rfl)]
 exact laidMet_laidAll _ (by kernel_rfl) (by kernel_rfl)
set_option maxRecDepth 100000 in
theorem lifted (os:Os) (started:os.Started) (H:Type) (enc:TypeId × Value→H) :
  ReturnsInHanded {} Tryz.checked os 3 .any (fun w args=>(Rows.topEvidenceSpec.pre enc Tryz.prog Tryz.f3 [] false w args∧laidMetH Tryz.prog laid w)∧sizedMet enc Tryz.prog Tryz.f3 (OpenSpec.ofChange Rows.topEvidenceSpec) false w args) (Rows.topEvidenceSpec.post enc Tryz.prog Tryz.f3 false true false false):=by
 refine returnsInHanded_of_change_and (C:=Tryz.checked) (X:=fun w _=>laidMetH Tryz.prog laid w) (fun _ _ _ hh h=>h.of_heap hh) own started (by kernel_rfl) Tryz.func3
  (ChangeSpec.witness_shaped (enc:=enc) (C:=Tryz.checked) (os:=os) (X:=fun w _=>laidMetH Tryz.prog laid w) false (World.laidAll Tryz.prog os laid) #[.slice none 0 0,.int .u8 0] 8 (World.laidAll_os _ _ _) (World.shaped_of_ZipB (by kernel_rfl) (by kernel_rfl)) (by kernel_rfl) (by kernel_rfl) (by kernel_rfl) (met os _)) ?_
 intro W base args ds gs before hval0 hW hcnd hsz0 hL _
 have hsz:(DataW.weightsEach Tryz.prog (Tryz.f3.params.toList++Rows.topEvidenceSpec.plain.varTypes Tryz.prog) (ds++gs)).all (·≤reachBytes)=true:=hsz0
 have hval:∀ (j:Nat) t v,Tryz.f3.params[j]?=some t→args[j]?=some v→Value.okWide Tryz.prog W .any base t v:=hval0
 have hW':=hW
 obtain⟨p,q,hA0,hV,rfl,hfz,hnd⟩:=hW
 have hA:DataW.TrodAll enc Tryz.prog W 0 (fun _=>true) true Tryz.f3.params.toList args.toList ds p:=hA0
 rw[Tryz.params3] at hA hval hsz
 obtain⟨v0,vs0,d0,ds0,p0,q0,hargs,rfl,rfl,h0,r0⟩:=trodAll_cons hA
 obtain⟨v1,vs1,d1,ds1,p1,q1,rfl,rfl,rfl,h1,r1⟩:=trodAll_cons r0
 obtain⟨rfl,rfl,rfl⟩:=trodAll_nil r1
 obtain rfl:args=#[v0,v1]:=by cases args;simp_all
 obtain⟨rfl,rfl⟩:=trodVars_none hV
 obtain⟨a0,len0,cap0,rfl⟩:=okWide_slice Tryz.underlying22 (hval 0 22 v0 rfl rfl)
 have k0:=h0
 have lt0:∀ x ∈ p0,x.block<W.heap.size:=by obtain⟨m,hm⟩:=k0;exact DataW.trod_lt m _ _ _ hm
 obtain⟨fuel0,hf0⟩:=h0
 obtain⟨x0,⟨u0,hu0,hx0⟩,hbk0⟩:=opens_ints _ _ _ _ _ _ _ _ _ hf0
 simp [Value.cells] at hu0
 subst hu0
 have bz0:x0.length*8≤140737488351232:=by
  rcases hbk0 with ⟨_,h0⟩|⟨elems,spare,hd,hle,_⟩
  ·rw[h0];simp
  ·have hd':d0=.slice elems spare:=hd
   subst hd'
   have hs:=sized_slice hsz (j:=0) (t:=22) (e:=3) rfl rfl Tryz.underlying22
   rw[bytesOf_ints] at hs
   simp only[reachBytes] at hs
   have hm:elems.length*8≤(elems.length+spare.length)*8:=Nat.mul_le_mul_right _ (Nat.le_add_right _ _)
   rw[← hle]
   omega
 obtain⟨x1,rfl,rfl,rfl,w1⟩:=open_int Tryz.underlying5 (hval 1 5 v1 rfl rfl) h1
 have b1:=wf_u8 w1
 clear hA0 hval0
 have hw:=topEvidence_args W (Sim.gkOf hL) (.slice a0 len0 cap0) x0 hx0 bz0 x1 b1.1 b1.2
 refine hw.mono fun e W' ⟨he,bel⟩=>?_
 subst he
 exact⟨_,rfl,_,_,_,[],_,[],hW',trodAll_mk1 (shut_bool Tryz.underlying4 _),(trodAll_cons_mk (Below.trod laidOut (by kernel_rfl) (of_decide_eq_true (by kernel_rfl)) k0 bel lt0) (trodAll_cons_mk (shut_int Tryz.underlying5 w1) trodAll_mk0)),rfl,bel.frame _,fun h=>by cases h⟩
theorem over:Rows.topEvidenceRow.holds Tryz.pinned (OpenSpec.ofChange Rows.topEvidenceSpec) :=
 OpenClaim.holds_of_wide 3 Tryz.f3 rfl rfl rfl rfl rfl rfl rfl ⟨rfl,rfl,rfl,rfl,rfl⟩ rfl rfl rfl rfl rfl (by kernel_rfl) Tryz.func3 (by kernel_rfl)
  (of_decide_eq_true (by kernel_rfl)) (by unfold Func.isWrapper;first|(rw[if_pos (by decide +kernel)];kernel_rfl)|(rw[if_neg (by decide +kernel)];exact⟨rfl,rfl⟩))
  (fun os started H enc _=>lifted os started H enc)
theorem proved:Rows.TopEvidenceCardSaid :=
 Claim7.holds_tied_plain_at .later [] [.wider] true _ true
  over (fun _ h=>by cases h) (by kernel_rfl) (fun _ h=>by cases h) topEvidence_row_tie rfl ⟨rfl,rfl⟩ (by kernel_rfl) rfl
  (fun f fn hf hfn=>by
   obtain rfl:f=3:=Option.some.inj ((show Tryz.prog.funcNamed Rows.topEvidenceRow.func=some 3 by kernel_rfl).symm.trans hf) |>.symm
   obtain rfl:fn=Tryz.f3:=(Option.some.inj (Tryz.func3.symm.trans hfn)).symm
   exact⟨by kernel_rfl,fun j t ht=>by
    rw[Tryz.params3] at ht
    have hw:∀ u ∈ [22,5],Tryz.prog.wantsStandIn u=false:=by
     have h:([22,5].all fun u=>!Tryz.prog.wantsStandIn u)=true:=by kernel_rfl
     intro u hu
     have:=List.all_eq_true.1 h u hu
     simpa using this
    exact hw t (List.mem_of_getElem? (by simpa using ht))⟩)
  (by kernel_rfl)
#print axioms proved
end Go.Proofs.YtacfbiegbdlldaaGreatDoor.topEvidence
end
