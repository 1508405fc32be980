/- topVersions: at every input the law returns true, and each argument reads afterwards as it read before. -/
import Derived.Test.YtacfbiegbdlldaaGreatDoorVTvU
import Derived.Test.YtacfbiegbdlldaaGreatDoorVTvT
import Derived.Test.YtacfbiegbdlldaaGreatDoorVRep
import Derived.ProofKit
import Derived.Deep.Slices
import Derived.Lib.SmallJoins
import Derived.Test.YtacfbiegbdlldaaGreatDoorVSimZ
import Derived.Below
import Derived.Test.YtacfbiegbdlldaaGreatDoorRows
import Derived.Look8
import Derived.LaidLaws
import Derived.Lay
import Derived.MakeChecks
import Derived.FnData
import Derived.LaidHandle
import Derived.ChangeSame
import Derived.WideShapes
import Derived.Test.YtacfbiegbdlldaaGreatDoorTie
import Derived.Test.YtacfbiegbdlldaaGreatDoorCards
import Derived.LaidMore
import Derived.Stop.Joined
import Derived.SevenTiedAt
import Derived.OpenShut
import Derived.ShutString
import Derived.ChangeOld
import Derived.SizedLaws
section
namespace Go.Proofs.YtacfbiegbdlldaaGreatDoor.Sim
open Go Go.RowKit Go.Deep
set_option maxRecDepth 100000
set_option maxHeartbeats 4000000
set_option linter.unusedVariables false
set_option linter.unusedSimpArgs false
attribute [local irreducible] Go Mean
theorem mlead (c i:Nat) (d:Int) (ds:List Int) (hc:c≤16) (hi:i<c) (hds:ds.length=lenN c i c) (hd:0≤d∧d<2147483647) (hin:∀ x ∈ ds,0≤x∧x<2147483647):Does Tryz.prog 69 [.ag [I i,I c,.d (dInts ds)],I d] [] (.tu [I (leadN c i c d ds),I 0]) [] []:=by
 refine G45' rfl BxOK.nil fun cx hm0=>go_in 5000 ?_
 unfold A45' R45'
 have e1:=mlength c i hc hi
 rw[← hds] at e1
 have hlc:=lenN_le (f:=c) (i:=i) (c:=c)
 have q1:((ds.length:Int) != (ds.length:Int))=false:=by simp
 have hal:∀ x ∈ d :: ds,0≤x∧x<2147483647:=fun x hx=>by
  rcases List.mem_cons.1 hx with rfl|hx
  ·exact hd
  ·exact hin x hx
 have hD:dInts (d :: ds)=.sl 1 ([D.at (.int .i64 d)] :: ds.map eI):=rfl
 obtain⟨A,hA⟩:∃ A,A=d :: ds:=⟨_,rfl⟩
 have hAl:A.length=ds.length+1:=by rw[hA];rfl
 have hAm:A.map eI=[D.at (.int .i64 d)] :: ds.map eI:=by rw[hA];rfl
 rw[← hA] at hal
 repeat' (first|simp (maxSteps:=9999999) only[↓GE,PL,PP,EE,QQ,seval,q1,lm]|(simp (disch:=omega) only[i6])|(apply go_brD<;>intro h)|(apply go_gsD aE<;>intro h)|(apply go_br<;>intro h)|(apply go_gs aE<;>intro h)|(apply go_call 5000 (e1) rfl rfl;iterate 4 (first|(exact CallForm.plain rfl)|exact aC))|(with_reducible apply And.intro)|exact aG|fail)
 refine go_loopz 5000 hm0 (ι:={j:Nat // j≤A.length}) (fun j=>[(1,I d),(2,.bp 2 0 0),(33,.d (dInts A)),(34,I A.length),(35,I j.1)]) (fun j=>[(2,.box 0 [I i,I c,.d (dInts ds)])]) (fun j=>A.length-j.1) [.og 30 1] [] ⟨0,Nat.zero_le _⟩ ?_ ?_
 ·simp only[GeZ];(simp only[GeS];refine⟨?_,?_,?_,?_⟩;all_goals (repeat' (first|(with_reducible exact True.intro)|(with_reducible rfl)|simp only[XC,↓reduceIte,seval]|(with_reducible apply And.intro)|(refine⟨_,rfl,?_⟩)|(simp [hAm,hAl];done)|exact aS|fail)))
 rintro⟨j,hj⟩
 simp only at hj ⊢
 by_cases hjn:j<A.length
 ·have r1:decide ((j:Int)<(A.length:Int))=true:=dt (by omega)
  have u1:IntKind.i64.wrap ((j:Int)+1)=((j+1:Nat):Int):=by rw[i6 _ (by omega)];omega
  have hs:=getD_map eI [] 0 A j hjn
  have e2:=properT _ (hal _ (mem_getD 0 A j hjn))
  generalize A.getD j 0=x at *
  repeat' (first|simp (maxSteps:=9999999) only[↓GE,PL,PP,EE,QQ,seval,r1,u1,hs,eI,hjn,lm]|(simp (disch:=omega) only[i6])|(apply go_brD<;>intro h)|(apply go_gsD aE<;>intro h)|(apply go_br<;>intro h)|(apply go_gs aE<;>intro h)|(apply go_call 5000 (e2) rfl rfl;iterate 4 (first|(exact CallForm.plain rfl)|exact aC))|(with_reducible apply And.intro)|exact aG|fail)
  refine⟨[],[],⟨j+1,hjn⟩,?_,by simp only;omega⟩
  simp only[GeZ];exact aH
 obtain rfl:j=A.length:=by omega
 have r1:decide ((A.length:Int)<(A.length:Int))=false:=df (by omega)
 repeat' (first|simp (maxSteps:=9999999) only[↓GE,PL,PP,EE,QQ,seval,r1]|(simp (disch:=omega) only[i6])|(apply go_brD<;>intro h)|(apply go_gsD aE<;>intro h)|(apply go_br<;>intro h)|(apply go_gs aE<;>intro h)|(with_reducible apply And.intro)|exact aG|fail)
 clear hA hAm hD
 obtain⟨Z,hZ⟩:∃ Z,Z=leadN c i c d ds:=⟨_,rfl⟩
 rw[← hZ]
 refine go_loopz 5000 hm0 (ι:={q:Nat × Nat × Int × List Int // q.2.1<q.1∧q.1≤16∧q.2.2.2.length=lenN q.1 q.2.1 q.1∧leadN q.1 q.2.1 q.1 q.2.2.1 q.2.2.2=Z}) (fun q=>[(1,I q.1.2.2.1),(10,.d (dInts q.1.2.2.2)),(11,I q.1.2.1),(12,I q.1.1)]) (fun q=>[]) (fun q=>q.1.1) [] [] ⟨(c,i,d,ds),hi,hc,hds,hZ.symm⟩ ?_ ?_
 ·simp only[GeZ];exact aH
 clear hZ hds hi hc hin e1 hlc q1 hAl hd
 rintro⟨⟨c,i,d,ds⟩,g1,g2,g3,g4⟩
 simp only at g1 g2 g3 g4 ⊢
 by_cases hL:1<c
 ·have r2:decide ((c:Int) > 1)=true:=dt (by omega)
  have r2':decide ((1:Int)<(c:Int))=true:=dt (by omega)
  have hx:=xor_sib (i:=i) (by omega)
  have u1:IntKind.i64.wrap ((i:Int).tdiv 2)=((i / 2:Nat):Int):=by
   rw[show ((i:Int).tdiv 2)=((i / 2:Nat):Int) from by rw[Int.tdiv_eq_ediv_of_nonneg (by omega)];omega,i6 _ (by omega)]
  have u2:IntKind.i64.wrap ((c:Int)+1)=((c+1:Nat):Int):=by rw[i6 _ (by omega)];omega
  have u3:IntKind.i64.wrap (((c+1:Nat):Int).tdiv 2)=(((c+1) / 2:Nat):Int):=by
   rw[show (((c+1:Nat):Int).tdiv 2)=(((c+1) / 2:Nat):Int) from by rw[Int.tdiv_eq_ediv_of_nonneg (by omega)];omega,i6 _ (by omega)]
  have hpn:lenN c i c=(if sib i<c then 1 else 0)+lenN ((c+1) / 2) (i / 2) ((c+1) / 2):=by
   obtain⟨f,rfl⟩:∃ f,c=f+1:=⟨c-1,by omega⟩
   conv=>lhs;rw[lenN]
   rw[if_neg (by omega),lenN_any (n:=f) (m:=(f+1+1) / 2) (by omega) (by omega)]
  have hln:leadN c i c d ds=if c≤sib i then leadN ((c+1) / 2) (i / 2) ((c+1) / 2) d ds else leadN ((c+1) / 2) (i / 2) ((c+1) / 2) (if i % 2=0 then nodeF d (ds.getD 0 0) else nodeF (ds.getD 0 0) d) (ds.drop 1):=by
   obtain⟨f,rfl⟩:∃ f,c=f+1:=⟨c-1,by omega⟩
   conv=>lhs;rw[leadN]
   rw[if_neg (by omega)]
   split
   ·exact leadN_any (by omega) (by omega)
   ·exact leadN_any (by omega) (by omega)
  rw[hpn] at g3
  rw[hln] at g4
  have k1:i / 2<(c+1) / 2:=by omega
  have k2:(c+1) / 2<c:=by omega
  have t1:(i:Int).tmod 2=((i % 2:Nat):Int):=by rw[tmod_pos (by omega)];omega
  clear hpn hln
  generalize (c+1) / 2=c2 at *
  generalize i / 2=i2 at *
  generalize (c+1:Nat)=c1 at *
  by_cases hsb:c≤sib i
  ·have r3:decide (((sib i:Nat):Int) ≥ (c:Int))=true:=dt (by omega)
   have r3':decide ((c:Int)≤((sib i:Nat):Int))=true:=dt (by omega)
   rw[if_neg (by omega),Nat.zero_add] at g3
   rw[if_pos hsb] at g4
   generalize sib i=k at *
   repeat' (first|simp (maxSteps:=9999999) only[↓GE,PL,PP,EE,QQ,seval,r2,r2',r3,r3',hx,u1,u2,u3]|(simp (disch:=omega) only[i6])|(apply go_brD<;>intro h)|(apply go_gsD aE<;>intro h)|(apply go_br<;>intro h)|(apply go_gs aE<;>intro h)|(with_reducible apply And.intro)|exact aG|fail)
   refine⟨[],[],⟨(c2,i2,d,ds),k1,by simp only;omega,g3,g4⟩,?_,k2⟩
   simp only[GeZ];exact aH
  ·have r3:decide (((sib i:Nat):Int) ≥ (c:Int))=false:=df (by omega)
   have r3':decide ((c:Int)≤((sib i:Nat):Int))=false:=df (by omega)
   rw[if_pos (by omega)] at g3
   rw[if_neg hsb] at g4
   cases ds with
   |nil=>simp only[List.length_nil] at g3;omega
   |cons x r =>
    simp only[List.length_cons] at g3
    simp only[List.getD_cons_zero,List.drop_succ_cons,List.drop_zero] at g4
    have hta:(r.map eI).take r.length=r.map eI:=List.take_of_length_le (by simp)
    have hcl:((x :: r).map eI).length=r.length+1:=by simp
    have hcm:(x :: r).map eI=eI x :: r.map eI:=rfl
    have hrl:r.length=lenN c2 i2 c2:=by omega
    by_cases hev:i % 2=0
    ·have t2:(((i % 2:Nat):Int) == 0)=true:=by rw[hev];rfl
     rw[if_pos hev] at g4
     have e3:=dnode d x
     generalize nodeF d x=z at *
     generalize sib i=k at *
     generalize (i % 2:Nat)=im at *
     repeat' (first|simp (maxSteps:=9999999) only[↓GE,PL,PP,EE,QQ,seval,r2,r2',r3,r3',hx,t1,t2,u1,u2,u3,hcl,eI,lm]|(simp (disch:=omega) only[i6])|(apply go_brD<;>intro h)|(apply go_gsD aE<;>intro h)|(apply go_br<;>intro h)|(apply go_gs aE<;>intro h)|(apply go_call 5000 (e3) rfl rfl;iterate 4 (first|(exact CallForm.plain rfl)|exact aC))|(with_reducible apply And.intro)|exact aG|fail)
     refine⟨[],[],⟨(c2,i2,z,r),k1,by simp only;omega,hrl,g4⟩,?_,k2⟩
     simp only[GeZ];(simp only[GeS];refine⟨?_,?_,?_,?_⟩;all_goals (repeat' (first|(with_reducible exact True.intro)|(with_reducible rfl)|simp only[XC,↓reduceIte,seval]|(with_reducible apply And.intro)|(refine⟨_,rfl,?_⟩)|(simp [hta,eI];done)|exact aS|fail)))
    ·have t2:(((i % 2:Nat):Int) == 0)=false:=by rw[beq_eq_false_iff_ne];omega
     rw[if_neg hev] at g4
     have e3:=dnode x d
     generalize nodeF x d=z at *
     generalize sib i=k at *
     generalize (i % 2:Nat)=im at *
     repeat' (first|simp (maxSteps:=9999999) only[↓GE,PL,PP,EE,QQ,seval,r2,r2',r3,r3',hx,t1,t2,u1,u2,u3,hcl,eI,lm]|(simp (disch:=omega) only[i6])|(apply go_brD<;>intro h)|(apply go_gsD aE<;>intro h)|(apply go_br<;>intro h)|(apply go_gs aE<;>intro h)|(apply go_call 5000 (e3) rfl rfl;iterate 4 (first|(exact CallForm.plain rfl)|exact aC))|(with_reducible apply And.intro)|exact aG|fail)
     refine⟨[],[],⟨(c2,i2,z,r),k1,by simp only;omega,hrl,g4⟩,?_,k2⟩
     simp only[GeZ];(simp only[GeS];refine⟨?_,?_,?_,?_⟩;all_goals (repeat' (first|(with_reducible exact True.intro)|(with_reducible rfl)|simp only[XC,↓reduceIte,seval]|(with_reducible apply And.intro)|(refine⟨_,rfl,?_⟩)|(simp [hta,eI];done)|exact aS|fail)))
 ·have r2:decide ((c:Int) > 1)=false:=df (by omega)
  have r2':decide ((1:Int)<(c:Int))=false:=df (by omega)
  have hc1:c=1:=by omega
  subst hc1
  have hz:leadN 1 i 1 d ds=d:=rfl
  rw[hz] at g4
  rw[← g4]
  repeat' (first|simp (maxSteps:=9999999) only[↓GE,PL,PP,EE,QQ,seval,r2,r2']|(simp (disch:=omega) only[i6])|(apply go_brD<;>intro h)|(apply go_gsD aE<;>intro h)|(apply go_br<;>intro h)|(apply go_gs aE<;>intro h)|(with_reducible apply And.intro)|exact aG|fail)
  all_goals ((first|apply ret_mk []|apply end_mk []);(· exact aR);(· exact aZ);all_goals exact aF)
theorem mcheck (l:List Int) (ix:Nat) (h:DigOK l) (h16:l.length≤16) (hix:ix<l.length):Does Tryz.prog 36 [.ag [I ix,I l.length,.d (dInts (pathN l.length ix l))],I (l.getD ix 0),I (rootN l.length l)] [] (I 0) [] []:=by
 refine G41' rfl BxOK.nil fun cx hm0=>go_in 5000 ?_
 unfold A41' R41'
 have e1:=mlead l.length ix (l.getD ix 0) (pathN l.length ix l) h16 hix pathN_len (h.2 _ (mem_getD 0 l ix hix)) (pathN_in h.2)
 rw[lead_root hix (by omega)] at e1
 generalize rootN l.length l=z at *
 generalize pathN l.length ix l=P at *
 generalize l.getD ix 0=x at *
 repeat' (first|simp (maxSteps:=9999999) only[↓GE,PL,PP,EE,QQ,seval]|(simp (disch:=omega) only[i6])|(apply go_brD<;>intro h)|(apply go_gsD aE<;>intro h)|(apply go_br<;>intro h)|(apply go_gs aE<;>intro h)|(apply go_call 5000 (e1) rfl rfl;iterate 4 (first|(exact CallForm.plain rfl)|exact aC))|(with_reducible apply And.intro)|exact aG|fail)
 all_goals ((first|apply ret_mk []|apply end_mk []);(· exact aR);(· exact aZ);all_goals exact aF)
end Go.Proofs.YtacfbiegbdlldaaGreatDoor.Sim
end
section
namespace Go.Proofs.YtacfbiegbdlldaaGreatDoor.Sim
open Go Go.RowKit Go.Deep
set_option maxRecDepth 100000
set_option maxHeartbeats 8000000
set_option linter.unusedVariables false
set_option linter.unusedSimpArgs false
attribute [local irreducible] Go Mean
theorem diff_short {ra:List (List Int)} {l:List (List Int)} {k:Nat} (h:Short l):ShortS (diffGo ra k l):=fun s hs=>h _ (diffGo_mem ra l k s hs)
theorem diff_len {ra:List (List Int)}:∀ {l:List (List Int)} {k:Nat},(diffGo ra k l).length≤l.length
 |[],_=>by simp [diffGo]
 |r :: l,k=>by
  have:=diff_len (ra:=ra) (l:=l) (k:=k+1)
  rw[diffGo]
  split <;> simp only[List.length_cons] <;> omega
structure VerOK (t:PTab):Prop where
 fld:fieldB t.p=true
 w1:1≤t.width
 w2:t.width≤4
 rows:RowsOK t.p t.width t.rows
 len:t.rows.length≤10
theorem topVers (l:List Int) (a:Int) (hl:l.length≤17592186044416) (ha:0≤a∧a≤255) :
  Does Tryz.prog 4 [.d (dInts l),.d (.at (.int .u8 a))] [] (B true) [] []:=by
 refine G0' rfl BxOK.nil fun cx hm0=>go_in 5000 ?_
 unfold A0' R0'
 have e1:=few l hl
 rcases Nat.lt_or_ge 500 l.length with hfw|hfw
 ·rw[df (by omega)] at e1
  repeat' (first|simp (maxSteps:=9999999) only[↓GE,PL,PP,EE,QQ,seval]|(simp (disch:=omega) only[i6])|(apply go_brD<;>intro h)|(apply go_gsD aE<;>intro h)|(apply go_br<;>intro h)|(apply go_gs aE<;>intro h)|(apply go_call 5000 (awakeT) rfl rfl;iterate 4 (first|(exact CallForm.plain rfl)|exact aC))|(apply go_call 5000 (e1) rfl rfl;iterate 4 (first|(exact CallForm.plain rfl)|exact aC))|(with_reducible apply And.intro)|exact aG|fail)
  all_goals ((first|apply ret_mk []|apply end_mk []);(· exact aR);(· exact aZ);all_goals exact aF)
 rw[dt hfw] at e1
 have e2:=makeNew l
 have e3:=(nextD l hl 0 2 (by omega)).nm1 43000 0 (by omega) rfl rfl rfl rfl rfl
 have hd2:nextN l 0 2<2:=nextN_lt l 0 2 (by omega)
 generalize nextN l 0 2=d0 at *
 generalize nextK l 0 2=k1 at *
 have e4:=(bigT l hl k1 4 (by omega)).nm1 43000 0 (by omega) rfl rfl rfl rfl rfl
 obtain⟨hf,hp4⟩:=bigG_ok l k1 4 (by omega)
 generalize bigG l k1 (4:Nat)=p at *
 generalize nextK l k1 (bigL (4:Nat)).length=k2 at *
 obtain⟨p2,p65,_⟩:=fieldB_iff.1 hf
 have e5:=(nextD l hl k2 3 (by omega)).nm1 43000 0 (by omega) rfl rfl rfl rfl rfl
 have hw3:nextN l k2 3<3:=nextN_lt l k2 3 (by omega)
 generalize nextN l k2 3=w0 at *
 generalize nextK l k2 3=k3 at *
 have e6:=(nextD l hl k3 5 (by omega)).nm1 43000 0 (by omega) rfl rfl rfl rfl rfl
 have hn5:nextN l k3 5<5:=nextN_lt l k3 5 (by omega)
 generalize nextN l k3 5=n0 at *
 generalize nextK l k3 5=k4 at *
 obtain⟨d,hd⟩:∃ d,d=1+d0:=⟨_,rfl⟩
 obtain⟨n,hn⟩:∃ n,n=1+n0:=⟨_,rfl⟩
 obtain⟨w,hw⟩:∃ w,w=1+w0:=⟨_,rfl⟩
 have u0:IntKind.i64.wrap (1+(d0:Int))=(d:Int):=by rw[i6 _ (by omega)];omega
 have u1:IntKind.i64.wrap (1+(n0:Int))=(n:Int):=by rw[i6 _ (by omega)];omega
 have u2:IntKind.i64.wrap (1+(w0:Int))=(w:Int):=by rw[i6 _ (by omega)];omega
 have e7:=(makeRows l hl k4 p (by omega) n w (by omega) (by omega)).nm1 43000 0 (by omega) rfl rfl rfl rfl rfl
 have hrok:=rwG_ok (l:=l) (p:=p) (w:=w) (k:=k4) (n:=n) (by omega)
 have hrl:=rwG_len (l:=l) (p:=p) (w:=w) (k:=k4) (n:=n)
 generalize (rwG l p w k4 n).1=rows at *
 generalize (rwG l p w k4 n).2=k5 at *
 obtain⟨old,hold⟩:∃ t:PTab,t=⟨3,p,w,rows⟩:=⟨_,rfl⟩
 have hTO:TabOK old 0:=by
  rw[hold]
  exact⟨hf,p2,p65,by simp only;omega,by simp only;omega,by simp only;omega,by simp only;omega,hrok,by simp only;omega⟩
 have hTN:=latG_ok l k5 hTO
 obtain⟨hl1,hl2,hl3⟩:=latG_later l k5 old
 have e9:=(makeLater l hl k5 old hTO (by omega)).nm1 43000 0 (by omega) rfl rfl rfl rfl rfl
 generalize (latG l k5 old).1=nxt at *
 generalize (latG l k5 old).2=k6 at *
 have hco:=hTO.check (by omega)
 have hcn:=hTN.check (by omega)
 have hlo:=hTO.len
 have hln:=hTN.len
 have e8:=tnew old (by omega) hTO.short hco
 obtain⟨hbl,hLd⟩:=between_leads hco hcn hl2.symm hl3.symm hl1
 have e10:=between old nxt (by omega) hTO.short (by omega) hTN.short hco hcn (by rw[hl2,hl3];simp) (by omega)
 have e11:=tdigests old (by omega) hTO.short hco
 have hdl:=diff_len (ra:=old.rows) (l:=nxt.rows) (k:=0)
 have hds:=diff_short (ra:=old.rows) (k:=0) hTN.short
 have e12:=digests (old.rows.map rowF) ⟨old.num,nxt.num,nxt.rows.length,diffGo old.rows 0 nxt.rows⟩ (by rw[lm];omega) (by simp only;omega) hds
 rw[hLd.digests hco] at e12
 rw[hbl] at e10
 have e13:=theadT old (by omega) hTO.short hco
 have e14:=theadT nxt (by omega) hTN.short hcn
 have e15:=holdsT (headOf nxt) (nxt.rows.map rowF) (dig_rows (by omega)) (by rw[lm];rfl) (by rw[lm];rfl)
 generalize diffGo old.rows 0 nxt.rows=SS at *
 have hVO:VerOK old∧old.p=p∧old.width=(w:Int):=⟨⟨hTO.fld,hTO.w1,hTO.w2,hTO.rows,by omega⟩,by rw[hold],by rw[hold]⟩
 have hVN:VerOK nxt∧nxt.p=p∧nxt.width=(w:Int):=⟨⟨hTN.fld,hTN.w1,hTN.w2,hTN.rows,by omega⟩,hl2.trans hVO.2.1,hl3.trans hVO.2.2⟩
 obtain⟨HO,hHO⟩:∃ x,x=headOf old:=⟨_,rfl⟩
 obtain⟨HN,hHN⟩:∃ x,x=headOf nxt:=⟨_,rfl⟩
 obtain⟨DO,hDO⟩:∃ x,x=old.rows.map rowF:=⟨_,rfl⟩
 obtain⟨DN,hDN⟩:∃ x,x=nxt.rows.map rowF:=⟨_,rfl⟩
 rw[← hDO] at e11 e12
 rw[← hDN] at e12 e15
 rw[← hHO] at e13
 rw[← hHN] at e14 e15
 clear hTO hTN hco hcn hbl hLd hl1 hl2 hl3 hds
 obtain⟨on,op,ow,orows⟩:=old
 obtain⟨nn,np,nw,nrows⟩:=nxt
 simp only[PTab.mk.injEq] at hold
 obtain⟨rfl,rfl,rfl,rfl⟩:=hold
 simp only at *
 have q0:decide ((n:Int)=0)=false:=df (by omega)
 repeat' (first|simp (maxSteps:=9999999) only[↓GE,PL,PP,EE,QQ,seval,u0]|(simp (disch:=omega) only[i6])|(apply go_brD<;>intro h)|(apply go_gsD aE<;>intro h)|(apply go_br<;>intro h)|(apply go_gs aE<;>intro h)|(apply go_call 5000 (awakeT) rfl rfl;iterate 4 (first|(exact CallForm.plain rfl)|exact aC))|(apply go_call 5000 (e1) rfl rfl;iterate 4 (first|(exact CallForm.plain rfl)|exact aC))|(apply go_call 5000 (e2) rfl rfl;iterate 4 (first|(exact CallForm.news rfl rfl)|exact aC))|(with_reducible apply And.intro)|exact aG|fail)
 (apply go_call 5000 (e3) rfl rfl;iterate 4 (first|(exact CallForm.lent aL rfl rfl)|exact aC))
 repeat' (first|simp (maxSteps:=9999999) only[↓GE,PL,PP,EE,QQ,seval,u0]|(simp (disch:=omega) only[i6])|(apply go_brD<;>intro h)|(apply go_gsD aE<;>intro h)|(apply go_br<;>intro h)|(apply go_gs aE<;>intro h)|(apply go_call 5000 (e4) rfl rfl;iterate 4 (first|(exact CallForm.lent aL rfl rfl)|exact aC))|(with_reducible apply And.intro)|exact aG|fail)
 (apply go_call 5000 (e5) rfl rfl;iterate 4 (first|(exact CallForm.lent aL rfl rfl)|exact aC))
 repeat' (first|simp (maxSteps:=9999999) only[↓GE,PL,PP,EE,QQ,seval,u0,u2]|(simp (disch:=omega) only[i6])|(apply go_brD<;>intro h)|(apply go_gsD aE<;>intro h)|(apply go_br<;>intro h)|(apply go_gs aE<;>intro h)|(with_reducible apply And.intro)|exact aG|fail)
 (apply go_call 5000 (e6) rfl rfl;iterate 4 (first|(exact CallForm.lent aL rfl rfl)|exact aC))
 repeat' (first|simp (maxSteps:=9999999) only[↓GE,PL,PP,EE,QQ,seval,u0,u1,u2,lm]|(simp (disch:=omega) only[i6])|(apply go_brD<;>intro h)|(apply go_gsD aE<;>intro h)|(apply go_br<;>intro h)|(apply go_gs aE<;>intro h)|(apply go_call 5000 (e7) rfl rfl;iterate 4 (first|(exact CallForm.lent aL rfl rfl)|exact aC))|(apply go_call 5000 (e8) rfl rfl;iterate 4 (first|(exact CallForm.plain rfl)|exact aC))|(apply go_call 5000 (e9) rfl rfl;iterate 4 (first|(exact CallForm.lent aL rfl rfl)|exact aC))|(apply go_call 5000 (e10) rfl rfl;iterate 4 (first|(exact CallForm.news rfl rfl)|exact aC))|(apply go_call 5000 (e11) rfl rfl;iterate 4 (first|(exact CallForm.plain rfl)|exact aC))|(apply go_call 5000 (e12) rfl rfl;iterate 4 (first|(exact CallForm.news rfl rfl)|exact aC))|(with_reducible apply And.intro)|exact aG|fail)
 (apply go_call 5000 (e13) rfl rfl;iterate 4 (first|(exact CallForm.plain rfl)|exact aC))
 repeat' (first|simp (maxSteps:=9999999) only[↓GE,PL,PP,EE,QQ,seval,lm]|(simp (disch:=omega) only[i6])|(apply go_brD<;>intro h)|(apply go_gsD aE<;>intro h)|(apply go_br<;>intro h)|(apply go_gs aE<;>intro h)|(with_reducible apply And.intro)|exact aG|fail)
 (apply go_call 5000 (e14) rfl rfl;iterate 4 (first|(exact CallForm.plain rfl)|exact aC))
 repeat' (first|simp (maxSteps:=9999999) only[↓GE,PL,PP,EE,QQ,seval,lm]|(simp (disch:=omega) only[i6])|(apply go_brD<;>intro h)|(apply go_gsD aE<;>intro h)|(apply go_br<;>intro h)|(apply go_gs aE<;>intro h)|(apply go_call 5000 (e15) rfl rfl;iterate 4 (first|(exact CallForm.plain rfl)|exact aC))|(with_reducible apply And.intro)|exact aG|fail)
 clear e1 e2 e3 e4 e5 e6 e7 e8 e9 e10 e11 e12 e13 e14 e15
 obtain⟨hVO,-,-⟩:=hVO
 obtain⟨hVN,hnp,hnw⟩:=hVN
 have hOrows:RowsOK op w orows:=hVO.rows
 have hNrows:RowsOK op w nrows:=by have:=hVN.rows;simp only[hnp,hnw] at this;exact this
 refine go_loopz 5000 hm0 (ι:={q:Nat × Nat // q.1≤2}) (fun q=>[(1,.d (.at (.int .u8 a))),(5,.bp 43000 0 0),(6,.bp 6 0 0),(7,.bp 7 0 0),(8,I w),(14,.d (dInts DO)),(16,.d (dInts DN)),(18,.bp 18 0 0),(20,.bp 20 0 0),(114,.d (.sl 4 [[.at (.int .i64 3),.at (.int .i64 op),.at (.int .i64 w),dRows orows],[.at (.int .i64 nn),.at (.int .i64 np),.at (.int .i64 nw),dRows nrows]])),(115,I 2),(116,I q.1.1)]) (fun q=>[(43000,.box 0 [.d (dInts l),I q.1.2]),(6,.box 0 [I 4,I d]),(7,.box 0 [I op]),(18,.box 0 [I HO.num,I HO.p,I HO.count,I HO.width,I HO.root]),(20,.box 0 [I HN.num,I HN.p,I HN.count,I HN.width,I HN.root])]) (fun q=>2-q.1.1) [.og 114 0,.og 85000 0] [] ⟨(0,k6),Nat.zero_le _⟩ ?_ ?_
 ·simp only[GeZ];exact aH
 rintro⟨⟨j,kk⟩,hj⟩
 simp only at hj ⊢
 have hj2:j=0∨j=1∨j=2:=by omega
 rcases hj2 with rfl|rfl|rfl
 ·
  obtain⟨HnO,HpO,HcO,HwO,HrO⟩:HO.num=3∧HO.p=op∧HO.count=orows.length∧HO.width=(w:Int)∧HO.root=rootN orows.length DO:=by
   rw[hHO,hDO]
   exact⟨rfl,rfl,rfl,rfl,rfl⟩
  have hDl:DO.length=orows.length:=by rw[hDO,lm]
  have hDok:DigOK DO:=by rw[hDO];exact dig_rows (by have:=hVO.len;simp only at this;omega)
  have hRlen:=hVO.len
  simp only at hRlen
  rcases Nat.eq_zero_or_pos orows.length with hR0|hR0
  ·have qr:((orows.length:Int) == 0)=true:=by rw[hR0];rfl
   exfalso;omega
  ·have qr:((orows.length:Int) == 0)=false:=by rw[beq_eq_false_iff_ne];omega
   have wa:IntKind.i64.wrap a=a:=i6 _ (by omega)
   obtain⟨ix,hix,rix⟩:=rem_nat ha.1 (n:=orows.length) hR0
   have e1:=(faultsT l hl kk 4 d (by omega) (by omega)).nm1 43000 0 (by omega) rfl rfl rfl rfl rfl
   have hfl:=faultG_ok l kk 4 d (by omega)
   generalize faultG l kk 4 d=FG at *
   obtain⟨silent,wrong,kf⟩:=FG
   simp only at e1 hfl
   obtain⟨B0,kz,hB0,e2⟩:=readT l hl kf op 4 d w ix silent wrong orows hf rfl hp4 ⟨by omega,by omega⟩ (by omega) (by omega) hOrows (by omega) hix hfl
   have e2:=e2.nm1 43000 0 (by omega) rfl rfl rfl rfl rfl
   have hrow:=hOrows _ (mem_getD [] orows ix hix)
   have hsR:=getD_map eR [] [] orows ix hix
   have hDx:DO.getD ix 0=rowF (orows.getD ix []):=by
    rw[hDO,List.getD_eq_getElem?_getD,List.getElem?_map,List.getElem?_eq_getElem hix,List.getD_eq_getElem?_getD,List.getElem?_eq_getElem hix]
    rfl
   have hrl2:(orows.getD ix []).length=w:=by have:=hrow.1;omega
   have e3:=sameI (orows.getD ix []) (orows.getD ix []) (by omega) (by omega)
   have e4:=sameI B0 B0 (by omega) (by omega)
   rw[dt rfl] at e3 e4
   have hfp:fieldB HO.p=true:=by rw[HpO];exact hf
   have hix2:ix<DO.length:=by omega
   have e5:=tverify HO DO ix (orows.getD ix []) hDok (by rw[HcO,hDl]) (by rw[HrO,hDl]) hix2 hfp (by rw[HwO,hrl2]) (by omega) (by rw[HpO];exact hrow.2)
   rw[if_pos hDx.symm] at e5
   have e7:=mfind DO ix hDok (by omega) hix2
   have e8:=drow (orows.getD ix []) (by omega)
   have e9:=mcheck DO ix hDok (by omega) hix2
   rw[hDx,hDl,← HrO] at e9
   rw[hDl] at e7
   obtain⟨PP1,hPP1⟩:∃ x,x=pathN orows.length ix DO:=⟨_,rfl⟩
   rw[← hPP1] at e7 e9
   cases hrw:orows.getD ix [] with
   |nil=>rw[hrw] at hrl2;simp only[List.length_nil] at hrl2;omega
   |cons x rest =>
    rw[hrw] at e2 e3 e5 e8 e9 hrl2 hrow hsR hDx
    have hx:=all_getD hrow.2 (i:=0) (by omega)
    simp only[List.getD_cons_zero] at hx
    have hz1:=Int.emod_nonneg (x+1) (show op ≠ 0 by omega)
    have hz2:=Int.emod_lt_of_pos (x+1) (show 0<op by omega)
    have hzne:(x+1) % op ≠ x:=by
     have:=wrong_ne (p:=op) hx (e:=0) (by omega)
     rw[Int.add_zero] at this
     exact this.2.2
    have e6:=tverify HO DO ix ((x+1) % op :: rest) hDok (by rw[HcO,hDl]) (by rw[HrO,hDl]) hix2 hfp (by rw[HwO];simp only[List.length_cons] at hrl2 ⊢;omega) (by simp only[List.length_cons] at hrl2 ⊢;omega) (by
     rw[HpO]
     have:=hrow.2
     rw[List.all_cons,Bool.and_eq_true] at this ⊢
     exact⟨by simp only[inE,Bool.and_eq_true,decide_eq_true_eq];exact⟨hz1,hz2⟩,this.2⟩)
    rw[if_neg (by rw[hDx];exact rowF_ne (a:=[]) (by omega) (by omega) hzne)] at e6
    have hd1:dInts ((x+1) % op :: rest)=.sl 1 ([D.at (.int .i64 ((x+1) % op))] :: rest.map eI):=rfl
    have hd2:dInts (x :: rest)=.sl 1 ([D.at (.int .i64 x)] :: rest.map eI):=rfl
    have w1:IntKind.i64.wrap (x+1)=x+1:=i6 _ (by omega)
    have t1:(x+1).tmod op=(x+1) % op:=tmod_pos (by omega)
    have qp:(op == 0)=false:=by simp;omega
    have hpos:0<rest.length+1:=by omega
    rw[hd1] at e6
    generalize (x+1) % op=y at *
    generalize rowF (x :: rest)=dg at *
    repeat' (first|simp (maxSteps:=9999999) only[↓GE,PL,PP,EE,QQ,seval,qr,wa,rix,lm]|(simp (disch:=omega) only[i6])|(apply go_brD<;>intro h)|(apply go_gsD aE<;>intro h)|(apply go_br<;>intro h)|(apply go_gs aE<;>intro h)|(with_reducible apply And.intro)|exact aG|fail)
    (apply go_call 5000 (e1) rfl rfl;iterate 4 (first|(exact CallForm.lent aL rfl rfl)|exact aC))
    repeat' (first|simp (maxSteps:=9999999) only[↓GE,PL,PP,EE,QQ,seval,qr,wa,rix,hsR,hix,eR,lm]|(simp (disch:=omega) only[i6])|(apply go_brD<;>intro h)|(apply go_gsD aE<;>intro h)|(apply go_br<;>intro h)|(apply go_gs aE<;>intro h)|(apply go_call 5000 (e2) rfl rfl;iterate 4 (first|(exact CallForm.lent aL rfl rfl)|exact aC))|(with_reducible apply And.intro)|exact aG|fail)
    (apply go_call 5000 (e3) rfl rfl;iterate 4 (first|(exact CallForm.plain rfl)|exact aC))
    repeat' (first|simp (maxSteps:=9999999) only[↓GE,PL,PP,EE,QQ,seval,qr,wa,rix,hsR,hix,eR,lm]|(simp (disch:=omega) only[i6])|(apply go_brD<;>intro h)|(apply go_gsD aE<;>intro h)|(apply go_br<;>intro h)|(apply go_gs aE<;>intro h)|(with_reducible apply And.intro)|exact aG|fail)
    (apply go_call 5000 (e4) rfl rfl;iterate 4 (first|(exact CallForm.plain rfl)|exact aC))
    repeat' (first|simp (maxSteps:=9999999) only[↓GE,PL,PP,EE,QQ,seval,qr,wa,rix,hsR,hix,eR,lm]|(simp (disch:=omega) only[i6])|(apply go_brD<;>intro h)|(apply go_gsD aE<;>intro h)|(apply go_br<;>intro h)|(apply go_gs aE<;>intro h)|(with_reducible apply And.intro)|exact aG|fail)
    (apply go_call 5000 (e5) rfl rfl;iterate 4 (first|(exact CallForm.plain rfl)|exact aC))
    repeat' (first|simp (maxSteps:=9999999) only[↓GE,PL,PP,EE,QQ,seval,w1,t1,qp,hpos,hd2,eI,lm,List.map_cons,List.length_cons]|(simp (disch:=omega) only[i6])|(apply go_brD<;>intro h)|(apply go_gsD aE<;>intro h)|(apply go_br<;>intro h)|(apply go_gs aE<;>intro h)|(with_reducible apply And.intro)|exact aG|fail)
    (apply go_call 5000 (e6) rfl rfl;iterate 4 (first|(exact CallForm.plain rfl)|exact aC))
    repeat' (first|simp (maxSteps:=9999999) only[↓GE,PL,PP,EE,QQ,seval,w1,t1,qp,hpos,hd2,eI,lm]|(simp (disch:=omega) only[i6])|(apply go_brD<;>intro h)|(apply go_gsD aE<;>intro h)|(apply go_br<;>intro h)|(apply go_gs aE<;>intro h)|(apply go_call 5000 (e7) rfl rfl;iterate 4 (first|(exact CallForm.plain rfl)|exact aC))|(apply go_call 5000 (e8) rfl rfl;iterate 4 (first|(exact CallForm.plain rfl)|exact aC))|(apply go_call 5000 (e9) rfl rfl;iterate 4 (first|(exact CallForm.plain rfl)|exact aC))|(with_reducible apply And.intro)|exact aG|fail)
    refine⟨[],[],⟨(0+1,kz),by omega⟩,?_,by simp only;omega⟩
    simp only[GeZ];exact aH
 ·
  obtain⟨HnO,HpO,HcO,HwO,HrO⟩:HN.num=nn∧HN.p=np∧HN.count=nrows.length∧HN.width=nw∧HN.root=rootN nrows.length DN:=by
   rw[hHN,hDN]
   exact⟨rfl,rfl,rfl,rfl,rfl⟩
  have hDl:DN.length=nrows.length:=by rw[hDN,lm]
  have hDok:DigOK DN:=by rw[hDN];exact dig_rows (by have:=hVN.len;simp only at this;omega)
  have hRlen:=hVN.len
  simp only at hRlen
  rcases Nat.eq_zero_or_pos nrows.length with hR0|hR0
  ·have qr:((nrows.length:Int) == 0)=true:=by rw[hR0];rfl
   repeat' (first|simp (maxSteps:=9999999) only[↓GE,PL,PP,EE,QQ,seval,qr,lm]|(simp (disch:=omega) only[i6])|(apply go_brD<;>intro h)|(apply go_gsD aE<;>intro h)|(apply go_br<;>intro h)|(apply go_gs aE<;>intro h)|(with_reducible apply And.intro)|exact aG|fail)
   refine⟨[],[],⟨(1+1,kk),by omega⟩,?_,by simp only;omega⟩
   simp only[GeZ];exact aH
  ·have qr:((nrows.length:Int) == 0)=false:=by rw[beq_eq_false_iff_ne];omega
   have wa:IntKind.i64.wrap a=a:=i6 _ (by omega)
   obtain⟨ix,hix,rix⟩:=rem_nat ha.1 (n:=nrows.length) hR0
   have e1:=(faultsT l hl kk 4 d (by omega) (by omega)).nm1 43000 0 (by omega) rfl rfl rfl rfl rfl
   have hfl:=faultG_ok l kk 4 d (by omega)
   generalize faultG l kk 4 d=FG at *
   obtain⟨silent,wrong,kf⟩:=FG
   simp only at e1 hfl
   obtain⟨B0,kz,hB0,e2⟩:=readT l hl kf op 4 d w ix silent wrong nrows hf rfl hp4 ⟨by omega,by omega⟩ (by omega) (by omega) hNrows (by omega) hix hfl
   have e2:=e2.nm1 43000 0 (by omega) rfl rfl rfl rfl rfl
   have hrow:=hNrows _ (mem_getD [] nrows ix hix)
   have hsR:=getD_map eR [] [] nrows ix hix
   have hDx:DN.getD ix 0=rowF (nrows.getD ix []):=by
    rw[hDN,List.getD_eq_getElem?_getD,List.getElem?_map,List.getElem?_eq_getElem hix,List.getD_eq_getElem?_getD,List.getElem?_eq_getElem hix]
    rfl
   have hrl2:(nrows.getD ix []).length=w:=by have:=hrow.1;omega
   have e3:=sameI (nrows.getD ix []) (nrows.getD ix []) (by omega) (by omega)
   have e4:=sameI B0 B0 (by omega) (by omega)
   rw[dt rfl] at e3 e4
   have hfp:fieldB HN.p=true:=by rw[HpO,hnp];exact hf
   have hix2:ix<DN.length:=by omega
   have e5:=tverify HN DN ix (nrows.getD ix []) hDok (by rw[HcO,hDl]) (by rw[HrO,hDl]) hix2 hfp (by rw[HwO,hnw,hrl2]) (by omega) (by rw[HpO,hnp];exact hrow.2)
   rw[if_pos hDx.symm] at e5
   have e7:=mfind DN ix hDok (by omega) hix2
   have e8:=drow (nrows.getD ix []) (by omega)
   have e9:=mcheck DN ix hDok (by omega) hix2
   rw[hDx,hDl,← HrO] at e9
   rw[hDl] at e7
   obtain⟨PP1,hPP1⟩:∃ x,x=pathN nrows.length ix DN:=⟨_,rfl⟩
   rw[← hPP1] at e7 e9
   cases hrw:nrows.getD ix [] with
   |nil=>rw[hrw] at hrl2;simp only[List.length_nil] at hrl2;omega
   |cons x rest =>
    rw[hrw] at e2 e3 e5 e8 e9 hrl2 hrow hsR hDx
    have hx:=all_getD hrow.2 (i:=0) (by omega)
    simp only[List.getD_cons_zero] at hx
    have hz1:=Int.emod_nonneg (x+1) (show op ≠ 0 by omega)
    have hz2:=Int.emod_lt_of_pos (x+1) (show 0<op by omega)
    have hzne:(x+1) % op ≠ x:=by
     have:=wrong_ne (p:=op) hx (e:=0) (by omega)
     rw[Int.add_zero] at this
     exact this.2.2
    have e6:=tverify HN DN ix ((x+1) % op :: rest) hDok (by rw[HcO,hDl]) (by rw[HrO,hDl]) hix2 hfp (by rw[HwO,hnw];simp only[List.length_cons] at hrl2 ⊢;omega) (by simp only[List.length_cons] at hrl2 ⊢;omega) (by
     rw[HpO,hnp]
     have:=hrow.2
     rw[List.all_cons,Bool.and_eq_true] at this ⊢
     exact⟨by simp only[inE,Bool.and_eq_true,decide_eq_true_eq];exact⟨hz1,hz2⟩,this.2⟩)
    rw[if_neg (by rw[hDx];exact rowF_ne (a:=[]) (by omega) (by omega) hzne)] at e6
    have hd1:dInts ((x+1) % op :: rest)=.sl 1 ([D.at (.int .i64 ((x+1) % op))] :: rest.map eI):=rfl
    have hd2:dInts (x :: rest)=.sl 1 ([D.at (.int .i64 x)] :: rest.map eI):=rfl
    have w1:IntKind.i64.wrap (x+1)=x+1:=i6 _ (by omega)
    have t1:(x+1).tmod op=(x+1) % op:=tmod_pos (by omega)
    have qp:(op == 0)=false:=by simp;omega
    have hpos:0<rest.length+1:=by omega
    rw[hd1] at e6
    generalize (x+1) % op=y at *
    generalize rowF (x :: rest)=dg at *
    repeat' (first|simp (maxSteps:=9999999) only[↓GE,PL,PP,EE,QQ,seval,qr,wa,rix,lm]|(simp (disch:=omega) only[i6])|(apply go_brD<;>intro h)|(apply go_gsD aE<;>intro h)|(apply go_br<;>intro h)|(apply go_gs aE<;>intro h)|(with_reducible apply And.intro)|exact aG|fail)
    (apply go_call 5000 (e1) rfl rfl;iterate 4 (first|(exact CallForm.lent aL rfl rfl)|exact aC))
    repeat' (first|simp (maxSteps:=9999999) only[↓GE,PL,PP,EE,QQ,seval,qr,wa,rix,hsR,hix,eR,lm]|(simp (disch:=omega) only[i6])|(apply go_brD<;>intro h)|(apply go_gsD aE<;>intro h)|(apply go_br<;>intro h)|(apply go_gs aE<;>intro h)|(apply go_call 5000 (e2) rfl rfl;iterate 4 (first|(exact CallForm.lent aL rfl rfl)|exact aC))|(with_reducible apply And.intro)|exact aG|fail)
    (apply go_call 5000 (e3) rfl rfl;iterate 4 (first|(exact CallForm.plain rfl)|exact aC))
    repeat' (first|simp (maxSteps:=9999999) only[↓GE,PL,PP,EE,QQ,seval,qr,wa,rix,hsR,hix,eR,lm]|(simp (disch:=omega) only[i6])|(apply go_brD<;>intro h)|(apply go_gsD aE<;>intro h)|(apply go_br<;>intro h)|(apply go_gs aE<;>intro h)|(with_reducible apply And.intro)|exact aG|fail)
    (apply go_call 5000 (e4) rfl rfl;iterate 4 (first|(exact CallForm.plain rfl)|exact aC))
    repeat' (first|simp (maxSteps:=9999999) only[↓GE,PL,PP,EE,QQ,seval,qr,wa,rix,hsR,hix,eR,lm]|(simp (disch:=omega) only[i6])|(apply go_brD<;>intro h)|(apply go_gsD aE<;>intro h)|(apply go_br<;>intro h)|(apply go_gs aE<;>intro h)|(with_reducible apply And.intro)|exact aG|fail)
    (apply go_call 5000 (e5) rfl rfl;iterate 4 (first|(exact CallForm.plain rfl)|exact aC))
    repeat' (first|simp (maxSteps:=9999999) only[↓GE,PL,PP,EE,QQ,seval,w1,t1,qp,hpos,hd2,eI,lm,List.map_cons,List.length_cons]|(simp (disch:=omega) only[i6])|(apply go_brD<;>intro h)|(apply go_gsD aE<;>intro h)|(apply go_br<;>intro h)|(apply go_gs aE<;>intro h)|(with_reducible apply And.intro)|exact aG|fail)
    (apply go_call 5000 (e6) rfl rfl;iterate 4 (first|(exact CallForm.plain rfl)|exact aC))
    repeat' (first|simp (maxSteps:=9999999) only[↓GE,PL,PP,EE,QQ,seval,w1,t1,qp,hpos,hd2,eI,lm]|(simp (disch:=omega) only[i6])|(apply go_brD<;>intro h)|(apply go_gsD aE<;>intro h)|(apply go_br<;>intro h)|(apply go_gs aE<;>intro h)|(apply go_call 5000 (e7) rfl rfl;iterate 4 (first|(exact CallForm.plain rfl)|exact aC))|(apply go_call 5000 (e8) rfl rfl;iterate 4 (first|(exact CallForm.plain rfl)|exact aC))|(apply go_call 5000 (e9) rfl rfl;iterate 4 (first|(exact CallForm.plain rfl)|exact aC))|(with_reducible apply And.intro)|exact aG|fail)
    refine⟨[],[],⟨(1+1,kz),by omega⟩,?_,by simp only;omega⟩
    simp only[GeZ];exact aH
 ·repeat' (first|simp (maxSteps:=9999999) only[↓GE,PL,PP,EE,QQ,seval]|(simp (disch:=omega) only[i6])|(apply go_brD<;>intro h)|(apply go_gsD aE<;>intro h)|(apply go_br<;>intro h)|(apply go_gs aE<;>intro h)|(with_reducible apply And.intro)|exact aG|fail)
  ((first|apply ret_mk []|apply end_mk []);(· exact aR);(· exact aZ);all_goals exact aF)
end Go.Proofs.YtacfbiegbdlldaaGreatDoor.Sim
end
section
namespace Go.Proofs.YtacfbiegbdlldaaGreatDoor
open Go Go.RowKit Go.Deep Go.ChangeShapes Go.WideShapes
set_option linter.unusedVariables false
def Opens (P:Program) (t:TypeId) (α:Type) [Rep α] (bulk:{H:Type}→DataW H→α→Prop):Prop :=
 ∀ (H:Type) (enc:TypeId × Value→H) (w:World) (base:Nat) (spare:Nat→Bool) (held:Bool) (fuel:Nat) (cs:List Value) (x:DataW H × List MemPlace),
  DataW.trod enc P w base spare held fuel t cs=some x→∃ a:α,Rep.is w (Lo w.heap.size) cs a∧bulk x.1 a
theorem i64_of_wf {x:Int} (h:(Lit.int .i64 x).wf=true):I64 x:=by simpa [Lit.wf,IntKind.min,IntKind.max,IntKind.signed,IntKind.bits] using h
theorem Opens.int {P:Program} {t:TypeId} (ht:P.underlying t=some (.int .i64)):Opens P t Int (fun _ _=>True):=by
 intro H enc w base spare held fuel cs x h
 obtain⟨n,rfl,rfl,hw⟩:=DataW.trod_int ht h
 exact⟨n,⟨rfl,i64_of_wf hw⟩,trivial⟩
def sliceBulk {α:Type} (bulk:{H:Type}→DataW H→α→Prop) {H:Type} (d:DataW H) (l:List α):Prop :=
 (d=.nil∧l=[])∨∃ elems spare,d=.slice elems spare∧elems.length=l.length∧∀ i (h:i<l.length) (h':i<elems.length),bulk elems[i] l[i]
theorem chunks_of {α:Type} [Rep α] {w:World} {S:Nat→Prop}:∀ (l:List α) (f:Nat→List Value),(∀ i (h:i<l.length),Rep.is w S (f i) l[i])→Chunks w S ((List.range l.length).flatMap f) l
 |[],f,_=>rfl
 |a :: l,f,h=>by
  refine⟨f 0,(List.range l.length).flatMap (fun i=>f (i+1)),?_,h 0 (by simp),chunks_of l _ fun i hi=>h (i+1) (by simpa using hi)⟩
  rw[List.length_cons,List.range_succ_eq_map,List.flatMap_cons,List.flatMap_map]
theorem list_of {β:Type} (p:Nat→β→Prop):∀ n:Nat,(∀ i,i<n→∃ y,p i y)→∃ l:List β,l.length=n∧∀ i (h:i<l.length),p i l[i]
 |0,_=>⟨[],rfl,fun i h=>absurd h (Nat.not_lt_zero _)⟩
 |n+1,h=>by
  obtain⟨l,hl,hp⟩:=list_of p n fun i hi=>h i (by omega)
  obtain⟨y,hy⟩:=h n (Nat.lt_succ_self n)
  refine⟨l++[y],by simp [hl],fun i hi=>?_⟩
  rcases Nat.lt_or_ge i l.length with h1|h1
  ·rw[List.getElem_append_left h1];exact hp i h1
  ·have e:i=l.length:=by simp at hi;omega
   subst e
   rw[List.getElem_append_right (Nat.le_refl _)]
   simp only[Nat.sub_self,List.getElem_cons_zero]
   rw[hl];exact hy
theorem range_of {w:World} {g off sz:Nat}:∀ (l:List (List Value)),(∀ i (h:i<l.length),(l[i]).length=sz∧w.rangeAt g (off+i*sz) l[i])→w.rangeAt g off l.flatten
 |[],_=>fun j v hv=>by simp at hv
 |c :: l,h=>by
  have h0:=h 0 (by simp)
  have ih:=range_of (w:=w) (g:=g) (off:=off+sz) (sz:=sz) l fun i hi=>by
   have:=h (i+1) (by simpa using hi)
   rw[List.getElem_cons_succ] at this
   refine⟨this.1,?_⟩
   have e:off+sz+i*sz=off+(i+1)*sz:=by rw[Nat.add_mul,Nat.one_mul];omega
   rw[e];exact this.2
  intro j v hv
  rw[List.flatten_cons] at hv
  have hl:c.length=sz:=h0.1
  rcases Nat.lt_or_ge j c.length with hj|hj
  ·rw[List.getElem?_append_left hj] at hv
   have:=h0.2 j v hv
   simpa using this
  ·rw[List.getElem?_append_right hj] at hv
   have:=ih (j-c.length) v hv
   rw[show off+sz+(j-c.length)=off+j by omega] at this
   exact this
theorem chunks_flat {α:Type} [Rep α] {w:World} {S:Nat→Prop}:∀ (l:List (List Value × α)),(∀ i (h:i<l.length),Rep.is w S (l[i]).1 (l[i]).2)→Chunks w S (l.map (·.1)).flatten (l.map (·.2))
 |[],_=>rfl
 |a :: l,h=>⟨a.1,_,rfl,h 0 (by simp),chunks_flat l fun i hi=>h (i+1) (by simpa using hi)⟩
theorem Opens.slice {P:Program} {t e:TypeId} {α:Type} [Rep α] {bulk:{H:Type}→DataW H→α→Prop} (ht:P.underlying t=some (.slice e)) (hC:P.cellsOf e=Rep.sz α) (hpos:0<Rep.sz α) (he:Opens P e α bulk):Opens P t (List α) (sliceBulk bulk):=by
 intro H enc w base spare held fuel cs x h
 rcases open_slice ht h with ⟨rfl,rfl⟩|⟨a,len,cap,m,n,D,Pl,rfl,hb,hl,hm,hmm,rfl,hi⟩
 ·exact⟨[],⟨_,rfl,Lst.nil _ _ _ (Nat.zero_le _)⟩,.inl ⟨rfl,rfl⟩⟩
 ·have hlm:len≤m:=by rw[hmm];split <;> omega
  obtain⟨ys,hlen,hy⟩:=list_of (fun i (y:List Value × α)=>w.cells? base (a.add (i*P.cellsOf e)) (P.cellsOf e)=some y.1∧Rep.is w (Lo w.heap.size) y.1 y.2∧bulk (D i) y.2) len fun i hil=>by
   obtain⟨cs',h1,h2⟩:=hi i (by omega)
   obtain⟨y,h3,h4⟩:=he _ _ _ _ _ _ _ _ _ h2
   exact⟨(cs',y),h1,h3,h4⟩
  rw[hC] at hy
  refine⟨ys.map (·.2),⟨_,rfl,(ys.map (·.1)).flatten,some a,cap,by rw[List.length_map,hlen],by rw[List.length_map,hlen];exact hl,hm,chunks_flat ys fun i h=>(hy i h).2.1,fun h0=>?_⟩,?_⟩
  ·rw[List.length_map] at h0
   obtain⟨b,off,spot⟩:=a
   have h1:=(hy 0 h0).1
   obtain⟨_,hcl,hat⟩:=World.cells?_some h1
   have hc0:=hat 0 hpos
   rw[List.getElem?_eq_getElem (by omega)] at hc0
   have hspot:spot=none:=by
    have:=World.cell?_spot hc0
    simpa [Addr.add] using this
   subst hspot
   refine⟨b,off,rfl,?_,range_of (sz:=Rep.sz α) _ fun i hi=>?_⟩
   ·have:=block_lt_of_cell hc0
    simpa [Addr.add] using this
   ·have hi':i<ys.length:=by simpa using hi
    obtain⟨_,hcl,hat⟩:=World.cells?_some (hy i hi').1
    rw[List.getElem_map]
    refine⟨hcl,fun j v hv=>?_⟩
    have hj:j<Rep.sz α:=by have:=(List.getElem?_eq_some_iff.1 hv).1;omega
    have:=hat j hj
    rw[hv,Addr.add_lit,Addr.add_lit] at this
    exact this
  ·refine .inr ⟨_,_,rfl,by simp [hlen],fun i h h'=>?_⟩
   have hi':i<ys.length:=by simpa using h
   have:=(hy i hi').2.2
   simpa using this
theorem Opens.parts {P:Program} {t:TypeId} {fs:Array Field} (ht:P.underlying t=some (.struct fs)) {H:Type} {enc:TypeId × Value→H} {w:World} {base:Nat} {spare:Nat→Bool} {held:Bool} {fuel:Nat} {cs:List Value} {x:DataW H × List MemPlace}
  (h:DataW.trod enc P w base spare held fuel t cs=some x) :
  ∃ (n:Nat) (xs:List (DataW H × List MemPlace)),cs.length=P.cellsOf t∧xs.length=fs.size∧x.1=.agg (xs.map (·.1))∧∀ (j:Nat) (f:Field),fs[j]?=some f→DataW.trod enc P w base spare held n f.type ((cs.drop f.offset).take (P.cellsOf f.type))=xs[j]?:=by
 obtain⟨xs,n,_,hx,hl,hxl,hf⟩:=DataW.trod_struct ht h
 exact⟨n,xs,hl,hxl,by rw[hx],hf⟩
theorem Opens.one {P:Program} {t e:TypeId} {f:Field} (ht:P.underlying t=some (.struct #[f])) (hf:f.type=e) (he:P.underlying e=some (.int .i64)) (ho:f.offset=0) (hC:P.cellsOf t=1) (hC2:P.cellsOf e=1):Opens P t Int (fun _ _=>True):=by
 intro H enc w base spare held fuel cs x h
 obtain⟨n,xs,hl,hxl,hx,hff⟩:=Opens.parts ht h
 have h0:=hff 0 f rfl
 subst hf
 rw[ho,hC2,List.drop_zero,List.take_of_length_le (by omega)] at h0
 match xs,hxl with
 |[y],_=>exact Opens.int he _ _ _ _ _ _ _ _ _ h0
end Go.Proofs.YtacfbiegbdlldaaGreatDoor
end
section
namespace Go.Proofs.YtacfbiegbdlldaaGreatDoor.Sim
open Go Go.RowKit Go.Deep
def IsTrueS (w:World) (e:Ending) (w':World):Prop:=e=.returned (.bool true)∧Below w.heap.size w w'
set_option linter.unusedVariables false
theorem rows_of {α:Type} [Rep α] (f:α→List D) (hf:∀ w S cs x,Rep.is w S cs x→Cells w S (f x) cs) {w:World} {S:Nat→Prop}:∀ (l:List α) (xs:List Value),Chunks w S xs l→Rows w S (Rep.sz α) (l.map f) xs
 |[],xs,h=>by simp only[Rows,List.map_nil];exact h
 |a :: l,xs,h=>by
  obtain⟨x,r,rfl,h1,h2⟩:=h
  simp only[Rows,List.map_cons]
  have hc:=hf _ _ _ _ h1
  exact⟨x,r,rfl,by rw[← hc.len];exact Rep.len h1,hc,rows_of f hf l r h2⟩
theorem lst_sl {α:Type} [Rep α] (f:α→List D) (hf:∀ w S cs x,Rep.is w S cs x→Cells w S (f x) cs) {w:World} {S:Nat→Prop} {v:Value} {l:List α} (h:Lst w S v l):(D.sl (Rep.sz α) (l.map f)).is w S v:=by
 obtain⟨xs,a,cap,rfl,h1,h2,h3,h4⟩:=h
 simp only[D.is]
 exact⟨a,cap,xs,by rw[lm],by rw[lm];exact h1,h2,rows_of f hf l xs h3,fun h0=>h4 (by rw[lm] at h0;exact h0)⟩
theorem int_cells:∀ (w:World) (S:Nat→Prop) (cs:List Value) (x:Int),Rep.is w S cs x→Cells w S [.at (.int .i64 x)] cs:=by
 rintro w S cs x ⟨rfl,_⟩
 simp only[Cells,D.is]
 exact⟨_,_,rfl,⟨rfl,rfl⟩,rfl⟩
theorem u8_cells:∀ (w:World) (S:Nat→Prop) (cs:List Value) (x:UInt8),Rep.is w S cs x→Cells w S [.at (.int .u8 x.toNat)] cs:=by
 rintro w S cs x rfl
 simp only[Cells,D.is]
 exact⟨_,_,rfl,⟨rfl,rfl⟩,rfl⟩
theorem list_cells {α:Type} [Rep α] (f:α→List D) (hf:∀ w S cs x,Rep.is w S cs x→Cells w S (f x) cs):∀ (w:World) (S:Nat→Prop) (cs:List Value) (l:List α),Rep.is w S cs l→Cells w S [.sl (Rep.sz α) (l.map f)] cs:=by
 rintro w S cs l ⟨v,rfl,h⟩
 simp only[Cells]
 exact⟨_,_,rfl,lst_sl f hf h,rfl⟩
theorem calls_true {P:Program} {f:FuncId} {xs:List V} {us:List Value} {w:World} {hd:H} (hgk:Gk w (fun _=>False):=by intro g hg;simp [GL] at hg) (h:Does P f xs [] (B true) [] []) (hv:VRs M0 hd w (Lo w.heap.size) xs us):Calls P f us.toArray w (IsTrueS w):=by
 have hm:Mem (ups M0 []) hd w (Lo w.heap.size) (fun _=>False) w.heap.size :=
  ⟨fun i o h=>(by simp only[ups] at h;cases h),fun i j oi oj b _ h=>(by simp only[ups] at h;cases h),fun b h=>h,Nat.le_refl _,fun b h=>h.elim⟩
 refine (h w hd _ _ us hgk hm hv).mono ?_
 rintro e w' ⟨u,hd',S',rfl,hfr,_,hu,_⟩
 have:u=.bool true:=by simp only[B,VR,D.is] at hu;exact hu.1
 subst this
 exact⟨rfl,⟨hfr.os,hfr.tape,hfr.output,hfr.size,fun k hk=>hfr.block k hk fun h=>h⟩⟩
end Go.Proofs.YtacfbiegbdlldaaGreatDoor.Sim
end
section
namespace Go.Proofs.YtacfbiegbdlldaaGreatDoor.Sim
open Go Go.RowKit Go.ChangeShapes Go.WideShapes
set_option maxRecDepth 100000
set_option linter.unusedVariables false
theorem failName {u:TypeId} (h:Tryz.prog.typeName? 3 u=some "privatefetch/unique.failure"):u=214:=by
 have hu:u<Tryz.prog.types.size:=by
  rcases Nat.lt_or_ge u Tryz.prog.types.size with hu|hu
  ·exact hu
  ·exfalso
   unfold Program.typeName? at h
   cases hi:Tryz.prog.info? u with
   |none=>simp [hi] at h
   |some i =>
    have hb:=Tables.info?_beyond (Nat.not_lt.2 hu) hi
    simp only[hi] at h
    cases hd:i.desc <;> simp only[hd,TypeDesc.tableOnly] at h hb <;> try cases hb
    all_goals try cases h
    simp only[Option.map_eq_some_iff] at h
    obtain⟨n',hn',hs⟩:=h
    have:=congrArg String.toList hs
    simp only[String.toList_append] at this
    have h0:=congrArg List.head? this
    rw[List.head?_append] at h0
    revert h0
    rw[show "*".toList.head?=some '*' by decide,show "privatefetch/unique.failure".toList.head?=some 'p' by decide]
    simp
 exact Program.typeNamed8_inj (by kernel_rfl) hu h
theorem gkOf {W:World} (h:laidMetH Tryz.prog [("privatefetch/unique.errWrong",Rows.laid_privatefetch_unique_errWrong)] W):Gk W (fun _=>False):=by
 rw[MakeChecks.laidMetH_plain _ _ _ (by kernel_rfl)] at h
 obtain⟨ps,⟨g0,t0,cs0,f0,p0,q0,hg0,ht0,hv0,hd0,hq,hps⟩,hnd,hcells⟩:=h
 have hgn:Tryz.prog.globalNamed "privatefetch/unique.errWrong"=some 0:=by kernel_rfl
 have htn:(Tryz.prog.globals[0]?).map (·.type)=some 178:=by kernel_rfl
 obtain rfl:=Option.some.inj (hgn.symm.trans hg0)
 obtain rfl:=Option.some.inj (htn.symm.trans ht0)
 obtain⟨f1,u,v,hcs,hn,hd1⟩:=iface_of_trod Tryz.underlying178 hd0
 have hu:=failName hn
 subst hu
 have hc1:cs0=#[.iface 214 v]:=Array.eq_one_of_toList hcs
 subst hc1
 have hcell:=World.var?_cell hg0 hv0 0
 simp only[List.getElem?_toArray,List.getElem?_cons_zero] at hcell
 have hmem:MemPlace.cell 0 0 ∈ ps:=by
  rw[hps];simp [MemPlace.row]
 obtain⟨⟨c,t,hb⟩,hok⟩:=hcells _ _ hmem
 obtain⟨cs,rfl,hsz⟩:=okWide_struct Tryz.underlying214 (hok _ _ hcell)
 have hz:Value.agg cs=.agg #[.int .i64 12]:=by
  have h2:=trod_struct1 Tryz.underlying214 hd1
  obtain⟨y0,n,he,hl,hy⟩:=h2
  have c1:Tryz.prog.cellsOf 38=1:=by kernel_rfl
  have c2:Tryz.prog.cellsOf 214=1:=by kernel_rfl
  obtain⟨l⟩:=cs
  simp only[Value.cells] at hy hl
  rw[c2] at hl
  rw[c1,List.drop_zero,List.take_of_length_le (by omega)] at hy
  obtain⟨k,e1,e2,_⟩:=DataW.trod_int Tryz.underlying38 hy
  subst e2
  simp only[Prod.mk.injEq,DataW.agg.injEq,List.cons.injEq,DataW.lit.injEq,Lit.int.injEq,true_and,and_true] at he
  obtain⟨rfl,-⟩:=he
  rw[show l=[Value.int .i64 12] from e1]
 rw[hz] at hcell
 intro g hg
 have hgl:GL=[0]:=rfl
 rw[hgl] at hg
 obtain rfl:g=0:=by simpa using hg
 exact⟨(Array.getElem?_eq_some_iff.1 hb).1,fun h=>h,hcell⟩
end Go.Proofs.YtacfbiegbdlldaaGreatDoor.Sim
end
section
namespace Go.Proofs.YtacfbiegbdlldaaGreatDoor
open Go Go.RowKit Go.ChangeShapes Go.WideShapes
set_option linter.unusedVariables false
theorem opens_ints:Opens Tryz.prog 22 (List Int) (sliceBulk fun _ _=>True):=Opens.slice Tryz.underlying22 (by kernel_rfl) (by decide) (Opens.int Tryz.underlying3)
theorem topVersions_args (w:World) (hg:Sim.Gk w (fun _=>False)) (v0:Value) (l0:List Int) (h0:Lst w (Lo w.heap.size) v0 l0) (hb0:l0.length*8≤140737488351232)
  (x1:Int) (ha1:0≤x1) (hc1:x1≤255):Calls Tryz.prog 4 #[v0,.int .u8 x1] w (Sim.IsTrueS w):=by
 have:=Sim.calls_true (hgk:=hg) (us:=[v0,.int .u8 x1]) (hd:=fun _=>.bool true) ((fun (l:List Int) (hl:l.length≤17592186044416) (x1:Int) (a1:0≤x1) (c1:x1≤255)=>Sim.topVers l x1 hl ⟨a1,c1⟩) l0 (by omega) x1 ha1 hc1) (by
  simp only[Sim.VRs,Sim.VR,Sim.D.is]
  exact⟨_,_,rfl,Sim.lst_sl (α:=Int) Sim.eI Sim.int_cells h0,⟨_,_,rfl,⟨rfl,rfl⟩,rfl⟩⟩)
 simpa using this
end Go.Proofs.YtacfbiegbdlldaaGreatDoor
namespace Go.Proofs.YtacfbiegbdlldaaGreatDoor.topVersions
open Go.ChangeShapes Go.WideShapes Go.ChangeAt Go.RowKit
open Go.ChangeMaps (open_string shut_string)
set_option linter.unusedVariables false
theorem own:ownKnob Tryz.prog.godebug=none:=by kernel_rfl
theorem laidOut:laidOutB Tryz.prog=true:=by kernel_rfl
theorem wf_u8 {x:Int} (h:(Lit.int .u8 x).wf=true):0≤x∧x≤255:=by simpa [Lit.wf,IntKind.min,IntKind.max,IntKind.signed,IntKind.bits] using h
theorem bytesOf_ints:Tryz.prog.bytesOf 3=8:=by kernel_rfl
abbrev laid:List (String × DataW Unit):=[("privatefetch/unique.errWrong",Rows.laid_privatefetch_unique_errWrong)]
theorem met (os:Os) (args:Array Value):laidMetH Tryz.prog laid ((World.laidAll Tryz.prog os laid).forCall (fun _ _=>0) ⟨#[],args,[]⟩).memory:=by
 rw[MakeChecks.laidMetH_plain _ _ _ (by kernel_rfl)]
 exact laidMet_laidAll _ (by kernel_rfl) (by kernel_rfl)
set_option maxRecDepth 100000 in
theorem lifted (os:Os) (started:os.Started) (H:Type) (enc:TypeId × Value→H) :
  ReturnsInHanded {} Tryz.checked os 4 .any (fun w args=>(Rows.topVersionsSpec.pre enc Tryz.prog Tryz.f4 [] false w args∧laidMetH Tryz.prog laid w)∧sizedMet enc Tryz.prog Tryz.f4 (OpenSpec.ofChange Rows.topVersionsSpec) false w args) (Rows.topVersionsSpec.post enc Tryz.prog Tryz.f4 false true false false):=by
 refine returnsInHanded_of_change_and (C:=Tryz.checked) (X:=fun w _=>laidMetH Tryz.prog laid w) (fun _ _ _ hh h=>h.of_heap hh) own started (by kernel_rfl) Tryz.func4
  (ChangeSpec.witness_shaped (enc:=enc) (C:=Tryz.checked) (os:=os) (X:=fun w _=>laidMetH Tryz.prog laid w) false (World.laidAll Tryz.prog os laid) #[.slice none 0 0,.int .u8 0] 8 (World.laidAll_os _ _ _) (World.shaped_of_ZipB (by kernel_rfl) (by kernel_rfl)) (by kernel_rfl) (by kernel_rfl) (by kernel_rfl) (met os _)) ?_
 intro W base args ds gs before hval0 hW hcnd hsz0 hL _
 have hsz:(DataW.weightsEach Tryz.prog (Tryz.f4.params.toList++Rows.topVersionsSpec.plain.varTypes Tryz.prog) (ds++gs)).all (·≤reachBytes)=true:=hsz0
 have hval:∀ (j:Nat) t v,Tryz.f4.params[j]?=some t→args[j]?=some v→Value.okWide Tryz.prog W .any base t v:=hval0
 have hW':=hW
 obtain⟨p,q,hA0,hV,rfl,hfz,hnd⟩:=hW
 have hA:DataW.TrodAll enc Tryz.prog W 0 (fun _=>true) true Tryz.f4.params.toList args.toList ds p:=hA0
 rw[Tryz.params4] at hA hval hsz
 obtain⟨v0,vs0,d0,ds0,p0,q0,hargs,rfl,rfl,h0,r0⟩:=trodAll_cons hA
 obtain⟨v1,vs1,d1,ds1,p1,q1,rfl,rfl,rfl,h1,r1⟩:=trodAll_cons r0
 obtain⟨rfl,rfl,rfl⟩:=trodAll_nil r1
 obtain rfl:args=#[v0,v1]:=by cases args;simp_all
 obtain⟨rfl,rfl⟩:=trodVars_none hV
 obtain⟨a0,len0,cap0,rfl⟩:=okWide_slice Tryz.underlying22 (hval 0 22 v0 rfl rfl)
 have k0:=h0
 have lt0:∀ x ∈ p0,x.block<W.heap.size:=by obtain⟨m,hm⟩:=k0;exact DataW.trod_lt m _ _ _ hm
 obtain⟨fuel0,hf0⟩:=h0
 obtain⟨x0,⟨u0,hu0,hx0⟩,hbk0⟩:=opens_ints _ _ _ _ _ _ _ _ _ hf0
 simp [Value.cells] at hu0
 subst hu0
 have bz0:x0.length*8≤140737488351232:=by
  rcases hbk0 with ⟨_,h0⟩|⟨elems,spare,hd,hle,_⟩
  ·rw[h0];simp
  ·have hd':d0=.slice elems spare:=hd
   subst hd'
   have hs:=sized_slice hsz (j:=0) (t:=22) (e:=3) rfl rfl Tryz.underlying22
   rw[bytesOf_ints] at hs
   simp only[reachBytes] at hs
   have hm:elems.length*8≤(elems.length+spare.length)*8:=Nat.mul_le_mul_right _ (Nat.le_add_right _ _)
   rw[← hle]
   omega
 obtain⟨x1,rfl,rfl,rfl,w1⟩:=open_int Tryz.underlying5 (hval 1 5 v1 rfl rfl) h1
 have b1:=wf_u8 w1
 clear hA0 hval0
 have hw:=topVersions_args W (Sim.gkOf hL) (.slice a0 len0 cap0) x0 hx0 bz0 x1 b1.1 b1.2
 refine hw.mono fun e W' ⟨he,bel⟩=>?_
 subst he
 exact⟨_,rfl,_,_,_,[],_,[],hW',trodAll_mk1 (shut_bool Tryz.underlying4 _),(trodAll_cons_mk (Below.trod laidOut (by kernel_rfl) (of_decide_eq_true (by kernel_rfl)) k0 bel lt0) (trodAll_cons_mk (shut_int Tryz.underlying5 w1) trodAll_mk0)),rfl,bel.frame _,fun h=>by cases h⟩
theorem over:Rows.topVersionsRow.holds Tryz.pinned (OpenSpec.ofChange Rows.topVersionsSpec) :=
 OpenClaim.holds_of_wide 4 Tryz.f4 rfl rfl rfl rfl rfl rfl rfl ⟨rfl,rfl,rfl,rfl,rfl⟩ rfl rfl rfl rfl rfl (by kernel_rfl) Tryz.func4 (by kernel_rfl)
  (of_decide_eq_true (by kernel_rfl)) (by unfold Func.isWrapper;first|(rw[if_pos (by decide +kernel)];kernel_rfl)|(rw[if_neg (by decide +kernel)];exact⟨rfl,rfl⟩))
  (fun os started H enc _=>lifted os started H enc)
theorem proved:Rows.TopVersionsCardSaid :=
 Claim7.holds_tied_plain_at .later [] [.wider] true _ true
  over (fun _ h=>by cases h) (by kernel_rfl) (fun _ h=>by cases h) topVersions_row_tie rfl ⟨rfl,rfl⟩ (by kernel_rfl) rfl
  (fun f fn hf hfn=>by
   obtain rfl:f=4:=Option.some.inj ((show Tryz.prog.funcNamed Rows.topVersionsRow.func=some 4 by kernel_rfl).symm.trans hf) |>.symm
   obtain rfl:fn=Tryz.f4:=(Option.some.inj (Tryz.func4.symm.trans hfn)).symm
   exact⟨by kernel_rfl,fun j t ht=>by
    rw[Tryz.params4] at ht
    have hw:∀ u ∈ [22,5],Tryz.prog.wantsStandIn u=false:=by
     have h:([22,5].all fun u=>!Tryz.prog.wantsStandIn u)=true:=by kernel_rfl
     intro u hu
     have:=List.all_eq_true.1 h u hu
     simpa using this
    exact hw t (List.mem_of_getElem? (by simpa using ht))⟩)
  (by kernel_rfl)
#print axioms proved
end Go.Proofs.YtacfbiegbdlldaaGreatDoor.topVersions
end
