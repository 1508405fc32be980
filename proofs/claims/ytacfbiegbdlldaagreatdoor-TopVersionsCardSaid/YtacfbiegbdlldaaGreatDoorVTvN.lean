/- A seeded tape; people; what is to be known for TopEvidence. -/
import Derived.Test.YtacfbiegbdlldaaGreatDoorVTvL
section
namespace Go.Proofs.YtacfbiegbdlldaaGreatDoor.Sim
open Go Go.RowKit Go.Deep
set_option maxRecDepth 100000
set_option maxHeartbeats 4000000
set_option linter.unusedVariables false
set_option linter.unusedSimpArgs false
attribute [local irreducible] Go Mean
theorem answersM (l:List Int) (hl:l.length≤17592186044416) (k:Nat) (p:Int) (w wrong silent:Nat) (H:List (List Int)) (hp:2≤p) (hp2:p≤65521) (hw:1≤w) (hw2:w≤64) (hH:RowsOK p w H) (h1:1≤H.length) (hn:H.length≤7) (hx:wrong+silent≤1000000) (o:List Int) (ko:Nat) (ho:OrdOK o H.length) (S:AnsS) (hS:S=ansN l p w wrong silent o (ansZ H ko) H.length)
  (eo:Does Tryz.prog 49 [dkp,I H.length] (dk l k) (.d (dInts o)) (dk l ko) []) :
  Does Tryz.prog 18 [dkp,.ag [I p],.d (dRows H),I wrong,I silent] (dk l k) (.tu [.d (dAns (ansL S.rows S.kn)),.d (dInts (badL S.bad H.length))]) (dk l S.k) []:=by
 refine G11' rfl BxOK.one fun cx hm0=>Awp.endWk (go_in 5000 ?_)
 unfold A11' R11'
 have hP:∀ i oo,cx.m0 i=some oo→i=900000:=fun i oo hi=>by
  rw[hm0] at hi
  simp only[ups,up_at] at hi
  split at hi
  ·assumption
  ·cases hi
 repeat' (first|simp (maxSteps:=9999999) only[↓GE,PL,PP,EE,QQ,seval,lm]|(simp (disch:=omega) only[i6])|(apply go_brD<;>intro h)|(apply go_gsD aE<;>intro h)|(apply go_br<;>intro h)|(apply go_gs aE<;>intro h)|(with_reducible apply And.intro)|exact aG|fail)
 refine go_loopG 5000 (ι:={i:Nat // i≤H.length}) (fun i=>[(0,dkp),(2,.d (dRows H)),(3,I wrong),(4,I silent),(6,.bp 6 0 0),(12,if i.1=0 then .nl 2 else .vg 33 (i.1-1)),(22,.d (dRows H)),(23,I H.length),(24,I i.1)]) (fun i=>if i.1=0 then ups M0 [(6,.box 0 [I p]),(900000,.box 0 [.d (dInts l),I k])] else aMem l k p (i.1-1) (List.replicate i.1 true) (H.take i.1) none) (fun i=>H.length-i.1) ⟨0,Nat.zero_le _⟩ ?_ ?_
 ·simp only[if_true]
  refine Wk.weaken [] _ _ (TW_ok ?_) (fun i o hi=>?_) (fun i hi=>by cases hi) (fun i o hi=>?_)
  ·(simp (config:={ maxSteps:=1000000 }) only[TW,W,Option.isSome_some,List.not_mem_nil,W,EE,QQ,seval])
  ·simp only[ups,up_at] at hi
   split at hi
   ·rename_i e
    subst e
    cases hi
    refine⟨rfl,_,rfl,?_⟩
    simp only[Ws]
    exact⟨W_d,W_I,trivial⟩
   split at hi
   ·rename_i e
    subst e
    cases hi
    refine⟨rfl,_,rfl,?_⟩
    simp only[Ws]
    exact⟨W_I,trivial⟩
   ·cases hi
  ·obtain rfl:=hP i o hi
   exact⟨rfl,rfl⟩
 rintro⟨i,hi⟩
 simp only at hi ⊢
 by_cases hin:i<H.length
 ·have r1:decide ((i:Int)<(H.length:Int))=true:=dt (by omega)
  have u1:IntKind.i64.wrap ((i:Int)+1)=((i+1:Nat):Int):=by rw[i6 _ (by omega)];omega
  have hs:=getD_map eR [] [] H i hin
  have hHi:=hH _ (mem_getD [] H i hin)
  have hrl:(H.getD i []).length≤64:=by have:=hHi.1;omega
  have hsg:∀ q,q<800000→q ≠ 30→swp 30 (i+800000) q=q:=fun q h h2=>swp_no h2 (by omega)
  have hg6:=hsg 6 (by omega) (by omega)
  have hg33:=hsg 33 (by omega) (by omega)
  have hg9:swp 30 (i+800000) 900000=900000:=swp_no (by omega) (by omega)
  have m6:=aMem_6 (l:=l) (k:=k) (p:=p) (v:=i) (kn:=List.replicate (i+1) true) (rows:=H.take (i+1)) (ob:=none)
  have m33:=aMem_33 (l:=l) (k:=k) (p:=p) (v:=i) (kn:=List.replicate (i+1) true) (rows:=H.take (i+1)) (ob:=none)
  have m9:=aMem_d (l:=l) (k:=k) (p:=p) (v:=i) (kn:=List.replicate (i+1) true) (rows:=H.take (i+1)) (ob:=none)
  by_cases h0:i=0
  ·rw[if_pos h0,if_pos h0]
   repeat' (first|simp (maxSteps:=9999999) only[↓GE,PL,PP,EE,QQ,seval,r1,u1,hs,hin,eR,lm]|(simp (disch:=omega) only[i6])|(apply go_brD<;>intro h)|(apply go_gsD aE<;>intro h)|(apply go_br<;>intro h)|(apply go_gs aE<;>intro h)|(with_reducible apply And.intro)|exact aG|fail)
   refine⟨⟨i+1,hin⟩,?_,by simp only;omega⟩
   simp only[if_neg (show ¬ i+1=0 by omega),Nat.add_sub_cancel]
   refine wk_more _ (by omega) hin ?_ ?_ ?_ ?_ (fun j hj=>by omega) hP ?_
   ·rfl
   ·rfl
   ·subst h0;rfl
   ·rfl
   ·(simp (config:={ maxSteps:=1000000 }) only[TW,W,Option.isSome_some,List.not_mem_nil,V.rn,hg6,hg33,hg9,m6,m33,m9,EE,QQ,seval])
    subst h0;exact⟨rfl,rfl,rfl,rfl⟩
  ·rw[if_neg h0,if_neg h0]
   have a30:=aMem_none (l:=l) (k:=k) (p:=p) (v:=i-1) (kn:=List.replicate i true) (rows:=H.take i) (ob:=none) (i:=30) (by omega) (by omega) (by omega) (by omega)
   have a32:=aMem_none (l:=l) (k:=k) (p:=p) (v:=i-1) (kn:=List.replicate i true) (rows:=H.take i) (ob:=none) (i:=32) (by omega) (by omega) (by omega) (by omega)
   have a33:=aMem_33 (l:=l) (k:=k) (p:=p) (v:=i-1) (kn:=List.replicate i true) (rows:=H.take i) (ob:=none)
   have ha6:=aMem_6 (l:=l) (k:=k) (p:=p) (v:=i-1) (kn:=List.replicate i true) (rows:=H.take i) (ob:=none)
   have ha9:=aMem_d (l:=l) (k:=k) (p:=p) (v:=i-1) (kn:=List.replicate i true) (rows:=H.take i) (ob:=none)
   have hcl:=ansC_len (r:=List.replicate i true) (i:=0)
   rw[List.length_replicate] at hcl
   repeat' (first|simp (maxSteps:=9999999) only[↓GE,PL,PP,EE,QQ,seval,r1,u1,hs,hin,a30,a32,a33,hcl,eR,lm]|(simp (disch:=omega) only[i6])|(apply go_brD<;>intro h)|(apply go_gsD aE<;>intro h)|(apply go_br<;>intro h)|(apply go_gs aE<;>intro h)|(with_reducible apply And.intro)|exact aG|fail)
   refine⟨⟨i+1,hin⟩,?_,by simp only;omega⟩
   simp only[if_neg (show ¬ i+1=0 by omega),Nat.add_sub_cancel]
   refine wk_more _ (by omega) hin ?_ ?_ ?_ ?_ (fun j hj=>?_) hP ?_
   ·simp only[up_at];exact ha9
   ·simp only[up_at];exact ha6
   ·rw[show i=i-1+1 by omega];rfl
   ·rfl
   ·simp only[up_at]
    repeat rw[if_neg (by omega)]
    have g:=aMem_at (l:=l) (k:=k) (p:=p) (v:=i-1) (kn:=List.replicate i true) (rows:=H.take i) (ob:=none) (j:=j) (by rw[List.length_take];omega) (by rw[List.length_take];omega)
    rw[g,List.getD_eq_getElem?_getD (l:=H.take i),List.getElem?_take,if_pos hj,← List.getD_eq_getElem?_getD]
   ·(simp (config:={ maxSteps:=1000000 }) only[TW,W,Option.isSome_some,List.not_mem_nil,V.rn,hg6,hg33,hg9,m6,m33,m9,EE,QQ,seval])
    exact⟨rfl,rfl,by omega,rfl⟩
 obtain rfl:i=H.length:=by omega
 have r1:decide ((H.length:Int)<(H.length:Int))=false:=df (by omega)
 rw[if_neg (by omega),if_neg (by omega),List.take_length]
 have a37:=aMem_37 (l:=l) (k:=k) (p:=p) (v:=H.length-1) (kn:=List.replicate H.length true) (rows:=H) (ob:=none)
 have ha9:=aMem_d (l:=l) (k:=k) (p:=p) (v:=H.length-1) (kn:=List.replicate H.length true) (rows:=H) (ob:=none)
 repeat' (first|simp (maxSteps:=9999999) only[↓GE,PL,PP,EE,QQ,seval,r1,a37,ha9,ho.len,lm]|(simp (disch:=omega) only[i6])|(apply go_brD<;>intro h)|(apply go_gsD aE<;>intro h)|(apply go_br<;>intro h)|(apply go_gs aE<;>intro h)|(apply go_call 5000 (eo) rfl rfl;iterate 4 (first|(exact CallForm.lent aL rfl rfl)|exact aC))|(with_reducible apply And.intro)|exact aG|fail)
 refine go_loopG 5000 (ι:={i:Nat // i≤H.length}) (fun i=>[(0,dkp),(2,.d (dRows H)),(3,I wrong),(4,I silent),(6,.bp 6 0 0),(12,.vg 33 (H.length-1)),(15,.og 37 0),(41,.d (dInts o)),(42,I H.length),(43,I i.1)]) (fun i=>aMem l (ansN l p w wrong silent o (ansZ H ko) i.1).k p (H.length-1) (ansN l p w wrong silent o (ansZ H ko) i.1).kn (ansN l p w wrong silent o (ansZ H ko) i.1).rows (some (.arr 0 1 true ((ansN l p w wrong silent o (ansZ H ko) i.1).bad.map eT)))) (fun i=>H.length-i.1) ⟨0,Nat.zero_le _⟩ ?_ ?_
 ·show Wk cx _ ⟨tl _,aMem l ko p (H.length-1) (List.replicate H.length true) H (some (.arr 0 1 true ((List.replicate H.length false).map eT)))⟩
  have b9:=aMem_d (l:=l) (k:=ko) (p:=p) (v:=H.length-1) (kn:=List.replicate H.length true) (rows:=H) (ob:=some (.arr 0 1 true ((List.replicate H.length false).map eT)))
  have b6:=aMem_6 (l:=l) (k:=ko) (p:=p) (v:=H.length-1) (kn:=List.replicate H.length true) (rows:=H) (ob:=some (.arr 0 1 true ((List.replicate H.length false).map eT)))
  have b33:=aMem_33 (l:=l) (k:=ko) (p:=p) (v:=H.length-1) (kn:=List.replicate H.length true) (rows:=H) (ob:=some (.arr 0 1 true ((List.replicate H.length false).map eT)))
  have b37:=aMem_37 (l:=l) (k:=ko) (p:=p) (v:=H.length-1) (kn:=List.replicate H.length true) (rows:=H) (ob:=some (.arr 0 1 true ((List.replicate H.length false).map eT)))
  refine wk_aMem _ (by omega) (by simp) ?_ ?_ ?_ (fun oo h=>?_) (fun j hj=>?_) ?_ hP
  ·simp only[up_at];rfl
  ·simp only[up_at];rfl
  ·simp only[up_at];rfl
  ·cases h
   refine⟨⟨_,_,_,_,rfl⟩,?_⟩
   simp only[up_at,List.map_replicate]
   rfl
  ·simp only[up_at]
   repeat rw[if_neg (by omega)]
   exact aMem_at hj (by omega)
  ·(simp (config:={ maxSteps:=1000000 }) only[TW,W,Option.isSome_some,List.not_mem_nil,b9,b6,b33,b37,EE,QQ,seval])
 rintro⟨i,hi⟩
 simp only at hi ⊢
 have hI:=ansI (l:=l) (wrong:=wrong) (silent:=silent) (k:=ko) hp hw hH ho hi
 by_cases hin:i<H.length
 ·have hnx:ansN l p w wrong silent o (ansZ H ko) (i+1)=ansStep l p w wrong silent i (o.getD i 0).toNat (ansN l p w wrong silent o (ansZ H ko) i):=rfl
  have hI2:=ansI_step (l:=l) hp hw hH ho hin hI
  generalize ansN l p w wrong silent o (ansZ H ko) i=s at *
  have hoj:=ho.lt i hin
  have hso:=getD_map eI [] 0 o i (by rw[ho.len];exact hin)
  obtain⟨j,hjd⟩:∃ j,j=(o.getD i 0).toNat:=⟨_,rfl⟩
  have hjo:o.getD i 0=(j:Int):=by omega
  rw[← hjd] at hI2 hnx
  rw[hjo] at hso
  have hjl:j<H.length:=by omega
  have r2:decide ((i:Int)<(H.length:Int))=true:=dt (by omega)
  have u1:IntKind.i64.wrap ((i:Int)+1)=((i+1:Nat):Int):=by rw[i6 _ (by omega)];omega
  have hio:i<o.length:=by rw[ho.len];exact hin
  have hsH:=getD_map eR [] [] H j hjl
  have hHj:=hH _ (mem_getD [] H j hjl)
  have hkl:=hI.kl
  have hbl:=hI.bl
  have hrl:=hI.rl
  by_cases hw1:i<wrong
  ·have r3:decide ((i:Int)<(wrong:Int))=true:=dt (by omega)
   have hrow:=hI.no j hjl (by
    cases hb:s.bad.getD j false with
    |false=>rfl
    |true =>
     obtain⟨m,hm,e⟩:=hI.new j hjl (.inl hb)
     have g1:=ho.lt m (by omega)
     have g2:=ho.ne m i hm hin
     omega)
   have hkj:s.kn.getD j true=true:=by
    cases hb:s.kn.getD j true with
    |true=>rfl
    |false =>
     obtain⟨m,hm,e⟩:=hI.new j hjl (.inr hb)
     have g1:=ho.lt m (by omega)
     have g2:=ho.ne m i hm hin
     omega
   have hwl:(H.getD j []).length=w:=by have:=hHj.1;omega
   have r6:decide ((w:Int) > 0)=true:=dt (by omega)
   have r6':decide ((0:Int)<(w:Int))=true:=dt (by omega)
   have hc:=nextN_lt l s.k w hw
   have e1:=nextD l hl s.k w (by omega)
   have e2:=next l hl (nextK l s.k w) (p-1) (by omega)
   have hv:=nextV_in l (nextK l s.k w) (p-1)
   have hcl:=ansC_len (r:=s.kn) (i:=0)
   have hjj:j*2+1<s.kn.length*2:=by omega
   have hcg:=ansC_get (r:=s.kn) (i:=0) (j:=j) (by omega)
   rw[hkj,if_pos rfl,Nat.zero_add] at hcg
   have a33:=aMem_33 (l:=l) (k:=s.k) (p:=p) (v:=H.length-1) (kn:=s.kn) (rows:=s.rows) (ob:=some (.arr 0 1 true (s.bad.map eT)))
   have a9:=aMem_d (l:=l) (k:=s.k) (p:=p) (v:=H.length-1) (kn:=s.kn) (rows:=s.rows) (ob:=some (.arr 0 1 true (s.bad.map eT)))
   have a6:=aMem_6 (l:=l) (k:=s.k) (p:=p) (v:=H.length-1) (kn:=s.kn) (rows:=s.rows) (ob:=some (.arr 0 1 true (s.bad.map eT)))
   have a37:=aMem_37 (l:=l) (k:=s.k) (p:=p) (v:=H.length-1) (kn:=s.kn) (rows:=s.rows) (ob:=some (.arr 0 1 true (s.bad.map eT)))
   have aj:=aMem_at (l:=l) (k:=s.k) (p:=p) (v:=H.length-1) (kn:=s.kn) (rows:=s.rows) (ob:=some (.arr 0 1 true (s.bad.map eT))) (j:=j) (by omega) (by omega)
   rw[hrow] at aj
   have hx:=all_getD hHj.2 (i:=nextN l s.k w) (by omega)
   have hsr:=getD_map eI [] 0 (H.getD j []) (nextN l s.k w) (by omega)
   have hcr:nextN l s.k w<(H.getD j []).length:=by omega
   have hst:ansStep l p w wrong silent i j s=_:=if_pos hw1
   rw[hst] at hnx
   rw[hrow] at hnx
   rw[hwl] at hcr
   have hpp:IntKind.i64.wrap (p-1)=p-1:=i6 _ (by omega)
   generalize nextN l s.k (w:Int)=c at *
   generalize nextK l s.k (w:Int)=k1 at *
   generalize nextV l k1 (p-1)=e at *
   have w1:IntKind.i64.wrap ((H.getD j []).getD c 0+1)=(H.getD j []).getD c 0+1:=i6 _ (by omega)
   have w2:IntKind.i64.wrap ((H.getD j []).getD c 0+1+e)=(H.getD j []).getD c 0+1+e:=i6 _ (by omega)
   have w3:((H.getD j []).getD c 0+1+e).tmod p=((H.getD j []).getD c 0+1+e) % p:=tmod_pos (by omega)
   have hjb:j<s.bad.length:=by omega
   have hsb:=getD_map eT [] false s.bad j hjb
   have hjne:(j=100000)=False:=eq_false (by omega)
   have hjne2:(100000=j)=False:=eq_false (by omega)
   have q0:(p == 0)=false:=by simp;omega
   rw[aMem_up]
   repeat' (first|simp (maxSteps:=9999999) only[↓GE,PL,PP,EE,QQ,seval,r2,r3,r6,r6',u1,hso,hio,hsH,hjl,hcl,hjj,hcg,hwl,a33,a9,a6,a37,aj,eR,eI,lm]|(simp (disch:=omega) only[i6])|(apply go_brD<;>intro h)|(apply go_gsD aE<;>intro h)|(apply go_br<;>intro h)|(apply go_gs aE<;>intro h)|(with_reducible apply And.intro)|exact aG|fail)
   apply go_call 5000 e1 rfl rfl
   ·exact aC
   ·exact .lent (by simp only[CC,LL,NM,EE,QQ,seval,or_true]) rfl rfl
   ·exact aC
   ·exact aC
   repeat' (first|simp (maxSteps:=9999999) only[↓GE,PL,PP,EE,QQ,seval,r2,r3,r6,r6',u1,hso,hio,hsH,hjl,hcl,hjj,hcg,hwl,hsr,hcr,hpp,w1,w2,w3,q0,hjne,hjne2,a33,a9,a6,a37,aj,eR,eI,if_false,lm]|(simp (disch:=omega) only[i6])|(apply go_brD<;>intro h)|(apply go_gsD aE<;>intro h)|(apply go_br<;>intro h)|(apply go_gs aE<;>intro h)|(with_reducible apply And.intro)|exact aG|fail)
   apply go_call 5000 e2 rfl rfl
   ·exact aC
   ·exact .lent (by simp only[CC,LL,NM,EE,QQ,seval,or_true]) rfl rfl
   ·exact aC
   ·exact aC
   repeat' (first|simp (maxSteps:=9999999) only[↓GE,PL,PP,EE,QQ,seval,r2,r3,r6,r6',u1,hso,hio,hsH,hjl,hcl,hjj,hcg,hwl,hsr,hcr,hpp,w1,w2,w3,q0,hjne,hjne2,hjb,hsb,a33,a9,a6,a37,aj,eT,eR,eI,if_false,lm]|(simp (disch:=omega) only[i6])|(apply go_brD<;>intro h)|(apply go_gsD aE<;>intro h)|(apply go_br<;>intro h)|(apply go_gs aE<;>intro h)|(with_reducible apply And.intro)|fail)
   ·omega
   ·omega
   ·have h7:j=0∨j=1∨j=2∨j=3∨j=4∨j=5∨j=6:=by omega
    show _=true
    rcases h7 with e|e|e|e|e|e|e <;> (rw[e];kernel_rfl)
   ·omega
   refine⟨⟨i+1,hin⟩,?_,by simp only;omega⟩
   simp only[hnx]
   refine wk_aMem _ (by rw[List.length_set];omega) (by rw[List.length_set];omega) ?_ ?_ ?_ (fun oo h=>?_) (fun j2 hj2=>?_) ?_ hP
   ·simp only[up_at]
    rw[if_neg (by omega),if_neg (by omega)]
    simp only[if_true]
    rfl
   ·simp only[up_at]
    repeat rw[if_neg (by omega)]
    rfl
   ·simp only[up_at]
    repeat rw[if_neg (by omega)]
    rfl
   ·cases h
    refine⟨⟨_,_,_,_,rfl⟩,?_⟩
    simp only[up_at,if_true,List.map_set,eT]
   ·rw[List.length_set] at hj2
    simp only[up_at]
    rw[if_neg (by omega),getD_set' (by omega)]
    by_cases e2:j=j2
    ·rw[if_pos (by omega),if_pos e2,List.map_set,eI]
    ·repeat rw[if_neg (by omega)]
     exact aMem_at hj2 (by omega)
   ·refine (fun (h:∀ mm:M,TW mm _ [] _ _)=>h _) ?_
    intro mm
    (simp (config:={ maxSteps:=1000000 }) only[TW,W,Option.isSome_some,List.not_mem_nil,W,aMem_d,aMem_6,aMem_33,aMem_37,EE,QQ,seval])
  have r3:decide ((i:Int)<(wrong:Int))=false:=df (by omega)
  have r4:decide ((i:Int) ≥ (wrong:Int))=true:=dt (by omega)
  have r4':decide ((wrong:Int)≤(i:Int))=true:=dt (by omega)
  have u2:IntKind.i64.wrap ((wrong:Int)+(silent:Int))=((wrong+silent:Nat):Int):=by rw[i6 _ (by omega)];omega
  by_cases hw2:i<wrong+silent
  ·have r5:decide ((i:Int)<((wrong+silent:Nat):Int))=true:=dt (by omega)
   have hcl:=ansC_len (r:=s.kn) (i:=0)
   have hjj:j*2+2≤s.kn.length*2:=by omega
   have hof:=ansC_off (r:=s.kn) (i:=0) (j:=j) (by omega)
   have a33:=aMem_33 (l:=l) (k:=s.k) (p:=p) (v:=H.length-1) (kn:=s.kn) (rows:=s.rows) (ob:=some (.arr 0 1 true (s.bad.map eT)))
   repeat' (first|simp (maxSteps:=9999999) only[↓GE,PL,PP,EE,QQ,seval,r2,r3,r4,r4',r5,u1,u2,hso,hio,hcl,hjj,a33,eI,false_and,lm]|(simp (disch:=omega) only[i6])|(apply go_brD<;>intro h)|(apply go_gsD aE<;>intro h)|(apply go_br<;>intro h)|(apply go_gs aE<;>intro h)|(with_reducible apply And.intro)|exact aG|fail)
   refine⟨⟨i+1,hin⟩,?_,by simp only;omega⟩
   have e:ansN l p w wrong silent o (ansZ H ko) (i+1)=⟨s.rows,s.kn.set j false,s.bad,s.k⟩:=by rw[hnx,ansStep,if_neg hw1,if_pos hw2]
   simp only[e]
   refine wk_aMem _ (by omega) (by rw[List.length_set];omega) ?_ ?_ ?_ (fun oo h=>?_) (fun j hj=>?_) ?_ hP
   ·rfl
   ·rfl
   ·simp only[up_at,if_true]
    rw[← hof]
    rfl
   ·cases h
    exact⟨⟨_,_,_,_,rfl⟩,rfl⟩
   ·simp only[up_at]
    rw[if_neg (by omega)]
    exact aMem_at hj (by omega)
   ·(simp (config:={ maxSteps:=1000000 }) only[TW,W,Option.isSome_some,List.not_mem_nil,W,EE,QQ,seval])
    exact⟨rfl,rfl,rfl,rfl⟩
  ·have r5:decide ((i:Int)<((wrong+silent:Nat):Int))=false:=df (by omega)
   have hws:¬ i<wrong+silent:=hw2
   repeat' (first|simp (maxSteps:=9999999) only[↓GE,PL,PP,EE,QQ,seval,r2,r3,r4,r4',r5,u1,u2,hso,hio,eI,lm]|(simp (disch:=omega) only[i6])|(apply go_brD<;>intro h)|(apply go_gsD aE<;>intro h)|(apply go_br<;>intro h)|(apply go_gs aE<;>intro h)|(with_reducible apply And.intro)|exact aG|fail)
   refine⟨⟨i+1,hin⟩,?_,by simp only;omega⟩
   have e:ansN l p w wrong silent o (ansZ H ko) (i+1)=s:=by rw[hnx,ansStep,if_neg hw1,if_neg hws]
   simp only[e]
   refine wk_aMem _ (by omega) (by omega) ?_ ?_ ?_ (fun oo h=>?_) (fun j hj=>?_) ?_ hP
   ·rfl
   ·rfl
   ·rfl
   ·cases h
    exact⟨⟨_,_,_,_,rfl⟩,rfl⟩
   ·exact aMem_at hj (by omega)
   ·(simp (config:={ maxSteps:=1000000 }) only[TW,W,Option.isSome_some,List.not_mem_nil,W,EE,QQ,seval])
    exact⟨rfl,rfl,rfl,rfl⟩
 obtain rfl:i=H.length:=by omega
 rw[← hS] at hI ⊢
 have hbl:=hI.bl
 have hkl:=hI.kl
 have hrl:=hI.rl
 have r1:decide ((H.length:Int)<(H.length:Int))=false:=df (by omega)
 have a37:=aMem_37 (l:=l) (k:=S.k) (p:=p) (v:=H.length-1) (kn:=S.kn) (rows:=S.rows) (ob:=some (.arr 0 1 true (S.bad.map eT)))
 repeat' (first|simp (maxSteps:=9999999) only[↓GE,PL,PP,EE,QQ,seval,r1,a37,lm]|(simp (disch:=omega) only[i6])|(apply go_brD<;>intro h)|(apply go_gsD aE<;>intro h)|(apply go_br<;>intro h)|(apply go_gs aE<;>intro h)|(with_reducible apply And.intro)|exact aG|fail)
 refine go_runWk 5000 (wk_ans [(12,.d (dAns (ansL S.rows S.kn))),(15,.og 37 0),(19,.nl 1),(109,.og 37 0),(110,I S.bad.length),(111,I 0)] (by omega) (by omega) hP ?_) ?_
 ·refine (fun (h:∀ mm:M,TW mm _ [] _ _)=>h _) ?_
  intro mm
  (simp (config:={ maxSteps:=1000000 }) only[TW,W,Option.isSome_some,List.not_mem_nil,W,su,EE,QQ,seval])
  done
 repeat' (first|simp (maxSteps:=9999999) only[↓GE,PL,PP,EE,QQ,seval]|(simp (disch:=omega) only[i6])|(apply go_brD<;>intro h)|(apply go_gsD aE<;>intro h)|(apply go_br<;>intro h)|(apply go_gs aE<;>intro h)|(with_reducible apply And.intro)|exact aG|fail)
 refine go_loopz 5000 hm0 (ι:={q:Nat × Nat // q.1≤H.length}) (fun q=>[(12,.d (dAns (ansL S.rows S.kn))),(15,.og 37 0),(19,.og 121 q.1.2),(109,.og 37 0),(110,I S.bad.length),(111,I q.1.1)]) (fun q=>[(37,.arr 0 1 true (S.bad.map eT)),(900000,.box 0 [.d (dInts l),I S.k]),(121,.arr q.1.2 1 true ((badL S.bad q.1.1).map eI))]) (fun q=>H.length-q.1.1) [] [121] ⟨(0,0),Nat.zero_le _⟩ ?_ ?_
 ·simp only[GeZ];(simp only[GeS];refine⟨?_,?_,?_,?_⟩;all_goals (repeat' (first|(with_reducible exact True.intro)|(with_reducible rfl)|simp only[XC,↓reduceIte,seval]|(with_reducible apply And.intro)|(refine⟨_,rfl,?_⟩)|(simp [badL];done)|exact aS|fail)))
 rintro⟨⟨j,v⟩,hj⟩
 simp only at hj ⊢
 by_cases hjn:j<H.length
 ·have r2:decide ((j:Int)<(S.bad.length:Int))=true:=dt (by omega)
  have u1:IntKind.i64.wrap ((j:Int)+1)=((j+1:Nat):Int):=by rw[i6 _ (by omega)];omega
  have hjb:j<S.bad.length:=by omega
  have hsb:=getD_map eT [] false S.bad j hjb
  have hbn:=badL_len (b:=S.bad) (n:=j)
  have hnx:badL S.bad (j+1)=if S.bad.getD j false then badL S.bad j++[(j:Int)+1] else badL S.bad j:=rfl
  have hcast:((j+1:Nat):Int)=(j:Int)+1:=by omega
  generalize S.bad.getD j false=b at *
  cases b with
  |true =>
   rw[if_pos rfl] at hnx
   repeat' (first|simp (maxSteps:=9999999) only[↓GE,PL,PP,EE,QQ,seval,r2,u1,hjb,hsb,eT,lm]|(simp (disch:=omega) only[i6])|(apply go_brD<;>intro h)|(apply go_gsD aE<;>intro h)|(apply go_br<;>intro h)|(apply go_gs aE<;>intro h)|(with_reducible apply And.intro)|exact aG|fail)
   refine⟨[],[],⟨(j+1,v+1),hjn⟩,?_,by simp only;omega⟩
   simp only[GeZ];(simp only[GeS];refine⟨?_,?_,?_,?_⟩;all_goals (repeat' (first|(with_reducible exact True.intro)|(with_reducible rfl)|simp only[XC,↓reduceIte,seval]|(with_reducible apply And.intro)|(refine⟨_,rfl,?_⟩)|(simp [hnx,eI,hcast];done)|exact aS|fail)))
  |false =>
   rw[if_neg (by simp)] at hnx
   repeat' (first|simp (maxSteps:=9999999) only[↓GE,PL,PP,EE,QQ,seval,r2,u1,hjb,hsb,eT,lm]|(simp (disch:=omega) only[i6])|(apply go_brD<;>intro h)|(apply go_gsD aE<;>intro h)|(apply go_br<;>intro h)|(apply go_gs aE<;>intro h)|(with_reducible apply And.intro)|exact aG|fail)
   refine⟨[],[],⟨(j+1,v),hjn⟩,?_,by simp only;omega⟩
   simp only[GeZ];(simp only[GeS];refine⟨?_,?_,?_,?_⟩;all_goals (repeat' (first|(with_reducible exact True.intro)|(with_reducible rfl)|simp only[XC,↓reduceIte,seval]|(with_reducible apply And.intro)|(refine⟨_,rfl,?_⟩)|(simp [hnx,eI,hcast];done)|exact aS|fail)))
 obtain rfl:j=H.length:=by omega
 have r2:decide ((H.length:Int)<(S.bad.length:Int))=false:=df (by omega)
 repeat' (first|simp (maxSteps:=9999999) only[↓GE,PL,PP,EE,QQ,seval,r2]|(simp (disch:=omega) only[i6])|(apply go_brD<;>intro h)|(apply go_gsD aE<;>intro h)|(apply go_br<;>intro h)|(apply go_gs aE<;>intro h)|(with_reducible apply And.intro)|exact aG|fail)
 refine⟨_,Wk.refl,?_⟩
 ((first|apply ret_mk []|apply end_mk []);(· exact aR);(· exact aZ);all_goals exact aF)
end Go.Proofs.YtacfbiegbdlldaaGreatDoor.Sim
end
section
namespace Go.Proofs.YtacfbiegbdlldaaGreatDoor.Sim
open Go Go.RowKit Go.Deep
set_option maxRecDepth 100000
set_option maxHeartbeats 4000000
set_option linter.unusedVariables false
set_option linter.unusedSimpArgs false
attribute [local irreducible] Go Mean
theorem seedF_get {seed:Int} {lim:List Int} {i:Nat}:∀ {j:Nat},i<j→(seedF seed lim j).getD i 0=seedS seed (i+1) % lim.getD i 0
 |0,h=>by omega
 |j+1,h=>by
  rw[seedF]
  by_cases e:i<j
  ·rw[List.getD_eq_getElem?_getD,List.getElem?_append_left (by rw[seedF_len];exact e),← List.getD_eq_getElem?_getD]
   exact seedF_get e
  ·obtain rfl:i=j:=by omega
   rw[List.getD_eq_getElem?_getD,List.getElem?_append_right (by rw[seedF_len];omega),seedF_len,Nat.sub_self]
   rfl
theorem seed_tape {seed p:Int} {m:Nat} (hp:1≤p) (hm:m≤16384):TapeOK (seedF seed (List.replicate m p) (List.replicate m p).length) 0 p m:=by
 refine⟨by rw[seedF_len,List.length_replicate];exact hm,by rw[seedF_len,List.length_replicate];omega,fun i hi=>?_⟩
 rw[Nat.zero_add,seedF_get (by rw[List.length_replicate];exact hi),getD_rep hi]
 exact⟨Int.emod_nonneg _ (by omega),Int.emod_lt_of_pos _ (by omega)⟩
theorem lim_ok {p:Int} {m:Nat} (hp:1≤p) (hp2:p≤65521):limOKs (List.replicate m p):=fun x hx=>by
 rw[List.eq_of_mem_replicate hx];omega
theorem rem_nat {a:Int} {n:Nat} (ha:0≤a) (hn:1≤n):∃ i:Nat,i<n∧a.tmod (n:Int)=(i:Int):=by
 refine⟨(a % n).toNat,?_,?_⟩
 ·have h1:=Int.emod_nonneg a (show (n:Int) ≠ 0 by omega)
  have h2:=Int.emod_lt_of_pos a (show (0:Int)<n by omega)
  omega
 ·rw[tmod_pos ha]
  have h1:=Int.emod_nonneg a (show (n:Int) ≠ 0 by omega)
  omega
theorem qsF_len {p:Int} {s d n ix:Nat} {nums:List Int} {a:Nat}:(qsF p s d n ix nums a).length=s:=by simp [qsF]
theorem qsF_get {p:Int} {s d n ix:Nat} {nums:List Int} {a j:Nat} (h:j<s):(qsF p s d n ix nums a).getD j []=colQ p (cfQ ix d (drwF nums a (n*d))) j n:=by
 simp [qsF,List.getD_eq_getElem?_getD,h]
theorem cfQ_len {ix d n i:Nat} {dr:List Int} (h:dr.length=n*d) (hi:i<n):(cfQ ix d dr i).length≤d+1:=by
 unfold cfQ
 have e:(i+1)*d=i*d+d:=by rw[Nat.add_mul,Nat.one_mul]
 rw[List.length_cons,List.length_drop,List.length_take];omega
def honF (p:Int) (w:Nat) (rows qs:List (List Int)):List (List Int):=qs.map fun q=>combL p w q rows
theorem honF_len {p:Int} {w:Nat} {rows qs:List (List Int)}:(honF p w rows qs).length=qs.length:=by simp [honF]
theorem honF_get {p:Int} {w:Nat} {rows qs:List (List Int)} {j:Nat} (h:j<qs.length):(honF p w rows qs).getD j []=combL p w (qs.getD j []) rows:=by
 simp [honF,List.getD_eq_getElem?_getD,h]
theorem honF_next {p:Int} {w:Nat} {rows qs:List (List Int)} {j:Nat} (h:j<qs.length):honF p w rows (qs.take (j+1))=honF p w rows (qs.take j)++[combL p w (qs.getD j []) rows]:=by
 unfold honF
 rw[List.take_succ_eq_append_getElem h,List.map_append,List.getD_eq_getElem?_getD,List.getElem?_eq_getElem h];rfl
theorem honF_rows {p:Int} (hp:1≤p) {w:Nat} {rows qs:List (List Int)}:RowsOK p w (honF p w rows qs):=fun r h=>by
 obtain⟨q,_,rfl⟩:=List.mem_map.1 h
 exact⟨by rw[combL,combN_len];omega,combN_all hp⟩
theorem read_ok {p:Int} {s d n ix w wrong silent:Nat} {rows:List (List Int)} {nums o:List Int} {l:List Int} {ko:Nat} {S:AnsS} (hf:fieldB p=true) (hs:2≤s∧s≤7) (hsp:(s:Int)<p) (hd:1≤d∧d<s) (hw:1≤w) (hr:RowsOK p w rows) (hn:rows.length=n) (hix:ix<n) (ht:TapeOK nums 0 p (n*d)) (ho:OrdOK o s) (hfl:silent+2*wrong+d+1≤s)
  (hS:S=ansN l p w wrong silent o (ansZ (honF p w rows (qsF p s d n ix nums 0)) ko) s) :
  AnsI p w (honF p w rows (qsF p s d n ix nums 0)) o wrong silent s S∧AnsOK p w (ansL S.rows S.kn)∧d+1≤cntA (ansL S.rows S.kn)∧ColsOK p (d+1) w (ansL S.rows S.kn)∧sortF (wrgsF p (d+1) w (ansL S.rows S.kn))=badL S.bad s∧heads (polysF p (d+1) w (ansL S.rows S.kn))=rows.getD ix []:=by
 have hp:=(fieldB_iff.1 hf).1
 have hHl:(honF p w rows (qsF p s d n ix nums 0)).length=s:=by rw[honF_len,qsF_len]
 have hH:=honF_rows (p:=p) (by omega) (w:=w) (rows:=rows) (qs:=qsF p s d n ix nums 0)
 have hI:=ansI (l:=l) (k:=ko) (wrong:=wrong) (silent:=silent) (i:=s) hp hw hH (ord:=o) (by rw[hHl];exact ho) (by rw[hHl];exact Nat.le_refl _)
 rw[← hS] at hI
 have hdl:=drw_len ht.dr
 have hcf:∀ i,i<rows.length→(cfQ ix d (drwF nums 0 (n*d)) i).length≤d+1:=fun i hi=>cfQ_len hdl (by omega)
 obtain⟨g1,g2,g3,g4,g5⟩:=ans_read (need:=d+1) (F:=fun c=>gP p d rows (cfQ ix d (drwF nums 0 (n*d))) c) hf hI hH (by rw[hHl];omega) (by rw[hHl];exact hsp) (by omega) (by rw[hHl];omega) (fun i _=>⟨gP_len,gP_in (by omega)⟩) (fun i j hi hj=>by
  rw[hHl] at hj
  rw[honF_get (by rw[qsF_len];exact hj),qsF_get hj,← hn]
  rw[hn]
  have:=gP_val (p:=p) (by omega) (d:=d) (w:=w) (rows:=rows) (cf:=cfQ ix d (drwF nums 0 (n*d))) (c:=i) (k:=j) hi hcf
  rw[hn] at this
  exact this)
 rw[hHl] at g4
 refine⟨hI,g1,g2,g3,g4,?_⟩
 rw[g5]
 have hrow:=hr _ (mem_getD [] rows ix (by omega))
 have hrl:(rows.getD ix []).length=w:=by have:=hrow.1;omega
 have e:(List.range w).map (fun i=>(gP p d rows (cfQ ix d (drwF nums 0 (n*d))) i).getD 0 0)=(List.range w).map fun i=>(rows.getD ix []).getD i 0:=by
  refine List.map_congr_left fun c hc=>?_
  have hc':=List.mem_range.1 hc
  exact gP_zero (w:=w) hr hc' (by omega) fun i hi=>rfl
 rw[e,← hrl]
 apply List.ext_getElem (by simp)
 intro i h1 h2
 simp at h1
 simp [List.getD_eq_getElem?_getD,h1]
end Go.Proofs.YtacfbiegbdlldaaGreatDoor.Sim
end
