/- A system of equations is solved. -/
import Derived.Test.YtacfbiegbdlldaaGreatDoorVTpR
namespace Go.Proofs.YtacfbiegbdlldaaGreatDoor.Sim
open Go
set_option maxRecDepth 100000
set_option maxHeartbeats 4000000
set_option linter.unusedVariables false
set_option linter.unusedSimpArgs false
attribute [local irreducible] Go Mean
def okZ (c:Nat) (rows:List (List Int)):Bool:=rows.all fun r=>r.getD c 0 == 0
theorem okZ_drop {c k:Nat} {rows:List (List Int)} (h:k<rows.length):okZ c (rows.drop k)=(((rows.getD k []).getD c 0 == 0)&&okZ c (rows.drop (k+1))):=by
 unfold okZ
 rw[List.drop_eq_getElem_cons h,List.all_cons,List.getD_eq_getElem?_getD (l:=rows),List.getElem?_eq_getElem h]
 rfl
theorem W_red {m m0:M} {p:Int} {c:Nat} {s:List (List Int) × Nat × List Int}:Ws m m0 [] (redB p c s) (redB p c s):=by
 simp only[redB,Ws]
 exact⟨W_I,W_I,W_d,W_I,W_ints⟩
theorem redB_cl {p:Int} {c:Nat} {s:List (List Int) × Nat × List Int}:(redB p c s).all closed=true:=by
 simp [redB,closed,I]
theorem solvableT (p:Int) (c:Nat) (s:List (List Int) × Nat × List Int) (h1:RowsC p c s.1) (h2:s.2.1≤s.1.length) (h3:s.1.length≤32) (h4:s.2.2.length=32) (h5:c≤32) :
  Does Tryz.prog 139 [.bp 900000 0 0] [(900000,.box 0 (redB p c s))] (B (okZ c (s.1.drop s.2.1))) [(900000,.box 0 (redB p c s))] []:=by
 refine G98' rfl BxOK.one fun cx hm0=>go_in 5000 ?_
 unfold A98' R98'
 obtain⟨rows,rk,ld⟩:=s
 simp only at h1 h2 h3 h4 ⊢
 have r1:(redB p c (rows,rk,ld)).drop 1=I c :: .d (dRows rows) :: I rk :: ld.map I:=rfl
 have r2:(redB p c (rows,rk,ld)).drop 2=.d (dRows rows) :: I rk :: ld.map I:=rfl
 have r3:(redB p c (rows,rk,ld)).drop 3=I rk :: ld.map I:=rfl
 have rl:(redB p c (rows,rk,ld)).length=36:=by simp [redB,h4]
 repeat' (first|simp (maxSteps:=9999999) only[↓GE,PL,PP,EE,QQ,seval,r1,r2,r3,rl,h2,lm]|(simp (disch:=omega) only[i6])|(apply go_brD<;>intro h)|(apply go_gsD aE<;>intro h)|(apply go_br<;>intro h)|(apply go_gs aE<;>intro h)|(with_reducible apply And.intro)|exact aG|fail)
 refine go_loop 5000 hm0 (ι:={k:Nat // rk+k≤rows.length∧okZ c (rows.drop rk)=okZ c (rows.drop (rk+k))}) (fun k=>[(0,.bp 900000 0 0),(13,.d (dRows (rows.drop rk))),(14,I (rows.drop rk).length),(15,I k.1)]) (fun k=>[(900000,.box 0 (redB p c (rows,rk,ld)))]) (fun k=>rows.length-k.1) [] ⟨0,by omega,rfl⟩ ?_ ?_
 ·(simp only[GeS];refine⟨?_,?_,?_,?_⟩;all_goals (repeat' (first|(with_reducible exact True.intro)|(with_reducible rfl)|simp only[XC,↓reduceIte,seval]|(with_reducible apply And.intro)|(refine⟨_,rfl,?_⟩)|(simp [List.map_drop,W_red,List.take_of_length_le,dRows];done)|exact aS|fail)))
 ·rintro⟨k,hk,hz⟩
  simp only
  have hl:(rows.drop rk).length=rows.length-rk:=List.length_drop
  by_cases hkn:rk+k<rows.length
  ·have q1:decide ((k:Int)<((rows.drop rk).length:Int))=true:=dt (by omega)
   have w1:IntKind.i64.wrap ((k:Int)+1)=((k+1:Nat):Int):=by rw[i6 _ (by omega)];omega
   have hs:=getD_map eR [] [] (rows.drop rk) k (by omega)
   have hd:(rows.drop rk).getD k []=rows.getD (rk+k) []:=by simp [List.getD_eq_getElem?_getD]
   rw[hd] at hs
   have hlk:k<(rows.drop rk).length:=by omega
   have hr:=h1.at hkn
   have hs2:=getD_map eI [] 0 (rows.getD (rk+k) []) c (by omega)
   have hlc:c<(rows.getD (rk+k) []).length:=by omega
   have hzz:=okZ_drop (c:=c) hkn
   by_cases h0:(rows.getD (rk+k) []).getD c 0=0
   ·have q2:((rows.getD (rk+k) []).getD c 0 != 0)=false:=by simpa using h0
    repeat' (first|simp (maxSteps:=9999999) only[↓GE,PL,PP,EE,QQ,seval,r1,r2,r3,rl,q1,q2,w1,hs,hs2,hlk,hlc,eI,eR,lm]|(simp (disch:=omega) only[i6])|(apply go_brD<;>intro h)|(apply go_gsD aE<;>intro h)|(apply go_br<;>intro h)|(apply go_gs aE<;>intro h)|(with_reducible apply And.intro)|exact aG|fail)
    refine⟨⟨k+1,by omega,by rw[hz,hzz,h0];rfl⟩,?_,by simp only;omega⟩
    (simp only[GeS];refine⟨?_,?_,?_,?_⟩;all_goals (repeat' (first|(with_reducible exact True.intro)|(with_reducible rfl)|simp only[XC,↓reduceIte,seval]|(with_reducible apply And.intro)|(refine⟨_,rfl,?_⟩)|(simp [W_red];done)|exact aS|fail)))
   ·have q2:((rows.getD (rk+k) []).getD c 0 != 0)=true:=by simpa using h0
    have hf:okZ c (rows.drop rk)=false:=by rw[hz,hzz,show ((rows.getD (rk+k) []).getD c 0 == 0)=false by simpa using h0];rfl
    rw[hf]
    repeat' (first|simp (maxSteps:=9999999) only[↓GE,PL,PP,EE,QQ,seval,r1,r2,r3,rl,q1,q2,w1,hs,hs2,hlk,hlc,eI,eR,lm]|(simp (disch:=omega) only[i6])|(apply go_brD<;>intro h)|(apply go_gsD aE<;>intro h)|(apply go_br<;>intro h)|(apply go_gs aE<;>intro h)|(with_reducible apply And.intro)|exact aG|fail)
    ((first|apply ret_mk []|apply end_mk []);(· exact aR);(· ((try simp only[CC,LL,EE,QQ,seval]) <;> repeat' (first|exact aD|(with_reducible apply And.intro)|(simp [*,hf,redB_cl];done)|(simp [*,hf,redB_cl];omega)|(simp_all [hf,redB_cl];done)|(simp_all [hf,redB_cl];omega))));all_goals (first|((try simp only[CC,LL,EE,QQ,seval]) <;> (repeat' (first|(with_reducible apply And.intro)|trivial|rfl|(simp [hf,redB_cl];done)));done)|exact aF))
  ·have q1:decide ((k:Int)<((rows.drop rk).length:Int))=false:=df (by omega)
   have hf:okZ c (rows.drop rk)=true:=by rw[hz,show rk+k=rows.length by omega,List.drop_length];rfl
   rw[hf]
   repeat' (first|simp (maxSteps:=9999999) only[↓GE,PL,PP,EE,QQ,seval,q1]|(simp (disch:=omega) only[i6])|(apply go_brD<;>intro h)|(apply go_gsD aE<;>intro h)|(apply go_br<;>intro h)|(apply go_gs aE<;>intro h)|(with_reducible apply And.intro)|exact aG|fail)
   ((first|apply ret_mk []|apply end_mk []);(· exact aR);(· ((try simp only[CC,LL,EE,QQ,seval]) <;> repeat' (first|exact aD|(with_reducible apply And.intro)|(simp [*,hf,redB_cl];done)|(simp [*,hf,redB_cl];omega)|(simp_all [hf,redB_cl];done)|(simp_all [hf,redB_cl];omega))));all_goals (first|((try simp only[CC,LL,EE,QQ,seval]) <;> (repeat' (first|(with_reducible apply And.intro)|trivial|rfl|(simp [hf,redB_cl];done)));done)|exact aF))
theorem checkT (p:Int) (n c:Nat) (vals right:List Int) (hf:fieldB p=true) (hn:n≤32) (hc:c≤32) (hv:vals.length=n*c) (hr:right.length=n) (hva:vals.all (inE p)=true) (hra:right.all (inE p)=true) :
  Does Tryz.prog 137 [.ag (argR p n c vals right)] [] (I 0) [] []:=by
 refine G96' rfl BxOK.nil fun cx hm0=>go_in 5000 ?_
 unfold A96' R96' argR
 have hic2:n*c≤32*32:=Nat.mul_le_mul hn hc
 have w2:IntKind.i64.wrap ((n:Int)*(c:Int))=((n*c:Nat):Int):=by rw[← Int.natCast_mul,i6 _ (by omega)]
 have e1:=resOf p
 rw[hf] at e1
 have l1:vals.length≤17592186044416:=by omega
 have l2:right.length≤17592186044416:=by omega
 have q1:(((n*c:Nat):Int) != ((n*c:Nat):Int))=false:=by simp
 have q2:((n:Int) != (n:Int))=false:=by simp
 have q3:decide ((n:Int)<0)=false:=df (by omega)
 have q4:decide ((32:Int)<(n:Int))=false:=df (by omega)
 have q5:decide ((c:Int)<0)=false:=df (by omega)
 have q6:decide ((32:Int)<(c:Int))=false:=df (by omega)
 repeat' (first|simp (maxSteps:=9999999) only[↓GE,PL,PP,EE,QQ,seval,w2,hv,hr,q1,q2,q3,q4,q5,q6,hva,hra,lm]|(simp (disch:=omega) only[i6])|(apply go_brD<;>intro h)|(apply go_gsD aE<;>intro h)|(apply go_br<;>intro h)|(apply go_gs aE<;>intro h)|(apply go_call 5000 (e1) rfl rfl;iterate 4 (first|(exact CallForm.plain rfl)|exact aC))|(with_reducible apply And.intro)|exact aG|fail)
 (apply go_call 5000 (allF p vals l1) rfl rfl;iterate 4 (first|(exact CallForm.plain rfl)|exact aC))
 repeat' (first|simp (maxSteps:=9999999) only[↓GE,PL,PP,EE,QQ,seval,w2,hv,hr,q1,q2,q3,q4,q5,q6,hva,hra,lm]|(simp (disch:=omega) only[i6])|(apply go_brD<;>intro h)|(apply go_gsD aE<;>intro h)|(apply go_br<;>intro h)|(apply go_gs aE<;>intro h)|(with_reducible apply And.intro)|exact aG|fail)
 (apply go_call 5000 (allF p right l2) rfl rfl;iterate 4 (first|(exact CallForm.plain rfl)|exact aC))
 repeat' (first|simp (maxSteps:=9999999) only[↓GE,PL,PP,EE,QQ,seval,w2,hv,hr,q1,q2,q3,q4,q5,q6,hva,hra,lm]|(simp (disch:=omega) only[i6])|(apply go_brD<;>intro h)|(apply go_gsD aE<;>intro h)|(apply go_br<;>intro h)|(apply go_gs aE<;>intro h)|(with_reducible apply And.intro)|exact aG|fail)
 all_goals ((first|apply ret_mk []|apply end_mk []);(· exact aR);(· exact aZ);all_goals exact aF)
def solAt (c:Nat) (s:List (List Int) × Nat × List Int) (i:Nat):Int:=if 0<s.2.2.getD i 0 then (s.1.getD (s.2.2.getD i 0-1).toNat []).getD c 0 else 0
def solF (c:Nat) (s:List (List Int) × Nat × List Int):List Int:=(List.range c).map (solAt c s)
def solveN (p:Int) (n c:Nat) (vals right:List Int):List (List Int) × Nat × List Int:=redN p (rowsT c vals right n) c
theorem redN_ld {p:Int} {c:Nat} (hf:fieldB p=true) {rows:List (List Int)} (h:RowsC p c rows):∀ k,∀ x ∈ (redN p rows k).2.2,0≤x∧x≤(rows.length:Int)
 |0=>fun x hx=>by
  rw[List.eq_of_mem_replicate (show x ∈ List.replicate 32 0 from hx)];omega
 |k+1=>fun x hx=>by
  simp only[redN] at hx
  obtain⟨h1,h2,h3,h4⟩:=redN_ok (k:=k) hf h
  unfold leadD at hx
  split at hx
  ·rename_i hp
   rcases List.mem_or_eq_of_mem_set hx with h5|rfl
   ·exact redN_ld hf h k x h5
   ·have:=piv_in (k:=k) (show (redN p rows k).2.1≤(redN p rows k).1.length by omega)
    omega
  ·exact redN_ld hf h k x hx
def solK (c:Nat) (s:List (List Int) × Nat × List Int) (k:Nat):List Int:=(List.range c).map fun i=>if i<k then solAt c s i else 0
theorem solK_len {c k:Nat} {s:List (List Int) × Nat × List Int}:(solK c s k).length=c:=by simp [solK]
theorem solK_zero {c:Nat} {s:List (List Int) × Nat × List Int}:solK c s 0=List.replicate c 0:=by
 apply List.ext_getElem (by simp [solK])
 intro i h1 h2
 simp [solK]
theorem solK_all {c:Nat} {s:List (List Int) × Nat × List Int}:solK c s c=solF c s:=by
 unfold solK solF
 refine List.map_congr_left fun i hi=>?_
 rw[List.mem_range] at hi
 rw[if_pos hi]
theorem solK_next {c k:Nat} {s:List (List Int) × Nat × List Int} (h:k<c):(solK c s k).set k (solAt c s k)=solK c s (k+1):=by
 apply List.ext_getElem (by simp [solK])
 intro i h1 h2
 simp only[solK,List.getElem_set,List.getElem_map,List.getElem_range]
 by_cases e:k=i
 ·subst e;simp
 ·rw[if_neg e]
  by_cases h3:i<k
  ·rw[if_pos h3,if_pos (by omega)]
  ·rw[if_neg h3,if_neg (by omega)]
theorem solK_same {c k:Nat} {s:List (List Int) × Nat × List Int} (h:k<c) (h0:solAt c s k=0):solK c s k=solK c s (k+1):=by
 rw[← solK_next h,h0]
 apply List.ext_getElem (by simp)
 intro i h1 h2
 rw[List.getElem_set]
 split
 ·subst_vars;simp [solK]
 ·rfl
theorem solveT (p:Int) (n c:Nat) (vals right:List Int) (hf:fieldB p=true) (hn1:1≤n) (hn:n≤32) (hc:c≤32) (hv:vals.length=n*c) (hr:right.length=n) (hva:vals.all (inE p)=true) (hra:right.all (inE p)=true)
  (ho:okZ c ((solveN p n c vals right).1.drop (solveN p n c vals right).2.1)=true) :
  Does Tryz.prog 122 [.ag (argR p n c vals right)] [] (.tu [.d (dInts (solF c (solveN p n c vals right))),I 0]) [] []:=by
 refine G90' rfl BxOK.nil fun cx hm0=>go_in 5000 ?_
 unfold A90' R90'
 have e1:=checkT p n c vals right hf hn hc hv hr hva hra
 have e2:=reduceT p n c vals right hf hn1 hn hc hv hr hva hra
 have hR0:=rowsT_rows hv hr hva hra
 obtain⟨g1,g2,g3,g4⟩:=redN_ok (k:=c) hf hR0
 have g5:=redN_ld hf hR0 c
 rw[rowsT_len] at g1 g3 g5
 unfold solveN at ho ⊢
 have e3:=solvableT p c (redN p (rowsT c vals right n) c) g2 (by omega) (by omega) g4 hc
 rw[ho] at e3
 generalize redN p (rowsT c vals right n) c=s at *
 unfold argR
 unfold argR at e1 e2
 have e3':=e3.nm1 17000 0 (by omega) rfl redB_cl redB_cl rfl rfl
 obtain⟨rows,rk,ld⟩:=s
 simp only at g1 g2 g3 g4 g5
 have r2:(redB p c (rows,rk,ld)).drop 2=.d (dRows rows) :: I rk :: ld.map I:=rfl
 have r4:∀ k,(redB p c (rows,rk,ld)).drop (4+k*1)=(ld.drop k).map I:=fun k=>by
  rw[show 4+k*1=k+4 by omega,List.map_drop];rfl
 have rl:(redB p c (rows,rk,ld)).length=36:=by simp [redB,g4]
 have hw:[O.box 0 (redB p c (rows,rk,ld))].all O.wf=true:=by simp [redB_wf]
 repeat' (first|simp (maxSteps:=9999999) only[↓GE,PL,PP,EE,QQ,seval]|(simp (disch:=omega) only[i6])|(apply go_brD<;>intro h)|(apply go_gsD aE<;>intro h)|(apply go_br<;>intro h)|(apply go_gs aE<;>intro h)|(apply go_call 5000 (e1) rfl rfl;iterate 4 (first|(exact CallForm.plain rfl)|exact aC))|(with_reducible apply And.intro)|exact aG|fail)
 (apply go_call 5000 e2 rfl rfl;(· exact aC);(· exact CallForm.news hw rfl);(· exact aC);(· exact aC))
 repeat' (first|simp (maxSteps:=9999999) only[↓GE,PL,PP,EE,QQ,seval,r2,r4,rl]|(simp (disch:=omega) only[i6])|(apply go_brD<;>intro h)|(apply go_gsD aE<;>intro h)|(apply go_br<;>intro h)|(apply go_gs aE<;>intro h)|(with_reducible apply And.intro)|exact aG|fail)
 (apply go_call 5000 e3' rfl rfl;(· exact aC);(· exact CallForm.box1 (by decide) rfl redB_cl redB_cl rfl rfl);(· exact aC);(· exact aC))
 repeat' (first|simp (maxSteps:=9999999) only[↓GE,PL,PP,EE,QQ,seval,r2,r4,rl]|(simp (disch:=omega) only[i6])|(apply go_brD<;>intro h)|(apply go_gsD aE<;>intro h)|(apply go_br<;>intro h)|(apply go_gs aE<;>intro h)|(with_reducible apply And.intro)|exact aG|fail)
 refine go_loop 5000 hm0 (ι:={k:Nat // k≤c}) (fun k=>[(1,.bp 1 0 0),(5,.bp 17000 0 0),(6,.og 21 0),(22,.og 21 0),(23,I c),(24,I k.1)]) (fun k=>[(1,.box 0 (argR p n c vals right)),(17000,.box 0 (redB p c (rows,rk,ld))),(21,.arr 0 1 true ((solK c (rows,rk,ld) k.1).map eI))]) (fun k=>c-k.1) [] ⟨0,Nat.zero_le _⟩ ?_ ?_
 ·(simp only[GeS];refine⟨?_,?_,?_,?_⟩;all_goals (repeat' (first|(with_reducible exact True.intro)|(with_reducible rfl)|simp only[XC,↓reduceIte,seval]|(with_reducible apply And.intro)|(refine⟨_,rfl,?_⟩)|(simp [W_red,W_arg,solK_zero,eI];done)|exact aS|fail)))
 ·rintro⟨k,hk⟩
  simp only
  by_cases hkc:k<c
  ·have q1:decide ((k:Int)<(c:Int))=true:=dt (by omega)
   have w1:IntKind.i64.wrap ((k:Int)+1)=((k+1:Nat):Int):=by rw[i6 _ (by omega)];omega
   have hk36:4+k*1+1≤36:=by omega
   have ht:((ld.drop k).map I).take 1=[I (ld.getD k 0)]:=by
    rw[List.drop_eq_getElem_cons (by omega),List.getD_eq_getElem?_getD,List.getElem?_eq_getElem (by omega)]
    rfl
   have hb:=g5 (ld.getD k 0) (mem_getD _ _ _ (by omega))
   have hsv:solAt c (rows,rk,ld) k=if 0<ld.getD k 0 then (rows.getD (ld.getD k 0-1).toNat []).getD c 0 else 0:=rfl
   have hsame:=solK_same (s:=(rows,rk,ld)) hkc
   have hnext:=solK_next (s:=(rows,rk,ld)) hkc
   have hlk:k<(solK c (rows,rk,ld) k).length:=by rw[solK_len];exact hkc
   by_cases hz:0<ld.getD k 0
   ·rw[if_pos hz] at hsv
    have q2:decide ((0:Int)<ld.getD k 0)=true:=dt hz
    have w2:IntKind.i64.wrap (ld.getD k 0-1)=((ld.getD k 0-1).toNat:Nat):=by rw[i6 _ (by omega)];omega
    have hrn:(ld.getD k 0-1).toNat<rows.length:=by omega
    generalize (ld.getD k 0-1).toNat=j at *
    have hs1:=getD_map eR [] [] rows j hrn
    have hrow:=g2.at hrn
    have hs2:=getD_map eI [] 0 (rows.getD j []) c (by omega)
    have hlc:c<(rows.getD j []).length:=by omega
    have hs3:=getD_map eI [] 0 (solK c (rows,rk,ld) k) k hlk
    repeat' (first|simp (maxSteps:=9999999) only[↓GE,PL,PP,EE,QQ,seval,hs3,r2,r4,rl,q1,q2,w1,w2,hk36,ht,hrn,hs1,hs2,hlc,hlk,eI,eR,argR,Int.toNat_natCast,lm]|(simp (disch:=omega) only[i6])|(apply go_brD<;>intro h)|(apply go_gsD aE<;>intro h)|(apply go_br<;>intro h)|(apply go_gs aE<;>intro h)|(with_reducible apply And.intro)|exact aG|fail)
    refine⟨⟨k+1,hkc⟩,?_,by simp only;omega⟩
    (simp only[GeS];refine⟨?_,?_,?_,?_⟩;all_goals (repeat' (first|(with_reducible exact True.intro)|(with_reducible rfl)|simp only[XC,↓reduceIte,seval]|(with_reducible apply And.intro)|(refine⟨_,rfl,?_⟩)|(simp [W_red,W_arg,← hnext,hsv,eI,List.map_set];done)|exact aS|fail)))
   ·rw[if_neg hz] at hsv
    have q2:decide ((0:Int)<ld.getD k 0)=false:=df hz
    repeat' (first|simp (maxSteps:=9999999) only[↓GE,PL,PP,EE,QQ,seval,r2,r4,rl,q1,q2,w1,hk36,ht,argR]|(simp (disch:=omega) only[i6])|(apply go_brD<;>intro h)|(apply go_gsD aE<;>intro h)|(apply go_br<;>intro h)|(apply go_gs aE<;>intro h)|(with_reducible apply And.intro)|exact aG|fail)
    refine⟨⟨k+1,hkc⟩,?_,by simp only;omega⟩
    (simp only[GeS];refine⟨?_,?_,?_,?_⟩;all_goals (repeat' (first|(with_reducible exact True.intro)|(with_reducible rfl)|simp only[XC,↓reduceIte,seval]|(with_reducible apply And.intro)|(refine⟨_,rfl,?_⟩)|(simp [W_red,W_arg,hsame hsv];done)|exact aS|fail)))
  ·obtain rfl:k=c:=by omega
   have q1:decide ((k:Int)<(k:Int))=false:=df (by omega)
   rw[← solK_all]
   repeat' (first|simp (maxSteps:=9999999) only[↓GE,PL,PP,EE,QQ,seval,q1]|(simp (disch:=omega) only[i6])|(apply go_brD<;>intro h)|(apply go_gsD aE<;>intro h)|(apply go_br<;>intro h)|(apply go_gs aE<;>intro h)|(with_reducible apply And.intro)|exact aG|fail)
   ((first|apply ret_mk []|apply end_mk []);(· exact aR);(· exact aZ);all_goals exact aF)
end Go.Proofs.YtacfbiegbdlldaaGreatDoor.Sim
