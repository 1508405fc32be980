/- The equations, reduced. -/
import Derived.Test.YticdbambknflgaaGreatMWoH
namespace Go.Proofs.YticdbambknflgaaGreat.Sim
open Go
set_option maxRecDepth 100000
set_option maxHeartbeats 4000000
set_option linter.unusedVariables false
set_option linter.unusedSimpArgs false
attribute [local irreducible] Go Mean
def memY (arg:List V) (rows:List (List Int)) (i:Nat):M:=if i=0 then up M0 1 (some (.box 0 arg)) else memX arg (i-1) (List.range i) rows none
def OK6 (R C:Nat) (σ:List Nat) (rows:List (List Int)) (ld:List Int):Prop:=σ.length=R∧(∀ j ∈ σ,j<R)∧rows.length=R∧(∀ x ∈ rows,x.length=C+1)∧ld.length≤R∧∀ x ∈ ld,0≤x∧x<(C:Int)
theorem rowsT_ok {R C:Nat} {cells right:List Int} (h1:cells.length=R*C) (h2:right.length=R):∀ x ∈ rowsT C cells right R,x.length=C+1:=fun x hx=>by
 simp only[rowsT,List.mem_map,List.mem_range] at hx
 obtain⟨i,hi,rfl⟩:=hx
 have hic:(i+1)*C≤R*C:=Nat.mul_le_mul_right C hi
 have hic3:(i+1)*C=i*C+C:=by rw[Nat.add_mul,Nat.one_mul]
 simp only[rowT,List.length_append,List.length_take,List.length_drop,List.length_cons,List.length_nil]
 omega
theorem set_eI (l:List Int) (c:Nat) (y:Int):(l.map eI).set c [D.at (Value.int IntKind.i64 y)]=(l.set c y).map eI:=by rw[List.map_set];rfl
theorem rows_set {rows:List (List Int)} {n j:Nat} {y:List Int} (h:∀ x ∈ rows,x.length=n) (hy:y.length=n):∀ x ∈ rows.set j y,x.length=n:=fun x hx=>by
 rcases List.mem_or_eq_of_mem_set hx with hx|rfl
 ·exact h x hx
 ·exact hy
theorem reduce6 (p:Int) (R C:Nat) (cells right:List Int) (hf:fieldB p=true) (hR:R≤32) (hC:C≤32) (h1:cells.length=R*C) (h2:right.length=R):DoesP Tryz.prog 189 [.ag [I p,I R,I C,.d (dInts cells),.d (dInts right)]] (fun r=>∃ ms ld,r=.tu [.d (dRows ms),.d (dInts ld)]∧ms.length=R∧(∀ x ∈ ms,x.length=C+1)∧ld.length≤R∧∀ x ∈ ld,0≤x∧x<C):=by
 have hp1:=(fieldB_iff.1 hf).1
 refine⟨⟨_,List.replicate R (List.replicate (C+1) 0),[],rfl,by simp,fun x hx=>by rw[List.eq_of_mem_replicate hx];simp,by simp,by simp⟩,wE' Tryz.func189 (s:=[46]) fun cx hm0=>Awp.endWk (go_in 5000 ?_)⟩
 by_cases hR0:R=0
 ·subst hR0
  repeat' (first|refine gS ?_|refine sp ?_ ?_ <;> intro h|(with_reducible apply And.intro)|exact aG|fail)
  refine gl (κ:=Nat) hm0 (fun q_=>q_=0) (fun q_=>[(1,.bp 1 0 0),(4,I p),(5,.nl 1),(6,I 0)]) (fun q_=>[(1,.box 0 [I p,I 0,I C,.d (dInts cells),.d (dInts right)])]) (fun q_=>q_) [] [] (0) ?_
  rintro u hI
  try simp only at hI ⊢
  try have hI2:=hI.2
  repeat' (first|refine gS ?_|refine sp ?_ ?_ <;> intro h|(with_reducible apply And.intro)|exact aG|fail)
  refine gl (κ:=Nat) hm0 (fun q_=>q_=0) (fun q_=>[(1,.bp 1 0 0),(4,I p),(5,.nl 1),(7,.nl 1),(8,I 0)]) (fun q_=>[(1,.box 0 [I p,I 0,I C,.d (dInts cells),.d (dInts right)])]) (fun q_=>q_) [] [] (0) ?_
  rintro u hI
  try simp only at hI ⊢
  try have hI2:=hI.2
  repeat' (first|refine gS ?_|refine sp ?_ ?_ <;> intro h|(with_reducible apply And.intro)|exact aG|fail)
  all_goals (refine⟨_,Wk.refl,?_⟩;refine dP ?_;exact⟨[],[],rfl,rfl,by simp,by simp,by simp⟩)
 repeat' (first|refine gS ?_|refine sp ?_ ?_ <;> intro h|(with_reducible apply And.intro)|exact aG|fail)
 refine go_loopG 5000 (ι:={i:Nat // i≤R}) (fun i=>[(1,.bp 1 0 0),(4,I p),(5,if i.1=0 then .nl 1 else .vg 47 (i.1-1)),(6,I i.1)]) (fun i=>memY (arg6 p R C cells right) (rowsT C cells right i.1) i.1) (fun i=>R-i.1) ⟨0,Nat.zero_le _⟩ ?_ ?_
 ·have e:memY (arg6 p R C cells right) (rowsT C cells right 0) 0=_:=if_pos rfl
  simp only[e,if_true]
  refine Wk.weaken [] _ _ (TW_ok ?_) (fun i o hi=>?_) (fun i hi=>by cases hi) (fun i o hi=>by rw[hm0] at hi;cases hi)
  ·(simp (config:={ maxSteps:=1000000 }) only[TW,W,Option.isSome_some,List.not_mem_nil,arg6,EE,QQ,seval])
  ·simp only[up_at] at hi
   split at hi
   ·rename_i e
    subst e
    cases hi
    exact⟨rfl,_,rfl,W_arg6⟩
   ·cases hi
 rintro⟨i,hi⟩
 simp only
 by_cases hin:i<R
 ·have q1:decide ((i:Int)<(R:Int))=true:=decide_eq_true (by omega)
  have hic:(i+1)*C≤R*C:=Nat.mul_le_mul_right C hin
  have hic2:R*C≤32*32:=Nat.mul_le_mul hR hC
  have hic3:(i+1)*C=i*C+C:=by rw[Nat.add_mul,Nat.one_mul]
  have w1:IntKind.i64.wrap ((i:Int)+1)=((i+1:Nat):Int):=by rw[IntWalk.i64_in _ (by omega)];omega
  have w2:IntKind.i64.wrap ((i:Int)*(C:Int))=((i*C:Nat):Int):=by rw[← Int.natCast_mul,IntWalk.i64_in _ (by omega)]
  have w3:IntKind.i64.wrap (((i+1:Nat):Int)*(C:Int))=(((i+1)*C:Nat):Int):=by rw[← Int.natCast_mul,IntWalk.i64_in _ (by omega)]
  have hrs:=getD_map eI [] 0 right i (by omega)
  have hir:i<right.length:=by omega
  have hsl:List.drop (i*C) (List.take ((i+1)*C) (List.map eI cells))=((cells.drop (i*C)).take C).map eI:=by
   rw[hic3,← List.map_take,← List.map_drop,List.drop_take,Nat.add_sub_cancel_left]
  have hln:((cells.drop (i*C)).take C).length=C:=by rw[List.length_take,List.length_drop];omega
  have hcc:i*C≤(i+1)*C:=by omega
  have hcl:(i+1)*C≤cells.length:=by omega
  have hsg:∀ k,k<800000→k ≠ 38→swp 38 (i+800000) k=k:=fun k h h2=>swp_no h2 (by omega)
  by_cases h0:i=0
  ·have e0:memY (arg6 p R C cells right) (rowsT C cells right i) i=up M0 1 (some (.box 0 (arg6 p R C cells right))):=if_pos h0
   rw[e0,if_pos h0]
   simp only[arg6]
   repeat' (first|simp (maxSteps:=9999999) only[↓GE,PQ,seval,q1,w1,w2,w3,hin,hir,hic,hcc,hcl,hrs,hsl,hln,Int.toNat_natCast,eI]|refine gS ?_|refine sp ?_ ?_ <;> intro h|(with_reducible apply And.intro)|exact aG|fail)
   refine⟨⟨i+1,hin⟩,?_,by simp only;omega⟩
   have e:memY (arg6 p R C cells right) (rowsT C cells right (i+1)) (i+1)=memX (arg6 p R C cells right) (i+1-1) (List.range (i+1)) (rowsT C cells right (i+1)) none:=if_neg (by omega)
   simp only[e]
   rw[if_neg (show ¬ (i+1=0) by omega)]
   refine wk_growX (T0:=_) hm0 ?_ ?_ ?_ (fun j hj=>?_) ?_
   ·rfl
   ·subst h0;rfl
   ·simp only[rowT,List.map_append,up_at,eI];rfl
   ·omega
   ·have hs1:(memX (arg6 p R C cells right) i (List.range (i+1)) (rowsT C cells right (i+1)) none 1).isSome=true:=rfl
    have hs47:(memX (arg6 p R C cells right) i (List.range (i+1)) (rowsT C cells right (i+1)) none 47).isSome=true:=rfl
    have hg1:=hsg 1 (by omega) (by omega)
    have hg47:=hsg 47 (by omega) (by omega)
    (simp (config:={ maxSteps:=1000000 }) only[TW,W,Option.isSome_some,List.not_mem_nil,V.rn,hg1,hg47,hs1,hs47,EE,QQ,seval])
    exact h0.symm
  ·have e0:memY (arg6 p R C cells right) (rowsT C cells right i) i=memX (arg6 p R C cells right) (i-1) (List.range i) (rowsT C cells right i) none:=if_neg h0
   rw[e0,if_neg h0]
   simp only[arg6]
   have m38:memX (arg6 p R C cells right) (i-1) (List.range i) (rowsT C cells right i) none 38=none:=memX_none (by omega) (by omega) (by omega) (by omega)
   have m46:memX (arg6 p R C cells right) (i-1) (List.range i) (rowsT C cells right i) none 46=none:=memX_none (by omega) (by omega) (by omega) (by omega)
   have m44:memX (arg6 p R C cells right) (i-1) (List.range i) (rowsT C cells right i) none 44=none:=memX_none (by omega) (by omega) (by omega) (by omega)
   simp only[arg6] at m38 m46 m44
   repeat' (first|simp (maxSteps:=9999999) only[↓GE,PQ,seval,q1,w1,w2,w3,hin,hir,hic,hcc,hcl,hrs,hsl,hln,memX_1,memX_47,m38,m46,m44,cellX_len,rowsT_len,List.length_range,Int.toNat_natCast,eI]|refine gS ?_|refine sp ?_ ?_ <;> intro h|(with_reducible apply And.intro)|exact aG|fail)
   refine⟨⟨i+1,hin⟩,?_,by simp only;omega⟩
   have e:memY (arg6 p R C cells right) (rowsT C cells right (i+1)) (i+1)=memX (arg6 p R C cells right) (i+1-1) (List.range (i+1)) (rowsT C cells right (i+1)) none:=if_neg (by omega)
   simp only[e]
   rw[if_neg (show ¬ (i+1=0) by omega)]
   refine wk_growX (T0:=_) hm0 ?_ ?_ ?_ (fun j hj=>?_) ?_
   ·rfl
   ·rw[show i+1-1=i-1+1 by omega];rfl
   ·simp only[rowT,List.map_append,up_at,eI];rfl
   ·have g:=memX_at (arg:=arg6 p R C cells right) (v:=i-1) (σ:=List.range i) (rows:=rowsT C cells right i) (lo:=none) (j:=j) (by rw[rowsT_len];exact hj)
    rw[rowsT_get hj] at g
    simp only[up_at]
    repeat rw[if_neg (by omega)]
    exact g
   ·have hs1:(memX (arg6 p R C cells right) i (List.range (i+1)) (rowsT C cells right (i+1)) none 1).isSome=true:=rfl
    have hs47:(memX (arg6 p R C cells right) i (List.range (i+1)) (rowsT C cells right (i+1)) none 47).isSome=true:=rfl
    have hg1:=hsg 1 (by omega) (by omega)
    have hg47:=hsg 47 (by omega) (by omega)
    (simp (config:={ maxSteps:=1000000 }) only[TW,W,Option.isSome_some,List.not_mem_nil,V.rn,hg1,hg47,hs1,hs47,EE,QQ,seval])
    omega
 obtain rfl:R=i:=by omega
 have q1:decide ((R:Int)<(R:Int))=false:=decide_eq_false (by omega)
 have e0:memY (arg6 p R C cells right) (rowsT C cells right R) R=memX (arg6 p R C cells right) (R-1) (List.range R) (rowsT C cells right R) none:=if_neg (by omega)
 rw[e0,if_neg hR0]
 simp only[arg6]
 repeat' (first|refine gB q1 @memX_1 ?_|refine sp ?_ ?_ <;> intro h|(with_reducible apply And.intro)|exact aG|fail)
 generalize R-1=v
 refine go_loopG 5000 (ι:={q:Nat × List Nat × List (List Int) × List Int // q.1≤C∧OK6 R C q.2.1 q.2.2.1 q.2.2.2}) (fun q=>[(1,.bp 1 0 0),(4,I p),(5,.vg 47 v),(7,.og 193 q.1.2.2.2.length),(8,I q.1.1)]) (fun q=>memX (arg6 p R C cells right) v q.1.2.1 q.1.2.2.1 (some (.arr q.1.2.2.2.length 1 true (q.1.2.2.2.map eI)))) (fun q=>C-q.1.1) ⟨(0,List.range R,rowsT C cells right R,[]),Nat.zero_le _,by simp,fun j hj=>List.mem_range.1 hj,rowsT_len,rowsT_ok h1 h2,by simp,by simp⟩ ?_ ?_
 ·refine wkX [193] (.inr rfl) hm0 _ rfl rfl (fun o ho=>⟨?_,fun h=>by cases h⟩) (fun _ h=>by cases h) (fun j hj=>memX_at hj) (fun j hj=>by rw[rowsT_len];exact List.mem_range.1 hj) ?_
  ·cases ho
   exact⟨0,[],rfl,fun _=>⟨rfl,rfl⟩⟩
  ·(simp (config:={ maxSteps:=1000000 }) only[TW,W,Option.isSome_some,List.not_mem_nil,memX_1,memX_47,memX_193,EE,QQ,seval])
   simp
 rintro⟨⟨k,σ,rows,ld⟩,hk,hσl,hσ,hrl,hrow,hld,hldk⟩
 simp only at hk hσl hσ hrl hrow hld hldk ⊢
 simp only[arg6]
 have hlen:∀ j,j<R→(rows.getD j []).length=C+1:=fun j hj=>hrow _ (mem_getD _ _ _ (by omega))
 have hσi:∀ i,i<R→σ.getD i 0<R:=fun i hi=>hσ _ (mem_getD _ _ _ (by omega))
 by_cases hkc:k<C∧ld.length<R
 case neg =>
  repeat' (first|simp (maxSteps:=9999999) only[↓GE,PQ,seval,memX_1,memX_47,memX_193,cellX_len,hσl]|refine gS ?_|refine sp ?_ ?_ <;> intro h|(with_reducible apply And.intro)|exact aG|fail)
  all_goals try (exfalso;omega)
  all_goals (refine⟨_,wk_sealX hm0 (fun j hj=>by rw[hrl];exact hσ j hj) rfl rfl,?_⟩;refine dP ?_;exact⟨_,ld,rfl,by rw[List.length_map,hσl],fun x hx=>by obtain⟨j,hj,rfl⟩:=List.mem_map.1 hx;exact hlen j (hσ j hj),hld,hldk⟩)
 obtain⟨hk1,hk2⟩:=hkc
 have q2:decide ((k:Int)<(C:Int))=true:=decide_eq_true (by omega)
 have q3:decide ((ld.length:Int)<(R:Int))=true:=decide_eq_true (by omega)
 repeat' (first|simp (maxSteps:=9999999) only[↓GE,PQ,seval,memX_1,memX_47,memX_193,cellX_len,hσl,q2,q3]|refine gS ?_|refine sp ?_ ?_ <;> intro h|(with_reducible apply And.intro)|exact aG|fail)
 have hr193:∀ {σ:List Nat} {rows:List (List Int)},(memX [I p,I R,I C,.d (dInts cells),.d (dInts right)] v σ rows (some (.arr ld.length 1 true (ld.map eI))) 193).isSome=true:=rfl
 refine go_loopG 5000 (ι:={i:Nat // i≤R}) (fun i=>[(1,.bp 1 0 0),(4,I p),(5,.vg 47 v),(7,.og 193 ld.length),(8,I k),(9,I ld.length),(10,I i.1)]) (fun _=>memX (arg6 p R C cells right) v σ rows (some (.arr ld.length 1 true (ld.map eI)))) (fun i=>R-i.1) ⟨ld.length,hld⟩ ?_ ?_
 ·refine wkXs hm0 _ (fun j hj=>by rw[hrl];exact hσ j hj) ?_
  (simp (config:={ maxSteps:=1000000 }) only[TW,W,Option.isSome_some,List.not_mem_nil,memX_1,memX_47,memX_193,EE,QQ,seval])
 rintro⟨i,hi2⟩
 simp only[arg6]
 by_cases hi3:i<R
 case neg =>
  obtain rfl:R=i:=by omega
  have w1:IntKind.i64.wrap ((k:Int)+1)=((k+1:Nat):Int):=by rw[IntWalk.i64_in _ (by omega)];omega
  repeat' (first|simp (maxSteps:=9999999) only[↓GE,PQ,seval,w1,memX_1,memX_47,memX_193,cellX_len,hσl]|refine gS ?_|refine sp ?_ ?_ <;> intro h|(with_reducible apply And.intro)|exact aG|fail)
  all_goals try (exfalso;omega)
  refine⟨⟨(k+1,σ,rows,ld),hk1,hσl,hσ,hrl,hrow,hld,hldk⟩,?_,by simp only;omega⟩
  refine wkXs hm0 _ (fun j hj=>by rw[hrl];exact hσ j hj) ?_
  (simp (config:={ maxSteps:=1000000 }) only[TW,W,Option.isSome_some,List.not_mem_nil,memX_1,memX_47,memX_193,EE,QQ,seval])
 have hil:i<σ.length:=by omega
 have cg:=cellX_get (σ:=σ) (i:=i) hil
 have hsi:=hσi i hi3
 have hrn:σ.getD i 0<rows.length:=by omega
 have fa:∀ {arg:List V} {v:Nat} {σ':List Nat} {lo:Option O},memX arg v σ' rows lo (σ.getD i 0+800000)=some (.arr 1 1 true ((rows.getD (σ.getD i 0) []).map eI)):=memX_at hrn
 have hll:=hlen _ hsi
 have hs:=getD_map eI [] 0 (rows.getD (σ.getD i 0) []) k (by omega)
 have q5:k<(rows.getD (σ.getD i 0) []).length:=by omega
 have q6:decide ((i:Int)<(R:Int))=true:=decide_eq_true (by omega)
 have q7:((i:Int) == (R:Int))=false:=by simp;omega
 by_cases h0:(rows.getD (σ.getD i 0) []).getD k 0=0
 ·have q8:((rows.getD (σ.getD i 0) []).getD k 0 == 0)=true:=by simpa using h0
  have w1:IntKind.i64.wrap ((i:Int)+1)=((i+1:Nat):Int):=by rw[IntWalk.i64_in _ (by omega)];omega
  repeat' (first|simp (maxSteps:=9999999) only[↓GE,PQ,seval,q6,q7,q8,w1,memX_1,memX_47,memX_193,cellX_len,hσl,cg,fa,hs,q5,hi3,eI]|refine gS ?_|refine sp ?_ ?_ <;> intro h|(with_reducible apply And.intro)|exact aG|fail)
  refine⟨⟨i+1,hi3⟩,?_,by simp only;omega⟩
  refine wkXs hm0 _ (fun j hj=>by rw[hrl];exact hσ j hj) ?_
  (simp (config:={ maxSteps:=1000000 }) only[TW,W,Option.isSome_some,List.not_mem_nil,memX_1,memX_47,memX_193,EE,QQ,seval])
 have q8:((rows.getD (σ.getD i 0) []).getD k 0 == 0)=false:=by simpa using h0
 have hr3:ld.length<σ.length:=by omega
 have hk3:k<C+1:=by omega
 have cgr:=cellX_get (σ:=σ) hr3
 have hsr:=hσi _ hk2
 have cgs:=cellX_get (σ:=(σ.set i (σ.getD ld.length 0)).set ld.length (σ.getD i 0)) (i:=ld.length) (by simp only[List.length_set];omega)
 have hgs:((σ.set i (σ.getD ld.length 0)).set ld.length (σ.getD i 0)).getD ld.length 0=σ.getD i 0:=by simp [List.getD_eq_getElem?_getD,hr3]
 rw[hgs] at cgs
 repeat' (first|simp (maxSteps:=9999999) only[↓GE,PQ,seval,q6,q7,q8,memX_1,memX_47,memX_193,cellX_len,cellX_set,memX_vec,cgs,cgr,hk2,hσl,cg,fa,hs,q5,hi3,hk3,hll,eI,List.length_set]|refine gS ?_|refine sp ?_ ?_ <;> intro h|(exfalso;omega)|(refine gW (inv3 p ((rows.getD (σ.getD i 0) []).getD k 0) (by omega)) ?_;rintro _ ⟨x,rfl⟩ <;> refine⟨rfl,?_⟩)|(with_reducible apply And.intro)|exact aG|fail)
 have hσ2:∀ j ∈ (σ.set i (σ.getD ld.length 0)).set ld.length (σ.getD i 0),j<R:=fun j hj=>by
  rcases List.mem_or_eq_of_mem_set hj with hj|rfl
  ·rcases List.mem_or_eq_of_mem_set hj with hj|rfl
   ·exact hσ j hj
   ·exact hsr
  ·exact hsi
 have hσl2:((σ.set i (σ.getD ld.length 0)).set ld.length (σ.getD i 0)).length=R:=by simp only[List.length_set,hσl]
 generalize (σ.set i (σ.getD ld.length 0)).set ld.length (σ.getD i 0)=σ2 at *
 generalize σ.getD i 0=s0 at *
 clear cg cgr hs q5 q7 q8 h0 hil hi3 hi2 q6 hr3
 refine go_loopG 5000 (ι:={q:Nat × List (List Int) // q.1≤C+1∧q.2.length=R∧∀ x ∈ q.2,x.length=C+1}) (fun q=>[(1,.bp 1 0 0),(4,I p),(5,.vg 47 v),(7,.og 193 ld.length),(8,I k),(9,I ld.length),(11,I x),(112,I (C+1:Nat)),(113,I q.1.1)]) (fun q=>memX (arg6 p R C cells right) v σ2 q.1.2 (some (.arr ld.length 1 true (ld.map eI)))) (fun q=>C+1-q.1.1) ⟨(0,rows),Nat.zero_le _,hrl,hrow⟩ ?_ ?_
 ·refine wkXs hm0 _ (fun j hj=>by rw[hrl];exact hσ2 j hj) ?_
  (simp (config:={ maxSteps:=1000000 }) only[TW,W,Option.isSome_some,List.not_mem_nil,memX_1,memX_47,memX_193,EE,QQ,seval])
 clear fa hll hrn
 rintro⟨⟨c,rows⟩,hc,hrl,hrow⟩
 simp only at hc hrl hrow ⊢
 simp only[arg6]
 have hs0:s0<rows.length:=by omega
 have hll:(rows.getD s0 []).length=C+1:=hrow _ (mem_getD _ _ _ hs0)
 have fa:∀ {arg:List V} {v:Nat} {σ':List Nat} {lo:Option O},memX arg v σ' rows lo (s0+800000)=some (.arr 1 1 true ((rows.getD s0 []).map eI)):=memX_at hs0
 have fr:∀ {arg:List V} {v:Nat} {σ':List Nat} {lo:Option O} (x:List Int),up (memX arg v σ' rows lo) (s0+800000) (some (.arr 1 1 true (x.map eI)))=memX arg v σ' (rows.set s0 x) lo:=memX_row hs0
 by_cases hcc:c<C+1
 ·have hs:=getD_map eI [] 0 (rows.getD s0 []) c (by omega)
  have q5:c<(rows.getD s0 []).length:=by omega
  have q6:decide ((c:Int)<((C+1:Nat):Int))=true:=decide_eq_true (by omega)
  have w1:IntKind.i64.wrap ((c:Int)+1)=((c+1:Nat):Int):=by rw[IntWalk.i64_in _ (by omega)];omega
  have hp0:¬ p=0:=by omega
  repeat' (first|simp (maxSteps:=9999999) only[↓GE,PQ,seval,q6,w1,memX_1,memX_47,memX_193,cellX_len,cgs,hk2,hσl2,fa,fr,set_eI,hs,q5,hcc,hll,hp0,eI,List.length_set]|refine gS ?_|refine sp ?_ ?_ <;> intro h|(with_reducible apply And.intro)|exact aG|fail)
  refine⟨⟨(c+1,rows.set s0 ((rows.getD s0 []).set c ((IntKind.i64.wrap ((rows.getD s0 []).getD c 0*x)).tmod p))),hcc,by simp only[List.length_set,hrl],rows_set hrow (by rw[List.length_set,hll])⟩,wkXs hm0 _ (fun j hj=>by rw[List.length_set,hrl];exact hσ2 j hj) ?_,by simp only;omega⟩
  (simp (config:={ maxSteps:=1000000 }) only[TW,W,Option.isSome_some,List.not_mem_nil,memX_1,memX_47,memX_193,EE,QQ,seval])
 have q6:decide ((c:Int)<((C+1:Nat):Int))=false:=decide_eq_false (by omega)
 repeat' (first|simp (maxSteps:=9999999) only[↓GE,PQ,seval,q6,memX_1,memX_47,memX_193,cellX_len,hσl2]|refine gS ?_|refine sp ?_ ?_ <;> intro h|(with_reducible apply And.intro)|exact aG|fail)
 clear fa fr hll hs0 q6
 refine go_loopG 5000 (ι:={q:Nat × List (List Int) // q.1≤R∧q.2.length=R∧∀ x ∈ q.2,x.length=C+1}) (fun q=>[(1,.bp 1 0 0),(4,I p),(5,.vg 47 v),(7,.og 193 ld.length),(8,I k),(9,I ld.length),(135,I R),(136,I q.1.1)]) (fun q=>memX (arg6 p R C cells right) v σ2 q.1.2 (some (.arr ld.length 1 true (ld.map eI)))) (fun q=>R-q.1.1) ⟨(0,rows),Nat.zero_le _,hrl,hrow⟩ ?_ ?_
 ·refine wkXs hm0 _ (fun j hj=>by rw[hrl];exact hσ2 j hj) ?_
  (simp (config:={ maxSteps:=1000000 }) only[TW,W,Option.isSome_some,List.not_mem_nil,memX_1,memX_47,memX_193,EE,QQ,seval])
 clear hrow hrl
 rintro⟨⟨n,rows⟩,hn,hrl,hrow⟩
 simp only at hn hrl hrow ⊢
 simp only[arg6]
 have w1:IntKind.i64.wrap ((n:Int)+1)=((n+1:Nat):Int):=by rw[IntWalk.i64_in _ (by omega)];omega
 have w2:IntKind.i64.wrap ((k:Int)+1)=((k+1:Nat):Int):=by rw[IntWalk.i64_in _ (by omega)];omega
 by_cases hnr:n<R
 case neg =>
  have q6:decide ((n:Int)<(R:Int))=false:=decide_eq_false (by omega)
  repeat' (first|simp (maxSteps:=9999999) only[↓GE,PQ,seval,q6,w2,memX_1,memX_47,memX_193,memX_lo]|refine gS ?_|refine sp ?_ ?_ <;> intro h|(with_reducible apply And.intro)|exact aG|fail)
  refine⟨⟨(k+1,σ2,rows,ld++[(k:Int)]),hk1,hσl2,hσ2,hrl,hrow,by simp only[List.length_append,List.length_singleton];omega,fun x hx=>?_⟩,?_,by simp only;omega⟩
  ·rcases List.mem_append.1 hx with hx|hx
   ·exact hldk x hx
   ·simp only[List.mem_singleton] at hx;subst hx;omega
  ·simp only[List.length_append,List.length_singleton,List.map_append,List.map_cons,List.map_nil,eI]
   refine wkX [] (.inl rfl) hm0 _ rfl rfl (fun o ho=>⟨by cases ho;exact⟨_,_,rfl,fun h=>by cases h⟩,fun _=>by cases ho;rfl⟩) (fun h=>by cases h) (fun j hj=>by simp only[up_at];rw[if_neg (by omega),if_neg (by omega)];exact memX_at hj) (fun j hj=>by rw[hrl];exact hσ2 j hj) ?_
   (simp (config:={ maxSteps:=1000000 }) only[TW,W,Option.isSome_some,List.not_mem_nil,memX_1,memX_47,memX_193,EE,QQ,seval])
 have q6:decide ((n:Int)<(R:Int))=true:=decide_eq_true (by omega)
 have hs1:σ2.getD n 0<rows.length:=by have:=hσ2 _ (mem_getD 0 σ2 n (by omega));omega
 have cgn:=cellX_get (σ:=σ2) (i:=n) (by omega)
 generalize σ2.getD n 0=s1 at *
 have hl1:(rows.getD s1 []).length=C+1:=hrow _ (mem_getD _ _ _ hs1)
 have fa1:∀ {arg:List V} {v:Nat} {σ':List Nat} {lo:Option O},memX arg v σ' rows lo (s1+800000)=some (.arr 1 1 true ((rows.getD s1 []).map eI)):=memX_at hs1
 have hs:=getD_map eI [] 0 (rows.getD s1 []) k (by omega)
 repeat' (first|simp (maxSteps:=9999999) only[↓GE,PQ,seval,q6,w1,memX_1,memX_47,memX_193,cellX_len,cgs,cgn,hk2,hσl2,fa1,hs,hnr,hk3,hl1,eI,List.length_set]|refine gS ?_|refine sp ?_ ?_ <;> intro h|(with_reducible apply And.intro)|exact aG|fail)
 any_goals (refine⟨⟨(n+1,rows),hnr,hrl,hrow⟩,wkXs hm0 _ (fun j hj=>by rw[hrl];exact hσ2 j hj) ?_,by simp only;omega⟩;(simp (config:={ maxSteps:=1000000 }) only[TW,W,Option.isSome_some,List.not_mem_nil,memX_1,memX_47,memX_193,EE,QQ,seval]))
 clear hs
 generalize (rows.getD s1 []).getD k 0=y at *
 refine go_loopG 5000 (ι:={q:Nat × List (List Int) // q.1≤C+1∧q.2.length=R∧∀ x ∈ q.2,x.length=C+1}) (fun q=>[(1,.bp 1 0 0),(4,I p),(5,.vg 47 v),(7,.og 193 ld.length),(8,I k),(9,I ld.length),(13,I n),(14,I y),(135,I R),(136,I n),(157,I (C+1:Nat)),(158,I q.1.1)]) (fun q=>memX (arg6 p R C cells right) v σ2 q.1.2 (some (.arr ld.length 1 true (ld.map eI)))) (fun q=>C+1-q.1.1) ⟨(0,rows),Nat.zero_le _,hrl,hrow⟩ ?_ ?_
 ·refine wkXs hm0 _ (fun j hj=>by rw[hrl];exact hσ2 j hj) ?_
  (simp (config:={ maxSteps:=1000000 }) only[TW,W,Option.isSome_some,List.not_mem_nil,memX_1,memX_47,memX_193,EE,QQ,seval])
 have hsR:s1<R:=by omega
 clear fa1 hl1 hs1 hrow hrl
 rintro⟨⟨c,rows⟩,hc,hrl,hrow⟩
 simp only at hc hrl hrow ⊢
 simp only[arg6]
 have hs1:s1<rows.length:=by omega
 have hs0:s0<rows.length:=by omega
 have hl1:(rows.getD s1 []).length=C+1:=hrow _ (mem_getD _ _ _ hs1)
 have hl0:(rows.getD s0 []).length=C+1:=hrow _ (mem_getD _ _ _ hs0)
 have fa1:∀ {arg:List V} {v:Nat} {σ':List Nat} {lo:Option O},memX arg v σ' rows lo (s1+800000)=some (.arr 1 1 true ((rows.getD s1 []).map eI)):=memX_at hs1
 have fa0:∀ {arg:List V} {v:Nat} {σ':List Nat} {lo:Option O},memX arg v σ' rows lo (s0+800000)=some (.arr 1 1 true ((rows.getD s0 []).map eI)):=memX_at hs0
 have fr:∀ {arg:List V} {v:Nat} {σ':List Nat} {lo:Option O} (x:List Int),up (memX arg v σ' rows lo) (s1+800000) (some (.arr 1 1 true (x.map eI)))=memX arg v σ' (rows.set s1 x) lo:=memX_row hs1
 by_cases hcc:c<C+1
 case neg =>
  have q7:decide ((c:Int)<((C+1:Nat):Int))=false:=decide_eq_false (by omega)
  repeat' (first|simp (maxSteps:=9999999) only[↓GE,PQ,seval,q7,w1,memX_1,memX_47,memX_193,cellX_len,hσl2]|refine gS ?_|refine sp ?_ ?_ <;> intro h|(with_reducible apply And.intro)|exact aG|fail)
  refine⟨⟨(n+1,rows),hnr,hrl,hrow⟩,wkXs hm0 _ (fun j hj=>by rw[hrl];exact hσ2 j hj) ?_,by simp only;omega⟩
  (simp (config:={ maxSteps:=1000000 }) only[TW,W,Option.isSome_some,List.not_mem_nil,memX_1,memX_47,memX_193,EE,QQ,seval])
 have hsa:=getD_map eI [] 0 (rows.getD s1 []) c (by omega)
 have hsb:=getD_map eI [] 0 (rows.getD s0 []) c (by omega)
 have q7:decide ((c:Int)<((C+1:Nat):Int))=true:=decide_eq_true (by omega)
 have w3:IntKind.i64.wrap ((c:Int)+1)=((c+1:Nat):Int):=by rw[IntWalk.i64_in _ (by omega)];omega
 have hp0:¬ p=0:=by omega
 repeat' (first|simp (maxSteps:=9999999) only[↓GE,PQ,seval,q7,w3,memX_1,memX_47,memX_193,cellX_len,cgs,cgn,hk2,hσl2,fa1,fa0,fr,set_eI,hsa,hsb,hnr,hcc,hl1,hl0,hp0,eI,List.length_set]|refine gS ?_|refine sp ?_ ?_ <;> intro h|(with_reducible apply And.intro)|exact aG|fail)
 refine⟨⟨(c+1,rows.set s1 ((rows.getD s1 []).set c ((IntKind.i64.wrap ((rows.getD s1 []).getD c 0+IntKind.i64.wrap (IntKind.i64.wrap (p-y)*(rows.getD s0 []).getD c 0))).tmod p))),hcc,by simp only[List.length_set,hrl],rows_set hrow (by rw[List.length_set,hl1])⟩,wkXs hm0 _ (fun j hj=>by rw[List.length_set,hrl];exact hσ2 j hj) ?_,by simp only;omega⟩
 (simp (config:={ maxSteps:=1000000 }) only[TW,W,Option.isSome_some,List.not_mem_nil,memX_1,memX_47,memX_193,EE,QQ,seval])
end Go.Proofs.YticdbambknflgaaGreat.Sim
