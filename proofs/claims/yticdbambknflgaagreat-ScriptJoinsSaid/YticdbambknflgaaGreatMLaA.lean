/- What the three laws share: a list of steps that dice make is small; the sanity check. -/
import Derived.Test.YticdbambknflgaaGreatMScG
import Derived.Test.YticdbambknflgaaGreatMWoBj
import Derived.Test.YticdbambknflgaaGreatMWoAi
import Derived.Test.YticdbambknflgaaGreatMWoT
import Derived.Test.YticdbambknflgaaGreatMScP
import Derived.Test.YticdbambknflgaaGreatMSimEn
section
namespace Go.Proofs.YticdbambknflgaaGreat.Sc
open Go.Proofs.YticdbambknflgaaGreat.Sim
open Go Go.RowKit
set_option maxRecDepth 100000
set_option maxHeartbeats 8000000
set_option linter.unusedVariables false
set_option linter.unusedSimpArgs false
attribute [local irreducible] Go Mean
open Go.Proofs.YticdbambknflgaaGreat.Wire (putB putL putB_len getI getL getC rdL getI_put getL_put getI_ok getI_err rInt_any IntPost)
noncomputable def eqB {α:Type} (a b:α):Bool:=@decide (a=b) (Classical.propDecidable _)
theorem eqB_t {α:Type} {a b:α} (h:a=b):eqB a b=true:=by unfold eqB;exact @decide_eq_true _ (Classical.propDecidable _) h
theorem eqB_f {α:Type} {a b:α} (h:¬a=b):eqB a b=false:=by unfold eqB;exact @decide_eq_false _ (Classical.propDecidable _) h
theorem eqB_s {α:Type} (a:α):eqB a a=true:=eqB_t rfl
theorem equalI (a b:List Int) (ha:a.length≤17592186044416) (hb:b.length≤17592186044416):Does Tryz.prog 33 [.d (dInts a),.d (dInts b)] [] (B (eqB a b)) [] []:=by
 refine wD Tryz.func33 fun cx hm0=>?_
 by_cases hl:a.length=b.length
 case neg =>
  have hne:¬ a=b:=fun h=>hl (congrArg List.length h)
  have hr1:((a.length:Int) != b.length)=true:=by simp;omega
  repeat' (first|refine gA hr1 ?_|refine sp ?_ ?_ <;> intro h|(with_reducible apply And.intro)|exact aG|fail)
  all_goals exact rtF [] (eqB_f hne)
 repeat' (first|refine gA hl ?_|refine sp ?_ ?_ <;> intro h|(with_reducible apply And.intro)|exact aG|fail)
 refine gl (κ:=Nat) hm0 (fun q_=>q_≤a.length∧a.take q_=b.take q_) (fun q_=>[(0,.d (dInts a)),(1,.d (dInts b)),(12,I b.length),(13,I q_)]) (fun q_=>[]) (fun q_=>a.length-q_) [] [] (0) ?_
 rintro k hI
 try simp only at hI ⊢
 try have hI2:=hI.2
 by_cases hk:k<a.length
 ·have hs0:=getD_map eI [] 0 a k hk
  have hs1:=getD_map eI [] 0 b k (by omega)
  have ht:=take_succ_getD 0 a k hk
  have ht2:=take_succ_getD 0 b k (by omega)
  have hkb:k<b.length:=by omega
  by_cases hx:a.getD k 0=b.getD k 0
  ·rw[hx] at hs0 ht
   repeat' (first|simp (maxSteps:=9999999) only[↓GE,PQ,seval,hs0,hs1,hk,hkb,eI]|refine gS ?_|refine sp ?_ ?_ <;> intro h|(with_reducible apply And.intro)|exact aG|fail)
   all_goals try (exfalso;omega)
   refine⟨[],[],⟨k+1,hk,by rw[ht,ht2,hI.2]⟩,?_,aI⟩
   exact aX
  ·have hne:¬ a=b:=fun h=>hx (by rw[h])
   have hr1:(a.getD k 0 != b.getD k 0)=true:=by simpa using hx
   generalize a.getD k 0=x at *
   generalize b.getD k 0=y at *
   repeat' (first|simp (maxSteps:=9999999) only[↓GE,PQ,seval,hr1,hs0,hs1,hk,hkb,eI]|refine gS ?_|refine sp ?_ ?_ <;> intro h|(with_reducible apply And.intro)|exact aG|fail)
   all_goals first|(exfalso;omega)|exact rtF [] (eqB_f hne)
 ·have he:=hI.2
  rw[List.take_of_length_le (by omega),List.take_of_length_le (by omega)] at he
  repeat' (first|refine gS ?_|refine sp ?_ ?_ <;> intro h|(with_reducible apply And.intro)|exact aG|fail)
  all_goals try (exfalso;omega)
  subst he
  exact rtF [] @eqB_s
def okL (s:PSe):Prop:=s.row.length≤17592186044416
theorem same11 (x y:PSe) (hx:okL x) (hy:okL y):Does Tryz.prog 35 [.ag [I x.idx,.d (dInts x.row)],.ag [I y.idx,.d (dInts y.row)]] [] (B (eqB x y)) [] []:=by
 have e1:=equalI x.row y.row hx hy
 refine wD Tryz.func35 fun cx hm0=>?_
 obtain⟨i,r⟩:=x
 obtain⟨j,t⟩:=y
 simp only at e1
 by_cases hi:i=j
 ·subst hi
  by_cases hr:r=t
  ·rw[eqB_t hr] at e1
   subst hr
   repeat' (first|refine gS ?_|refine sp ?_ ?_ <;> intro h|refine gP e1 ?_|(with_reducible apply And.intro)|exact aG|fail)
   all_goals exact rtF [] @eqB_s
  ·rw[eqB_f hr] at e1
   have he:¬(⟨i,r⟩:PSe)=⟨i,t⟩:=fun h=>hr (by injection h)
   repeat' (first|refine gS ?_|refine sp ?_ ?_ <;> intro h|refine gP e1 ?_|(with_reducible apply And.intro)|exact aG|fail)
   all_goals exact rtF [] (eqB_f he)
 ·have q:(i == j)=false:=by simpa using hi
  have he:¬(⟨i,r⟩:PSe)=⟨j,t⟩:=fun h=>hi (by injection h)
  repeat' (first|refine gA q ?_|refine sp ?_ ?_ <;> intro h|(with_reducible apply And.intro)|exact aG|fail)
  all_goals exact rtF [] (eqB_f he)
theorem equalS (a b:List PSe) (ha:a.length≤1000000) (hb:b.length≤1000000) (ha2:∀ x ∈ a,okL x) (hb2:∀ x ∈ b,okL x):Does Tryz.prog 34 [.d (dSets a),.d (dSets b),.cl 35 []] [] (B (eqB a b)) [] []:=by
 refine wD Tryz.func34 fun cx hm0=>?_
 by_cases hl:a.length=b.length
 case neg =>
  have hne:¬ a=b:=fun h=>hl (congrArg List.length h)
  have hr1:((a.length:Int) != b.length)=true:=by simp;omega
  repeat' (first|refine gA hr1 ?_|refine sp ?_ ?_ <;> intro h|(with_reducible apply And.intro)|exact aG|fail)
  all_goals exact rtF [] (eqB_f hne)
 repeat' (first|refine gA hl ?_|refine sp ?_ ?_ <;> intro h|(with_reducible apply And.intro)|exact aG|fail)
 refine gl (κ:=Nat) hm0 (fun q_=>q_≤a.length∧a.take q_=b.take q_) (fun q_=>[(0,.d (dSets a)),(1,.d (dSets b)),(2,.cl 35 []),(15,.d (dSets a)),(16,I b.length),(17,I q_)]) (fun q_=>[]) (fun q_=>a.length-q_) [] [] (0) ?_
 rintro k hI
 try simp only at hI ⊢
 try have hI2:=hI.2
 by_cases hk:k<a.length
 ·have hs0:=getD_map eSe [] noSe a k hk
  have hs1:=getD_map eSe [] noSe b k (by omega)
  have ht:=take_succ_getD noSe a k hk
  have ht2:=take_succ_getD noSe b k (by omega)
  have hkb:k<b.length:=by omega
  have e1:=same11 (a.getD k noSe) (b.getD k noSe) (ha2 _ (mem_getD _ _ _ hk)) (hb2 _ (mem_getD _ _ _ hkb))
  by_cases hx:a.getD k noSe=b.getD k noSe
  ·rw[eqB_t hx] at e1
   rw[hx] at hs0 ht e1
   generalize b.getD k noSe=y at *
   repeat' (first|simp (maxSteps:=9999999) only[↓GE,PQ,seval,hs0,hs1,hk,hkb,eSe]|refine gS ?_|refine sp ?_ ?_ <;> intro h|(apply go_callv 5000 (e1) rfl (by kernel_rfl) rfl;iterate 4 (first|(exact CallForm.plain rfl)|exact aC))|(with_reducible apply And.intro)|exact aG|fail)
   all_goals try (exfalso;omega)
   refine⟨[],[],⟨k+1,hk,by rw[ht,ht2,hI.2]⟩,?_,aI⟩
   exact aX
  ·have hne:¬ a=b:=fun h=>hx (by rw[h])
   rw[eqB_f hx] at e1
   generalize a.getD k noSe=x at *
   generalize b.getD k noSe=y at *
   repeat' (first|simp (maxSteps:=9999999) only[↓GE,PQ,seval,hs0,hs1,hk,hkb,eSe]|refine gS ?_|refine sp ?_ ?_ <;> intro h|(apply go_callv 5000 (e1) rfl (by kernel_rfl) rfl;iterate 4 (first|(exact CallForm.plain rfl)|exact aC))|(with_reducible apply And.intro)|exact aG|fail)
   all_goals first|(exfalso;omega)|exact rtF [] (eqB_f hne)
 ·have he:=hI.2
  rw[List.take_of_length_le (by omega),List.take_of_length_le (by omega)] at he
  repeat' (first|refine gS ?_|refine sp ?_ ?_ <;> intro h|(with_reducible apply And.intro)|exact aG|fail)
  all_goals try (exfalso;omega)
  subst he
  exact rtF [] @eqB_s
theorem same1 (x y:PSt) (hx1:x.rows.length≤1000000) (hy1:y.rows.length≤1000000) (hx2:x.sets.length≤1000000) (hy2:y.sets.length≤1000000) (hx3:∀ s ∈ x.sets,okL s) (hy3:∀ s ∈ y.sets,okL s):Does Tryz.prog 32 [vSt x,vSt y] [] (B (eqB x y)) [] []:=by
 have e1:=equalI x.rows y.rows (by omega) (by omega)
 have e2:=equalS x.sets y.sets hx2 hy2 hx3 hy3
 clear hx1 hy1 hx2 hy2 hx3 hy3
 refine wD Tryz.func32 fun cx hm0=>?_
 obtain⟨k,m,r,f,t,c,s⟩:=x
 obtain⟨k',m',r',f',t',c',s'⟩:=y
 simp only at e1 e2
 by_cases h0:k=k'
 case neg =>
  have hne:¬ (⟨k,m,r,f,t,c,s⟩:PSt)=⟨k',m',r',f',t',c',s'⟩:=fun h=>h0 (congrArg PSt.kind h)
  have q:(k == k')=false:=by simpa using h0
  repeat' (first|refine gA q ?_|refine sp ?_ ?_ <;> intro h|(with_reducible apply And.intro)|exact aG|fail)
  all_goals exact rtF [] (eqB_f hne)
 subst h0
 by_cases h1:m=m'
 case neg =>
  have hne:¬ (⟨k,m,r,f,t,c,s⟩:PSt)=⟨k,m',r',f',t',c',s'⟩:=fun h=>h1 (congrArg PSt.num h)
  have q:(m == m')=false:=by simpa using h1
  repeat' (first|refine gA q ?_|refine sp ?_ ?_ <;> intro h|(with_reducible apply And.intro)|exact aG|fail)
  all_goals exact rtF [] (eqB_f hne)
 subst h1
 by_cases h2:r=r'
 case neg =>
  have hne:¬ (⟨k,m,r,f,t,c,s⟩:PSt)=⟨k,m,r',f',t',c',s'⟩:=fun h=>h2 (congrArg PSt.rows h)
  rw[eqB_f h2] at e1
  repeat' (first|refine gS ?_|refine sp ?_ ?_ <;> intro h|refine gP e1 ?_|(with_reducible apply And.intro)|exact aG|fail)
  all_goals exact rtF [] (eqB_f hne)
 subst h2
 rw[eqB_s] at e1
 by_cases h3:f=f'
 case neg =>
  have hne:¬ (⟨k,m,r,f,t,c,s⟩:PSt)=⟨k,m,r,f',t',c',s'⟩:=fun h=>h3 (congrArg PSt.fr h)
  have q:(f == f')=false:=by simpa using h3
  repeat' (first|refine gA q ?_|refine sp ?_ ?_ <;> intro h|refine gP e1 ?_|(with_reducible apply And.intro)|exact aG|fail)
  all_goals exact rtF [] (eqB_f hne)
 subst h3
 by_cases h4:t=t'
 case neg =>
  have hne:¬ (⟨k,m,r,f,t,c,s⟩:PSt)=⟨k,m,r,f,t',c',s'⟩:=fun h=>h4 (congrArg PSt.tt h)
  have q:(t == t')=false:=by simpa using h4
  repeat' (first|refine gA q ?_|refine sp ?_ ?_ <;> intro h|refine gP e1 ?_|(with_reducible apply And.intro)|exact aG|fail)
  all_goals exact rtF [] (eqB_f hne)
 subst h4
 by_cases h5:c=c'
 case neg =>
  have hne:¬ (⟨k,m,r,f,t,c,s⟩:PSt)=⟨k,m,r,f,t,c',s'⟩:=fun h=>h5 (congrArg PSt.cnt h)
  have q:(c == c')=false:=by simpa using h5
  repeat' (first|refine gA q ?_|refine sp ?_ ?_ <;> intro h|refine gP e1 ?_|(with_reducible apply And.intro)|exact aG|fail)
  all_goals exact rtF [] (eqB_f hne)
 subst h5
 by_cases h6:s=s'
 case neg =>
  have hne:¬ (⟨k,m,r,f,t,c,s⟩:PSt)=⟨k,m,r,f,t,c,s'⟩:=fun h=>h6 (congrArg PSt.sets h)
  rw[eqB_f h6] at e2
  repeat' (first|refine gS ?_|refine sp ?_ ?_ <;> intro h|refine gP e1 ?_|refine gP e2 ?_|(with_reducible apply And.intro)|exact aG|fail)
  all_goals exact rtF [] (eqB_f hne)
 subst h6
 rw[eqB_s] at e2
 repeat' (first|refine gS ?_|refine sp ?_ ?_ <;> intro h|refine gP e1 ?_|refine gP e2 ?_|(with_reducible apply And.intro)|exact aG|fail)
 all_goals exact rtF [] @eqB_s
structure okQ (x:PSt):Prop where
 r:x.rows.length≤1000000
 s:x.sets.length≤1000000
 l:∀ s ∈ x.sets,okL s
theorem same1q (x y:PSt) (hx:okQ x) (hy:okQ y):Does Tryz.prog 32 [vSt x,vSt y] [] (B (eqB x y)) [] []:=same1 x y hx.r hy.r hx.s hy.s hx.l hy.l
theorem equalT (a b:List PSt) (ha:a.length≤1000000) (hb:b.length≤1000000) (ha2:∀ x ∈ a,okQ x) (hb2:∀ x ∈ b,okQ x):Does Tryz.prog 31 [.d (dSts a),.d (dSts b),.cl 32 []] [] (B (eqB a b)) [] []:=by
 refine wD Tryz.func31 fun cx hm0=>?_
 by_cases hl:a.length=b.length
 case neg =>
  have hne:¬ a=b:=fun h=>hl (congrArg List.length h)
  have hr1:((a.length:Int) != b.length)=true:=by simp;omega
  repeat' (first|refine gA hr1 ?_|refine sp ?_ ?_ <;> intro h|(with_reducible apply And.intro)|exact aG|fail)
  all_goals exact rtF [] (eqB_f hne)
 repeat' (first|refine gA hl ?_|refine sp ?_ ?_ <;> intro h|(with_reducible apply And.intro)|exact aG|fail)
 refine gl (κ:=Nat) hm0 (fun q_=>q_≤a.length∧a.take q_=b.take q_) (fun q_=>[(0,.d (dSts a)),(1,.d (dSts b)),(2,.cl 32 []),(15,.d (dSts a)),(16,I b.length),(17,I q_)]) (fun q_=>[]) (fun q_=>a.length-q_) [] [] (0) ?_
 rintro k hI
 try simp only at hI ⊢
 try have hI2:=hI.2
 by_cases hk:k<a.length
 ·have hs0:=getD_map eSt [] noSt a k hk
  have hs1:=getD_map eSt [] noSt b k (by omega)
  have ht:=take_succ_getD noSt a k hk
  have ht2:=take_succ_getD noSt b k (by omega)
  have hkb:k<b.length:=by omega
  have e1:=same1q (a.getD k noSt) (b.getD k noSt) (ha2 _ (mem_getD _ _ _ hk)) (hb2 _ (mem_getD _ _ _ hkb))
  by_cases hx:a.getD k noSt=b.getD k noSt
  ·rw[eqB_t hx] at e1
   rw[hx] at hs0 ht e1
   generalize b.getD k noSt=y at *
   repeat' (first|simp (maxSteps:=9999999) only[↓GE,PQ,seval,hs0,hs1,hk,hkb,eSt]|refine gS ?_|refine sp ?_ ?_ <;> intro h|(apply go_callv 5000 (e1) rfl (by kernel_rfl) rfl;iterate 4 (first|(exact CallForm.plain rfl)|exact aC))|(with_reducible apply And.intro)|exact aG|fail)
   all_goals try (exfalso;omega)
   refine⟨[],[],⟨k+1,hk,by rw[ht,ht2,hI.2]⟩,?_,aI⟩
   exact aX
  ·have hne:¬ a=b:=fun h=>hx (by rw[h])
   rw[eqB_f hx] at e1
   generalize a.getD k noSt=x at *
   generalize b.getD k noSt=y at *
   repeat' (first|simp (maxSteps:=9999999) only[↓GE,PQ,seval,hs0,hs1,hk,hkb,eSt]|refine gS ?_|refine sp ?_ ?_ <;> intro h|(apply go_callv 5000 (e1) rfl (by kernel_rfl) rfl;iterate 4 (first|(exact CallForm.plain rfl)|exact aC))|(with_reducible apply And.intro)|exact aG|fail)
   all_goals first|(exfalso;omega)|exact rtF [] (eqB_f hne)
 ·have he:=hI.2
  rw[List.take_of_length_le (by omega),List.take_of_length_le (by omega)] at he
  repeat' (first|refine gS ?_|refine sp ?_ ?_ <;> intro h|(with_reducible apply And.intro)|exact aG|fail)
  all_goals try (exfalso;omega)
  subst he
  exact rtF [] @eqB_s
theorem sameD (a b:List PSt) (ha:a.length≤1000000) (hb:b.length≤1000000) (ha2:∀ x ∈ a,okQ x) (hb2:∀ x ∈ b,okQ x):Does Tryz.prog 14 [.d (dSts a),.d (dSts b)] [] (B (eqB a b)) [] []:=by
 have e1:=equalT a b ha hb ha2 hb2
 refine wD Tryz.func14 fun cx hm0=>?_
 repeat' (first|refine gS ?_|refine sp ?_ ?_ <;> intro h|refine gP e1 ?_|(with_reducible apply And.intro)|exact aG|fail)
 all_goals exact rt []
end Go.Proofs.YticdbambknflgaaGreat.Sc
end
section
namespace Go.Proofs.YticdbambknflgaaGreat.Sim
open Go
set_option maxRecDepth 100000
set_option maxHeartbeats 4000000
set_option linter.unusedVariables false
set_option linter.unusedSimpArgs false
attribute [local irreducible] Go Mean
theorem dworld (l:List UInt8) (hl:l.length≤140737488355328) (k:Nat):DoesE Tryz.prog 24 [dcp,I 1] (dc l k) (fun r bx=>∃ w k',r=vWorld w∧bx=dc l k'∧WOK w 0):=by
 obtain⟨s,k1,hs,e1⟩:=dscheme l hl k
 have e2:=dfield l hl k1
 obtain⟨hp1,hp2,hp3⟩:=fldV_ok l k1
 have e3:=dtable l hl (pickK l k1) (fldV l k1) (by omega)
 have ht:=tabG_ok l (fldV l k1) (pickK l k1) hp1 hp2 hp3
 generalize tabG l (fldV l k1) (pickK l k1)=tg at *
 obtain⟨t,k2⟩:=tg
 simp only at e3 ht
 have hs3:=hs.1
 have hs6:=hs.2.1
 have htp:=ht.p2
 have htp3:=ht.p3
 have e4:=people
 obtain⟨S,hS⟩:∃ S:Nat,s.sv=S:=⟨s.sv.toNat,by omega⟩
 refine wE Tryz.func24 fun cx hm0=>?_
 repeat' (first|refine gS ?_|refine sp ?_ ?_ <;> intro h|refine gL e1 ?_|refine gL e2 ?_|refine gL e3 ?_|(with_reducible apply And.intro)|exact aG|fail)
 refine gl (κ:=Nat × Nat × Nat × Nat × (List Int)) hm0 (fun q_=>(q_.1≤S∧q_.2.2.2.2.length=q_.1∧q_.2.2.2.1≤1)∧∀ x ∈ q_.2.2.2.2,0≤x∧x<t.p) (fun q_=>[(0,.bp 900000 0 0),(1,I q_.2.2.2.1),(4,.bp 4 0 0),(5,.bp 5 0 0),(6,.bp 6 0 0),(7,.og 43 q_.2.1),(8,I q_.1)]) (fun q_=>[(4,.box 0 [I 0,I 0,I 0,I 0,.nl 2,.nl 4,.nl 8,.nl 8,.nl 15,I 0,I 0,.nl 5,.nl 2,.nl 1,.nl 1,.nl 4]),(5,.box 0 [I s.kind,I s.sv,I s.deg,I s.grp]),(6,.box 0 [I t.num,I t.p,I t.width,.d (dRows t.rows)]),(43,.arr q_.2.1 1 true (q_.2.2.2.2.map eI)),(900000,.box 0 [.d (dBytes l),I q_.2.2.1])]) (fun q_=>S-q_.1) [] [43] (0,0,k2,1,[]) ?_
 rintro⟨j,v,kk,m,li⟩ hI
 try simp only at hI ⊢
 try have hI2:=hI.2
 by_cases hj:j<S
 case neg =>
  obtain rfl:S=j:=by omega
  have e5:=pick l hl kk 250 (by omega)
  have a5:=pickV_in l kk 250 (by omega)
  generalize pickV l kk 250=x at *
  have hn:=new40 s t (1+x) li hs ht (by omega) (by omega) (by omega) hI2
  repeat' (first|refine gS ?_|refine sp ?_ ?_ <;> intro h|refine gP e4 ?_|refine gL e5 ?_|(with_reducible apply And.intro)|exact aG|fail)
  all_goals try (exfalso;omega)
  (refine gW hn ?_;rintro _ ⟨w,e,rfl,hw⟩ <;> refine⟨rfl,?_⟩)
  repeat' (first|refine gS ?_|refine sp ?_ ?_ <;> intro h|(with_reducible apply And.intro)|exact aG|fail)
  refine dE ?_
  exact⟨w,_,rfl,rfl,hw⟩
 have hm:m=0∨m=1:=by omega
 rcases hm with rfl|rfl
 ·repeat' (first|refine gS ?_|refine sp ?_ ?_ <;> intro h|(with_reducible apply And.intro)|exact aG|fail)
  all_goals try (exfalso;omega)
  refine⟨[],[],⟨(j+1,v+1,kk,0,li++[0]),⟨⟨by simp only;omega,by simp only[List.length_append,List.length_singleton];omega,by simp only;omega⟩,allA hI.2 ⟨by omega,by omega⟩⟩⟩,?_,aI⟩
  exact aX
 have e5:=pick l hl kk 3 (by omega)
 have e6:=pick l hl (pickK l kk) (t.p-1) (by omega)
 have a6:=pickV_in l (pickK l kk) (t.p-1) (by omega)
 generalize pickV l (pickK l kk) (t.p-1)=y at *
 have w1:IntKind.i64.wrap (t.p-1)=t.p-1:=IntWalk.i64_in _ (by omega)
 by_cases h3:pickV l kk 3=0
 ·rw[h3] at e5
  repeat' (first|refine gA w1 ?_|refine sp ?_ ?_ <;> intro h|refine gL e5 ?_|refine gL e6 ?_|(with_reducible apply And.intro)|exact aG|fail)
  all_goals try (exfalso;omega)
  refine⟨[],[],⟨(j+1,v+1,pickK l (pickK l kk),0,li++[1+y]),⟨⟨by simp only;omega,by simp only[List.length_append,List.length_singleton];omega,by simp only;omega⟩,allA hI.2 ⟨by omega,by omega⟩⟩⟩,?_,aI⟩
  exact aX
 ·generalize pickV l kk 3=z at *
  have hz:(z == 0)=false:=by simpa using h3
  repeat' (first|refine gA hz ?_|refine sp ?_ ?_ <;> intro h|refine gL e5 ?_|(with_reducible apply And.intro)|exact aG|fail)
  all_goals try (exfalso;omega)
  refine⟨[],[],⟨(j+1,v+1,pickK l kk,1,li++[0]),⟨⟨by simp only;omega,by simp only[List.length_append,List.length_singleton];omega,by simp only;omega⟩,allA hI.2 ⟨by omega,by omega⟩⟩⟩,?_,aI⟩
  exact aX
end Go.Proofs.YticdbambknflgaaGreat.Sim
end
section
namespace Go.Proofs.YticdbambknflgaaGreat.Sim
open Go
set_option maxRecDepth 100000
set_option maxHeartbeats 4000000
set_option linter.unusedVariables false
set_option linter.unusedSimpArgs false
attribute [local irreducible] Go Mean
structure SmSt (x:PStep):Prop where
 k:0≤x.kind∧x.kind≤1000
 n:0≤x.num∧x.num≤1000000
 r:x.rows.length≤16
 rr:∀ y ∈ x.rows,-1≤y∧y≤1000000
 f:0≤x.chg.fr∧x.chg.fr≤2147483647
 t:0≤x.chg.tt∧x.chg.tt≤2147483647
 c:0≤x.chg.count∧x.chg.count≤2147483647
 s:x.chg.sets.length≤1024
 ss:∀ s ∈ x.chg.sets,0≤s.idx∧s.idx≤2147483647∧s.row.length≤64∧∀ y ∈ s.row,0≤y∧y≤1000000
theorem SmSt.num {kd nm:Int} (h1:0≤kd) (h2:kd≤1000) (h3:0≤nm) (h4:nm≤1000000):SmSt ⟨kd,nm,[],noChg⟩:=⟨⟨h1,h2⟩,⟨h3,h4⟩,by simp,by simp,by simp [noChg],by simp [noChg],by simp [noChg],by simp [noChg],by simp [noChg]⟩
theorem chg_sm (l:List UInt8) (k:Nat) {t:PTab} {n:Nat} (h:TabOK t n) (hn:n≤50):SmSt ⟨8,0,[],(chgG l t k).1⟩:=by
 have hok:=laterG_ok l k h
 obtain⟨a1,a2,a3⟩:=laterG_num l k t
 obtain⟨b1,b2⟩:=between_leads (h.check (by omega)) (hok.check (by omega)) a2.symm a3.symm a1
 have hc:(chgG l t k).1=(betweenF t (laterG l t k).1).1:=rfl
 rw[hc,b1]
 obtain⟨f1,f2,f3,f4,f5,f6⟩:=formF_ok b2.form
 have hw:=h.w2
 have hp:=h.p3
 have hfl:=formF_len2 b2.form
 refine⟨by simp,by simp,by simp,by simp,⟨by simp only;simp only at f1;omega,by simp only;simp only at f2 f3;omega⟩,⟨by simp only;simp only at f1 f2;omega,by simp only;simp only at f3;omega⟩,⟨f4,by simp only;simp only at f5;omega⟩,hfl,fun s hs=>?_⟩
 obtain⟨g1,g2⟩:=formGo_in f6 s hs
 obtain⟨g3,g4⟩:=b2.rows s hs
 simp only at g2 f5
 refine⟨by omega,by omega,by omega,fun y hy=>?_⟩
 have:=List.all_eq_true.1 g4 y hy
 simp only[inE,Bool.and_eq_true,decide_eq_true_eq] at this
 omega
theorem dstep (l:List UInt8) (hl:l.length≤140737488355328) (k:Nat) (w:PWorld) (n:Nat) (hw:WOK w n) (hn:n≤9):DoesE Tryz.prog 43 [dcp,vWorld w] (dc l k) (fun r bx=>∃ x k',r=vStep x∧bx=dc l k'∧SmSt x∧(x.kind=8→ChgOK w n x.chg)):=by
 have e0:=pick l hl k 11 (by omega)
 have a0:=pickV_in l k 11 (by omega)
 generalize pickV l k 11=v0 at *
 generalize pickK l k=k1 at *
 have hpub:=hw.pub
 have e1:=r37newest w.tabs (hpub.ok (by omega))
 rw[newest_ok hpub] at e1
 have ht:=hpub.last
 have hcg:ChgOK w n (chgG l (lastT w.tabs) k1).1:=by
  obtain⟨b1,b2,b3⟩:=pub_step l hpub (by omega) k1
  refine⟨by omega,b3,?_⟩
  rw[b1]
  exact hpub.next (by omega) l k1
 generalize lastT w.tabs=t at *
 have ht1:=ht.len
 have hfl:=hw.fl
 have hns:=hw.nsrv
 have hnr:=hw.nr
 refine wE Tryz.func43 fun cx hm0=>?_
 have hv:v0=0∨v0=1∨v0=2∨v0=3∨v0=4∨v0=5∨v0=6∨v0=7∨v0=8∨v0=9∨v0=10:=by omega
 rcases hv with rfl|rfl|rfl|rfl|rfl|rfl|rfl|rfl|rfl|rfl|rfl
 ·obtain⟨r,k2,hr1,hr2,hr3,e2⟩:=dwish l hl k1 t.rows.length (by omega) (by omega)
  repeat' (first|refine gS ?_|refine sp ?_ ?_ <;> intro h|refine gL e0 ?_|refine gP e1 ?_|refine gL e2 ?_|(with_reducible apply And.intro)|exact aG|fail)
  refine dE ?_
  exact⟨⟨1,0,r,noChg⟩,k2,rfl,rfl,⟨by simp,by simp,by simp only;omega,fun y hy=>by have:=hr3 y hy;omega,by simp [noChg],by simp [noChg],by simp [noChg],by simp [noChg],by simp [noChg]⟩,by simp⟩
 ·have e2:=pick l hl k1 ((w.flight.length:Int)+1) (by omega)
  have a2:=pickV_in l k1 ((w.flight.length:Int)+1) (by omega)
  generalize pickV l k1 ((w.flight.length:Int)+1)=y at *
  generalize pickK l k1=k2 at *
  repeat' (first|refine gS ?_|refine sp ?_ ?_ <;> intro h|refine gL e0 ?_|refine gP e1 ?_|refine gL e2 ?_|(with_reducible apply And.intro)|exact aG|fail)
  refine dE ?_
  exact⟨⟨2,y,[],noChg⟩,k2,rfl,rfl,.num (by omega) (by omega) (by omega) (by omega),by simp⟩
 ·have e2:=pick l hl k1 ((w.flight.length:Int)+1) (by omega)
  have a2:=pickV_in l k1 ((w.flight.length:Int)+1) (by omega)
  generalize pickV l k1 ((w.flight.length:Int)+1)=y at *
  generalize pickK l k1=k2 at *
  repeat' (first|refine gS ?_|refine sp ?_ ?_ <;> intro h|refine gL e0 ?_|refine gP e1 ?_|refine gL e2 ?_|(with_reducible apply And.intro)|exact aG|fail)
  refine dE ?_
  exact⟨⟨3,y,[],noChg⟩,k2,rfl,rfl,.num (by omega) (by omega) (by omega) (by omega),by simp⟩
 ·have e2:=pick l hl k1 ((w.flight.length:Int)+1) (by omega)
  have a2:=pickV_in l k1 ((w.flight.length:Int)+1) (by omega)
  generalize pickV l k1 ((w.flight.length:Int)+1)=y at *
  generalize pickK l k1=k2 at *
  have e3:=pick l hl k2 2 (by omega)
  generalize pickK l k2=k3 at *
  by_cases h2:pickV l k2 2=0
  ·rw[h2] at e3
   repeat' (first|refine gS ?_|refine sp ?_ ?_ <;> intro h|refine gL e0 ?_|refine gP e1 ?_|refine gL e2 ?_|refine gL e3 ?_|(with_reducible apply And.intro)|exact aG|fail)
   refine dE ?_
   exact⟨⟨2,y,[],noChg⟩,k3,rfl,rfl,.num (by omega) (by omega) (by omega) (by omega),by simp⟩
  ·generalize pickV l k2 2=z at *
   have hz:(z == 0)=false:=by simpa using h2
   repeat' (first|refine gA hz ?_|refine sp ?_ ?_ <;> intro h|refine gL e0 ?_|refine gP e1 ?_|refine gL e2 ?_|refine gL e3 ?_|(with_reducible apply And.intro)|exact aG|fail)
   refine dE ?_
   exact⟨⟨4,y,[],noChg⟩,k3,rfl,rfl,.num (by omega) (by omega) (by omega) (by omega),by simp⟩
 ·have e2:=pick l hl k1 ((w.srv.length:Int)+1) (by omega)
  have a2:=pickV_in l k1 ((w.srv.length:Int)+1) (by omega)
  generalize pickV l k1 ((w.srv.length:Int)+1)=y at *
  generalize pickK l k1=k2 at *
  repeat' (first|refine gS ?_|refine sp ?_ ?_ <;> intro h|refine gL e0 ?_|refine gP e1 ?_|refine gL e2 ?_|(with_reducible apply And.intro)|exact aG|fail)
  refine dE ?_
  exact⟨⟨5,1+y,[],noChg⟩,k2,rfl,rfl,.num (by omega) (by omega) (by omega) (by omega),by simp⟩
 ·have e2:=pick l hl k1 ((w.srv.length:Int)+1) (by omega)
  have a2:=pickV_in l k1 ((w.srv.length:Int)+1) (by omega)
  generalize pickV l k1 ((w.srv.length:Int)+1)=y at *
  generalize pickK l k1=k2 at *
  have e3:=pick l hl k2 2 (by omega)
  generalize pickK l k2=k3 at *
  by_cases h2:pickV l k2 2=0
  ·rw[h2] at e3
   repeat' (first|refine gS ?_|refine sp ?_ ?_ <;> intro h|refine gL e0 ?_|refine gP e1 ?_|refine gL e2 ?_|refine gL e3 ?_|(with_reducible apply And.intro)|exact aG|fail)
   refine dE ?_
   exact⟨⟨5,1+y,[],noChg⟩,k3,rfl,rfl,.num (by omega) (by omega) (by omega) (by omega),by simp⟩
  ·generalize pickV l k2 2=z at *
   have hz:(z == 0)=false:=by simpa using h2
   repeat' (first|refine gA hz ?_|refine sp ?_ ?_ <;> intro h|refine gL e0 ?_|refine gP e1 ?_|refine gL e2 ?_|refine gL e3 ?_|(with_reducible apply And.intro)|exact aG|fail)
   refine dE ?_
   exact⟨⟨6,1+y,[],noChg⟩,k3,rfl,rfl,.num (by omega) (by omega) (by omega) (by omega),by simp⟩
 ·have e2:=pick l hl k1 ((w.srv.length:Int)+1) (by omega)
  have a2:=pickV_in l k1 ((w.srv.length:Int)+1) (by omega)
  generalize pickV l k1 ((w.srv.length:Int)+1)=y at *
  generalize pickK l k1=k2 at *
  repeat' (first|refine gS ?_|refine sp ?_ ?_ <;> intro h|refine gL e0 ?_|refine gP e1 ?_|refine gL e2 ?_|(with_reducible apply And.intro)|exact aG|fail)
  refine dE ?_
  exact⟨⟨7,1+y,[],noChg⟩,k2,rfl,rfl,.num (by omega) (by omega) (by omega) (by omega),by simp⟩
 ·have e2:=dchange l hl k1 t ht (by omega)
  have hsm:=chg_sm l k1 ht (by omega)
  generalize chgG l t k1=cg at *
  obtain⟨c,k2⟩:=cg
  simp only at e2 hcg hsm
  repeat' (first|refine gS ?_|refine sp ?_ ?_ <;> intro h|refine gL e0 ?_|refine gP e1 ?_|refine gL e2 ?_|(with_reducible apply And.intro)|exact aG|fail)
  refine dE ?_
  exact⟨⟨8,0,[],c⟩,k2,rfl,rfl,hsm,fun _=>hcg⟩
 ·have e2:=pick l hl k1 ((w.rd.length:Int)+1) (by omega)
  have a2:=pickV_in l k1 ((w.rd.length:Int)+1) (by omega)
  generalize pickV l k1 ((w.rd.length:Int)+1)=y at *
  generalize pickK l k1=k2 at *
  repeat' (first|refine gS ?_|refine sp ?_ ?_ <;> intro h|refine gL e0 ?_|refine gP e1 ?_|refine gL e2 ?_|(with_reducible apply And.intro)|exact aG|fail)
  refine dE ?_
  exact⟨⟨9,y,[],noChg⟩,k2,rfl,rfl,.num (by omega) (by omega) (by omega) (by omega),by simp⟩
 ·repeat' (first|refine gS ?_|refine sp ?_ ?_ <;> intro h|refine gL e0 ?_|refine gP e1 ?_|(with_reducible apply And.intro)|exact aG|fail)
  refine dE ?_
  exact⟨⟨10,0,[],noChg⟩,k1,rfl,rfl,.num (by omega) (by omega) (by omega) (by omega),by simp⟩
 ·repeat' (first|refine gS ?_|refine sp ?_ ?_ <;> intro h|refine gL e0 ?_|refine gP e1 ?_|(with_reducible apply And.intro)|exact aG|fail)
  refine dE ?_
  exact⟨⟨11,0,[],noChg⟩,k1,rfl,rfl,.num (by omega) (by omega) (by omega) (by omega),by simp⟩
end Go.Proofs.YticdbambknflgaaGreat.Sim
end
section
namespace Go.Proofs.YticdbambknflgaaGreat.Sc
open Go.Proofs.YticdbambknflgaaGreat.Sim
open Go Go.RowKit
set_option maxRecDepth 100000
set_option maxHeartbeats 8000000
set_option linter.unusedVariables false
set_option linter.unusedSimpArgs false
attribute [local irreducible] Go Mean
open Go.Proofs.YticdbambknflgaaGreat.Wire (putB putL putB_len getI getL getC rdL getI_put getL_put getI_ok getI_err rInt_any IntPost)
theorem ints (a b:List Int) (ha:a.length≤1000000) (hb:b.length≤1000000):Does Tryz.prog 28 [.d (dInts a),.d (dInts b)] [] (B (eqB a b)) [] []:=by
 have e:=ints31 a b ha hb
 by_cases h:a=b
 ·rw[decide_eq_true h] at e;rw[eqB_t h];exact e
 ·rw[decide_eq_false h] at e;rw[eqB_f h];exact e
theorem same4 (a b:List Int) (ha:a.length≤17592186044416) (hb:b.length≤17592186044416):Does Tryz.prog 53 [.d (dInts a),.d (dInts b)] [] (B (eqB a b)) [] []:=by
 have e:=sameI a b ha hb
 by_cases h:a=b
 ·rw[decide_eq_true h] at e;rw[eqB_t h];exact e
 ·rw[decide_eq_false h] at e;rw[eqB_f h];exact e
theorem chg15 (f t c f' t' c':Int) (a b:List PSe) (ha:a.length≤1000000) (hb:b.length≤1000000) (ha2:∀ x ∈ a,okL x) (hb2:∀ x ∈ b,okL x):Does Tryz.prog 29 [.ag [I f,I t,I c,.d (dSets a)],.ag [I f',I t',I c',.d (dSets b)]] [] (B (eqB (f,t,c,a) (f',t',c',b))) [] []:=by
 refine wD Tryz.func29 fun cx hm0=>?_
 by_cases h0:f=f'
 case neg =>
  have hne:¬ (f,t,c,a)=(f',t',c',b):=fun h=>h0 (by simp only[Prod.mk.injEq] at h;exact h.1)
  have q:(f != f')=true:=by simpa using h0
  repeat' (first|refine gA q ?_|refine sp ?_ ?_ <;> intro h|(with_reducible apply And.intro)|exact aG|fail)
  all_goals exact rtF [] (eqB_f hne)
 subst h0
 by_cases h1:t=t'
 case neg =>
  have hne:¬ (f,t,c,a)=(f,t',c',b):=fun h=>h1 (by simp only[Prod.mk.injEq] at h;exact h.2.1)
  have q:(t != t')=true:=by simpa using h1
  repeat' (first|refine gA q ?_|refine sp ?_ ?_ <;> intro h|(with_reducible apply And.intro)|exact aG|fail)
  all_goals exact rtF [] (eqB_f hne)
 subst h1
 by_cases h2:c=c'
 case neg =>
  have hne:¬ (f,t,c,a)=(f,t,c',b):=fun h=>h2 (by simp only[Prod.mk.injEq] at h;exact h.2.2.1)
  have q:(c != c')=true:=by simpa using h2
  repeat' (first|refine gA q ?_|refine sp ?_ ?_ <;> intro h|(with_reducible apply And.intro)|exact aG|fail)
  all_goals exact rtF [] (eqB_f hne)
 subst h2
 by_cases hl:a.length=b.length
 case neg =>
  have hne:¬ (f,t,c,a)=(f,t,c,b):=fun h=>hl (by simp only[Prod.mk.injEq] at h;rw[h.2.2.2])
  have q:((a.length:Int) != b.length)=true:=by simp;omega
  repeat' (first|refine gA q ?_|refine sp ?_ ?_ <;> intro h|(with_reducible apply And.intro)|exact aG|fail)
  all_goals exact rtF [] (eqB_f hne)
 repeat' (first|refine gA hl ?_|refine sp ?_ ?_ <;> intro h|(with_reducible apply And.intro)|exact aG|fail)
 refine gl (κ:=Nat) hm0 (fun q_=>q_≤a.length∧a.take q_=b.take q_) (fun q_=>[(2,.bp 2 0 0),(3,.bp 3 0 0),(36,I b.length),(37,I q_)]) (fun q_=>[(2,.box 0 [I f,I t,I c,.d (dSets a)]),(3,.box 0 [I f,I t,I c,.d (dSets b)])]) (fun q_=>a.length-q_) [] [] (0) ?_
 rintro k hI
 try simp only at hI ⊢
 try have hI2:=hI.2
 by_cases hk:k<a.length
 ·have hs0:=getD_map eSe [] noSe a k hk
  have hs1:=getD_map eSe [] noSe b k (by omega)
  have ht:=take_succ_getD noSe a k hk
  have ht2:=take_succ_getD noSe b k (by omega)
  have hkb:k<b.length:=by omega
  have g1:=ha2 _ (mem_getD noSe a k hk)
  have g2:=hb2 _ (mem_getD noSe b k hkb)
  by_cases hx:a.getD k noSe=b.getD k noSe
  ·rw[hx] at hs0 ht g1
   generalize b.getD k noSe=y at *
   have e1:=same4 y.row y.row g1 g1
   rw[eqB_s] at e1
   repeat' (first|simp (maxSteps:=9999999) only[↓GE,PQ,seval,hs0,hs1,hk,hkb,eSe]|refine gS ?_|refine sp ?_ ?_ <;> intro h|refine gP e1 ?_|(with_reducible apply And.intro)|exact aG|fail)
   all_goals try (exfalso;omega)
   refine⟨[],[],⟨k+1,hk,by rw[ht,ht2,hI.2]⟩,?_,aI⟩
   exact aX
  ·have hne:¬ (f,t,c,a)=(f,t,c,b):=fun h=>hx (by simp only[Prod.mk.injEq] at h;rw[h.2.2.2])
   generalize a.getD k noSe=x at *
   generalize b.getD k noSe=y at *
   have e1:=same4 x.row y.row g1 g2
   by_cases hi:x.idx=y.idx
   ·have hr:¬ x.row=y.row:=fun h=>hx (by cases x;cases y;simp only at hi h;rw[hi,h])
    rw[eqB_f hr] at e1
    repeat' (first|simp (maxSteps:=9999999) only[↓GE,PQ,seval,hi,hs0,hs1,hk,hkb,eSe]|refine gS ?_|refine sp ?_ ?_ <;> intro h|refine gP e1 ?_|(with_reducible apply And.intro)|exact aG|fail)
    all_goals first|(exfalso;omega)|exact rtF [] (eqB_f hne)
   ·have q:(x.idx != y.idx)=true:=by simpa using hi
    repeat' (first|simp (maxSteps:=9999999) only[↓GE,PQ,seval,q,hs0,hs1,hk,hkb,eSe]|refine gS ?_|refine sp ?_ ?_ <;> intro h|(with_reducible apply And.intro)|exact aG|fail)
    all_goals first|(exfalso;omega)|exact rtF [] (eqB_f hne)
 ·have he:=hI.2
  rw[List.take_of_length_le (by omega),List.take_of_length_le (by omega)] at he
  repeat' (first|refine gS ?_|refine sp ?_ ?_ <;> intro h|(with_reducible apply And.intro)|exact aG|fail)
  all_goals try (exfalso;omega)
  subst he
  exact rtF [] @eqB_s
theorem one41 (x y:PSt) (hx:okQ x) (hy:okQ y):Does Tryz.prog 11 [vSt x,vSt y] [] (B (eqB x y)) [] []:=by
 have e1:=ints x.rows y.rows hx.r hy.r
 have e2:=chg15 x.fr x.tt x.cnt y.fr y.tt y.cnt x.sets y.sets hx.s hy.s hx.l hy.l
 clear hx hy
 refine wD Tryz.func11 fun cx hm0=>?_
 obtain⟨k,m,r,f,t,c,s⟩:=x
 obtain⟨k',m',r',f',t',c',s'⟩:=y
 simp only at e1 e2
 by_cases h0:k=k'
 case neg =>
  have hne:¬ (⟨k,m,r,f,t,c,s⟩:PSt)=⟨k',m',r',f',t',c',s'⟩:=fun h=>h0 (congrArg PSt.kind h)
  have q:(k == k')=false:=by simpa using h0
  repeat' (first|refine gA q ?_|refine sp ?_ ?_ <;> intro h|(with_reducible apply And.intro)|exact aG|fail)
  all_goals exact rtF [] (eqB_f hne)
 subst h0
 by_cases h1:m=m'
 case neg =>
  have hne:¬ (⟨k,m,r,f,t,c,s⟩:PSt)=⟨k,m',r',f',t',c',s'⟩:=fun h=>h1 (congrArg PSt.num h)
  have q:(m == m')=false:=by simpa using h1
  repeat' (first|refine gA q ?_|refine sp ?_ ?_ <;> intro h|(with_reducible apply And.intro)|exact aG|fail)
  all_goals exact rtF [] (eqB_f hne)
 subst h1
 by_cases h2:r=r'
 case neg =>
  have hne:¬ (⟨k,m,r,f,t,c,s⟩:PSt)=⟨k,m,r',f',t',c',s'⟩:=fun h=>h2 (congrArg PSt.rows h)
  rw[eqB_f h2] at e1
  repeat' (first|refine gS ?_|refine sp ?_ ?_ <;> intro h|refine gP e1 ?_|(with_reducible apply And.intro)|exact aG|fail)
  all_goals exact rtF [] (eqB_f hne)
 subst h2
 rw[eqB_s] at e1
 by_cases h3:(f,t,c,s)=(f',t',c',s')
 case neg =>
  have hne:¬ (⟨k,m,r,f,t,c,s⟩:PSt)=⟨k,m,r,f',t',c',s'⟩:=fun h=>h3 (by injection h;simp_all)
  rw[eqB_f h3] at e2
  repeat' (first|refine gS ?_|refine sp ?_ ?_ <;> intro h|refine gP e1 ?_|refine gP e2 ?_|(with_reducible apply And.intro)|exact aG|fail)
  all_goals exact rtF [] (eqB_f hne)
 simp only[Prod.mk.injEq] at h3
 obtain⟨rfl,rfl,rfl,rfl⟩:=h3
 rw[eqB_s] at e2
 repeat' (first|refine gS ?_|refine sp ?_ ?_ <;> intro h|refine gP e1 ?_|refine gP e2 ?_|(with_reducible apply And.intro)|exact aG|fail)
 all_goals exact rtF [] @eqB_s
theorem same41 (a b:List PSt) (ha:a.length≤1000000) (hb:b.length≤1000000) (ha2:∀ x ∈ a,okQ x) (hb2:∀ x ∈ b,okQ x):Does Tryz.prog 17 [.d (dSts a),.d (dSts b)] [] (B (eqB a b)) [] []:=by
 refine wD Tryz.func17 fun cx hm0=>?_
 by_cases hl:a.length=b.length
 case neg =>
  have hne:¬ a=b:=fun h=>hl (congrArg List.length h)
  have hr1:((a.length:Int) != b.length)=true:=by simp;omega
  repeat' (first|refine gA hr1 ?_|refine sp ?_ ?_ <;> intro h|(with_reducible apply And.intro)|exact aG|fail)
  all_goals exact rtF [] (eqB_f hne)
 repeat' (first|refine gA hl ?_|refine sp ?_ ?_ <;> intro h|(with_reducible apply And.intro)|exact aG|fail)
 refine gl (κ:=Nat) hm0 (fun q_=>q_≤a.length∧a.take q_=b.take q_) (fun q_=>[(0,.d (dSts a)),(1,.d (dSts b)),(5,I q_)]) (fun q_=>[]) (fun q_=>a.length-q_) [] [] (0) ?_
 rintro k hI
 try simp only at hI ⊢
 try have hI2:=hI.2
 by_cases hk:k<a.length
 ·have hs0:=getD_map eSt [] noSt a k hk
  have hs1:=getD_map eSt [] noSt b k (by omega)
  have ht:=take_succ_getD noSt a k hk
  have ht2:=take_succ_getD noSt b k (by omega)
  have hkb:k<b.length:=by omega
  have e1:=one41 (a.getD k noSt) (b.getD k noSt) (ha2 _ (mem_getD _ _ _ hk)) (hb2 _ (mem_getD _ _ _ hkb))
  by_cases hx:a.getD k noSt=b.getD k noSt
  ·rw[eqB_t hx] at e1
   rw[hx] at hs0 ht e1
   generalize b.getD k noSt=y at *
   repeat' (first|simp (maxSteps:=9999999) only[↓GE,PQ,seval,hs0,hs1,hk,hkb,eSt]|refine gS ?_|refine sp ?_ ?_ <;> intro h|refine gP e1 ?_|(with_reducible apply And.intro)|exact aG|fail)
   all_goals try (exfalso;omega)
   refine⟨[],[],⟨k+1,hk,by rw[ht,ht2,hI.2]⟩,?_,aI⟩
   exact aX
  ·have hne:¬ a=b:=fun h=>hx (by rw[h])
   rw[eqB_f hx] at e1
   generalize a.getD k noSt=x at *
   generalize b.getD k noSt=y at *
   repeat' (first|simp (maxSteps:=9999999) only[↓GE,PQ,seval,hs0,hs1,hk,hkb,eSt]|refine gS ?_|refine sp ?_ ?_ <;> intro h|refine gP e1 ?_|(with_reducible apply And.intro)|exact aG|fail)
   all_goals first|(exfalso;omega)|exact rtF [] (eqB_f hne)
 ·have he:=hI.2
  rw[List.take_of_length_le (by omega),List.take_of_length_le (by omega)] at he
  repeat' (first|refine gS ?_|refine sp ?_ ?_ <;> intro h|(with_reducible apply And.intro)|exact aG|fail)
  all_goals try (exfalso;omega)
  subst he
  exact rtF [] @eqB_s
end Go.Proofs.YticdbambknflgaaGreat.Sc
end
section
namespace Go.Proofs.YticdbambknflgaaGreat.Sim
open Go
set_option maxRecDepth 100000
set_option maxHeartbeats 4000000
set_option linter.unusedVariables false
set_option linter.unusedSimpArgs false
attribute [local irreducible] Go Mean
def eStep (x:PStep):List D:=[iD x.kind,iD x.num,dInts x.rows,iD x.chg.fr,iD x.chg.tt,iD x.chg.count,dSets x.chg.sets]
abbrev dSteps (l:List PStep):D:=.sl 7 (l.map eStep)
theorem dwalk (l:List UInt8) (hl:l.length≤140737488355328) (k:Nat) (w:PWorld) (hw:WOK w 0):DoesE Tryz.prog 23 [dcp,vWorld w,I 8] (dc l k) (fun r bx=>∃ w' xs k',r=.tu [vWorld w',.d (dSteps xs)]∧bx=dc l k'∧xs.length≤8∧∀ x ∈ xs,SmSt x):=by
 have e0:=pick l hl k 9 (by omega)
 have a0:=pickV_in l k 9 (by omega)
 generalize pickV l k 9=v0 at *
 generalize pickK l k=k1 at *
 obtain⟨m,rfl⟩:∃ m:Nat,v0=m:=⟨v0.toNat,by omega⟩
 refine wE Tryz.func23 fun cx hm0=>?_
 repeat' (first|refine gS ?_|refine sp ?_ ?_ <;> intro h|refine gL e0 ?_|(with_reducible apply And.intro)|exact aG|fail)
 refine gl (κ:=Nat × Nat × Nat × PWorld × (List PStep)) hm0 (fun q_=>(q_.1≤m∧q_.2.2.2.2.length=q_.1)∧WOK q_.2.2.2.1 q_.1∧∀ x ∈ q_.2.2.2.2,SmSt x) (fun q_=>[(0,.bp 900000 0 0),(4,.bp 4 0 0),(6,.bp 6 0 0),(8,.og 31 q_.2.1),(9,I ((m-q_.1:Nat):Int))]) (fun q_=>[(4,.box 0 [I q_.2.2.2.1.s.kind,I q_.2.2.2.1.s.sv,I q_.2.2.2.1.s.deg,I q_.2.2.2.1.s.grp,.d (dTwos q_.2.2.2.1.people),.d (dTabs q_.2.2.2.1.tabs),.d (dSrvs q_.2.2.2.1.srv),.d (dNotes q_.2.2.2.1.flight),.d (dRds q_.2.2.2.1.rd),I q_.2.2.2.1.disk.seed,I q_.2.2.2.1.disk.drawn,.d (dStarts q_.2.2.2.1.disk.begun),.d (dTwos q_.2.2.2.1.pins.rows),.d (dInts q_.2.2.2.1.pins.kept),.d (dInts q_.2.2.2.1.liars),.d (.sl 4 q_.2.2.2.1.results)]),(6,.box 0 [I 0,I 0,I 0,I 0,.nl 2,.nl 4,.nl 8,.nl 8,.nl 15,I 0,I 0,.nl 5,.nl 2,.nl 1,.nl 1,.nl 4]),(31,.arr q_.2.1 7 true (q_.2.2.2.2.map eStep)),(900000,.box 0 [.d (dBytes l),I q_.2.2.1])]) (fun q_=>m-q_.1) [] [31] (0,0,k1,w,[]) ?_
 rintro⟨j,v,kk,w,xs⟩ hI
 try simp only at hI ⊢
 try have hI2:=hI.2
 by_cases hj:j<m
 ·have hxl:=hI.1.2
  have w1:IntKind.i64.wrap (((m-j:Nat):Int)-1)=((m-(j+1):Nat):Int):=by rw[show ((m-j:Nat):Int)-1=((m-(j+1):Nat):Int) by omega];exact IntWalk.i64_in _ (by omega)
  have q:decide (((m-j:Nat):Int) > 0)=true:=decide_eq_true (by omega)
  repeat' (first|refine gA q ?_|refine sp ?_ ?_ <;> intro h|(with_reducible apply And.intro)|exact aG|fail)
  (refine gE (dstep l hl kk w j hI2.1 (by omega)) ?_;rintro _ _ ⟨x,k2,rfl,rfl,hx,hx2⟩ <;> refine gG ?_)
  repeat' (first|refine gS ?_|refine sp ?_ ?_ <;> intro h|(with_reducible apply And.intro)|exact aG|fail)
  (refine gW (do40 w j x hI2.1 (by omega) (by have:=hx.r;omega) hx2) ?_;rintro _ ⟨w',e,rfl,hw'⟩ <;> refine⟨rfl,?_⟩)
  repeat' (first|refine gA w1 ?_|refine sp ?_ ?_ <;> intro h|(with_reducible apply And.intro)|exact aG|fail)
  all_goals try (exfalso;omega)
  refine⟨[],[],⟨(j+1,v+1,k2,w',xs++[x]),⟨by simp only;omega,by simp only[List.length_append,List.length_singleton];omega⟩,hw',allA hI2.2 hx⟩,?_,aI⟩
  exact aY eStep.eq_1
 ·obtain rfl:j=m:=by omega
  have q:decide (((j-j:Nat):Int) > 0)=false:=decide_eq_false (by omega)
  repeat' (first|refine gA q ?_|refine sp ?_ ?_ <;> intro h|(with_reducible apply And.intro)|exact aG|fail)
  refine dE ?_
  exact⟨w,xs,kk,rfl,rfl,by omega,hI2.2⟩
theorem steps41 (l:List UInt8) (hl:l.length≤140737488355328) (k:Nat):DoesE Tryz.prog 7 [dcp] (dc l k) (fun r bx=>∃ xs k',r=.d (dSteps xs)∧bx=dc l k'∧xs.length≤8∧∀ x ∈ xs,SmSt x):=by
 refine wE Tryz.func7 fun cx hm0=>?_
 repeat' (first|refine gS ?_|refine sp ?_ ?_ <;> intro h|(with_reducible apply And.intro)|exact aG|fail)
 (refine gE (dworld l hl k) ?_;rintro _ _ ⟨w,k1,rfl,rfl,hw⟩ <;> refine gG ?_)
 repeat' (first|refine gS ?_|refine sp ?_ ?_ <;> intro h|(with_reducible apply And.intro)|exact aG|fail)
 (refine gE (dwalk l hl k1 w hw) ?_;rintro _ _ ⟨w',xs,k2,rfl,rfl,hx1,hx2⟩ <;> refine gG ?_)
 repeat' (first|refine gS ?_|refine sp ?_ ?_ <;> intro h|(with_reducible apply And.intro)|exact aG|fail)
 refine dE ?_
 exact⟨xs,k2,rfl,rfl,hx1,hx2⟩
end Go.Proofs.YticdbambknflgaaGreat.Sim
end
section
namespace Go.Proofs.YticdbambknflgaaGreat.Sc
open Go.Proofs.YticdbambknflgaaGreat.Sim
open Go Go.RowKit
set_option maxRecDepth 100000
set_option maxHeartbeats 8000000
set_option linter.unusedVariables false
set_option linter.unusedSimpArgs false
attribute [local irreducible] Go Mean
open Go.Proofs.YticdbambknflgaaGreat.Wire (putB putL putB_len getI getL getC rdL getI_put getL_put getI_ok getI_err rInt_any IntPost)
def toSe (s:Sim.PSet):PSe:=⟨s.idx,s.row⟩
def toSt (x:PStep):PSt:=⟨x.kind,x.num,x.rows,x.chg.fr,x.chg.tt,x.chg.count,x.chg.sets.map toSe⟩
theorem eSt_to (x:PStep):eSt (toSt x)=eStep x:=by
 simp only[eSt,toSt,eStep,dSets,Sim.dSets,List.map_map]
 rfl
theorem dSts_to (xs:List PStep):Sim.dSteps xs=dSts (xs.map toSt):=by
 simp only[Sim.dSteps,dSts,List.map_map]
 congr 1
 exact List.map_congr_left fun x _=>(eSt_to x).symm
structure Small (x:PSt):Prop where
 ok:okSt x
 ck:chk x=true
 q:okQ x
theorem i64_of {a:Int} {b:Int} (h:-1≤a) (k:a≤b) (hb:b≤2147483647):I64 a:=by unfold I64;omega
theorem small_to {x:PStep} (h:SmSt x):Small (toSt x):=by
 have hs:∀ s ∈ (toSt x).sets,okSe s∧s.row.length≤64:=fun s hs=>by
  obtain⟨t,ht,rfl⟩:=List.mem_map.1 hs
  obtain⟨a,b,c,d⟩:=h.ss t ht
  exact⟨⟨i64_of (by omega:-1≤t.idx) b (by omega),by simp only[toSe];omega,fun n hn=>i64_of (by have:=(d n hn).1;omega) (d n hn).2 (by omega)⟩,c⟩
 have hn:(toSt x).sets.length≤1024:=by simp only[toSt,List.length_map];exact h.s
 refine⟨⟨i64_of (by have:=h.k.1;show -1≤x.kind;omega) h.k.2 (by omega),i64_of (by have:=h.n.1;show -1≤x.num;omega) h.n.2 (by omega),i64_of (by have:=h.f.1;show -1≤x.chg.fr;omega) h.f.2 (by omega),i64_of (by have:=h.t.1;show -1≤x.chg.tt;omega) h.t.2 (by omega),i64_of (by have:=h.c.1;show -1≤x.chg.count;omega) h.c.2 (by omega),?_,?_,by omega,fun s hh=>(hs s hh).1⟩,chk_of h.r hn fun s hh=>(hs s hh).2,⟨?_,by omega,fun s hh=>by have:=(hs s hh).2;unfold okL;omega⟩⟩
 ·show x.rows.length≤2000
  have:=h.r;omega
 ·exact fun n hn=>i64_of (h.rr n hn).1 (h.rr n hn).2 (by omega)
 ·show x.rows.length≤1000000
  have:=h.r;omega
theorem stepsT (l:List UInt8) (hl:l.length≤140737488355328) (k:Nat):DoesE Tryz.prog 7 [dcp] (dc l k) (fun r bx=>∃ xs k',r=.d (dSts xs)∧bx=dc l k'∧xs.length≤8∧∀ x ∈ xs,Small x) :=
 DoesE.mono (steps41 l hl k) fun r bx ⟨xs,k',h1,h2,h3,h4⟩=>⟨xs.map toSt,k',by rw[h1,dSts_to],h2,by rw[List.length_map];exact h3,fun y hy=>by
  obtain⟨x,hx,rfl⟩:=List.mem_map.1 hy
  exact small_to (h4 x hx)⟩
theorem steps18 (l:List UInt8) (hl:l.length≤140737488355328) (k:Nat):DoesE Tryz.prog 7 [.bp 20000 0 0] [(20000,.box 0 [.d (dBytes l),I k])] (fun r bx=>∃ xs,∃ k':Nat,r=.d (dSts xs)∧bx=[(20000,.box 0 [.d (dBytes l),I k'])]∧xs.length≤8∧∀ x ∈ xs,Small x) :=
 DoesE.mono (DoesE.nm (stepsT l hl k) [(900000,20000,0)] rfl rfl rfl rfl rfl fun r bx' ⟨xs,k',h1,h2,_,_⟩=>by subst h1 h2;exact⟨rfl,rfl,rfl⟩) fun r bx ⟨r0,bx0,⟨xs,k',h1,h2,h3,h4⟩,h5,h6⟩=>⟨xs,k',by rw[h5,h1];rfl,by rw[h6,h2];rfl,h3,h4⟩
theorem sane41:Does Tryz.prog 6 [] [] (B true) [] []:=by
 refine wD Tryz.func6 fun cx hm0=>?_
 have hb:encL []=[0]:=by decide +kernel
 have e1:Does Tryz.prog 12 [.d (dSts [])] [] (.tu [vS [0],I 0]) [] []:=by
  have:=encodeD [] (by decide) (fun x hx=>by cases hx)
  rw[encS,encE,if_pos ⟨by decide,rfl⟩,if_pos ⟨by decide,rfl⟩,hb] at this
  exact this
 have e2:Does Tryz.prog 13 [vS [0]] [] (.tu [.d (dSts []),I 0]) [] []:=by
  have:=decodeD' (encL []) (by rw[hb];decide)
  rw[decG_enc (by decide) (fun x hx=>by cases hx),hb] at this
  exact this
 repeat' (first|refine gS ?_|refine sp ?_ ?_ <;> intro h|refine gP e1 ?_|refine gP e2 ?_|(with_reducible apply And.intro)|exact aG|fail)
 all_goals exact rt []
end Go.Proofs.YticdbambknflgaaGreat.Sc
end
