/- Reckoning in a field, lists of elements. -/
import Derived.Test.YtacfbiegbdlldaaGreatDoorVAcs
import Derived.Test.YtacfbiegbdlldaaGreatDoorVLibI
import Derived.Test.YtacfbiegbdlldaaGreatDoorVFieldRes
import Derived.Test.YtacfbiegbdlldaaGreatDoorVSimJn
namespace Go.Proofs.YtacfbiegbdlldaaGreatDoor.Sim
open Go Go.RowKit Go.Deep
open Go.Proofs.YtacfbiegbdlldaaGreatDoor.Field (isP fermat inv_pow isP_of_root Valid pInverse_any)
set_option maxRecDepth 100000
set_option maxHeartbeats 4000000
set_option linter.unusedVariables false
set_option linter.unusedSimpArgs false
attribute [local irreducible] Go Mean
noncomputable def fieldB (p:Int):Bool:=@decide (2≤p∧p≤65521∧∀ d:Int,2≤d→d*d≤p→p.tmod d ≠ 0) (Classical.propDecidable _)
theorem fieldB_iff {p:Int}:fieldB p=true↔2≤p∧p≤65521∧∀ d:Int,2≤d→d*d≤p→p.tmod d ≠ 0:=by simp [fieldB]
theorem fieldB_no {p:Int} (h:¬(2≤p∧p≤65521∧∀ d:Int,2≤d→d*d≤p→p.tmod d ≠ 0)):fieldB p=false:=by
 cases e:fieldB p with
 |false=>rfl
 |true=>exact absurd (fieldB_iff.1 e) h
theorem sq_ge {d:Int} (h:0≤d):d≤d*d:=by
 by_cases h0:d=0
 ·subst h0;decide
 ·have:=Int.mul_le_mul_of_nonneg_right (show (1:Int)≤d by omega) h
  rwa [Int.one_mul] at this
theorem sq_le {d e:Int} (h0:0≤d) (h:d≤e):d*d≤e*e:=Int.mul_le_mul h h h0 (by omega)
theorem no_more {p d:Int} (hd:2≤d) (hp:2≤p) (hp2:p≤65521) (hn:∀ e:Int,2≤e→e<d→p.tmod e ≠ 0) (h:¬d*d≤p):fieldB p=true:=by
 refine fieldB_iff.2 ⟨hp,hp2,fun e he h2=>?_⟩
 by_cases h3:e<d
 ·exact hn e he h3
 ·have:=sq_le (d:=d) (e:=e) (by omega) (by omega)
  omega
theorem resOf (p:Int):Does Tryz.prog 44 [.ag [I p]] [] (.tu [I (if fieldB p=true then p else 0),B (fieldB p)]) [] []:=by
 refine G65' rfl BxOK.nil fun cx hm0=>go_in 5000 ?_
 unfold A65' R65'
 repeat' (first|simp (maxSteps:=9999999) only[↓GE,PL,PP,EE,QQ,seval]|(simp (disch:=omega) only[i6])|(apply go_brD<;>intro h)|(apply go_gsD aE<;>intro h)|(apply go_br<;>intro h)|(apply go_gs aE<;>intro h)|(with_reducible apply And.intro)|exact aG|fail)
 ·have hf:fieldB p=false:=fieldB_no (by omega)
  ((first|apply ret_mk []|apply end_mk []);(· exact aR);(· ((try simp only[CC,LL,EE,QQ,seval]) <;> repeat' (first|exact aD|(with_reducible apply And.intro)|(simp [*,hf];done)|(simp [*,hf];omega)|(simp_all [hf];done)|(simp_all [hf];omega))));all_goals (first|((try simp only[CC,LL,EE,QQ,seval]) <;> (repeat' (first|(with_reducible apply And.intro)|trivial|rfl|(simp [hf];done)));done)|exact aF))
 ·have hf:fieldB p=false:=fieldB_no (by omega)
  ((first|apply ret_mk []|apply end_mk []);(· exact aR);(· ((try simp only[CC,LL,EE,QQ,seval]) <;> repeat' (first|exact aD|(with_reducible apply And.intro)|(simp [*,hf];done)|(simp [*,hf];omega)|(simp_all [hf];done)|(simp_all [hf];omega))));all_goals (first|((try simp only[CC,LL,EE,QQ,seval]) <;> (repeat' (first|(with_reducible apply And.intro)|trivial|rfl|(simp [hf];done)));done)|exact aF))
 refine go_loop 5000 hm0 (ι:={d:Int // 2≤d∧d≤65522∧∀ e:Int,2≤e→e<d→p.tmod e ≠ 0}) (fun i=>[(1,.bp 1 0 0),(2,I 0),(3,B false),(4,I i.1)]) (fun i=>[(1,.box 0 [I p])]) (fun i=>(65523-i.1).toNat) [] ⟨2,by omega,by omega,fun e h1 h2=>by omega⟩ ?_ ?_
 ·exact aH
 ·rintro⟨d,hd,hd2,hn⟩
  have hb:=sq_le (show (0:Int)≤d by omega) hd2
  have hb2:=sq_ge (show (0:Int)≤d by omega)
  repeat' (first|simp (maxSteps:=9999999) only[↓GE,PL,PP,EE,QQ,seval]|(simp (disch:=omega) only[i6])|(apply go_brD<;>intro h)|(apply go_gsD aE<;>intro h)|(apply go_br<;>intro h)|(apply go_gs aE<;>intro h)|(with_reducible apply And.intro)|exact aG|fail)
  ·rename_i h
   have hf:fieldB p=false:=fieldB_no fun hh=>hh.2.2 d hd (by assumption) (by simpa using h)
   ((first|apply ret_mk []|apply end_mk []);(· exact aR);(· ((try simp only[CC,LL,EE,QQ,seval]) <;> repeat' (first|exact aD|(with_reducible apply And.intro)|(simp [*,hf];done)|(simp [*,hf];omega)|(simp_all [hf];done)|(simp_all [hf];omega))));all_goals (first|((try simp only[CC,LL,EE,QQ,seval]) <;> (repeat' (first|(with_reducible apply And.intro)|trivial|rfl|(simp [hf];done)));done)|exact aF))
  ·rename_i h
   refine⟨⟨d+1,by omega,by omega,fun e h1 h2=>?_⟩,?_,by simp only;omega⟩
   ·by_cases he:e=d
    ·subst he;simpa using h
    ·exact hn e h1 (by omega)
   ·exact aH
  ·have hf:fieldB p=true:=no_more hd (by omega) (by omega) hn (by assumption)
   ((first|apply ret_mk []|apply end_mk []);(· exact aR);(· ((try simp only[CC,LL,EE,QQ,seval]) <;> repeat' (first|exact aD|(with_reducible apply And.intro)|(simp [*,hf];done)|(simp [*,hf];omega)|(simp_all [hf];done)|(simp_all [hf];omega))));all_goals (first|((try simp only[CC,LL,EE,QQ,seval]) <;> (repeat' (first|(with_reducible apply And.intro)|trivial|rfl|(simp [hf];done)));done)|exact aF))
def inE (p x:Int):Bool:=decide (0≤x)&&decide (x<p)
theorem has (p x:Int):Does Tryz.prog 45 [I p,I x] [] (B (inE p x)) [] []:=by
 refine G66' rfl BxOK.nil fun cx hm0=>go_in 5000 ?_
 unfold A66' R66'
 repeat' (first|simp (maxSteps:=9999999) only[↓GE,PL,PP,EE,QQ,seval]|(simp (disch:=omega) only[i6])|(apply go_brD<;>intro h)|(apply go_gsD aE<;>intro h)|(apply go_br<;>intro h)|(apply go_gs aE<;>intro h)|(with_reducible apply And.intro)|exact aG|fail)
 all_goals ((first|apply ret_mk []|apply end_mk []);(· exact aR);(· ((try simp only[CC,LL,EE,QQ,seval]) <;> repeat' (first|exact aD|(with_reducible apply And.intro)|(simp [*,inE];done)|(simp [*,inE];omega)|(simp_all [inE];done)|(simp_all [inE];omega))));all_goals (first|((try simp only[CC,LL,EE,QQ,seval]) <;> (repeat' (first|(with_reducible apply And.intro)|trivial|rfl|(simp [inE];done)));done)|exact aF))
theorem all1 (p x:Int):Does Tryz.prog 77 [I x,.bp 900000 0 0] [(900000,.box 0 [I p])] (B (!inE p x)) [(900000,.box 0 [I p])] []:=by
 refine G70' rfl BxOK.one fun cx hm0=>go_in 5000 ?_
 unfold A70' R70'
 repeat' (first|simp (maxSteps:=9999999) only[↓GE,PL,PP,EE,QQ,seval]|(simp (disch:=omega) only[i6])|(apply go_brD<;>intro h)|(apply go_gsD aE<;>intro h)|(apply go_br<;>intro h)|(apply go_gs aE<;>intro h)|(apply go_call 5000 (has _ _) rfl rfl;iterate 4 (first|(exact CallForm.plain rfl)|exact aC))|(with_reducible apply And.intro)|exact aG|fail)
 all_goals ((first|apply ret_mk []|apply end_mk []);(· exact aR);(· ((try simp only[CC,LL,EE,QQ,seval]) <;> repeat' (first|exact aD|(with_reducible apply And.intro)|(simp [*,inE];done)|(simp [*,inE];omega)|(simp_all [inE];done)|(simp_all [inE];omega))));all_goals (first|((try simp only[CC,LL,EE,QQ,seval]) <;> (repeat' (first|(with_reducible apply And.intro)|trivial|rfl|(simp [inE];done)));done)|exact aF))
def ixF (p:Int):Nat→List Int→Int
 |_,[]=>-1
 |k,x :: r=>if inE p x=true then ixF p (k+1) r else k
theorem ixF_neg (p:Int):∀ (l:List Int) (k:Nat),(ixF p k l ≥ 0↔l.all (inE p)=false)
 |[],k=>by simp [ixF]
 |x :: r,k=>by
  by_cases h:inE p x=true
  ·simpa [ixF,h] using ixF_neg p r (k+1)
  ·simp [ixF,h]
theorem indexF (p:Int) (l:List Int) (hl:l.length≤17592186044416):Does Tryz.prog 97 [.d (dInts l),.cl 77 [.bp 900000 0 0]] [(900000,.box 0 [I p])] (I (ixF p 0 l)) [(900000,.box 0 [I p])] []:=by
 refine G75' rfl BxOK.one fun cx hm0=>go_in 5000 ?_
 unfold A75' R75'
 repeat' (first|simp (maxSteps:=9999999) only[↓GE,PL,PP,EE,QQ,seval]|(simp (disch:=omega) only[i6])|(apply go_brD<;>intro h)|(apply go_gsD aE<;>intro h)|(apply go_br<;>intro h)|(apply go_gs aE<;>intro h)|(with_reducible apply And.intro)|exact aG|fail)
 refine go_loop 5000 hm0 (ι:={k:Nat // k≤l.length∧ixF p 0 l=ixF p k (l.drop k)}) (fun i=>[(0,.d (dInts l)),(1,.cl 77 [.bp 900000 0 0]),(4,I 0),(7,I l.length),(8,I i.1)]) (fun i=>[(900000,.box 0 [I p])]) (fun i=>l.length-i.1) [] ⟨0,by simp⟩ ?_ ?_
 ·exact aH
 ·rintro⟨k,hk,hv⟩
  by_cases hkl:k<l.length
  ·have hs:=getD_map eI [] 0 l k hkl
   rw[drop_get 0 _ _ hkl] at hv
   generalize l.getD k 0=s at hs hv
   simp only[ixF] at hv
   repeat' (first|simp (maxSteps:=9999999) only[↓GE,PL,PP,EE,QQ,seval,hs,eI]|(simp (disch:=omega) only[i6])|(apply go_brD<;>intro h)|(apply go_gsD aE<;>intro h)|(apply go_br<;>intro h)|(apply go_gs aE<;>intro h)|(apply go_callv 5000 (all1 p s) rfl (by kernel_rfl) rfl;iterate 4 (first|(exact CallForm.lent aL rfl rfl)|exact aC))|(with_reducible apply And.intro)|exact aG|fail)
   ·rw[if_neg (by simp_all)] at hv
    ((first|apply ret_mk []|apply end_mk []);(· exact aR);(· ((try simp only[CC,LL,EE,QQ,seval]) <;> repeat' (first|exact aD|(with_reducible apply And.intro)|(simp [*,hv];done)|(simp [*,hv];omega)|(simp_all [hv];done)|(simp_all [hv];omega))));all_goals (first|((try simp only[CC,LL,EE,QQ,seval]) <;> (repeat' (first|(with_reducible apply And.intro)|trivial|rfl|(simp [hv];done)));done)|exact aF))
   ·rw[if_pos (by simp_all)] at hv
    refine⟨⟨k+1,hkl,hv⟩,?_,by simp only;omega⟩
    exact aH
  ·have:k=l.length:=by omega
   subst this
   simp only[List.drop_length,ixF] at hv
   repeat' (first|simp (maxSteps:=9999999) only[↓GE,PL,PP,EE,QQ,seval]|(simp (disch:=omega) only[i6])|(apply go_brD<;>intro h)|(apply go_gsD aE<;>intro h)|(apply go_br<;>intro h)|(apply go_gs aE<;>intro h)|(with_reducible apply And.intro)|exact aG|fail)
   all_goals ((first|apply ret_mk []|apply end_mk []);(· exact aR);(· ((try simp only[CC,LL,EE,QQ,seval]) <;> repeat' (first|exact aD|(with_reducible apply And.intro)|(simp [*,hv];done)|(simp [*,hv];omega)|(simp_all [hv];done)|(simp_all [hv];omega))));all_goals (first|((try simp only[CC,LL,EE,QQ,seval]) <;> (repeat' (first|(with_reducible apply And.intro)|trivial|rfl|(simp [hv];done)));done)|exact aF))
theorem containsF (p:Int) (l:List Int) (hl:l.length≤17592186044416):Does Tryz.prog 76 [.d (dInts l),.cl 77 [.bp 900000 0 0]] [(900000,.box 0 [I p])] (B (!l.all (inE p))) [(900000,.box 0 [I p])] []:=by
 refine G61' rfl BxOK.one fun cx hm0=>go_in 5000 ?_
 unfold A61' R61'
 repeat' (first|simp (maxSteps:=9999999) only[↓GE,PL,PP,EE,QQ,seval]|(simp (disch:=omega) only[i6])|(apply go_brD<;>intro h)|(apply go_gsD aE<;>intro h)|(apply go_br<;>intro h)|(apply go_gs aE<;>intro h)|(apply go_call 5000 (indexF p l hl) rfl rfl;iterate 4 (first|(exact CallForm.lent aL rfl rfl)|exact aC))|(with_reducible apply And.intro)|exact aG|fail)
 have h:decide (ixF p 0 l ≥ 0)=!l.all (inE p):=by have:=ixF_neg p l 0;cases hb:l.all (inE p) <;> simp_all
 ((first|apply ret_mk []|apply end_mk []);(· exact aR);(· ((try simp only[CC,LL,EE,QQ,seval]) <;> repeat' (first|exact aD|(with_reducible apply And.intro)|(simp [*,h];done)|(simp [*,h];omega)|(simp_all [h];done)|(simp_all [h];omega))));all_goals (first|((try simp only[CC,LL,EE,QQ,seval]) <;> (repeat' (first|(with_reducible apply And.intro)|trivial|rfl|(simp [h];done)));done)|exact aF))
theorem allF (p:Int) (l:List Int) (hl:l.length≤17592186044416):Does Tryz.prog 46 [I p,.d (dInts l)] [] (B (l.all (inE p))) [] []:=by
 refine G26' rfl BxOK.nil fun cx hm0=>go_in 5000 ?_
 unfold A26' R26'
 repeat' (first|simp (maxSteps:=9999999) only[↓GE,PL,PP,EE,QQ,seval]|(simp (disch:=omega) only[i6])|(apply go_brD<;>intro h)|(apply go_gsD aE<;>intro h)|(apply go_br<;>intro h)|(apply go_gs aE<;>intro h)|(apply go_call 5000 ((containsF p l hl).nm1 2 0 (by decide) rfl rfl rfl rfl rfl) rfl rfl;iterate 4 (first|(exact CallForm.lent aL rfl rfl)|exact aC))|(with_reducible apply And.intro)|exact aG|fail)
 ((first|apply ret_mk []|apply end_mk []);(· exact aR);(· exact aZ);all_goals exact aF)
theorem mul_in {p a b:Int} (hp:1≤p) (hp2:p≤65521) (ha:0≤a∧a<p) (hb:0≤b∧b<p):0≤a*b∧a*b≤4293001441:=by
 refine⟨Int.mul_nonneg ha.1 hb.1,?_⟩
 have:a*b≤65521*65521:=Int.mul_le_mul (by omega) (by omega) hb.1 (by omega)
 omega
theorem fmul (p a b:Int) (hp:1≤p) (hp2:p≤65521) (ha:0≤a∧a<p) (hb:0≤b∧b<p):Does Tryz.prog 80 [I p,I a,I b] [] (I (a*b % p)) [] []:=by
 refine G82' rfl BxOK.nil fun cx hm0=>go_in 5000 ?_
 unfold A82' R82'
 have h:=mul_in hp hp2 ha hb
 have w:IntKind.i64.wrap (a*b)=a*b:=i6 _ (by omega)
 have w2:IntKind.i64.wrap p=p:=i6 _ (by omega)
 have e:(a*b).tmod p=a*b % p:=Int.tmod_eq_emod_of_nonneg h.1
 repeat' (first|simp (maxSteps:=9999999) only[↓GE,PL,PP,EE,QQ,seval,w,w2,e]|(simp (disch:=omega) only[i6])|(apply go_brD<;>intro h)|(apply go_gsD aE<;>intro h)|(apply go_br<;>intro h)|(apply go_gs aE<;>intro h)|(with_reducible apply And.intro)|exact aG|fail)
 all_goals ((first|apply ret_mk []|apply end_mk []);(· exact aR);(· exact aZ);all_goals exact aF)
theorem fadd (p a b:Int) (hp:1≤p) (hp2:p≤65521) (ha:0≤a∧a<p) (hb:0≤b∧b<p):Does Tryz.prog 79 [I p,I a,I b] [] (I ((a+b) % p)) [] []:=by
 refine G81' rfl BxOK.nil fun cx hm0=>go_in 5000 ?_
 unfold A81' R81'
 have w:IntKind.i64.wrap (a+b)=a+b:=i6 _ (by omega)
 have w2:IntKind.i64.wrap p=p:=i6 _ (by omega)
 have e:(a+b).tmod p=(a+b) % p:=Int.tmod_eq_emod_of_nonneg (by omega)
 repeat' (first|simp (maxSteps:=9999999) only[↓GE,PL,PP,EE,QQ,seval,w,w2,e]|(simp (disch:=omega) only[i6])|(apply go_brD<;>intro h)|(apply go_gsD aE<;>intro h)|(apply go_br<;>intro h)|(apply go_gs aE<;>intro h)|(with_reducible apply And.intro)|exact aG|fail)
 all_goals ((first|apply ret_mk []|apply end_mk []);(· exact aR);(· exact aZ);all_goals exact aF)
def addStep (p x:Int) (tl0 r:List Int) (k:Nat):List Int:=(List.range tl0.length).map fun i=>if i<k then (tl0.getD i 0+x*r.getD i 0 % p) % p else tl0.getD i 0
theorem addStep_len {p x:Int} {tl0 r:List Int} {k:Nat}:(addStep p x tl0 r k).length=tl0.length:=by simp [addStep]
theorem addStep_get {p x:Int} {tl0 r:List Int} {k i:Nat} (h:i<tl0.length):(addStep p x tl0 r k).getD i 0=if i<k then (tl0.getD i 0+x*r.getD i 0 % p) % p else tl0.getD i 0:=by
 simp [addStep,List.getD_eq_getElem?_getD,h]
theorem addStep_next {p x:Int} {tl0 r:List Int} {k:Nat} (h:k<tl0.length):(addStep p x tl0 r k).set k ((tl0.getD k 0+x*r.getD k 0 % p) % p)=addStep p x tl0 r (k+1):=by
 apply List.ext_getElem (by simp [addStep])
 intro i h1 h2
 simp only[addStep,List.getElem_set,List.getElem_map,List.getElem_range]
 by_cases e:k=i
 ·subst e;simp
 ·rw[if_neg e]
  by_cases h3:i<k
  ·rw[if_pos h3,if_pos (by omega)]
  ·rw[if_neg h3,if_neg (by omega)]
theorem addStep_zero {p x:Int} {tl0 r:List Int}:addStep p x tl0 r 0=tl0:=by
 apply List.ext_getElem (by simp [addStep])
 intro i h1 h2
 simp [addStep,List.getD_eq_getElem?_getD,h2]
theorem addTimes (p x:Int) (tl0 r:List Int) (hp:1≤p) (hp2:p≤65521) (hx:0≤x∧x<p) (ht:∀ i,i<tl0.length→0≤tl0.getD i 0∧tl0.getD i 0<p) (hr:∀ i,i<r.length→0≤r.getD i 0∧r.getD i 0<p) (hl:r.length≤tl0.length) (hb:r.length≤1000000):Does Tryz.prog 48 [I p,.og 900000 0,I x,.d (dInts r)] [(900000,.arr 0 1 true (tl0.map eI))] (.tu []) [(900000,.arr 0 1 true ((addStep p x tl0 r r.length).map eI))] []:=by
 refine G74' rfl ⟨rfl,by simp⟩ fun cx hm0=>go_in 5000 ?_
 unfold A74' R74'
 repeat' (first|simp (maxSteps:=9999999) only[↓GE,PL,PP,EE,QQ,seval,lm]|(simp (disch:=omega) only[i6])|(apply go_brD<;>intro h)|(apply go_gsD aE<;>intro h)|(apply go_br<;>intro h)|(apply go_gs aE<;>intro h)|(with_reducible apply And.intro)|exact aG|fail)
 refine go_loop 5000 hm0 (ι:={k:Nat // k≤r.length}) (fun i=>[(0,I p),(1,.og 900000 0),(2,I x),(10,.d (dInts r)),(11,I r.length),(12,I i.1)]) (fun i=>[(900000,.arr 0 1 true ((addStep p x tl0 r i.1).map eI))]) (fun i=>r.length-i.1) [] ⟨0,Nat.zero_le _⟩ ?_ ?_
 ·(simp only[GeS];refine⟨?_,?_,?_,?_⟩;all_goals (repeat' (first|(with_reducible exact True.intro)|(with_reducible rfl)|simp only[XC,↓reduceIte,seval]|(with_reducible apply And.intro)|(refine⟨_,rfl,?_⟩)|(simp [addStep_zero];done)|exact aS|fail)))
 ·rintro⟨k,hk⟩
  simp only
  by_cases hkr:k<r.length
  ·have hs1:=getD_map eI [] 0 r k hkr
   have hs2:=getD_map eI [] 0 (addStep p x tl0 r k) k (by rw[addStep_len];omega)
   rw[addStep_get (by omega),if_neg (by omega)] at hs2
   have hn:=addStep_next (p:=p) (x:=x) (r:=r) (show k<tl0.length by omega)
   have h1:=ht k (by omega)
   have h2:=hr k hkr
   have qk:k<(addStep p x tl0 r k).length:=by rw[addStep_len];omega
   generalize tl0.getD k 0=a at *
   generalize r.getD k 0=b at *
   have e1:=fmul p x b hp hp2 hx h2
   have e2:=fadd p a (x*b % p) hp hp2 h1 ⟨Int.emod_nonneg _ (by omega),Int.emod_lt_of_pos _ (by omega)⟩
   repeat' (first|simp (maxSteps:=9999999) only[↓GE,PL,PP,EE,QQ,seval,hs1,hs2,qk,eI,lm]|(simp (disch:=omega) only[i6])|(apply go_brD<;>intro h)|(apply go_gsD aE<;>intro h)|(apply go_br<;>intro h)|(apply go_gs aE<;>intro h)|(apply go_call 5000 (e1) rfl rfl;iterate 4 (first|(exact CallForm.plain rfl)|exact aC))|(apply go_call 5000 (e2) rfl rfl;iterate 4 (first|(exact CallForm.plain rfl)|exact aC))|(with_reducible apply And.intro)|exact aG|fail)
   refine⟨⟨k+1,hkr⟩,?_,by simp only;omega⟩
   (simp only[GeS];refine⟨?_,?_,?_,?_⟩;all_goals (repeat' (first|(with_reducible exact True.intro)|(with_reducible rfl)|simp only[XC,↓reduceIte,seval]|(with_reducible apply And.intro)|(refine⟨_,rfl,?_⟩)|(simp [← hn,List.map_set,eI];done)|exact aS|fail)))
  ·obtain rfl:k=r.length:=by omega
   repeat' (first|simp (maxSteps:=9999999) only[↓GE,PL,PP,EE,QQ,seval]|(simp (disch:=omega) only[i6])|(apply go_brD<;>intro h)|(apply go_gsD aE<;>intro h)|(apply go_br<;>intro h)|(apply go_gs aE<;>intro h)|(with_reducible apply And.intro)|exact aG|fail)
   all_goals ((first|apply ret_mk []|apply end_mk []);(· exact aR);(· exact aZ);all_goals exact aF)
theorem isP_field {p:Int} (h:fieldB p=true):isP p.toNat:=by
 obtain⟨h1,h2,h3⟩:=fieldB_iff.1 h
 refine isP_of_root (by omega) fun d hd hdd=>?_
 have:=h3 d (by omega) (by rw[← Int.natCast_mul];omega)
 rw[Int.tmod_eq_emod_of_nonneg (by omega)] at this
 intro e
 apply this
 have e2:((p.toNat % d:Nat):Int)=0:=by rw[e];rfl
 rw[Int.natCast_emod,Int.toNat_of_nonneg (by omega)] at e2
 exact e2
def invI (p a:Int):Int:=((a.toNat ^ (p.toNat-2) % p.toNat:Nat):Int)
theorem invI_in {p a:Int} (hp:2≤p):0≤invI p a∧invI p a<p:=by
 have:=Nat.mod_lt (a.toNat ^ (p.toNat-2)) (show p.toNat > 0 by omega)
 unfold invI;omega
theorem invI_mul {p a:Int} (h:fieldB p=true) (ha:0<a∧a<p):a*invI p a % p=1:=by
 have hp:=isP_field h
 have h2:=(fieldB_iff.1 h).1
 obtain⟨a,rfl⟩:=Int.eq_ofNat_of_zero_le (show 0≤a by omega)
 have:=inv_pow hp (a:=a) (by omega) (by omega)
 unfold invI
 rw[Int.toNat_natCast]
 obtain⟨p,rfl⟩:=Int.eq_ofNat_of_zero_le (show 0≤p by omega)
 rw[Int.toNat_natCast] at this ⊢
 rw[← Int.natCast_mul,← Int.natCast_emod,this];rfl
theorem fsub (p a b:Int) (hp:1≤p) (hp2:p≤65521) (ha:0≤a∧a<p) (hb:0≤b∧b<p):Does Tryz.prog 136 [I p,I a,I b] [] (I ((a-b+p) % p)) [] []:=by
 refine G95' rfl BxOK.nil fun cx hm0=>go_in 5000 ?_
 unfold A95' R95'
 have w:IntKind.i64.wrap (a-b)=a-b:=i6 _ (by omega)
 have w1:IntKind.i64.wrap (a-b+p)=a-b+p:=i6 _ (by omega)
 have w2:IntKind.i64.wrap p=p:=i6 _ (by omega)
 have e:(a-b+p).tmod p=(a-b+p) % p:=Int.tmod_eq_emod_of_nonneg (by omega)
 repeat' (first|simp (maxSteps:=9999999) only[↓GE,PL,PP,EE,QQ,seval,w,w1,w2,e]|(simp (disch:=omega) only[i6])|(apply go_brD<;>intro h)|(apply go_gsD aE<;>intro h)|(apply go_br<;>intro h)|(apply go_gs aE<;>intro h)|(with_reducible apply And.intro)|exact aG|fail)
 all_goals ((first|apply ret_mk []|apply end_mk []);(· exact aR);(· exact aZ);all_goals exact aF)
theorem inE_yes {p a:Int} (h:0≤a∧a<p):inE p a=true:=by simp [inE,h.1,h.2]
theorem tmod_pos {x k:Int} (h:0≤x):x.tmod k=x % k:=Int.tmod_eq_emod_of_nonneg h
theorem mmod (a k:Int) (h:0<k) (h2:k<4611686018427387904):Does Tryz.prog 38 [I a,I k] [] (I (a % k)) [] []:=by
 refine G13' rfl BxOK.nil fun cx hm0=>go_in 5000 ?_
 unfold A13' R13'
 have hr:-k<a.tmod k∧a.tmod k<k:=by
  rcases Int.le_total 0 a with h0|h0
  ·rw[tmod_pos h0];have:=Int.emod_nonneg a (show k ≠ 0 by omega);have:=Int.emod_lt_of_pos a h;omega
  ·have e:=Int.neg_tmod (-a) k
   rw[Int.neg_neg,tmod_pos (x:=-a) (by omega)] at e
   have:=Int.emod_nonneg (-a) (show k ≠ 0 by omega);have:=Int.emod_lt_of_pos (-a) h
   rw[e];omega
 have he:(a.tmod k+k).tmod k=a % k:=by
  rw[tmod_pos (by omega),Int.add_emod_right,Int.tmod_def,Int.sub_mul_emod_self_left]
 repeat' (first|simp (maxSteps:=9999999) only[↓GE,PL,PP,EE,QQ,seval]|(simp (disch:=omega) only[i6])|(apply go_brD<;>intro h)|(apply go_gsD aE<;>intro h)|(apply go_br<;>intro h)|(apply go_gs aE<;>intro h)|(with_reducible apply And.intro)|exact aG|fail)
 ((first|apply ret_mk []|apply end_mk []);(· exact aR);(· ((try simp only[CC,LL,EE,QQ,seval]) <;> repeat' (first|exact aD|(with_reducible apply And.intro)|(simp [*,he];done)|(simp [*,he];omega)|(simp_all [he];done)|(simp_all [he];omega))));all_goals (first|((try simp only[CC,LL,EE,QQ,seval]) <;> (repeat' (first|(with_reducible apply And.intro)|trivial|rfl|(simp [he];done)));done)|exact aF))
theorem sameI (a b:List Int) (ha:a.length≤17592186044416) (hb:b.length≤17592186044416):Does Tryz.prog 20 [.d (dInts a),.d (dInts b)] [] (B (decide (a=b))) [] []:=by
 refine G18' rfl BxOK.nil fun cx hm0=>go_in 5000 ?_
 unfold A18' R18'
 repeat' (first|simp (maxSteps:=9999999) only[↓GE,PL,PP,EE,QQ,seval,lm]|(simp (disch:=omega) only[i6])|(apply go_brD<;>intro h)|(apply go_gsD aE<;>intro h)|(apply go_br<;>intro h)|(apply go_gs aE<;>intro h)|(with_reducible apply And.intro)|exact aG|fail)
 ·have hv:decide (a=b)=false:=df fun e=>by subst e;simp at h
  ((first|apply ret_mk []|apply end_mk []);(· exact aR);(· ((try simp only[CC,LL,EE,QQ,seval]) <;> repeat' (first|exact aD|(with_reducible apply And.intro)|(simp [*,hv];done)|(simp [*,hv];omega)|(simp_all [hv];done)|(simp_all [hv];omega))));all_goals (first|((try simp only[CC,LL,EE,QQ,seval]) <;> (repeat' (first|(with_reducible apply And.intro)|trivial|rfl|(simp [hv];done)));done)|exact aF))
 have hl:a.length=b.length:=by simp at h;omega
 refine go_loop 5000 hm0 (ι:={k:Nat // k≤a.length∧∀ j,j<k→a.getD j 0=b.getD j 0}) (fun i=>[(0,.d (dInts a)),(1,.d (dInts b)),(4,B false),(12,I a.length),(13,I i.1)]) (fun i=>[]) (fun i=>a.length-i.1) [] ⟨0,by omega,fun j h=>by omega⟩ ?_ ?_
 ·exact aH
 ·rintro⟨k,hk,hv⟩
  by_cases hkl:k<a.length
  ·have hs:=getD_map eI [] 0 a k hkl
   have hs':=getD_map eI [] 0 b k (by omega)
   repeat' (first|simp (maxSteps:=9999999) only[↓GE,PL,PP,EE,QQ,seval,hs,hs',eI]|(simp (disch:=omega) only[i6])|(apply go_brD<;>intro h)|(apply go_gsD aE<;>intro h)|(apply go_br<;>intro h)|(apply go_gs aE<;>intro h)|(with_reducible apply And.intro)|exact aG|fail)
   ·have hv':decide (a=b)=false:=df fun e=>by subst e;simp at h
    ((first|apply ret_mk []|apply end_mk []);(· exact aR);(· ((try simp only[CC,LL,EE,QQ,seval]) <;> repeat' (first|exact aD|(with_reducible apply And.intro)|(simp [*,hv'];done)|(simp [*,hv'];omega)|(simp_all [hv'];done)|(simp_all [hv'];omega))));all_goals (first|((try simp only[CC,LL,EE,QQ,seval]) <;> (repeat' (first|(with_reducible apply And.intro)|trivial|rfl|(simp [hv'];done)));done)|exact aF))
   ·refine⟨⟨k+1,hkl,fun j hj=>?_⟩,?_,by simp only;omega⟩
    ·by_cases e:j=k
     ·subst e;simpa using h
     ·exact hv j (by omega)
    exact aH
  ·have:k=a.length:=by omega
   subst this
   have hv':decide (a=b)=true:=dt ((eq_iff_get 0 a b hl).2 hv)
   repeat' (first|simp (maxSteps:=9999999) only[↓GE,PL,PP,EE,QQ,seval]|(simp (disch:=omega) only[i6])|(apply go_brD<;>intro h)|(apply go_gsD aE<;>intro h)|(apply go_br<;>intro h)|(apply go_gs aE<;>intro h)|(with_reducible apply And.intro)|exact aG|fail)
   all_goals ((first|apply ret_mk []|apply end_mk []);(· exact aR);(· ((try simp only[CC,LL,EE,QQ,seval]) <;> repeat' (first|exact aD|(with_reducible apply And.intro)|(simp [*,hv'];done)|(simp [*,hv'];omega)|(simp_all [hv'];done)|(simp_all [hv'];omega))));all_goals (first|((try simp only[CC,LL,EE,QQ,seval]) <;> (repeat' (first|(with_reducible apply And.intro)|trivial|rfl|(simp [hv'];done)));done)|exact aF))
abbrev dk (l:List Int) (k:Nat):U:=[(900000,.box 0 [.d (dInts l),I k])]
abbrev dkp:V:=.bp 900000 0 0
def nextV (l:List Int) (k:Nat) (n:Int):Int:=if n<1∨l.length≤k then 0 else l.getD k 0 % n
def nextK (l:List Int) (k:Nat) (n:Int):Nat:=if n<1∨l.length≤k then k else k+1
theorem nextV_in (l:List Int) (k:Nat) (n:Int):0≤nextV l k n∧(1≤n→nextV l k n<n)∧(n<1→nextV l k n=0):=by
 unfold nextV
 split
 ·omega
 ·exact⟨Int.emod_nonneg _ (by omega),fun _=>Int.emod_lt_of_pos _ (by omega),by omega⟩
theorem few (l:List Int) (hl:l.length≤17592186044416):Does Tryz.prog 6 [.d (dInts l)] [] (B (decide (l.length≤500))) [] []:=by
 refine G4' rfl BxOK.nil fun cx hm0=>go_in 5000 ?_
 unfold A4' R4'
 repeat' (first|simp (maxSteps:=9999999) only[↓GE,PL,PP,EE,QQ,seval,lm]|(simp (disch:=omega) only[i6])|(apply go_brD<;>intro h)|(apply go_gsD aE<;>intro h)|(apply go_br<;>intro h)|(apply go_gs aE<;>intro h)|(with_reducible apply And.intro)|exact aG|fail)
 all_goals ((first|apply ret_mk []|apply end_mk []);(· exact aR);(· exact aZ);all_goals exact aF)
theorem next (l:List Int) (hl:l.length≤17592186044416) (k:Nat) (n:Int) (hn:n<4611686018427387904):Does Tryz.prog 9 [dkp,I n] (dk l k) (I (nextV l k n)) (dk l (nextK l k n)) []:=by
 by_cases h1:n<1
 ·rw[nextV,nextK,if_pos (.inl h1),if_pos (.inl h1)]
  have q1:decide (n<1)=true:=by simpa using h1
  refine G6' rfl BxOK.one fun cx hm0=>go_in 5000 ?_
  unfold A6' R6'
  repeat' (first|simp (maxSteps:=9999999) only[↓GE,PL,PP,EE,QQ,seval,q1]|(simp (disch:=omega) only[i6])|(apply go_brD<;>intro h)|(apply go_gsD aE<;>intro h)|(apply go_br<;>intro h)|(apply go_gs aE<;>intro h)|(with_reducible apply And.intro)|exact aG|fail)
  all_goals ((first|apply ret_mk []|apply end_mk []);(· exact aR);(· exact aZ);all_goals exact aF)
 ·have q1:decide (n<1)=false:=by simpa using h1
  by_cases h2:k<l.length
  ·have hs:=getD_map eI [] 0 l k h2
   rw[nextV,nextK,if_neg (by omega),if_neg (by omega)]
   generalize l.getD k 0=x at hs
   have q2:decide ((k:Int) ≥ (l.length:Int))=false:=by simpa using h2
   refine G6' rfl BxOK.one fun cx hm0=>go_in 5000 ?_
   unfold A6' R6'
   repeat' (first|simp (maxSteps:=9999999) only[↓GE,PL,PP,EE,QQ,seval,q1,q2,hs,eI,lm]|(simp (disch:=omega) only[i6])|(apply go_brD<;>intro h)|(apply go_gsD aE<;>intro h)|(apply go_br<;>intro h)|(apply go_gs aE<;>intro h)|(apply go_call 5000 (mmod x n (by omega) (by omega)) rfl rfl;iterate 4 (first|(exact CallForm.plain rfl)|exact aC))|(with_reducible apply And.intro)|exact aG|fail)
   all_goals ((first|apply ret_mk []|apply end_mk []);(· exact aR);(· exact aZ);all_goals exact aF)
  ·rw[nextV,nextK,if_pos (by omega),if_pos (by omega)]
   have q2:decide ((k:Int) ≥ (l.length:Int))=true:=by simpa using h2
   refine G6' rfl BxOK.one fun cx hm0=>go_in 5000 ?_
   unfold A6' R6'
   repeat' (first|simp (maxSteps:=9999999) only[↓GE,PL,PP,EE,QQ,seval,q1,q2,lm]|(simp (disch:=omega) only[i6])|(apply go_brD<;>intro h)|(apply go_gsD aE<;>intro h)|(apply go_br<;>intro h)|(apply go_gs aE<;>intro h)|(with_reducible apply And.intro)|exact aG|fail)
   all_goals ((first|apply ret_mk []|apply end_mk []);(· exact aR);(· exact aZ);all_goals exact aF)
theorem makeNew (l:List Int):Does Tryz.prog 7 [.d (dInts l)] [] (.bp 1000000 0 0) [] [.box 0 [.d (dInts l),I 0]]:=by
 refine G5' rfl BxOK.nil fun cx hm0=>go_in 5000 ?_
 unfold A5' R5'
 repeat' (first|simp (maxSteps:=9999999) only[↓GE,PL,PP,EE,QQ,seval]|(simp (disch:=omega) only[i6])|(apply go_brD<;>intro h)|(apply go_gsD aE<;>intro h)|(apply go_br<;>intro h)|(apply go_gs aE<;>intro h)|(with_reducible apply And.intro)|exact aG|fail)
 all_goals ((first|apply ret_mk [some 5]|apply end_mk [some 5]);(· exact aR);(· exact aZ);all_goals exact aF)
theorem does_at {P:Program} {f:FuncId} {xs:List V} {r:Value} (hr:r.oneCell'=true) (h:∀ (w:World) (m:M) (hd:H) (S:Nat→Prop) (us:List Value),(∀ b,S b→b<w.heap.size)→VRs m hd w S xs us→Calls P f us.toArray w fun e w'=>e=.returned r∧Below w.heap.size w w'):Does P f xs [] (.d (.at r)) [] []:=by
 intro w hd S X us _ hm hv
 refine (h w _ hd S us hm.lt hv).mono ?_
 rintro e w' ⟨rfl,hb⟩
 refine⟨_,hd,S,rfl,⟨hb.os,hb.tape,hb.output,hb.size,fun k hk _=>hb.block k hk⟩,⟨fun i o h=>by simp [ups,fresh] at h,fun i j oi oj b _ h=>by simp [ups,fresh] at h,fun b hb'=>Nat.lt_of_lt_of_le (hm.lt b hb') hb.size,hb.size,hm.sX⟩,?_,fun b h=>.inl h,Le.refl _ _⟩
 simp only[VR,D.is]
 exact⟨trivial,hr⟩
end Go.Proofs.YtacfbiegbdlldaaGreatDoor.Sim
