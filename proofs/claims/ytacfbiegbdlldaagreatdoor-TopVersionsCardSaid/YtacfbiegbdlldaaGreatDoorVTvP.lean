/- Tables, changes, digests: taken over from chapter 15. -/
import Derived.Test.YtacfbiegbdlldaaGreatDoorVTvN
import Derived.Test.YtacfbiegbdlldaaGreatDoorVTpDb
namespace Go.Proofs.YtacfbiegbdlldaaGreatDoor.Sim
open Go Go.RowKit Go.Deep
set_option maxRecDepth 100000
set_option maxHeartbeats 4000000
set_option linter.unusedVariables false
set_option linter.unusedSimpArgs false
attribute [local irreducible] Go Mean
structure PSet where
 idx:Int
 row:List Int
def eSet (s:PSet):List D:=[.at (.int .i64 s.idx),dInts s.row]
abbrev dSets (l:List PSet):D:=.sl 2 (l.map eSet)
structure PChg where
 fr:Int
 tt:Int
 count:Int
 sets:List PSet
abbrev vChg (c:PChg):V:=.ag [I c.fr,I c.tt,I c.count,.d (dSets c.sets)]
def numF (n:Int):Bool:=decide (1≤n)&&decide (n<2147483647)
theorem numbered (n:Int):Does Tryz.prog 91 [I n] [] (B (numF n)) [] []:=by
 refine G53' rfl BxOK.nil fun cx hm0=>go_in 5000 ?_
 unfold A53' R53'
 repeat' (first|simp (maxSteps:=9999999) only[↓GE,PL,PP,EE,QQ,seval]|(simp (disch:=omega) only[i6])|(apply go_brD<;>intro h)|(apply go_gsD aE<;>intro h)|(apply go_br<;>intro h)|(apply go_gs aE<;>intro h)|(with_reducible apply And.intro)|exact aG|fail)
 all_goals
  (first|apply ret_mk []|apply end_mk []);(· exact aR)
  ·simp only[CC,LL,EE,QQ,seval]
   simp [numF, *] <;> omega
  ·trivial
  ·decide
  ·trivial
theorem own (s:PSet) (hl:s.row.length≤17592186044416):Does Tryz.prog 63 [.ag [I s.idx,.d (dInts s.row)]] [] (.ag [I s.idx,.og 1000000 0]) [] [.arr 0 1 true (s.row.map eI)]:=by
 refine G50' rfl BxOK.nil fun cx hm0=>go_in 5000 ?_
 unfold A50' R50'
 repeat' (first|simp (maxSteps:=9999999) only[↓GE,PL,PP,EE,QQ,seval]|(simp (disch:=omega) only[i6])|(apply go_brD<;>intro h)|(apply go_gsD aE<;>intro h)|(apply go_br<;>intro h)|(apply go_gs aE<;>intro h)|(apply go_call 5000 (cloneInts _ hl) rfl rfl;iterate 4 (first|(exact CallForm.news rfl rfl)|exact aC))|(with_reducible apply And.intro)|exact aG|fail)
 (first|apply ret_mk [some 9000]|apply end_mk [some 9000]);(· exact aR)
 all_goals exact aF
def formGo (count:Int):Int→List PSet→Bool
 |_,[]=>true
 |last,s :: r=>if s.idx≤last∨s.idx ≥ count then false else formGo count s.idx r
def formF (c:PChg):Bool:=numF c.fr&&numF c.tt&&decide (c.fr<c.tt)&&decide (0≤c.count)&&decide (c.count≤1024)&&formGo c.count (-1) c.sets
def noSet:PSet:=⟨0,[]⟩
theorem formed (c:PChg) (hl:c.sets.length≤17592186044416):Does Tryz.prog 64 [vChg c] [] (B (formF c)) [] []:=by
 refine G51' rfl BxOK.nil fun cx hm0=>go_in 5000 ?_
 unfold A51' R51'
 repeat' (first|simp (maxSteps:=9999999) only[↓GE,PL,PP,EE,QQ,seval]|(simp (disch:=omega) only[i6])|(apply go_brD<;>intro h)|(apply go_gsD aE<;>intro h)|(apply go_br<;>intro h)|(apply go_gs aE<;>intro h)|(apply go_call 5000 (numbered _) rfl rfl;iterate 4 (first|(exact CallForm.plain rfl)|exact aC))|(with_reducible apply And.intro)|exact aG|fail)
 any_goals ((first|apply ret_mk []|apply end_mk []);(· exact aR);(· ((try simp only[CC,LL,EE,QQ,seval]) <;> repeat' (first|exact aD|(with_reducible apply And.intro)|(simp [*,formF];done)|(simp [*,formF];omega)|(simp_all [formF];done)|(simp_all [formF];omega))));all_goals (first|((try simp only[CC,LL,EE,QQ,seval]) <;> (repeat' (first|(with_reducible apply And.intro)|trivial|rfl|(simp [formF];done)));done)|exact aF))
 refine go_loop 5000 hm0 (ι:={p:Nat × Int // p.1≤c.sets.length∧formGo c.count (-1) c.sets=formGo c.count p.2 (c.sets.drop p.1)}) (fun i=>[(1,.bp 1 0 0),(2,B false),(3,I i.1.2),(34,.d (dSets c.sets)),(35,I c.sets.length),(36,I i.1.1)]) (fun i=>[(1,.box 0 [I c.fr,I c.tt,I c.count,.d (dSets c.sets)])]) (fun i=>c.sets.length-i.1.1) [] ⟨(0,-1),by simp⟩ ?_ ?_
 ·exact aH
 ·rintro⟨⟨k,last⟩,hk,hv⟩
  by_cases hkl:k<c.sets.length
  ·have hs:=getD_map eSet [] noSet c.sets k hkl
   rw[drop_get noSet _ _ hkl] at hv
   generalize c.sets.getD k noSet=s at hs hv
   simp only[formGo] at hv
   repeat' (first|simp (maxSteps:=9999999) only[↓GE,PL,PP,EE,QQ,seval,hs,eSet]|(simp (disch:=omega) only[i6])|(apply go_brD<;>intro h)|(apply go_gsD aE<;>intro h)|(apply go_br<;>intro h)|(apply go_gs aE<;>intro h)|(with_reducible apply And.intro)|exact aG|fail)
   any_goals ((first|apply ret_mk []|apply end_mk []);(· exact aR);(· ((try simp only[CC,LL,EE,QQ,seval]) <;> repeat' (first|exact aD|(with_reducible apply And.intro)|(simp [*,formF];done)|(simp [*,formF];omega)|(simp_all [formF];done)|(simp_all [formF];omega))));all_goals (first|((try simp only[CC,LL,EE,QQ,seval]) <;> (repeat' (first|(with_reducible apply And.intro)|trivial|rfl|(simp [formF];done)));done)|exact aF))
   refine⟨⟨(k+1,s.idx),hkl,by rw[hv,if_neg (by omega)]⟩,?_,by simp only;omega⟩
   exact aH
  ·have:k=c.sets.length:=by simp only at hk;omega
   subst this
   simp only[List.drop_length,formGo] at hv
   repeat' (first|simp (maxSteps:=9999999) only[↓GE,PL,PP,EE,QQ,seval]|(simp (disch:=omega) only[i6])|(apply go_brD<;>intro h)|(apply go_gsD aE<;>intro h)|(apply go_br<;>intro h)|(apply go_gs aE<;>intro h)|(with_reducible apply And.intro)|exact aG|fail)
   all_goals ((first|apply ret_mk []|apply end_mk []);(· exact aR);(· ((try simp only[CC,LL,EE,QQ,seval]) <;> repeat' (first|exact aD|(with_reducible apply And.intro)|(simp [*,formF];done)|(simp [*,formF];omega)|(simp_all [formF];done)|(simp_all [formF];omega))));all_goals (first|((try simp only[CC,LL,EE,QQ,seval]) <;> (repeat' (first|(with_reducible apply And.intro)|trivial|rfl|(simp [formF];done)));done)|exact aF))
def behindF (index:Int) (l:List PSet):Nat:=l.countP fun s=>decide (s.idx ≥ index)
theorem behind (c:PChg) (x:Int) (hl:c.sets.length≤17592186044416):Does Tryz.prog 65 [vChg c,I x] [] (I (behindF x c.sets)) [] []:=by
 refine G52' rfl BxOK.nil fun cx hm0=>go_in 5000 ?_
 unfold A52' R52'
 repeat' (first|simp (maxSteps:=9999999) only[↓GE,PL,PP,EE,QQ,seval]|(simp (disch:=omega) only[i6])|(apply go_brD<;>intro h)|(apply go_gsD aE<;>intro h)|(apply go_br<;>intro h)|(apply go_gs aE<;>intro h)|(with_reducible apply And.intro)|exact aG|fail)
 refine go_loop 5000 hm0 (ι:={p:Nat × Nat // p.1≤c.sets.length∧p.2≤p.1∧behindF x c.sets=p.2+behindF x (c.sets.drop p.1)}) (fun i=>[(1,I x),(2,.bp 2 0 0),(5,I i.1.2),(9,.d (dSets c.sets)),(10,I c.sets.length),(11,I i.1.1)]) (fun i=>[(2,.box 0 [I c.fr,I c.tt,I c.count,.d (dSets c.sets)])]) (fun i=>c.sets.length-i.1.1) [] ⟨(0,0),by simp⟩ ?_ ?_
 ·exact aH
 ·rintro⟨⟨k,n⟩,hk,hn,hv⟩
  by_cases hkl:k<c.sets.length
  ·have hs:=getD_map eSet [] noSet c.sets k hkl
   rw[drop_get noSet _ _ hkl] at hv
   generalize c.sets.getD k noSet=s at hs hv
   simp only[behindF,List.countP_cons] at hv
   repeat' (first|simp (maxSteps:=9999999) only[↓GE,PL,PP,EE,QQ,seval,hs,eSet]|(simp (disch:=omega) only[i6])|(apply go_brD<;>intro h)|(apply go_gsD aE<;>intro h)|(apply go_br<;>intro h)|(apply go_gs aE<;>intro h)|(with_reducible apply And.intro)|exact aG|fail)
   ·refine⟨⟨(k+1,n+1),hkl,by omega,by simp_all [behindF];omega⟩,?_,by simp only;omega⟩
    exact aH
   ·refine⟨⟨(k+1,n),hkl,by omega,by simp_all [behindF]⟩,?_,by simp only;omega⟩
    exact aH
  ·have:k=c.sets.length:=by simp only at hk;omega
   subst this
   simp only[List.drop_length,behindF,List.countP_nil] at hv
   repeat' (first|simp (maxSteps:=9999999) only[↓GE,PL,PP,EE,QQ,seval]|(simp (disch:=omega) only[i6])|(apply go_brD<;>intro h)|(apply go_gsD aE<;>intro h)|(apply go_br<;>intro h)|(apply go_gs aE<;>intro h)|(with_reducible apply And.intro)|exact aG|fail)
   all_goals ((first|apply ret_mk []|apply end_mk []);(· exact aR);(· ((try simp only[CC,LL,EE,QQ,seval]) <;> repeat' (first|exact aD|(with_reducible apply And.intro)|(simp [*,behindF];done)|(simp [*,behindF];omega)|(simp_all [behindF];done)|(simp_all [behindF];omega))));all_goals (first|((try simp only[CC,LL,EE,QQ,seval]) <;> (repeat' (first|(with_reducible apply And.intro)|trivial|rfl|(simp [behindF];done)));done)|exact aF))
theorem r3check (p:Int):Does Tryz.prog 104 [.ag [I p]] [] (I (if fieldB p=true then 0 else 9)) [] []:=by
 refine G57' rfl BxOK.nil fun cx hm0=>go_in 5000 ?_
 unfold A57' R57'
 repeat' (first|simp (maxSteps:=9999999) only[↓GE,PL,PP,EE,QQ,seval]|(simp (disch:=omega) only[i6])|(apply go_brD<;>intro h)|(apply go_gsD aE<;>intro h)|(apply go_br<;>intro h)|(apply go_gs aE<;>intro h)|(with_reducible apply And.intro)|exact aG|fail)
 ·have hf:fieldB p=false:=fieldB_no (by omega)
  ((first|apply ret_mk []|apply end_mk []);(· exact aR);(· ((try simp only[CC,LL,EE,QQ,seval]) <;> repeat' (first|exact aD|(with_reducible apply And.intro)|(simp [*,hf];done)|(simp [*,hf];omega)|(simp_all [hf];done)|(simp_all [hf];omega))));all_goals (first|((try simp only[CC,LL,EE,QQ,seval]) <;> (repeat' (first|(with_reducible apply And.intro)|trivial|rfl|(simp [hf];done)));done)|exact aF))
 ·have hf:fieldB p=false:=fieldB_no (by omega)
  ((first|apply ret_mk []|apply end_mk []);(· exact aR);(· ((try simp only[CC,LL,EE,QQ,seval]) <;> repeat' (first|exact aD|(with_reducible apply And.intro)|(simp [*,hf];done)|(simp [*,hf];omega)|(simp_all [hf];done)|(simp_all [hf];omega))));all_goals (first|((try simp only[CC,LL,EE,QQ,seval]) <;> (repeat' (first|(with_reducible apply And.intro)|trivial|rfl|(simp [hf];done)));done)|exact aF))
 refine go_loop 5000 hm0 (ι:={d:Int // 2≤d∧d≤65522∧∀ e:Int,2≤e→e<d→p.tmod e ≠ 0}) (fun i=>[(1,.bp 1 0 0),(2,I 0),(3,I i.1)]) (fun i=>[(1,.box 0 [I p])]) (fun i=>(65523-i.1).toNat) [] ⟨2,by omega,by omega,fun e h1 h2=>by omega⟩ ?_ ?_
 ·exact aH
 ·rintro⟨d,hd,hd2,hn⟩
  have hb:=sq_le (show (0:Int)≤d by omega) hd2
  have hb2:=sq_ge (show (0:Int)≤d by omega)
  repeat' (first|simp (maxSteps:=9999999) only[↓GE,PL,PP,EE,QQ,seval]|(simp (disch:=omega) only[i6])|(apply go_brD<;>intro h)|(apply go_gsD aE<;>intro h)|(apply go_br<;>intro h)|(apply go_gs aE<;>intro h)|(with_reducible apply And.intro)|exact aG|fail)
  ·rename_i h
   have hf:fieldB p=false:=fieldB_no fun hh=>hh.2.2 d hd (by assumption) (by simpa using h)
   ((first|apply ret_mk []|apply end_mk []);(· exact aR);(· ((try simp only[CC,LL,EE,QQ,seval]) <;> repeat' (first|exact aD|(with_reducible apply And.intro)|(simp [*,hf];done)|(simp [*,hf];omega)|(simp_all [hf];done)|(simp_all [hf];omega))));all_goals (first|((try simp only[CC,LL,EE,QQ,seval]) <;> (repeat' (first|(with_reducible apply And.intro)|trivial|rfl|(simp [hf];done)));done)|exact aF))
  ·rename_i h
   refine⟨⟨d+1,by omega,by omega,fun e h1 h2=>?_⟩,?_,by simp only;omega⟩
   ·by_cases he:e=d
    ·subst he;simpa using h
    ·exact hn e h1 (by omega)
   ·exact aH
  ·have hf:fieldB p=true:=no_more hd (by omega) (by omega) hn (by assumption)
   ((first|apply ret_mk []|apply end_mk []);(· exact aR);(· ((try simp only[CC,LL,EE,QQ,seval]) <;> repeat' (first|exact aD|(with_reducible apply And.intro)|(simp [*,hf];done)|(simp [*,hf];omega)|(simp_all [hf];done)|(simp_all [hf];omega))));all_goals (first|((try simp only[CC,LL,EE,QQ,seval]) <;> (repeat' (first|(with_reducible apply And.intro)|trivial|rfl|(simp [hf];done)));done)|exact aF))
theorem r3in (p:Int) (l:List Int) (hl:l.length≤17592186044416):Does Tryz.prog 105 [.ag [I p],.d (dInts l)] [] (B (fieldB p&&l.all (inE p))) [] []:=by
 refine G58' rfl BxOK.nil fun cx hm0=>go_in 5000 ?_
 unfold A58' R58'
 cases hf:fieldB p with
 |false =>
  repeat' (first|simp (maxSteps:=9999999) only[↓GE,PL,PP,EE,QQ,seval,hf]|(simp (disch:=omega) only[i6])|(apply go_brD<;>intro h)|(apply go_gsD aE<;>intro h)|(apply go_br<;>intro h)|(apply go_gs aE<;>intro h)|(apply go_call 5000 (r3check p) rfl rfl;iterate 4 (first|(exact CallForm.plain rfl)|exact aC))|(with_reducible apply And.intro)|exact aG|fail)
  all_goals ((first|apply ret_mk []|apply end_mk []);(· exact aR);(· ((try simp only[CC,LL,EE,QQ,seval]) <;> repeat' (first|exact aD|(with_reducible apply And.intro)|(simp [*,hf];done)|(simp [*,hf];omega)|(simp_all [hf];done)|(simp_all [hf];omega))));all_goals (first|((try simp only[CC,LL,EE,QQ,seval]) <;> (repeat' (first|(with_reducible apply And.intro)|trivial|rfl|(simp [hf];done)));done)|exact aF))
 |true =>
  repeat' (first|simp (maxSteps:=9999999) only[↓GE,PL,PP,EE,QQ,seval,hf]|(simp (disch:=omega) only[i6])|(apply go_brD<;>intro h)|(apply go_gsD aE<;>intro h)|(apply go_br<;>intro h)|(apply go_gs aE<;>intro h)|(apply go_call 5000 (r3check p) rfl rfl;iterate 4 (first|(exact CallForm.plain rfl)|exact aC))|(with_reducible apply And.intro)|exact aG|fail)
  refine go_loop 5000 hm0 (ι:={k:Nat // k≤l.length∧l.all (inE p)=(l.drop k).all (inE p)}) (fun i=>[(2,.bp 2 0 0),(4,B false),(10,.d (dInts l)),(11,I l.length),(12,I i.1)]) (fun i=>[(2,.box 0 [I p])]) (fun i=>l.length-i.1) [] ⟨0,by simp⟩ ?_ ?_
  ·exact aH
  ·rintro⟨k,hk,hv⟩
   by_cases hkl:k<l.length
   ·have hs:=getD_map eI [] 0 l k hkl
    rw[drop_get 0 _ _ hkl] at hv
    generalize l.getD k 0=s at hs hv
    simp only[List.all_cons] at hv
    repeat' (first|simp (maxSteps:=9999999) only[↓GE,PL,PP,EE,QQ,seval,hs,eI]|(simp (disch:=omega) only[i6])|(apply go_brD<;>intro h)|(apply go_gsD aE<;>intro h)|(apply go_br<;>intro h)|(apply go_gs aE<;>intro h)|(with_reducible apply And.intro)|exact aG|fail)
    any_goals ((first|apply ret_mk []|apply end_mk []);(· exact aR);(· ((try simp only[CC,LL,EE,QQ,seval]) <;> repeat' (first|exact aD|(with_reducible apply And.intro)|(simp [*,hv,inE];done)|(simp [*,hv,inE];omega)|(simp_all [hv,inE];done)|(simp_all [hv,inE];omega))));all_goals (first|((try simp only[CC,LL,EE,QQ,seval]) <;> (repeat' (first|(with_reducible apply And.intro)|trivial|rfl|(simp [hv,inE];done)));done)|exact aF))
    refine⟨⟨k+1,hkl,?_⟩,?_,by simp only;omega⟩
    ·rw[hv,show inE p s=true by simp only[inE,Bool.and_eq_true,decide_eq_true_eq];omega,Bool.true_and]
    exact aH
   ·have:k=l.length:=by omega
    subst this
    simp only[List.drop_length,List.all_nil] at hv
    repeat' (first|simp (maxSteps:=9999999) only[↓GE,PL,PP,EE,QQ,seval]|(simp (disch:=omega) only[i6])|(apply go_brD<;>intro h)|(apply go_gsD aE<;>intro h)|(apply go_br<;>intro h)|(apply go_gs aE<;>intro h)|(with_reducible apply And.intro)|exact aG|fail)
    all_goals ((first|apply ret_mk []|apply end_mk []);(· exact aR);(· ((try simp only[CC,LL,EE,QQ,seval]) <;> repeat' (first|exact aD|(with_reducible apply And.intro)|(simp [*,hv];done)|(simp [*,hv];omega)|(simp_all [hv];done)|(simp_all [hv];omega))));all_goals (first|((try simp only[CC,LL,EE,QQ,seval]) <;> (repeat' (first|(with_reducible apply And.intro)|trivial|rfl|(simp [hv];done)));done)|exact aF))
def nodeF (a b:Int):Int:=(modP a*1000003+modP b+3) % 2147483647
def ShortS (l:List PSet):Prop:=∀ r ∈ l,r.row.length≤17592186044416
structure PTab where
 num:Int
 p:Int
 width:Int
 rows:List (List Int)
abbrev vTab (t:PTab):V:=.ag [I t.num,I t.p,I t.width,.d (dRows t.rows)]
def rowsErr (p w:Int):List (List Int)→Int
 |[]=>0
 |r :: l=>if (r.length:Int) ≠ w then 2 else if r.all (inE p)=true then rowsErr p w l else 9
noncomputable def chkT (t:PTab):Int:=if t.num<1∨t.num ≥ 2147483647 then 1 else if fieldB t.p=false then 9 else if t.width<1∨t.width > 64 then 1 else if t.rows.length > 1024 then 4 else rowsErr t.p t.width t.rows
theorem tcheck (t:PTab) (hl:t.rows.length≤17592186044416) (hs:Short t.rows):Does Tryz.prog 58 [vTab t] [] (I (chkT t)) [] []:=by
 refine G35' rfl BxOK.nil fun cx hm0=>go_in 5000 ?_
 unfold A35' R35'
 cases hf:fieldB t.p with
 |false =>
  have hv:chkT t=if t.num<1∨t.num ≥ 2147483647 then 1 else 9:=by simp [chkT,hf]
  repeat' (first|simp (maxSteps:=9999999) only[↓GE,PL,PP,EE,QQ,seval,hf,lm]|(simp (disch:=omega) only[i6])|(apply go_brD<;>intro h)|(apply go_gsD aE<;>intro h)|(apply go_br<;>intro h)|(apply go_gs aE<;>intro h)|(apply go_call 5000 (resOf t.p) rfl rfl;iterate 4 (first|(exact CallForm.plain rfl)|exact aC))|(with_reducible apply And.intro)|exact aG|fail)
  all_goals ((first|apply ret_mk []|apply end_mk []);(· exact aR);(· ((try simp only[CC,LL,EE,QQ,seval]) <;> repeat' (first|exact aD|(with_reducible apply And.intro)|(simp [*,hv];done)|(simp [*,hv];omega)|(simp_all [hv];done)|(simp_all [hv];omega))));all_goals (first|((try simp only[CC,LL,EE,QQ,seval]) <;> (repeat' (first|(with_reducible apply And.intro)|trivial|rfl|(simp [hv];done)));done)|exact aF))
 |true =>
  repeat' (first|simp (maxSteps:=9999999) only[↓GE,PL,PP,EE,QQ,seval,hf,lm]|(simp (disch:=omega) only[i6])|(apply go_brD<;>intro h)|(apply go_gsD aE<;>intro h)|(apply go_br<;>intro h)|(apply go_gs aE<;>intro h)|(apply go_call 5000 (resOf t.p) rfl rfl;iterate 4 (first|(exact CallForm.plain rfl)|exact aC))|(with_reducible apply And.intro)|exact aG|fail)
  any_goals ((first|apply ret_mk []|apply end_mk []);(· exact aR);(· ((try simp only[CC,LL,EE,QQ,seval]) <;> repeat' (first|exact aD|(with_reducible apply And.intro)|(simp [*,chkT,hf];done)|(simp [*,chkT,hf];omega)|(simp_all [chkT,hf];done)|(simp_all [chkT,hf];omega))));all_goals (first|((try simp only[CC,LL,EE,QQ,seval]) <;> (repeat' (first|(with_reducible apply And.intro)|trivial|rfl|(simp [chkT,hf];done)));done)|exact aF))
  have hv0:chkT t=rowsErr t.p t.width t.rows:=by
   simp only[chkT]
   rw[if_neg (by omega),if_neg (by simp [hf]),if_neg (by omega),if_neg (by omega)]
  refine go_loop 5000 hm0 (ι:={k:Nat // k≤t.rows.length∧rowsErr t.p t.width t.rows=rowsErr t.p t.width (t.rows.drop k)}) (fun i=>[(1,.bp 1 0 0),(2,I 0),(3,I t.p),(40,.d (dRows t.rows)),(41,I t.rows.length),(42,I i.1)]) (fun i=>[(1,.box 0 [I t.num,I t.p,I t.width,.d (dRows t.rows)])]) (fun i=>t.rows.length-i.1) [] ⟨0,by simp⟩ ?_ ?_
  ·exact aH
  ·rintro⟨k,hk,hv⟩
   by_cases hkl:k<t.rows.length
   ·have hs':=getD_map eR [] [] t.rows k hkl
    have hr:=hs _ (mem_getD [] t.rows k hkl)
    rw[drop_get [] _ _ hkl] at hv
    generalize t.rows.getD k []=r at hs' hv hr
    have hq:=allF t.p r hr
    repeat' (first|simp (maxSteps:=9999999) only[↓GE,PL,PP,EE,QQ,seval,hs',eR,hf,lm,Bool.true_and]|(simp (disch:=omega) only[i6])|(apply go_brD<;>intro h)|(apply go_gsD aE<;>intro h)|(apply go_br<;>intro h)|(apply go_gs aE<;>intro h)|(apply go_call 5000 (hq) rfl rfl;iterate 4 (first|(exact CallForm.plain rfl)|exact aC))|(with_reducible apply And.intro)|exact aG|fail)
    ·have h2:(r.length:Int) ≠ t.width:=by simpa using h
     have hv1:chkT t=2:=by rw[hv0,hv,rowsErr,if_pos h2]
     ((first|apply ret_mk []|apply end_mk []);(· exact aR);(· ((try simp only[CC,LL,EE,QQ,seval]) <;> repeat' (first|exact aD|(with_reducible apply And.intro)|(simp [*,hv1];done)|(simp [*,hv1];omega)|(simp_all [hv1];done)|(simp_all [hv1];omega))));all_goals (first|((try simp only[CC,LL,EE,QQ,seval]) <;> (repeat' (first|(with_reducible apply And.intro)|trivial|rfl|(simp [hv1];done)));done)|exact aF))
    ·have h2:(r.length:Int)=t.width:=by simp at *;assumption
     have hv1:chkT t=9:=by rw[hv0,hv,rowsErr,if_neg (by simpa using h2),if_neg (by simpa using h)]
     ((first|apply ret_mk []|apply end_mk []);(· exact aR);(· ((try simp only[CC,LL,EE,QQ,seval]) <;> repeat' (first|exact aD|(with_reducible apply And.intro)|(simp [*,hv1];done)|(simp [*,hv1];omega)|(simp_all [hv1];done)|(simp_all [hv1];omega))));all_goals (first|((try simp only[CC,LL,EE,QQ,seval]) <;> (repeat' (first|(with_reducible apply And.intro)|trivial|rfl|(simp [hv1];done)));done)|exact aF))
    ·have h2:(r.length:Int)=t.width:=by simp at *;assumption
     rw[rowsErr,if_neg (by simpa using h2),if_pos (by simpa using h)] at hv
     refine⟨⟨k+1,hkl,hv⟩,?_,by simp only;omega⟩
     exact aH
   ·have:k=t.rows.length:=by omega
    subst this
    simp only[List.drop_length,rowsErr] at hv
    rw[hv] at hv0
    repeat' (first|simp (maxSteps:=9999999) only[↓GE,PL,PP,EE,QQ,seval]|(simp (disch:=omega) only[i6])|(apply go_brD<;>intro h)|(apply go_gsD aE<;>intro h)|(apply go_br<;>intro h)|(apply go_gs aE<;>intro h)|(with_reducible apply And.intro)|exact aG|fail)
    all_goals ((first|apply ret_mk []|apply end_mk []);(· exact aR);(· ((try simp only[CC,LL,EE,QQ,seval]) <;> repeat' (first|exact aD|(with_reducible apply And.intro)|(simp [*,hv0];done)|(simp [*,hv0];omega)|(simp_all [hv0];done)|(simp_all [hv0];omega))));all_goals (first|((try simp only[CC,LL,EE,QQ,seval]) <;> (repeat' (first|(with_reducible apply And.intro)|trivial|rfl|(simp [hv0];done)));done)|exact aF))
theorem r14check (t:PTab) (hl:t.rows.length≤17592186044416) (hs:Short t.rows):Does Tryz.prog 90 [vTab t] [] (I (chkT t)) [] []:=by
 refine G56' rfl BxOK.nil fun cx hm0=>go_in 5000 ?_
 unfold A56' R56'
 cases hf:fieldB t.p with
 |false =>
  have hv:chkT t=if t.num<1∨t.num ≥ 2147483647 then 1 else 9:=by simp [chkT,hf]
  repeat' (first|simp (maxSteps:=9999999) only[↓GE,PL,PP,EE,QQ,seval,hf,lm]|(simp (disch:=omega) only[i6])|(apply go_brD<;>intro h)|(apply go_gsD aE<;>intro h)|(apply go_br<;>intro h)|(apply go_gs aE<;>intro h)|(apply go_call 5000 (r3check t.p) rfl rfl;iterate 4 (first|(exact CallForm.plain rfl)|exact aC))|(with_reducible apply And.intro)|exact aG|fail)
  all_goals ((first|apply ret_mk []|apply end_mk []);(· exact aR);(· ((try simp only[CC,LL,EE,QQ,seval]) <;> repeat' (first|exact aD|(with_reducible apply And.intro)|(simp [*,hv];done)|(simp [*,hv];omega)|(simp_all [hv];done)|(simp_all [hv];omega))));all_goals (first|((try simp only[CC,LL,EE,QQ,seval]) <;> (repeat' (first|(with_reducible apply And.intro)|trivial|rfl|(simp [hv];done)));done)|exact aF))
 |true =>
  repeat' (first|simp (maxSteps:=9999999) only[↓GE,PL,PP,EE,QQ,seval,hf,lm]|(simp (disch:=omega) only[i6])|(apply go_brD<;>intro h)|(apply go_gsD aE<;>intro h)|(apply go_br<;>intro h)|(apply go_gs aE<;>intro h)|(apply go_call 5000 (r3check t.p) rfl rfl;iterate 4 (first|(exact CallForm.plain rfl)|exact aC))|(with_reducible apply And.intro)|exact aG|fail)
  any_goals ((first|apply ret_mk []|apply end_mk []);(· exact aR);(· ((try simp only[CC,LL,EE,QQ,seval]) <;> repeat' (first|exact aD|(with_reducible apply And.intro)|(simp [*,chkT,hf];done)|(simp [*,chkT,hf];omega)|(simp_all [chkT,hf];done)|(simp_all [chkT,hf];omega))));all_goals (first|((try simp only[CC,LL,EE,QQ,seval]) <;> (repeat' (first|(with_reducible apply And.intro)|trivial|rfl|(simp [chkT,hf];done)));done)|exact aF))
  have hv0:chkT t=rowsErr t.p t.width t.rows:=by
   simp only[chkT]
   rw[if_neg (by omega),if_neg (by simp [hf]),if_neg (by omega),if_neg (by omega)]
  refine go_loop 5000 hm0 (ι:={k:Nat // k≤t.rows.length∧rowsErr t.p t.width t.rows=rowsErr t.p t.width (t.rows.drop k)}) (fun i=>[(1,.bp 1 0 0),(2,I 0),(33,.d (dRows t.rows)),(34,I t.rows.length),(35,I i.1)]) (fun i=>[(1,.box 0 [I t.num,I t.p,I t.width,.d (dRows t.rows)])]) (fun i=>t.rows.length-i.1) [] ⟨0,by simp⟩ ?_ ?_
  ·exact aH
  ·rintro⟨k,hk,hv⟩
   by_cases hkl:k<t.rows.length
   ·have hs':=getD_map eR [] [] t.rows k hkl
    have hr:=hs _ (mem_getD [] t.rows k hkl)
    rw[drop_get [] _ _ hkl] at hv
    generalize t.rows.getD k []=r at hs' hv hr
    have hq:=r3in t.p r hr
    repeat' (first|simp (maxSteps:=9999999) only[↓GE,PL,PP,EE,QQ,seval,hs',eR,hf,lm,Bool.true_and]|(simp (disch:=omega) only[i6])|(apply go_brD<;>intro h)|(apply go_gsD aE<;>intro h)|(apply go_br<;>intro h)|(apply go_gs aE<;>intro h)|(apply go_call 5000 (hq) rfl rfl;iterate 4 (first|(exact CallForm.plain rfl)|exact aC))|(with_reducible apply And.intro)|exact aG|fail)
    ·have h2:(r.length:Int) ≠ t.width:=by simpa using h
     have hv1:chkT t=2:=by rw[hv0,hv,rowsErr,if_pos h2]
     ((first|apply ret_mk []|apply end_mk []);(· exact aR);(· ((try simp only[CC,LL,EE,QQ,seval]) <;> repeat' (first|exact aD|(with_reducible apply And.intro)|(simp [*,hv1];done)|(simp [*,hv1];omega)|(simp_all [hv1];done)|(simp_all [hv1];omega))));all_goals (first|((try simp only[CC,LL,EE,QQ,seval]) <;> (repeat' (first|(with_reducible apply And.intro)|trivial|rfl|(simp [hv1];done)));done)|exact aF))
    ·have h2:(r.length:Int)=t.width:=by simp at *;assumption
     have hv1:chkT t=9:=by rw[hv0,hv,rowsErr,if_neg (by simpa using h2),if_neg (by simpa using h)]
     ((first|apply ret_mk []|apply end_mk []);(· exact aR);(· ((try simp only[CC,LL,EE,QQ,seval]) <;> repeat' (first|exact aD|(with_reducible apply And.intro)|(simp [*,hv1];done)|(simp [*,hv1];omega)|(simp_all [hv1];done)|(simp_all [hv1];omega))));all_goals (first|((try simp only[CC,LL,EE,QQ,seval]) <;> (repeat' (first|(with_reducible apply And.intro)|trivial|rfl|(simp [hv1];done)));done)|exact aF))
    ·have h2:(r.length:Int)=t.width:=by simp at *;assumption
     rw[rowsErr,if_neg (by simpa using h2),if_pos (by simpa using h)] at hv
     refine⟨⟨k+1,hkl,hv⟩,?_,by simp only;omega⟩
     exact aH
   ·have:k=t.rows.length:=by omega
    subst this
    simp only[List.drop_length,rowsErr] at hv
    rw[hv] at hv0
    repeat' (first|simp (maxSteps:=9999999) only[↓GE,PL,PP,EE,QQ,seval]|(simp (disch:=omega) only[i6])|(apply go_brD<;>intro h)|(apply go_gsD aE<;>intro h)|(apply go_br<;>intro h)|(apply go_gs aE<;>intro h)|(with_reducible apply And.intro)|exact aG|fail)
    all_goals ((first|apply ret_mk []|apply end_mk []);(· exact aR);(· ((try simp only[CC,LL,EE,QQ,seval]) <;> repeat' (first|exact aD|(with_reducible apply And.intro)|(simp [*,hv0];done)|(simp [*,hv0];omega)|(simp_all [hv0];done)|(simp_all [hv0];omega))));all_goals (first|((try simp only[CC,LL,EE,QQ,seval]) <;> (repeat' (first|(with_reducible apply And.intro)|trivial|rfl|(simp [hv0];done)));done)|exact aF))
theorem checkT_ok {t:PTab} (h:chkT t=0):fieldB t.p=true∧t.rows.length≤1024∧1≤t.num∧t.num<2147483647∧1≤t.width∧t.width≤64∧rowsErr t.p t.width t.rows=0:=by
 unfold chkT at h
 split at h
 ·cases h
 split at h
 ·cases h
 split at h
 ·cases h
 split at h
 ·cases h
 rename_i h1 h2 h3 h4
 exact⟨by simpa using h2,by omega,by omega,by omega,by omega,by omega,h⟩
theorem formF_ok {c:PChg} (h:formF c=true):1≤c.fr∧c.fr<c.tt∧c.tt<2147483647∧0≤c.count∧c.count≤1024∧formGo c.count (-1) c.sets=true:=by
 simp only[formF,numF,Bool.and_eq_true,decide_eq_true_eq] at h
 obtain⟨⟨⟨⟨⟨⟨h1,h2⟩,h3,h4⟩,h5⟩,h6⟩,h7⟩,h8⟩:=h
 exact⟨h1,h5,h4,h6,h7,h8⟩
def findF (x:Int):List PSet→Option (List Int)
 |[]=>none
 |s :: r=>if s.idx=x then some s.row else findF x r
theorem formGo_cons {count last:Int} {s:PSet} {r:List PSet}:formGo count last (s :: r)=true↔last<s.idx∧s.idx<count∧formGo count s.idx r=true:=by
 rw[formGo]
 split
 ·constructor
  ·intro h;cases h
  ·rintro⟨h1,h2,_⟩;omega
 ·exact⟨fun h=>⟨by omega,by omega,h⟩,fun h=>h.2.2⟩
theorem formGo_in {count:Int}:∀ {l:List PSet} {last:Int},formGo count last l=true→∀ s ∈ l,last<s.idx∧s.idx<count
 |[],_,_=>by simp
 |s :: r,last,h=>by
  obtain⟨h1,h2,h3⟩:=formGo_cons.1 h
  intro t ht
  rcases List.mem_cons.1 ht with rfl|ht
  ·exact⟨h1,h2⟩
  ·have:=formGo_in h3 t ht
   omega
theorem formGo_len {count:Int}:∀ {l:List PSet} {last:Int},formGo count last l=true→last<count→(l.length:Int)≤count-1-last
 |[],_,_,_=>by simp;omega
 |s :: r,last,h,hl=>by
  obtain⟨h1,h2,h3⟩:=formGo_cons.1 h
  have:=formGo_len h3 h2
  simp only[List.length_cons]
  omega
theorem findF_none {x:Int}:∀ {l:List PSet},(∀ s ∈ l,s.idx ≠ x)→findF x l=none
 |[],_=>rfl
 |s :: r,h=>by
  rw[findF,if_neg (h s List.mem_cons_self)]
  exact findF_none fun t ht=>h t (List.mem_cons_of_mem _ ht)
theorem behindF_all {x:Int} {l:List PSet} (h:∀ s ∈ l,s.idx ≥ x):behindF x l=l.length:=by
 rw[behindF,List.countP_eq_length]
 exact fun s hs=>by simpa using h s hs
theorem behind_all {count:Int}:∀ {l:List PSet} {last x:Int},formGo count last l=true→((behindF x l:Int)=max 0 (count-x)↔∀ i,x≤i→i<count→(findF i l).isSome=true)
 |[],last,x,h=>by
  simp only[behindF,List.countP_nil,findF,Option.isSome_none]
  constructor
  ·intro h2 i h3 h4;exfalso;have:(0:Int)=max 0 (count-x):=h2;omega
  ·intro h2
   have:¬x<count:=fun h3=>by have:=h2 x (Int.le_refl _) h3;cases this
   show (0:Int)=max 0 (count-x)
   omega
 |s :: r,last,x,h=>by
  obtain⟨h1,h2,h3⟩:=formGo_cons.1 h
  have hin:=formGo_in h3
  have hlen:=formGo_len h3 h2
  by_cases hx:s.idx<x
  ·have e1:behindF x (s :: r)=behindF x r:=by simp only[behindF,List.countP_cons];rw[if_neg (by simpa using hx)];rfl
   rw[e1,behind_all h3]
   constructor
   ·intro g i g1 g2;rw[findF,if_neg (by omega)];exact g i g1 g2
   ·intro g i g1 g2;have:=g i g1 g2;rwa [findF,if_neg (by omega)] at this
  ·have e1:behindF x (s :: r)=(s :: r).length:=behindF_all fun t ht=>by
    rcases List.mem_cons.1 ht with rfl|ht
    ·omega
    ·have:=hin t ht;omega
   rw[e1,List.length_cons]
   by_cases he:s.idx=x
   ·have e2:behindF (x+1) r=r.length:=behindF_all fun t ht=>by have:=hin t ht;omega
    have ih:=behind_all (x:=x+1) h3
    rw[e2] at ih
    constructor
    ·intro g i g1 g2
     rw[findF]
     split
     ·rfl
     ·exact (ih.1 (by omega)) i (by omega) g2
    ·intro g
     have:=ih.2 fun i g1 g2=>by have:=g i (by omega) g2;rwa [findF,if_neg (by omega)] at this
     omega
   ·constructor
    ·intro g;exfalso;omega
    ·intro g
     have:=g x (Int.le_refl _) (by omega)
     rw[findF_none fun t ht=>by
      rcases List.mem_cons.1 ht with rfl|ht
      ·exact he
      ·have:=hin t ht;omega] at this
     cases this
theorem getDset {α:Type} (z:α) (l:List α) (i j:Nat) (x:α):(l.set i x).getD j z=if i=j∧j<l.length then x else l.getD j z:=by
 simp only[List.getD_eq_getElem?_getD,List.getElem?_set]
 by_cases h:i=j
 ·subst h
  by_cases h2:i<l.length
  ·simp [h2]
  ·simp [h2]
 ·simp [h]
def noChg:PChg:=⟨0,0,0,[]⟩
def diffGo (ra:List (List Int)):Nat→List (List Int)→List PSet
 |_,[]=>[]
 |k,r :: l=>if k ≥ ra.length∨r ≠ ra.getD k [] then ⟨k,r⟩ :: diffGo ra (k+1) l else diffGo ra (k+1) l
noncomputable def betweenF (a b:PTab):PChg × Int:=if chkT a ≠ 0 then (noChg,chkT a) else if chkT b ≠ 0 then (noChg,chkT b) else
 if a.p ≠ b.p∨a.width ≠ b.width then (noChg,2) else if b.num≤a.num then (noChg,17) else (⟨a.num,b.num,b.rows.length,diffGo a.rows 0 b.rows⟩,0)
abbrev vC (x:PChg × Int):V:=.tu [.ag [I x.1.fr,I x.1.tt,I x.1.count,.og 1000000 0],I x.2]
abbrev oC (x:PChg × Int):O:=.arr 0 2 true (x.1.sets.map eSet)
theorem between (a b:PTab) (ha:a.rows.length≤17592186044416) (hsa:Short a.rows) (hb:b.rows.length≤17592186044416) (hsb:Short b.rows) (h1:chkT a=0) (h2:chkT b=0) (h3:¬(a.p ≠ b.p∨a.width ≠ b.width)) (h4:¬ b.num≤a.num):Does Tryz.prog 28 [vTab a,vTab b] [] (vC (betweenF a b)) [] [oC (betweenF a b)]:=by
 refine G48' rfl BxOK.nil fun cx hm0=>go_in 5000 ?_
 unfold A48' R48'
 obtain⟨_,ha2,_⟩:=checkT_ok h1
 obtain⟨_,hb2,_⟩:=checkT_ok h2
 have hv0:betweenF a b=if a.p ≠ b.p∨a.width ≠ b.width then (noChg,2) else if b.num≤a.num then (noChg,17) else (⟨a.num,b.num,b.rows.length,diffGo a.rows 0 b.rows⟩,0):=by
  rw[betweenF,if_neg (by simp [h1]),if_neg (by simp [h2])]
 rw[if_neg h3] at hv0
 rw[if_neg h4] at hv0
 rw[hv0]
 repeat' (first|simp (maxSteps:=9999999) only[↓GE,PL,PP,EE,QQ,seval,h1,h2,lm]|(simp (disch:=omega) only[i6])|(apply go_brD<;>intro h)|(apply go_gsD aE<;>intro h)|(apply go_br<;>intro h)|(apply go_gs aE<;>intro h)|(with_reducible apply And.intro)|exact aG|fail)
 (apply go_call 5000 (tcheck a ha hsa) rfl rfl;iterate 4 (first|(exact CallForm.plain rfl)|exact aC))
 repeat' (first|simp (maxSteps:=9999999) only[↓GE,PL,PP,EE,QQ,seval,h1,h2,lm]|(simp (disch:=omega) only[i6])|(apply go_brD<;>intro h)|(apply go_gsD aE<;>intro h)|(apply go_br<;>intro h)|(apply go_gs aE<;>intro h)|(with_reducible apply And.intro)|exact aG|fail)
 (apply go_call 5000 (tcheck b hb hsb) rfl rfl;iterate 4 (first|(exact CallForm.plain rfl)|exact aC))
 repeat' (first|simp (maxSteps:=9999999) only[↓GE,PL,PP,EE,QQ,seval,h1,h2,lm]|(simp (disch:=omega) only[i6])|(apply go_brD<;>intro h)|(apply go_gsD aE<;>intro h)|(apply go_br<;>intro h)|(apply go_gs aE<;>intro h)|(with_reducible apply And.intro)|exact aG|fail)
 any_goals (exfalso;simp at *;omega)
 refine go_loop 5000 hm0 (ι:={p:Nat × Nat × List (List D) // p.1≤b.rows.length∧p.2.2.length≤p.1∧(diffGo a.rows 0 b.rows).map eSet=p.2.2++(diffGo a.rows p.1 (b.rows.drop p.1)).map eSet}) (fun i=>[(2,.bp 2 0 0),(4,.bp 4 0 0),(8,.bp 8 0 0),(51,.d (dRows b.rows)),(52,I b.rows.length),(53,I i.1.1)]) (fun i=>[(2,.box 0 [I a.num,I a.p,I a.width,.d (dRows a.rows)]),(4,.box 0 [I 0,I 0,I 0,.nl 2]),(80,.arr i.1.2.1 2 true i.1.2.2),(8,.box 0 [I a.num,I b.num,I b.rows.length,.og 80 i.1.2.1])]) (fun i=>b.rows.length-i.1.1) [80] ⟨(0,0,[]),by simp⟩ ?_ ?_
 ·exact aH
 ·rintro⟨⟨k,v,acc⟩,hk,hl,hv⟩
  by_cases hkl:k<b.rows.length
  ·have hs':=getD_map eR [] [] b.rows k hkl
   have hr:=hsb _ (mem_getD [] b.rows k hkl)
   rw[drop_get [] _ _ hkl,diffGo] at hv
   generalize b.rows.getD k []=r at hs' hv hr
   simp only at hk hl hv
   by_cases hka:k<a.rows.length
   ·have hs2:=getD_map eR [] [] a.rows k hka
    have hr2:=hsa _ (mem_getD [] a.rows k hka)
    generalize a.rows.getD k []=q at hs2 hv hr2
    repeat' (first|simp (maxSteps:=9999999) only[↓GE,PL,PP,EE,QQ,seval,hs',hs2,eR,lm]|(simp (disch:=omega) only[i6])|(apply go_brD<;>intro h)|(apply go_gsD aE<;>intro h)|(apply go_br<;>intro h)|(apply go_gs aE<;>intro h)|(apply go_call 5000 (equalI r q hr hr2) rfl rfl;iterate 4 (first|(exact CallForm.plain rfl)|exact aC))|(apply go_call 5000 (own ⟨k,r⟩ hr) rfl rfl;iterate 4 (first|(exact CallForm.news rfl rfl)|exact aC))|(with_reducible apply And.intro)|exact aG|fail)
    ·rw[if_pos (.inr (by simpa using h))] at hv
     refine⟨⟨(k+1,v+1,acc++[[.at (.int .i64 k),dInts r]]),hkl,by simp;omega,by rw[hv];simp [eSet]⟩,?_,by simp only;omega⟩
     exact aH
    ·rw[if_neg (by simp at h;simp [h];omega)] at hv
     refine⟨⟨(k+1,v,acc),hkl,by simp only;omega,hv⟩,?_,by simp only;omega⟩
     exact aH
   ·repeat' (first|simp (maxSteps:=9999999) only[↓GE,PL,PP,EE,QQ,seval,hs',eR,lm]|(simp (disch:=omega) only[i6])|(apply go_brD<;>intro h)|(apply go_gsD aE<;>intro h)|(apply go_br<;>intro h)|(apply go_gs aE<;>intro h)|(apply go_call 5000 (own ⟨k,r⟩ hr) rfl rfl;iterate 4 (first|(exact CallForm.news rfl rfl)|exact aC))|(with_reducible apply And.intro)|exact aG|fail)
    rw[if_pos (.inl (by omega))] at hv
    refine⟨⟨(k+1,v+1,acc++[[.at (.int .i64 k),dInts r]]),hkl,by simp;omega,by rw[hv];simp [eSet]⟩,?_,by simp only;omega⟩
    exact aH
  ·have:k=b.rows.length:=by simp only at hk;omega
   subst this
   simp only[List.drop_length,diffGo,List.map_nil,List.append_nil] at hv
   subst hv
   repeat' (first|simp (maxSteps:=9999999) only[↓GE,PL,PP,EE,QQ,seval]|(simp (disch:=omega) only[i6])|(apply go_brD<;>intro h)|(apply go_gsD aE<;>intro h)|(apply go_br<;>intro h)|(apply go_gs aE<;>intro h)|(with_reducible apply And.intro)|exact aG|fail)
   clear hv0
   all_goals ((first|apply ret_mk [some 80]|apply end_mk [some 80]);(· exact aR);(· exact aZ);all_goals exact aF)
def noTab:PTab:=⟨0,0,0,[]⟩
abbrev vT (x:PTab × Int):V:=.tu [.ag [I x.1.num,I x.1.p,I x.1.width,.og 1000000 0],I x.2]
abbrev oT (x:PTab × Int):O:=.arr 0 1 true (x.1.rows.map eR)
theorem formF_len {c:PChg} (h:formF c=true):c.sets.length≤1024:=by
 obtain⟨_,_,_,h0,h1,h2⟩:=formF_ok h
 by_cases hc:(-1:Int)<c.count
 ·have:=formGo_len h2 hc
  omega
 ·omega
def knownB (n:Nat) (c:PChg):Bool:=decide ((behindF n c.sets:Int)=max 0 (c.count-n))
def digL (l:List Int) (c:PChg):List Int:=(List.range c.count.toNat).map fun (i:Nat)=>match findF i c.sets with
 |some r=>rowF r
 |none=>l.getD i 0
def digsF (l:List Int) (c:PChg):List Int × Int:=if formF c=true∧l.length≤1024∧knownB l.length c=true then (digL l c,0) else ([],2)
abbrev vL (x:List Int × Int):V:=.tu [.og 1000000 0,I x.2]
abbrev oL (x:List Int × Int):O:=.arr 0 1 true (x.1.map eI)
def setDig:List Int→List PSet→List Int
 |cur,[]=>cur
 |cur,s :: r=>setDig (cur.set s.idx.toNat (rowF s.row)) r
theorem setDig_len:∀ {l:List PSet} {cur:List Int},(setDig cur l).length=cur.length
 |[],_=>rfl
 |s :: r,cur=>by rw[setDig,setDig_len,List.length_set]
theorem setDig_get {count:Int}:∀ {l:List PSet} {last:Int} {cur:List Int},formGo count last l=true→-1≤last→count≤cur.length→∀ i:Nat,(setDig cur l).getD i 0=(match findF i l with
   |some r=>rowF r
   |none=>cur.getD i 0)
 |[],_,_,_,_,_,_=>rfl
 |s :: r,last,cur,h,h0,hc,i=>by
  obtain⟨h1,h2,h3⟩:=formGo_cons.1 h
  have hin:=formGo_in h3
  rw[setDig,setDig_get h3 (by omega) (by simpa using hc) i,findF,getDset]
  by_cases he:s.idx=(i:Int)
  ·rw[if_pos he,if_pos (by omega),findF_none fun t ht=>by have:=hin t ht;omega]
  ·rw[if_neg he,if_neg (by omega)]
theorem digL_len {l:List Int} {c:PChg}:(digL l c).length=c.count.toNat:=by simp [digL]
theorem digL_get {l:List Int} {c:PChg} {i:Nat} (h:i<c.count.toNat):(digL l c).getD i 0=match findF i c.sets with
 |some r=>rowF r
 |none=>l.getD i 0:=by
 simp [digL,List.getD_eq_getElem?_getD,h]
theorem setDig_apply {l:List Int} {c:PChg} (h:formGo c.count (-1) c.sets=true) (h0:0≤c.count) (cur:List Int) (hl:cur.length=c.count.toNat) (hg:∀ i,i<c.count.toNat→cur.getD i 0=l.getD i 0):setDig cur c.sets=digL l c:=by
 apply (eq_iff_get 0 _ _ (by rw[setDig_len,digL_len,hl])).2
 intro k hk
 rw[setDig_len,hl] at hk
 rw[setDig_get h (by omega) (by omega) k,digL_get hk,hg k hk]
theorem digests (l:List Int) (c:PChg) (hl:l.length≤17592186044416) (hc:c.sets.length≤17592186044416) (hd:ShortS c.sets):Does Tryz.prog 30 [.d (dInts l),vChg c] [] (vL (digsF l c)) [] [oL (digsF l c)]:=by
 refine G49' rfl BxOK.nil fun cx hm0=>go_in 5000 ?_
 unfold A49' R49'
 by_cases h1:formF c=true
 case neg =>
  have h1:formF c=false:=by simpa using h1
  have hv:digsF l c=([],2):=by simp [digsF,h1]
  rw[hv]
  repeat' (first|simp (maxSteps:=9999999) only[↓GE,PL,PP,EE,QQ,seval,h1]|(simp (disch:=omega) only[i6])|(apply go_brD<;>intro h)|(apply go_gsD aE<;>intro h)|(apply go_br<;>intro h)|(apply go_gs aE<;>intro h)|(apply go_call 5000 (formed c hc) rfl rfl;iterate 4 (first|(exact CallForm.plain rfl)|exact aC))|(with_reducible apply And.intro)|exact aG|fail)
  all_goals ((first|apply ret_mk [none]|apply end_mk [none]);(· exact aR);(· exact aZ);all_goals exact aF)
 by_cases h2:l.length≤1024
 case neg =>
  have hv:digsF l c=([],2):=by simp [digsF,h1,h2]
  rw[hv]
  have q:decide ((l.length:Int) > 1024)=true:=by simp;omega
  repeat' (first|simp (maxSteps:=9999999) only[↓GE,PL,PP,EE,QQ,seval,h1,q,lm]|(simp (disch:=omega) only[i6])|(apply go_brD<;>intro h)|(apply go_gsD aE<;>intro h)|(apply go_br<;>intro h)|(apply go_gs aE<;>intro h)|(apply go_call 5000 (formed c hc) rfl rfl;iterate 4 (first|(exact CallForm.plain rfl)|exact aC))|(with_reducible apply And.intro)|exact aG|fail)
  all_goals ((first|apply ret_mk [none]|apply end_mk [none]);(· exact aR);(· exact aZ);all_goals exact aF)
 have q:decide ((l.length:Int) > 1024)=false:=by simp;omega
 obtain⟨hf1,hf2,hf3,hf4,hf5,hf6⟩:=formF_ok h1
 have hlen:=formF_len h1
 by_cases h3:knownB l.length c=true
 case neg =>
  have hv:digsF l c=([],2):=by simp [digsF,h1,h2,h3]
  rw[hv]
  have q2:(((behindF (l.length:Int) c.sets:Nat):Int) != max 0 (c.count-l.length))=true:=by simpa [knownB] using h3
  have q3:IntKind.i64.wrap (c.count-l.length)=c.count-l.length:=i6 _ (by omega)
  repeat' (first|simp (maxSteps:=9999999) only[↓GE,PL,PP,EE,QQ,seval,h1,q,q2,q3,lm]|(simp (disch:=omega) only[i6])|(apply go_brD<;>intro h)|(apply go_gsD aE<;>intro h)|(apply go_br<;>intro h)|(apply go_gs aE<;>intro h)|(apply go_call 5000 (formed c hc) rfl rfl;iterate 4 (first|(exact CallForm.plain rfl)|exact aC))|(apply go_call 5000 (behind c _ hc) rfl rfl;iterate 4 (first|(exact CallForm.plain rfl)|exact aC))|(with_reducible apply And.intro)|exact aG|fail)
  all_goals ((first|apply ret_mk [none]|apply end_mk [none]);(· exact aR);(· exact aZ);all_goals exact aF)
 have hv:digsF l c=(digL l c,0):=by simp [digsF,h1,h2,h3]
 rw[hv]
 have q2:(((behindF (l.length:Int) c.sets:Nat):Int) != max 0 (c.count-l.length))=false:=by simpa [knownB] using h3
 have q3:IntKind.i64.wrap (c.count-l.length)=c.count-l.length:=i6 _ (by omega)
 repeat' (first|simp (maxSteps:=9999999) only[↓GE,PL,PP,EE,QQ,seval,h1,q,q2,q3,lm]|(simp (disch:=omega) only[i6])|(apply go_brD<;>intro h)|(apply go_gsD aE<;>intro h)|(apply go_br<;>intro h)|(apply go_gs aE<;>intro h)|(apply go_call 5000 (formed c hc) rfl rfl;iterate 4 (first|(exact CallForm.plain rfl)|exact aC))|(apply go_call 5000 (behind c _ hc) rfl rfl;iterate 4 (first|(exact CallForm.plain rfl)|exact aC))|(with_reducible apply And.intro)|exact aG|fail)
 refine go_loop 5000 hm0 (ι:={p:Nat × List Int // p.1≤c.sets.length∧p.2.length=c.count.toNat∧setDig p.2 (c.sets.drop p.1)=digL l c}) (fun i=>[(6,.og 32 0),(37,.d (dSets c.sets)),(38,I c.sets.length),(39,I i.1.1)]) (fun i=>[(32,.arr 0 1 true (i.1.2.map eI))]) (fun i=>c.sets.length-i.1.1) [] ⟨(0,l.take c.count.toNat++List.replicate (c.count.toNat-l.length) 0),by simp,by simp;omega,setDig_apply hf6 hf4 _ (by simp;omega) fun i hi=>by
   simp only[List.getD_eq_getElem?_getD,List.getElem?_append,List.length_take,List.getElem?_take,List.getElem?_replicate]
   by_cases h:i<l.length
   ·rw[if_pos (by omega),if_pos hi]
   ·rw[if_neg (by omega),List.getElem?_eq_none (by omega)]
    split <;> rfl⟩ ?_ ?_
 ·(simp only[GeS];refine⟨?_,?_,?_,?_⟩;all_goals (repeat' (first|(with_reducible exact True.intro)|(with_reducible rfl)|simp only[XC,↓reduceIte,seval]|(with_reducible apply And.intro)|(refine⟨_,rfl,?_⟩)|(simp [List.map_take,List.map_replicate,eI];done)|exact aS|fail)))
 ·rintro⟨⟨k,cur⟩,hk,hcl,hv⟩
  simp only at hk hcl hv
  by_cases hkl:k<c.sets.length
  ·have hs1:=getD_map eSet [] noSet c.sets k hkl
   have hm:=mem_getD noSet c.sets k hkl
   have hr1:=hd _ hm
   have hin:=formGo_in hf6 _ hm
   rw[drop_get noSet _ _ hkl,setDig] at hv
   generalize c.sets.getD k noSet=s at hs1 hv hr1 hin
   have hs3:=getD_map eI [] 0 cur s.idx.toNat (by omega)
   have qk:s.idx.toNat<cur.length:=by omega
   repeat' (first|simp (maxSteps:=9999999) only[↓GE,PL,PP,EE,QQ,seval,hs1,hs3,qk,eI,eSet,lm]|(simp (disch:=omega) only[i6])|(apply go_brD<;>intro h)|(apply go_gsD aE<;>intro h)|(apply go_br<;>intro h)|(apply go_gs aE<;>intro h)|(apply go_call 5000 (drow _ hr1) rfl rfl;iterate 4 (first|(exact CallForm.plain rfl)|exact aC))|(with_reducible apply And.intro)|exact aG|fail)
   refine⟨⟨(k+1,cur.set s.idx.toNat (rowF s.row)),hkl,by simp [hcl],hv⟩,?_,by simp only;omega⟩
   (simp only[GeS];refine⟨?_,?_,?_,?_⟩;all_goals (repeat' (first|(with_reducible exact True.intro)|(with_reducible rfl)|simp only[XC,↓reduceIte,seval]|(with_reducible apply And.intro)|(refine⟨_,rfl,?_⟩)|(simp [List.map_set,eI];done)|exact aS|fail)))
  ·have:k=c.sets.length:=by omega
   subst this
   simp only[List.drop_length,setDig] at hv
   subst hv
   repeat' (first|simp (maxSteps:=9999999) only[↓GE,PL,PP,EE,QQ,seval]|(simp (disch:=omega) only[i6])|(apply go_brD<;>intro h)|(apply go_gsD aE<;>intro h)|(apply go_br<;>intro h)|(apply go_gs aE<;>intro h)|(with_reducible apply And.intro)|exact aG|fail)
   all_goals ((first|apply ret_mk [some 32]|apply end_mk [some 32]);(· exact aR);(· exact aZ);all_goals exact aF)
theorem knownB_iff {n:Nat} {c:PChg} (h:formF c=true):knownB n c=true↔∀ i:Nat,n≤i→i<c.count.toNat→(findF i c.sets).isSome=true:=by
 obtain⟨hf1,hf2,hf3,hf4,hf5,hf6⟩:=formF_ok h
 rw[knownB,decide_eq_true_eq,behind_all hf6]
 constructor
 ·intro g i h1 h2;exact g i (by omega) (by omega)
 ·intro g i h1 h2
  obtain⟨j,rfl⟩:=Int.eq_ofNat_of_zero_le (show 0≤i by omega)
  exact g j (by omega) (by omega)
theorem r14rows (l:List (List Int)) (hl:l.length≤10000000000) (hs:Short l):Does Tryz.prog 60 [.d (dRows l)] [] (.og 1000000 0) [] [.arr 0 1 true (l.map eR)]:=by
 refine G54' rfl BxOK.nil fun cx hm0=>go_in 5000 ?_
 unfold A54' R54'
 repeat' (first|simp (maxSteps:=9999999) only[↓GE,PL,PP,EE,QQ,seval,lm]|(simp (disch:=omega) only[i6])|(apply go_brD<;>intro h)|(apply go_gsD aE<;>intro h)|(apply go_br<;>intro h)|(apply go_gs aE<;>intro h)|(with_reducible apply And.intro)|exact aG|fail)
 refine go_loop 5000 hm0 (ι:={p:Nat × Nat // p.1≤l.length}) (fun i=>[(3,.og 16 i.1.2),(6,.d (dRows l)),(7,I l.length),(8,I i.1.1)]) (fun i=>[(16,.arr i.1.2 1 true ((l.take i.1.1).map eR))]) (fun i=>l.length-i.1.1) [16] ⟨(0,0),by simp⟩ ?_ ?_
 ·exact aH
 ·rintro⟨⟨j,v⟩,hj⟩
  simp only at hj
  have hlt:(l.take j).length=j:=by rw[List.length_take];omega
  by_cases hjn:j<l.length
  ·have hs1:=getD_map eR [] [] l j hjn
   have hr1:=hs _ (mem_getD [] l j hjn)
   have ht:=take_succ_getD ([]:List Int) l j hjn
   generalize l.getD j []=r at hs1 hr1 ht
   repeat' (first|simp (maxSteps:=9999999) only[↓GE,PL,PP,EE,QQ,seval,hs1,hlt,eR,lm]|(simp (disch:=omega) only[i6])|(apply go_brD<;>intro h)|(apply go_gsD aE<;>intro h)|(apply go_br<;>intro h)|(apply go_gs aE<;>intro h)|(with_reducible apply And.intro)|exact aG|fail)
   refine⟨⟨(j+1,v+1),hjn⟩,?_,by simp only;omega⟩
   (simp only[GeS];refine⟨?_,?_,?_,?_⟩;all_goals (repeat' (first|(with_reducible exact True.intro)|(with_reducible rfl)|simp only[XC,↓reduceIte,seval]|(with_reducible apply And.intro)|(refine⟨_,rfl,?_⟩)|(simp [ht,eR];done)|exact aS|fail)))
  ·have:j=l.length:=by omega
   subst this
   repeat' (first|simp (maxSteps:=9999999) only[↓GE,PL,PP,EE,QQ,seval,List.take_length]|(simp (disch:=omega) only[i6])|(apply go_brD<;>intro h)|(apply go_gsD aE<;>intro h)|(apply go_br<;>intro h)|(apply go_gs aE<;>intro h)|(with_reducible apply And.intro)|exact aG|fail)
   all_goals ((first|apply ret_mk [some 16]|apply end_mk [some 16]);(· exact aR);(· exact aZ);all_goals exact aF)
noncomputable def newF (t:PTab):PTab × Int:=if chkT t ≠ 0 then (noTab,chkT t) else (t,0)
theorem r14new (t:PTab) (hl:t.rows.length≤17592186044416) (hs:Short t.rows):Does Tryz.prog 61 [I t.num,.ag [I t.p],I t.width,.d (dRows t.rows)] [] (vT (newF t)) [] [oT (newF t)]:=by
 refine G55' rfl BxOK.nil fun cx hm0=>go_in 5000 ?_
 unfold A55' R55'
 by_cases h1:chkT t=0
 case neg =>
  have hv:newF t=(noTab,chkT t):=by simp [newF,h1]
  rw[hv]
  have h1':(chkT t != 0)=true:=by simpa using h1
  repeat' (first|simp (maxSteps:=9999999) only[↓GE,PL,PP,EE,QQ,seval,h1']|(simp (disch:=omega) only[i6])|(apply go_brD<;>intro h)|(apply go_gsD aE<;>intro h)|(apply go_br<;>intro h)|(apply go_gs aE<;>intro h)|(apply go_call 5000 (r14check t hl hs) rfl rfl;iterate 4 (first|(exact CallForm.plain rfl)|exact aC))|(with_reducible apply And.intro)|exact aG|fail)
  all_goals ((first|apply ret_mk [none]|apply end_mk [none]);(· exact aR);(· ((try simp only[CC,LL,EE,QQ,seval]) <;> repeat' (first|exact aD|(with_reducible apply And.intro)|(simp [*,noTab];done)|(simp [*,noTab];omega)|(simp_all [noTab];done)|(simp_all [noTab];omega))));all_goals (first|((try simp only[CC,LL,EE,QQ,seval]) <;> (repeat' (first|(with_reducible apply And.intro)|trivial|rfl|(simp [noTab];done)));done)|exact aF))
 have hv:newF t=(t,0):=by simp [newF,h1]
 rw[hv]
 have hck:=(checkT_ok h1).2.1
 repeat' (first|simp (maxSteps:=9999999) only[↓GE,PL,PP,EE,QQ,seval,h1]|(simp (disch:=omega) only[i6])|(apply go_brD<;>intro h)|(apply go_gsD aE<;>intro h)|(apply go_br<;>intro h)|(apply go_gs aE<;>intro h)|(apply go_call 5000 (r14check t hl hs) rfl rfl;iterate 4 (first|(exact CallForm.plain rfl)|exact aC))|(apply go_call 5000 (r14rows _ (by omega) hs) rfl rfl;iterate 4 (first|(exact CallForm.news rfl rfl)|exact aC))|(with_reducible apply And.intro)|exact aG|fail)
 all_goals ((first|apply ret_mk [some 26000]|apply end_mk [some 26000]);(· exact aR);(· exact aZ);all_goals exact aF)
def upF:List Int→List Int
 |a :: b :: l=>nodeF a b :: upF l
 |l=>l
theorem upF_two {a b:Int} {l:List Int}:upF (a :: b :: l)=nodeF a b :: upF l:=by rw[upF]
theorem upF_one {a:Int}:upF [a]=[a]:=by rw[upF];intro a b l h;cases h
theorem upF_nil:upF []=[]:=by rw[upF];intro a b l h;cases h
theorem upF_len:∀ {l:List Int},(upF l).length=(l.length+1) / 2
 |[]=>by rw[upF_nil];rfl
 |[a]=>by rw[upF_one];simp
 |a :: b :: l=>by rw[upF_two,List.length_cons,upF_len];simp only[List.length_cons];omega
def rootN:Nat→List Int→Int
 |0,l=>l.getD 0 0
 |n+1,l=>if l.length > 1 then rootN n (upF l) else l.getD 0 0
theorem rootN_any:∀ {n m:Nat} {l:List Int},l.length≤n+1→l.length≤m+1→rootN n l=rootN m l
 |0,0,l,_,_=>rfl
 |0,m+1,l,h,_=>by rw[rootN,rootN,if_neg (by omega)]
 |n+1,0,l,_,h=>by rw[rootN,rootN,if_neg (by omega)]
 |n+1,m+1,l,h1,h2=>by
  rw[rootN,rootN]
  split
  ·exact rootN_any (by rw[upF_len];omega) (by rw[upF_len];omega)
  ·rfl
structure PHead where
 num:Int
 p:Int
 count:Int
 width:Int
 root:Int
theorem rowsErr_ok {p w:Int} (hw:0≤w):∀ {rows:List (List Int)},rowsErr p w rows=0↔RowsOK p w rows
 |[]=>by simp [rowsErr,RowsOK]
 |r :: l=>by
  have ih:=rowsErr_ok (p:=p) hw (rows:=l)
  simp only[RowsOK,List.mem_cons,forall_eq_or_imp] at ih ⊢
  rw[rowsErr]
  split
  ·rename_i h;simp;omega
  ·rename_i h
   split
   ·rename_i h2
    rw[ih]
    exact⟨fun g=>⟨⟨by omega,h2⟩,g⟩,fun g=>g.2⟩
   ·rename_i h2
    exact⟨fun g=>by simp at g,fun g=>absurd g.1.2 h2⟩
theorem diffGo_find (ra:List (List Int)):∀ (l:List (List Int)) (k i:Nat),k≤i→i<k+l.length→findF i (diffGo ra k l)=if i ≥ ra.length∨l.getD (i-k) [] ≠ ra.getD i [] then some (l.getD (i-k) []) else none
 |[],k,i,h1,h2=>by simp at h2;omega
 |r :: l,k,i,h1,h2=>by
  rw[diffGo]
  by_cases e:i=k
  ·subst e
   rw[Nat.sub_self,List.getD_cons_zero]
   split
   ·rw[findF,if_pos rfl]
   ·refine findF_none fun s hs=>?_
    have key:∀ (l:List (List Int)) (k:Nat),∀ s ∈ diffGo ra k l,(k:Int)≤s.idx:=by
     intro l
     induction l with
     |nil=>intro k s hs;cases hs
     |cons r l ih =>
      intro k s hs
      rw[diffGo] at hs
      split at hs
      ·rcases List.mem_cons.1 hs with rfl|hs
       ·exact Int.le_refl _
       ·have:=ih (k+1) s hs;omega
      ·have:=ih (k+1) s hs;omega
    have:=key l (i+1) s hs
    omega
  ·have e2:i-k=(i-(k+1))+1:=by omega
   rw[e2,List.getD_cons_succ]
   have ih:=diffGo_find ra l (k+1) i (by omega) (by simp only[List.length_cons] at h2;omega)
   split
   ·rw[findF,if_neg (by simp only;omega)];exact ih
   ·exact ih
theorem diffGo_form (ra:List (List Int)) {count:Int}:∀ (l:List (List Int)) (k:Nat) (last:Int),last<k→k+l.length≤count→formGo count last (diffGo ra k l)=true
 |[],k,last,_,_=>rfl
 |r :: l,k,last,h1,h2=>by
  simp only[List.length_cons] at h2
  rw[diffGo]
  split
  ·exact formGo_cons.2 ⟨h1,by simp only;omega,diffGo_form ra l (k+1) k (by omega) (by omega)⟩
  ·exact diffGo_form ra l (k+1) last (by omega) (by omega)
theorem diffGo_mem (ra:List (List Int)):∀ (l:List (List Int)) (k:Nat),∀ s ∈ diffGo ra k l,s.row ∈ l
 |[],k,s,hs=>by cases hs
 |r :: l,k,s,hs=>by
  rw[diffGo] at hs
  split at hs
  ·rcases List.mem_cons.1 hs with rfl|hs
   ·exact List.mem_cons_self
   ·exact List.mem_cons_of_mem _ (diffGo_mem ra l (k+1) s hs)
  ·exact List.mem_cons_of_mem _ (diffGo_mem ra l (k+1) s hs)
structure Leads (x:PTab) (c:PChg) (y:PTab):Prop where
 form:formF c=true
 fr:c.fr=x.num
 tt:c.tt=y.num
 count:c.count=y.rows.length
 rows:∀ s ∈ c.sets,s.row.length=x.width.toNat∧s.row.all (inE x.p)=true
 find:∀ i:Nat,i<y.rows.length→findF i c.sets=some (y.rows.getD i [])∨(findF i c.sets=none∧i<x.rows.length∧x.rows.getD i []=y.rows.getD i [])
theorem between_leads {a b:PTab} (ha:chkT a=0) (hb:chkT b=0) (hp:a.p=b.p) (hw:a.width=b.width) (hn:a.num<b.num):betweenF a b=(⟨a.num,b.num,b.rows.length,diffGo a.rows 0 b.rows⟩,0)∧Leads a ⟨a.num,b.num,b.rows.length,diffGo a.rows 0 b.rows⟩ b:=by
 obtain⟨_,hl,hn1,hn2,hw1,hw2,hr⟩:=checkT_ok ha
 obtain⟨_,hbl,hm1,hm2,hv1,hv2,hbr⟩:=checkT_ok hb
 have hro:=(rowsErr_ok (p:=b.p) (by omega:0≤b.width)).1 hbr
 refine⟨by rw[betweenF,if_neg (by simp [ha]),if_neg (by simp [hb]),if_neg (by simp [hp,hw]),if_neg (by omega)],⟨?_,rfl,rfl,rfl,fun s hs=>?_,fun i hi=>?_⟩⟩
 ·have hg:=diffGo_form a.rows (count:=(b.rows.length:Int)) b.rows 0 (-1) (by omega) (by omega)
  simp only[formF,numF,hg,Bool.and_true,Bool.and_eq_true,decide_eq_true_eq]
  omega
 ·have:=hro _ (diffGo_mem _ _ _ s hs)
  rw[hp,hw]
  exact this
 ·have:=diffGo_find a.rows b.rows 0 i (by omega) (by omega)
  simp only[Nat.sub_zero] at this
  by_cases h:i ≥ a.rows.length∨b.rows.getD i [] ≠ a.rows.getD i []
  ·rw[if_pos h] at this;exact .inl this
  ·rw[if_neg h] at this
   refine .inr ⟨this,by omega,?_⟩
   apply Classical.byContradiction
   intro h2
   exact h (.inr fun e=>h2 e.symm)
theorem Leads.digests {x y:PTab} {c:PChg} (h:Leads x c y) (hx:chkT x=0):digsF (x.rows.map rowF) c=(y.rows.map rowF,0):=by
 obtain⟨_,hl,hn1,hn2,hw1,hw2,hr⟩:=checkT_ok hx
 have hk:knownB (x.rows.map rowF).length c=true:=(knownB_iff h.form).2 fun i h1 h2=>by
  have:=h.count
  rw[lm] at h1
  rcases h.find i (by omega) with h3|⟨_,h4,_⟩
  ·rw[h3];rfl
  ·omega
 rw[digsF,if_pos ⟨h.form,by simpa using hl,hk⟩]
 have:digL (x.rows.map rowF) c=y.rows.map rowF:=by
  apply (eq_iff_get 0 _ _ (by rw[digL_len,h.count,Int.toNat_natCast,lm])).2
  intro k hk
  rw[digL_len,h.count,Int.toNat_natCast] at hk
  rw[digL_get (by rw[h.count,Int.toNat_natCast];exact hk),getD_map rowF 0 [] _ k hk]
  rcases h.find k hk with h3|⟨h3,h5,h4⟩
  ·rw[h3]
  ·rw[h3,getD_map rowF 0 [] _ k h5,h4]
 rw[this]
structure TabOK (t:PTab) (n:Nat):Prop where
 fld:fieldB t.p=true
 p2:2≤t.p
 p3:t.p≤65521
 num:1≤t.num
 num2:t.num≤10+5*n
 w1:1≤t.width
 w2:t.width≤4
 rows:RowsOK t.p t.width t.rows
 len:t.rows.length≤7+3*n
theorem TabOK.check {t:PTab} {n:Nat} (h:TabOK t n) (hn:n≤100):chkT t=0:=by
 have h1:=h.num;have h2:=h.num2;have h3:=h.w1;have h4:=h.w2;have h5:=h.len
 rw[chkT,if_neg (by omega),if_neg (by simp [h.fld]),if_neg (by omega),if_neg (by omega)]
 exact (rowsErr_ok (by omega)).2 h.rows
theorem TabOK.short {t:PTab} {n:Nat} (h:TabOK t n):Short t.rows:=fun r hr=>by
 have:=(h.rows r hr).1;have:=h.w2;omega
def latStep (l:List Int) (p w:Int) (s:List (List Int) × Nat):List (List Int) × Nat :=
 let k1:=nextK l s.2 3
 if nextV l s.2 3=0 then (s.1++[(elG l p k1 w.toNat).1],(elG l p k1 w.toNat).2)
 else if s.1.length=0 then (s.1,k1)
 else
  let k2:=nextK l k1 4
  if nextV l k1 4=0 then (s.1.take (s.1.length-1),k2)
  else
   let k3:=nextK l k2 s.1.length
   (s.1.set (nextV l k2 s.1.length).toNat (elG l p k3 w.toNat).1,(elG l p k3 w.toNat).2)
def latI (l:List Int) (p w:Int):Nat→List (List Int) × Nat→List (List Int) × Nat
 |0,s=>s
 |n+1,s=>latI l p w n (latStep l p w s)
theorem latStep_ok {l:List Int} {p w:Int} (hp:1≤p) {s:List (List Int) × Nat} (h:RowsOK p w s.1):RowsOK p w (latStep l p w s).1∧(latStep l p w s).1.length≤s.1.length+1:=by
 unfold latStep
 simp only
 split
 ·refine⟨fun r hr=>?_,by simp⟩
  rcases List.mem_append.1 hr with hr|hr
  ·exact h r hr
  ·simp only[List.mem_singleton] at hr
   subst hr
   exact⟨elG_len,elG_in hp⟩
 ·split
  ·exact⟨h,by simp⟩
  ·split
   ·exact⟨fun r hr=>h r (List.mem_of_mem_take hr),by simp;omega⟩
   ·refine⟨fun r hr=>?_,by simp⟩
    rcases List.mem_or_eq_of_mem_set hr with hr|hr
    ·exact h r hr
    ·subst hr
     exact⟨elG_len,elG_in hp⟩
theorem latI_ok {l:List Int} {p w:Int} (hp:1≤p):∀ {n:Nat} {s:List (List Int) × Nat},RowsOK p w s.1→RowsOK p w (latI l p w n s).1∧(latI l p w n s).1.length≤s.1.length+n
 |0,s,h=>⟨h,Nat.le_refl _⟩
 |n+1,s,h=>by
  obtain⟨h1,h2⟩:=latStep_ok (l:=l) hp h
  obtain⟨h3,h4⟩:=latI_ok (n:=n) hp h1
  exact⟨h3,by rw[latI];omega⟩
def latG (l:List Int) (k:Nat) (t:PTab):PTab × Nat :=
 let s:=latI l t.p t.width (nextV l k 4).toNat (t.rows,nextK l k 4)
 (⟨t.num+1+nextV l s.2 3,t.p,t.width,s.1⟩,nextK l s.2 3)
theorem latG_ok (l:List Int) (k:Nat) {t:PTab} {n:Nat} (h:TabOK t n):TabOK (latG l k t).1 (n+1):=by
 have a1:=nextV_in l k 4
 have a2:=nextV_in l (latI l t.p t.width (nextV l k 4).toNat (t.rows,nextK l k 4)).2 3
 have hp:=h.p2
 obtain⟨h1,h2⟩:=latI_ok (l:=l) (p:=t.p) (w:=t.width) (by omega) (n:=(nextV l k 4).toNat) (s:=(t.rows,nextK l k 4)) h.rows
 have:=h.num;have:=h.num2;have:=h.len
 exact⟨h.fld,h.p2,h.p3,by simp only[latG];omega,by simp only[latG];omega,h.w1,h.w2,h1,by simp only[latG] at h2 ⊢;omega⟩
theorem latG_later (l:List Int) (k:Nat) (t:PTab):t.num<(latG l k t).1.num∧(latG l k t).1.p=t.p∧(latG l k t).1.width=t.width:=by
 have a2:=nextV_in l (latI l t.p t.width (nextV l k 4).toNat (t.rows,nextK l k 4)).2 3
 exact⟨by simp only[latG];omega,rfl,rfl⟩
end Go.Proofs.YtacfbiegbdlldaaGreatDoor.Sim
