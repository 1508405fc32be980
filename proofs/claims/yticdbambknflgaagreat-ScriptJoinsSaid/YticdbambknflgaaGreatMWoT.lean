/- Tables, changes, digests by the reference: taken over from chapter 15. -/
import Derived.Test.YticdbambknflgaaGreatMWoS
namespace Go.Proofs.YticdbambknflgaaGreat.Sim
open Go
set_option maxRecDepth 100000
set_option maxHeartbeats 4000000
set_option linter.unusedVariables false
set_option linter.unusedSimpArgs false
attribute [local irreducible] Go Mean
def modP (x:Int):Int:=x % 2147483647
theorem tmod_pos {x k:Int} (h:0≤x):x.tmod k=x % k:=Int.tmod_eq_emod_of_nonneg h
theorem tmod_range (x:Int):-2147483647<x.tmod 2147483647∧x.tmod 2147483647<2147483647:=by
 rcases Int.le_total 0 x with h|h
 ·rw[tmod_pos h];omega
 ·have e:=Int.neg_tmod (-x) 2147483647
  rw[Int.neg_neg,tmod_pos (x:=-x) (by omega)] at e
  rw[e];omega
theorem modP_plus (x:Int):(x.tmod 2147483647+2147483647) % 2147483647=modP x:=by
 unfold modP
 rcases Int.le_total 0 x with h|h
 ·rw[tmod_pos h];omega
 ·have e:=Int.neg_tmod (-x) 2147483647
  rw[Int.neg_neg,tmod_pos (x:=-x) (by omega)] at e
  rw[e];omega
theorem r11mod (x:Int):Does Tryz.prog 159 [I x] [] (I (modP x)) [] []:=by
 refine wD Tryz.func159 fun cx hm0=>?_
 have h:=tmod_range x
 repeat' (first|refine gS ?_|refine sp ?_ ?_ <;> intro h|(with_reducible apply And.intro)|exact aG|fail)
 have h2:=modP_plus x
 rw[← tmod_pos (by omega)] at h2
 exact rtF [] h2
def nodeF (a b:Int):Int:=(modP a*1000003+modP b+3) % 2147483647
theorem modP_in (x:Int):0≤modP x∧modP x<2147483647:=by unfold modP;omega
theorem r11node (a b:Int):Does Tryz.prog 160 [I a,I b] [] (I (nodeF a b)) [] []:=by
 refine wD Tryz.func160 fun cx hm0=>?_
 have h:=modP_in a
 have h':=modP_in b
 repeat' (first|refine gS ?_|refine sp ?_ ?_ <;> intro h|refine gP (r11mod _) ?_|(with_reducible apply And.intro)|exact aG|fail)
 have h2:(modP a*1000003+modP b+3).tmod 2147483647=nodeF a b:=tmod_pos (by omega)
 exact rtF [] h2
def rowGo (d:Int) (l:List Int):Int:=l.foldl (fun d x=>(d*1000003+modP x+1) % 2147483647) d
def rowF (l:List Int):Int:=rowGo 2 l
theorem r11row (l:List Int) (hl:l.length≤17592186044416):Does Tryz.prog 141 [.d (dInts l)] [] (I (rowF l)) [] []:=by
 refine wD Tryz.func141 fun cx hm0=>?_
 repeat' (first|refine gS ?_|refine sp ?_ ?_ <;> intro h|(with_reducible apply And.intro)|exact aG|fail)
 refine go_loop 5000 hm0 (ι:={p:Nat × Int // p.1≤l.length∧0≤p.2∧p.2<2147483647∧rowF l=rowGo p.2 (l.drop p.1)}) (fun i=>[(2,I 0),(3,I i.1.2),(6,.d (dInts l)),(7,I l.length),(8,I i.1.1)]) (fun i=>[]) (fun i=>l.length-i.1.1) [] ⟨(0,2),by simp [rowF]⟩ ?_ ?_
 ·exact aH
 ·rintro⟨⟨k,d⟩,hk,hd,hd2,hv⟩
  by_cases hkl:k<l.length
  ·have hs:=getD_map eI [] 0 l k hkl
   rw[drop_get 0 _ _ hkl] at hv
   generalize l.getD k 0=s at hs hv
   simp only[rowGo,List.foldl_cons] at hv hd hd2
   have h':=modP_in s
   repeat' (first|refine gB hs eI.eq_1 ?_|refine sp ?_ ?_ <;> intro h|refine gP (r11mod s) ?_|(with_reducible apply And.intro)|exact aG|fail)
   rw[tmod_pos (by omega)]
   refine⟨⟨(k+1,(d*1000003+modP s+1) % 2147483647),hkl,by omega,by omega,hv⟩,?_,by simp only;omega⟩
   exact aH
  ·have:k=l.length:=by simp only at hk;omega
   subst this
   simp only[List.drop_length,rowGo,List.foldl_nil] at hv
   repeat' (first|refine gS ?_|refine sp ?_ ?_ <;> intro h|(with_reducible apply And.intro)|exact aG|fail)
   all_goals exact rtF [] hv
theorem sameI (a b:List Int) (ha:a.length≤17592186044416) (hb:b.length≤17592186044416):Does Tryz.prog 53 [.d (dInts a),.d (dInts b)] [] (B (decide (a=b))) [] []:=by
 refine wD Tryz.func53 fun cx hm0=>?_
 repeat' (first|refine gS ?_|refine sp ?_ ?_ <;> intro h|(with_reducible apply And.intro)|exact aG|fail)
 ·have hv:decide (a=b)=false:=decide_eq_false fun e=>by subst e;simp at h
  exact rtF [] hv
 have hl:a.length=b.length:=by simp at h;omega
 refine go_loop 5000 hm0 (ι:={k:Nat // k≤a.length∧∀ j,j<k→a.getD j 0=b.getD j 0}) (fun i=>[(0,.d (dInts a)),(1,.d (dInts b)),(4,B false),(12,I a.length),(13,I i.1)]) (fun i=>[]) (fun i=>a.length-i.1) [] ⟨0,by omega,fun j h=>by omega⟩ ?_ ?_
 ·exact aH
 ·rintro⟨k,hk,hv⟩
  by_cases hkl:k<a.length
  ·have hs:=getD_map eI [] 0 a k hkl
   have hs':=getD_map eI [] 0 b k (by omega)
   repeat' (first|refine gC hs hs' eI.eq_1 ?_|refine sp ?_ ?_ <;> intro h|(with_reducible apply And.intro)|exact aG|fail)
   ·have hv':decide (a=b)=false:=decide_eq_false fun e=>by subst e;simp at h
    exact rtF [] hv'
   ·refine⟨⟨k+1,hkl,fun j hj=>?_⟩,?_,by simp only;omega⟩
    ·by_cases e:j=k
     ·subst e;simpa using h
     ·exact hv j (by omega)
    exact aH
  ·have:k=a.length:=by omega
   subst this
   have hv':decide (a=b)=true:=decide_eq_true ((eq_iff_get 0 a b hl).2 hv)
   repeat' (first|refine gS ?_|refine sp ?_ ?_ <;> intro h|(with_reducible apply And.intro)|exact aG|fail)
   all_goals exact rtF [] hv'
def ShortS (l:List PSet):Prop:=∀ r ∈ l,r.row.length≤17592186044416
structure PTab where
 num:Int
 p:Int
 width:Int
 rows:List (List Int)
abbrev vTab (t:PTab):V:=.ag [I t.num,I t.p,I t.width,.d (dRows t.rows)]
def rowsErr (p w:Int):List (List Int)→Int
 |[]=>0
 |r :: l=>if (r.length:Int) ≠ w then 2 else if r.all (inE p)=true then rowsErr p w l else 9
noncomputable def checkT (t:PTab):Int:=if t.num<1∨t.num ≥ 2147483647 then 1 else if fieldB t.p=false then 9 else if t.width<1∨t.width > 64 then 1 else if t.rows.length > 1024 then 4 else rowsErr t.p t.width t.rows
theorem r14check (t:PTab) (hl:t.rows.length≤17592186044416) (hs:Short t.rows):Does Tryz.prog 73 [vTab t] [] (I (checkT t)) [] []:=by
 refine wD Tryz.func73 fun cx hm0=>?_
 cases hf:fieldB t.p with
 |false =>
  have hv:checkT t=if t.num<1∨t.num ≥ 2147483647 then 1 else 9:=by simp [checkT,hf]
  repeat' (first|refine gA hf ?_|refine sp ?_ ?_ <;> intro h|refine gP (r3check t.p) ?_|(with_reducible apply And.intro)|exact aG|fail)
  all_goals exact rtF [] hv
 |true =>
  repeat' (first|refine gA hf ?_|refine sp ?_ ?_ <;> intro h|refine gP (r3check t.p) ?_|(with_reducible apply And.intro)|exact aG|fail)
  any_goals ((first|apply ret_mk []|apply end_mk []);(· exact aR);(· ((try simp only[CC,LL,EE,QQ,seval]) <;> repeat' (first|(with_reducible apply And.intro)|exact aD|(simp [*,checkT,hf];done)|(simp [*,checkT,hf];omega)|(simp_all [checkT,hf];done)|(simp_all [checkT,hf];omega))));all_goals (first|((try simp only[CC,LL,EE,QQ,seval]) <;> (repeat' (first|(with_reducible apply And.intro)|trivial|rfl|(simp [checkT,hf];done)));done)|exact aF))
  have hv0:checkT t=rowsErr t.p t.width t.rows:=by
   simp only[checkT]
   rw[if_neg (by omega),if_neg (by simp [hf]),if_neg (by omega),if_neg (by omega)]
  refine go_loop 5000 hm0 (ι:={k:Nat // k≤t.rows.length∧rowsErr t.p t.width t.rows=rowsErr t.p t.width (t.rows.drop k)}) (fun i=>[(1,.bp 1 0 0),(2,I 0),(33,.d (dRows t.rows)),(34,I t.rows.length),(35,I i.1)]) (fun i=>[(1,.box 0 [I t.num,I t.p,I t.width,.d (dRows t.rows)])]) (fun i=>t.rows.length-i.1) [] ⟨0,by simp⟩ ?_ ?_
  ·exact aH
  ·rintro⟨k,hk,hv⟩
   by_cases hkl:k<t.rows.length
   ·have hs':=getD_map eR [] [] t.rows k hkl
    have hr:=hs _ (mem_getD [] t.rows k hkl)
    rw[drop_get [] _ _ hkl] at hv
    generalize t.rows.getD k []=r at hs' hv hr
    have hq:=r3in t.p r hr
    repeat' (first|refine gC hs' eR.eq_1 hf ?_|refine sp ?_ ?_ <;> intro h|refine gP hq ?_|(with_reducible apply And.intro)|exact aG|fail)
    ·have h2:(r.length:Int) ≠ t.width:=by simpa using h
     have hv1:checkT t=2:=by rw[hv0,hv,rowsErr,if_pos h2]
     exact rtF [] hv1
    ·have h2:(r.length:Int)=t.width:=by simp at *;assumption
     have hv1:checkT t=9:=by rw[hv0,hv,rowsErr,if_neg (by simpa using h2),if_neg (by simpa using h)]
     exact rtF [] hv1
    ·have h2:(r.length:Int)=t.width:=by simp at *;assumption
     rw[rowsErr,if_neg (by simpa using h2),if_pos (by simpa using h)] at hv
     refine⟨⟨k+1,hkl,hv⟩,?_,by simp only;omega⟩
     exact aH
   ·have:k=t.rows.length:=by omega
    subst this
    simp only[List.drop_length,rowsErr] at hv
    rw[hv] at hv0
    repeat' (first|refine gS ?_|refine sp ?_ ?_ <;> intro h|(with_reducible apply And.intro)|exact aG|fail)
    all_goals exact rtF [] hv0
def setsErr (p w:Int):List PSet→Int
 |[]=>0
 |s :: l=>if (s.row.length:Int) ≠ w then 2 else if s.row.all (inE p)=true then setsErr p w l else 9
noncomputable def checkC (t:PTab) (c:PChg):Int:=if checkT t ≠ 0 then checkT t else if formF c=false then 2 else if c.fr ≠ t.num then 17 else
 if setsErr t.p t.width c.sets ≠ 0 then setsErr t.p t.width c.sets else if (behindF t.rows.length c.sets:Int) ≠ max 0 (c.count-t.rows.length) then 2 else 0
theorem checkT_ok {t:PTab} (h:checkT t=0):fieldB t.p=true∧t.rows.length≤1024∧1≤t.num∧t.num<2147483647∧1≤t.width∧t.width≤64∧rowsErr t.p t.width t.rows=0:=by
 unfold checkT at h
 split at h
 ·cases h
 split at h
 ·cases h
 split at h
 ·cases h
 split at h
 ·cases h
 rename_i h1 h2 h3 h4
 exact⟨by simpa using h2,by omega,by omega,by omega,by omega,by omega,h⟩
theorem formF_ok {c:PChg} (h:formF c=true):1≤c.fr∧c.fr<c.tt∧c.tt<2147483647∧0≤c.count∧c.count≤1024∧formGo c.count (-1) c.sets=true:=by
 simp only[formF,numF,Bool.and_eq_true,decide_eq_true_eq] at h
 obtain⟨⟨⟨⟨⟨⟨h1,h2⟩,h3,h4⟩,h5⟩,h6⟩,h7⟩,h8⟩:=h
 exact⟨h1,h5,h4,h6,h7,h8⟩
theorem formGo_step {count last:Int} {s:PSet} {r:List PSet} (h1:¬s.idx≤last) (h2:¬s.idx ≥ count):formGo count last (s :: r)=formGo count s.idx r:=by rw[formGo,if_neg (by omega)]
theorem formGo_no {count last:Int} {s:PSet} {r:List PSet} (h:s.idx≤last∨s.idx ≥ count):formGo count last (s :: r)=false:=by rw[formGo,if_pos h]
theorem r15form (c:PChg) (hc:c.sets.length≤17592186044416):Does Tryz.prog 166 [vChg c] [] (B (formF c)) [] []:=by
 refine wD Tryz.func166 fun cx hm0=>?_
 repeat' (first|refine gS ?_|refine sp ?_ ?_ <;> intro h|(with_reducible apply And.intro)|exact aG|fail)
 any_goals exact rtF [] (And.intro formF.eq_1 numF.eq_1)
 have hv0:formF c=formGo c.count (-1) c.sets:=by
  have e1:numF c.fr=true:=by simp only[numF,Bool.and_eq_true,decide_eq_true_eq];omega
  have e2:numF c.tt=true:=by simp only[numF,Bool.and_eq_true,decide_eq_true_eq];omega
  simp only[formF,e1,e2,Bool.true_and]
  rw[decide_eq_true (by omega),decide_eq_true (by omega),decide_eq_true (by omega)];rfl
 refine go_loop 5000 hm0 (ι:={p:Nat × Int // p.1≤c.sets.length∧formGo c.count (-1) c.sets=formGo c.count p.2 (c.sets.drop p.1)∧((p.1=0∧p.2=-1)∨(0<p.1∧0≤p.2∧p.2=(c.sets.getD (p.1-1) noSet).idx))}) (fun i=>[(1,.bp 1 0 0),(2,B false),(31,.d (dSets c.sets)),(32,I c.sets.length),(33,I i.1.1)]) (fun i=>[(1,.box 0 [I c.fr,I c.tt,I c.count,.d (dSets c.sets)])]) (fun i=>c.sets.length-i.1.1) [] ⟨(0,-1),by simp⟩ ?_ ?_
 ·exact aH
 ·rintro⟨⟨k,last⟩,hk,hv,hw⟩
  by_cases hkl:k<c.sets.length
  ·have hs':=getD_map eSet [] noSet c.sets k hkl
   rw[drop_get noSet _ _ hkl] at hv
   have hu:c.sets.getD (k+1-1) noSet=c.sets.getD k noSet:=rfl
   generalize c.sets.getD k noSet=s at hs' hv hu
   rcases hw with ⟨hw1,hw2⟩|⟨hw1,hw2,hw3⟩
   ·simp only at hw1 hw2
    subst hw1 hw2
    repeat' (first|refine gB hs' eSet.eq_1 ?_|refine sp ?_ ?_ <;> intro h|(with_reducible apply And.intro)|exact aG|fail)
    ·have hv1:formF c=false:=by rw[hv0,hv];exact formGo_no (by simp only;omega)
     exact rtF [] hv1
    ·have hv1:formF c=false:=by rw[hv0,hv];exact formGo_no (by simp only;omega)
     exact rtF [] hv1
    simp only at hv
    rw[formGo_step (by omega) (by omega)] at hv
    refine⟨⟨(0+1,s.idx),hkl,hv,.inr ⟨by simp,by simp only;omega,by simp only[hu]⟩⟩,?_,by simp only;omega⟩
    exact aH
   ·have hs2:=getD_map eSet [] noSet c.sets (k-1) (by simp only at hk;omega)
    have hix:((k:Int)-1).toNat=k-1:=by omega
    simp only at hw1 hw2 hw3
    obtain⟨s2,hs3⟩:∃ s2,s2=c.sets.getD (k-1) noSet:=⟨_,rfl⟩
    rw[← hs3] at hs2 hw3
    subst hw3
    repeat' (first|refine gQ hs' hs2 hix eSet.eq_1 ?_|refine sp ?_ ?_ <;> intro h|(with_reducible apply And.intro)|exact aG|fail)
    ·have hv1:formF c=false:=by rw[hv0,hv];exact formGo_no (by simp only;omega)
     exact rtF [] hv1
    ·have hv1:formF c=false:=by rw[hv0,hv];exact formGo_no (by simp only;omega)
     exact rtF [] hv1
    ·have hv1:formF c=false:=by rw[hv0,hv];exact formGo_no (by simp only;omega)
     exact rtF [] hv1
    simp only at hv
    rw[formGo_step (by omega) (by omega)] at hv
    refine⟨⟨(k+1,s.idx),hkl,hv,.inr ⟨by simp,by simp only;omega,by simp only[hu]⟩⟩,?_,by simp only;omega⟩
    exact aH
  ·have:k=c.sets.length:=by simp only at hk;omega
   subst this
   simp only[List.drop_length,formGo] at hv
   rw[hv] at hv0
   repeat' (first|refine gS ?_|refine sp ?_ ?_ <;> intro h|(with_reducible apply And.intro)|exact aG|fail)
   all_goals exact rtF [] hv0
def findF (x:Int):List PSet→Option (List Int)
 |[]=>none
 |s :: r=>if s.idx=x then some s.row else findF x r
theorem formGo_cons {count last:Int} {s:PSet} {r:List PSet}:formGo count last (s :: r)=true↔last<s.idx∧s.idx<count∧formGo count s.idx r=true:=by
 rw[formGo]
 split
 ·constructor
  ·intro h;cases h
  ·rintro⟨h1,h2,_⟩;omega
 ·exact⟨fun h=>⟨by omega,by omega,h⟩,fun h=>h.2.2⟩
theorem formGo_in {count:Int}:∀ {l:List PSet} {last:Int},formGo count last l=true→∀ s ∈ l,last<s.idx∧s.idx<count
 |[],_,_=>by simp
 |s :: r,last,h=>by
  obtain⟨h1,h2,h3⟩:=formGo_cons.1 h
  intro t ht
  rcases List.mem_cons.1 ht with rfl|ht
  ·exact⟨h1,h2⟩
  ·have:=formGo_in h3 t ht
   omega
theorem formGo_len {count:Int}:∀ {l:List PSet} {last:Int},formGo count last l=true→last<count→(l.length:Int)≤count-1-last
 |[],_,_,_=>by simp;omega
 |s :: r,last,h,hl=>by
  obtain⟨h1,h2,h3⟩:=formGo_cons.1 h
  have:=formGo_len h3 h2
  simp only[List.length_cons]
  omega
theorem findF_none {x:Int}:∀ {l:List PSet},(∀ s ∈ l,s.idx ≠ x)→findF x l=none
 |[],_=>rfl
 |s :: r,h=>by
  rw[findF,if_neg (h s List.mem_cons_self)]
  exact findF_none fun t ht=>h t (List.mem_cons_of_mem _ ht)
theorem behindF_all {x:Int} {l:List PSet} (h:∀ s ∈ l,s.idx ≥ x):behindF x l=l.length:=by
 rw[behindF,List.countP_eq_length]
 exact fun s hs=>by simpa using h s hs
theorem behind_all {count:Int}:∀ {l:List PSet} {last x:Int},formGo count last l=true→((behindF x l:Int)=max 0 (count-x)↔∀ i,x≤i→i<count→(findF i l).isSome=true)
 |[],last,x,h=>by
  simp only[behindF,List.countP_nil,findF,Option.isSome_none]
  constructor
  ·intro h2 i h3 h4;exfalso;have:(0:Int)=max 0 (count-x):=h2;omega
  ·intro h2
   have:¬x<count:=fun h3=>by have:=h2 x (Int.le_refl _) h3;cases this
   show (0:Int)=max 0 (count-x)
   omega
 |s :: r,last,x,h=>by
  obtain⟨h1,h2,h3⟩:=formGo_cons.1 h
  have hin:=formGo_in h3
  have hlen:=formGo_len h3 h2
  by_cases hx:s.idx<x
  ·have e1:behindF x (s :: r)=behindF x r:=by simp only[behindF,List.countP_cons];rw[if_neg (by simpa using hx)];rfl
   rw[e1,behind_all h3]
   constructor
   ·intro g i g1 g2;rw[findF,if_neg (by omega)];exact g i g1 g2
   ·intro g i g1 g2;have:=g i g1 g2;rwa [findF,if_neg (by omega)] at this
  ·have e1:behindF x (s :: r)=(s :: r).length:=behindF_all fun t ht=>by
    rcases List.mem_cons.1 ht with rfl|ht
    ·omega
    ·have:=hin t ht;omega
   rw[e1,List.length_cons]
   by_cases he:s.idx=x
   ·have e2:behindF (x+1) r=r.length:=behindF_all fun t ht=>by have:=hin t ht;omega
    have ih:=behind_all (x:=x+1) h3
    rw[e2] at ih
    constructor
    ·intro g i g1 g2
     rw[findF]
     split
     ·rfl
     ·exact (ih.1 (by omega)) i (by omega) g2
    ·intro g
     have:=ih.2 fun i g1 g2=>by have:=g i (by omega) g2;rwa [findF,if_neg (by omega)] at this
     omega
   ·constructor
    ·intro g;exfalso;omega
    ·intro g
     have:=g x (Int.le_refl _) (by omega)
     rw[findF_none fun t ht=>by
      rcases List.mem_cons.1 ht with rfl|ht
      ·exact he
      ·have:=hin t ht;omega] at this
     cases this
theorem findF_mem {x:Int}:∀ {l:List PSet} {r:List Int},findF x l=some r→∃ s ∈ l,s.row=r
 |[],r,h=>by cases h
 |s :: l,r,h=>by
  rw[findF] at h
  split at h
  ·cases h;exact⟨s,by simp,rfl⟩
  ·obtain⟨s',h1,h2⟩:=findF_mem h
   exact⟨s',by simp [h1],h2⟩
def applyRows (rows:List (List Int)) (c:PChg):List (List Int):=(List.range c.count.toNat).map fun (i:Nat)=>(findF i c.sets).getD (rows.getD i [])
theorem applyRows_len {rows:List (List Int)} {c:PChg}:(applyRows rows c).length=c.count.toNat:=by simp [applyRows]
theorem applyRows_get {rows:List (List Int)} {c:PChg} {i:Nat} (h:i<c.count.toNat):(applyRows rows c).getD i []=(findF i c.sets).getD (rows.getD i []):=by
 simp [applyRows,List.getD_eq_getElem?_getD,h]
theorem eq_getD (a b:List (List Int)) (h:a.length=b.length):a=b↔∀ k,k<a.length→a.getD k []=b.getD k []:=by
 constructor
 ·rintro rfl _ _;rfl
 ·intro hk
  apply List.ext_getElem h
  intro i h1 h2
  have:=hk i h1
  simpa [List.getD_eq_getElem?_getD,h1,h2] using this
theorem r15find (c:PChg) (x:Int) (hc:c.sets.length≤17592186044416):Does Tryz.prog 154 [vChg c,I x] [] (.tu [.d (dInts ((findF x c.sets).getD [])),B (findF x c.sets).isSome]) [] []:=by
 refine wD Tryz.func154 fun cx hm0=>?_
 repeat' (first|refine gS ?_|refine sp ?_ ?_ <;> intro h|(with_reducible apply And.intro)|exact aG|fail)
 refine go_loop 5000 hm0 (ι:={k:Nat // k≤c.sets.length∧findF x c.sets=findF x (c.sets.drop k)}) (fun i=>[(1,I x),(2,.bp 2 0 0),(4,.nl 1),(5,B false),(9,.d (dSets c.sets)),(10,I c.sets.length),(11,I i.1)]) (fun i=>[(2,.box 0 [I c.fr,I c.tt,I c.count,.d (dSets c.sets)])]) (fun i=>c.sets.length-i.1) [] ⟨0,by simp⟩ ?_ ?_
 ·exact aH
 ·rintro⟨k,hk,hv⟩
  by_cases hkl:k<c.sets.length
  ·have hs':=getD_map eSet [] noSet c.sets k hkl
   rw[drop_get noSet _ _ hkl,findF] at hv
   generalize c.sets.getD k noSet=s at hs' hv
   repeat' (first|refine gB hs' eSet.eq_1 ?_|refine sp ?_ ?_ <;> intro h|(with_reducible apply And.intro)|exact aG|fail)
   ·rw[if_pos (by simpa using h)] at hv
    exact rtF [] hv
   ·rw[if_neg (by simpa using h)] at hv
    refine⟨⟨k+1,hkl,hv⟩,?_,by simp only;omega⟩
    exact aH
  ·have:k=c.sets.length:=by omega
   subst this
   simp only[List.drop_length,findF] at hv
   repeat' (first|refine gS ?_|refine sp ?_ ?_ <;> intro h|(with_reducible apply And.intro)|exact aG|fail)
   all_goals exact rtF [] hv
theorem r15check (t:PTab) (c:PChg) (hl:t.rows.length≤17592186044416) (hs:Short t.rows) (hc:c.sets.length≤17592186044416) (hd:ShortS c.sets):Does Tryz.prog 153 [vTab t,vChg c] [] (I (checkC t c)) [] []:=by
 refine wD Tryz.func153 fun cx hm0=>?_
 by_cases h1:checkT t=0
 case neg =>
  have hv:checkC t c=checkT t:=by simp [checkC,h1]
  have h1':(checkT t != 0)=true:=by simpa using h1
  repeat' (first|refine gA h1' ?_|refine sp ?_ ?_ <;> intro h|refine gP (r14check t hl hs) ?_|(with_reducible apply And.intro)|exact aG|fail)
  all_goals exact rtF [] hv
 obtain⟨hf,hr,hn1,hn2,hw1,hw2,hre⟩:=checkT_ok h1
 cases h2:formF c with
 |false =>
  have hv:checkC t c=2:=by simp [checkC,h1,h2]
  repeat' (first|refine gB h1 h2 ?_|refine sp ?_ ?_ <;> intro h|refine gP (r14check t hl hs) ?_|refine gP (r15form c hc) ?_|(with_reducible apply And.intro)|exact aG|fail)
  all_goals exact rtF [] hv
 |true =>
  obtain⟨hf1,hf2,hf3,hf4,hf5,hf6⟩:=formF_ok h2
  have hv0:checkC t c=if c.fr ≠ t.num then 17 else if setsErr t.p t.width c.sets ≠ 0 then setsErr t.p t.width c.sets else if (behindF t.rows.length c.sets:Int) ≠ max 0 (c.count-t.rows.length) then 2 else 0:=by
   rw[checkC,if_neg (by simp [h1]),if_neg (by simp [h2])]
  repeat' (first|refine gB h1 h2 ?_|refine sp ?_ ?_ <;> intro h|refine gP (r14check t hl hs) ?_|refine gP (r15form c hc) ?_|(with_reducible apply And.intro)|exact aG|fail)
  ·exact rtF [] hv0
  have h3:c.fr=t.num:=by simpa using h
  rw[if_neg (by simpa using h3)] at hv0
  refine go_loop 5000 hm0 (ι:={k:Nat // k≤c.sets.length∧setsErr t.p t.width c.sets=setsErr t.p t.width (c.sets.drop k)}) (fun i=>[(2,.bp 2 0 0),(3,.bp 3 0 0),(4,I 0),(25,.d (dSets c.sets)),(26,I c.sets.length),(27,I i.1)]) (fun i=>[(2,.box 0 [I t.num,I t.p,I t.width,.d (dRows t.rows)]),(3,.box 0 [I c.fr,I c.tt,I c.count,.d (dSets c.sets)])]) (fun i=>c.sets.length-i.1) [] ⟨0,by simp⟩ ?_ ?_
  ·exact aH
  ·rintro⟨k,hk,hv⟩
   by_cases hkl:k<c.sets.length
   ·have hs':=getD_map eSet [] noSet c.sets k hkl
    have hr:=hd _ (mem_getD noSet c.sets k hkl)
    rw[drop_get noSet _ _ hkl] at hv
    generalize c.sets.getD k noSet=r at hs' hv hr
    have hq:=r3in t.p r.row hr
    repeat' (first|refine gC hs' eSet.eq_1 hf ?_|refine sp ?_ ?_ <;> intro h|refine gP hq ?_|(with_reducible apply And.intro)|exact aG|fail)
    ·have h2:(r.row.length:Int) ≠ t.width:=by simpa using h
     have hv1:checkC t c=2:=by rw[hv0,hv,setsErr,if_pos h2];rfl
     exact rtF [] hv1
    ·have h2:(r.row.length:Int)=t.width:=by simp at *;assumption
     have he:setsErr t.p t.width c.sets=9:=by rw[hv,setsErr,if_neg (by simpa using h2),if_neg (by simpa using h)]
     have hv1:checkC t c=9:=by rw[hv0,he];rfl
     exact rtF [] hv1
    ·have h2:(r.row.length:Int)=t.width:=by simp at *;assumption
     rw[setsErr,if_neg (by simpa using h2),if_pos (by simpa using h)] at hv
     refine⟨⟨k+1,hkl,hv⟩,?_,by simp only;omega⟩
     exact aH
   ·have:k=c.sets.length:=by omega
    subst this
    simp only[List.drop_length,setsErr] at hv
    rw[hv,if_neg (by simp)] at hv0
    have hba:=behind_all (x:=t.rows.length) hf6
    repeat' (first|refine gS ?_|refine sp ?_ ?_ <;> intro h|(with_reducible apply And.intro)|exact aG|fail)
    refine go_loop 5000 hm0 (ι:={i:Int // t.rows.length≤i∧i≤max (t.rows.length:Int) c.count∧∀ j:Int,t.rows.length≤j→j<i→(findF j c.sets).isSome=true}) (fun i=>[(2,.bp 2 0 0),(3,.bp 3 0 0),(4,I 0),(8,I i.1)]) (fun i=>[(2,.box 0 [I t.num,I t.p,I t.width,.d (dRows t.rows)]),(3,.box 0 [I c.fr,I c.tt,I c.count,.d (dSets c.sets)])]) (fun i=>(max (t.rows.length:Int) c.count-i.1).toNat) [] ⟨t.rows.length,by omega,by omega,fun j h1 h2=>by omega⟩ ?_ ?_
    ·exact aH
    ·rintro⟨i,hi,hi2,hi3⟩
     repeat' (first|refine gS ?_|refine sp ?_ ?_ <;> intro h|refine gP (r15find c i hc) ?_|(with_reducible apply And.intro)|exact aG|fail)
     ·have hv1:checkC t c=2:=by
       rw[hv0,if_pos]
       intro e
       have:=hba.1 e i hi (by assumption)
       simp_all
      exact rtF [] hv1
     ·refine⟨⟨i+1,by omega,by omega,fun j h1 h2=>?_⟩,?_,by simp only;omega⟩
      ·by_cases e:j=i
       ·subst e;simpa using h
       ·exact hi3 j h1 (by omega)
      exact aH
     ·have hv1:checkC t c=0:=by
       rw[hv0,if_neg]
       exact fun e=>e (hba.2 fun j h1 h2=>hi3 j h1 (by omega))
      exact rtF [] hv1
def noChg:PChg:=⟨0,0,0,[]⟩
def diffGo (ra:List (List Int)):Nat→List (List Int)→List PSet
 |_,[]=>[]
 |k,r :: l=>if k ≥ ra.length∨r ≠ ra.getD k [] then ⟨k,r⟩ :: diffGo ra (k+1) l else diffGo ra (k+1) l
noncomputable def betweenF (a b:PTab):PChg × Int:=if checkT a ≠ 0 then (noChg,checkT a) else if checkT b ≠ 0 then (noChg,checkT b) else
 if a.p ≠ b.p∨a.width ≠ b.width then (noChg,2) else if b.num≤a.num then (noChg,17) else (⟨a.num,b.num,b.rows.length,diffGo a.rows 0 b.rows⟩,0)
abbrev vC (x:PChg × Int):V:=.tu [.ag [I x.1.fr,I x.1.tt,I x.1.count,.og 1000000 0],I x.2]
abbrev oC (x:PChg × Int):O:=.arr 0 2 true (x.1.sets.map eSet)
theorem r15between (a b:PTab) (ha:a.rows.length≤17592186044416) (hsa:Short a.rows) (hb:b.rows.length≤17592186044416) (hsb:Short b.rows):Does Tryz.prog 89 [vTab a,vTab b] [] (vC (betweenF a b)) [] [oC (betweenF a b)]:=by
 refine wD Tryz.func89 fun cx hm0=>?_
 by_cases h1:checkT a=0
 case neg =>
  have hv:betweenF a b=(noChg,checkT a):=by simp [betweenF,h1]
  rw[hv]
  have h1':(checkT a != 0)=true:=by simpa using h1
  repeat' (first|refine gA h1' ?_|refine sp ?_ ?_ <;> intro h|refine gP (r14check a ha hsa) ?_|(with_reducible apply And.intro)|exact aG|fail)
  all_goals exact rtF [none] noChg.eq_1
 by_cases h2:checkT b=0
 case neg =>
  have hv:betweenF a b=(noChg,checkT b):=by simp [betweenF,h1,h2]
  rw[hv]
  have h2':(checkT b != 0)=true:=by simpa using h2
  repeat' (first|refine gB h1 h2' ?_|refine sp ?_ ?_ <;> intro h|refine gP (r14check a ha hsa) ?_|refine gP (r14check b hb hsb) ?_|(with_reducible apply And.intro)|exact aG|fail)
  all_goals exact rtF [none] noChg.eq_1
 obtain⟨_,ha2,_⟩:=checkT_ok h1
 obtain⟨_,hb2,_⟩:=checkT_ok h2
 have hv0:betweenF a b=if a.p ≠ b.p∨a.width ≠ b.width then (noChg,2) else if b.num≤a.num then (noChg,17) else (⟨a.num,b.num,b.rows.length,diffGo a.rows 0 b.rows⟩,0):=by
  rw[betweenF,if_neg (by simp [h1]),if_neg (by simp [h2])]
 by_cases h3:a.p ≠ b.p∨a.width ≠ b.width
 ·rw[if_pos h3] at hv0
  rw[hv0]
  repeat' (first|refine gB h1 h2 ?_|refine sp ?_ ?_ <;> intro h|refine gP (r14check a ha hsa) ?_|refine gP (r14check b hb hsb) ?_|(with_reducible apply And.intro)|exact aG|fail)
  any_goals exact rtF [none] noChg.eq_1
  all_goals (exfalso;simp at *;omega)
 rw[if_neg h3] at hv0
 by_cases h4:b.num≤a.num
 ·rw[if_pos h4] at hv0
  rw[hv0]
  repeat' (first|refine gB h1 h2 ?_|refine sp ?_ ?_ <;> intro h|refine gP (r14check a ha hsa) ?_|refine gP (r14check b hb hsb) ?_|(with_reducible apply And.intro)|exact aG|fail)
  any_goals exact rtF [none] noChg.eq_1
  all_goals (exfalso;simp at *;omega)
 rw[if_neg h4] at hv0
 rw[hv0]
 repeat' (first|refine gB h1 h2 ?_|refine sp ?_ ?_ <;> intro h|refine gP (r14check a ha hsa) ?_|refine gP (r14check b hb hsb) ?_|(with_reducible apply And.intro)|exact aG|fail)
 any_goals (exfalso;simp at *;omega)
 refine go_loop 5000 hm0 (ι:={p:Nat × Nat × List (List D) // p.1≤b.rows.length∧p.2.2.length≤p.1∧(diffGo a.rows 0 b.rows).map eSet=p.2.2++(diffGo a.rows p.1 (b.rows.drop p.1)).map eSet}) (fun i=>[(2,.bp 2 0 0),(4,.bp 4 0 0),(8,.bp 8 0 0),(51,.d (dRows b.rows)),(52,I b.rows.length),(53,I i.1.1)]) (fun i=>[(2,.box 0 [I a.num,I a.p,I a.width,.d (dRows a.rows)]),(4,.box 0 [I 0,I 0,I 0,.nl 2]),(80,.arr i.1.2.1 2 true i.1.2.2),(8,.box 0 [I a.num,I b.num,I b.rows.length,.og 80 i.1.2.1])]) (fun i=>b.rows.length-i.1.1) [80] ⟨(0,0,[]),by simp⟩ ?_ ?_
 ·exact aH
 ·rintro⟨⟨k,v,acc⟩,hk,hl,hv⟩
  by_cases hkl:k<b.rows.length
  ·have hs':=getD_map eR [] [] b.rows k hkl
   have hr:=hsb _ (mem_getD [] b.rows k hkl)
   rw[drop_get [] _ _ hkl,diffGo] at hv
   generalize b.rows.getD k []=r at hs' hv hr
   simp only at hk hl hv
   by_cases hka:k<a.rows.length
   ·have hs2:=getD_map eR [] [] a.rows k hka
    have hr2:=hsa _ (mem_getD [] a.rows k hka)
    generalize a.rows.getD k []=q at hs2 hv hr2
    repeat' (first|refine gC hs' hs2 eR.eq_1 ?_|refine sp ?_ ?_ <;> intro h|refine gP (sameI r q hr hr2) ?_|(with_reducible apply And.intro)|exact aG|fail)
    ·rw[if_pos (.inr (by simpa using h))] at hv
     refine⟨⟨(k+1,v+1,acc++[[.at (.int .i64 k),dInts r]]),hkl,by simp;omega,by rw[hv];simp [eSet]⟩,?_,by simp only;omega⟩
     exact aH
    ·rw[if_neg (by simp at h;simp [h];omega)] at hv
     refine⟨⟨(k+1,v,acc),hkl,by simp only;omega,hv⟩,?_,by simp only;omega⟩
     exact aH
   ·repeat' (first|refine gB hs' eR.eq_1 ?_|refine sp ?_ ?_ <;> intro h|(with_reducible apply And.intro)|exact aG|fail)
    rw[if_pos (.inl (by omega))] at hv
    refine⟨⟨(k+1,v+1,acc++[[.at (.int .i64 k),dInts r]]),hkl,by simp;omega,by rw[hv];simp [eSet]⟩,?_,by simp only;omega⟩
    exact aH
  ·have:k=b.rows.length:=by simp only at hk;omega
   subst this
   simp only[List.drop_length,diffGo,List.map_nil,List.append_nil] at hv
   subst hv
   repeat' (first|refine gS ?_|refine sp ?_ ?_ <;> intro h|(with_reducible apply And.intro)|exact aG|fail)
   clear hv0
   all_goals exact rt [some 80]
def noTab:PTab:=⟨0,0,0,[]⟩
noncomputable def applyF (t:PTab) (c:PChg):PTab × Int:=if checkC t c ≠ 0 then (noTab,checkC t c) else (⟨c.tt,t.p,t.width,applyRows t.rows c⟩,0)
abbrev vT (x:PTab × Int):V:=.tu [.ag [I x.1.num,I x.1.p,I x.1.width,.og 1000000 0],I x.2]
abbrev oT (x:PTab × Int):O:=.arr 0 1 true (x.1.rows.map eR)
theorem checkC_ok {t:PTab} {c:PChg} (h:checkC t c=0):checkT t=0∧formF c=true∧c.fr=t.num∧setsErr t.p t.width c.sets=0∧(behindF t.rows.length c.sets:Int)=max 0 (c.count-t.rows.length):=by
 unfold checkC at h
 split at h
 ·rename_i h1;exact absurd h h1
 split at h
 ·cases h
 split at h
 ·cases h
 split at h
 ·rename_i h1;exact absurd h h1
 split at h
 ·cases h
 rename_i h1 h2 h3 h4 h5
 exact⟨by simpa using h1,by simpa using h2,by simpa using h3,by simpa using h4,by simpa using h5⟩
theorem r15apply (t:PTab) (c:PChg) (hl:t.rows.length≤17592186044416) (hs:Short t.rows) (hc:c.sets.length≤17592186044416) (hd:ShortS c.sets):Does Tryz.prog 134 [vTab t,vChg c] [] (vT (applyF t c)) [] [oT (applyF t c)]:=by
 refine wD Tryz.func134 fun cx hm0=>?_
 by_cases h1:checkC t c=0
 case neg =>
  have hv:applyF t c=(noTab,checkC t c):=by simp [applyF,h1]
  rw[hv]
  have h1':(checkC t c != 0)=true:=by simpa using h1
  repeat' (first|refine gA h1' ?_|refine sp ?_ ?_ <;> intro h|refine gP (r15check t c hl hs hc hd) ?_|(with_reducible apply And.intro)|exact aG|fail)
  all_goals exact rtF [none] noTab.eq_1
 have hv:applyF t c=(⟨c.tt,t.p,t.width,applyRows t.rows c⟩,0):=by simp [applyF,h1]
 rw[hv]
 obtain⟨h2,h3,h4,h5,h6⟩:=checkC_ok h1
 obtain⟨hf1,hf2,hf3,hf4,hf5,hf6⟩:=formF_ok h3
 obtain⟨_,hr,_⟩:=checkT_ok h2
 have hb:=(behind_all (x:=(t.rows.length:Int)) hf6).1 h6
 repeat' (first|refine gA h1 ?_|refine sp ?_ ?_ <;> intro h|refine gP (r15check t c hl hs hc hd) ?_|(with_reducible apply And.intro)|exact aG|fail)
 refine go_loop 5000 hm0 (ι:={p:Nat × Nat // p.1≤c.count.toNat}) (fun i=>[(2,.bp 2 0 0),(3,.bp 3 0 0),(4,.bp 4 0 0),(7,.bp 7 0 0),(8,I i.1.1)]) (fun i=>[(2,.box 0 [I t.num,I t.p,I t.width,.d (dRows t.rows)]),(3,.box 0 [I c.fr,I c.tt,I c.count,.d (dSets c.sets)]),(4,.box 0 [I 0,I 0,I 0,.nl 1]),(49,.arr i.1.2 1 true (((List.range i.1.1).map fun (i:Nat)=>(findF i c.sets).getD (t.rows.getD i [])).map eR)),(7,.box 0 [I c.tt,I t.p,I t.width,.og 49 i.1.2])]) (fun i=>c.count.toNat-i.1.1) [49] ⟨(0,0),by simp⟩ ?_ ?_
 ·exact aH
 ·rintro⟨⟨k,v⟩,hk⟩
  simp only at hk
  by_cases hkn:k<c.count.toNat
  ·have hfs:∀ r,findF k c.sets=some r→r.length≤17592186044416:=fun r h=>by
    obtain⟨s,hs1,hs2⟩:=findF_mem h
    rw[← hs2];exact hd s hs1
   cases hfk:findF k c.sets with
   |some r =>
    have hr:=hfs r hfk
    repeat' (first|simp (maxSteps:=9999999) only[↓GE,PQ,seval,hfk,Option.getD_some,Option.isSome_some,eR,List.length_range]|refine gS ?_|refine sp ?_ ?_ <;> intro h|refine gP (r15find c k hc) ?_|(with_reducible apply And.intro)|exact aG|fail)
    refine⟨⟨(k+1,v+1),hkn⟩,?_,by simp only;omega⟩
    (simp only[GeS];refine⟨?_,?_,?_,?_⟩;all_goals (repeat' (first|(with_reducible exact True.intro)|(with_reducible rfl)|simp only[XC,↓reduceIte,seval]|(with_reducible apply And.intro)|(refine⟨_,rfl,?_⟩)|(simp [List.range_succ,hfk,eR];done)|exact aS|fail)))
   |none =>
    have hkr:k<t.rows.length:=by
     by_cases h:k<t.rows.length
     ·exact h
     ·have:=hb k (by omega) (by omega)
      rw[hfk] at this
      cases this
    have hs1:=getD_map eR [] [] t.rows k hkr
    have hr1:=hs _ (mem_getD [] t.rows k hkr)
    repeat' (first|simp (maxSteps:=9999999) only[↓GE,PQ,seval,hfk,hs1,Option.getD_none,Option.isSome_none,eR,List.length_range]|refine gS ?_|refine sp ?_ ?_ <;> intro h|refine gP (r15find c k hc) ?_|(with_reducible apply And.intro)|exact aG|fail)
    refine⟨⟨(k+1,v+1),hkn⟩,?_,by simp only;omega⟩
    (simp only[GeS];refine⟨?_,?_,?_,?_⟩;all_goals (repeat' (first|(with_reducible exact True.intro)|(with_reducible rfl)|simp only[XC,↓reduceIte,seval]|(with_reducible apply And.intro)|(refine⟨_,rfl,?_⟩)|(simp [List.range_succ,hfk,eR];done)|exact aS|fail)))
  ·have:k=c.count.toNat:=by omega
   subst this
   repeat' (first|refine gS ?_|refine sp ?_ ?_ <;> intro h|(with_reducible apply And.intro)|exact aG|fail)
   all_goals ((first|apply ret_mk [some 49]|apply end_mk [some 49]);(· exact aR);(· ((try simp only[CC,LL,EE,QQ,seval]) <;> repeat' (first|(with_reducible apply And.intro)|exact aD|(simp [*,applyRows];done)|(simp [*,applyRows];omega)|(simp_all [applyRows];done)|(simp_all [applyRows];omega))));all_goals (first|((try simp only[CC,LL,EE,QQ,seval]) <;> (repeat' (first|(with_reducible apply And.intro)|trivial|rfl|(simp [applyRows];done)));done)|exact aF))
noncomputable def r14digF (t:PTab):List Int × Int:=if checkT t ≠ 0 then ([],checkT t) else (t.rows.map rowF,0)
theorem r14digests (t:PTab) (hl:t.rows.length≤17592186044416) (hs:Short t.rows):Does Tryz.prog 122 [vTab t] [] (.tu [.og 1000000 0,I (r14digF t).2]) [] [.arr 0 1 true ((r14digF t).1.map eI)]:=by
 refine wD Tryz.func122 fun cx hm0=>?_
 by_cases h1:checkT t=0
 case neg =>
  have hv:r14digF t=([],checkT t):=by simp [r14digF,h1]
  rw[hv]
  have h1':(checkT t != 0)=true:=by simpa using h1
  repeat' (first|refine gA h1' ?_|refine sp ?_ ?_ <;> intro h|refine gP (r14check t hl hs) ?_|(with_reducible apply And.intro)|exact aG|fail)
  all_goals exact rt [none]
 have hv:r14digF t=(t.rows.map rowF,0):=by simp [r14digF,h1]
 rw[hv]
 repeat' (first|refine gA h1 ?_|refine sp ?_ ?_ <;> intro h|refine gP (r14check t hl hs) ?_|(with_reducible apply And.intro)|exact aG|fail)
 refine go_loop 5000 hm0 (ι:={p:Nat × Nat // p.1≤t.rows.length}) (fun i=>[(5,.og 24 i.1.2),(14,.d (dRows t.rows)),(15,I t.rows.length),(16,I i.1.1)]) (fun i=>[(24,.arr i.1.2 1 true (((t.rows.take i.1.1).map rowF).map eI))]) (fun i=>t.rows.length-i.1.1) [24] ⟨(0,0),by simp⟩ ?_ ?_
 ·exact aH
 ·rintro⟨⟨j,v⟩,hj⟩
  simp only at hj
  have hlt:(t.rows.take j).length=j:=by rw[List.length_take];omega
  by_cases hjn:j<t.rows.length
  ·have hs1:=getD_map eR [] [] t.rows j hjn
   have hr1:=hs _ (mem_getD [] t.rows j hjn)
   have ht:=take_succ_getD ([]:List Int) t.rows j hjn
   generalize t.rows.getD j []=r at hs1 hr1 ht
   repeat' (first|refine gC hs1 hlt eR.eq_1 ?_|refine sp ?_ ?_ <;> intro h|refine gP (r11row r hr1) ?_|(with_reducible apply And.intro)|exact aG|fail)
   refine⟨⟨(j+1,v+1),hjn⟩,?_,by simp only;omega⟩
   exact aY ht
  ·have:j=t.rows.length:=by omega
   subst this
   repeat' (first|simp (maxSteps:=9999999) only[↓GE,PQ,seval,List.take_length]|refine gS ?_|refine sp ?_ ?_ <;> intro h|(with_reducible apply And.intro)|exact aG|fail)
   all_goals exact rt [some 24]
def listErr (l:List Int):Int:=if l.length > 1024 then 4 else if l.all (fun x=>decide (0≤x)&&decide (x<2147483647)) then 0 else 1
theorem r12list (l:List Int) (hl:l.length≤17592186044416):Does Tryz.prog 142 [.d (dInts l)] [] (I (listErr l)) [] []:=by
 refine wD Tryz.func142 fun cx hm0=>?_
 by_cases h1:l.length > 1024
 ·have q:decide ((l.length:Int) > 1024)=true:=by simp;omega
  have hv:listErr l=4:=by simp [listErr];omega
  rw[hv]
  repeat' (first|refine gA q ?_|refine sp ?_ ?_ <;> intro h|(with_reducible apply And.intro)|exact aG|fail)
  all_goals exact rt []
 have q:decide ((l.length:Int) > 1024)=false:=by simp;omega
 repeat' (first|refine gA q ?_|refine sp ?_ ?_ <;> intro h|(with_reducible apply And.intro)|exact aG|fail)
 refine go_loop 5000 hm0 (ι:={p:Nat // p≤l.length∧l.all (fun x=>decide (0≤x)&&decide (x<2147483647))=(l.drop p).all (fun x=>decide (0≤x)&&decide (x<2147483647))}) (fun i=>[(8,.d (dInts l)),(9,I l.length),(10,I i.1)]) (fun i=>[]) (fun i=>l.length-i.1) [] ⟨0,by simp⟩ ?_ ?_
 ·exact aH
 ·rintro⟨k,hk,hv⟩
  by_cases hkl:k<l.length
  ·have hs1:=getD_map eI [] 0 l k hkl
   rw[drop_get 0 _ _ hkl,List.all_cons] at hv
   generalize l.getD k 0=x at hs1 hv
   by_cases hx:0≤x∧x<2147483647
   ·rw[decide_eq_true hx.1,decide_eq_true hx.2] at hv
    have q1:decide (x<0)=false:=by simp;omega
    have q2:decide (x ≥ 2147483647)=false:=by simp;omega
    repeat' (first|refine gQ hs1 q1 q2 eI.eq_1 ?_|refine sp ?_ ?_ <;> intro h|(with_reducible apply And.intro)|exact aG|fail)
    refine⟨⟨k+1,hkl,by simpa using hv⟩,?_,by simp only;omega⟩
    exact aH
   ·have hne:listErr l=1:=by
     rw[listErr,if_neg h1,if_neg]
     rw[hv]
     simp
     intro a b;exact absurd ⟨a,b⟩ hx
    rw[hne]
    by_cases hx2:x<0
    ·have q1:decide (x<0)=true:=by simpa using hx2
     repeat' (first|refine gC hs1 q1 eI.eq_1 ?_|refine sp ?_ ?_ <;> intro h|(with_reducible apply And.intro)|exact aG|fail)
     all_goals exact rt []
    ·have q1:decide (x<0)=false:=by simpa using hx2
     have q2:decide (x ≥ 2147483647)=true:=by simp;omega
     repeat' (first|refine gQ hs1 q1 q2 eI.eq_1 ?_|refine sp ?_ ?_ <;> intro h|(with_reducible apply And.intro)|exact aG|fail)
     all_goals exact rt []
  ·have:k=l.length:=by omega
   subst this
   have hne:listErr l=0:=by
    rw[listErr,if_neg h1,if_pos]
    rw[hv];simp
   rw[hne]
   repeat' (first|refine gS ?_|refine sp ?_ ?_ <;> intro h|(with_reducible apply And.intro)|exact aG|fail)
   all_goals exact rt []
def upF:List Int→List Int
 |a :: b :: l=>nodeF a b :: upF l
 |l=>l
theorem upF_two {a b:Int} {l:List Int}:upF (a :: b :: l)=nodeF a b :: upF l:=by rw[upF]
theorem upF_one {a:Int}:upF [a]=[a]:=by rw[upF];intro a b l h;cases h
theorem upF_nil:upF []=[]:=by rw[upF];intro a b l h;cases h
theorem upF_len:∀ {l:List Int},(upF l).length=(l.length+1) / 2
 |[]=>by rw[upF_nil];rfl
 |[a]=>by rw[upF_one];simp
 |a :: b :: l=>by rw[upF_two,List.length_cons,upF_len];simp only[List.length_cons];omega
theorem r12up (l:List Int) (hl:l.length≤17592186044416):Does Tryz.prog 143 [.d (dInts l)] [] (.og 1000000 0) [] [.arr 0 1 true ((upF l).map eI)]:=by
 refine wD Tryz.func143 fun cx hm0=>?_
 repeat' (first|refine gS ?_|refine sp ?_ ?_ <;> intro h|(with_reducible apply And.intro)|exact aG|fail)
 refine go_loop 5000 hm0 (ι:={p:Nat × Nat × List Int // p.1≤l.length+1∧p.2.2.length≤p.1∧upF l=p.2.2++upF (l.drop p.1)}) (fun i=>[(0,.d (dInts l)),(3,.og 28 i.1.2.1),(4,I i.1.1)]) (fun i=>[(28,.arr i.1.2.1 1 true (i.1.2.2.map eI))]) (fun i=>l.length+1-i.1.1) [28] ⟨(0,0,[]),by simp⟩ ?_ ?_
 ·exact aH
 ·rintro⟨⟨k,v,acc⟩,hk,hal,hv⟩
  simp only at hk hal hv
  by_cases hkl:k<l.length
  ·have hs1:=getD_map eI [] 0 l k hkl
   have hd1:=drop_get 0 _ _ hkl
   generalize l.getD k 0=x at hs1 hd1
   by_cases hk2:k+1<l.length
   ·have hs2:=getD_map eI [] 0 l (k+1) hk2
    have hd2:=drop_get 0 _ _ hk2
    generalize l.getD (k+1) 0=y at hs2 hd2
    have q:decide ((k:Int)+1<(l.length:Int))=true:=by simp;omega
    have q2:((k:Int)+1).toNat=k+1:=by omega
    rw[hd1,hd2,upF_two] at hv
    repeat' (first|simp (maxSteps:=9999999) only[↓GE,PQ,seval,hs1,hs2,q,q2,eI]|refine gS ?_|refine sp ?_ ?_ <;> intro h|refine gP (r11node x y) ?_|(with_reducible apply And.intro)|exact aG|fail)
    refine⟨⟨(k+2,v+1,acc++[nodeF x y]),by simp only;omega,by simp;omega,by rw[hv];simp⟩,?_,by simp only;omega⟩
    (simp only[GeS];refine⟨?_,?_,?_,?_⟩;all_goals (repeat' (first|(with_reducible exact True.intro)|(with_reducible rfl)|simp only[XC,↓reduceIte,seval]|(with_reducible apply And.intro)|(refine⟨_,rfl,?_⟩)|(simp [eI];done)|exact aS|fail)))
   ·have q:decide ((k:Int)+1<(l.length:Int))=false:=by simp;omega
    rw[hd1,List.drop_of_length_le (by omega),upF_one] at hv
    repeat' (first|refine gC hs1 q eI.eq_1 ?_|refine sp ?_ ?_ <;> intro h|(with_reducible apply And.intro)|exact aG|fail)
    refine⟨⟨(k+2,v+1,acc++[x]),by simp only;omega,by simp;omega,by rw[hv,List.drop_of_length_le (by omega),upF_nil];simp⟩,?_,by simp only;omega⟩
    (simp only[GeS];refine⟨?_,?_,?_,?_⟩;all_goals (repeat' (first|(with_reducible exact True.intro)|(with_reducible rfl)|simp only[XC,↓reduceIte,seval]|(with_reducible apply And.intro)|(refine⟨_,rfl,?_⟩)|(simp [eI];done)|exact aS|fail)))
  ·rw[List.drop_of_length_le (by omega),upF_nil,List.append_nil] at hv
   subst hv
   repeat' (first|refine gS ?_|refine sp ?_ ?_ <;> intro h|(with_reducible apply And.intro)|exact aG|fail)
   all_goals exact rt [some 28]
def rootN:Nat→List Int→Int
 |0,l=>l.getD 0 0
 |n+1,l=>if l.length > 1 then rootN n (upF l) else l.getD 0 0
def rootF (l:List Int):Int × Int:=if listErr l ≠ 0 then (0,listErr l) else if l.length=0 then (0,0) else (rootN l.length l,0)
theorem rootN_any:∀ {n m:Nat} {l:List Int},l.length≤n+1→l.length≤m+1→rootN n l=rootN m l
 |0,0,l,_,_=>rfl
 |0,m+1,l,h,_=>by rw[rootN,rootN,if_neg (by omega)]
 |n+1,0,l,_,h=>by rw[rootN,rootN,if_neg (by omega)]
 |n+1,m+1,l,h1,h2=>by
  rw[rootN,rootN]
  split
  ·exact rootN_any (by rw[upF_len];omega) (by rw[upF_len];omega)
  ·rfl
theorem r12root (l:List Int) (hl:l.length≤17592186044416):Does Tryz.prog 123 [.d (dInts l)] [] (.tu [I (rootF l).1,I (rootF l).2]) [] []:=by
 refine wD Tryz.func123 fun cx hm0=>?_
 by_cases h1:listErr l=0
 case neg =>
  have hv:rootF l=(0,listErr l):=by simp [rootF,h1]
  rw[hv]
  have h1':(listErr l != 0)=true:=by simpa using h1
  repeat' (first|refine gA h1' ?_|refine sp ?_ ?_ <;> intro h|refine gP (r12list l hl) ?_|(with_reducible apply And.intro)|exact aG|fail)
  all_goals exact rt []
 by_cases h2:l.length=0
 ·have hv:rootF l=(0,0):=by simp [rootF,h1,h2]
  rw[hv]
  have q:((l.length:Int) == 0)=true:=by rw[beq_iff_eq];omega
  repeat' (first|refine gB h1 q ?_|refine sp ?_ ?_ <;> intro h|refine gP (r12list l hl) ?_|(with_reducible apply And.intro)|exact aG|fail)
  all_goals exact rt []
 have q:((l.length:Int) == 0)=false:=by rw[beq_eq_false_iff_ne];omega
 have hv:rootF l=(rootN l.length l,0):=by simp [rootF,h1,h2]
 rw[hv]
 repeat' (first|refine gB h1 q ?_|refine sp ?_ ?_ <;> intro h|refine gP (r12list l hl) ?_|(with_reducible apply And.intro)|exact aG|fail)
 have hl0:0<l.length:=by omega
 generalize hRR:rootN l.length l=R
 refine go_loopz 5000 hm0 (ι:={p:List Int // 0<p.length∧p.length≤l.length∧R=rootN p.length p}) (fun i=>[(0,.d (dInts i.1))]) (fun i=>[]) (fun i=>i.1.length) [] [] ⟨l,hl0,Nat.le_refl _,hRR.symm⟩ ?_ ?_
 ·exact aX
 ·rintro⟨p,hp,hpl,hv⟩
  by_cases h3:p.length > 1
  ·have q3:decide ((p.length:Int) > 1)=true:=by simp;omega
   have hp':=Nat.le_trans hpl hl
   repeat' (first|refine gA q3 ?_|refine sp ?_ ?_ <;> intro h|refine gN (r12up p hp') ?_|(with_reducible apply And.intro)|exact aG|fail)
   have hul:=upF_len (l:=p)
   refine⟨[.og 19000 0],[],⟨upF p,by omega,by omega,by
    rw[hv]
    cases hn:p.length with
    |zero=>omega
    |succ n=>rw[rootN,if_pos h3];exact rootN_any (by omega) (by omega)⟩,?_,by simp only;omega⟩
   exact aX
  ·have q3:decide ((p.length:Int) > 1)=false:=by simp;omega
   have hs1:=getD_map eI [] 0 p 0 hp
   have hr:rootN p.length p=p.getD 0 0:=by
    cases hn:p.length with
    |zero=>omega
    |succ n=>rw[rootN,if_neg (by omega)]
   subst hv
   repeat' (first|refine gQ q3 hs1 hr eI.eq_1 ?_|refine sp ?_ ?_ <;> intro h|(with_reducible apply And.intro)|exact aG|fail)
   all_goals exact rt []
structure PHead where
 num:Int
 p:Int
 count:Int
 width:Int
 root:Int
abbrev vHead (h:PHead):V:=.ag [I h.num,I h.p,I h.count,I h.width,I h.root]
noncomputable def headF (t:PTab):PHead × Int:=if checkT t ≠ 0 then (⟨0,0,0,0,0⟩,checkT t) else (⟨t.num,t.p,t.rows.length,t.width,(rootF (t.rows.map rowF)).1⟩,0)
theorem r14head (t:PTab) (hl:t.rows.length≤17592186044416) (hs:Short t.rows):Does Tryz.prog 90 [vTab t] [] (.tu [vHead (headF t).1,I (headF t).2]) [] []:=by
 refine wD Tryz.func90 fun cx hm0=>?_
 have hdl:(r14digF t).1.length≤17592186044416:=by unfold r14digF;split <;> simp;exact hl
 by_cases h1:checkT t=0
 case neg =>
  have hv:headF t=(⟨0,0,0,0,0⟩,checkT t):=by simp [headF,h1]
  have hv2:r14digF t=([],checkT t):=by simp [r14digF,h1]
  rw[hv]
  have hD:=r14digests t hl hs
  rw[hv2] at hD
  have h1':(checkT t != 0)=true:=by simpa using h1
  repeat' (first|refine gA h1' ?_|refine sp ?_ ?_ <;> intro h|refine gN hD ?_|(with_reducible apply And.intro)|exact aG|fail)
  all_goals exact rt []
 have hv:headF t=(⟨t.num,t.p,t.rows.length,t.width,(rootF (t.rows.map rowF)).1⟩,0):=by simp [headF,h1]
 have hv2:r14digF t=(t.rows.map rowF,0):=by simp [r14digF,h1]
 rw[hv]
 have hD:=r14digests t hl hs
 rw[hv2] at hD
 repeat' (first|refine gA h1 ?_|refine sp ?_ ?_ <;> intro h|refine gN hD ?_|refine gP (r12root (t.rows.map rowF) (by rw[List.length_map];exact hl)) ?_|(with_reducible apply And.intro)|exact aG|fail)
 all_goals exact rt []
end Go.Proofs.YticdbambknflgaaGreat.Sim
