/- Fields by the reference: taken over from chapter 15. -/
import Derived.Test.YticdbambknflgaaGreatMLibI
import Derived.Test.YticdbambknflgaaGreatMAcs
section
namespace Go.Proofs.YticdbambknflgaaGreat.Sim
open Go
set_option maxRecDepth 100000
set_option maxHeartbeats 4000000
set_option linter.unusedVariables false
set_option linter.unusedSimpArgs false
attribute [local irreducible] Go Mean
def eB (x:UInt8):List D:=[.at (.int .u8 x.toNat)]
abbrev dBytes (l:List UInt8):D:=.sl 1 (l.map eB)
abbrev dc (l:List UInt8) (k:Nat):U:=[(900000,.box 0 [.d (dBytes l),I k])]
abbrev dcp:V:=.bp 900000 0 0
def pickV (l:List UInt8) (k:Nat) (n:Int):Int:=if l.length≤k then 0 else ((l.getD k 0).toNat:Int).tmod n
def pickK (l:List UInt8) (k:Nat):Nat:=if l.length≤k then k else k+1
theorem pickV_in (l:List UInt8) (k:Nat) (n:Int) (hn:1≤n):0≤pickV l k n∧pickV l k n<n:=by
 unfold pickV
 split
 ·omega
 ·rw[Int.tmod_eq_emod_of_nonneg (by omega)]
  exact⟨Int.emod_nonneg _ (by omega),Int.emod_lt_of_pos _ (by omega)⟩
theorem dice (l:List UInt8) (hl:l.length≤140737488355328):Does Tryz.prog 8 [.d (dBytes l)] [] (.bp 1000000 0 0) [] [.box 0 [.d (dBytes (l.take 300)),I 0]]:=by
 refine wD Tryz.func8 fun cx hm0=>?_
 by_cases h:l.length≤300
 ·have q:decide ((l.length:Int) > 300)=false:=decide_eq_false (by omega)
  rw[List.take_of_length_le h]
  repeat' (first|refine gA q ?_|refine sp ?_ ?_ <;> intro h|(with_reducible apply And.intro)|exact aG|fail)
  all_goals exact rt [some 10]
 ·have q:decide ((l.length:Int) > 300)=true:=decide_eq_true (by omega)
  have hm:(l.map eB).take 300=(l.take 300).map eB:=List.map_take.symm
  repeat' (first|refine gB q hm ?_|refine sp ?_ ?_ <;> intro h|(with_reducible apply And.intro)|exact aG|fail)
  all_goals exact rt [some 10]
theorem pick (l:List UInt8) (hl:l.length≤140737488355328) (k:Nat) (n:Int) (hn:1≤n):Does Tryz.prog 42 [dcp,I n] (dc l k) (I (pickV l k n)) (dc l (pickK l k)) []:=by
 refine wB Tryz.func42 BxOK.one fun cx hm0=>?_
 by_cases h:l.length≤k
 ·have q:decide ((k:Int) ≥ (l.length:Int))=true:=decide_eq_true (by omega)
  rw[pickV,pickK,if_pos h,if_pos h]
  repeat' (first|refine gA q ?_|refine sp ?_ ?_ <;> intro h|(with_reducible apply And.intro)|exact aG|fail)
  all_goals exact rt []
 ·have q:decide ((k:Int) ≥ (l.length:Int))=false:=decide_eq_false (by omega)
  have hs:=getD_map eB [] 0 l k (by omega)
  rw[pickV,pickK,if_neg h,if_neg h]
  generalize l.getD k 0=x at hs
  have hx:=x.toNat_lt
  have w1:IntKind.i64.wrap (x.toNat:Int)=x.toNat:=IntWalk.i64_in _ (by omega)
  have w2:IntKind.i64.wrap ((k:Int)+1)=(k:Int)+1:=IntWalk.i64_in _ (by omega)
  have w3:IntKind.i64.wrap ((k:Int)+1-1)=k:=by rw[show (k:Int)+1-1=k by omega];exact IntWalk.i64_in _ (by omega)
  repeat' (first|simp (maxSteps:=9999999) only[↓GE,PQ,seval,q,hs,eB,w1,w2,w3]|refine gS ?_|refine sp ?_ ?_ <;> intro h|(with_reducible apply And.intro)|exact aG|fail)
  all_goals exact rt []
def elmG (l:List UInt8) (p:Int) (k:Nat):Nat→List Int × Nat
 |0=>([],k)
 |n+1=>((elmG l p k n).1++[(pickV l (elmG l p k n).2 256+pickV l (pickK l (elmG l p k n).2) 2*128).tmod p],pickK l (pickK l (elmG l p k n).2))
theorem elmG_len {l:List UInt8} {p:Int} {k:Nat}:∀ {n:Nat},(elmG l p k n).1.length=n
 |0=>rfl
 |n+1=>by rw[elmG];simp [elmG_len]
theorem elmG_in {l:List UInt8} {p:Int} {k:Nat} (hp:1≤p):∀ {n:Nat},∀ x ∈ (elmG l p k n).1,0≤x∧x<p
 |0,x,h=>by cases h
 |n+1,x,h=>by
  rw[elmG] at h
  rcases List.mem_append.1 h with h|h
  ·exact elmG_in hp x h
  ·simp only[List.mem_singleton] at h
   subst h
   have h1:=pickV_in l (elmG l p k n).2 256 (by omega)
   have h2:=pickV_in l (pickK l (elmG l p k n).2) 2 (by omega)
   rw[Int.tmod_eq_emod_of_nonneg (by omega)]
   exact⟨Int.emod_nonneg _ (by omega),Int.emod_lt_of_pos _ (by omega)⟩
theorem delements (l:List UInt8) (hl:l.length≤140737488355328) (k:Nat) (p:Int) (hp:1≤p) (n:Nat) (hn:n≤10000000):Does Tryz.prog 88 [dcp,.ag [I p],I n] (dc l k) (.og 1000000 0) (dc l (elmG l p k n).2) [.arr 0 1 true ((elmG l p k n).1.map eI)]:=by
 refine wB Tryz.func88 BxOK.one fun cx hm0=>?_
 repeat' (first|refine gS ?_|refine sp ?_ ?_ <;> intro h|(with_reducible apply And.intro)|exact aG|fail)
 refine go_loop 5000 hm0 (ι:={q:Nat × Nat // q.1≤n}) (fun i=>[(0,.bp 900000 0 0),(2,I n),(4,.bp 4 0 0),(7,.og 25 i.1.2),(8,I i.1.1)]) (fun i=>[(4,.box 0 [I p]),(25,.arr i.1.2 1 true ((elmG l p k i.1.1).1.map eI)),(900000,.box 0 [.d (dBytes l),I (elmG l p k i.1.1).2])]) (fun i=>n-i.1.1) [25] ⟨(0,0),by simp⟩ ?_ ?_
 ·(simp only[GeS];refine⟨?_,?_,?_,?_⟩;all_goals (repeat' (first|(with_reducible exact True.intro)|(with_reducible rfl)|simp only[XC,↓reduceIte,seval]|(with_reducible apply And.intro)|(refine⟨_,rfl,?_⟩)|(simp [elmG];done)|exact aS|fail)))
 ·rintro⟨⟨j,v⟩,hj⟩
  simp only at hj
  have hlen:=elmG_len (l:=l) (p:=p) (k:=k) (n:=j)
  by_cases hjn:j<n
  ·have h1:=pickV_in l (elmG l p k j).2 256 (by omega)
   have h2:=pickV_in l (pickK l (elmG l p k j).2) 2 (by omega)
   have e1:=pick l hl (elmG l p k j).2 256 (by omega)
   have e2:=pick l hl (pickK l (elmG l p k j).2) 2 (by omega)
   have w1:IntKind.i64.wrap (pickV l (pickK l (elmG l p k j).2) 2*128)=pickV l (pickK l (elmG l p k j).2) 2*128:=IntWalk.i64_in _ (by omega)
   have w2:IntKind.i64.wrap (pickV l (elmG l p k j).2 256+pickV l (pickK l (elmG l p k j).2) 2*128)=pickV l (elmG l p k j).2 256+pickV l (pickK l (elmG l p k j).2) 2*128:=IntWalk.i64_in _ (by omega)
   repeat' (first|refine gB w1 w2 ?_|refine sp ?_ ?_ <;> intro h|refine gL e1 ?_|refine gL e2 ?_|(with_reducible apply And.intro)|exact aG|fail)
   refine⟨⟨(j+1,v+1),hjn⟩,?_,by simp only;omega⟩
   (simp only[GeS];refine⟨?_,?_,?_,?_⟩;all_goals (repeat' (first|(with_reducible exact True.intro)|(with_reducible rfl)|simp only[XC,↓reduceIte,seval]|(with_reducible apply And.intro)|(refine⟨_,rfl,?_⟩)|(simp [elmG,eI];done)|exact aS|fail)))
  ·have:j=n:=by omega
   subst this
   repeat' (first|refine gS ?_|refine sp ?_ ?_ <;> intro h|(with_reducible apply And.intro)|exact aG|fail)
   all_goals exact rt [some 25]
end Go.Proofs.YticdbambknflgaaGreat.Sim
end
section
namespace Go.Proofs.YticdbambknflgaaGreat.Sim
open Go
set_option maxRecDepth 100000
set_option maxHeartbeats 4000000
set_option linter.unusedVariables false
set_option linter.unusedSimpArgs false
attribute [local irreducible] Go Mean
structure PSet where
 idx:Int
 row:List Int
def eSet (s:PSet):List D:=[.at (.int .i64 s.idx),dInts s.row]
abbrev dSets (l:List PSet):D:=.sl 2 (l.map eSet)
structure PChg where
 fr:Int
 tt:Int
 count:Int
 sets:List PSet
abbrev vChg (c:PChg):V:=.ag [I c.fr,I c.tt,I c.count,.d (dSets c.sets)]
def numF (n:Int):Bool:=decide (1≤n)&&decide (n<2147483647)
def formGo (count:Int):Int→List PSet→Bool
 |_,[]=>true
 |last,s :: r=>if s.idx≤last∨s.idx ≥ count then false else formGo count s.idx r
def formF (c:PChg):Bool:=numF c.fr&&numF c.tt&&decide (c.fr<c.tt)&&decide (0≤c.count)&&decide (c.count≤1024)&&formGo c.count (-1) c.sets
def noSet:PSet:=⟨0,[]⟩
def behindF (index:Int) (l:List PSet):Nat:=l.countP fun s=>decide (s.idx ≥ index)
noncomputable def fieldB (p:Int):Bool:=@decide (2≤p∧p≤65521∧∀ d:Int,2≤d→d*d≤p→p.tmod d ≠ 0) (Classical.propDecidable _)
theorem fieldB_iff {p:Int}:fieldB p=true↔2≤p∧p≤65521∧∀ d:Int,2≤d→d*d≤p→p.tmod d ≠ 0:=by simp [fieldB]
theorem fieldB_no {p:Int} (h:¬(2≤p∧p≤65521∧∀ d:Int,2≤d→d*d≤p→p.tmod d ≠ 0)):fieldB p=false:=by
 cases e:fieldB p with
 |false=>rfl
 |true=>exact absurd (fieldB_iff.1 e) h
theorem sq_ge {d:Int} (h:0≤d):d≤d*d:=by
 by_cases h0:d=0
 ·subst h0;decide
 ·have:=Int.mul_le_mul_of_nonneg_right (show (1:Int)≤d by omega) h
  rwa [Int.one_mul] at this
theorem sq_le {d e:Int} (h0:0≤d) (h:d≤e):d*d≤e*e:=Int.mul_le_mul h h h0 (by omega)
theorem no_more {p d:Int} (hd:2≤d) (hp:2≤p) (hp2:p≤65521) (hn:∀ e:Int,2≤e→e<d→p.tmod e ≠ 0) (h:¬d*d≤p):fieldB p=true:=by
 refine fieldB_iff.2 ⟨hp,hp2,fun e he h2=>?_⟩
 by_cases h3:e<d
 ·exact hn e he h3
 ·have:=sq_le (d:=d) (e:=e) (by omega) (by omega)
  omega
def inE (p x:Int):Bool:=decide (0≤x)&&decide (x<p)
theorem r3check (p:Int):Does Tryz.prog 115 [.ag [I p]] [] (I (if fieldB p=true then 0 else 9)) [] []:=by
 refine wD Tryz.func115 fun cx hm0=>?_
 repeat' (first|refine gS ?_|refine sp ?_ ?_ <;> intro h|(with_reducible apply And.intro)|exact aG|fail)
 ·have hf:fieldB p=false:=fieldB_no (by omega)
  exact rtF [] hf
 ·have hf:fieldB p=false:=fieldB_no (by omega)
  exact rtF [] hf
 refine go_loop 5000 hm0 (ι:={d:Int // 2≤d∧d≤65522∧∀ e:Int,2≤e→e<d→p.tmod e ≠ 0}) (fun i=>[(1,.bp 1 0 0),(2,I 0),(3,I i.1)]) (fun i=>[(1,.box 0 [I p])]) (fun i=>(65523-i.1).toNat) [] ⟨2,by omega,by omega,fun e h1 h2=>by omega⟩ ?_ ?_
 ·exact aH
 ·rintro⟨d,hd,hd2,hn⟩
  have hb:=sq_le (show (0:Int)≤d by omega) hd2
  have hb2:=sq_ge (show (0:Int)≤d by omega)
  repeat' (first|refine gS ?_|refine sp ?_ ?_ <;> intro h|(with_reducible apply And.intro)|exact aG|fail)
  ·rename_i h
   have hf:fieldB p=false:=fieldB_no fun hh=>hh.2.2 d hd (by assumption) (by simpa using h)
   exact rtF [] hf
  ·rename_i h
   refine⟨⟨d+1,by omega,by omega,fun e h1 h2=>?_⟩,?_,by simp only;omega⟩
   ·by_cases he:e=d
    ·subst he;simpa using h
    ·exact hn e h1 (by omega)
   ·exact aH
  ·have hf:fieldB p=true:=no_more hd (by omega) (by omega) hn (by assumption)
   exact rtF [] hf
theorem r3in (p:Int) (l:List Int) (hl:l.length≤17592186044416):Does Tryz.prog 116 [.ag [I p],.d (dInts l)] [] (B (fieldB p&&l.all (inE p))) [] []:=by
 refine wD Tryz.func116 fun cx hm0=>?_
 cases hf:fieldB p with
 |false =>
  repeat' (first|refine gA hf ?_|refine sp ?_ ?_ <;> intro h|refine gP (r3check p) ?_|(with_reducible apply And.intro)|exact aG|fail)
  all_goals exact rtF [] hf
 |true =>
  repeat' (first|refine gA hf ?_|refine sp ?_ ?_ <;> intro h|refine gP (r3check p) ?_|(with_reducible apply And.intro)|exact aG|fail)
  refine go_loop 5000 hm0 (ι:={k:Nat // k≤l.length∧l.all (inE p)=(l.drop k).all (inE p)}) (fun i=>[(2,.bp 2 0 0),(4,B false),(10,.d (dInts l)),(11,I l.length),(12,I i.1)]) (fun i=>[(2,.box 0 [I p])]) (fun i=>l.length-i.1) [] ⟨0,by simp⟩ ?_ ?_
  ·exact aH
  ·rintro⟨k,hk,hv⟩
   by_cases hkl:k<l.length
   ·have hs:=getD_map eI [] 0 l k hkl
    rw[drop_get 0 _ _ hkl] at hv
    generalize l.getD k 0=s at hs hv
    simp only[List.all_cons] at hv
    repeat' (first|refine gB hs eI.eq_1 ?_|refine sp ?_ ?_ <;> intro h|(with_reducible apply And.intro)|exact aG|fail)
    any_goals exact rtF [] (And.intro hv inE.eq_1)
    refine⟨⟨k+1,hkl,?_⟩,?_,by simp only;omega⟩
    ·rw[hv,show inE p s=true by simp only[inE,Bool.and_eq_true,decide_eq_true_eq];omega,Bool.true_and]
    exact aH
   ·have:k=l.length:=by omega
    subst this
    simp only[List.drop_length,List.all_nil] at hv
    repeat' (first|refine gS ?_|refine sp ?_ ?_ <;> intro h|(with_reducible apply And.intro)|exact aG|fail)
    all_goals exact rtF [] hv
end Go.Proofs.YticdbambknflgaaGreat.Sim
end
