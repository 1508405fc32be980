/- Lists of numbers. -/
import Derived.Test.YticdbambknflgaaGreatMAcs
namespace Go.Proofs.YticdbambknflgaaGreat.Sim
open Go
set_option maxRecDepth 100000
set_option linter.unusedVariables false
set_option linter.unusedSimpArgs false
attribute [local irreducible] Go Mean
abbrev dInts (l:List Int):D:=.sl 1 (l.map eI)
theorem getD_map {α β:Type} (f:α→β) (z:β) (w:α):∀ (l:List α) (k:Nat),k<l.length→(l.map f).getD k z=f (l.getD k w)
 |[],k,h=>by simp at h
 |x :: l,0,h=>rfl
 |x :: l,k+1,h=>by
  simp only[List.map_cons,List.getD_cons_succ]
  exact getD_map f z w l k (by simpa using h)
theorem drop_get {α:Type} (w:α):∀ (l:List α) (k:Nat),k<l.length→l.drop k=l.getD k w :: l.drop (k+1)
 |[],k,h=>by simp at h
 |x :: l,0,h=>rfl
 |x :: l,k+1,h=>by
  simp only[List.drop_succ_cons,List.getD_cons_succ]
  exact drop_get w l k (by simpa using h)
theorem eq_iff_get {α:Type} (z:α) (a b:List α) (h:a.length=b.length):a=b↔∀ k,k<a.length→a.getD k z=b.getD k z:=by
 constructor
 ·rintro rfl _ _;rfl
 ·intro hk
  apply List.ext_getElem h
  intro i h1 h2
  have:=hk i h1
  simpa [List.getD_eq_getElem?_getD,h1,h2] using this
def eR (r:List Int):List D:=[dInts r]
abbrev dRows (l:List (List Int)):D:=.sl 1 (l.map eR)
theorem mem_getD {α:Type} (z:α) (l:List α) (k:Nat) (h:k<l.length):l.getD k z ∈ l:=by
 rw[List.getD_eq_getElem?_getD,List.getElem?_eq_getElem h];exact List.getElem_mem h
def Short (l:List (List Int)):Prop:=∀ r ∈ l,r.length≤17592186044416
theorem take_succ_getD {α:Type} (w:α):∀ (l:List α) (k:Nat),k<l.length→l.take (k+1)=l.take k++[l.getD k w]
 |[],k,h=>by simp at h
 |x :: l,0,h=>by simp
 |x :: l,k+1,h=>by
  have:=take_succ_getD w l k (by simpa using h)
  simp only[List.take_succ_cons,List.getD_cons_succ,this,List.cons_append]
theorem equalI (a b:List Int) (ha:a.length≤17592186044416) (hb:b.length≤17592186044416):Does Tryz.prog 33 [.d (dInts a),.d (dInts b)] [] (B (decide (a=b))) [] []:=by
 refine wD Tryz.func33 fun cx hm0=>?_
 repeat' (first|refine gS ?_|refine sp ?_ ?_ <;> intro h|(with_reducible apply And.intro)|exact aG|fail)
 ·have hv:decide (a=b)=false:=decide_eq_false fun e=>by subst e;simp at h
  exact rtF [] hv
 have hl:a.length=b.length:=by simp at h;omega
 refine go_loop 5000 hm0 (ι:={k:Nat // k≤a.length∧∀ j,j<k→a.getD j 0=b.getD j 0}) (fun i=>[(0,.d (dInts a)),(1,.d (dInts b)),(4,B false),(12,I a.length),(13,I i.1)]) (fun i=>[]) (fun i=>a.length-i.1) [] ⟨0,by omega,fun j h=>by omega⟩ ?_ ?_
 ·exact aH
 ·rintro⟨k,hk,hv⟩
  by_cases hkl:k<a.length
  ·have hs:=getD_map eI [] 0 a k hkl
   have hs':=getD_map eI [] 0 b k (by omega)
   repeat' (first|refine gC hs hs' eI.eq_1 ?_|refine sp ?_ ?_ <;> intro h|(with_reducible apply And.intro)|exact aG|fail)
   ·have hv':decide (a=b)=false:=decide_eq_false fun e=>by subst e;simp at h
    exact rtF [] hv'
   ·refine⟨⟨k+1,hkl,fun j hj=>?_⟩,?_,by simp only;omega⟩
    ·by_cases e:j=k
     ·subst e;simpa using h
     ·exact hv j (by omega)
    exact aH
  ·have:k=a.length:=by omega
   subst this
   have hv':decide (a=b)=true:=decide_eq_true ((eq_iff_get 0 a b hl).2 hv)
   repeat' (first|refine gS ?_|refine sp ?_ ?_ <;> intro h|(with_reducible apply And.intro)|exact aG|fail)
   all_goals exact rtF [] hv'
end Go.Proofs.YticdbambknflgaaGreat.Sim
