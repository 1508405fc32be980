/- Lists of numbers. -/
import Derived.Test.YtacfbiegbdlldaaGreatDoorMAcs
namespace Go.Proofs.YtacfbiegbdlldaaGreatDoor.Sim
open Go
set_option maxRecDepth 100000
set_option linter.unusedVariables false
set_option linter.unusedSimpArgs false
attribute [local irreducible] Go Mean
def eI (x:Int):List D:=[.at (.int .i64 x)]
abbrev dInts (l:List Int):D:=.sl 1 (l.map eI)
theorem getD_map {α β:Type} (f:α→β) (z:β) (w:α):∀ (l:List α) (k:Nat),k<l.length→(l.map f).getD k z=f (l.getD k w)
 |[],k,h=>by simp at h
 |x :: l,0,h=>rfl
 |x :: l,k+1,h=>by
  simp only[List.map_cons,List.getD_cons_succ]
  exact getD_map f z w l k (by simpa using h)
theorem drop_get {α:Type} (w:α):∀ (l:List α) (k:Nat),k<l.length→l.drop k=l.getD k w :: l.drop (k+1)
 |[],k,h=>by simp at h
 |x :: l,0,h=>rfl
 |x :: l,k+1,h=>by
  simp only[List.drop_succ_cons,List.getD_cons_succ]
  exact drop_get w l k (by simpa using h)
theorem eq_iff_get {α:Type} (z:α) (a b:List α) (h:a.length=b.length):a=b↔∀ k,k<a.length→a.getD k z=b.getD k z:=by
 constructor
 ·rintro rfl _ _;rfl
 ·intro hk
  apply List.ext_getElem h
  intro i h1 h2
  have:=hk i h1
  simpa [List.getD_eq_getElem?_getD,h1,h2] using this
def eR (r:List Int):List D:=[dInts r]
abbrev dRows (l:List (List Int)):D:=.sl 1 (l.map eR)
theorem mem_getD {α:Type} (z:α) (l:List α) (k:Nat) (h:k<l.length):l.getD k z ∈ l:=by
 rw[List.getD_eq_getElem?_getD,List.getElem?_eq_getElem h];exact List.getElem_mem h
theorem cloneInts (l:List Int) (hl:l.length≤17592186044416):Does Tryz.prog 59 [.d (dInts l)] [] (.og 1000000 0) [] [.arr 0 1 true (l.map eI)]:=by
 refine go_slices_Clone_int_int rfl BxOK.nil fun cx hm0=>go_in 5000 ?_
 unfold ac_slices_Clone_int_int rs_slices_Clone_int_int
 cases l with
 |nil =>
  repeat' (first|simp (maxSteps:=9999999) only[↓GE,PL,PP,EE,QQ,seval]|(simp (disch:=omega) only[IntWalk.i64_in])|(apply go_brD<;>intro h)|(apply go_gsD aE<;>intro h)|(apply go_br<;>intro h)|(apply go_gs aE<;>intro h)|(with_reducible apply And.intro)|exact aG|fail)
  ·(first|apply ret_mk [none]|apply end_mk [none]);(· exact aR)
   all_goals exact aF
  ·(first|apply ret_mk [some 5]|apply end_mk [some 5]);(· exact aR)
   all_goals exact aF
 |cons x l =>
  repeat' (first|simp (maxSteps:=9999999) only[↓GE,PL,PP,EE,QQ,seval]|(simp (disch:=omega) only[IntWalk.i64_in])|(apply go_brD<;>intro h)|(apply go_gsD aE<;>intro h)|(apply go_br<;>intro h)|(apply go_gs aE<;>intro h)|(with_reducible apply And.intro)|exact aG|fail)
  (first|apply ret_mk [some 5]|apply end_mk [some 5]);(· exact aR)
  all_goals exact aF
end Go.Proofs.YtacfbiegbdlldaaGreatDoor.Sim
