/- Schemes. -/
import Derived.Test.YticdbambknflgaaGreatMWoR
import Derived.Test.YticdbambknflgaaGreatMAcs
namespace Go.Proofs.YticdbambknflgaaGreat.Sim
open Go
set_option maxRecDepth 100000
set_option maxHeartbeats 4000000
set_option linter.unusedVariables false
set_option linter.unusedSimpArgs false
attribute [local irreducible] Go Mean
def SchOK (s:PSch):Prop:=2≤s.sv∧s.sv≤10∧((s.kind=1∧s.deg=0∧s.grp=0)∨(s.kind=2∧1≤s.deg∧s.deg≤s.sv-1∧s.grp=0)∨(s.kind=3∧1≤s.deg∧1≤s.grp∧s.deg≤10∧s.grp≤10∧2*s.grp+s.deg-1≤s.sv))
instance (s:PSch):Decidable (SchOK s):=by unfold SchOK;infer_instance
theorem shape23 (s:PSch):Does Tryz.prog 117 [vSch s] [] (B (decide (SchOK s))) [] []:=by
 obtain⟨k,sv,deg,grp⟩:=s
 refine wD Tryz.func117 fun cx hm0=>?_
 cases hd:decide (SchOK ⟨k,sv,deg,grp⟩) with
 |true =>
  have hS:SchOK ⟨k,sv,deg,grp⟩:=of_decide_eq_true hd
  simp only[SchOK] at hS
  clear hd
  repeat' (first|refine gS ?_|refine sp ?_ ?_ <;> intro h|(with_reducible apply And.intro)|exact aG|fail)
  all_goals first|(exfalso;first|omega|(simp_all;done)|(simp_all;omega))|exact rt []
 |false =>
  have hS:¬ SchOK ⟨k,sv,deg,grp⟩:=of_decide_eq_false hd
  simp only[SchOK] at hS
  clear hd
  repeat' (first|refine gS ?_|refine sp ?_ ?_ <;> intro h|(with_reducible apply And.intro)|exact aG|fail)
  all_goals first|(exfalso;first|omega|(simp_all;done)|(simp_all;omega))|exact rt []
noncomputable def vldB (s:PSch) (p:Int):Bool:=decide (SchOK s)&&(fieldB p&&(decide (s.kind=1)||decide (s.sv<p)))
theorem vldB_iff {s:PSch} {p:Int}:vldB s p=true↔SchOK s∧fieldB p=true∧(s.kind=1∨s.sv<p):=by simp [vldB]
theorem valid23 (s:PSch) (p:Int):Does Tryz.prog 74 [vSch s,.ag [I p]] [] (B (vldB s p)) [] []:=by
 have e1:=shape23 s
 cases hv:vldB s p with
 |true =>
  obtain⟨h1,h2,h3⟩:=vldB_iff.1 hv
  rw[decide_eq_true h1] at e1
  refine wD Tryz.func74 fun cx hm0=>?_
  repeat' (first|refine gA h2 ?_|refine sp ?_ ?_ <;> intro h|refine gP e1 ?_|refine gP (r3check p) ?_|(with_reducible apply And.intro)|exact aG|fail)
  all_goals first|(exfalso;first|omega|(simp_all;done)|(simp_all;omega))|exact rt []
 |false =>
  refine wD Tryz.func74 fun cx hm0=>?_
  by_cases h1:SchOK s
  ·rw[decide_eq_true h1] at e1
   cases hf:fieldB p with
   |true =>
    have h3:¬ (s.kind=1∨s.sv<p):=fun h=>by rw[vldB_iff.2 ⟨h1,hf,h⟩] at hv;cases hv
    repeat' (first|refine gA hf ?_|refine sp ?_ ?_ <;> intro h|refine gP e1 ?_|refine gP (r3check p) ?_|(with_reducible apply And.intro)|exact aG|fail)
    all_goals first|(exfalso;first|omega|(simp_all;done)|(simp_all;omega))|exact rt []
   |false =>
    repeat' (first|refine gA hf ?_|refine sp ?_ ?_ <;> intro h|refine gP e1 ?_|refine gP (r3check p) ?_|(with_reducible apply And.intro)|exact aG|fail)
    all_goals exact rt []
  ·rw[decide_eq_false h1] at e1
   repeat' (first|refine gS ?_|refine sp ?_ ?_ <;> intro h|refine gP e1 ?_|(with_reducible apply And.intro)|exact aG|fail)
   all_goals exact rt []
noncomputable def unitsF (s:PSch) (rows:Int):Int:=if SchOK s∧1≤rows∧rows≤1024 then (if s.kind=3 then (rows+s.grp-1).tdiv s.grp else rows) else 0
theorem units23 (s:PSch) (rows:Int):Does Tryz.prog 149 [vSch s,I rows] [] (I (unitsF s rows)) [] []:=by
 have e1:=shape23 s
 refine wD Tryz.func149 fun cx hm0=>?_
 by_cases h1:SchOK s
 ·rw[decide_eq_true h1] at e1
  by_cases h2:1≤rows∧rows≤1024
  ·have hu:unitsF s rows=if s.kind=3 then (rows+s.grp-1).tdiv s.grp else rows:=if_pos ⟨h1,h2⟩
   unfold SchOK at h1
   by_cases h3:s.kind=3
   ·rw[if_pos h3] at hu
    have r1:(s.kind == 3)=true:=by rw[beq_iff_eq];exact h3
    have hq:0≤(rows+s.grp-1).tdiv s.grp∧(rows+s.grp-1).tdiv s.grp≤1034:=by
     rw[Int.tdiv_eq_ediv_of_nonneg (by omega)]
     exact⟨Int.ediv_nonneg (by omega) (by omega),Int.le_trans (Int.ediv_le_self _ (by omega)) (by omega)⟩
    have w1:IntKind.i64.wrap ((rows+s.grp-1).tdiv s.grp)=(rows+s.grp-1).tdiv s.grp:=IntWalk.i64_in _ (by omega)
    repeat' (first|refine gB r1 w1 ?_|refine sp ?_ ?_ <;> intro h|refine gP e1 ?_|(with_reducible apply And.intro)|exact aG|fail)
    all_goals first|(exfalso;omega)|exact rtF [] hu
   ·rw[if_neg h3] at hu
    have r1:(s.kind == 3)=false:=by rw[beq_eq_false_iff_ne];exact h3
    repeat' (first|refine gA r1 ?_|refine sp ?_ ?_ <;> intro h|refine gP e1 ?_|(with_reducible apply And.intro)|exact aG|fail)
    all_goals first|(exfalso;omega)|exact rtF [] hu
  ·have hu:unitsF s rows=0:=if_neg fun h=>h2 h.2
   repeat' (first|refine gS ?_|refine sp ?_ ?_ <;> intro h|refine gP e1 ?_|(with_reducible apply And.intro)|exact aG|fail)
   all_goals first|(exfalso;omega)|exact rtF [] hu
 ·rw[decide_eq_false h1] at e1
  have hu:unitsF s rows=0:=if_neg fun h=>h1 h.1
  repeat' (first|refine gS ?_|refine sp ?_ ?_ <;> intro h|refine gP e1 ?_|(with_reducible apply And.intro)|exact aG|fail)
  all_goals exact rtF [] hu
theorem plan23 (s:PSch):Does Tryz.prog 147 [vSch s] [] (.ag [I s.sv,I s.deg]) [] []:=by
 refine wD Tryz.func147 fun cx hm0=>?_
 repeat' (first|refine gS ?_|refine sp ?_ ?_ <;> intro h|(with_reducible apply And.intro)|exact aG|fail)
 all_goals exact rt []
theorem storage23 (s:PSch):Does Tryz.prog 140 [vSch s] [] (.ag [I s.sv,I s.deg,I s.grp]) [] []:=by
 refine wD Tryz.func140 fun cx hm0=>?_
 repeat' (first|refine gS ?_|refine sp ?_ ?_ <;> intro h|(with_reducible apply And.intro)|exact aG|fail)
 all_goals exact rt []
end Go.Proofs.YticdbambknflgaaGreat.Sim
