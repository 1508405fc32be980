/- The sanity check of the tops. -/
import Derived.Test.YtacfbiegbdlldaaGreatDoorMTpY
import Derived.Test.YtacfbiegbdlldaaGreatDoorMTpCq3
section
namespace Go.Proofs.YtacfbiegbdlldaaGreatDoor.Sim
open Go Go.RowKit Go.Deep
open Go.Proofs.YtacfbiegbdlldaaGreatDoor.Tw (WCell kn kn_len kn_all kn_next)
set_option maxRecDepth 100000
set_option maxHeartbeats 4000000
def fillB (p:Int) (l:List WCell) (k:Nat):Bool:=(List.range ((knS l).take k).length).all fun j=>decide (0<valF p (intN p ((knS l).take k) j).2 (((knS l).take k).getD j (0,0)).1)
theorem fillB_ok {p:Int} {l:List WCell} {k:Nat} (h:fillB p l k=true):FillOK p l k:=fun j hj=>by
 have:=List.all_eq_true.1 h j (List.mem_range.2 hj)
 exact of_decide_eq_true this
def decB (p:Int) (l:List WCell) (k:Nat):Bool:=fillB p l k&&okZ (k+2*decW l k) ((decS p l k).1.drop (decS p l k).2.1)&&(trimF (decD p l k).1).isEmpty&&decide ((decP p l k).length≤k)&&decide ((wrN p (decP p l k) 0 l).length≤decW l k)
theorem decB_ok {p:Int} {l:List WCell} {k:Nat} (h:decB p l k=true):DecOK p l k:=by
 unfold decB at h
 simp only[Bool.and_eq_true,decide_eq_true_eq,List.isEmpty_iff] at h
 obtain⟨⟨⟨⟨h1,h2⟩,h3⟩,h4⟩,h5⟩:=h
 exact⟨fillB_ok h1,h2,h3,h4,h5⟩
def onceA (l:List Int):Bool:=(List.range (l.length-1)).all fun i=>l.getD (i+1) 0 != l.getD i 0
def colsB (p:Int) (need w:Nat) (l:List PAns):Bool:=((List.range w).all fun i=>decB p (colC i l) need)&&decide ((wrgsF p need w l).length≤12)&&onceA (sortF (wrgsF p need w l))
theorem colsB_ok {p:Int} {need w:Nat} {l:List PAns} (h:colsB p need w l=true):ColsOK p need w l:=by
 unfold colsB at h
 simp only[Bool.and_eq_true,decide_eq_true_eq,List.all_eq_true,List.mem_range] at h
 obtain⟨⟨h1,h2⟩,h3⟩:=h
 refine⟨fun i hi=>decB_ok (h1 i hi),h2,fun i hi=>?_⟩
 have:=List.all_eq_true.1 h3 i (List.mem_range.2 (by omega))
 simpa using this
def awA:List PAns:=[⟨true,[3,0]⟩,⟨false,[]⟩,⟨true,[3,2]⟩]
theorem awA_ok:colsB 5 2 2 awA=true:=by kernel_rfl
theorem awA_row:heads (polysF 5 2 2 awA)=[3,4]:=by kernel_rfl
theorem awA_wr:sortF (wrgsF 5 2 2 awA)=[]:=by kernel_rfl
theorem root_le {d r p:Int} (h0:2≤d) (h:d*d≤p) (hr0:0≤r) (hr:p<(r+1)*(r+1)):d≤r:=by
 rcases Int.lt_or_le r d with h1|h1
 ·have:=Int.mul_le_mul (show r+1≤d by omega) (show r+1≤d by omega) (by omega) (by omega)
  omega
 ·exact h1
theorem field5:fieldB 5=true:=fieldB_iff.2 ⟨by decide,by decide,fun d h1 h2=>by
 have:=root_le (r:=2) h1 h2 (by decide) (by decide)
 obtain rfl:d=2:=by omega
 decide⟩
end Go.Proofs.YtacfbiegbdlldaaGreatDoor.Sim
end
section
namespace Go.Proofs.YtacfbiegbdlldaaGreatDoor.Sim
open Go Go.RowKit Go.Deep
set_option maxRecDepth 100000
set_option maxHeartbeats 4000000
set_option linter.unusedVariables false
set_option linter.unusedSimpArgs false
attribute [local irreducible] Go Mean
theorem awQ0:colQ 5 (cfQ 1 1 (drwF [4,2] 0 (2*1))) 0 2=[4,3]:=by kernel_rfl
theorem awQ1:colQ 5 (cfQ 1 1 (drwF [4,2] 0 (2*1))) 1 2=[3,0]:=by kernel_rfl
theorem awQ2:colQ 5 (cfQ 1 1 (drwF [4,2] 0 (2*1))) 2 2=[2,2]:=by kernel_rfl
theorem awR0:combL 5 2 [4,3] [[1,2],[3,4]]=[3,0]:=by kernel_rfl
theorem awR2:combL 5 2 [2,2] [[1,2],[3,4]]=[3,2]:=by kernel_rfl
theorem awakeT:Does Tryz.prog 5 [] [] (B true) [] []:=by
 refine go_top_awake rfl BxOK.nil fun cx hm0=>go_in 5000 ?_
 unfold ac_top_awake rs_top_awake
 have hdr:DrawOK [4,2] 0 5 (2*1):=⟨by decide,by decide⟩
 have e1:Does Tryz.prog 13 [.ag [I 5],.ag [I 3,I 1],I 2,I 1,.ag [.d (dInts [4,2]),I 0]] [] (.tu [.d (dRows [[4,3],[3,0],[2,2]]),.ag [.d (dInts [4,2]),I 2],I 0]) [] []:=by
  have h:=queriesC_3 5 1 2 1 field5 (by decide) (by decide) (by decide) (by decide) (by decide) (by decide) [4,2] 0 ⟨by decide,hdr⟩
  rw[awQ0,awQ1,awQ2] at h
  exact h
 have hr:RowsOK 5 2 [[1,2],[3,4]]:=by unfold RowsOK;decide
 have e2:Does Tryz.prog 23 [.ag [I 5],I 2,.d (dRows [[1,2],[3,4]]),.d (dInts [4,3])] [] (.tu [.d (dInts [3,0]),I 0]) [] []:=by
  have h:=answerT 5 2 [4,3] [[1,2],[3,4]] field5 (by decide) rfl hr (by decide) (by decide)
  rw[awR0] at h
  exact h
 have e3:Does Tryz.prog 23 [.ag [I 5],I 2,.d (dRows [[1,2],[3,4]]),.d (dInts [2,2])] [] (.tu [.d (dInts [3,2]),I 0]) [] []:=by
  have h:=answerT 5 2 [2,2] [[1,2],[3,4]] field5 (by decide) rfl hr (by decide) (by decide)
  rw[awR2] at h
  exact h
 have ha:AnsOK 5 2 awA:=by
  intro a h hk
  simp only[awA,List.mem_cons,List.not_mem_nil,or_false] at h
  rcases h with rfl|rfl|rfl
  ·decide
  ·cases hk
  ·decide
 have e4:Does Tryz.prog 19 [.ag [I 5],.ag [I 3,I 1],I 2,.d (dAns awA)] [] (.tu [.ag [.d (dInts [3,4]),.d (dInts [])],I 0]) [] []:=by
  have h:=curveDecode 5 3 1 2 awA field5 ⟨by decide,by decide,by decide,by decide⟩ (by decide) (by decide) (by decide) ha (by decide) (colsB_ok awA_ok)
  rw[awA_row,awA_wr] at h
  exact h
 have e5:=sameI [3,4] [3,4] (by decide) (by decide)
 simp only[decide_true] at e5
 repeat' (first|simp (maxSteps:=9999999) only[↓GE,PL,PP,EE,QQ,seval,eI,eR]|(simp (disch:=omega) only[IntWalk.i64_in])|(apply go_brD<;>intro h)|(apply go_gsD aE<;>intro h)|(apply go_br<;>intro h)|(apply go_gs aE<;>intro h)|(apply go_call 5000 (e1) rfl rfl;iterate 4 (first|(exact CallForm.plain rfl)|exact aC))|(with_reducible apply And.intro)|exact aG|fail)
 (apply go_call 5000 e2 rfl rfl;iterate 4 (first|(exact CallForm.plain rfl)|exact aC))
 repeat' (first|simp (maxSteps:=9999999) only[↓GE,PL,PP,EE,QQ,seval,eI,eR]|(simp (disch:=omega) only[IntWalk.i64_in])|(apply go_brD<;>intro h)|(apply go_gsD aE<;>intro h)|(apply go_br<;>intro h)|(apply go_gs aE<;>intro h)|(with_reducible apply And.intro)|exact aG|fail)
 (apply go_call 5000 e3 rfl rfl;iterate 4 (first|(exact CallForm.plain rfl)|exact aC))
 repeat' (first|simp (maxSteps:=9999999) only[↓GE,PL,PP,EE,QQ,seval,eI,eR]|(simp (disch:=omega) only[IntWalk.i64_in])|(apply go_brD<;>intro h)|(apply go_gsD aE<;>intro h)|(apply go_br<;>intro h)|(apply go_gs aE<;>intro h)|(apply go_call 5000 (e4) rfl rfl;iterate 4 (first|(exact CallForm.plain rfl)|exact aC))|(apply go_call 5000 (e5) rfl rfl;iterate 4 (first|(exact CallForm.plain rfl)|exact aC))|(with_reducible apply And.intro)|exact aG|fail)
 all_goals ((first|apply ret_mk []|apply end_mk []);(· exact aR);(· exact aZ);all_goals exact aF)
end Go.Proofs.YtacfbiegbdlldaaGreatDoor.Sim
end
