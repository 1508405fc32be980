/- Lists of steps, opened. -/
import Derived.Test.YticdbambknflgaaGreatMSimOp
import Derived.Test.YticdbambknflgaaGreatMLaE
namespace Go.Proofs.YticdbambknflgaaGreat.Sc
open Go.Proofs.YticdbambknflgaaGreat.Sim
open Go Go.RowKit
set_option maxRecDepth 100000
set_option maxHeartbeats 8000000
set_option linter.unusedVariables false
set_option linter.unusedSimpArgs false
attribute [local irreducible] Go Mean
open Go.Proofs.YticdbambknflgaaGreat.Wire (putB putL putB_len getI getL getC rdL getI_put getL_put getI_ok getI_err rInt_any IntPost)
theorem bytes_tInt:Tryz.prog.bytesOf 3=8:=by kernel_rfl
def okI (l:List Int):Prop:=l.length≤17592186044416∧∀ n ∈ l,I64 n
theorem opens_intsI:OpensD Tryz.prog 28 (fun l:List Int=>[dInts l]) okI :=
 (OpensD.slice (f:=eI) Tryz.underlying28 (by kernel_rfl) (by decide) (fun _=>rfl) (OpensD.int Tryz.underlying3)).mono fun l h=>by
  have:=h.1
  simp only[bytes_tInt,reachBytes] at this
  exact⟨by omega,h.2⟩
theorem opens_setI:OpensD Tryz.prog 80 eSe okSe:=by
 intro H enc w base spare held fuel cs x h
 obtain⟨n,xs,hl,hxl,hx,hf⟩:=Opens.parts Tryz.underlying80 h
 have hl':cs.length=2:=hl.trans (by kernel_rfl)
 have hxl':xs.length=2:=hxl
 have e_tInt:Tryz.prog.cellsOf 3=1:=by kernel_rfl
 have e_tInts:Tryz.prog.cellsOf 28=1:=by kernel_rfl
 obtain⟨a0,c0,k0⟩:=part_ok Tryz.underlying80 hx hf (j:=0) rfl (by omega) (OpensD.int Tryz.underlying3)
 obtain⟨a1,c1,k1⟩:=part_ok Tryz.underlying80 hx hf (j:=1) rfl (by omega) (opens_intsI)
 match cs,hl',c0,c1 with
 |[u0,u1],_,c0,c1 =>
  simp only[List.getElem_toArray,List.getElem_cons_zero,List.getElem_cons_succ,e_tInt,e_tInts,List.drop_succ_cons,List.drop_zero,List.take_succ_cons,List.take_zero] at c0 c1
  refine⟨⟨a0,a1⟩,cells_append c0 (c1),fun hs=>?_⟩
  have k0:=k0 hs
  have k1:=k1 hs
  exact⟨k0,k1.1,k1.2⟩
def okT (l:List PSe):Prop:=∀ s ∈ l,okSe s
theorem opens_setsI:OpensD Tryz.prog 29 (fun l:List PSe=>[dSets l]) okT :=
 (OpensD.slice (f:=eSe) Tryz.underlying29 (by kernel_rfl) (by decide) (fun _=>rfl) opens_setI).mono fun l h=>h.2
structure PC4 where
 fr:Int
 tt:Int
 cnt:Int
 sets:List PSe
def eC4 (c:PC4):List D:=[.at (.int .i64 c.fr),.at (.int .i64 c.tt),.at (.int .i64 c.cnt),dSets c.sets]
def okC4 (c:PC4):Prop:=I64 c.fr∧I64 c.tt∧I64 c.cnt∧okT c.sets
theorem opens_changeI:OpensD Tryz.prog 31 eC4 okC4:=by
 intro H enc w base spare held fuel cs x h
 obtain⟨n,xs,hl,hxl,hx,hf⟩:=Opens.parts Tryz.underlying31 h
 have hl':cs.length=4:=hl.trans (by kernel_rfl)
 have hxl':xs.length=4:=hxl
 have e_tInt:Tryz.prog.cellsOf 3=1:=by kernel_rfl
 have e_tSets:Tryz.prog.cellsOf 29=1:=by kernel_rfl
 obtain⟨a0,c0,k0⟩:=part_ok Tryz.underlying31 hx hf (j:=0) rfl (by omega) (OpensD.int Tryz.underlying3)
 obtain⟨a1,c1,k1⟩:=part_ok Tryz.underlying31 hx hf (j:=1) rfl (by omega) (OpensD.int Tryz.underlying3)
 obtain⟨a2,c2,k2⟩:=part_ok Tryz.underlying31 hx hf (j:=2) rfl (by omega) (OpensD.int Tryz.underlying3)
 obtain⟨a3,c3,k3⟩:=part_ok Tryz.underlying31 hx hf (j:=3) rfl (by omega) (opens_setsI)
 match cs,hl',c0,c1,c2,c3 with
 |[u0,u1,u2,u3],_,c0,c1,c2,c3 =>
  simp only[List.getElem_toArray,List.getElem_cons_zero,List.getElem_cons_succ,e_tInt,e_tSets,List.drop_succ_cons,List.drop_zero,List.take_succ_cons,List.take_zero] at c0 c1 c2 c3
  exact⟨⟨a0,a1,a2,a3⟩,cells_append c0 (cells_append c1 (cells_append c2 (c3))),fun hs=>⟨k0 hs,k1 hs,k2 hs,k3 hs⟩⟩
theorem opens_stepI:OpensD Tryz.prog 33 eSt okR:=by
 intro H enc w base spare held fuel cs x h
 obtain⟨n,xs,hl,hxl,hx,hf⟩:=Opens.parts Tryz.underlying33 h
 have hl':cs.length=7:=hl.trans (by kernel_rfl)
 have hxl':xs.length=4:=hxl
 have e_tInt:Tryz.prog.cellsOf 3=1:=by kernel_rfl
 have e_tInts:Tryz.prog.cellsOf 28=1:=by kernel_rfl
 have e_tChange:Tryz.prog.cellsOf 31=4:=by kernel_rfl
 obtain⟨a0,c0,k0⟩:=part_ok Tryz.underlying33 hx hf (j:=0) rfl (by omega) (OpensD.int Tryz.underlying3)
 obtain⟨a1,c1,k1⟩:=part_ok Tryz.underlying33 hx hf (j:=1) rfl (by omega) (OpensD.int Tryz.underlying3)
 obtain⟨a2,c2,k2⟩:=part_ok Tryz.underlying33 hx hf (j:=2) rfl (by omega) (opens_intsI)
 obtain⟨a3,c3,k3⟩:=part_ok Tryz.underlying33 hx hf (j:=3) rfl (by omega) (opens_changeI)
 match cs,hl',c0,c1,c2,c3 with
 |[u0,u1,u2,u3,u4,u5,u6],_,c0,c1,c2,c3 =>
  simp only[List.getElem_toArray,List.getElem_cons_zero,List.getElem_cons_succ,e_tInt,e_tInts,e_tChange,List.drop_succ_cons,List.drop_zero,List.take_succ_cons,List.take_zero] at c0 c1 c2 c3
  exact⟨⟨a0,a1,a2,a3.fr,a3.tt,a3.cnt,a3.sets⟩,cells_append c0 (cells_append c1 (cells_append c2 (c3))),fun hs=>⟨k0 hs,k1 hs,(k3 hs).1,(k3 hs).2.1,(k3 hs).2.2.1,(k2 hs).2,(k3 hs).2.2.2⟩⟩
def okRs (l:List PSt):Prop:=∀ x ∈ l,okR x
theorem opens_stepsI:OpensD Tryz.prog 24 (fun l:List PSt=>[dSts l]) okRs :=
 (OpensD.slice (f:=eSt) Tryz.underlying24 (by kernel_rfl) (by decide) (fun _=>rfl) opens_stepI).mono fun l h=>h.2
end Go.Proofs.YticdbambknflgaaGreat.Sc
