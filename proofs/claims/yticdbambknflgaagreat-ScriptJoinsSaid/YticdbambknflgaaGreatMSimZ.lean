/- The equations of the walk, as rules: of no program. Conditions: none. -/
import Derived.Test.YticdbambknflgaaGreatMSimGo
import Derived.Test.YticdbambknflgaaGreatMSimLp
section
namespace Go.Proofs.YticdbambknflgaaGreat.Sim
open Go Go.RowKit Go.Deep
set_option linter.unusedVariables false
def ancB:List AO→List Nat→List Nat
 |[],acc=>acc
 |o :: r,acc=>ancB r (acc++[o.after.foldr (fun j m=>(2 ^ j ||| acc.getD j 0) ||| m) 0])
def indepAllB (anc:List Nat) (L:List Ent):Nat→List Ent→Bool
 |_,[]=>true
 |j,f :: r=>((L.take j).zipIdx.all fun p=>(anc.getD j 0).testBit p.2||indep p.1 f)&&indepAllB anc L (j+1) r
theorem foldr_bit {acc:List Nat} {i:Nat}:∀ {l:List Nat},(l.foldr (fun j m=>(2 ^ j ||| acc.getD j 0) ||| m) 0).testBit i=true→∃ j ∈ l,i=j∨(acc.getD j 0).testBit i=true
 |[],h=>by simp at h
 |j :: l,h=>by
  simp only[List.foldr_cons,Nat.testBit_or,Bool.or_eq_true] at h
  rcases h with (h|h)|h
  ·rw[Nat.testBit_two_pow] at h
   exact⟨j,by simp,.inl (of_decide_eq_true h).symm⟩
  ·exact⟨j,by simp,.inr h⟩
  ·obtain⟨k,hk,h⟩:=foldr_bit h
   exact⟨k,by simp [hk],h⟩
theorem getD_snoc {α:Type} {l:List α} {x d:α} {j:Nat}:(l++[x]).getD j d=if j<l.length then l.getD j d else if j=l.length then x else d:=by
 simp only[List.getD_eq_getElem?_getD]
 by_cases h:j<l.length
 ·rw[if_pos h,List.getElem?_append_left h]
 ·rw[if_neg h,List.getElem?_append_right (by omega)]
  by_cases h2:j=l.length
  ·subst h2;simp
  ·rw[if_neg h2,List.getElem?_eq_none (by simp;omega)];rfl
theorem ancB_ok:∀ {ops:List AO} {acc:List (List Nat)} {accB:List Nat},acc.length=accB.length→(∀ j i,(accB.getD j 0).testBit i=true→i ∈ acc.getD j [])→∀ j i,((ancB ops accB).getD j 0).testBit i=true→i ∈ (ancL ops acc).getD j []
 |[],acc,accB,_,h=>h
 |o :: r,acc,accB,hl,h=>by
  simp only[ancB,ancL]
  refine ancB_ok (by simp [hl]) fun j i hb=>?_
  rw[getD_snoc] at hb ⊢
  rw[hl]
  split at hb
  ·rw[if_pos (by assumption)];exact h j i hb
  ·rw[if_neg (by assumption)]
   split at hb
   ·rw[if_pos (by assumption)]
    obtain⟨k,hk,hi⟩:=foldr_bit hb
    rw[List.mem_append,List.mem_flatMap]
    rcases hi with rfl|hi
    ·exact .inl hk
    ·exact .inr ⟨k,hk,h k i hi⟩
   ·simp at hb
theorem indepAllB_ok {anc:List (List Nat)} {ancb:List Nat} (h:∀ j i,(ancb.getD j 0).testBit i=true→i ∈ anc.getD j []) {L:List Ent}:∀ {r:List Ent} {j:Nat},indepAllB ancb L j r=true→indepAll anc L j r=true
 |[],_,_=>rfl
 |f :: r,j,hb=>by
  simp only[indepAllB,indepAll,Bool.and_eq_true,List.all_eq_true,Bool.or_eq_true] at hb ⊢
  refine⟨fun p hp=>(hb.1 p hp).imp (fun hq=>?_) id,indepAllB_ok h hb.2⟩
  rw[List.contains_iff_mem]
  exact h j p.2 hq
theorem drawOK_of {ops:List AO} {L:List Ent} (h:(wfAfter 0 ops&&indepAllB (ancB ops []) L 0 L)=true):drawOK ops L=true:=by
 rw[Bool.and_eq_true] at h
 unfold drawOK
 rw[Bool.and_eq_true]
 exact⟨h.1,indepAllB_ok (ancB_ok rfl fun j i hb=>by simp at hb) h.2⟩
end Go.Proofs.YticdbambknflgaaGreat.Sim
end
section
namespace Go.Proofs.YticdbambknflgaaGreat.Sim
open Go Go.RowKit Go.Deep
set_option linter.unusedVariables false
set_option maxRecDepth 100000
theorem up_at {α:Type} (f:Nat→α) (i:Nat) (x:α) (j:Nat):up f i x j=if j=i then x else f j:=rfl
theorem tl_nil (t:Nat):tl [] t=.un:=rfl
theorem tl_cons (i:Nat) (v:V) (r:List (Nat × V)) (t:Nat):tl ((i,v) :: r) t=if t=i then v else tl r t:=rfl
theorem m0_at (i:Nat):M0 i=none:=rfl
theorem EE:type_of% (And.intro (@List.map_cons.{0,0}) (And.intro (@List.map_nil.{0,0}) (And.intro (@up_at) (And.intro (@tl_nil) (And.intro (@tl_cons) (And.intro (@m0_at) (
 And.intro (@Option.map_some.{0,0}) (And.intro (@List.length_cons.{0}) (And.intro (@List.length_nil.{0}) (And.intro (@List.take_succ_cons.{0}) (And.intro (@List.take_zero.{0}) (And.intro (@List.drop_succ_cons.{0}) (
 And.intro (@List.drop_zero.{0}) (And.intro (@List.drop_nil.{0}) (And.intro (@List.take_nil.{0}) (And.intro (@List.headD_cons.{0}) (And.intro (@List.nil_append.{0}) (And.intro (@List.cons_append.{0}) (
 And.intro (@List.append_nil.{0}) (And.intro (@Nat.zero_add) (And.intro (@and_self) (And.intro (@and_true) (And.intro (@true_and) (And.intro (@beq_self_eq_true.{0}) (
 And.intro (@List.getD_cons_zero.{0}) (And.intro (@List.getD_cons_succ.{0}) (And.intro (@List.flatMap_cons.{0,0}) (And.intro (@List.flatMap_nil.{0,0}) (And.intro (@List.zip_cons_cons.{0,0}) (And.intro (@List.zip_nil_left.{0,0}) (
 And.intro (@List.all_cons.{0}) (And.intro (@List.all_nil.{0}) (And.intro (@Bool.and_self) (And.intro (@Bool.and_true) (And.intro (@Bool.true_and) (And.intro (@decide_true) (
 And.intro (@decide_false) (And.intro (@Int.toNat_natCast) (And.intro (@Int.toNat_zero) (And.intro (@ev.eq_1) (And.intro (@ev.eq_2) (And.intro (@sem.eq_1) (
 And.intro (@sem.eq_2) (And.intro (@sem.eq_3) (And.intro (@sem.eq_4) (And.intro (@sem.eq_5) (And.intro (@sem.eq_6) (And.intro (@sem.eq_7) (
 And.intro (@sem.eq_8) (And.intro (@sem.eq_9) (And.intro (@sem.eq_10) (And.intro (@sem.eq_11) (And.intro (@sem.eq_12) (And.intro (@sem.eq_13) (
 And.intro (@sem.eq_14) (And.intro (@sem.eq_15) (And.intro (@sem.eq_16) (And.intro (@sem.eq_17) (And.intro (@sem.eq_18) (And.intro (@sem.eq_19) (
 And.intro (@sem.eq_20) (And.intro (@sem.eq_21) (And.intro (@sem.eq_22) (And.intro (@sem.eq_23) (And.intro (@sem.eq_24) (And.intro (@sem.eq_25) (
 And.intro (@sem.eq_26) (And.intro (@sem.eq_27) (And.intro (@sem.eq_28) (And.intro (@sem.eq_29) (And.intro (@sem.eq_30) (And.intro (@sem.eq_31) (
 And.intro (@sem.eq_32) (And.intro (@sem.eq_33) (And.intro (@sem.eq_34) (And.intro (@sem.eq_35) (And.intro (@sem.eq_36) (And.intro (@sem.eq_37) (
 And.intro (@sem.eq_38) (And.intro (@sem.eq_39) (And.intro (@sem.eq_40) (And.intro (@sem.eq_41) (And.intro (@sem.eq_42) (And.intro (@sem.eq_43) (
 And.intro (@sem.eq_44) (And.intro (@semMov.eq_1) (And.intro (@semMov.eq_2) (And.intro (@semPick.eq_1) (And.intro (@semPick.eq_2) (And.intro (@semPick.eq_3) (
 And.intro (@semBox.eq_1) (And.intro (@semBox.eq_2) (And.intro (@semBuild.eq_1) (And.intro (@semLoad.eq_1) (And.intro (@semLoad.eq_2) (And.intro (@semLoad.eq_3) (
 And.intro (@semLoad.eq_4) (And.intro (@semLoad.eq_5) (And.intro (@semStore.eq_1) (And.intro (@semStore.eq_2) (And.intro (@semStore.eq_3) (And.intro (@semStore.eq_4) (
 And.intro (@semNck.eq_1) (And.intro (@semNck.eq_2) (And.intro (@semNck.eq_3) (And.intro (@semNck.eq_4) (And.intro (@semBin.eq_1) (And.intro (@semBin.eq_2) (
 And.intro (@semBin.eq_3) (And.intro (@semInt.eq_1) (And.intro (@semInt.eq_2) (And.intro (@semInt.eq_3) (And.intro (@semInt.eq_4) (And.intro (@semInt.eq_5) (
 And.intro (@semInt.eq_6) (And.intro (@semInt.eq_7) (And.intro (@semInt.eq_8) (And.intro (@semInt.eq_9) (And.intro (@semInt.eq_10) (And.intro (@semInt.eq_11) (
 And.intro (@semInt.eq_12) (And.intro (@semInt.eq_13) (And.intro (@semInt.eq_14) (And.intro (@semInt.eq_15) (And.intro (@semStr.eq_1) (And.intro (@semStr.eq_2) (
 And.intro (@semStr.eq_3) (And.intro (@semStr.eq_4) (And.intro (@semStr.eq_5) (And.intro (@semStr.eq_6) (And.intro (@semStr.eq_7) (And.intro (@semStr.eq_8) (
 And.intro (@semBeq.eq_1) (And.intro (@semBeq.eq_2) (And.intro (@semBeq.eq_3) (And.intro (@semIsn.eq_1) (And.intro (@semIsn.eq_2) (And.intro (@semIsn.eq_3) (
 And.intro (@semIsn.eq_4) (And.intro (@nilB.eq_1) (And.intro (@nilB.eq_2) (And.intro (@semSeq.eq_1) (And.intro (@semSeq.eq_2) (And.intro (@eqCells.eq_1) (
 And.intro (@eqCells.eq_2) (And.intro (@eqCells.eq_3) (And.intro (@semUn.eq_1) (And.intro (@semUn.eq_2) (And.intro (@semUn.eq_3) (And.intro (@semUn.eq_4) (
 And.intro (@semUn.eq_5) (And.intro (@semConv.eq_1) (And.intro (@semConv.eq_2) (And.intro (@semMks.eq_1) (And.intro (@semMks.eq_2) (And.intro (@semSlc.eq_1) (
 And.intro (@semSlc.eq_2) (And.intro (@semSlc.eq_3) (And.intro (@semSlc.eq_4) (And.intro (@bnds.eq_1) (And.intro (@bnds.eq_2) (And.intro (@bnds.eq_3) (
 And.intro (@bnds.eq_4) (And.intro (@bnds.eq_5) (And.intro (@bnds.eq_6) (And.intro (@bnd.eq_1) (And.intro (@bnd.eq_2) (And.intro (@bl.eq_1) (
 And.intro (@bh.eq_1) (And.intro (@isZ.eq_1) (And.intro (@isZ.eq_2) (And.intro (@semFad.eq_1) (And.intro (@semFad.eq_2) (And.intro (@semFad.eq_3) (
 And.intro (@semFad.eq_4) (And.intro (@semFad.eq_5) (And.intro (@semFld.eq_1) (And.intro (@semFld.eq_2) (And.intro (@semIad.eq_1) (And.intro (@semIad.eq_2) (
 And.intro (@semIad.eq_3) (And.intro (@semIad.eq_4) (And.intro (@semIad.eq_5) (And.intro (@semIad.eq_6) (And.intro (@semIada.eq_1) (And.intro (@semIada.eq_2) (
 And.intro (@semIxs.eq_1) (And.intro (@semIxs.eq_2) (And.intro (@semIxa.eq_1) (And.intro (@semIxa.eq_2) (And.intro (@semExt.eq_1) (And.intro (@semExt.eq_2) (
 And.intro (@semLen.eq_1) (And.intro (@semLen.eq_2) (And.intro (@semLen.eq_3) (And.intro (@semLen.eq_4) (And.intro (@semLen.eq_5) (And.intro (@semLen.eq_6) (
 And.intro (@semLen.eq_7) (And.intro (@semLens.eq_1) (And.intro (@semLens.eq_2) (And.intro (@semApp.eq_1) (And.intro (@semApp.eq_2) (And.intro (@semApp.eq_3) (
 And.intro (@semApp.eq_4) (And.intro (@semApp.eq_5) (And.intro (@semApp.eq_6) (And.intro (@semApp.eq_7) (And.intro (@semApp.eq_8) (And.intro (@semApp.eq_9) (
 And.intro (@semCpy.eq_1) (And.intro (@semCpy.eq_2) (And.intro (@semMn.eq_1) (And.intro (@semMn.eq_2) (And.intro (@semMx.eq_1) (And.intro (@semMx.eq_2) (
 And.intro (@news.eq_1) (And.intro (@news.eq_2) (And.intro (@news.eq_3) (And.intro (@news.eq_4) (And.intro (@V.cells.eq_1) (And.intro (@V.cells.eq_2) (
 And.intro (@V.good.eq_1) (And.intro (@V.good.eq_2) (And.intro (@V.good.eq_3) (And.intro (@V.mk.eq_1) (And.intro (@V.mk.eq_2) (And.intro (@nv.eq_1) (
 And.intro (@splice.eq_1) (And.intro (@curB.eq_1) (And.intro (@curA.eq_1) (And.intro (@ups.eq_1) (And.intro (@ups.eq_2) (And.intro (@B.eq_1) (
 And.intro (@I.eq_1) (And.intro (@ci.eq_1) (And.intro (@cb.eq_1) (And.intro (@O.ver.eq_1) (And.intro (@O.ver.eq_2) (And.intro (@O.ver.eq_3) (
 And.intro (@O.ver.eq_4) (And.intro (@zD.eq_1) (And.intro (@fillV.eq_1) (And.intro (@fillV.eq_2) (And.intro (@fitB.eq_1) (And.intro (@fitB.eq_2) (
 And.intro (@fitB.eq_3) (And.intro (@fillD.eq_1) (And.intro (@fillD.eq_2) (And.intro (@dcells.eq_1) (And.intro (@dcells.eq_2) (And.intro (@dcell.eq_1) (
 And.intro (@dcell.eq_2) (And.intro (@dcell.eq_3) (And.intro (@dcell.eq_4) (And.intro (@frz.eq_1) (And.intro (@frz.eq_2) (And.intro (@frz.eq_3) (
 And.intro (@V.notOg.eq_1) (And.intro (@V.notOg.eq_2) (And.intro (@idx.eq_1) (And.intro (@idx.eq_2) (And.intro (@semBslv.eq_1) (And.intro (@semTail.eq_1) (
 And.intro (@semTail.eq_2) (And.intro (@semCutm.eq_1) (And.intro (@semCutm.eq_2) (And.intro (@semMkm.eq_1) (And.intro (@semMkm.eq_2) (And.intro (@semLkp.eq_1) (
 And.intro (@semLkp.eq_2) (And.intro (@semMup.eq_1) (And.intro (@semMup.eq_2) (And.intro (@semLdg.eq_1) (And.intro (@semLdg.eq_2) (And.intro (@semIfn.eq_1) (
 And.intro (@semIfn.eq_2) (And.intro (@semIfn.eq_3) (And.intro (@semBsl.eq_1) (And.intro (@semBsl.eq_2) (And.intro (@dall.eq_1) (And.intro (@dall.eq_2) (
 And.intro (@V.lone.eq_1) (And.intro (@V.lone.eq_2) (And.intro (@V.lone.eq_3) (And.intro (@semFxc.eq_1) (And.intro (@semFxc.eq_2) (And.intro (@semBslw.eq_1) (
 And.intro (@semBslw.eq_2) (And.intro (@curV.eq_1) (And.intro (@semSh.eq_1) (And.intro (@semSh.eq_2) (And.intro (@semTob.eq_1) (And.intro (@semTob.eq_2) (
 And.intro (@semTos.eq_1) (@semTos.eq_2)))))))))))))))))))))))))))))))))))))))))))))))))))))))))))))))))))))))))))))))))))))))))))))))))))))))))))))))))))))))))))))))))))))))))))))))))))))))))))))))))))))))))))))))))))))))))))))))))))))))))))))))))))))))))))))))))))))))))))))))))))))))))))))))))))))))))))))))))))))))))))))))))))))))) :=
 And.intro (@List.map_cons.{0,0}) (And.intro (@List.map_nil.{0,0}) (And.intro (@up_at) (And.intro (@tl_nil) (And.intro (@tl_cons) (And.intro (@m0_at) (
 And.intro (@Option.map_some.{0,0}) (And.intro (@List.length_cons.{0}) (And.intro (@List.length_nil.{0}) (And.intro (@List.take_succ_cons.{0}) (And.intro (@List.take_zero.{0}) (And.intro (@List.drop_succ_cons.{0}) (
 And.intro (@List.drop_zero.{0}) (And.intro (@List.drop_nil.{0}) (And.intro (@List.take_nil.{0}) (And.intro (@List.headD_cons.{0}) (And.intro (@List.nil_append.{0}) (And.intro (@List.cons_append.{0}) (
 And.intro (@List.append_nil.{0}) (And.intro (@Nat.zero_add) (And.intro (@and_self) (And.intro (@and_true) (And.intro (@true_and) (And.intro (@beq_self_eq_true.{0}) (
 And.intro (@List.getD_cons_zero.{0}) (And.intro (@List.getD_cons_succ.{0}) (And.intro (@List.flatMap_cons.{0,0}) (And.intro (@List.flatMap_nil.{0,0}) (And.intro (@List.zip_cons_cons.{0,0}) (And.intro (@List.zip_nil_left.{0,0}) (
 And.intro (@List.all_cons.{0}) (And.intro (@List.all_nil.{0}) (And.intro (@Bool.and_self) (And.intro (@Bool.and_true) (And.intro (@Bool.true_and) (And.intro (@decide_true) (
 And.intro (@decide_false) (And.intro (@Int.toNat_natCast) (And.intro (@Int.toNat_zero) (And.intro (@ev.eq_1) (And.intro (@ev.eq_2) (And.intro (@sem.eq_1) (
 And.intro (@sem.eq_2) (And.intro (@sem.eq_3) (And.intro (@sem.eq_4) (And.intro (@sem.eq_5) (And.intro (@sem.eq_6) (And.intro (@sem.eq_7) (
 And.intro (@sem.eq_8) (And.intro (@sem.eq_9) (And.intro (@sem.eq_10) (And.intro (@sem.eq_11) (And.intro (@sem.eq_12) (And.intro (@sem.eq_13) (
 And.intro (@sem.eq_14) (And.intro (@sem.eq_15) (And.intro (@sem.eq_16) (And.intro (@sem.eq_17) (And.intro (@sem.eq_18) (And.intro (@sem.eq_19) (
 And.intro (@sem.eq_20) (And.intro (@sem.eq_21) (And.intro (@sem.eq_22) (And.intro (@sem.eq_23) (And.intro (@sem.eq_24) (And.intro (@sem.eq_25) (
 And.intro (@sem.eq_26) (And.intro (@sem.eq_27) (And.intro (@sem.eq_28) (And.intro (@sem.eq_29) (And.intro (@sem.eq_30) (And.intro (@sem.eq_31) (
 And.intro (@sem.eq_32) (And.intro (@sem.eq_33) (And.intro (@sem.eq_34) (And.intro (@sem.eq_35) (And.intro (@sem.eq_36) (And.intro (@sem.eq_37) (
 And.intro (@sem.eq_38) (And.intro (@sem.eq_39) (And.intro (@sem.eq_40) (And.intro (@sem.eq_41) (And.intro (@sem.eq_42) (And.intro (@sem.eq_43) (
 And.intro (@sem.eq_44) (And.intro (@semMov.eq_1) (And.intro (@semMov.eq_2) (And.intro (@semPick.eq_1) (And.intro (@semPick.eq_2) (And.intro (@semPick.eq_3) (
 And.intro (@semBox.eq_1) (And.intro (@semBox.eq_2) (And.intro (@semBuild.eq_1) (And.intro (@semLoad.eq_1) (And.intro (@semLoad.eq_2) (And.intro (@semLoad.eq_3) (
 And.intro (@semLoad.eq_4) (And.intro (@semLoad.eq_5) (And.intro (@semStore.eq_1) (And.intro (@semStore.eq_2) (And.intro (@semStore.eq_3) (And.intro (@semStore.eq_4) (
 And.intro (@semNck.eq_1) (And.intro (@semNck.eq_2) (And.intro (@semNck.eq_3) (And.intro (@semNck.eq_4) (And.intro (@semBin.eq_1) (And.intro (@semBin.eq_2) (
 And.intro (@semBin.eq_3) (And.intro (@semInt.eq_1) (And.intro (@semInt.eq_2) (And.intro (@semInt.eq_3) (And.intro (@semInt.eq_4) (And.intro (@semInt.eq_5) (
 And.intro (@semInt.eq_6) (And.intro (@semInt.eq_7) (And.intro (@semInt.eq_8) (And.intro (@semInt.eq_9) (And.intro (@semInt.eq_10) (And.intro (@semInt.eq_11) (
 And.intro (@semInt.eq_12) (And.intro (@semInt.eq_13) (And.intro (@semInt.eq_14) (And.intro (@semInt.eq_15) (And.intro (@semStr.eq_1) (And.intro (@semStr.eq_2) (
 And.intro (@semStr.eq_3) (And.intro (@semStr.eq_4) (And.intro (@semStr.eq_5) (And.intro (@semStr.eq_6) (And.intro (@semStr.eq_7) (And.intro (@semStr.eq_8) (
 And.intro (@semBeq.eq_1) (And.intro (@semBeq.eq_2) (And.intro (@semBeq.eq_3) (And.intro (@semIsn.eq_1) (And.intro (@semIsn.eq_2) (And.intro (@semIsn.eq_3) (
 And.intro (@semIsn.eq_4) (And.intro (@nilB.eq_1) (And.intro (@nilB.eq_2) (And.intro (@semSeq.eq_1) (And.intro (@semSeq.eq_2) (And.intro (@eqCells.eq_1) (
 And.intro (@eqCells.eq_2) (And.intro (@eqCells.eq_3) (And.intro (@semUn.eq_1) (And.intro (@semUn.eq_2) (And.intro (@semUn.eq_3) (And.intro (@semUn.eq_4) (
 And.intro (@semUn.eq_5) (And.intro (@semConv.eq_1) (And.intro (@semConv.eq_2) (And.intro (@semMks.eq_1) (And.intro (@semMks.eq_2) (And.intro (@semSlc.eq_1) (
 And.intro (@semSlc.eq_2) (And.intro (@semSlc.eq_3) (And.intro (@semSlc.eq_4) (And.intro (@bnds.eq_1) (And.intro (@bnds.eq_2) (And.intro (@bnds.eq_3) (
 And.intro (@bnds.eq_4) (And.intro (@bnds.eq_5) (And.intro (@bnds.eq_6) (And.intro (@bnd.eq_1) (And.intro (@bnd.eq_2) (And.intro (@bl.eq_1) (
 And.intro (@bh.eq_1) (And.intro (@isZ.eq_1) (And.intro (@isZ.eq_2) (And.intro (@semFad.eq_1) (And.intro (@semFad.eq_2) (And.intro (@semFad.eq_3) (
 And.intro (@semFad.eq_4) (And.intro (@semFad.eq_5) (And.intro (@semFld.eq_1) (And.intro (@semFld.eq_2) (And.intro (@semIad.eq_1) (And.intro (@semIad.eq_2) (
 And.intro (@semIad.eq_3) (And.intro (@semIad.eq_4) (And.intro (@semIad.eq_5) (And.intro (@semIad.eq_6) (And.intro (@semIada.eq_1) (And.intro (@semIada.eq_2) (
 And.intro (@semIxs.eq_1) (And.intro (@semIxs.eq_2) (And.intro (@semIxa.eq_1) (And.intro (@semIxa.eq_2) (And.intro (@semExt.eq_1) (And.intro (@semExt.eq_2) (
 And.intro (@semLen.eq_1) (And.intro (@semLen.eq_2) (And.intro (@semLen.eq_3) (And.intro (@semLen.eq_4) (And.intro (@semLen.eq_5) (And.intro (@semLen.eq_6) (
 And.intro (@semLen.eq_7) (And.intro (@semLens.eq_1) (And.intro (@semLens.eq_2) (And.intro (@semApp.eq_1) (And.intro (@semApp.eq_2) (And.intro (@semApp.eq_3) (
 And.intro (@semApp.eq_4) (And.intro (@semApp.eq_5) (And.intro (@semApp.eq_6) (And.intro (@semApp.eq_7) (And.intro (@semApp.eq_8) (And.intro (@semApp.eq_9) (
 And.intro (@semCpy.eq_1) (And.intro (@semCpy.eq_2) (And.intro (@semMn.eq_1) (And.intro (@semMn.eq_2) (And.intro (@semMx.eq_1) (And.intro (@semMx.eq_2) (
 And.intro (@news.eq_1) (And.intro (@news.eq_2) (And.intro (@news.eq_3) (And.intro (@news.eq_4) (And.intro (@V.cells.eq_1) (And.intro (@V.cells.eq_2) (
 And.intro (@V.good.eq_1) (And.intro (@V.good.eq_2) (And.intro (@V.good.eq_3) (And.intro (@V.mk.eq_1) (And.intro (@V.mk.eq_2) (And.intro (@nv.eq_1) (
 And.intro (@splice.eq_1) (And.intro (@curB.eq_1) (And.intro (@curA.eq_1) (And.intro (@ups.eq_1) (And.intro (@ups.eq_2) (And.intro (@B.eq_1) (
 And.intro (@I.eq_1) (And.intro (@ci.eq_1) (And.intro (@cb.eq_1) (And.intro (@O.ver.eq_1) (And.intro (@O.ver.eq_2) (And.intro (@O.ver.eq_3) (
 And.intro (@O.ver.eq_4) (And.intro (@zD.eq_1) (And.intro (@fillV.eq_1) (And.intro (@fillV.eq_2) (And.intro (@fitB.eq_1) (And.intro (@fitB.eq_2) (
 And.intro (@fitB.eq_3) (And.intro (@fillD.eq_1) (And.intro (@fillD.eq_2) (And.intro (@dcells.eq_1) (And.intro (@dcells.eq_2) (And.intro (@dcell.eq_1) (
 And.intro (@dcell.eq_2) (And.intro (@dcell.eq_3) (And.intro (@dcell.eq_4) (And.intro (@frz.eq_1) (And.intro (@frz.eq_2) (And.intro (@frz.eq_3) (
 And.intro (@V.notOg.eq_1) (And.intro (@V.notOg.eq_2) (And.intro (@idx.eq_1) (And.intro (@idx.eq_2) (And.intro (@semBslv.eq_1) (And.intro (@semTail.eq_1) (
 And.intro (@semTail.eq_2) (And.intro (@semCutm.eq_1) (And.intro (@semCutm.eq_2) (And.intro (@semMkm.eq_1) (And.intro (@semMkm.eq_2) (And.intro (@semLkp.eq_1) (
 And.intro (@semLkp.eq_2) (And.intro (@semMup.eq_1) (And.intro (@semMup.eq_2) (And.intro (@semLdg.eq_1) (And.intro (@semLdg.eq_2) (And.intro (@semIfn.eq_1) (
 And.intro (@semIfn.eq_2) (And.intro (@semIfn.eq_3) (And.intro (@semBsl.eq_1) (And.intro (@semBsl.eq_2) (And.intro (@dall.eq_1) (And.intro (@dall.eq_2) (
 And.intro (@V.lone.eq_1) (And.intro (@V.lone.eq_2) (And.intro (@V.lone.eq_3) (And.intro (@semFxc.eq_1) (And.intro (@semFxc.eq_2) (And.intro (@semBslw.eq_1) (
 And.intro (@semBslw.eq_2) (And.intro (@curV.eq_1) (And.intro (@semSh.eq_1) (And.intro (@semSh.eq_2) (And.intro (@semTob.eq_1) (And.intro (@semTob.eq_2) (
 And.intro (@semTos.eq_1) (@semTos.eq_2)))))))))))))))))))))))))))))))))))))))))))))))))))))))))))))))))))))))))))))))))))))))))))))))))))))))))))))))))))))))))))))))))))))))))))))))))))))))))))))))))))))))))))))))))))))))))))))))))))))))))))))))))))))))))))))))))))))))))))))))))))))))))))))))))))))))))))))))))))))))))))))))))))))))
theorem PP:type_of% (And.intro (@pre.eq_1) (And.intro (@pre.eq_2) (And.intro (@pre.eq_3) (And.intro (@pre.eq_4) (And.intro (@pre.eq_5) (And.intro (@pre.eq_6) (
 And.intro (@pre.eq_7) (And.intro (@pre.eq_8) (And.intro (@pre.eq_9) (And.intro (@pre.eq_10) (And.intro (@pre.eq_11) (And.intro (@pre.eq_12) (
 And.intro (@pre.eq_13) (And.intro (@preBin.eq_1) (And.intro (@preBin.eq_2) (And.intro (@preBin.eq_3) (And.intro (@preBin.eq_4) (And.intro (@preBin.eq_5) (
 And.intro (@preBin.eq_6) (And.intro (@preIad.eq_1) (And.intro (@preIad.eq_2) (And.intro (@preIad.eq_3) (And.intro (@preIad.eq_4) (And.intro (@preIad.eq_5) (
 And.intro (@preIad.eq_6) (And.intro (@preIada.eq_1) (And.intro (@preIada.eq_2) (And.intro (@preMks.eq_1) (And.intro (@preMks.eq_2) (And.intro (@preSlc.eq_1) (
 And.intro (@preSlc.eq_2) (And.intro (@preSlc.eq_3) (And.intro (@preSlc.eq_4) (And.intro (@preIxa.eq_1) (And.intro (@preIxa.eq_2) (And.intro (@preIxs.eq_1) (
 And.intro (@preIxs.eq_2) (And.intro (@preApp.eq_1) (And.intro (@preApp.eq_2) (And.intro (@preApp.eq_3) (And.intro (@preApp.eq_4) (And.intro (@preApp.eq_5) (
 And.intro (@preApp.eq_6) (And.intro (@preApp.eq_7) (And.intro (@preApp.eq_8) (And.intro (@okB.eq_1) (And.intro (@okB.eq_2) (And.intro (@okB.eq_3) (
 And.intro (@okB.eq_4) (And.intro (@okB.eq_5) (And.intro (@okB.eq_6) (And.intro (@preTail.eq_1) (And.intro (@preTail.eq_2) (And.intro (@preCutm.eq_1) (
 And.intro (@preCutm.eq_2) (And.intro (@preFxc.eq_1) (And.intro (@preFxc.eq_2) (And.intro (@preTob.eq_1) (@preTob.eq_2))))))))))))))))))))))))))))))))))))))))))))))))))))))))))) :=
 And.intro (@pre.eq_1) (And.intro (@pre.eq_2) (And.intro (@pre.eq_3) (And.intro (@pre.eq_4) (And.intro (@pre.eq_5) (And.intro (@pre.eq_6) (
 And.intro (@pre.eq_7) (And.intro (@pre.eq_8) (And.intro (@pre.eq_9) (And.intro (@pre.eq_10) (And.intro (@pre.eq_11) (And.intro (@pre.eq_12) (
 And.intro (@pre.eq_13) (And.intro (@preBin.eq_1) (And.intro (@preBin.eq_2) (And.intro (@preBin.eq_3) (And.intro (@preBin.eq_4) (And.intro (@preBin.eq_5) (
 And.intro (@preBin.eq_6) (And.intro (@preIad.eq_1) (And.intro (@preIad.eq_2) (And.intro (@preIad.eq_3) (And.intro (@preIad.eq_4) (And.intro (@preIad.eq_5) (
 And.intro (@preIad.eq_6) (And.intro (@preIada.eq_1) (And.intro (@preIada.eq_2) (And.intro (@preMks.eq_1) (And.intro (@preMks.eq_2) (And.intro (@preSlc.eq_1) (
 And.intro (@preSlc.eq_2) (And.intro (@preSlc.eq_3) (And.intro (@preSlc.eq_4) (And.intro (@preIxa.eq_1) (And.intro (@preIxa.eq_2) (And.intro (@preIxs.eq_1) (
 And.intro (@preIxs.eq_2) (And.intro (@preApp.eq_1) (And.intro (@preApp.eq_2) (And.intro (@preApp.eq_3) (And.intro (@preApp.eq_4) (And.intro (@preApp.eq_5) (
 And.intro (@preApp.eq_6) (And.intro (@preApp.eq_7) (And.intro (@preApp.eq_8) (And.intro (@okB.eq_1) (And.intro (@okB.eq_2) (And.intro (@okB.eq_3) (
 And.intro (@okB.eq_4) (And.intro (@okB.eq_5) (And.intro (@okB.eq_6) (And.intro (@preTail.eq_1) (And.intro (@preTail.eq_2) (And.intro (@preCutm.eq_1) (
 And.intro (@preCutm.eq_2) (And.intro (@preFxc.eq_1) (And.intro (@preFxc.eq_2) (And.intro (@preTob.eq_1) (@preTob.eq_2))))))))))))))))))))))))))))))))))))))))))))))))))))))))))
theorem CC:type_of% (And.intro (@List.zipIdx_cons.{0}) (And.intro (@List.zipIdx_nil.{0}) (And.intro (@argF.eq_1) (And.intro (@argF.eq_2) (And.intro (@argF.eq_3) (And.intro (@argF.eq_4) (
 And.intro (@argF.eq_5) (And.intro (@argF.eq_6) (And.intro (@argF.eq_7) (And.intro (@argF.eq_8) (And.intro (@argF.eq_9) (And.intro (@argF.eq_10) (
 And.intro (@argFs.eq_1) (And.intro (@argFs.eq_2) (And.intro (@argFs.eq_3) (And.intro (@V.ren.eq_1) (And.intro (@V.ren.eq_2) (And.intro (@V.ren.eq_3) (
 And.intro (@V.ren.eq_4) (And.intro (@V.ren.eq_5) (And.intro (@V.rens.eq_1) (And.intro (@V.rens.eq_2) (And.intro (@V.flats.eq_1) (And.intro (@V.flats.eq_2) (
 And.intro (@V.flat.eq_1) (And.intro (@V.flat.eq_2) (And.intro (@V.flat.eq_3) (And.intro (@V.flat.eq_4) (And.intro (@freshIn.eq_1) (And.intro (@O.setv.eq_1) (
 And.intro (@O.setv.eq_2) (And.intro (@O.setv.eq_3) (And.intro (@O.setv.eq_4) (And.intro (@resV.eq_1) (And.intro (@ress.eq_1) (And.intro (@ress.eq_2) (
 And.intro (@res1.eq_1) (And.intro (@res1.eq_2) (And.intro (@exF.eq_1) (And.intro (@exF.eq_2) (And.intro (@exF.eq_3) (And.intro (@exF.eq_4) (
 And.intro (@exF.eq_5) (And.intro (@exF.eq_6) (And.intro (@exF.eq_7) (And.intro (@exF.eq_8) (And.intro (@exF.eq_9) (And.intro (@exF.eq_10) (
 And.intro (@exFs.eq_1) (And.intro (@exFs.eq_2) (And.intro (@exFs.eq_3) (And.intro (@asF.eq_1) (And.intro (@asF.eq_2) (And.intro (@asF.eq_3) (
 And.intro (@asF.eq_4) (And.intro (@bxF.eq_1) (And.intro (@bxF.eq_2) (And.intro (@W.eq_1) (And.intro (@W.eq_2) (And.intro (@W.eq_3) (
 And.intro (@W.eq_4) (And.intro (@W.eq_5) (And.intro (@W.eq_6) (And.intro (@W.eq_7) (And.intro (@W.eq_8) (And.intro (@W.eq_9) (
 And.intro (@W.eq_10) (And.intro (@W.eq_11) (And.intro (@W.eq_12) (And.intro (@W.eq_13) (And.intro (@W.eq_14) (And.intro (@W.eq_15) (
 And.intro (@W.eq_16) (And.intro (@W.eq_17) (And.intro (@W.eq_18) (And.intro (@W.eq_19) (And.intro (@Ws.eq_1) (And.intro (@Ws.eq_2) (
 And.intro (@Ws.eq_3) (And.intro (@TW.eq_1) (And.intro (@TW.eq_2) (And.intro (@MW.eq_1) (And.intro (@MW.eq_2) (And.intro (@MW.eq_3) (
 And.intro (@MW.eq_4) (And.intro (@MW.eq_5) (And.intro (@adOK.eq_1) (And.intro (@adOK.eq_2) (And.intro (@parOK.eq_1) (And.intro (@parOK.eq_2) (
 @GeS.eq_1))))))))))))))))))))))))))))))))))))))))))))))))))))))))))))))))))))))))))))))))))))))))))) :=
 And.intro (@List.zipIdx_cons.{0}) (And.intro (@List.zipIdx_nil.{0}) (And.intro (@argF.eq_1) (And.intro (@argF.eq_2) (And.intro (@argF.eq_3) (And.intro (@argF.eq_4) (
 And.intro (@argF.eq_5) (And.intro (@argF.eq_6) (And.intro (@argF.eq_7) (And.intro (@argF.eq_8) (And.intro (@argF.eq_9) (And.intro (@argF.eq_10) (
 And.intro (@argFs.eq_1) (And.intro (@argFs.eq_2) (And.intro (@argFs.eq_3) (And.intro (@V.ren.eq_1) (And.intro (@V.ren.eq_2) (And.intro (@V.ren.eq_3) (
 And.intro (@V.ren.eq_4) (And.intro (@V.ren.eq_5) (And.intro (@V.rens.eq_1) (And.intro (@V.rens.eq_2) (And.intro (@V.flats.eq_1) (And.intro (@V.flats.eq_2) (
 And.intro (@V.flat.eq_1) (And.intro (@V.flat.eq_2) (And.intro (@V.flat.eq_3) (And.intro (@V.flat.eq_4) (And.intro (@freshIn.eq_1) (And.intro (@O.setv.eq_1) (
 And.intro (@O.setv.eq_2) (And.intro (@O.setv.eq_3) (And.intro (@O.setv.eq_4) (And.intro (@resV.eq_1) (And.intro (@ress.eq_1) (And.intro (@ress.eq_2) (
 And.intro (@res1.eq_1) (And.intro (@res1.eq_2) (And.intro (@exF.eq_1) (And.intro (@exF.eq_2) (And.intro (@exF.eq_3) (And.intro (@exF.eq_4) (
 And.intro (@exF.eq_5) (And.intro (@exF.eq_6) (And.intro (@exF.eq_7) (And.intro (@exF.eq_8) (And.intro (@exF.eq_9) (And.intro (@exF.eq_10) (
 And.intro (@exFs.eq_1) (And.intro (@exFs.eq_2) (And.intro (@exFs.eq_3) (And.intro (@asF.eq_1) (And.intro (@asF.eq_2) (And.intro (@asF.eq_3) (
 And.intro (@asF.eq_4) (And.intro (@bxF.eq_1) (And.intro (@bxF.eq_2) (And.intro (@W.eq_1) (And.intro (@W.eq_2) (And.intro (@W.eq_3) (
 And.intro (@W.eq_4) (And.intro (@W.eq_5) (And.intro (@W.eq_6) (And.intro (@W.eq_7) (And.intro (@W.eq_8) (And.intro (@W.eq_9) (
 And.intro (@W.eq_10) (And.intro (@W.eq_11) (And.intro (@W.eq_12) (And.intro (@W.eq_13) (And.intro (@W.eq_14) (And.intro (@W.eq_15) (
 And.intro (@W.eq_16) (And.intro (@W.eq_17) (And.intro (@W.eq_18) (And.intro (@W.eq_19) (And.intro (@Ws.eq_1) (And.intro (@Ws.eq_2) (
 And.intro (@Ws.eq_3) (And.intro (@TW.eq_1) (And.intro (@TW.eq_2) (And.intro (@MW.eq_1) (And.intro (@MW.eq_2) (And.intro (@MW.eq_3) (
 And.intro (@MW.eq_4) (And.intro (@MW.eq_5) (And.intro (@adOK.eq_1) (And.intro (@adOK.eq_2) (And.intro (@parOK.eq_1) (And.intro (@parOK.eq_2) (
 @GeS.eq_1))))))))))))))))))))))))))))))))))))))))))))))))))))))))))))))))))))))))))))))))))))))))))
theorem QQ:type_of% (And.intro (@ne_eq.{1}) (And.intro (@not_false_eq_true) (And.intro (@not_true_eq_false) (And.intro (@List.set_cons_zero.{0}) (And.intro (@List.set_cons_succ.{0}) (And.intro (@Nat.le_refl) (And.intro (@bne_iff_ne.{0}) (And.intro (@List.replicate_zero.{0}) (And.intro (@List.replicate_succ.{0}) (And.intro (@Option.getD_none.{0}) (And.intro (@Option.getD_some.{0}) (And.intro (@Bool.false_eq_true) (And.intro (@Bool.not_true) ((@Bool.not_false))))))))))))))) :=
 And.intro (@ne_eq.{1}) (And.intro (@not_false_eq_true) (And.intro (@not_true_eq_false) (And.intro (@List.set_cons_zero.{0}) (And.intro (@List.set_cons_succ.{0}) (And.intro (@Nat.le_refl) (And.intro (@bne_iff_ne.{0}) (And.intro (@List.replicate_zero.{0}) (And.intro (@List.replicate_succ.{0}) (And.intro (@Option.getD_none.{0}) (And.intro (@Option.getD_some.{0}) (And.intro (@Bool.false_eq_true) (And.intro (@Bool.not_true) ((@Bool.not_false))))))))))))))
theorem LL:type_of% (And.intro (@inU.eq_1) (And.intro (@inU.eq_2) (And.intro (@lentOut.eq_1) (And.intro (@lentOut.eq_2) (And.intro (@lentOut.eq_3) (And.intro (@formU.eq_1) (
 And.intro (@formU.eq_2) (And.intro (@O.kind.eq_1) (And.intro (@O.kind.eq_2) (And.intro (@O.kind.eq_3) (And.intro (@O.kind.eq_4) (And.intro (@O.wfB.eq_1) (
 And.intro (@O.wfB.eq_2) (And.intro (@O.live.eq_1) (And.intro (@O.live.eq_2) (And.intro (@O.live.eq_3) (And.intro (@O.live.eq_4) (And.intro (@closed.eq_1) (
 And.intro (@closed.eq_2) (And.intro (@closed.eq_3) (@closed.eq_4))))))))))))))))))))) :=
 And.intro (@inU.eq_1) (And.intro (@inU.eq_2) (And.intro (@lentOut.eq_1) (And.intro (@lentOut.eq_2) (And.intro (@lentOut.eq_3) (And.intro (@formU.eq_1) (
 And.intro (@formU.eq_2) (And.intro (@O.kind.eq_1) (And.intro (@O.kind.eq_2) (And.intro (@O.kind.eq_3) (And.intro (@O.kind.eq_4) (And.intro (@O.wfB.eq_1) (
 And.intro (@O.wfB.eq_2) (And.intro (@O.live.eq_1) (And.intro (@O.live.eq_2) (And.intro (@O.live.eq_3) (And.intro (@O.live.eq_4) (And.intro (@closed.eq_1) (
 And.intro (@closed.eq_2) (And.intro (@closed.eq_3) (@closed.eq_4))))))))))))))))))))
theorem NM:type_of% (And.intro (@V.nm.eq_1) (And.intro (@V.nm.eq_2) (And.intro (@V.nm.eq_3) (And.intro (@V.nm.eq_4) (And.intro (@V.nm.eq_5) (And.intro (@V.nm.eq_6) (
 And.intro (@V.nms.eq_1) (And.intro (@V.nms.eq_2) (And.intro (@nmU.eq_1) (And.intro (@nmU.eq_2) (And.intro (@rl.eq_1) (And.intro (@rl.eq_2) (
 And.intro (@O.addv.eq_1) (And.intro (@O.addv.eq_2) (And.intro (@O.addv.eq_3) (@O.addv.eq_4)))))))))))))))) :=
 And.intro (@V.nm.eq_1) (And.intro (@V.nm.eq_2) (And.intro (@V.nm.eq_3) (And.intro (@V.nm.eq_4) (And.intro (@V.nm.eq_5) (And.intro (@V.nm.eq_6) (
 And.intro (@V.nms.eq_1) (And.intro (@V.nms.eq_2) (And.intro (@nmU.eq_1) (And.intro (@nmU.eq_2) (And.intro (@rl.eq_1) (And.intro (@rl.eq_2) (
 And.intro (@O.addv.eq_1) (And.intro (@O.addv.eq_2) (And.intro (@O.addv.eq_3) (@O.addv.eq_4)))))))))))))))
/-! ### What is shown by itself -/
theorem XC:type_of% (And.intro CC (And.intro LL (And.intro EE (And.intro QQ (And.intro (@List.contains_nil.{0}) (And.intro (@Bool.false_eq_true) (And.intro (@Option.some.injEq.{0}) (And.intro (@O.arr.injEq) (And.intro (@true_and) (@and_true)))))))))) :=
 And.intro CC (And.intro LL (And.intro EE (And.intro QQ (And.intro (@List.contains_nil.{0}) (And.intro (@Bool.false_eq_true) (And.intro (@Option.some.injEq.{0}) (And.intro (@O.arr.injEq) (And.intro (@true_and) (@and_true)))))))))
theorem aE {p:Prop} (h:p:=by ((try simp only[EE,QQ,seval]) <;> rfl)):p:=h
theorem aR {p:Prop} (h:p:=by ((try simp only[CC,LL,EE,QQ,seval]) <;> rfl)):p:=h
theorem aC {p:Prop} (h:p:=by ((try simp only[CC,LL,NM,EE,QQ,seval]) <;> (first|rfl|((repeat constructor);done)))):p:=h
theorem aL {p:Prop} (h:p:=by (try simp only[CC,LL,NM,EE,QQ,seval]);(repeat' (first|trivial|(with_reducible rfl)|omega|(with_reducible apply And.intro)|rfl));done):p:=h
theorem aG {p:Prop} (h:p:=by first|(with_reducible exact trivial)|omega|(simp only[List.length_map,List.length_cons,List.length_nil] at *;omega)|(show _=true;first|(refine drawOK_of ?_;kernel_rfl)|rfl|kernel_rfl)):p:=h
theorem aF {p:Prop} (h:p:=by first|trivial|decide|((try simp only[CC,LL,EE,QQ,seval]) <;> repeat' (first|(with_reducible apply And.intro)|(exact⟨_,rfl,rfl,rfl⟩)|(exact⟨_,_,_,rfl⟩)|(exact⟨_,rfl⟩)|trivial|rfl|(simp;done)))):p:=h
theorem aD {p:Prop} (h:p:=by first|rfl|trivial|(exact⟨_,rfl⟩)|(exact⟨_,_,_,rfl⟩)):p:=h
theorem aZ {p:Prop} (h:p:=by ((try simp only[CC,LL,EE,QQ,seval]) <;> repeat' (first|(with_reducible apply And.intro)|rfl|trivial|(exact⟨_,rfl⟩)|(exact⟨_,_,_,rfl⟩)|(simp [*];done)|(simp [*];omega)|(simp_all;done)|(simp_all;omega)))):p:=h
theorem aS {p:Prop} (h:p:=by first|(simp;done)|rfl|omega|trivial):p:=h
theorem aH {p:Prop} (h:p:=by (simp only[GeS];refine⟨?_,?_,?_,?_⟩;all_goals (repeat' (first|(with_reducible exact True.intro)|(with_reducible rfl)|simp only[XC,↓reduceIte,seval]|(with_reducible apply And.intro)|(refine⟨_,rfl,?_⟩)|(simp;done)|rfl|omega|trivial)))):p:=h
end Go.Proofs.YticdbambknflgaaGreat.Sim
end
