/- A call as a step of a walk: of no program. Conditions: none. -/
import Derived.Test.YticdbambknflgaaGreatMSimM
namespace Go.Proofs.YticdbambknflgaaGreat.Sim
open Go Go.RowKit Go.Deep
set_option linter.unusedVariables false
structure CallForm (m:M) (b:Nat) (bx:U) (r:V) (bx':U) (as:List O):Prop where
 names:bx'.map (·.1)=bx.map (·.1)
 kinds:bx'.map (·.2.kind)=bx.map (·.2.kind)
 nd:(bx.map (·.1)).Nodup
 low:∀ x ∈ bx,x.1<1000000∧(x.1<b∨b+as.length≤x.1)
 box:∀ x ∈ bx,(x.2.wfB=true∧x.2.live=true)∧m x.1=some x.2
 box':∀ x ∈ bx',x.2.wfB=true
 wf:as.all O.wf=true
 res:r.wfR bx' as.length=true
section
variable {m mb:M} {hd hd':H} {w w':World} {S Sb S' S2 X Xc:Nat→Prop} {B b:Nat} {bx bx':U} {r:V} {as:List O}
def hdC (bx:U) (b n:Nat) (hd hd':H):H:=fun i=>if b≤i∧i<b+n then hd' (1000000+(i-b)) else if inU bx i=true then hd' i else hd i
theorem hdC_new {n j:Nat} (h:j<n):hdC bx b n hd hd' (b+j)=hd' (1000000+j):=by
 unfold hdC
 rw[if_pos (by omega),Nat.add_sub_cancel_left]
theorem hdC_bx {n i:Nat} (h:i<b∨b+n≤i) (hi:inU bx i=true):hdC bx b n hd hd' i=hd' i:=by
 unfold hdC
 rw[if_neg (by omega),if_pos hi]
theorem hdC_old {n i:Nat} (h:i<b∨b+n≤i) (hi:inU bx i=false):hdC bx b n hd hd' i=hd i:=by
 unfold hdC
 rw[if_neg (by omega),if_neg (by simp [hi])]
theorem setv_live (o:O) (v:Nat):(o.setv v).live=o.live:=by cases o <;> rfl
theorem setv_ver (o:O) (v:Nat):(o.setv v).ver=v:=by cases o <;> rfl
theorem CallForm.find {m:M} (hF:CallForm m b bx r bx' as) {i:Nat} {o:O} (h:(i,o) ∈ bx'):∃ o0,(i,o0) ∈ bx∧o.kind=o0.kind:=by
 have h1:=hF.names
 have h2:=hF.kinds
 obtain⟨j,hj,e⟩:=List.getElem_of_mem h
 have hl:bx'.length=bx.length:=by have:=congrArg List.length h1;simpa using this
 have e1:(bx'.map (·.1))[j]'(by simpa using hj)=(bx.map (·.1))[j]'(by simp;omega):=by simp only[h1]
 have e2:(bx'.map (·.2.kind))[j]'(by simpa using hj)=(bx.map (·.2.kind))[j]'(by simp;omega):=by simp only[h2]
 simp only[List.getElem_map,e] at e1 e2
 exact⟨(bx[j]'(by omega)).2,by rw[e1];exact List.getElem_mem _,e2⟩
theorem CallForm.find' {m:M} (hF:CallForm m b bx r bx' as) {i:Nat} {o0:O} (h:(i,o0) ∈ bx):∃ o,(i,o) ∈ bx':=by
 have h1:=hF.names
 have:i ∈ bx'.map (·.1):=by rw[h1];exact List.mem_map.2 ⟨_,h,rfl⟩
 obtain⟨x,hx,rfl⟩:=List.mem_map.1 this
 exact⟨x.2,hx⟩
theorem CallForm.nd' {m:M} (hF:CallForm m b bx r bx' as):(bx'.map (·.1)).Nodup:=by rw[hF.names];exact hF.nd
theorem inU_not {i:Nat} {us:U} (h:∀ x ∈ us,x.1 ≠ i):inU us i=false:=by
 cases e:inU us i with
 |false=>rfl
 |true=>obtain⟨o,ho⟩:=inU_mem e;exact absurd rfl (h _ ho)
theorem call_cases {m:M} (hF:CallForm m b bx r bx' as) (mb:M) (i:Nat) :
  (∃ j o,i=b+j∧as[j]?=some o∧ups mb (bx'++freshIn b m as) i=some (o.setv (nv m i))∧ups M0 (bx'++fresh as) (1000000+j)=some o) ∨
  (∃ o o0,(i,o) ∈ bx'∧(i,o0) ∈ bx∧o.kind=o0.kind∧(i<b∨b+as.length≤i)∧ups mb (bx'++freshIn b m as) i=some o∧ups M0 (bx'++fresh as) i=some o) ∨
  ((i<b∨b+as.length≤i)∧(∀ x ∈ bx,x.1 ≠ i)∧ups mb (bx'++freshIn b m as) i=mb i):=by
 have hfr:∀ j o,as[j]?=some o→ups M0 (bx'++fresh as) (1000000+j)=some o:=fun j o h=>by
  rw[ups_append];exact ups_mem nodup_fresh (fresh_mem h)
 have hjl:∀ {j:Nat} {o:O},as[j]?=some o→j<as.length:=fun h=>(List.getElem?_eq_some_iff.1 h).1
 by_cases hi:b≤i∧i<b+as.length
 ·left
  have hj:i-b<as.length:=by omega
  refine⟨i-b,as[i-b],by omega,List.getElem?_eq_getElem hj,?_,hfr _ _ (List.getElem?_eq_getElem hj)⟩
  have:=freshIn_mem (m:=m) (b:=b) (List.getElem?_eq_getElem hj)
  rw[show b+(i-b)=i by omega] at this
  rw[ups_append]
  exact ups_mem nodup_freshIn this
 ·right
  have hno:∀ x ∈ freshIn b m as,x.1 ≠ i:=by
   rintro⟨i',o⟩ hx e
   obtain⟨j,o',h1,h2,_⟩:=mem_freshIn hx
   have:=hjl h2
   simp only at e
   omega
  rcases ups_or i bx' mb with ⟨h1,h2⟩|⟨o,h1,h2⟩
  ·right
   refine⟨by omega,fun x hx e=>?_,by rw[ups_append,ups_not hno,h1]⟩
   subst e
   obtain⟨o,ho⟩:=hF.find' (i:=x.1) (o0:=x.2) hx
   exact h2 _ ho rfl
  ·left
   obtain⟨o0,h3,h4⟩:=hF.find h1
   refine⟨o,o0,h1,h3,h4,by omega,by rw[ups_append,ups_not hno,h2],?_⟩
   rw[ups_append,ups_not]
   ·exact ups_mem hF.nd' h1
   ·rintro⟨i',o'⟩ hx e
    obtain⟨j,e',_⟩:=mem_fresh hx
    have:=(hF.low _ h3).1
    simp only at e this
    omega
theorem call_out {m:M} (hF:CallForm m b bx r bx' as) (hmb:Mem mb hd w Sb X B) (hbox:∀ x ∈ bx,mb x.1=some x.2) (hver:∀ i,b≤i→i<b+as.length→(mb i).map O.ver=(m i).map O.ver) (hfr:Fr w w' (fun k=>∃ x ∈ bx,blk (hd x.1)=some k)) (hmem:Mem (ups M0 (bx'++fresh as)) hd' w' S' (fun k=>∃ x ∈ bx,blk (hd x.1)=some k) w.heap.size) (hle0:Le (ups M0 bx) hd (ups M0 (bx'++fresh as)) hd')
  (hS:∀ k,Sb k→S2 k) (hS2:∀ k,S2 k→k<w'.heap.size) (hS3:∀ k,S2 k→Sb k∨w.heap.size≤k∨∃ x ∈ bx,blk (hd x.1)=some k)
  (hnew:∀ (j:Nat) (o:O),as[j]?=some o→(o.setv (nv m (b+j))).is (ups mb (bx'++freshIn b m as)) (hdC bx b as.length hd hd') w' S2 X B (hd' (1000000+j)))
  (hold:∀ i o,(i,o) ∈ bx'→o.is (ups mb (bx'++freshIn b m as)) (hdC bx b as.length hd hd') w' S2 X B (hd' i)) :
  Out X B mb hd w Sb (ups mb (bx'++freshIn b m as)) (hdC bx b as.length hd hd') w' S2:=by
 have hjl:∀ {j:Nat} {o:O},as[j]?=some o→j<as.length:=fun h=>(List.getElem?_eq_some_iff.1 h).1
 have hXblk:∀ k,(∃ x ∈ bx,blk (hd x.1)=some k)→k<w.heap.size∧¬ Sb k∧(X k∨B≤k):=by
  rintro k ⟨x,hx,e⟩
  exact hmb.blk (hbox x hx) (hF.box x hx).1.2 e
 have hle:Le mb hd (ups mb (bx'++freshIn b m as)) (hdC bx b as.length hd hd'):=⟨fun i o ho=>by
  rcases call_cases hF mb i with ⟨j,o',e,h1,h2,h3⟩|⟨o',o0,h1,h2,h3,h4,h5,h6⟩|⟨h1,h2,h3⟩
  ·have:=hver i (by omega) (by have:=hjl h1;omega)
   have hnv:nv m i=o.ver+1:=by
    rw[← nv_congr this]
    simp [nv,ho]
   exact⟨_,h2,by rw[setv_ver];omega,fun e=>by rw[setv_ver] at e;omega⟩
  ·have:=hbox _ h2
   simp only at this
   rw[this] at ho
   cases ho
   obtain⟨o2,g1,g2,g3⟩:=hle0.le i _ (ups_mem hF.nd h2)
   rw[h6] at g1
   cases g1
   rw[hdC_bx h4 (mem_inU h2)]
   exact⟨o',h5,g2,g3⟩
  ·exact⟨o,by rw[h3];exact ho,Nat.le_refl _,fun _=>⟨hdC_old h1 (inU_not h2),rfl⟩⟩⟩
 have side:∀ i oi,ups mb (bx'++freshIn b m as) i=some oi→(∃ n o',ups M0 (bx'++fresh as) n=some o'∧o'.live=oi.live∧hdC bx b as.length hd hd' i=hd' n∧((∃ j,i=b+j∧j<as.length∧n=1000000+j)∨(n=i∧(i<b∨b+as.length≤i)∧i<1000000)))∨(mb i=some oi∧hdC bx b as.length hd hd' i=hd i∧∀ x ∈ bx,x.1 ≠ i):=by
  intro i oi hi
  rcases call_cases hF mb i with ⟨j,o',e,h1,h2,h3⟩|⟨o',o0,h1,h2,h3,h4,h5,h6⟩|⟨h1,h2,h3⟩
  ·rw[h2] at hi
   cases hi
   subst e
   exact .inl ⟨_,_,h3,(setv_live _ _).symm,hdC_new (hjl h1),.inl ⟨j,rfl,hjl h1,rfl⟩⟩
  ·rw[h5] at hi
   cases hi
   exact .inl ⟨i,_,h6,rfl,hdC_bx h4 (mem_inU h2),.inr ⟨rfl,h4,(hF.low _ h2).1⟩⟩
  ·rw[h3] at hi
   exact .inr ⟨hi,hdC_old h1 (inU_not h2),h2⟩
 have cross:∀ {n o' k i oi},ups M0 (bx'++fresh as) n=some o'→o'.live=true→blk (hd' n)=some k→mb i=some oi→oi.live=true→blk (hd i)=some k→(∀ x ∈ bx,x.1 ≠ i)→False:=by
  intro n o' k i oi h1 h2 h3 h4 h5 h6 h7
  rcases (hmem.blk h1 h2 h3).2.2 with ⟨x,hx,e⟩|h
  ·exact hmb.sep x.1 i x.2 oi k (h7 x hx) (hbox x hx) h4 (hF.box x hx).1.2 h5 e h6
  ·have:=(hmb.blk h4 h5 h6).1;omega
 refine⟨?_,hle,fun k hk hlt=>⟨hS k hk,hfr.block k hlt fun h=>(hXblk k h).2.1 hk⟩,⟨hfr.os,hfr.tape,hfr.output,hfr.size,fun k hk hn=>hfr.block k hk fun h=>hn (hXblk k h).2.2⟩,fun k hk=>(hS3 k hk).elim .inl fun h=>.inr (h.elim (fun h=>.inl (Nat.le_trans hmb.base h)) fun h=>(hXblk k h).2.2.symm)⟩
 refine Mem.next (Z:=fun k=>∃ x ∈ bx,blk (hd x.1)=some k) hmb hfr.size hfr.block (fun k hk h=>(hXblk k h).2.1 hk) hS hS2 hle (fun i o ho=>?_) (fun i i' oi oi' k hne hi hi' li li' bi bi'=>?_)
 ·rcases call_cases hF mb i with ⟨j,o',e,h1,h2,h3⟩|⟨o',o0,h1,h2,h3,h4,h5,h6⟩|⟨h1,h2,h3⟩
  ·right
   rw[h2] at ho
   cases ho
   subst e
   rw[hdC_new (hjl h1)]
   exact hnew j o' h1
  ·right
   rw[h5] at ho
   cases ho
   rw[hdC_bx h4 (mem_inU h2)]
   exact hold i _ h1
  ·left
   rw[h3] at ho
   refine⟨ho,hdC_old h1 (inU_not h2),fun k hl hb=>⟨?_,fun h=>?_⟩⟩
   ·rintro⟨x,hx,e⟩
    exact hmb.sep i x.1 o x.2 k (fun e=>h2 x hx e.symm) ho (hbox x hx) hl (hF.box x hx).1.2 hb e
   ·have hb':=hmb.blk ho hl hb
    rcases hS3 k h with h|h|⟨x,hx,e⟩
    ·exact hb'.2.1 h
    ·omega
    ·exact hmb.sep i x.1 o x.2 k (fun e=>h2 x hx e.symm) ho (hbox x hx) hl (hF.box x hx).1.2 hb e
 ·
  rcases side i oi hi with ⟨n,o1,p1,p2,p3,p4⟩|⟨p1,p2,p3⟩
  ·rw[p3] at bi
   rw[← p2] at li
   rcases side i' oi' hi' with ⟨n',o2,q1,q2,q3,q4⟩|⟨q1,q2,q3⟩
   ·rw[q3] at bi'
    rw[← q2] at li'
    refine hmem.sep n n' o1 o2 k (fun e=>hne ?_) p1 q1 li li' bi bi'
    rcases p4 with ⟨j,e1,e2,e3⟩|⟨e1,e2,e3⟩ <;> rcases q4 with ⟨j',f1,f2,f3⟩|⟨f1,f2,f3⟩ <;> omega
   ·rw[q2] at bi'
    exact (cross p1 li bi q1 li' bi' q3).elim
  ·rw[p2] at bi
   rcases side i' oi' hi' with ⟨n',o2,q1,q2,q3,q4⟩|⟨q1,q2,q3⟩
   ·rw[q3] at bi'
    rw[← q2] at li'
    exact (cross q1 li' bi' p1 li bi p3).elim
   ·rw[q2] at bi'
    exact hmb.sep i i' oi oi' k hne p1 q1 li li' bi bi'
theorem call_mem {m:M} (hF:CallForm m b bx r bx' as) (hmb:Mem mb hd w Sb X B) (hbox:∀ x ∈ bx,mb x.1=some x.2):Mem (ups M0 bx) hd w Sb (fun k=>∃ x ∈ bx,blk (hd x.1)=some k) w.heap.size:=by
 have hget:∀ i o,ups M0 bx i=some o→(i,o) ∈ bx:=fun i o h=>by
  rcases ups_or i bx M0 with ⟨h1,_⟩|⟨o',h1,h2⟩
  ·rw[h1] at h;cases h
  ·rw[h2] at h;cases h;exact h1
 refine⟨fun i o h=>?_,fun i j oi oj k hne hi hj li lj bi=>?_,hmb.lt,Nat.le_refl _,?_⟩
 ·have hx:=hget i o h
  have hmi:=hbox _ hx
  have hw:=(hF.box _ hx).1
  simp only at hmi hw
  have ho:=hmb.obj i o hmi
  cases o with
  |arr v k mu l =>
   have hmu:mu=true:=hw.2
   subst hmu
   simp only[O.is,if_true] at ho ⊢
   obtain⟨xs,h1,h2|⟨g,off,cap,e,h3,h4,h5⟩⟩:=ho
   ·exact⟨xs,h1,.inl h2⟩
   ·exact⟨xs,h1,.inr ⟨g,off,cap,e,h3,.inr ⟨_,hx,by rw[e];cases cap with|zero=>omega|succ c=>rfl⟩,h5⟩⟩
  |box v cs =>
   have hwc:=hw.1
   simp only[O.wfB] at hwc
   simp only[O.is] at ho ⊢
   obtain⟨k,vs,e,h1,h2,h3,h4,h5⟩:=ho
   exact⟨k,vs,e,.inr ⟨_,hx,by rw[e];rfl⟩,h2,h3,closed_ok (fun _ h _=>⟨h,rfl⟩) hwc h4,h5⟩
  |vec v kk cs=>simp [O.wfB] at hw
  |mp v ks=>simp [O.wfB] at hw
 ·exact hmb.sep i j oi oj k hne (hbox _ (hget i oi hi)) (hbox _ (hget j oj hj)) li lj bi
 ·rintro k ⟨x,hx,e⟩
  exact (hmb.blk (hbox x hx) (hF.box x hx).1.2 e).1
theorem is_new {m2 os:M} {hd2:H} {o:O} {h:Value} {v:Nat} {w0:World} (hw:o.wfB=true) (ho:o.is os hd' w' S' Xc w0.heap.size h) (hX:∀ k,Xc k→(B≤k∨X k)) (hB:B≤w0.heap.size)
  (hS:∀ k,S' k→k<w'.heap.size→S2 k∧w'.heap[k]?=w'.heap[k]?) (hS2:∀ k,(w0.heap.size≤k∨Xc k)→¬ S' k→¬ S2 k):(o.setv v).is m2 hd2 w' S2 X B h:=by
 cases o with
 |box v' cs =>
  simp only[O.wfB] at hw
  simp only[O.is,O.setv] at ho ⊢
  obtain⟨k,vs,e,h1,h2,h3,h4,h5,h6,h7⟩:=ho
  exact⟨k,vs,e,h1.elim (fun h=>.inl (Nat.le_trans hB h)) (hX k),h2,hS2 k h1 h3,closed_ok hS hw h4,h5,h6,h7⟩
 |arr v' k mu l =>
  cases mu with
  |true =>
   simp only[O.is,O.setv,if_true] at ho ⊢
   obtain⟨xs,hrow,h⟩:=ho
   exact⟨xs,Rows.keep hS _ _ _ hrow,h.imp id fun⟨g,off,cap,e,h0,h1,h2,h3,h4,h5⟩=>⟨g,off,cap,e,h0,h1.elim (fun h=>.inl (Nat.le_trans hB h)) (hX g),h2,hS2 g h1 h3,h4,h5⟩⟩
  |false =>
   simp only[O.is,O.setv,Bool.false_eq_true,if_false] at ho ⊢
   exact D.keep hS _ _ ho
 |vec v kk cs=>simp [O.wfB] at hw
 |mp v ks=>simp [O.wfB] at hw
theorem setv_self (o:O):o.setv o.ver=o:=by cases o <;> rfl
theorem frz_keep {l:List V} {i:Nat} (h:∀ v,.og i v ∉ l):ups m (frz m l) i=m i:=by
 refine ups_frz_not i _ _ (List.all_eq_true.2 fun x hx=>?_)
 unfold V.notOg
 split
 ·rename_i j v
  simp only[bne_iff_ne,ne_eq]
  rintro rfl
  exact h v hx
 ·rfl
theorem wf_wfB {o:O} (h:o.wf=true):o.wfB=true∧o.live=true:=by
 cases o with
 |box v cs=>simp only[O.wf,Bool.and_eq_true] at h;exact⟨h.2,rfl⟩
 |arr v k mu l=>simp only[O.wf,Bool.and_eq_true] at h;exact⟨rfl,h.2⟩
 |vec v kk cs=>simp [O.wf] at h
 |mp v ks=>simp [O.wf] at h
theorem call_step {P:Program} {f:FuncId} {xs ys:List V} {us:List Value} (hG:∀ g,GL.contains g=true→g<B∧¬ X g∧w.cell? ⟨g,0,none⟩=some GLV) (hD:Does P f ys bx r bx' as) (hF:CallForm m b bx r bx' as) (hm:Mem m hd w S X B) (hv:VRs m hd w S xs us) (ha:Args m bx xs ys) :
  Calls P f us.toArray w fun e w'=>∃ u hd2 S2,e=.returned u∧Out X B m hd w S (ups m (frz m (lentOut bx (V.flats xs))++(bx'++freshIn b m as))) hd2 w' S2∧VR (ups m (frz m (lentOut bx (V.flats xs))++(bx'++freshIn b m as))) hd2 w' S2 (r.ren b m) u:=by
 obtain⟨S1,o1⟩:=out_frzs hm (lentOut bx (V.flats xs))
 have hbox:∀ x ∈ bx,ups m (frz m (lentOut bx (V.flats xs))) x.1=some x.2:=fun x hx=>by
  rw[frz_keep fun v hv=>by have:=(lentOut_og.1 hv).2;rw[mem_inU hx] at this;cases this]
  exact (hF.box x hx).2
 have hmem0:=call_mem hF o1.mem hbox
 have hys:=args_ok o1.mem ha (o1.vrs hv) (fun i v k mu l hmem hno hi=>ups_frz_get hi _ _ (lentOut_og.2 ⟨hmem,hno⟩)) hbox hF.nd
 have hG':Gk w (fun k=>∃ x ∈ bx,blk (hd x.1)=some k):=fun g hg=>by
  obtain⟨g1,g2,g3⟩:=hG g hg
  refine⟨Nat.lt_of_lt_of_le g1 hm.base,?_,g3⟩
  rintro⟨x,hx,e⟩
  rcases (o1.mem.blk (hbox x hx) (hF.box x hx).1.2 e).2.2 with h|h
  ·exact g2 h
  ·omega
 refine (hD w hd S1 _ us hG' hmem0 hys).mono ?_
 rintro e w' ⟨u,hd',S',rfl,hfr,hmem,hvr,hsub,hle0⟩
 have hjl:∀ {j:Nat} {o:O},as[j]?=some o→j<as.length:=fun h=>(List.getElem?_eq_some_iff.1 h).1
 have hos:∀ {j:Nat} {o:O},as[j]?=some o→ups M0 (bx'++fresh as) (1000000+j)=some o:=fun h=>by rw[ups_append];exact ups_mem nodup_fresh (fresh_mem h)
 have hob:∀ {i:Nat} {o:O},(i,o) ∈ bx'→ups M0 (bx'++fresh as) i=some o:=fun {i o} h=>by
  obtain⟨o0,h0,_⟩:=hF.find h
  have hlow:=(hF.low _ h0).1
  rw[ups_append,ups_not]
  ·exact ups_mem hF.nd' h
  ·rintro⟨i',o2⟩ hx2 e2
   obtain⟨j',e',_⟩:=mem_fresh hx2
   simp only at e2 hlow
   omega
 have hwf:∀ {j:Nat} {o:O},as[j]?=some o→o.wf=true:=fun h=>List.all_eq_true.1 hF.wf _ (List.mem_of_getElem? h)
 have hXc:∀ k,(∃ x ∈ bx,blk (hd x.1)=some k)→k<w.heap.size∧¬ S1 k∧(X k∨B≤k):=by
  rintro k ⟨x,hx,e⟩
  exact o1.mem.blk (hbox x hx) (hF.box x hx).1.2 e
 have hS2:∀ k,(S1 k∨S' k)→k<w'.heap.size:=fun k h=>h.elim (fun h=>Nat.lt_of_lt_of_le (o1.mem.lt k h) hfr.size) (hmem.lt k)
 have hnot:∀ k,(w.heap.size≤k∨∃ x ∈ bx,blk (hd x.1)=some k)→¬ S' k→¬ (S1 k∨S' k):=fun k h1 h2 h=>h.elim (fun h=>h1.elim (fun h1=>by have:=o1.mem.lt k h;omega) fun h1=>(hXc k h1).2.1 h) h2
 have hout:=call_out (S2:=fun k=>S1 k∨S' k) hF o1.mem hbox (fun i _ _=>frz_ver m _ i) hfr hmem hle0 (fun k h=>.inl h) hS2 (fun k h=>h.elim .inl (hsub k))
  (fun j o hj=>is_new (wf_wfB (hwf hj)).1 (hmem.obj _ _ (hos hj)) (fun k hk=>(hXc k hk).2.2.symm) o1.mem.base (fun k h _=>⟨.inr h,rfl⟩) hnot)
  (fun i o hi=>by
   have:=is_new (m2:=ups (ups m (frz m (lentOut bx (V.flats xs)))) (bx'++freshIn b m as)) (hd2:=hdC bx b as.length hd hd') (X:=X) (B:=B) (v:=o.ver) (hF.box' _ hi) (hmem.obj _ _ (hob hi)) (fun k hk=>(hXc k hk).2.2.symm) o1.mem.base (fun k h _=>⟨.inr h,rfl⟩) hnot
   rwa [setv_self] at this)
 refine⟨u,hdC bx b as.length hd hd',fun k=>S1 k∨S' k,rfl,by rw[ups_append];exact o1.trans hout,?_⟩
 rw[ups_append]
 refine ren_ok (bx:=bx') (fun k h=>.inr h) (fun i hi hlt=>?_) (fun j hj=>?_) r u hF.res hvr
 ·obtain⟨o,ho⟩:=inU_mem hi
  obtain⟨o0,h0,_⟩:=hF.find ho
  have hlow:=(hF.low _ h0).2
  simp only at hlow
  rcases call_cases hF (ups m (frz m (lentOut bx (V.flats xs)))) i with ⟨j,o',e,h1,h2,h3⟩|⟨o',o0,h1,h2,h3,h4,h5,h6⟩|⟨h1,h2,h3⟩
  ·have:=hjl h1;omega
  ·exact⟨by rw[h5,h6],hdC_bx h4 (mem_inU h2)⟩
  ·exact absurd rfl (h2 _ h0)
 have hj':=List.getElem?_eq_getElem hj
 refine⟨as[j],hos hj',?_,?_,hdC_new hj⟩
 ·have:=hwf hj'
  cases h:as[j] <;> simp_all [O.wf,O.ver]
 ·rw[ups_append]
  exact ups_mem nodup_freshIn (freshIn_mem hj')
/-! ### Calls that only look -/
def scD:D→Bool
 |.at _=>true
 |_=>false
def scV:V→Bool
 |.d (.at _)=>true
 |_=>false
def O.scal:O→Bool
 |.arr _ _ _ l=>l.all fun c=>c.all scD
 |.box _ cs=>cs.all scV
 |_=>false
mutual
def V.scal:V→Bool
 |.d (.at _)=>true
 |.nl _=>true
 |.og _ _=>true
 |.bp _ _ _=>true
 |.ag l=>V.scals l
 |.tu l=>V.scals l
 |_=>false
def V.scals:List V→Bool
 |[]=>true
 |x :: l=>x.scal&&V.scals l
end
theorem cells_sc:∀ {c:List D} {xs:List Value},c.all scD=true→Cells w S c xs→Cells w' S' c xs
 |[],xs,_,h=>by simp only[Cells] at h ⊢;exact h
 |d :: c,xs,hs,h=>by
  simp only[List.all_cons,Bool.and_eq_true] at hs
  simp only[Cells] at h ⊢
  obtain⟨x,r,e,h1,h2⟩:=h
  refine⟨x,r,e,?_,cells_sc hs.2 h2⟩
  cases d with
  |«at» v=>simp only[D.is] at h1 ⊢;exact h1
  |sl k l=>exact absurd hs.1 (by simp [scD])
theorem rows_sc {k:Nat}:∀ {l:List (List D)} {xs:List Value},(l.all fun c=>c.all scD)=true→Rows w S k l xs→Rows w' S' k l xs
 |[],xs,_,h=>by simp only[Rows] at h ⊢;exact h
 |c :: l,xs,hs,h=>by
  simp only[List.all_cons,Bool.and_eq_true] at hs
  simp only[Rows] at h ⊢
  obtain⟨a,r,e,h0,h1,h2⟩:=h
  exact⟨a,r,e,h0,cells_sc (by simpa using hs.1) h1,rows_sc hs.2 h2⟩
theorem vrs_sc {m m2:M} {hd2:H}:∀ {cs:List V} {xs:List Value},cs.all scV=true→VRs m hd w S cs xs→VRs m2 hd2 w' S' cs xs
 |[],xs,_,h=>by simp only[VRs] at h ⊢;exact h
 |x :: c,xs,hs,h=>by
  simp only[List.all_cons,Bool.and_eq_true] at hs
  simp only[VRs] at h ⊢
  obtain⟨u,r,e,h1,h2⟩:=h
  refine⟨u,r,e,?_,vrs_sc hs.2 h2⟩
  have hx:=hs.1
  unfold scV at hx
  split at hx
  ·simp only[VR,D.is] at h1 ⊢;exact h1
  ·cases hx
mutual
theorem V.scal_ok {m:M}:∀ {x:V} {u:Value},x.scal=true→VR m hd w S x u→VR m hd w S' x u
 |.d (.at v),u,_,h=>by simp only[VR,D.is] at h ⊢;exact h
 |.d (.sl k l),u,hs,h=>by simp [V.scal] at hs
 |.nl k,u,_,h=>by simp only[VR] at h ⊢;exact h
 |.og i v,u,_,h=>by simp only[VR] at h ⊢;exact h
 |.bp i v o,u,_,h=>by simp only[VR] at h ⊢;exact h
 |.ag l,u,hs,h=>by
  simp only[VR] at h ⊢
  obtain⟨vs,e,h1,h2⟩:=h
  exact⟨vs,e,V.scals_ok (by simpa only[V.scal] using hs) h1,h2⟩
 |.tu l,u,hs,h=>by
  simp only[VR] at h ⊢
  obtain⟨vs,e,h1⟩:=h
  exact⟨vs,e,V.scals_ok (by simpa only[V.scal] using hs) h1⟩
 |.un,u,hs,h=>by simp [V.scal] at hs
 |.z0,u,hs,h=>by simp [V.scal] at hs
 |.ub,u,hs,h=>by simp [V.scal] at hs
 |.ep _ _ _ _,u,hs,h=>by simp [V.scal] at hs
 |.fp _ _,u,hs,h=>by simp [V.scal] at hs
 |.cl _ _,u,hs,h=>by simp [V.scal] at hs
 |.vg _ _,u,hs,h=>by simp [V.scal] at hs
 |.vp _ _ _,u,hs,h=>by simp [V.scal] at hs
 |.ot _ _ _,u,hs,h=>by simp [V.scal] at hs
 |.mh _ _,u,hs,h=>by simp [V.scal] at hs
 |.fx _ _,u,hs,h=>by simp [V.scal] at hs
theorem V.scals_ok {m:M}:∀ {l:List V} {xs:List Value},V.scals l=true→VRs m hd w S l xs→VRs m hd w S' l xs
 |[],xs,_,h=>by simp only[VRs] at h ⊢;exact h
 |x :: l,xs,hs,h=>by
  simp only[V.scals,Bool.and_eq_true] at hs
  simp only[VRs] at h ⊢
  obtain⟨u,r,e,h1,h2⟩:=h
  exact⟨u,r,e,V.scal_ok hs.1 h1,V.scals_ok hs.2 h2⟩
end
mutual
theorem ren_scal {m:M}:∀ {x:V},x.scal=true→(x.ren b m).scal=true
 |.d (.at v),h=>by simpa only[V.ren] using h
 |.d (.sl k l),h=>by simp [V.scal] at h
 |.nl k,h=>by simpa only[V.ren] using h
 |.og i v,h=>by simp only[V.ren];split <;> rfl
 |.bp i v o,h=>by simp only[V.ren];split <;> rfl
 |.ag l,h=>by simp only[V.ren,V.scal] at h ⊢;exact rens_scal h
 |.tu l,h=>by simp only[V.ren,V.scal] at h ⊢;exact rens_scal h
 |.un,h=>by simp [V.scal] at h
 |.z0,h=>by simp [V.scal] at h
 |.ub,h=>by simp [V.scal] at h
 |.ep _ _ _ _,h=>by simp [V.scal] at h
 |.fp _ _,h=>by simp [V.scal] at h
 |.cl _ _,h=>by simp [V.scal] at h
 |.vg _ _,h=>by simp [V.scal] at h
 |.vp _ _ _,h=>by simp [V.scal] at h
 |.ot _ _ _,h=>by simp [V.scal] at h
 |.mh _ _,h=>by simp [V.scal] at h
 |.fx _ _,h=>by simp [V.scal] at h
theorem rens_scal {m:M}:∀ {l:List V},V.scals l=true→V.scals (V.rens b m l)=true
 |[],_=>rfl
 |x :: l,h=>by
  simp only[V.scals,Bool.and_eq_true] at h
  simp only[V.rens,V.scals,Bool.and_eq_true]
  exact⟨ren_scal h.1,rens_scal h.2⟩
end
theorem call_stepB {P:Program} {f:FuncId} {xs ys:List V} {us:List Value} (hG:∀ g,GL.contains g=true→g<B∧¬ X g∧w.cell? ⟨g,0,none⟩=some GLV) (hD:Does P f ys bx r bx' []) (hF:CallForm m b bx r bx' []) (hrs:r.scal=true) (hbs:bx'.all (·.2.scal)=true) (hmut:∀ x ∈ bx',x.2.live=true) (hm:Mem m hd w S X B) (hv:VRs m hd w S xs us) (ha:Args m bx xs ys) :
  Calls P f us.toArray w fun e w'=>∃ u hd2,e=.returned u∧Out X B m hd w S (ups m (bx'++freshIn b m [])) hd2 w' S∧VR (ups m (bx'++freshIn b m [])) hd2 w' S (r.ren b m) u:=by
 obtain⟨S1,o1⟩:=out_frzs hm (lentOut bx (V.flats xs))
 have hSS:∀ k,S k→S1 k:=fun k h=>(o1.keep k h (hm.lt k h)).1
 have hbox:∀ x ∈ bx,ups m (frz m (lentOut bx (V.flats xs))) x.1=some x.2:=fun x hx=>by
  rw[frz_keep fun v hv=>by have:=(lentOut_og.1 hv).2;rw[mem_inU hx] at this;cases this]
  exact (hF.box x hx).2
 have hmem0:=call_mem hF o1.mem hbox
 have hys:=args_ok o1.mem ha (o1.vrs hv) (fun i v k mu l hmem hno hi=>ups_frz_get hi _ _ (lentOut_og.2 ⟨hmem,hno⟩)) hbox hF.nd
 have hXc:∀ k,(∃ x ∈ bx,blk (hd x.1)=some k)→k<w.heap.size∧¬ S1 k∧(X k∨B≤k):=by
  rintro k ⟨x,hx,e⟩
  exact o1.mem.blk (hbox x hx) (hF.box x hx).1.2 e
 have hG':Gk w (fun k=>∃ x ∈ bx,blk (hd x.1)=some k):=fun g hg=>by
  obtain⟨g1,g2,g3⟩:=hG g hg
  refine⟨Nat.lt_of_lt_of_le g1 hm.base,fun h=>?_,g3⟩
  rcases (hXc g h).2.2 with h|h
  ·exact g2 h
  ·omega
 refine (hD w hd S1 _ us hG' hmem0 hys).mono ?_
 rintro e w' ⟨u,hd',S',rfl,hfr,hmem,hvr,hsub,hle0⟩
 have hob:∀ {i:Nat} {o:O},(i,o) ∈ bx'→ups M0 (bx'++fresh []) i=some o:=fun {i o} h=>by
  rw[ups_append]
  show ups M0 bx' i=some o
  exact ups_mem hF.nd' h
 have hnot:∀ k,(w.heap.size≤k∨∃ x ∈ bx,blk (hd x.1)=some k)→¬ S k:=fun k h1 h=>h1.elim (fun h1=>by have:=hm.lt k h;omega) fun h1=>(hXc k h1).2.1 (hSS k h)
 have hout:=call_out (S2:=S) hF hm (fun x hx=>(hF.box x hx).2) (fun i _ _=>rfl) hfr hmem hle0 (fun k h=>h) (fun k h=>Nat.lt_of_lt_of_le (hm.lt k h) hfr.size) (fun k h=>.inl h)
  (fun j o hj=>by simp at hj)
  (fun i o hi=>by
   have h1:=hmem.obj _ _ (hob hi)
   have h2:o.scal=true:=List.all_eq_true.1 hbs _ hi
   cases o with
   |box v cs =>
    simp only[O.scal] at h2
    simp only[O.is] at h1 ⊢
    obtain⟨k,vs,e,g1,g2,g3,g4,g5⟩:=h1
    exact⟨k,vs,e,g1.elim (fun h=>.inl (Nat.le_trans hm.base h)) (fun h=>(hXc k h).2.2.symm),g2,hnot k g1,vrs_sc h2 g4,g5⟩
   |arr v k mu l =>
    simp only[O.scal] at h2
    have hl:=(hF.box' _ hi)
    obtain⟨o0,h0,hk⟩:=hF.find hi
    cases mu with
    |true =>
     simp only[O.is,if_true] at h1 ⊢
     obtain⟨ys,hrow,h⟩:=h1
     exact⟨ys,rows_sc h2 hrow,h.imp id fun⟨g,off,cap,e,k0,k1,k2,k3,k4⟩=>⟨g,off,cap,e,k0,k1.elim (fun h=>.inl (Nat.le_trans hm.base h)) (fun h=>(hXc g h).2.2.symm),k2,hnot g k1,k4⟩⟩
    |false=>exact absurd (hmut _ hi) (by simp [O.live])
   |vec v kk cs=>simp [O.scal] at h2
   |mp v ks=>simp [O.scal] at h2)
 refine⟨u,_,rfl,hout,?_⟩
 refine V.scal_ok (S:=S') (ren_scal hrs) (ren_ok (S2:=S') (n:=([]:List O).length) (bx:=bx') (fun k h=>h) (fun i hi hlt=>?_) (fun j hj=>by simp at hj) r u hF.res hvr)
 obtain⟨o,ho⟩:=inU_mem hi
 obtain⟨o0,h0,_⟩:=hF.find ho
 have hlow:=(hF.low _ h0).2
 simp only at hlow
 rcases call_cases hF m i with ⟨j,o',e,h1,h2,h3⟩|⟨o',o0,h1,h2,h3,h4,h5,h6⟩|⟨h1,h2,h3⟩
 ·simp at h1
 ·exact⟨by rw[h5,h6],hdC_bx h4 (mem_inU h2)⟩
 ·exact absurd rfl (h2 _ h0)
end
end Go.Proofs.YticdbambknflgaaGreat.Sim
