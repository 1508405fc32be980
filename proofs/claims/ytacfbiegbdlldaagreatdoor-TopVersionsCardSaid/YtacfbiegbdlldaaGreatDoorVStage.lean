/- A region that draws its order: what is read holds its value till the first store. Of no program. Conditions: none. -/
import Derived.Test.YtacfbiegbdlldaaGreatDoorVRep
namespace Go.Proofs.YtacfbiegbdlldaaGreatDoor
open Go Go.RowKit Go.Deep
set_option linter.unusedVariables false
section
variable {P:Program} {ops:Array Oper} {Q:Exit→Act→World→Prop} {md:Region.Mode} {S:World→Prop} {k:Nat}
def wpStage (P:Program) (md:Region.Mode) (ops:Array Oper) (Q:Exit→Act→World→Prop) (S:World→Prop) (k:Nat):Nat→Array Bool→Act→World→Prop
 |0,listed,a,w=>Region.ready md ops listed=[]∧Q .normal a w
 |fuel+1,listed,a,w =>
  (Region.ready md ops listed=[]→Q .normal a w) ∧
  ∀ i ∈ Region.ready md ops listed,wpOp P ops Q i (fun a' w'=>((listed.setIfInBounds i true).getD k true=false→S w')∧wpStage P md ops Q S k fuel (listed.setIfInBounds i true) a' w') a w
theorem wpAny_of_stage:∀ (fuel:Nat) (listed:Array Bool) (a:Act) (w:World),wpStage P md ops Q S k fuel listed a w→wpAny P md ops Q fuel listed a w
 |0,_,_,_,h=>h
 |fuel+1,_,_,_,h=>⟨h.1,fun i hi=>wpOp_mono (fun a' w' h'=>wpAny_of_stage fuel _ a' w' h'.2) (h.2 i hi)⟩
def waitsFor (md:Region.Mode) (ops:Array Oper) (k i:Nat):Bool:=((ops[k]?).map fun o=>o.after.any fun e=>Region.binds md e&&e.on == i).getD false
theorem not_ready_before {i j:Nat} {listed:Array Bool} (hw:waitsFor md ops k i=true) (hi:listed.getD i true=false) (hj:j ∈ Region.ready md ops listed):j ≠ k:=by
 rintro rfl
 obtain⟨_,o,ho,hall⟩:=mem_ready.1 hj
 simp only[waitsFor,ho,Option.map_some,Option.getD_some] at hw
 obtain⟨e,he,hb⟩:=Array.any_eq_true'.1 hw
 simp only[Bool.and_eq_true,beq_iff_eq] at hb
 have:=hall e he hb.1
 rw[hb.2] at this
 rcases Nat.lt_or_ge i listed.size with h|h
 ·simp [h] at this hi;rw[hi] at this;cases this
 ·simp [Array.getElem?_eq_none h] at this
theorem wpStage_first {i:Nat} {oi:Oper} {v:Value} (hi:ops[i]?=some oi) (hsel:∀ (j:Nat) (o:Oper) cs b,ops[j]?=some o→o.op ≠ .select cs b)
  (hQ:∀ c a w,Q (.panic c) (a.put oi.dst v) w→Q (.panic c) a w) (hw:waitsFor md ops k i=true) :
  ∀ (fuel:Nat) (listed:Array Bool) (a:Act) (w:World),
   (∀ j oj,ops[j]?=some oj→j ≠ i→listed.getD j true=false→(∀ e ∈ oj.after,Region.binds md e=true→e.on ≠ i)→oi.apart ops oj=true) →
   i ∈ Region.ready md ops listed→YieldsIf P ops S oi v a→listed.getD k true=false→S w →
   wpStage P md ops Q S k fuel (listed.setIfInBounds i true) (a.put oi.dst v) w→wpStage P md ops Q S k (fuel+1) listed a w:=by
 intro fuel
 induction fuel with
 |zero =>
  intro listed a w _ hr hy hkl hS H
  refine⟨fun h=>(by rw[h] at hr;cases hr),fun j hj=>?_⟩
  by_cases hji:j=i
  ·subst hji;exact hy.wpOp hi hS ⟨fun _=>hS,H⟩
  ·have:=ready_mono hj hji
   rw[H.1] at this
   cases this
 |succ fuel ih =>
  intro listed a w hfree hr hy hkl hS H
  refine⟨fun h=>(by rw[h] at hr;cases hr),fun j hj=>?_⟩
  by_cases hji:j=i
  ·subst hji;exact hy.wpOp hi hS ⟨fun _=>hS,H⟩
  ·have h1:=H.2 j (ready_mono hj hji)
   have hjk:=not_ready_before hw (mem_ready.1 hr).1 hj
   obtain⟨hjun,oj,hoj,hall⟩:=mem_ready.1 hj
   have hnot:∀ e ∈ oj.after,Region.binds md e=true→e.on ≠ i:=fun e he hb heq=>by
    have h1:=hall e he hb
    have h0:=(mem_ready.1 hr).1
    rw[heq] at h1
    rcases Nat.lt_or_ge i listed.size with h'|h'
    ·simp [h'] at h0 h1;rw[h0] at h1;cases h1
    ·simp [Array.getElem?_eq_none h'] at h1
   have h2:=wpOp_putIf hoj (hfree j oj hoj hji hjun hnot) (fun cs b=>hsel i oi cs b hi) (fun cs b=>hsel j oj cs b hoj) hQ hy h1
   have hik:i ≠ k:=not_ready_before hw (mem_ready.1 hr).1 hr
   have hkl1:(listed.setIfInBounds j true).getD k true=false:=by rw[getD_set_ne true hjk];exact hkl
   have hkl2:((listed.setIfInBounds i true).setIfInBounds j true).getD k true=false:=by rw[getD_set_ne true hjk,getD_set_ne true hik];exact hkl
   have hfree':∀ m om,ops[m]?=some om→m ≠ i→(listed.setIfInBounds j true).getD m true=false →
     (∀ e ∈ om.after,Region.binds md e=true→e.on ≠ i)→oi.apart ops om=true:=fun m om hm hmi hun hno=>by
    refine hfree m om hm hmi ?_ hno
    by_cases hjm:j=m
    ·subst hjm;exact hjun
    ·rw[getD_set_ne true hjm] at hun;exact hun
   refine wpOp_mono (fun a' w' h3=>⟨fun _=>h3.2.1 hkl2,ih (listed.setIfInBounds j true) a' w' hfree' (ready_mono hr (Ne.symm hji)) h3.1 hkl1 (h3.2.1 hkl2) ?_⟩) h2
   rw[Array.setIfInBounds_comm _ _ hji]
   exact h3.2.2
/-! ### The moves -/
theorem wpStage_take {i:Nat} {oi:Oper} {v:Value} {fuel:Nat} {listed:Array Bool} {a:Act} {w:World} (hi:ops[i]?=some oi) (hg:oi.guard=none)
  (hs:(Region.noSelect ops&&Region.free md ops listed i&&(Region.ready md ops listed).contains i&&waitsFor md ops k i&&!listed.getD k true)=true)
  (hQ:∀ c a w,Q (.panic c) (a.put oi.dst v) w→Q (.panic c) a w) (hy:∀ w,S w→(execOp a.eval oi).run P w=.ok (.value v) w) (hS:S w)
  (h:wpStage P md ops Q S k fuel (listed.setIfInBounds i true) (a.put oi.dst v) w):wpStage P md ops Q S k (fuel+1) listed a w:=by
 simp only[Bool.and_eq_true,Bool.not_eq_true'] at hs
 obtain⟨⟨⟨⟨h1,h2⟩,h3⟩,h4⟩,h5⟩:=hs
 exact wpStage_first hi (Region.noSelect_spec h1) hQ h4 fuel listed a w (Region.free_spec hi h2) (by simpa using h3) (.inl ⟨by simp [Region.wanted,hg],hy⟩) h5 hS h
def StageOne (P:Program) (md:Region.Mode) (ops:Array Oper) (Q:Exit→Act→World→Prop) (S:World→Prop) (k fuel:Nat) (listed:Array Bool) (a:Act) (w:World) (rs:List Nat):Prop :=
 ∀ i ∈ rs,wpOp P ops Q i (fun a' w'=>((listed.setIfInBounds i true).getD k true=false→S w')∧wpStage P md ops Q S k fuel (listed.setIfInBounds i true) a' w') a w
theorem StageOne.nil {fuel:Nat} {listed:Array Bool} {a:Act} {w:World}:StageOne P md ops Q S k fuel listed a w []:=fun _ h=>by cases h
theorem StageOne.cons {fuel:Nat} {listed:Array Bool} {a:Act} {w:World} {i:Nat} {o:Oper} {rs:List Nat} (ho:ops[i]?=some o) (hg:o.guard=none)
  (h:∀ K':Act→World→Prop,Shut (∀ a w,S w→(S w→wpStage P md ops Q S k fuel (listed.setIfInBounds i true) a w)→K' a w)→Oper.wp P o a w K' Q)
  (hs:StageOne P md ops Q S k fuel listed a w rs):StageOne P md ops Q S k fuel listed a w (i :: rs):=fun j hj=>by
 rcases List.mem_cons.1 hj with rfl|hj
 ·refine wpOp_step ho fun K' hK=>?_
  rw[if_pos (by simp [Region.wanted,hg])]
  exact h K' (fun a w hS hW=>hK a w ⟨fun _=>hS,hW hS⟩)
 ·exact hs j hj
theorem StageOne.late {fuel:Nat} {listed:Array Bool} {a:Act} {w:World} {i:Nat} {o:Oper} {rs:List Nat} (ho:ops[i]?=some o) (hg:o.guard=none) (hl:(listed.setIfInBounds i true).getD k true=true)
  (h:∀ K':Act→World→Prop,Shut (∀ a w,wpStage P md ops Q S k fuel (listed.setIfInBounds i true) a w→K' a w)→Oper.wp P o a w K' Q)
  (hs:StageOne P md ops Q S k fuel listed a w rs):StageOne P md ops Q S k fuel listed a w (i :: rs):=fun j hj=>by
 rcases List.mem_cons.1 hj with rfl|hj
 ·refine wpOp_step ho fun K' hK=>?_
  rw[if_pos (by simp [Region.wanted,hg])]
  exact h K' (fun a w hW=>hK a w ⟨fun e=>(by rw[hl] at e;cases e),hW⟩)
 ·exact hs j hj
theorem wpStage_ready {rs:List Nat} {fuel:Nat} {listed:Array Bool} {a:Act} {w:World} (hr:Region.ready md ops listed=rs) (hne:rs ≠ [])
  (h:StageOne P md ops Q S k fuel listed a w rs):wpStage P md ops Q S k (fuel+1) listed a w:=⟨fun h0=>absurd (hr ▸ h0) hne,hr ▸ h⟩
theorem wpStage_done {listed:Array Bool} {a:Act} {w:World} (hr:Region.ready md ops listed=[]) (h:Q .normal a w):∀ fuel,wpStage P md ops Q S k fuel listed a w
 |0=>⟨hr,h⟩
 |_+1=>⟨fun _=>h,by rw[hr];simp⟩
theorem wp_region_stage (S:World→Prop) (k:Nat) {id:Nat} {a:Act} {w:World} (hm:P.follows .mixedOrders=true) (hS:S w.drew)
  (h:S w.drew→wpStage P .any ops Q S k ops.size (Array.replicate ops.size false) a w.drew):(Code.region id ops true).wp P Q a w :=
 wp_region_any hm (wpAny_of_stage _ _ _ _ (h hS))
theorem Src.single {sz:Nat} {w:World} {tx e':TypeId} (hk:P.underlying tx=some (.slice e')) {b:Nat} {cs:List Value} (hl:cs.length=sz) (hr:w.rangeAt b 0 cs) (h1:∀ u ∈ cs,u.oneCell'=true):Src P sz tx (.slice (some ⟨b,0,none⟩) 1 1) 1 cs w :=
 Src.ofSlice w hk _ 1 1 cs (by omega) (fun j u hu=>by rw[Addr.add_lit];exact hr j u hu) h1
theorem range_new (w:World) (cs:List Value) (t:TypeId):(w.alloc (.cells cs.toArray t)).rangeAt w.heap.size 0 cs:=fun j v hv=>by
 rw[Nat.zero_add,World.cell?_alloc_new]
 simpa using hv
theorem OwnT.take {α:Type} [Rep α] {w:World} {B:Nat} {T:Nat→Prop} {g off n cap:Nat} {l:List α} (h:OwnT w B T (.slice (some ⟨g,off,none⟩) n cap) l) {i:Nat} (hi:i≤n):OwnT w B T (.slice (some ⟨g,off,none⟩) i cap) (l.take i):=by
 obtain⟨xs,hw,hx⟩:=h
 rcases hw.2 with ⟨e,_⟩|⟨g',off',cap',e,hB,hlt,hn',hc,ht',hr⟩
 ·cases e
 ·injection e with e1 e2 e3
  injection e1 with e1
  injection e1 with e4 e5 e6
  subst e4 e5 e3
  have hl:(l.take i).length=i:=by rw[List.length_take];omega
  have e:l=l.take i++l.drop i:=(List.take_append_drop i l).symm
  rw[e] at hx
  obtain⟨p,q,rfl,hp,hq⟩:=hx.split
  refine⟨p,⟨hp.len,.inr ⟨g,off,cap,by rw[hl],hB,hlt,by omega,hc,ht',fun j v hv=>hr j v ?_⟩⟩,hp.keep fun b hb _=>⟨⟨hb.1,hb.2⟩,rfl⟩⟩
  rw[List.getElem?_append_left ((List.getElem?_eq_some_iff.1 hv).1)]
  exact hv
theorem OwnT.rest {α:Type} [Rep α] {w:World} {B:Nat} {T:Nat→Prop} {g off n cap:Nat} {l:List α} (h:OwnT w B T (.slice (some ⟨g,off,none⟩) n cap) l) {tx e':TypeId} (hk:P.underlying tx=some (.slice e')) {j:Nat} (hj:j≤n) (c:Nat) :
  ∃ news,Chunks w (Off w (.slice (some ⟨g,off,none⟩) n cap) T) news (l.drop j)∧∀ a:Addr,(j<n→a=⟨g,off+j*Rep.sz α,none⟩)→Src P (Rep.sz α) tx (.slice (some a) (n-j) c) (l.drop j).length news w:=by
 obtain⟨xs,hw,hx⟩:=h
 rcases hw.2 with ⟨e,_⟩|⟨g',off',cap',e,hB,hlt,hn',hc,ht',hr⟩
 ·cases e
 ·injection e with e1 e2 e3
  injection e1 with e1
  injection e1 with e4 e5 e6
  subst e4 e5 e3
  have e:l=l.take j++l.drop j:=(List.take_append_drop j l).symm
  rw[e] at hx
  obtain⟨p,q,rfl,hp,hq⟩:=hx.split
  have hpl:=hp.len
  rw[List.length_take,Nat.min_eq_left (by omega)] at hpl
  have hdl:(l.drop j).length=n-j:=by rw[List.length_drop];omega
  refine⟨q,hq,fun a ha=>?_⟩
  rw[hdl]
  refine Src.ofSlice w hk a (n-j) c q (by rw[hq.len,hdl]) (fun k u hu=>?_) hq.one
  have hk':k<q.length:=(List.getElem?_eq_some_iff.1 hu).1
  have hjn:j<n:=by
   rcases Nat.lt_or_ge j n with h|h
   ·exact h
   ·have:=hq.len;rw[hdl,Nat.sub_eq_zero_of_le h,Nat.zero_mul] at this;omega
  rw[ha hjn,Addr.add_lit,Nat.add_assoc]
  refine hr _ u ?_
  rw[← hpl,List.getElem?_append_right (by omega),Nat.add_sub_cancel_left]
  exact hu
theorem OwnT.there {α:Type} [Rep α] {w:World} {B:Nat} {T:Nat→Prop} {g off n cap:Nat} {l:List α} (h:OwnT w B T (.slice (some ⟨g,off,none⟩) n cap) l):w.there g off (cap*Rep.sz α)∧B≤g∧g<w.heap.size∧n≤cap∧n=l.length:=by
 obtain⟨xs,hw,hx⟩:=h
 rcases hw.2 with ⟨e,_⟩|⟨g',off',cap',e,hB,hlt,hn',hc,ht',hr⟩
 ·cases e
 ·injection e with e1 e2 e3
  injection e1 with e1
  injection e1 with e4 e5 e6
  subst e4 e5 e3
  exact⟨ht',hB,hlt,by omega,e2⟩
end
end Go.Proofs.YtacfbiegbdlldaaGreatDoor
