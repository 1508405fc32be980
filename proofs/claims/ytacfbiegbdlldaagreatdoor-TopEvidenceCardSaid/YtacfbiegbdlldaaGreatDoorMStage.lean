/- A region that draws its order: what is read holds its value till the first store. Of no program. Conditions: none. -/
import Derived.Test.YtacfbiegbdlldaaGreatDoorMRep
namespace Go.Proofs.YtacfbiegbdlldaaGreatDoor
open Go Go.RowKit Go.Deep
set_option linter.unusedVariables false
section
variable {P:Program} {ops:Array Oper} {Q:Exit→Act→World→Prop} {md:Region.Mode} {S:World→Prop} {k:Nat}
def wpStage (P:Program) (md:Region.Mode) (ops:Array Oper) (Q:Exit→Act→World→Prop) (S:World→Prop) (k:Nat):Nat→Array Bool→Act→World→Prop
 |0,listed,a,w=>Region.ready md ops listed=[]∧Q .normal a w
 |fuel+1,listed,a,w =>
  (Region.ready md ops listed=[]→Q .normal a w) ∧
  ∀ i ∈ Region.ready md ops listed,wpOp P ops Q i (fun a' w'=>((listed.setIfInBounds i true).getD k true=false→S w')∧wpStage P md ops Q S k fuel (listed.setIfInBounds i true) a' w') a w
/-! ### The moves -/
def StageOne (P:Program) (md:Region.Mode) (ops:Array Oper) (Q:Exit→Act→World→Prop) (S:World→Prop) (k fuel:Nat) (listed:Array Bool) (a:Act) (w:World) (rs:List Nat):Prop :=
 ∀ i ∈ rs,wpOp P ops Q i (fun a' w'=>((listed.setIfInBounds i true).getD k true=false→S w')∧wpStage P md ops Q S k fuel (listed.setIfInBounds i true) a' w') a w
theorem StageOne.nil {fuel:Nat} {listed:Array Bool} {a:Act} {w:World}:StageOne P md ops Q S k fuel listed a w []:=fun _ h=>by cases h
theorem StageOne.cons {fuel:Nat} {listed:Array Bool} {a:Act} {w:World} {i:Nat} {o:Oper} {rs:List Nat} (ho:ops[i]?=some o) (hg:o.guard=none)
  (h:∀ K':Act→World→Prop,Shut (∀ a w,S w→(S w→wpStage P md ops Q S k fuel (listed.setIfInBounds i true) a w)→K' a w)→Oper.wp P o a w K' Q)
  (hs:StageOne P md ops Q S k fuel listed a w rs):StageOne P md ops Q S k fuel listed a w (i :: rs):=fun j hj=>by
 rcases List.mem_cons.1 hj with rfl|hj
 ·refine wpOp_step ho fun K' hK=>?_
  rw[if_pos (by simp [Region.wanted,hg])]
  exact h K' (fun a w hS hW=>hK a w ⟨fun _=>hS,hW hS⟩)
 ·exact hs j hj
theorem Src.single {sz:Nat} {w:World} {tx e':TypeId} (hk:P.underlying tx=some (.slice e')) {b:Nat} {cs:List Value} (hl:cs.length=sz) (hr:w.rangeAt b 0 cs) (h1:∀ u ∈ cs,u.oneCell'=true):Src P sz tx (.slice (some ⟨b,0,none⟩) 1 1) 1 cs w :=
 Src.ofSlice w hk _ 1 1 cs (by omega) (fun j u hu=>by rw[Addr.add_lit];exact hr j u hu) h1
theorem range_new (w:World) (cs:List Value) (t:TypeId):(w.alloc (.cells cs.toArray t)).rangeAt w.heap.size 0 cs:=fun j v hv=>by
 rw[Nat.zero_add,World.cell?_alloc_new]
 simpa using hv
theorem OwnT.take {α:Type} [Rep α] {w:World} {B:Nat} {T:Nat→Prop} {g off n cap:Nat} {l:List α} (h:OwnT w B T (.slice (some ⟨g,off,none⟩) n cap) l) {i:Nat} (hi:i≤n):OwnT w B T (.slice (some ⟨g,off,none⟩) i cap) (l.take i):=by
 obtain⟨xs,hw,hx⟩:=h
 rcases hw.2 with ⟨e,_⟩|⟨g',off',cap',e,hB,hlt,hn',hc,ht',hr⟩
 ·cases e
 ·injection e with e1 e2 e3
  injection e1 with e1
  injection e1 with e4 e5 e6
  subst e4 e5 e3
  have hl:(l.take i).length=i:=by rw[List.length_take];omega
  have e:l=l.take i++l.drop i:=(List.take_append_drop i l).symm
  rw[e] at hx
  obtain⟨p,q,rfl,hp,hq⟩:=hx.split
  refine⟨p,⟨hp.len,.inr ⟨g,off,cap,by rw[hl],hB,hlt,by omega,hc,ht',fun j v hv=>hr j v ?_⟩⟩,hp.keep fun b hb _=>⟨⟨hb.1,hb.2⟩,rfl⟩⟩
  rw[List.getElem?_append_left ((List.getElem?_eq_some_iff.1 hv).1)]
  exact hv
theorem OwnT.rest {α:Type} [Rep α] {w:World} {B:Nat} {T:Nat→Prop} {g off n cap:Nat} {l:List α} (h:OwnT w B T (.slice (some ⟨g,off,none⟩) n cap) l) {tx e':TypeId} (hk:P.underlying tx=some (.slice e')) {j:Nat} (hj:j≤n) (c:Nat) :
  ∃ news,Chunks w (Off w (.slice (some ⟨g,off,none⟩) n cap) T) news (l.drop j)∧∀ a:Addr,(j<n→a=⟨g,off+j*Rep.sz α,none⟩)→Src P (Rep.sz α) tx (.slice (some a) (n-j) c) (l.drop j).length news w:=by
 obtain⟨xs,hw,hx⟩:=h
 rcases hw.2 with ⟨e,_⟩|⟨g',off',cap',e,hB,hlt,hn',hc,ht',hr⟩
 ·cases e
 ·injection e with e1 e2 e3
  injection e1 with e1
  injection e1 with e4 e5 e6
  subst e4 e5 e3
  have e:l=l.take j++l.drop j:=(List.take_append_drop j l).symm
  rw[e] at hx
  obtain⟨p,q,rfl,hp,hq⟩:=hx.split
  have hpl:=hp.len
  rw[List.length_take,Nat.min_eq_left (by omega)] at hpl
  have hdl:(l.drop j).length=n-j:=by rw[List.length_drop];omega
  refine⟨q,hq,fun a ha=>?_⟩
  rw[hdl]
  refine Src.ofSlice w hk a (n-j) c q (by rw[hq.len,hdl]) (fun k u hu=>?_) hq.one
  have hk':k<q.length:=(List.getElem?_eq_some_iff.1 hu).1
  have hjn:j<n:=by
   rcases Nat.lt_or_ge j n with h|h
   ·exact h
   ·have:=hq.len;rw[hdl,Nat.sub_eq_zero_of_le h,Nat.zero_mul] at this;omega
  rw[ha hjn,Addr.add_lit,Nat.add_assoc]
  refine hr _ u ?_
  rw[← hpl,List.getElem?_append_right (by omega),Nat.add_sub_cancel_left]
  exact hu
theorem OwnT.there {α:Type} [Rep α] {w:World} {B:Nat} {T:Nat→Prop} {g off n cap:Nat} {l:List α} (h:OwnT w B T (.slice (some ⟨g,off,none⟩) n cap) l):w.there g off (cap*Rep.sz α)∧B≤g∧g<w.heap.size∧n≤cap∧n=l.length:=by
 obtain⟨xs,hw,hx⟩:=h
 rcases hw.2 with ⟨e,_⟩|⟨g',off',cap',e,hB,hlt,hn',hc,ht',hr⟩
 ·cases e
 ·injection e with e1 e2 e3
  injection e1 with e1
  injection e1 with e4 e5 e6
  subst e4 e5 e3
  exact⟨ht',hB,hlt,by omega,e2⟩
end
end Go.Proofs.YtacfbiegbdlldaaGreatDoor
