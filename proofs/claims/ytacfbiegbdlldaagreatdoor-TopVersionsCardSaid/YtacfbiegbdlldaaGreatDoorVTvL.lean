/- Answers with faults are made: the memory. -/
import Derived.Test.YtacfbiegbdlldaaGreatDoorVPnB
import Derived.Test.YtacfbiegbdlldaaGreatDoorVTpR
section
namespace Go.Proofs.YtacfbiegbdlldaaGreatDoor.Sim
open Go Go.RowKit Go.Deep
set_option maxRecDepth 100000
set_option maxHeartbeats 4000000
set_option linter.unusedVariables false
set_option linter.unusedSimpArgs false
attribute [local irreducible] Go Mean
end Go.Proofs.YtacfbiegbdlldaaGreatDoor.Sim
end
section
namespace Go.Proofs.YtacfbiegbdlldaaGreatDoor.Sim
open Go Go.RowKit Go.Deep
set_option maxRecDepth 100000
set_option maxHeartbeats 4000000
set_option linter.unusedVariables false
set_option linter.unusedSimpArgs false
attribute [local irreducible] Go Mean
structure PplOK (l:List (Int × Int)):Prop where
 len:l.length≤16
 id:∀ j,j<l.length→(l.getD j (0,0)).1=(j:Int)+1
 lo:∀ j,j<l.length→1≤(l.getD j (0,0)).2∧(l.getD j (0,0)).2<2147483647
 up:∀ i j,i<j→j<l.length→(l.getD i (0,0)).2<(l.getD j (0,0)).2
end Go.Proofs.YtacfbiegbdlldaaGreatDoor.Sim
end
section
namespace Go.Proofs.YtacfbiegbdlldaaGreatDoor.Sim
open Go Go.RowKit Go.Deep
set_option maxRecDepth 100000
set_option maxHeartbeats 4000000
set_option linter.unusedVariables false
set_option linter.unusedSimpArgs false
attribute [local irreducible] Go Mean
end Go.Proofs.YtacfbiegbdlldaaGreatDoor.Sim
end
section
namespace Go.Proofs.YtacfbiegbdlldaaGreatDoor.Sim
open Go Go.RowKit Go.Deep
set_option maxRecDepth 100000
set_option maxHeartbeats 4000000
set_option linter.unusedVariables false
set_option linter.unusedSimpArgs false
attribute [local irreducible] Go Mean
end Go.Proofs.YtacfbiegbdlldaaGreatDoor.Sim
end
section
namespace Go.Proofs.YtacfbiegbdlldaaGreatDoor.Sim
open Go Go.RowKit Go.Deep
set_option maxRecDepth 100000
set_option maxHeartbeats 4000000
set_option linter.unusedVariables false
set_option linter.unusedSimpArgs false
attribute [local irreducible] Go Mean
end Go.Proofs.YtacfbiegbdlldaaGreatDoor.Sim
end
section
namespace Go.Proofs.YtacfbiegbdlldaaGreatDoor.Sim
open Go Go.RowKit Go.Deep
set_option maxRecDepth 100000
set_option maxHeartbeats 4000000
set_option linter.unusedVariables false
set_option linter.unusedSimpArgs false
attribute [local irreducible] Go Mean
def ansCell (b:Bool) (j:Nat):List V:=if b then [B true,.og (j+800000) 0] else [B false,.nl 1]
def ansC:Nat→List Bool→List V
 |_,[]=>[]
 |i,b :: r=>ansCell b i++ansC (i+1) r
theorem ansCell_len {b:Bool} {j:Nat}:(ansCell b j).length=2:=by cases b <;> rfl
theorem ansC_len:∀ {r:List Bool} {i:Nat},(ansC i r).length=r.length*2
 |[],_=>rfl
 |b :: r,i=>by rw[ansC,List.length_append,ansCell_len,ansC_len,List.length_cons];omega
theorem ansC_snoc {b:Bool}:∀ {r:List Bool} {i:Nat},ansC i (r++[b])=ansC i r++ansCell b (i+r.length)
 |[],i=>by simp [ansC]
 |c :: r,i=>by
  rw[List.cons_append,ansC,ansC_snoc,ansC,List.append_assoc,List.length_cons,show i+1+r.length=i+(r.length+1) by omega]
theorem ansC_get:∀ {r:List Bool} {i j:Nat},j<r.length→(ansC i r).getD (j*2+1) .un=if r.getD j true then .og (i+j+800000) 0 else .nl 1
 |[],_,j,h=>by simp at h
 |b :: r,i,0,h=>by cases b <;> rfl
 |b :: r,i,j+1,h=>by
  rw[ansC,List.getD_eq_getElem?_getD,List.getElem?_append_right (by rw[ansCell_len];omega),ansCell_len,show (j+1)*2+1-2=j*2+1 by omega,← List.getD_eq_getElem?_getD,ansC_get (by simpa using h),List.getD_cons_succ,show i+1+j=i+(j+1) by omega]
theorem ansC_off:∀ {r:List Bool} {i j:Nat},j<r.length→(ansC i r).take (j*2)++B false :: .nl 1 :: (ansC i r).drop (j*2+2)=ansC i (r.set j false)
 |[],_,j,h=>by simp at h
 |b :: r,i,0,h=>by cases b <;> rfl
 |b :: r,i,j+1,h=>by
  have ih:=ansC_off (r:=r) (i:=i+1) (j:=j) (by simpa using h)
  have e:∃ x y,ansCell b i=[x,y]:=by cases b <;> exact⟨_,_,rfl⟩
  obtain⟨x,y,e⟩:=e
  rw[ansC,e,List.set_cons_succ,ansC,e,← ih,show (j+1)*2=j*2+2 by omega]
  simp only[List.cons_append,List.nil_append,List.take_succ_cons,List.drop_succ_cons]
def aMem (l:List Int) (k:Nat) (p:Int) (v:Nat) (kn:List Bool) (rows:List (List Int)) (ob:Option O):M:=fun i=>if i=900000 then some (.box 0 [.d (dInts l),I k]) else if i=6 then some (.box 0 [I p]) else if i=33 then some (.vec v 2 (ansC 0 kn)) else if i=37 then ob else if 800000≤i∧i<800000+rows.length then some (.arr 0 1 true ((rows.getD (i-800000) []).map eI)) else none
section
variable {l:List Int} {k:Nat} {p:Int} {v:Nat} {kn:List Bool} {rows:List (List Int)} {ob:Option O}
theorem aMem_d:aMem l k p v kn rows ob 900000=some (.box 0 [.d (dInts l),I k]):=rfl
theorem aMem_6:aMem l k p v kn rows ob 6=some (.box 0 [I p]):=rfl
theorem aMem_33:aMem l k p v kn rows ob 33=some (.vec v 2 (ansC 0 kn)):=rfl
theorem aMem_37:aMem l k p v kn rows ob 37=ob:=rfl
theorem aMem_up:aMem l k p v kn rows ob=up (aMem l k p v kn rows ob) 900000 (some (.box 0 [.d (dInts l),I k])):=by
 funext i
 rw[up_at]
 split
 ·rename_i e;rw[e];rfl
 ·rfl
theorem aMem_at {j:Nat} (h:j<rows.length) (h2:rows.length≤1000):aMem l k p v kn rows ob (j+800000)=some (.arr 0 1 true ((rows.getD j []).map eI)):=by
 unfold aMem
 rw[if_neg (by omega),if_neg (by omega),if_neg (by omega),if_neg (by omega),if_pos (by omega),Nat.add_sub_cancel]
theorem aMem_none {i:Nat} (h:i<800000) (h1:i ≠ 6) (h2:i ≠ 33) (h3:i ≠ 37):aMem l k p v kn rows ob i=none:=by
 unfold aMem
 rw[if_neg (by omega),if_neg h1,if_neg h2,if_neg h3,if_neg (by omega)]
theorem aMem_some {i:Nat} {o:O} (h:aMem l k p v kn rows ob i=some o):(i=900000∧o=.box 0 [.d (dInts l),I k])∨(i=6∧o=.box 0 [I p])∨(i=33∧o=.vec v 2 (ansC 0 kn))∨(i=37∧ob=some o)∨∃ j,j<rows.length∧i=j+800000∧o=.arr 0 1 true ((rows.getD j []).map eI):=by
 unfold aMem at h
 split at h
 ·cases h;exact .inl ⟨by assumption,rfl⟩
 split at h
 ·cases h;exact .inr (.inl ⟨by assumption,rfl⟩)
 split at h
 ·cases h;exact .inr (.inr (.inl ⟨by assumption,rfl⟩))
 split at h
 ·exact .inr (.inr (.inr (.inl ⟨by assumption,h⟩)))
 split at h
 ·rename_i hc
  cases h
  exact .inr (.inr (.inr (.inr ⟨i-800000,by omega,by omega,rfl⟩)))
 ·cases h
theorem Ws_append {m m0:M}:∀ {a b c d:List V},Ws m m0 [] a b→Ws m m0 [] c d→Ws m m0 [] (a++c) (b++d)
 |[],[],_,_,_,h=>h
 |x :: a,y :: b,c,d,h,h2=>by
  simp only[List.cons_append,Ws] at h ⊢
  exact⟨h.1,Ws_append h.2 h2⟩
 |[],y :: b,_,_,h,_=>by simp only[Ws] at h
 |x :: a,[],_,_,h,_=>by simp only[Ws] at h
theorem W_ansC {m m0:M}:∀ {r:List Bool} {i:Nat},(∀ j,j<r.length→(m0 (i+j+800000)).isSome=true)→Ws m m0 [] (ansC i r) (ansC i r)
 |[],_,_=>by simp only[ansC,Ws]
 |b :: r,i,h=>by
  rw[ansC]
  refine Ws_append ?_ (W_ansC fun j hj=>?_)
  ·have h0:=h 0 (by simp)
   cases b with
   |true=>simp only[ansCell,if_true,Ws,W,B];exact⟨trivial,⟨trivial,trivial,by simp,h0⟩,trivial⟩
   |false=>simp only[ansCell,Bool.false_eq_true,if_false,Ws,W,B];exact⟨trivial,trivial,trivial⟩
  ·have:=h (j+1) (by simp only[List.length_cons];omega)
   rw[show i+1+j=i+(j+1) by omega];exact this
variable {cx:Cx} {T:Nat→V} {m:M}
theorem wk_aMem (T0:List (Nat × V)) (hn:rows.length≤1000) (hkl:kn.length=rows.length) (hd:m 900000=some (.box 0 [.d (dInts l),I k])) (h6:m 6=some (.box 0 [I p])) (h33:m 33=some (.vec v 2 (ansC 0 kn))) (h37:∀ o,ob=some o→(∃ v k mu l,o=.arr v k mu l)∧m 37=some o) (hrow:∀ j,j<rows.length→m (j+800000)=some (.arr 0 1 true ((rows.getD j []).map eI)))
  (hT:TW m (aMem l k p v kn rows ob) [] T T0) (hP:∀ i o,cx.m0 i=some o→i=900000):Wk cx ⟨T,m⟩ ⟨tl T0,aMem l k p v kn rows ob⟩:=by
 refine Wk.weaken [] _ _ (TW_ok hT) (fun i o hi=>?_) (fun i hi=>by cases hi) (fun i o hi=>?_)
 ·rcases aMem_some hi with ⟨rfl,rfl⟩|⟨rfl,rfl⟩|⟨rfl,rfl⟩|⟨rfl,h1⟩|⟨j,hj,rfl,rfl⟩
  ·refine⟨rfl,_,hd,?_⟩
   simp only[Ws]
   exact⟨W_d,W_I,trivial⟩
  ·refine⟨rfl,_,h6,?_⟩
   simp only[Ws]
   exact⟨W_I,trivial⟩
  ·exact⟨rfl,_,h33,W_ansC fun j hj=>by rw[Nat.zero_add,aMem_at (by omega) hn];rfl⟩
  ·obtain⟨⟨v',k',mu',l',rfl⟩,h2⟩:=h37 o h1
   simp only[MO]
   rw[if_neg (by simp)]
   exact h2
  ·simp only[MO]
   rw[if_neg (by simp)]
   exact hrow j hj
 ·obtain rfl:=hP i o hi
  exact⟨rfl,rfl⟩
end
theorem rns_ansC {i j:Nat}:∀ {r:List Bool} {i0:Nat},i0+r.length≤i→V.rns (swp 30 (i+800000)) (fun _=>0) (ansC i0 r)=ansC i0 r
 |[],_,_=>rfl
 |b :: r,i0,h=>by
  simp only[List.length_cons] at h
  have ih:=rns_ansC (i:=i) (j:=j) (r:=r) (i0:=i0+1) (by omega)
  rw[rns_map] at ih ⊢
  rw[ansC,List.map_append,ih]
  cases b with
  |true=>simp only[ansCell,if_true,List.map_cons,List.map_nil,B,V.rn,Nat.add_zero];rw[swp_no (by omega) (by omega)]
  |false=>rfl
theorem rns_more {i:Nat}:V.rns (swp 30 (i+800000)) (fun _=>0) (ansC 0 (List.replicate i true)++[B true,.og 30 0])=ansC 0 (List.replicate (i+1) true):=by
 have h:=rns_ansC (i:=i) (j:=0) (r:=List.replicate i true) (i0:=0) (by simp)
 rw[rns_map] at h ⊢
 rw[List.map_append,h,List.replicate_succ',ansC_snoc,List.length_replicate,Nat.zero_add]
 simp only[ansCell,if_true,List.map_cons,List.map_nil,B,V.rn,Nat.add_zero]
 rw[swp_l]
theorem wk_more {cx:Cx} {T:Nat→V} {m:M} {l:List Int} {k:Nat} {p:Int} {i:Nat} {H:List (List Int)} (T0:List (Nat × V)) (hn:H.length≤1000) (hi:i<H.length) (hd:m 900000=some (.box 0 [.d (dInts l),I k])) (h6:m 6=some (.box 0 [I p])) (h33:m 33=some (.vec i 2 (ansC 0 (List.replicate i true)++[B true,.og 30 0]))) (h30:m 30=some (.arr 0 1 true ((H.getD i []).map eI))) (hrow:∀ j,j<i→m (j+800000)=some (.arr 0 1 true ((H.getD j []).map eI))) (hP:∀ i o,cx.m0 i=some o→i=900000)
  (hT:TW (fun q=>(m (swp 30 (i+800000) q)).map (O.rn (swp 30 (i+800000)) (fun _=>0) 0)) (aMem l k p i (List.replicate (i+1) true) (H.take (i+1)) none) [] (fun t=>(T t).rn (swp 30 (i+800000)) fun _=>0) T0):Wk cx ⟨T,m⟩ ⟨tl T0,aMem l k p i (List.replicate (i+1) true) (H.take (i+1)) none⟩:=by
 have hs:∀ q,q<800000→q ≠ 30→swp 30 (i+800000) q=q:=fun q h h2=>swp_no h2 (by omega)
 have hs9:swp 30 (i+800000) 900000=900000:=swp_no (by omega) (by omega)
 have htl:(H.take (i+1)).length=i+1:=by rw[List.length_take];omega
 have htg:∀ j,j<i+1→(H.take (i+1)).getD j []=H.getD j []:=fun j hj=>by
  rw[List.getD_eq_getElem?_getD,List.getElem?_take,if_pos hj,← List.getD_eq_getElem?_getD]
 refine Wk.trans (Wk.rn (swp 30 (i+800000)) (fun _=>0) (swp_swp _ _) fun j o hj=>?_) (wk_aMem T0 (by omega) (by rw[htl];simp) ?_ ?_ ?_ (fun o ho=>by cases ho) (fun j hj=>?_) hT hP)
 ·rw[hP j o hj];exact .inl ⟨hs9,rfl⟩
 ·simp only[St.rn,hs9,hd,Option.map_some,O.rn,Nat.add_zero];rfl
 ·simp only[St.rn,hs 6 (by omega) (by omega),h6,Option.map_some,O.rn,Nat.add_zero];rfl
 ·simp only[St.rn,hs 33 (by omega) (by omega),h33,Option.map_some,O.rn,rns_more,Nat.add_zero]
 ·rw[htl] at hj
  rw[htg j hj]
  by_cases e:j=i
  ·subst e
   simp only[St.rn,swp_r,h30,Option.map_some,O.rn,Nat.add_zero]
  ·simp only[St.rn,swp_no (i:=30) (j:=i+800000) (k:=j+800000) (by omega) (by omega),hrow j (by omega),Option.map_some,O.rn,Nat.add_zero]
def eT (b:Bool):List D:=[.at (.bool b)]
theorem dcells_append {m:M}:∀ {a b:List V} {x y:List D},dcells m a=some x→dcells m b=some y→dcells m (a++b)=some (x++y)
 |[],b,x,y,h1,h2=>by simp only[dcells] at h1;cases h1;exact h2
 |c :: a,b,x,y,h1,h2=>by
  simp only[dcells] at h1
  cases hc:dcell m c with
  |none=>rw[hc] at h1;cases h1
  |some z =>
   rw[hc] at h1
   cases ha:dcells m a with
   |none=>rw[ha] at h1;cases h1
   |some zs =>
    rw[ha] at h1
    cases h1
    exact dcells_cons hc (dcells_append ha h2)
theorem dcells_ans {l:List Int} {k:Nat} {p:Int} {v:Nat} {kn:List Bool} {rows:List (List Int)} {ob:Option O} (hn:rows.length≤1000) (f:Nat→Nat):∀ {r:List Bool} {i:Nat},(∀ j,j<r.length→r.getD j true=kn.getD (i+j) true)→i+r.length≤rows.length →
  dcells (aMem l k p v kn rows ob) (ansC i r)=some (((List.range r.length).map fun j=>eA (ansAt rows kn (i+j))).flatten)
 |[],_,_,_=>rfl
 |b :: r,i,h,hl=>by
  simp only[List.length_cons] at hl
  have ih:=dcells_ans (l:=l) (k:=k) (p:=p) (v:=v) (kn:=kn) (rows:=rows) (ob:=ob) hn f (r:=r) (i:=i+1) (fun j hj=>by
   have:=h (j+1) (by simp only[List.length_cons];omega)
   rw[List.getD_cons_succ] at this
   rw[this,show i+(j+1)=i+1+j by omega]) (by omega)
  rw[ansC,List.length_cons,List.range_succ_eq_map,List.map_cons,List.flatten_cons,List.map_map]
  have e:(List.range r.length).map ((fun j=>eA (ansAt rows kn (i+j))) ∘ Nat.succ)=(List.range r.length).map fun j=>eA (ansAt rows kn (i+1+j)):=List.map_congr_left fun j _=>by
   simp only[Function.comp]
   rw[show i+Nat.succ j=i+1+j by omega]
  rw[e]
  refine dcells_append ?_ ih
  have h0:=h 0 (by simp)
  rw[List.getD_cons_zero] at h0
  simp only[Nat.add_zero] at h0 ⊢
  subst h0
  unfold ansAt
  cases hk:kn.getD i true with
  |true =>
   simp only[ansCell,if_true]
   exact dcells_cons rfl (dcells_cons (dcell_og (aMem_at (by omega) hn)) rfl)
  |false=>rfl
theorem ansC_no {q:Nat} (hq:q<800000∨810000≤q):∀ {r:List Bool} {i:Nat},i+r.length≤1000→(ansC i r).all (V.notOg q)=true
 |[],_,_=>rfl
 |b :: r,i,h=>by
  simp only[List.length_cons] at h
  rw[ansC,List.all_append,ansC_no hq (by omega)]
  cases b with
  |true =>
   have:V.notOg q (.og (i+800000) 0)=true:=notOg_ne (by omega)
   simp [ansCell,B,V.notOg] at this ⊢
   exact this
  |false=>rfl
theorem wk_ans {cx:Cx} {T:Nat→V} {l:List Int} {k:Nat} {p:Int} {v:Nat} {kn bads:List Bool} {rows:List (List Int)} (T0:List (Nat × V)) (hn:rows.length≤1000) (hkl:kn.length=rows.length) (hP:∀ i o,cx.m0 i=some o→i=900000)
  (hT:TW (up (ups (aMem l k p v kn rows (some (.arr 0 1 true (bads.map eT)))) (frz (aMem l k p v kn rows (some (.arr 0 1 true (bads.map eT)))) (ansC 0 kn))) 33 (some (.arr (v+1) 2 false ((ansL rows kn).map eA)))) (ups M0 [(37,.arr 0 1 true (bads.map eT)),(900000,.box 0 [.d (dInts l),I k])]) [] (fun t=>su 33 v (dAns (ansL rows kn)) (T t)) T0) :
  Wk cx ⟨T,aMem l k p v kn rows (some (.arr 0 1 true (bads.map eT)))⟩ ⟨tl T0,ups M0 [(37,.arr 0 1 true (bads.map eT)),(900000,.box 0 [.d (dInts l),I k])]⟩:=by
 have h33:=aMem_33 (l:=l) (k:=k) (p:=p) (v:=v) (kn:=kn) (rows:=rows) (ob:=some (.arr 0 1 true (bads.map eT)))
 have h37:=aMem_37 (l:=l) (k:=k) (p:=p) (v:=v) (kn:=kn) (rows:=rows) (ob:=some (.arr 0 1 true (bads.map eT)))
 have h9:=aMem_d (l:=l) (k:=k) (p:=p) (v:=v) (kn:=kn) (rows:=rows) (ob:=some (.arr 0 1 true (bads.map eT)))
 have hdc:=dcells_ans (l:=l) (k:=k) (p:=p) (v:=v) (kn:=kn) (rows:=rows) (ob:=some (.arr 0 1 true (bads.map eT))) hn (fun j=>j) (r:=kn) (i:=0) (fun j _=>by rw[Nat.zero_add]) (by omega)
 have e:((List.range kn.length).map fun j=>eA (ansAt rows kn (0+j)))=(ansL rows kn).map eA:=by
  unfold ansL
  rw[List.map_map,hkl]
  exact List.map_congr_left fun j _=>by rw[Nat.zero_add];rfl
 rw[e] at hdc
 have n33:=ansC_no (q:=33) (.inl (by omega)) (r:=kn) (i:=0) (by omega)
 have n37:=ansC_no (q:=37) (.inl (by omega)) (r:=kn) (i:=0) (by omega)
 have n9:=ansC_no (q:=900000) (.inr (by omega)) (r:=kn) (i:=0) (by omega)
 generalize aMem l k p v kn rows (some (.arr 0 1 true (bads.map eT)))=mm at *
 generalize ansC 0 kn=cc at *
 have hr2:∀ r ∈ (ansL rows kn).map eA,r.length=2:=fun r hr=>by
  obtain⟨a,_,rfl⟩:=List.mem_map.1 hr
  rfl
 have h:=Wk.sealT (cx:=cx) (s:=⟨T,mm⟩) 33 (fun t=>su 33 v (dAns (ansL rows kn)) (T t)) h33 hdc hr2 (by omega) ((ups_frz_not 33 cc mm n33).trans h33) (fun t=>rfl)
 refine h.trans (Wk.weaken [] _ _ (TW_ok hT) (fun i o hi=>?_) (fun i hi=>by cases hi) (fun i o hi=>?_))
 ·simp only[ups,up_at] at hi
  split at hi
  ·rename_i e
   subst e
   cases hi
   refine⟨rfl,[.d (dInts l),I k],?_,?_⟩
   ·simp only[up_at]
    rw[if_neg (by omega),ups_frz_not 900000 cc mm n9]
    exact h9
   ·simp only[Ws]
    exact⟨W_d,W_I,trivial⟩
  split at hi
  ·rename_i e
   subst e
   cases hi
   simp only[MO,up_at]
   rw[if_neg (by simp),if_neg (by omega),ups_frz_not 37 cc mm n37]
   exact h37
  ·cases hi
 ·obtain rfl:=hP i o hi
  exact⟨rfl,rfl⟩
end Go.Proofs.YtacfbiegbdlldaaGreatDoor.Sim
end
