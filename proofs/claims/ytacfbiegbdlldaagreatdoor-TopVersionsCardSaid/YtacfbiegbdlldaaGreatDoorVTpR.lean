/- The solver's matrix is built and reduced. -/
import Derived.Test.YtacfbiegbdlldaaGreatDoorVSimLc
import Derived.Test.YtacfbiegbdlldaaGreatDoorVSimSl
import Derived.Test.YtacfbiegbdlldaaGreatDoorVTpL
section
namespace Go.Proofs.YtacfbiegbdlldaaGreatDoor.Sim
open Go Go.RowKit Go.Deep
set_option linter.unusedVariables false
section
variable {m:M} {hd:H} {w:World} {S X:Nat→Prop} {B:Nat}
theorem cells_split:∀ {c l:List D} {vs:List Value},Cells w S (c++l) vs→∃ a r,vs=a++r∧Cells w S c a∧Cells w S l r
 |[],l,vs,h=>⟨[],vs,rfl,by simp [Cells],h⟩
 |d :: c,l,vs,h=>by
  simp only[List.cons_append,Cells] at h ⊢
  obtain⟨x,r,rfl,h1,h2⟩:=h
  obtain⟨a,r',rfl,h3,h4⟩:=cells_split h2
  exact⟨x :: a,r',rfl,⟨x,a,rfl,h1,h3⟩,h4⟩
theorem rows_flat {k:Nat}:∀ {rs:List (List D)} {vs:List Value},(∀ r ∈ rs,r.length=k)→Cells w S rs.flatten vs→Rows w S k rs vs
 |[],vs,_,h=>by simpa [Rows,Cells] using h
 |r :: rs,vs,hl,h=>by
  rw[List.flatten_cons] at h
  obtain⟨a,b,rfl,h1,h2⟩:=cells_split h
  simp only[Rows]
  exact⟨a,b,rfl,hl r (by simp),h1,rows_flat (fun x hx=>hl x (by simp [hx])) h2⟩
theorem flat_len {k:Nat}:∀ {rs:List (List D)},(∀ r ∈ rs,r.length=k)→rs.flatten.length=rs.length*k
 |[],_=>by simp
 |r :: rs,h=>by rw[List.flatten_cons,List.length_append,flat_len fun x hx=>h x (by simp [hx]),h r (by simp),List.length_cons,Nat.add_mul,Nat.one_mul];omega
theorem out_sealV (h:Mem m hd w S X B) {i v k:Nat} {cs:List V} {rs:List (List D)} {vs:List Value} (hi:m i=some (.vec v k cs)) (hr:Rows w S k rs vs) (hcl:cs.length=rs.length*k) (hk:0<k) (ha:ArrV w B X S k (hd i) cs.length vs) :
  ∃ S',Out X B m hd w S (up m i (some (.arr (v+1) k false rs))) hd w S'∧(D.sl k rs).is w S' (hd i):=by
 let S':Nat→Prop:=fun x=>S x∨blk (hd i)=some x
 have hS':∀ x,S' x→x<w.heap.size:=fun x hx=>hx.elim (h.lt x) fun e=>(h.blk hi rfl e).1
 have hD:(D.sl k rs).is w S' (hd i):=by
  have hrow:=Rows.keep (w':=w) (S':=S') (fun x hx _=>⟨.inl hx,rfl⟩) _ _ _ hr
  simp only[D.is]
  rcases ha with ⟨a,e,hn⟩|⟨g,off,cap,nn,e,h1,h2,h3,h4,h5,h6,h7,h8,h9⟩
  ·obtain rfl:rs=[]:=List.length_eq_zero_iff.1 (by
    rcases Nat.eq_zero_or_pos rs.length with h0|h0
    ·exact h0
    ·have:=Nat.mul_pos h0 hk;omega)
   exact⟨a,0,vs,e,Nat.le_refl _,Nat.zero_le _,hrow,fun h=>absurd h (by simp)⟩
  ·obtain rfl:nn=rs.length:=Nat.eq_of_mul_eq_mul_right hk (h9.symm.trans hcl)
   exact⟨_,cap,vs,e,h5,h6,hrow,fun _=>⟨g,off,rfl,⟨.inr (by rw[e];obtain⟨c,rfl⟩:∃ c,cap=c+1:=⟨cap-1,by omega⟩;rfl),h3⟩,h8⟩⟩
 have hle:Le m hd (up m i (some (.arr (v+1) k false rs))) hd:=⟨fun j oj hj=>by
  by_cases e:j=i
  ·subst e
   rw[hi] at hj
   cases hj
   exact⟨_,up_same _ _ _,by simp [O.ver],fun e=>by simp [O.ver] at e⟩
  ·exact⟨oj,by rw[up_ne _ _ e];exact hj,Nat.le_refl _,fun _=>⟨rfl,rfl⟩⟩⟩
 refine⟨S',⟨?_,hle,fun b hb _=>⟨.inl hb,rfl⟩,Fr.refl _ _,fun x hx=>hx.elim .inl fun e=>.inr (h.blk hi rfl e).2.2.symm⟩,hD⟩
 refine Mem.next (Z:=fun _=>False) h (Nat.le_refl _) (fun _ _ _=>rfl) (fun _ _ h=>h) (fun b hb=>.inl hb) hS' hle (fun j oj hj=>?_) (fun j k' oj ok x hjk hj hk lj lk bj bk=>?_)
 ·by_cases e:j=i
  ·subst e
   rw[up_same] at hj
   cases hj
   refine .inr ?_
   simp only[O.is,Bool.false_eq_true,if_false]
   exact hD
  ·rw[up_ne _ _ e] at hj
   refine .inl ⟨hj,rfl,fun x hl hx=>⟨fun h=>h,?_⟩⟩
   rintro (h1|h1)
   ·exact (h.blk hj hl hx).2.1 h1
   ·exact h.sep j i oj _ x e hj hi hl rfl hx h1
 ·by_cases e:j=i
  ·subst e;rw[up_same] at hj;cases hj;cases lj
  ·by_cases e':k'=i
   ·subst e';rw[up_same] at hk;cases hk;cases lk
   ·rw[up_ne _ _ e] at hj
    rw[up_ne _ _ e'] at hk
    exact h.sep j k' oj ok x hjk hj hk lj lk bj bk
end
def su (i v:Nat) (d:D) (x:V):V:=match x with
 |.vg j u=>if j=i∧u=v then .d d else .vg j u
 |x=>x
section
variable {m m2:M} {hd:H} {w:World} {S S2 X:Nat→Prop} {B:Nat}
theorem su_ok {i v kk:Nat} {cs:List V} {d:D} (hi:m i=some (.vec v kk cs)) (hl:Le m hd m2 hd) (hS:∀ b,S b→b<w.heap.size→S2 b∧w.heap[b]?=w.heap[b]?) (hD:d.is w S2 (hd i)) (x:V) (u:Value) (h:VR m hd w S x u):VR m2 hd w S2 (su i v d x) u:=by
 have hk:=VR.keep hl hS x u h
 cases x with
 |vg j k =>
  simp only[su]
  split
  ·rename_i e
   obtain⟨rfl,rfl⟩:=e
   simp only[VR] at h ⊢
   obtain⟨_,y,hy,_,h3⟩:=h
   rw[hi] at hy
   cases hy
   rw[h3 _ _ rfl]
   exact hD
  ·exact hk
 |_=>exact hk
theorem sus_ok {i v kk:Nat} {cs:List V} {d:D} (hi:m i=some (.vec v kk cs)) (hl:Le m hd m2 hd) (hS:∀ b,S b→b<w.heap.size→S2 b∧w.heap[b]?=w.heap[b]?) (hD:d.is w S2 (hd i)):∀ (l:List V) (us:List Value),VRs m hd w S l us→VRs m2 hd w S2 (l.map (su i v d)) us
 |[],us,h=>by simp only[List.map_nil,VRs] at h ⊢;exact h
 |x :: l,us,h=>by
  simp only[List.map_cons,VRs] at h ⊢
  obtain⟨u,r,e,h1,h2⟩:=h
  exact⟨u,r,e,su_ok hi hl hS hD x u h1,sus_ok hi hl hS hD l r h2⟩
theorem mem_box (h:Mem m hd w S X B) {j v:Nat} {cs cs':List V} (hj:m j=some (.box v cs)) {b:Nat} {vs:List Value} (hb:hd j=.pointer (some ⟨b,0,none⟩)) (hvs:VRs m hd w S cs' vs) (hone:∀ x ∈ vs,x.oneCell'=true) (hth:w.there b 0 cs'.length) (hrg:w.rangeAt b 0 vs):Mem (up m j (some (.box v cs'))) hd w S X B∧Le m hd (up m j (some (.box v cs'))) hd:=by
 have hle:Le m hd (up m j (some (.box v cs'))) hd:=⟨fun k ok hk=>by
  by_cases e:k=j
  ·subst e
   rw[hj] at hk
   cases hk
   exact⟨_,up_same _ _ _,Nat.le_refl _,fun _=>⟨rfl,rfl⟩⟩
  ·exact⟨ok,by rw[up_ne _ _ e];exact hk,Nat.le_refl _,fun _=>⟨rfl,rfl⟩⟩⟩
 refine⟨Mem.next (Z:=fun _=>False) h (Nat.le_refl _) (fun _ _ _=>rfl) (fun _ _ h=>h) (fun b hb=>hb) h.lt hle (fun k ok hk=>?_) (fun k k' oj ok x hjk hj' hk lj lk bj bk=>?_),hle⟩
 ·by_cases e:k=j
  ·subst e
   rw[up_same] at hk
   cases hk
   refine .inr ?_
   have:=h.blk hj rfl (b:=b) (by rw[hb];rfl)
   simp only[O.is]
   exact⟨b,vs,hb,this.2.2.symm,this.1,this.2.1,VRs.keep hle (fun _ hb _=>⟨hb,rfl⟩) _ _ hvs,hone,hth,hrg⟩
  ·rw[up_ne _ _ e] at hk
   exact .inl ⟨hk,rfl,fun b hl hb=>⟨fun h=>h,(h.blk hk hl hb).2.1⟩⟩
 ·have key:∀ k o,up m j (some (.box v cs')) k=some o→∃ o',m k=some o'∧(o.live=true→o'.live=true):=fun k o hk=>by
   by_cases e:k=j
   ·subst e;exact⟨_,hj,fun _=>rfl⟩
   ·rw[up_ne _ _ e] at hk;exact⟨o,hk,id⟩
  obtain⟨o1,e1,l1⟩:=key _ _ hj'
  obtain⟨o2,e2,l2⟩:=key _ _ hk
  exact h.sep k k' o1 o2 x hjk e1 e2 (l1 lj) (l2 lk) bj bk
end
section
variable {cx:Cx} {s:St} {a:Act} {w:World}
theorem Wk.sealV (i j:Nat) {v vj:Nat} {cs csj:List V} {ds:List D} (hij:i ≠ j) (hi:s.m i=some (.vec v 1 cs)) (hd:dcells s.m cs=some ds) (hi2:ups s.m (Sim.frz s.m cs) i=some (.vec v 1 cs)) (hj:ups s.m (Sim.frz s.m cs) j=some (.box vj csj)) :
  Wk cx s ⟨s.T,up (up (ups s.m (Sim.frz s.m cs)) i (some (.arr (v+1) 1 false (ds.map fun d=>[d])))) j (some (.box vj (csj.map (su i v (.sl 1 (ds.map fun d=>[d]))))))⟩:=by
 rintro a w ⟨hd1,S,hm,hv,hfr,hdef,hsz,hsub,hle⟩
 have hob:=hm.obj i _ hi
 simp only[O.is] at hob
 obtain⟨vs,hvs,_,ha⟩:=hob
 obtain⟨S1,o1⟩:=out_frzs hm cs
 have hc:=dcells_ok (fun b hb=>((o1.keep b hb (hm.lt b hb)).1)) o1.mem hvs hd (fun i v k mu l' hmem hi=>ups_frz_get hi _ _ hmem)
 have hcl:ds.length=cs.length:=by rw[← hc.len,hvs.len]
 have ha2:ArrV w cx.w0.heap.size (fun b=>cx.X b) S1 1 (hd1 i) cs.length vs:=by
  rcases ha with h|⟨g,off,cap,nn,e,h1,h2,h3,h4,h5⟩
  ·exact .inl h
  ·refine .inr ⟨g,off,cap,nn,e,h1,h2,h3,(o1.mem.blk hi2 rfl (b:=g) ?_).2.1,h5⟩
   rw[e]
   obtain⟨c,rfl⟩:∃ c,cap=c+1:=⟨cap-1,by omega⟩
   rfl
 obtain⟨S2,o2,hD⟩:=out_sealV o1.mem hi2 (rows1 hc) (by rw[lm,hcl,Nat.mul_one]) (by omega) ha2
 have hj2:up (ups s.m (Sim.frz s.m cs)) i (some (.arr (v+1) 1 false (ds.map fun d=>[d]))) j=some (.box vj csj):=by rw[up_ne _ _ (Ne.symm hij)];exact hj
 have hbj:=o1.mem.obj j _ hj
 simp only[O.is] at hbj
 obtain⟨bj,vsj,ej,_,_,_,hvsj,h1j,htj,hrj⟩:=hbj
 have ho2:∀ b,S1 b→b<w.heap.size→S2 b∧w.heap[b]?=w.heap[b]?:=o2.keep
 obtain⟨m3,hle3⟩:=mem_box (cs':=csj.map (su i v (.sl 1 (ds.map fun d=>[d])))) o2.mem hj2 ej (sus_ok hi2 o2.le ho2 hD _ _ hvsj) h1j (by rw[lm];exact htj) hrj
 refine⟨hd1,S2,m3,fun t=>VR.keep hle3 (fun _ hb _=>⟨hb,rfl⟩) _ _ (o2.vr (o1.vr (hv t))),hfr,hdef,hsz,fun b hb=>?_,hle.trans (o1.le.trans (o2.le.trans hle3))⟩
 rcases o2.more b hb with h1|h1
 ·exact (o1.more b h1).elim (hsub b) .inr
 ·exact .inr h1
theorem Wk.sealT (i:Nat) {v k:Nat} {cs:List V} {rs:List (List D)} (T':Nat→V) (hi:s.m i=some (.vec v k cs)) (hd:dcells s.m cs=some rs.flatten) (hrl:∀ r ∈ rs,r.length=k) (hk:0<k) (hi2:ups s.m (Sim.frz s.m cs) i=some (.vec v k cs)) (hT:∀ t,T' t=su i v (.sl k rs) (s.T t)) :
  Wk cx s ⟨T',up (ups s.m (Sim.frz s.m cs)) i (some (.arr (v+1) k false rs))⟩:=by
 rintro a w ⟨hd1,S,hm,hv,hfr,hdef,hsz,hsub,hle⟩
 have hob:=hm.obj i _ hi
 simp only[O.is] at hob
 obtain⟨vs,hvs,_,ha⟩:=hob
 obtain⟨S1,o1⟩:=out_frzs hm cs
 have hc:=dcells_ok (fun b hb=>((o1.keep b hb (hm.lt b hb)).1)) o1.mem hvs hd (fun i v k mu l' hmem hi=>ups_frz_get hi _ _ hmem)
 have hcl:rs.flatten.length=cs.length:=by rw[← hc.len,hvs.len]
 have ha2:ArrV w cx.w0.heap.size (fun b=>cx.X b) S1 k (hd1 i) cs.length vs:=by
  rcases ha with h|⟨g,off,cap,nn,e,h1,h2,h3,h4,h5⟩
  ·exact .inl h
  ·refine .inr ⟨g,off,cap,nn,e,h1,h2,h3,(o1.mem.blk hi2 rfl (b:=g) ?_).2.1,h5⟩
   rw[e]
   obtain⟨c,rfl⟩:∃ c,cap=c+1:=⟨cap-1,by omega⟩
   rfl
 obtain⟨S2,o2,hD⟩:=out_sealV o1.mem hi2 (rows_flat hrl hc) (by rw[← hcl,flat_len hrl]) hk ha2
 have ho2:∀ b,S1 b→b<w.heap.size→S2 b∧w.heap[b]?=w.heap[b]?:=o2.keep
 refine⟨hd1,S2,o2.mem,fun t=>?_,hfr,hdef,hsz,fun b hb=>?_,hle.trans (o1.le.trans o2.le)⟩
 ·show VR _ _ _ _ (T' t) _
  rw[hT t]
  exact su_ok hi2 o2.le ho2 hD _ _ (o1.vr (hv t))
 ·rcases o2.more b hb with h1|h1
  ·exact (o1.more b h1).elim (hsub b) .inr
  ·exact .inr h1
theorem Awp.endWk {P:Program} {Q:Exit→St→Prop} {c:AC} (h:Awp P cx c (fun e s=>∃ s2,Wk cx s s2∧Q e s2) s):Awp P cx c Q s:=by
 intro code hc a w hR b k cs
 obtain⟨e,a',w',⟨s',⟨s2,h1,h2⟩,hR'⟩,harr⟩:=h code hc a w hR b k cs
 exact⟨e,a',w',⟨s2,h2,h1 _ _ hR'⟩,harr⟩
end
end Go.Proofs.YtacfbiegbdlldaaGreatDoor.Sim
end
section
namespace Go.Proofs.YtacfbiegbdlldaaGreatDoor.Sim
open Go
set_option maxRecDepth 100000
set_option maxHeartbeats 4000000
set_option linter.unusedVariables false
set_option linter.unusedSimpArgs false
attribute [local irreducible] Go Mean
def rowT (c:Nat) (vals right:List Int) (i:Nat):List Int:=(vals.drop (i*c)).take c++[right.getD i 0]
def rowsT (c:Nat) (vals right:List Int) (n:Nat):List (List Int):=(List.range n).map (rowT c vals right)
theorem rowsT_len {c:Nat} {vals right:List Int} {n:Nat}:(rowsT c vals right n).length=n:=by simp [rowsT]
def argR (p:Int) (n c:Nat) (vals right:List Int):List V:=[I p,I n,I c,.d (dInts vals),.d (dInts right)]
def zer:List Int:=List.replicate 32 0
theorem zer_len:zer.length=32:=rfl
def memF (u v:Nat) (rows:List (List Int)) (p:Int) (c:Nat) (arg:List V) (r:Nat) (ld:List Int):M:=up (famM u v rows (hdrB p c v r ld)) 1 (some (.box 0 arg))
def memR (p:Int) (n c:Nat) (vals right:List Int) (i:Nat):M:=if i=0 then up (up M0 13 (some (.box 0 (I p :: I c :: .nl 1 :: I 0 :: zer.map I)))) 1 (some (.box 0 (argR p n c vals right))) else memF 1 (i-1) (rowsT c vals right i) p c (argR p n c vals right) 0 zer
theorem W_d {m m0:M} {x:D}:W m m0 [] (.d x) (.d x):=by simp only[W]
theorem W_arg {m m0:M} {p:Int} {n c:Nat} {vals right:List Int}:Ws m m0 [] (argR p n c vals right) (argR p n c vals right):=by
 simp only[argR,Ws,I]
 exact⟨W_d,W_d,W_d,W_d,W_d,trivial⟩
theorem wk_memF {cx:Cx} {T:Nat→V} {m:M} {u v:Nat} {rows:List (List Int)} {p:Int} {n c:Nat} {vals right:List Int} {r:Nat} {ld:List Int} (hm0:cx.m0=ups M0 []) (T0:List (Nat × V)) (h1:m 1=some (.box 0 (argR p n c vals right))) (h13:m 13=some (.box 0 (hdrB p c v r ld))) (h46:m 46=some (.vec v 1 (cellsF u rows.length))) (hrow:∀ j,j<rows.length→m (j+800000)=some (.arr u 1 true ((rows.getD j []).map eI)))
  (hT:TW m (memF u v rows p c (argR p n c vals right) r ld) [] T T0):Wk cx ⟨T,m⟩ ⟨tl T0,memF u v rows p c (argR p n c vals right) r ld⟩:=by
 refine Wk.weaken [] _ _ (TW_ok hT) (fun i o hi=>?_) (fun i hi=>by cases hi) (fun i o hi=>?_)
 ·simp only[memF,up_at] at hi
  split at hi
  ·rename_i e
   subst e
   cases hi
   exact⟨rfl,_,h1,W_arg⟩
  rcases famM_some hi with ⟨rfl,rfl⟩|⟨rfl,rfl⟩|⟨j,hj,rfl,rfl⟩
  ·exact⟨rfl,_,h13,W_hdr (by simp only[memF,up_at];rw[if_neg (by omega),famM_46];rfl)⟩
  ·exact⟨rfl,_,h46,W_cells fun j hj=>by simp only[memF,up_at];rw[if_neg (by omega),famM_at hj];rfl⟩
  ·simp only[MO]
   rw[if_neg (by simp)]
   exact hrow j hj
 ·rw[hm0] at hi
  cases hi
theorem famM_none {u v:Nat} {rows:List (List Int)} {hdr:List V} {i:Nat} (h:i<800000) (h1:i ≠ 13) (h2:i ≠ 46):famM u v rows hdr i=none:=by
 simp only[famM,up_at]
 rw[if_neg h1,if_neg h2,fam_low h]
theorem famM_31 {u v:Nat} {rows:List (List Int)} {hdr:List V}:famM u v rows hdr 31=none:=famM_none (by omega) (by omega) (by omega)
theorem famM_43 {u v:Nat} {rows:List (List Int)} {hdr:List V}:famM u v rows hdr 43=none:=famM_none (by omega) (by omega) (by omega)
theorem famM_45 {u v:Nat} {rows:List (List Int)} {hdr:List V}:famM u v rows hdr 45=none:=famM_none (by omega) (by omega) (by omega)
theorem hdr_v {p c:Int} {v v':Nat} {r:Int} {ld:List Int}:(hdrB p c v r ld).take 2++V.vg 46 v' :: (hdrB p c v r ld).drop 3=hdrB p c v' r ld:=rfl
theorem swp_no {i j k:Nat} (h:k ≠ i) (h2:k ≠ j):swp i j k=k:=by
 unfold swp
 rw[if_neg h,if_neg h2]
theorem swp_l {i j:Nat}:swp i j i=j:=by simp [swp]
theorem swp_r {i j:Nat}:swp i j j=i:=by unfold swp;split <;> simp_all
theorem rowsT_get {c:Nat} {vals right:List Int} {n j:Nat} (h:j<n):(rowsT c vals right n).getD j []=rowT c vals right j:=by
 simp [rowsT,List.getD_eq_getElem?_getD,h]
theorem rns_arg {σ δ:Nat→Nat} {p:Int} {n c:Nat} {vals right:List Int}:V.rns σ δ (argR p n c vals right)=argR p n c vals right:=rfl
theorem rns_grow {i:Nat}:V.rns (swp 31 (i+800000)) (fun _=>0) (cellsF 1 i++[.og 31 1])=cellsF 1 (i+1):=by
 rw[rns_map,List.map_append]
 unfold cellsF
 rw[List.range_succ,List.map_append]
 refine congr (congrArg _ ?_) ?_
 ·rw[List.map_map]
  refine List.map_congr_left fun j hj=>?_
  rw[List.mem_range] at hj
  simp only[Function.comp,V.rn,Nat.add_zero]
  rw[swp_no (by omega) (by omega)]
 ·simp only[List.map_cons,List.map_nil,V.rn,swp_l,Nat.add_zero]
theorem wk_grow {cx:Cx} {T:Nat→V} {m:M} {v i:Nat} {p:Int} {n c:Nat} {vals right:List Int} (hm0:cx.m0=ups M0 []) (T0:List (Nat × V)) (h1:m 1=some (.box 0 (argR p n c vals right))) (h13:m 13=some (.box 0 (hdrB p c v 0 zer))) (h46:m 46=some (.vec v 1 (cellsF 1 i++[.og 31 1]))) (h31:m 31=some (.arr 1 1 true ((rowT c vals right i).map eI))) (hrow:∀ j,j<i→m (j+800000)=some (.arr 1 1 true ((rowT c vals right j).map eI)))
  (hT:TW (fun k=>(m (swp 31 (i+800000) k)).map (O.rn (swp 31 (i+800000)) (fun _=>0) 0)) (memF 1 v (rowsT c vals right (i+1)) p c (argR p n c vals right) 0 zer) [] (fun t=>(T t).rn (swp 31 (i+800000)) fun _=>0) T0):Wk cx ⟨T,m⟩ ⟨tl T0,memF 1 v (rowsT c vals right (i+1)) p c (argR p n c vals right) 0 zer⟩:=by
 have hs:∀ k,k<800000→k ≠ 31→swp 31 (i+800000) k=k:=fun k h h2=>swp_no h2 (by omega)
 refine Wk.trans (Wk.rn (swp 31 (i+800000)) (fun _=>0) (swp_swp _ _) fun j o hj=>by rw[hm0] at hj;cases hj) (wk_memF (r:=0) hm0 T0 ?_ ?_ ?_ (fun j hj=>?_) hT)
 ·simp only[St.rn,hs 1 (by omega) (by omega),h1,Option.map_some,O.rn,rns_arg]
 ·simp only[St.rn,hs 13 (by omega) (by omega),h13,Option.map_some,O.rn]
  rw[rns_hdr (hs 46 (by omega) (by omega)) rfl];rfl
 ·simp only[St.rn,hs 46 (by omega) (by omega),h46,Option.map_some,O.rn,rns_grow,rowsT_len,Nat.add_zero]
 ·rw[rowsT_len] at hj
  rw[rowsT_get hj]
  by_cases e:j=i
  ·subst e
   simp only[St.rn,swp_r,h31,Option.map_some,O.rn,Nat.add_zero]
  ·simp only[St.rn,swp_no (i:=31) (j:=i+800000) (k:=j+800000) (by omega) (by omega),hrow j (by omega),Option.map_some,O.rn,Nat.add_zero]
theorem leadR_rows {p:Int} {c k r:Nat} (hf:fieldB p=true) {rows:List (List Int)} (h:RowsC p c rows) (hr:r≤rows.length):RowsC p c (leadR p rows k r):=by
 have hf1:=(fieldB_iff.1 hf).1
 unfold leadR
 split
 ·rename_i hi
  have hrn:r<rows.length:=by have:=piv_in (k:=k) hr;omega
  have hfi:(firstF p rows k r).length=c+1∧(firstF p rows k r).all (inE p)=true:=by
   unfold firstF
   simp only
   exact⟨by rw[scaleN_len];exact (h.at hi).1,scaleN_in (by omega) (h.at hi).2⟩
  refine elimN_rows (by omega) (RowsC.set (fun x hx=>?_) hfi) (by rw[List.length_set,swapL_len];exact Nat.le_refl _)
  obtain⟨j,hj,rfl⟩:=List.mem_iff_getElem.1 hx
  rw[swapL_len] at hj
  have e:=swapL_get hrn hi hj
  rw[List.getD_eq_getElem?_getD,List.getElem?_eq_getElem (by rw[swapL_len];exact hj)] at e
  simp only[Option.getD_some] at e
  rw[e]
  split
  ·exact h.at hi
  split
  ·exact h.at hrn
  ·exact h.at hj
 ·exact h
def redN (p:Int) (rows:List (List Int)):Nat→List (List Int) × Nat × List Int
 |0=>(rows,0,zer)
 |k+1=>(leadR p (redN p rows k).1 k (redN p rows k).2.1,leadK (redN p rows k).1 k (redN p rows k).2.1,leadD (redN p rows k).1 k (redN p rows k).2.1 (redN p rows k).2.2)
theorem redN_ok {p:Int} {c:Nat} (hf:fieldB p=true) {rows:List (List Int)} (h:RowsC p c rows):∀ k,(redN p rows k).1.length=rows.length∧RowsC p c (redN p rows k).1∧(redN p rows k).2.1≤rows.length∧(redN p rows k).2.2.length=32
 |0=>⟨rfl,h,Nat.zero_le _,rfl⟩
 |k+1=>by
  obtain⟨h1,h2,h3,h4⟩:=redN_ok hf h k
  simp only[redN]
  refine⟨by rw[leadR_len,h1],leadR_rows hf h2 (by omega),?_,?_⟩
  ·unfold leadK
   have:=piv_in (k:=k) (show (redN p rows k).2.1≤(redN p rows k).1.length by omega)
   split <;> omega
  ·unfold leadD
   split
   ·rw[List.length_set,h4]
   ·exact h4
theorem rowsT_rows {p:Int} {n c:Nat} {vals right:List Int} (hv:vals.length=n*c) (hr:right.length=n) (hva:vals.all (inE p)=true) (hra:right.all (inE p)=true):RowsC p c (rowsT c vals right n):=fun row h=>by
 simp only[rowsT,List.mem_map,List.mem_range] at h
 obtain⟨i,hi,rfl⟩:=h
 have hic:(i+1)*c≤n*c:=Nat.mul_le_mul_right c hi
 have hic3:(i+1)*c=i*c+c:=by rw[Nat.add_mul,Nat.one_mul]
 refine⟨?_,?_⟩
 ·simp only[rowT,List.length_append,List.length_take,List.length_drop,List.length_cons,List.length_nil];omega
 ·rw[List.all_eq_true] at hva hra ⊢
  intro x hx
  simp only[rowT,List.mem_append,List.mem_singleton] at hx
  rcases hx with hx|rfl
  ·exact hva x (List.mem_of_mem_drop (List.mem_of_mem_take hx))
  ·exact hra _ (mem_getD _ _ _ (by omega))
theorem dcell_og {m:M} {i v k:Nat} {mu:Bool} {l:List (List D)} (h:m i=some (.arr v k mu l)):dcell m (.og i v)=some (.sl k l):=by
 simp only[dcell,h,if_true]
theorem dcells_cons {m:M} {x:V} {l:List V} {y:D} {ys:List D} (h1:dcell m x=some y) (h2:dcells m l=some ys):dcells m (x :: l)=some (y :: ys):=by
 simp only[dcells,h1,h2]
theorem dcells_map {m:M} (f:Nat→Nat) (u:Nat) (g:Nat→List Int):∀ (js:List Nat),(∀ j ∈ js,m (f j)=some (.arr u 1 true ((g j).map eI)))→dcells m (js.map fun j=>V.og (f j) u)=some (js.map fun j=>dInts (g j))
 |[],_=>rfl
 |j :: js,h=>dcells_cons (dcell_og (h j List.mem_cons_self)) (dcells_map f u g js fun k hk=>h k (List.mem_cons_of_mem _ hk))
theorem range_map {α:Type} (l:List α) (d:α) {β:Type} (f:α→β):(List.range l.length).map (fun j=>f (l.getD j d))=l.map f:=by
 apply List.ext_getElem (by simp)
 intro i h1 h2
 simp at h1
 simp [List.getD_eq_getElem?_getD,h1]
theorem dcells_rows {u v:Nat} {rows:List (List Int)} {hdr:List V}:dcells (famM u v rows hdr) (cellsF u rows.length)=some (rows.map dInts):=by
 have:=dcells_map (m:=famM u v rows hdr) (fun j=>j+800000) u (fun j=>rows.getD j []) (List.range rows.length) fun j hj=>famM_at (by simpa using hj)
 rw[cellsF,this,range_map]
def redB (p:Int) (c:Nat) (s:List (List Int) × Nat × List Int):List V:=I p :: I c :: .d (dRows s.1) :: I s.2.1 :: s.2.2.map I
theorem redB_wf {p:Int} {c:Nat} {s:List (List Int) × Nat × List Int}:(O.box 0 (redB p c s)).wf=true:=by
 simp [O.wf,redB,closed,I]
theorem notOg_ne {i v k:Nat} (h:i ≠ k):V.notOg k (.og i v)=true:=by
 simp [V.notOg,h]
theorem wk_seal {cx:Cx} {T:Nat→V} {u v:Nat} {p:Int} {c:Nat} {s:List (List Int) × Nat × List Int} (hm0:cx.m0=ups M0 []) (hT:T 2=.bp 13 0 0):Wk cx ⟨T,famM u v s.1 (hdrB p c v s.2.1 s.2.2)⟩ ⟨tl [(2,.bp 13 0 0)],up M0 13 (some (.box 0 (redB p c s)))⟩:=by
 have hno:∀ k,k<800000→(cellsF u s.1.length).all (V.notOg k)=true:=fun k hk=>by
  rw[List.all_eq_true]
  intro x hx
  obtain⟨j,_,rfl⟩:=List.mem_map.1 hx
  exact notOg_ne (by omega)
 have h46:famM u v s.1 (hdrB p c v s.2.1 s.2.2) 46=some (.vec v 1 (cellsF u s.1.length)):=famM_46
 have h13:famM u v s.1 (hdrB p c v s.2.1 s.2.2) 13=some (.box 0 (hdrB p c v s.2.1 s.2.2)):=famM_13
 have hdc:=dcells_rows (u:=u) (v:=v) (rows:=s.1) (hdr:=hdrB p c v s.2.1 s.2.2)
 have n46:=hno 46 (by omega)
 have n13:=hno 13 (by omega)
 generalize famM u v s.1 (hdrB p c v s.2.1 s.2.2)=mm at *
 generalize cellsF u s.1.length=cc at *
 have h:=Wk.sealV (cx:=cx) (s:=⟨T,mm⟩) 46 13 (by decide) h46 hdc ((ups_frz_not 46 cc mm n46).trans h46) ((ups_frz_not 13 cc mm n13).trans h13)
 have e:(hdrB p c v s.2.1 s.2.2).map (su 46 v (.sl 1 ((s.1.map dInts).map fun d=>[d])))=redB p c s:=by
  have e2:∀ l:List Int,(l.map I).map (su 46 v (.sl 1 ((s.1.map dInts).map fun d=>[d])))=l.map I:=fun l=>by rw[List.map_map];rfl
  simp only[hdrB,redB,List.map_cons,e2]
  simp only[su,I,and_self,if_true,dRows,List.map_map]
  rfl
 rw[e] at h
 refine h.trans (Wk.weaken [] _ _ (TW_ok ?_) (fun i o hi=>?_) (fun i hi=>by cases hi) (fun i o hi=>by rw[hm0] at hi;cases hi))
 ·simp only[TW,hT,W,up_same]
  simp
 ·simp only[up_at] at hi
  split at hi
  ·rename_i e
   subst e
   cases hi
   refine⟨rfl,redB p c s,by simp only[up_same],?_⟩
   simp only[redB,Ws]
   exact⟨W_I,W_I,W_d,W_I,W_ints⟩
  ·cases hi
theorem reduceT (p:Int) (n c:Nat) (vals right:List Int) (hf:fieldB p=true) (hn1:1≤n) (hn:n≤32) (hc:c≤32) (hv:vals.length=n*c) (hr:right.length=n) (hva:vals.all (inE p)=true) (hra:right.all (inE p)=true) :
  Does Tryz.prog 138 [.ag (argR p n c vals right)] [] (.bp 1000000 0 0) [] [.box 0 (redB p c (redN p (rowsT c vals right n) c))]:=by
 refine G97' rfl BxOK.nil fun cx hm0=>Awp.endWk (go_in 5000 ?_)
 unfold A97' R97' argR
 repeat' (first|simp (maxSteps:=9999999) only[↓GE,PL,PP,EE,QQ,seval]|(simp (disch:=omega) only[i6])|(apply go_brD<;>intro h)|(apply go_gsD aE<;>intro h)|(apply go_br<;>intro h)|(apply go_gs aE<;>intro h)|(with_reducible apply And.intro)|exact aG|fail)
 refine go_loopG 5000 (ι:={i:Nat // i≤n}) (fun i=>[(1,.bp 1 0 0),(3,.bp 13 0 0),(15,I n),(16,I i.1)]) (fun i=>memR p n c vals right i.1) (fun i=>n-i.1) ⟨0,Nat.zero_le _⟩ ?_ ?_
 ·have e:memR p n c vals right 0=_:=if_pos rfl
  rw[e]
  refine Wk.weaken [] _ _ (TW_ok ?_) (fun i o hi=>?_) (fun i hi=>by cases hi) (fun i o hi=>by rw[hm0] at hi;cases hi)
  ·(simp (config:={ maxSteps:=1000000 }) only[TW,W,Option.isSome_some,List.not_mem_nil,argR,EE,QQ,seval])
  ·simp only[up_at] at hi
   split at hi
   ·rename_i e
    subst e
    cases hi
    exact⟨rfl,_,rfl,W_arg⟩
   split at hi
   ·rename_i e
    subst e
    cases hi
    refine⟨rfl,_,rfl,?_⟩
    simp only[Ws,zer,List.map_cons,List.map_nil,List.replicate,I,W_d,W,true_and,and_true]
   ·cases hi
 ·rintro⟨i,hi⟩
  simp only
  have hL:∀ {v:Nat} {r:Int},(hdrB p c v r zer).length=36:=hdr_len zer_len
  by_cases hin:i<n
  ·have q1:decide ((i:Int)<(n:Int))=true:=dt (by omega)
   have hic:(i+1)*c≤n*c:=Nat.mul_le_mul_right c hin
   have hic2:n*c≤32*32:=Nat.mul_le_mul hn hc
   have hic3:(i+1)*c=i*c+c:=by rw[Nat.add_mul,Nat.one_mul]
   have w1:IntKind.i64.wrap ((i:Int)+1)=((i+1:Nat):Int):=by rw[i6 _ (by omega)];omega
   have w2:IntKind.i64.wrap ((i:Int)*(c:Int))=((i*c:Nat):Int):=by rw[← Int.natCast_mul,i6 _ (by omega)]
   have w3:IntKind.i64.wrap (((i+1:Nat):Int)*(c:Int))=(((i+1)*c:Nat):Int):=by rw[← Int.natCast_mul,i6 _ (by omega)]
   have hrs:=getD_map eI [] 0 right i (by omega)
   have hsl:List.drop (i*c) (List.take ((i+1)*c) (List.map eI vals))=((vals.drop (i*c)).take c).map eI:=by
    rw[hic3,← List.map_take,← List.map_drop,List.drop_take,Nat.add_sub_cancel_left]
   have hln:((vals.drop (i*c)).take c).length=c:=by rw[List.length_take,List.length_drop];omega
   have hcc:i*c≤(i+1)*c:=by omega
   have hsg:∀ k,k<800000→k ≠ 31→swp 31 (i+800000) k=k:=fun k h h2=>swp_no h2 (by omega)
   by_cases h0:i=0
   ·have e0:memR p n c vals right i=up (up M0 13 (some (.box 0 (I p :: I c :: .nl 1 :: I 0 :: zer.map I)))) 1 (some (.box 0 (argR p n c vals right))):=if_pos h0
    rw[e0]
    simp only[argR]
    repeat' (first|simp (maxSteps:=9999999) only[↓GE,PL,PP,EE,QQ,seval,q1,w1,w2,w3,hv,hr,hin,hic,hcc,hrs,hsl,hln,lm,Int.toNat_natCast,eI]|(simp (disch:=omega) only[i6])|(apply go_brD<;>intro h)|(apply go_gsD aE<;>intro h)|(apply go_br<;>intro h)|(apply go_gs aE<;>intro h)|(with_reducible apply And.intro)|exact aG|fail)
    refine⟨⟨i+1,hin⟩,?_,by simp only;omega⟩
    have e:memR p n c vals right (i+1)=memF 1 (i+1-1) (rowsT c vals right (i+1)) p c (argR p n c vals right) 0 zer:=if_neg (by omega)
    simp only[e]
    refine wk_grow (T0:=_) hm0 ?_ ?_ ?_ ?_ (fun j hj=>?_) ?_
    ·rfl
    ·subst h0;rfl
    ·subst h0;rfl
    ·simp only[rowT,List.map_append,up_at,eI];rfl
    ·omega
    ·have hs1:(memF 1 i (rowsT c vals right (i+1)) p c (argR p n c vals right) 0 zer 1).isSome=true:=rfl
     have hs13:(memF 1 i (rowsT c vals right (i+1)) p c (argR p n c vals right) 0 zer 13).isSome=true:=rfl
     have hg1:=hsg 1 (by omega) (by omega)
     have hg13:=hsg 13 (by omega) (by omega)
     (simp (config:={ maxSteps:=1000000 }) only[TW,W,Option.isSome_some,List.not_mem_nil,V.rn,hg1,hg13,hs1,hs13,EE,QQ,seval])
   ·have e0:memR p n c vals right i=memF 1 (i-1) (rowsT c vals right i) p c (argR p n c vals right) 0 zer:=if_neg h0
    rw[e0]
    simp only[memF,argR]
    repeat' (first|simp (maxSteps:=9999999) only[↓GE,PL,PP,EE,QQ,seval,q1,w1,w2,w3,hv,hr,hin,hic,hcc,hrs,hsl,hln,hdr_2,hL,famM_13,famM_46,famM_31,famM_43,famM_45,hdr_v,rowsT_len,cellsF_len,lm,Int.toNat_natCast,eI]|(simp (disch:=omega) only[i6])|(apply go_brD<;>intro h)|(apply go_gsD aE<;>intro h)|(apply go_br<;>intro h)|(apply go_gs aE<;>intro h)|(with_reducible apply And.intro)|exact aG|fail)
    refine⟨⟨i+1,hin⟩,?_,by simp only;omega⟩
    have e:memR p n c vals right (i+1)=memF 1 (i+1-1) (rowsT c vals right (i+1)) p c (argR p n c vals right) 0 zer:=if_neg (by omega)
    simp only[e]
    refine wk_grow (T0:=_) hm0 ?_ ?_ ?_ ?_ (fun j hj=>?_) ?_
    ·rfl
    ·rw[show i+1-1=i-1+1 by omega];rfl
    ·rw[show i+1-1=i-1+1 by omega];rfl
    ·simp only[rowT,List.map_append,up_at,eI];rfl
    ·have g:=famM_at (u:=1) (v:=i-1) (rows:=rowsT c vals right i) (hdr:=hdrB p c (i-1) 0 zer) (j:=j) (by rw[rowsT_len];exact hj)
     rw[rowsT_get hj] at g
     simp only[up_at]
     repeat rw[if_neg (by omega)]
     exact g
    ·have hs1:(memF 1 i (rowsT c vals right (i+1)) p c (argR p n c vals right) 0 zer 1).isSome=true:=rfl
     have hs13:(memF 1 i (rowsT c vals right (i+1)) p c (argR p n c vals right) 0 zer 13).isSome=true:=rfl
     have hg1:=hsg 1 (by omega) (by omega)
     have hg13:=hsg 13 (by omega) (by omega)
     (simp (config:={ maxSteps:=1000000 }) only[TW,W,Option.isSome_some,List.not_mem_nil,V.rn,hg1,hg13,hs1,hs13,EE,QQ,seval])
  ·obtain rfl:i=n:=by omega
   have q1:decide ((i:Int)<(i:Int))=false:=df (by omega)
   have e0:memR p i c vals right i=memF 1 (i-1) (rowsT c vals right i) p c (argR p i c vals right) 0 zer:=if_neg (by omega)
   rw[e0]
   simp only[memF,argR]
   repeat' (first|simp (maxSteps:=9999999) only[↓GE,PL,PP,EE,QQ,seval,q1]|(simp (disch:=omega) only[i6])|(apply go_brD<;>intro h)|(apply go_gsD aE<;>intro h)|(apply go_br<;>intro h)|(apply go_gs aE<;>intro h)|(with_reducible apply And.intro)|exact aG|fail)
   have hR0:=rowsT_rows hv hr hva hra
   refine go_loopG 5000 (ι:={k:Nat // k≤c}) (fun k=>[(3,.bp 13 0 0),(51,I c),(52,I k.1)]) (fun k=>famM (1+k.1) (i-1) (redN p (rowsT c vals right i) k.1).1 (hdrB p c (i-1) (redN p (rowsT c vals right i) k.1).2.1 (redN p (rowsT c vals right i) k.1).2.2)) (fun k=>c-k.1) ⟨0,Nat.zero_le _⟩ ?_ ?_
   ·refine wk_fam _ rfl rfl (fun j hj=>?_) ?_ (fun k o hk=>by rw[hm0] at hk;cases hk)
    ·simp only[up_at]
     rw[if_neg (by omega)]
     exact famM_at hj
    ·(simp (config:={ maxSteps:=1000000 }) only[TW,W,Option.isSome_some,List.not_mem_nil,famM_13,EE,QQ,seval])
   ·rintro⟨k,hk⟩
    simp only
    obtain⟨g1,g2,g3,g4⟩:=redN_ok (k:=k) hf hR0
    rw[rowsT_len] at g1 g3
    by_cases hkc:k<c
    ·have q2:decide ((k:Int)<(c:Int))=true:=dt (by omega)
     have w3:IntKind.i64.wrap ((k:Int)+1)=((k+1:Nat):Int):=by rw[i6 _ (by omega)];omega
     have e1:=leadL (1+k) (i-1) p c (redN p (rowsT c vals right i) k).1 k (redN p (rowsT c vals right i) k).2.1 (redN p (rowsT c vals right i) k).2.2 hf (by omega) (by omega) (by omega) hc hkc g2 g4
     repeat' (first|simp (maxSteps:=9999999) only[↓GE,PL,PP,EE,QQ,seval,q2]|(simp (disch:=omega) only[i6])|(apply go_brD<;>intro h)|(apply go_gsD aE<;>intro h)|(apply go_br<;>intro h)|(apply go_gs aE<;>intro h)|(with_reducible apply And.intro)|exact aG|fail)
     refine go_callL 5000 e1 rfl rfl ?_
     repeat' (first|simp (maxSteps:=9999999) only[↓GE,PL,PP,EE,QQ,seval,ups_fam leadR_len,w3]|(simp (disch:=omega) only[i6])|(apply go_brD<;>intro h)|(apply go_gsD aE<;>intro h)|(apply go_br<;>intro h)|(apply go_gs aE<;>intro h)|(with_reducible apply And.intro)|exact aG|fail)
     refine⟨⟨k+1,hkc⟩,?_,by simp only;omega⟩
     refine wk_famE _ rfl ?_ (fun k o hk=>by rw[hm0] at hk;cases hk)
     (simp (config:={ maxSteps:=1000000 }) only[TW,W,Option.isSome_some,List.not_mem_nil,famM_13,EE,QQ,seval])
    ·obtain rfl:k=c:=by omega
     have q2:decide ((k:Int)<(k:Int))=false:=df (by omega)
     repeat' (first|simp (maxSteps:=9999999) only[↓GE,PL,PP,EE,QQ,seval,q2]|(simp (disch:=omega) only[i6])|(apply go_brD<;>intro h)|(apply go_gsD aE<;>intro h)|(apply go_br<;>intro h)|(apply go_gs aE<;>intro h)|(with_reducible apply And.intro)|exact aG|fail)
     refine⟨_,wk_seal hm0 rfl,?_⟩
     apply ret_mk [some 13]
     ·exact aR
     ·exact aZ
     ·refine⟨⟨_,rfl,rfl,redB_wf⟩,trivial⟩
     all_goals exact aF
end Go.Proofs.YtacfbiegbdlldaaGreatDoor.Sim
end
