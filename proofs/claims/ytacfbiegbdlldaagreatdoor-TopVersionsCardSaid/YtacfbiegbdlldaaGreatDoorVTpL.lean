/- A row leads in a column: the matrix of the solver. -/
import Derived.Test.YtacfbiegbdlldaaGreatDoorVTpB
import Derived.Test.YtacfbiegbdlldaaGreatDoorVSimLc
namespace Go.Proofs.YtacfbiegbdlldaaGreatDoor.Sim
open Go
set_option maxRecDepth 100000
set_option maxHeartbeats 4000000
set_option linter.unusedVariables false
set_option linter.unusedSimpArgs false
attribute [local irreducible] Go Mean
/-! ### Rows as objects of their own -/
def fam (u:Nat) (rows:List (List Int)):M:=fun i=>if 800000≤i∧i<800000+rows.length then some (.arr u 1 true ((rows.getD (i-800000) []).map eI)) else none
theorem fam_at {u:Nat} {rows:List (List Int)} {j:Nat} (h:j<rows.length):fam u rows (j+800000)=some (.arr u 1 true ((rows.getD j []).map eI)):=by
 unfold fam
 rw[if_pos (by omega),Nat.add_sub_cancel]
theorem fam_low {u:Nat} {rows:List (List Int)} {i:Nat} (h:i<800000):fam u rows i=none:=by
 unfold fam
 rw[if_neg (by omega)]
theorem fam_some {u:Nat} {rows:List (List Int)} {i:Nat} {o:O} (h:fam u rows i=some o):∃ j,j<rows.length∧i=j+800000∧o=.arr u 1 true ((rows.getD j []).map eI):=by
 unfold fam at h
 split at h
 ·rename_i hc
  cases h
  exact⟨i-800000,by omega,by omega,rfl⟩
 ·cases h
def cellsF (u n:Nat):List V:=(List.range n).map fun j=>V.og (j+800000) u
theorem cellsF_len {u n:Nat}:(cellsF u n).length=n:=by simp [cellsF]
theorem cellsF_get {u n i:Nat} (h:i<n):(cellsF u n).getD i .un=.og (i+800000) u:=by simp [cellsF,List.getD_eq_getElem?_getD,h]
def hdrB (p c:Int) (v:Nat) (r:Int) (ld:List Int):List V:=I p :: I c :: .vg 46 v :: I r :: ld.map I
def famM (u v:Nat) (rows:List (List Int)) (hdr:List V):M:=up (up (fam u rows) 46 (some (.vec v 1 (cellsF u rows.length)))) 13 (some (.box 0 hdr))
theorem famM_13 {u v:Nat} {rows:List (List Int)} {hdr:List V}:famM u v rows hdr 13=some (.box 0 hdr):=by simp [famM,up]
theorem famM_46 {u v:Nat} {rows:List (List Int)} {hdr:List V}:famM u v rows hdr 46=some (.vec v 1 (cellsF u rows.length)):=by simp [famM,up]
theorem famM_at {u v:Nat} {rows:List (List Int)} {hdr:List V} {j:Nat} (h:j<rows.length):famM u v rows hdr (j+800000)=some (.arr u 1 true ((rows.getD j []).map eI)):=by
 simp only[famM,up]
 rw[if_neg (by omega),if_neg (by omega),fam_at h]
theorem famM_some {u v:Nat} {rows:List (List Int)} {hdr:List V} {i:Nat} {o:O} (h:famM u v rows hdr i=some o):(i=13∧o=.box 0 hdr)∨(i=46∧o=.vec v 1 (cellsF u rows.length))∨∃ j,j<rows.length∧i=j+800000∧o=.arr u 1 true ((rows.getD j []).map eI):=by
 simp only[famM,up] at h
 split at h
 ·cases h;exact .inl ⟨by assumption,rfl⟩
 ·split at h
  ·cases h;exact .inr (.inl ⟨by assumption,rfl⟩)
  ·exact .inr (.inr (fam_some h))
section
variable {cx:Cx} {T:Nat→V} {m:M}
theorem W_cells {m m0:M} {u n:Nat} (h:∀ j,j<n→(m0 (j+800000)).isSome=true):Ws m m0 [] (cellsF u n) (cellsF u n):=by
 have:∀ l:List Nat,(∀ j ∈ l,j<n)→Ws m m0 [] (l.map fun j=>V.og (j+800000) u) (l.map fun j=>V.og (j+800000) u):=fun l=>by
  induction l with
  |nil=>intro _;simp only[List.map_nil,Ws]
  |cons j l ih =>
   intro hl
   simp only[List.map_cons,Ws]
   refine⟨?_,ih fun k hk=>hl k (by simp [hk])⟩
   simp only[W]
   exact⟨trivial,trivial,by simp,h j (hl j (by simp))⟩
 exact this _ fun j hj=>by simpa using hj
theorem W_I {m m0:M} {x:Int}:W m m0 [] (I x) (I x):=by unfold I;simp only[W]
theorem W_ints {m m0:M}:∀ {l:List Int},Ws m m0 [] (l.map I) (l.map I)
 |[]=>by simp only[List.map_nil,Ws]
 |x :: l=>by simp only[List.map_cons,Ws];exact⟨W_I,W_ints⟩
theorem W_hdr {m m0:M} {p c:Int} {v:Nat} {r:Int} {ld:List Int} (h:(m0 46).isSome=true):Ws m m0 [] (hdrB p c v r ld) (hdrB p c v r ld):=by
 simp only[hdrB,Ws]
 exact⟨W_I,W_I,by simp only[W];exact⟨trivial,trivial,by simp,h⟩,W_I,W_ints⟩
theorem wk_fam {u v:Nat} {rows:List (List Int)} {p c r:Int} {ld:List Int} (T0:List (Nat × V)) (h13:m 13=some (.box 0 (hdrB p c v r ld))) (h46:m 46=some (.vec v 1 (cellsF u rows.length))) (hrow:∀ j,j<rows.length→m (j+800000)=some (.arr u 1 true ((rows.getD j []).map eI)))
  (hT:TW m (famM u v rows (hdrB p c v r ld)) [] T T0) (hP:∀ i o,cx.m0 i=some o→i=13∨i=46∨∃ j,j<rows.length∧i=j+800000):Wk cx ⟨T,m⟩ ⟨tl T0,famM u v rows (hdrB p c v r ld)⟩:=by
 refine Wk.weaken [] _ _ (TW_ok hT) (fun i o hi=>?_) (fun i hi=>by cases hi) (fun i o hi=>?_)
 ·rcases famM_some hi with ⟨rfl,rfl⟩|⟨rfl,rfl⟩|⟨j,hj,rfl,rfl⟩
  ·exact⟨rfl,_,h13,W_hdr (by rw[famM_46];rfl)⟩
  ·exact⟨rfl,_,h46,W_cells fun j hj=>by rw[famM_at hj];rfl⟩
  ·simp only[MO]
   rw[if_neg (by simp)]
   exact hrow j hj
 ·refine⟨rfl,?_⟩
  rcases hP i o hi with rfl|rfl|⟨j,hj,rfl⟩
  ·rw[famM_13];rfl
  ·rw[famM_46];rfl
  ·rw[famM_at hj];rfl
end
theorem famP {cx:Cx} {u v:Nat} {rows:List (List Int)} {hdr:List V} (h:cx.m0=famM u v rows hdr) {n:Nat} (hn:rows.length=n):∀ i o,cx.m0 i=some o→i=13∨i=46∨∃ j,j<n∧i=j+800000:=fun i o hi=>by
 rw[h] at hi
 rcases famM_some hi with ⟨rfl,_⟩|⟨rfl,_⟩|⟨j,hj,rfl,_⟩
 ·exact .inl rfl
 ·exact .inr (.inl rfl)
 ·exact .inr (.inr ⟨j,by omega,rfl⟩)
/-! ### What is reckoned -/
def pivN (rows:List (List Int)) (k:Nat):Nat→Nat→Nat
 |i,0=>i
 |i,f+1=>if (rows.getD i []).getD k 0=0 then pivN rows k (i+1) f else i
def piv (rows:List (List Int)) (k r:Nat):Nat:=pivN rows k r (rows.length-r)
theorem pivN_ge {rows:List (List Int)} {k:Nat}:∀ {f i:Nat},i≤pivN rows k i f∧pivN rows k i f≤i+f
 |0,i=>⟨Nat.le_refl _,Nat.le_refl _⟩
 |f+1,i=>by
  rw[pivN]
  split
  ·have:=pivN_ge (rows:=rows) (k:=k) (f:=f) (i:=i+1);omega
  ·omega
theorem piv_in {rows:List (List Int)} {k r:Nat} (h:r≤rows.length):r≤piv rows k r∧piv rows k r≤rows.length:=by
 have:=pivN_ge (rows:=rows) (k:=k) (f:=rows.length-r) (i:=r)
 unfold piv;omega
theorem pivN_nz {rows:List (List Int)} {k:Nat}:∀ {f i:Nat},pivN rows k i f<i+f→(rows.getD (pivN rows k i f) []).getD k 0 ≠ 0
 |0,i,h=>by simp [pivN] at h
 |f+1,i,h=>by
  rw[pivN] at h ⊢
  split
  ·rename_i h0;rw[if_pos h0] at h;exact pivN_nz (by omega)
  ·assumption
theorem piv_nz {rows:List (List Int)} {k r:Nat} (h:r≤rows.length) (h2:piv rows k r<rows.length):(rows.getD (piv rows k r) []).getD k 0 ≠ 0:=pivN_nz (by unfold piv at h2;omega)
def swapL (rows:List (List Int)) (r i:Nat):List (List Int):=(rows.set r (rows.getD i [])).set i (rows.getD r [])
theorem swapL_len {rows:List (List Int)} {r i:Nat}:(swapL rows r i).length=rows.length:=by simp [swapL]
def scaleN (p by_:Int) (row:List Int) (c:Nat):List Int:=(List.range row.length).map fun i=>if i<c then row.getD i 0*by_ % p else row.getD i 0
theorem scaleN_len {p b:Int} {row:List Int} {c:Nat}:(scaleN p b row c).length=row.length:=by simp [scaleN]
theorem scaleN_get {p b:Int} {row:List Int} {c i:Nat} (h:i<row.length):(scaleN p b row c).getD i 0=if i<c then row.getD i 0*b % p else row.getD i 0:=by
 simp [scaleN,List.getD_eq_getElem?_getD,h]
theorem scaleN_zero {p b:Int} {row:List Int}:scaleN p b row 0=row:=by
 apply List.ext_getElem (by simp [scaleN])
 intro i h1 h2
 simp [scaleN,List.getD_eq_getElem?_getD,h2]
theorem scaleN_next {p b:Int} {row:List Int} {c:Nat} (h:c<row.length):(scaleN p b row c).set c (row.getD c 0*b % p)=scaleN p b row (c+1):=by
 apply List.ext_getElem (by simp [scaleN])
 intro i h1 h2
 simp only[scaleN,List.getElem_set,List.getElem_map,List.getElem_range]
 by_cases e:c=i
 ·subst e;simp
 ·rw[if_neg e]
  by_cases h3:i<c
  ·rw[if_pos h3,if_pos (by omega)]
  ·rw[if_neg h3,if_neg (by omega)]
def elimN (p:Int) (k r:Nat) (first:List Int) (rows:List (List Int)):Nat→List (List Int)
 |0=>rows
 |n+1 =>
  let s:=elimN p k r first rows n
  if n ≠ r∧(s.getD n []).getD k 0 ≠ 0 then s.set n (addStep p ((0-(s.getD n []).getD k 0+p) % p) (s.getD n []) first first.length) else s
theorem elimN_len {p:Int} {k r:Nat} {first:List Int} {rows:List (List Int)}:∀ {n:Nat},(elimN p k r first rows n).length=rows.length
 |0=>rfl
 |n+1=>by
  simp only[elimN]
  split
  ·rw[List.length_set,elimN_len]
  ·exact elimN_len
def firstF (p:Int) (rows:List (List Int)) (k r:Nat):List Int :=
 let row:=rows.getD (piv rows k r) []
 scaleN p (invI p (row.getD k 0)) row row.length
def leadR (p:Int) (rows:List (List Int)) (k r:Nat):List (List Int) :=
 if piv rows k r<rows.length then elimN p k r (firstF p rows k r) ((swapL rows r (piv rows k r)).set r (firstF p rows k r)) rows.length else rows
def leadK (rows:List (List Int)) (k r:Nat):Nat:=if piv rows k r<rows.length then r+1 else r
def leadD (rows:List (List Int)) (k r:Nat) (ld:List Int):List Int:=if piv rows k r<rows.length then ld.set k ((r+1:Nat):Int) else ld
theorem leadR_len {p:Int} {rows:List (List Int)} {k r:Nat}:(leadR p rows k r).length=rows.length:=by
 unfold leadR
 split
 ·rw[elimN_len,List.length_set,swapL_len]
 ·rfl
def usF (u v:Nat) (rows:List (List Int)) (hdr:List V):U:=(rows.zipIdx.map fun x=>(x.2+800000,O.arr u 1 true (x.1.map eI)))++[(46,.vec v 1 (cellsF u rows.length)),(13,.box 0 hdr)]
theorem ups_rows {f:List Int→O} (b i:Nat):∀ (rows:List (List Int)) (k:Nat) (m:M),ups m ((rows.zipIdx k).map fun x=>(x.2+b,f x.1)) i=if k+b≤i∧i<k+b+rows.length then some (f (rows.getD (i-(k+b)) [])) else m i
 |[],k,m=>by
  simp only[List.zipIdx_nil,List.map_nil,ups,List.length_nil]
  rw[if_neg (by omega)]
 |x :: rows,k,m=>by
  simp only[List.zipIdx_cons,List.map_cons,ups]
  rw[ups_rows b i rows (k+1)]
  simp only[up,List.length_cons]
  by_cases h1:k+b=i
  ·subst h1
   rw[if_neg (by omega),if_pos rfl,if_pos (by omega),Nat.sub_self,List.getD_cons_zero]
  ·by_cases h2:k+1+b≤i∧i<k+1+b+rows.length
   ·rw[if_pos h2,if_pos (by omega)]
    have:i-(k+b)=(i-(k+1+b))+1:=by omega
    rw[this,List.getD_cons_succ]
   ·rw[if_neg h2,if_neg (by omega),if_neg (by omega)]
theorem ups_fam {u u' v:Nat} {rows rows':List (List Int)} {hdr hdr':List V} (h:rows'.length=rows.length):ups (famM u v rows hdr) (usF u' v rows' hdr')=famM u' v rows' hdr':=by
 funext i
 unfold usF
 rw[ups_append]
 simp only[ups,up_at]
 simp only[famM,up_at]
 split
 ·rfl
 split
 ·rfl
 rw[ups_rows (f:=fun x=>O.arr u' 1 true (x.map eI)) 800000 i rows' 0]
 simp only[fam,up_at,Nat.zero_add]
 by_cases hc:800000≤i∧i<800000+rows'.length
 ·rw[if_pos hc,if_pos hc]
 ·rw[if_neg hc,if_neg (by assumption),if_neg (by assumption),if_neg (by omega),if_neg hc]
def RowsC (p:Int) (c:Nat) (rows:List (List Int)):Prop:=∀ row ∈ rows,row.length=c+1∧row.all (inE p)=true
theorem hdr_len {p c:Int} {v:Nat} {r:Int} {ld:List Int} (hl:ld.length=32):(hdrB p c v r ld).length=36:=by simp [hdrB,hl]
theorem hdr_0 {p c:Int} {v:Nat} {r:Int} {ld:List Int}:(hdrB p c v r ld).take 1=[I p]:=rfl
theorem hdr_2 {p c:Int} {v:Nat} {r:Int} {ld:List Int}:(hdrB p c v r ld).drop 2=.vg 46 v :: I r :: ld.map I:=rfl
theorem hdr_3 {p c:Int} {v:Nat} {r:Int} {ld:List Int}:(hdrB p c v r ld).drop 3=I r :: ld.map I:=rfl
theorem hdr_r {p c:Int} {v:Nat} {r r':Int} {ld:List Int}:(hdrB p c v r ld).take 3++V.d (D.at (Value.int IntKind.i64 r')) :: (hdrB p c v r ld).drop 4=hdrB p c v r' ld:=rfl
theorem hdr_ld {p c:Int} {v:Nat} {r x:Int} {ld:List Int} {k:Nat} (h:k<ld.length):(hdrB p c v r ld).take (4+k*1)++V.d (D.at (Value.int IntKind.i64 x)) :: (hdrB p c v r ld).drop (4+k*1+1)=hdrB p c v r (ld.set k x):=by
 have e:4+k*1=k+4:=by omega
 have e2:4+k*1+1=(k+1)+4:=by omega
 rw[e2,e]
 simp only[hdrB,List.take_succ_cons,List.drop_succ_cons,List.cons_append]
 rw[List.map_set,List.set_eq_take_append_cons_drop,lm,if_pos h]
 rfl
theorem swp_lo {i j k:Nat} (h:k<800000):swp (i+800000) (j+800000) k=k:=by
 unfold swp
 rw[if_neg (by omega),if_neg (by omega)]
theorem pivN_step {rows:List (List Int)} {k i:Nat} (hi:i<rows.length) (h0:(rows.getD i []).getD k 0=0):pivN rows k i (rows.length-i)=pivN rows k (i+1) (rows.length-(i+1)):=by
 rw[show rows.length-i=(rows.length-(i+1))+1 by omega,pivN,if_pos h0]
theorem pivN_stop {rows:List (List Int)} {k i:Nat} (hi:i<rows.length) (h0:(rows.getD i []).getD k 0 ≠ 0):pivN rows k i (rows.length-i)=i:=by
 rw[show rows.length-i=(rows.length-(i+1))+1 by omega,pivN,if_neg h0]
theorem swapL_get {rows:List (List Int)} {r i j:Nat} (hr:r<rows.length) (hi:i<rows.length) (hj:j<rows.length):(swapL rows r i).getD j []=if j=r then rows.getD i [] else if j=i then rows.getD r [] else rows.getD j []:=by
 unfold swapL
 rw[List.getD_eq_getElem?_getD,List.getElem?_set]
 by_cases e:i=j
 ·subst e
  rw[if_pos rfl,if_pos (by rw[List.length_set];exact hi)]
  by_cases e2:i=r
  ·subst e2;simp
  ·rw[if_neg e2,if_pos rfl];simp
 ·rw[if_neg e,List.getElem?_set]
  by_cases e2:r=j
  ·subst e2
   rw[if_pos rfl,if_pos hr,if_pos rfl];simp
  ·rw[if_neg e2,if_neg (Ne.symm e2),if_neg (Ne.symm e),← List.getD_eq_getElem?_getD]
theorem swp_at {r i j:Nat}:swp (r+800000) (i+800000) (j+800000)=(if j=r then i else if j=i then r else j)+800000:=by
 unfold swp
 by_cases h:j=r
 ·rw[if_pos (by omega),if_pos h]
 ·rw[if_neg (by omega),if_neg h]
  by_cases h2:j=i
  ·rw[if_pos (by omega),if_pos h2]
  ·rw[if_neg (by omega),if_neg h2]
def dl (i:Nat):Nat:=if 800000≤i then 1 else 0
theorem dl_hi {j:Nat}:dl (j+800000)=1:=by unfold dl;rw[if_pos (by omega)]
theorem dl_lo {i:Nat} (h:i<800000):dl i=0:=by unfold dl;rw[if_neg (by omega)]
theorem rns_ints {σ δ:Nat→Nat}:∀ {l:List Int},V.rns σ δ (l.map I)=l.map I
 |[]=>rfl
 |x :: l=>by simp only[List.map_cons,V.rns,rns_ints];rfl
theorem rns_hdr {σ δ:Nat→Nat} (h:σ 46=46) (h2:δ 46=0) {p c:Int} {v:Nat} {r:Int} {ld:List Int}:V.rns σ δ (hdrB p c v r ld)=hdrB p c v r ld:=by
 simp only[hdrB,V.rns,rns_ints,V.rn,h,h2,Nat.add_zero];rfl
theorem rns_swap {u n r i:Nat} (hr:r<n) (hi:i<n):V.rns (swp (r+800000) (i+800000)) dl (((cellsF u n).set r (.og (i+800000) u)).set i (.og (r+800000) u))=cellsF (u+1) n:=by
 rw[rns_map]
 apply List.ext_getElem (by simp [cellsF])
 intro j h1 h2
 rw[List.getElem_map,List.getElem_set]
 have e0:(cellsF (u+1) n)[j]=.og (j+800000) (u+1):=by simp [cellsF]
 rw[e0]
 by_cases e:i=j
 ·subst e
  rw[if_pos rfl]
  simp only[V.rn,swp_at,dl_hi]
  simp
 ·rw[if_neg e,List.getElem_set]
  by_cases e2:r=j
  ·subst e2
   rw[if_pos rfl]
   simp only[V.rn,swp_at,dl_hi]
   split
   ·rename_i h;rw[h]
   ·simp
  ·rw[if_neg e2]
   have e1:(cellsF u n)[j]'(by rw[cellsF_len];simpa [cellsF] using h2)=.og (j+800000) u:=by simp [cellsF]
   rw[e1]
   simp only[V.rn,swp_at,dl_hi]
   rw[if_neg (Ne.symm e2),if_neg (Ne.symm e)]
theorem rns_cells {u n:Nat}:V.rns (fun i=>i) dl (cellsF u n)=cellsF (u+1) n:=by
 rw[rns_map]
 unfold cellsF
 rw[List.map_map]
 refine List.map_congr_left fun j _=>?_
 simp only[Function.comp,V.rn,dl_hi]
theorem wk_bump {cx:Cx} {u v:Nat} {rows:List (List Int)} {p c r:Int} {ld:List Int} {T:Nat→V} {m:M} {rows0:List (List Int)} {hdr0:List V} (hm0:cx.m0=famM u v rows0 hdr0) (hlen:rows0.length=rows.length) (hm:m=famM u v rows (hdrB p c v r ld)):Wk cx ⟨T,m⟩ ⟨fun t=>(T t).rn (fun i=>i) dl,famM (u+1) v rows (hdrB p c v r ld)⟩:=by
 subst hm
 have:=Wk.rn (cx:=cx) (s:=⟨T,famM u v rows (hdrB p c v r ld)⟩) (fun i=>i) dl (fun _=>rfl) fun i o hi=>by
  rw[hm0] at hi
  rcases famM_some hi with ⟨rfl,rfl⟩|⟨rfl,rfl⟩|⟨j,hj,rfl,rfl⟩
  ·exact .inl ⟨rfl,rfl⟩
  ·exact .inl ⟨rfl,rfl⟩
  ·have g:=famM_at (u:=u) (v:=v) (hdr:=hdrB p c v r ld) (rows:=rows) (j:=j) (by omega)
   refine .inr ⟨.arr u 1 true ((rows.getD j []).map eI),?_,?_⟩
   ·simp only[g]
   ·simp only[O.ver,dl_hi]
    exact Nat.lt_succ_self u
 refine this.trans ?_
 have e:(St.rn (fun i=>i) dl ⟨T,famM u v rows (hdrB p c v r ld)⟩)=⟨fun t=>(T t).rn (fun i=>i) dl,famM (u+1) v rows (hdrB p c v r ld)⟩:=by
  unfold St.rn
  congr 1
  funext i
  simp only[famM,up_at]
  split
  ·subst_vars
   simp only[Option.map_some,O.rn,dl_lo (show 13<800000 by omega),rns_hdr (σ:=fun i=>i) (δ:=dl) rfl rfl]
  split
  ·subst_vars
   simp only[Option.map_some,O.rn,dl_lo (show 46<800000 by omega),rns_cells,Nat.add_zero]
  ·unfold fam
   split
   ·rename_i h
    simp only[Option.map_some,O.rn,dl,if_pos h.1]
   ·rfl
 rw[e]
 exact Wk.refl
theorem famM_set {u v:Nat} {rows:List (List Int)} {hdr:List V} {r:Nat} {x:List Int} (h:r<rows.length):up (famM u v rows hdr) (r+800000) (some (.arr u 1 true (x.map eI)))=famM u v (rows.set r x) hdr:=by
 funext i
 simp only[famM,up_at,List.length_set]
 by_cases e13:i=13
 ·rw[if_neg (by omega),if_pos e13,if_pos e13]
 rw[if_neg e13,if_neg e13]
 by_cases e46:i=46
 ·rw[if_neg (by omega),if_pos e46,if_pos e46]
 rw[if_neg e46,if_neg e46]
 unfold fam
 rw[List.length_set]
 by_cases e:i=r+800000
 ·subst e
  rw[if_pos rfl,if_pos (by omega),Nat.add_sub_cancel,List.getD_eq_getElem?_getD,List.getElem?_set,if_pos rfl,if_pos h];rfl
 ·rw[if_neg e]
  by_cases hc:800000≤i∧i<800000+rows.length
  ·rw[if_pos hc,if_pos hc,List.getD_eq_getElem?_getD,List.getD_eq_getElem?_getD,List.getElem?_set,if_neg (by omega)]
  ·rw[if_neg hc,if_neg hc]
theorem wk_famE {cx:Cx} {T:Nat→V} {m:M} {u v:Nat} {rows:List (List Int)} {p c r:Int} {ld:List Int} (T0:List (Nat × V)) (hm:m=famM u v rows (hdrB p c v r ld))
  (hT:TW m (famM u v rows (hdrB p c v r ld)) [] T T0) (hP:∀ i o,cx.m0 i=some o→i=13∨i=46∨∃ j,j<rows.length∧i=j+800000):Wk cx ⟨T,m⟩ ⟨tl T0,famM u v rows (hdrB p c v r ld)⟩:=by
 subst hm
 exact wk_fam _ famM_13 famM_46 (fun j hj=>famM_at hj) hT hP
theorem addStep_in {p x:Int} {L r:List Int} {k:Nat} (hp:1≤p) (hL:L.all (inE p)=true):(addStep p x L r k).all (inE p)=true:=by
 rw[List.all_eq_true] at hL ⊢
 intro y hy
 obtain⟨i,hi,rfl⟩:=List.mem_iff_getElem.1 hy
 simp only[addStep,List.getElem_map,List.getElem_range,addStep,lm,List.length_range] at hi ⊢
 split
 ·exact inE_iff.2 ⟨Int.emod_nonneg _ (by omega),Int.emod_lt_of_pos _ (by omega)⟩
 ·exact hL _ (mem_getD _ _ _ hi)
theorem scaleN_in {p b:Int} {row:List Int} {k:Nat} (hp:1≤p) (hL:row.all (inE p)=true):(scaleN p b row k).all (inE p)=true:=by
 rw[List.all_eq_true] at hL ⊢
 intro y hy
 obtain⟨i,hi,rfl⟩:=List.mem_iff_getElem.1 hy
 simp only[scaleN,List.getElem_map,List.getElem_range,lm,List.length_range] at hi ⊢
 split
 ·exact inE_iff.2 ⟨Int.emod_nonneg _ (by omega),Int.emod_lt_of_pos _ (by omega)⟩
 ·exact hL _ (mem_getD _ _ _ hi)
theorem getD_set {α:Type} {l:List α} {i j:Nat} {x d:α} (hi:i<l.length):(l.set i x).getD j d=if i=j then x else l.getD j d:=by
 rw[List.getD_eq_getElem?_getD,List.getElem?_set,List.getD_eq_getElem?_getD]
 by_cases e:i=j
 ·rw[if_pos e,if_pos hi,if_pos e];rfl
 ·rw[if_neg e,if_neg e]
theorem RowsC.set {p:Int} {c:Nat} {rows:List (List Int)} (h:RowsC p c rows) {i:Nat} {x:List Int} (hx:x.length=c+1∧x.all (inE p)=true):RowsC p c (rows.set i x):=fun row hr=>by
 rcases List.mem_or_eq_of_mem_set hr with h1|rfl
 ·exact h row h1
 ·exact hx
theorem RowsC.at {p:Int} {c:Nat} {rows:List (List Int)} (h:RowsC p c rows) {i:Nat} (hi:i<rows.length):(rows.getD i []).length=c+1∧(rows.getD i []).all (inE p)=true:=h _ (mem_getD _ _ _ hi)
theorem elimN_rows {p:Int} {c k r:Nat} {first:List Int} (hp:1≤p) {rows:List (List Int)} (h:RowsC p c rows):∀ {n:Nat},n≤rows.length→RowsC p c (elimN p k r first rows n)
 |0,_=>h
 |n+1,hn=>by
  simp only[elimN]
  have ih:=elimN_rows (k:=k) (r:=r) (first:=first) hp h (n:=n) (by omega)
  have hg:=ih.at (i:=n) (by rw[elimN_len];omega)
  split
  ·exact ih.set ⟨by rw[addStep_len];exact hg.1,addStep_in hp hg.2⟩
  ·exact ih
theorem elimN_r {p:Int} {k r:Nat} {first:List Int} {rows:List (List Int)}:∀ {n:Nat},n≤rows.length→(elimN p k r first rows n).getD r []=rows.getD r []
 |0,_=>rfl
 |n+1,hn=>by
  simp only[elimN]
  have ih:=elimN_r (p:=p) (k:=k) (r:=r) (first:=first) (rows:=rows) (n:=n) (by omega)
  split
  ·rename_i h
   rw[getD_set (by rw[elimN_len];omega),if_neg h.1,ih]
  ·exact ih
theorem wfB_ints {v:Nat} {l:List Int}:(O.arr v 1 true (l.map eI)).wfB=true:=by
 simp [O.wfB,eI]
theorem addTimesAt (p x:Int) (L r:List Int) (i u:Nat) (hi:i<1000000) (hp:1≤p) (hp2:p≤65521) (hx:0≤x∧x<p) (hL:L.all (inE p)=true) (hr:r.all (inE p)=true) (hl:r.length≤L.length) (hb:r.length≤1000000):Does Tryz.prog 48 [I p,.og i u,I x,.d (dInts r)] [(i,.arr u 1 true (L.map eI))] (.tu []) [(i,.arr u 1 true ((addStep p x L r r.length).map eI))] []:=by
 have h:=(addTimes p x L r hp hp2 hx (fun i hi=>all_get hL hi) (fun i hi=>all_get hr hi) hl hb).nm [(900000,i,u)] (by simp [rhoOK,hi]) rfl rfl rfl (by simp [O.wfB,eI]) (by simp [O.wfB,eI]) rfl rfl rfl
 simpa [V.nms,V.nm,nmU,rl,O.addv,I] using h
theorem leadL (u v:Nat) (p:Int) (c:Nat) (rows:List (List Int)) (k r:Nat) (ld:List Int) (hf:fieldB p=true) (hn:1≤rows.length) (hn2:rows.length≤32) (hr:r≤rows.length) (hc:c≤32) (hk:k<c) (hrow:RowsC p c rows) (hl:ld.length=32) :
  DoesL Tryz.prog 147 [.bp 13 0 0,I k] (famM u v rows (hdrB p c v r ld)) (.tu []) (usF (u+1) v (leadR p rows k r) (hdrB p c v (leadK rows k r) (leadD rows k r ld))):=by
 refine does_ofL Tryz.func147 (by kernel_rfl:Tryz.f147.body=some (Tryz.f147.body.getD .skip)) rfl c_solve_reduced_lead (by kernel_rfl) (of_decide_eq_true (by kernel_rfl)) fun cx _ hm0=>?_
 rw[ups_fam leadR_len]
 refine go_in 5000 ?_
 unfold A103'
 have hL:∀ {r:Int},(hdrB p c v r ld).length=36:=hdr_len hl
 repeat' (first|simp (maxSteps:=9999999) only[↓GE,PL,PP,EE,QQ,seval,famM_13,famM_46,hdr_3,hL]|(simp (disch:=omega) only[i6])|(apply go_brD<;>intro h)|(apply go_gsD aE<;>intro h)|(apply go_br<;>intro h)|(apply go_gs aE<;>intro h)|(with_reducible apply And.intro)|exact aG|fail)
 refine go_loopG 5000 (ι:={i:Nat // i≤rows.length∧piv rows k r=pivN rows k i (rows.length-i)}) (fun i=>[(0,.bp 13 0 0),(1,I k),(4,I i.1)]) (fun _=>famM u v rows (hdrB p c v r ld)) (fun i=>rows.length-i.1) ⟨r,hr,rfl⟩ ?_ ?_
 ·refine wk_fam _ famM_13 famM_46 (fun j hj=>famM_at hj) ?_ (famP hm0 rfl)
  (simp (config:={ maxSteps:=1000000 }) only[TW,W,Option.isSome_some,List.not_mem_nil,famM_13,EE,QQ,seval])
 ·rintro⟨i,hi,hv⟩
  simp only
  have hlen:∀ j,j<rows.length→(rows.getD j []).length=c+1:=fun j hj=>(hrow _ (mem_getD _ _ _ hj)).1
  by_cases hin:i<rows.length
  ·have fa:=famM_at (u:=u) (v:=v) (hdr:=hdrB p c v r ld) hin
   have cg:=cellsF_get (u:=u) hin
   have q1:decide ((i:Int)<(rows.length:Int))=true:=dt (by omega)
   have hs:=getD_map eI [] 0 (rows.getD i []) k (by rw[hlen i hin];omega)
   have q2:k<(rows.getD i []).length:=by rw[hlen i hin];omega
   by_cases h0:(rows.getD i []).getD k 0=0
   ·have q3:((rows.getD i []).getD k 0 == 0)=true:=by simpa using h0
    have w:IntKind.i64.wrap ((i:Int)+1)=((i+1:Nat):Int):=by rw[i6 _ (by omega)];omega
    repeat' (first|simp (maxSteps:=9999999) only[↓GE,PL,PP,EE,QQ,seval,famM_13,famM_46,hdr_2,hL,cellsF_len,q1,hin,cg,fa,hs,q2,q3,w,eI,lm]|(simp (disch:=omega) only[i6])|(apply go_brD<;>intro h)|(apply go_gsD aE<;>intro h)|(apply go_br<;>intro h)|(apply go_gs aE<;>intro h)|(with_reducible apply And.intro)|exact aG|fail)
    refine⟨⟨i+1,hin,by rw[hv,pivN_step hin h0]⟩,?_,by simp only;omega⟩
    refine wk_fam _ famM_13 famM_46 (fun j hj=>famM_at hj) ?_ (famP hm0 rfl)
    (simp (config:={ maxSteps:=1000000 }) only[TW,W,Option.isSome_some,List.not_mem_nil,famM_13,EE,QQ,seval])
   ·have q3:((rows.getD i []).getD k 0 == 0)=false:=by simpa using h0
    rw[pivN_stop hin h0] at hv
    have q4:((i:Int) == (rows.length:Int))=false:=by simp;omega
    have hri:r≤i:=by have:=piv_in (k:=k) hr;omega
    have hrn:r<rows.length:=by omega
    have cg2:=cellsF_get (u:=u) hrn
    have cg3:(((cellsF u rows.length).set r (.og (i+800000) u)).set i (.og (r+800000) u)).getD r .un=.og (i+800000) u:=by
     rw[List.getD_eq_getElem?_getD,List.getElem?_set]
     by_cases e:i=r
     ·subst e
      rw[if_pos rfl,if_pos (by rw[List.length_set,cellsF_len];exact hin)]
      rfl
     ·rw[if_neg e,List.getElem?_set,if_pos rfl,if_pos (by rw[cellsF_len];exact hrn)]
      rfl
    have hx:=all_get (hrow _ (mem_getD _ _ _ hin)).2 (i:=k) q2
    have e1:=inverse p _ hf ⟨show 0<(rows.getD i []).getD k 0 by omega,hx.2⟩
    repeat' (first|simp (maxSteps:=9999999) only[↓GE,PL,PP,EE,QQ,seval,famM_13,famM_46,hdr_0,hdr_2,hdr_3,hL,cellsF_len,q1,hin,hrn,cg,cg2,cg3,fa,hs,q2,q3,q4,eI,lm,List.length_set]|(simp (disch:=omega) only[i6])|(apply go_brD<;>intro h)|(apply go_gsD aE<;>intro h)|(apply go_br<;>intro h)|(apply go_gs aE<;>intro h)|(apply go_call 5000 (e1) rfl rfl;iterate 4 (first|(exact CallForm.plain rfl)|exact aC))|(with_reducible apply And.intro)|exact aG|fail)
    generalize hrow0:rows.getD i []=row at *
    have hrl:row.length=c+1:=by rw[← hrow0];exact hlen i hin
    have hra:row.all (inE p)=true:=by rw[← hrow0];exact (hrow _ (mem_getD _ _ _ hin)).2
    have hsl:(swapL rows r i).length=rows.length:=swapL_len
    generalize hby:invI p (row.getD k 0)=b at *
    have hb:=invI_in (p:=p) (a:=row.getD k 0) (fieldB_iff.1 hf).1
    rw[hby] at hb
    refine go_loopG 5000 (ι:={c':Nat // c'≤row.length}) (fun c'=>[(0,.bp 13 0 0),(1,I k),(5,.og (r+800000) (u+1)),(6,I b),(95,.og (r+800000) (u+1)),(96,I row.length),(97,I c'.1)]) (fun c'=>famM (u+1) v ((swapL rows r i).set r (scaleN p b row c'.1)) (hdrB p c v r ld)) (fun c'=>row.length-c'.1) ⟨0,Nat.zero_le _⟩ ?_ ?_
    ·have hs46:swp (r+800000) (i+800000) 46=46:=swp_lo (by omega)
     have hs13:swp (r+800000) (i+800000) 13=13:=swp_lo (by omega)
     have hd46:dl 46=0:=dl_lo (by omega)
     have hd13:dl 13=0:=dl_lo (by omega)
     have hsir:swp (r+800000) (i+800000) (i+800000)=r+800000:=by rw[swp_at];split <;> simp_all
     refine Wk.trans (Wk.rn (swp (r+800000) (i+800000)) dl (swp_swp _ _) fun j o hj=>?_) (wk_fam _ ?_ ?_ (fun j hj=>?_) ?_ (famP hm0 (by rw[List.length_set,hsl])))
     ·rw[hm0] at hj
      rcases famM_some hj with ⟨rfl,rfl⟩|⟨rfl,rfl⟩|⟨k',hk',rfl,rfl⟩
      ·exact .inl ⟨hs13,hd13⟩
      ·exact .inl ⟨hs46,hd46⟩
      ·rw[swp_at]
       have hs:(if k'=r then i else if k'=i then r else k')<rows.length:=by split <;> (try split) <;> omega
       generalize (if k'=r then i else if k'=i then r else k')=s' at hs ⊢
       have g:=famM_at (u:=u) (v:=v) (hdr:=hdrB p c v r ld) hs
       refine .inr ⟨.arr u 1 true ((rows.getD s' []).map eI),?_,?_⟩
       ·simp only[up_at,show ¬(s'+800000=46) by omega,if_false,g]
       ·simp only[O.ver,dl_hi]
        exact Nat.lt_succ_self u
     ·simp only[St.rn,hs13,hd13,up_at,show ¬(13=46) by decide,if_false,famM_13,Option.map_some,O.rn,rns_hdr hs46 hd46]
     ·simp only[St.rn,hs46,hd46,up_at,if_true,Option.map_some,O.rn,rns_swap hrn hin,List.length_set,hsl,Nat.add_zero]
     ·simp only[St.rn,swp_at,dl_hi]
      rw[List.length_set,hsl] at hj
      have hs:(if j=r then i else if j=i then r else j)<rows.length:=by split <;> (try split) <;> omega
      have hg:=swapL_get hrn hin hj
      have e3:((swapL rows r i).set r (scaleN p b row 0)).getD j []=rows.getD (if j=r then i else if j=i then r else j) []:=by
       rw[scaleN_zero,List.getD_eq_getElem?_getD,List.getElem?_set]
       by_cases e:r=j
       ·subst e
        rw[if_pos rfl,if_pos (by rw[hsl];exact hrn),if_pos rfl,hrow0]
        rfl
       ·rw[if_neg e,← List.getD_eq_getElem?_getD,hg,if_neg (Ne.symm e),if_neg (Ne.symm e)]
        split <;> rfl
      rw[e3]
      generalize (if j=r then i else if j=i then r else j)=s' at hs ⊢
      have g:=famM_at (u:=u) (v:=v) (hdr:=hdrB p c v r ld) hs
      simp only[up_at,show ¬(s'+800000=46) by omega,if_false,g,Option.map_some,O.rn]
     ·simp only[St.rn]
      (simp (config:={ maxSteps:=1000000 }) only[TW,W,Option.isSome_some,List.not_mem_nil,hs13,hd13,hs46,hd46,hsir,dl_hi,famM_13,V.rn,famM_46,EE,QQ,seval])
      rw[famM_at (by rw[List.length_set,hsl];exact hrn)];rfl
    ·rintro⟨c',hc'⟩
     simp only
     have fr:∀ x:List Int,famM (u+1) v ((swapL rows r i).set r x) (hdrB p c v r ld) (r+800000)=some (.arr (u+1) 1 true (x.map eI)):=fun x=>by
      rw[famM_at (by rw[List.length_set,hsl];exact hrn),List.getD_eq_getElem?_getD,List.getElem?_set,if_pos rfl,if_pos (by rw[hsl];exact hrn)];rfl
     have frs:=fr (scaleN p b row c')
     by_cases hlt:c'<row.length
     ·have q5:decide ((c':Int)<(row.length:Int))=true:=dt (by omega)
      have hs2:=getD_map eI [] 0 (scaleN p b row c') c' (by rw[scaleN_len];exact hlt)
      have hs3:(scaleN p b row c').getD c' 0=row.getD c' 0:=by rw[scaleN_get hlt,if_neg (by omega)]
      have hq2:=all_get hra hlt
      have hn:=scaleN_next (p:=p) (b:=b) hlt
      have hf1:=(fieldB_iff.1 hf).1
      have hf2:=(fieldB_iff.1 hf).2.1
      have e5:=fmul p (row.getD c' 0) b (by omega) hf2 hq2 hb
      have w5:IntKind.i64.wrap ((c':Int)+1)=((c'+1:Nat):Int):=by rw[i6 _ (by omega)];omega
      repeat' (first|simp (maxSteps:=9999999) only[↓GE,PL,PP,EE,QQ,seval,famM_13,famM_46,hdr_0,hdr_2,hdr_3,hL,q5,frs,hs2,hs3,w5,eI,scaleN_len,lm,List.length_set,hlt]|(simp (disch:=omega) only[i6])|(apply go_brD<;>intro h)|(apply go_gsD aE<;>intro h)|(apply go_br<;>intro h)|(apply go_gs aE<;>intro h)|(apply go_call 5000 (e5) rfl rfl;iterate 4 (first|(exact CallForm.plain rfl)|exact aC))|(with_reducible apply And.intro)|exact aG|fail)
      refine⟨⟨c'+1,hlt⟩,?_,by simp only;omega⟩
      refine wk_famE _ ?_ ?_ (famP hm0 (by rw[List.length_set,hsl]))
      ·rw[show [D.at (Value.int IntKind.i64 (row.getD c' 0*b % p))]=eI (row.getD c' 0*b % p) from rfl,← List.map_set,hn,famM_set (by rw[List.length_set,hsl];exact hrn),List.set_set]
      ·(simp (config:={ maxSteps:=1000000 }) only[TW,W,Option.isSome_some,List.not_mem_nil,famM_13,frs,fr,EE,QQ,seval])
     ·obtain rfl:c'=row.length:=by omega
      have q5:decide ((row.length:Int)<(row.length:Int))=false:=df (by omega)
      repeat' (first|simp (maxSteps:=9999999) only[↓GE,PL,PP,EE,QQ,seval,famM_13,famM_46,hdr_0,hdr_2,hdr_3,hL,q5,frs,eI,scaleN_len,lm,List.length_set]|(simp (disch:=omega) only[i6])|(apply go_brD<;>intro h)|(apply go_gsD aE<;>intro h)|(apply go_br<;>intro h)|(apply go_gs aE<;>intro h)|(with_reducible apply And.intro)|exact aG|fail)
      generalize hfi:scaleN p b row row.length=first at *
      have hfl:first.length=c+1:=by rw[← hfi,scaleN_len];exact hrl
      have hfa:first.all (inE p)=true:=by rw[← hfi];exact scaleN_in (by omega) hra
      generalize hS0:(swapL rows r i).set r first=S0 at *
      have hSl:S0.length=rows.length:=by rw[← hS0,List.length_set,hsl]
      have hSr:S0.getD r []=first:=by rw[← hS0,getD_set (by rw[hsl];exact hrn),if_pos rfl]
      have hSC:RowsC p c S0:=by
       rw[← hS0]
       refine RowsC.set (fun x hx=>?_) ⟨hfl,hfa⟩
       obtain⟨j,hj,rfl⟩:=List.mem_iff_getElem.1 hx
       rw[hsl] at hj
       have e:=swapL_get hrn hin hj
       rw[List.getD_eq_getElem?_getD,List.getElem?_eq_getElem (by rw[hsl];exact hj)] at e
       simp only[Option.getD_some] at e
       rw[e]
       split
       ·rw[hrow0];exact⟨hrl,hra⟩
       split
       ·exact hrow.at hrn
       ·exact hrow.at hj
      refine go_loopG 5000 (ι:={n:Nat // n≤rows.length}) (fun n=>[(0,.bp 13 0 0),(1,I k),(5,.og (r+800000) (u+1)),(116,.vg 46 v),(117,I rows.length),(118,I n.1)]) (fun n=>famM (u+1) v (elimN p k r first S0 n.1) (hdrB p c v r ld)) (fun n=>rows.length-n.1) ⟨0,Nat.zero_le _⟩ ?_ ?_
      ·refine wk_famE _ rfl ?_ (famP hm0 hSl.symm)
       (simp (config:={ maxSteps:=1000000 }) only[TW,W,Option.isSome_some,List.not_mem_nil,famM_13,frs,fr,famM_46,elimN,cellsF_len,hsl,EE,QQ,seval])
      ·rintro⟨n,hn⟩
       simp only
       have hEl:(elimN p k r first S0 n).length=rows.length:=by rw[elimN_len,hSl]
       have hEC:=elimN_rows (p:=p) (k:=k) (r:=r) (first:=first) (by omega) hSC (n:=n) (by omega)
       have hEr:=elimN_r (p:=p) (k:=k) (r:=r) (first:=first) (rows:=S0) (n:=n) (by omega)
       rw[hSr] at hEr
       have hEs:elimN p k r first S0 (n+1)=if n ≠ r∧((elimN p k r first S0 n).getD n []).getD k 0 ≠ 0 then (elimN p k r first S0 n).set n (addStep p ((0-((elimN p k r first S0 n).getD n []).getD k 0+p) % p) ((elimN p k r first S0 n).getD n []) first first.length) else elimN p k r first S0 n:=rfl
       generalize hEd:elimN p k r first S0 n=E at *
       by_cases hnr:n<rows.length
       ·have fr6:(famM (u+1) v (elimN p k r first S0 (n+1)) (hdrB p c v r ld) (r+800000)).isSome=true:=by rw[famM_at (by rw[elimN_len,hSl];exact hrn)];rfl
        have w6:IntKind.i64.wrap ((n:Int)+1)=((n+1:Nat):Int):=by rw[i6 _ (by omega)];omega
        have q6:decide ((n:Int)<(rows.length:Int))=true:=dt (by omega)
        have fe:=famM_at (u:=u+1) (v:=v) (hdr:=hdrB p c v r ld) (rows:=E) (j:=n) (by omega)
        have cg6:=cellsF_get (u:=u+1) hnr
        have hEn:=hEC.at (i:=n) (by omega)
        by_cases hne:n=r
        ·subst hne
         rw[hEr] at fe
         have q7:((n:Int) != (n:Int))=false:=by simp
         rw[if_neg (by simp)] at hEs
         repeat' (first|simp (maxSteps:=9999999) only[↓GE,PL,PP,EE,QQ,seval,famM_13,famM_46,hdr_0,hdr_2,hdr_3,hL,hEl,cellsF_len,q6,q7,cg6,fe,hnr,w6,eI,lm,List.length_set]|(simp (disch:=omega) only[i6])|(apply go_brD<;>intro h)|(apply go_gsD aE<;>intro h)|(apply go_br<;>intro h)|(apply go_gs aE<;>intro h)|(with_reducible apply And.intro)|exact aG|fail)
         refine⟨⟨n+1,hnr⟩,?_,by simp only;omega⟩
         refine wk_famE _ ?_ ?_ (famP hm0 (by rw[elimN_len,hSl]))
         ·simp only[hEs]
         ·(simp (config:={ maxSteps:=1000000 }) only[TW,W,Option.isSome_some,List.not_mem_nil,famM_13,frs,fr,famM_46,fr6,EE,QQ,seval])
        ·have q7:((n:Int) != (r:Int))=true:=by simp;omega
         have fe2:=famM_at (u:=u+1) (v:=v) (hdr:=hdrB p c v r ld) (rows:=E) (j:=r) (by omega)
         rw[hEr] at fe2
         have hsn:=getD_map eI [] 0 (E.getD n []) k (by rw[hEn.1];omega)
         have qn:k<(E.getD n []).length:=by rw[hEn.1];omega
         generalize hrn0:E.getD n []=rw0 at *
         by_cases hz:rw0.getD k 0=0
         ·have q8:(rw0.getD k 0 != 0)=false:=by simpa using hz
          rw[if_neg (fun h=>h.2 hz)] at hEs
          repeat' (first|simp (maxSteps:=9999999) only[↓GE,PL,PP,EE,QQ,seval,famM_13,famM_46,hdr_0,hdr_2,hdr_3,hL,hEl,cellsF_len,q6,q7,q8,cg6,fe,fe2,hsn,qn,hnr,w6,eI,lm,List.length_set]|(simp (disch:=omega) only[i6])|(apply go_brD<;>intro h)|(apply go_gsD aE<;>intro h)|(apply go_br<;>intro h)|(apply go_gs aE<;>intro h)|(with_reducible apply And.intro)|exact aG|fail)
          refine⟨⟨n+1,hnr⟩,?_,by simp only;omega⟩
          refine wk_famE _ ?_ ?_ (famP hm0 (by rw[elimN_len,hSl]))
          ·simp only[hEs]
          ·(simp (config:={ maxSteps:=1000000 }) only[TW,W,Option.isSome_some,List.not_mem_nil,famM_13,frs,fr,famM_46,fr6,EE,QQ,seval])
         ·have q8:(rw0.getD k 0 != 0)=true:=by simpa using hz
          rw[if_pos ⟨hne,hz⟩] at hEs
          have hq8:=all_get hEn.2 qn
          have hf1:=(fieldB_iff.1 hf).1
          have hf2:=(fieldB_iff.1 hf).2.1
          have e7:=fsub p 0 (rw0.getD k 0) (by omega) hf2 ⟨by omega,by omega⟩ hq8
          repeat' (first|simp (maxSteps:=9999999) only[↓GE,PL,PP,EE,QQ,seval,famM_13,famM_46,hdr_0,hdr_2,hdr_3,hL,hEl,cellsF_len,q6,q7,q8,cg6,fe,fe2,hsn,qn,hnr,w6,eI,lm,List.length_set]|(simp (disch:=omega) only[i6])|(apply go_brD<;>intro h)|(apply go_gsD aE<;>intro h)|(apply go_br<;>intro h)|(apply go_gs aE<;>intro h)|(apply go_call 5000 (e7) rfl rfl;iterate 4 (first|(exact CallForm.plain rfl)|exact aC))|(with_reducible apply And.intro)|exact aG|fail)
          generalize hy:(0-rw0.getD k 0+p) % p=y at *
          have hyb:0≤y∧y<p:=by rw[← hy];exact⟨Int.emod_nonneg _ (by omega),Int.emod_lt_of_pos _ (by omega)⟩
          have e8:=addTimesAt p y rw0 first (n+800000) (u+1) (by omega) (by omega) hf2 hyb hEn.2 hfa (by omega) (by omega)
          refine go_callB 5000 e8 rfl rfl ?_ (CallForm.lent ?_ rfl rfl) ?_ rfl rfl ?_
          ·simp only[argFs,argF,I,true_and,and_true,fe,fe2,inU]
           exact⟨⟨1,_,rfl,List.mem_cons_self⟩,if_neg (by omega),1,true,_,rfl,rfl⟩
          ·simp only[formU,fe]
           exact⟨⟨trivial,rfl,by omega,.inr (by simp only[Option.getD_some,List.length_nil];omega),wfB_ints,rfl,wfB_ints,trivial,rfl⟩,trivial⟩
          ·simp [V.scal,V.scals,O.scal,O.live,eI,scD]
          ·repeat' (first|simp (maxSteps:=9999999) only[↓GE,PL,PP,EE,QQ,seval,famM_13,famM_46,hdr_0,hdr_2,hdr_3,hL,hEl,cellsF_len,q6,q7,q8,cg6,fe,fe2,hsn,qn,hnr,w6,eI,lm,List.length_set]|(simp (disch:=omega) only[i6])|(apply go_brD<;>intro h)|(apply go_gsD aE<;>intro h)|(apply go_br<;>intro h)|(apply go_gs aE<;>intro h)|(with_reducible apply And.intro)|exact aG|fail)
           refine⟨⟨n+1,hnr⟩,?_,by simp only;omega⟩
           refine wk_famE _ ?_ ?_ (famP hm0 (by rw[elimN_len,hSl]))
           ·simp only[hEs]
            exact famM_set (by omega)
           ·(simp (config:={ maxSteps:=1000000 }) only[TW,W,Option.isSome_some,List.not_mem_nil,famM_13,frs,fr,famM_46,fr6,EE,QQ,seval])
       ·obtain rfl:n=rows.length:=by omega
        have q6:decide ((rows.length:Int)<(rows.length:Int))=false:=df (by omega)
        have hk1:4+k*1≤35:=by omega
        have w7:IntKind.i64.wrap ((r:Int)+1)=((r+1:Nat):Int):=by rw[i6 _ (by omega)];omega
        repeat' (first|simp (maxSteps:=9999999) only[↓GE,PL,PP,EE,QQ,seval,famM_13,famM_46,hdr_0,hdr_2,hdr_3,hdr_r,hdr_ld (show k<ld.length by omega),hk1,hL,hEl,cellsF_len,q6,w7,eI,lm,List.length_set]|(simp (disch:=omega) only[i6])|(apply go_brD<;>intro h)|(apply go_gsD aE<;>intro h)|(apply go_br<;>intro h)|(apply go_gs aE<;>intro h)|(with_reducible apply And.intro)|exact aG|fail)
        have hv3:piv rows k r=i:=hv
        have e1:leadR p rows k r=E:=by rw[leadR,if_pos (by omega),firstF,hv3,hrow0,hby,hfi,hS0,hEd]
        have e2:leadK rows k r=r+1:=by rw[leadK,if_pos (by omega)]
        have e3:leadD rows k r ld=ld.set k ((r+1:Nat):Int):=by rw[leadD,if_pos (by omega)]
        rw[e1,e2,e3]
        have e4:∀ {hdr hdr2:List V},up (famM (u+1) v E hdr) 13 (some (.box 0 hdr2))=famM (u+1) v E hdr2:=by
         intro hdr hdr2
         funext i
         simp only[famM,up_at]
         split
         ·rfl
         ·rfl
        have e5:∀ {hdr hdr2 hdr3:List V},up (up (famM (u+1) v E hdr) 13 (some (.box 0 hdr2))) 13 (some (.box 0 hdr3))=famM (u+1) v E hdr3:=by
         intro hdr hdr2 hdr3
         rw[e4,e4]
        simp only[RetL,e5]
        exact⟨_,Wk.refl⟩
  ·obtain rfl:i=rows.length:=by omega
   have q1:decide ((rows.length:Int)<(rows.length:Int))=false:=df (by omega)
   repeat' (first|simp (maxSteps:=9999999) only[↓GE,PL,PP,EE,QQ,seval,famM_13,famM_46,hdr_2,hL,cellsF_len,q1,beq_self_eq_true]|(simp (disch:=omega) only[i6])|(apply go_brD<;>intro h)|(apply go_gsD aE<;>intro h)|(apply go_br<;>intro h)|(apply go_gs aE<;>intro h)|(with_reducible apply And.intro)|exact aG|fail)
   have hv2:piv rows k r=rows.length:=by rw[hv,Nat.sub_self];rfl
   have e1:leadR p rows k r=rows:=by rw[leadR,if_neg (by omega)]
   have e2:leadK rows k r=r:=by rw[leadK,if_neg (by omega)]
   have e3:leadD rows k r ld=ld:=by rw[leadD,if_neg (by omega)]
   rw[e1,e2,e3]
   exact⟨_,wk_bump hm0 rfl rfl⟩
end Go.Proofs.YtacfbiegbdlldaaGreatDoor.Sim
