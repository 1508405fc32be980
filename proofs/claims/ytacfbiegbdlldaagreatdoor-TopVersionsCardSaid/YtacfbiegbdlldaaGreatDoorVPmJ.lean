/- All columns are decoded, and exactly the wrong servers are named. Conditions: none. -/
import Derived.Test.YtacfbiegbdlldaaGreatDoorVPmF
import Derived.Test.YtacfbiegbdlldaaGreatDoorVTpY
section
namespace Go.Proofs.YtacfbiegbdlldaaGreatDoor.Sim
open Go Go.RowKit Go.Deep
open Go.Proofs.YtacfbiegbdlldaaGreatDoor.Field (isP isP.mul)
open Go.Proofs.YtacfbiegbdlldaaGreatDoor.Tw (WCell kn kn_len kn_all kn_next)
set_option linter.unusedVariables false
def goodB (p:Int) (f:List Int) (z:Nat × Int):Bool:=valF p f z.1 == z.2
theorem wrN_kn {p:Int} {f:List Int}:∀ (i:Nat) (l:List WCell),wrN p f i l=((kn i l).filter fun z=>!goodB p f z).map fun z=>(z.1:Int)
 |_,[]=>rfl
 |i,c :: r=>by
  have ih:=wrN_kn (p:=p) (f:=f) (i+1) r
  simp only[wrN,kn]
  cases c.k with
  |false=>simpa using ih
  |true =>
   simp only[Bool.true_and,if_true,List.filter_cons]
   by_cases h:valF p f ((i:Int)+1)=c.v
   ·have h1:(valF p f ((i:Int)+1) != c.v)=false:=by simpa using h
    have h2:goodB p f (i+1,c.v)=true:=by simpa [goodB] using h
    rw[h1,h2]
    simpa using ih
   ·have h1:(valF p f ((i:Int)+1) != c.v)=true:=by simpa using h
    have h2:goodB p f (i+1,c.v)=false:=by simpa [goodB] using h
    rw[h1,h2]
    simpa using ih
theorem good_len {p:Int} {f:List Int} {l:List WCell}:((kn 0 l).filter (goodB p f)).length+(wrN p f 0 l).length=(kn 0 l).length:=by
 rw[wrN_kn,lm]
 have h:∀ L:List (Nat × Int),(L.filter (goodB p f)).length+(L.filter fun z=>!goodB p f z).length=L.length:=fun L=>by
  induction L with
  |nil=>rfl
  |cons z L ih =>
   simp only[List.filter_cons]
   cases goodB p f z <;> simp <;> omega
 exact h _
section
variable {p:Int} {l:List WCell} {k:Nat} {f:List Int}
theorem has_sol (hf:fieldB p=true) (hl:WordIn p l) (hfl:f.length=k) (hw:(wrN p f 0 l).length≤decW l k) :
  ∃ x:List Int,x.length=k+decW l k+decW l k∧∀ z ∈ kn 0 l,Cg p (pe (x.take (k+decW l k)) z.1) (z.2*pe (x.drop (k+decW l k)++[1]) z.1):=by
 have h2:=(fieldB_iff.1 hf).1
 obtain⟨e,he1,he2⟩:=with_roots (wrN p f 0 l++List.replicate (decW l k-(wrN p f 0 l).length) 0)
 have hel:e.length=decW l k:=by rw[he1,List.length_append,List.length_replicate];omega
 have hql:(mulP f (e++[1])).length≤k+decW l k:=by
  have:=mulP_len (E:=e++[1]) (by simp) (g:=f)
  rw[List.length_append,List.length_singleton] at this;omega
 have hpl:=padL_len hql
 refine⟨padL (k+decW l k) (mulP f (e++[1]))++e,by rw[List.length_append,hpl,hel],fun z hz=>?_⟩
 rw[List.take_left' hpl,List.drop_left' hpl,pe_padL,pe_mulP]
 by_cases hg:goodB p f z=true
 ·have h3:valF p f z.1=z.2:=by simpa [goodB] using hg
  have h4:=(valF_pe (p:=p) f z.1).symm
  rw[h3] at h4
  exact h4.mulR
 ·have hm:(z.1:Int) ∈ wrN p f 0 l:=by
   rw[wrN_kn,List.mem_map]
   exact⟨z,List.mem_filter.2 ⟨hz,by simpa using hg⟩,rfl⟩
  rw[he2 _ (List.mem_append.2 (.inl hm)),Int.mul_zero,Int.mul_zero]
  exact Cg.refl 0
theorem kn_diff (hl:WordIn p l) {P:Nat × Int→Bool}:(((kn 0 l).filter P).map fun z=>(z.1:Int)).Pairwise fun a b=>¬ Cg p a b:=by
 have hlp:=hl.lp
 rw[List.pairwise_map]
 refine List.Pairwise.imp_of_mem ?_ ((kn_asc 0 l).filter P)
 intro a b ha hb hlt
 have h1:=kn_bound 0 l a (List.mem_filter.1 ha).1
 have h2:=kn_bound 0 l b (List.mem_filter.1 hb).1
 exact not_cg ⟨by omega,by omega⟩ ⟨by omega,by omega⟩ (by omega)
theorem sol_poly (hf:fieldB p=true) (hl:WordIn p l) (hk:k≤(kn 0 l).length) (hfl:f.length=k) (hw:(wrN p f 0 l).length≤decW l k) {x:List Int} (hx:x.length=k+decW l k+decW l k)
  (hs:∀ z ∈ kn 0 l,Cg p (pe (x.take (k+decW l k)) z.1) (z.2*pe (x.drop (k+decW l k)++[1]) z.1)):∀ z:Int,Cg p (pe (x.take (k+decW l k)) z) (pe f z*pe (x.drop (k+decW l k)++[1]) z):=by
 have hp:=isP_field hf
 obtain⟨q,hq⟩:∃ q,q=x.take (k+decW l k):=⟨_,rfl⟩
 obtain⟨E,hE⟩:∃ E,E=x.drop (k+decW l k)++[1]:=⟨_,rfl⟩
 rw[← hq,← hE] at hs ⊢
 have hql:q.length=k+decW l k:=by rw[hq,List.length_take];omega
 have hEl:E.length=decW l k+1:=by rw[hE,List.length_append,List.length_drop,List.length_singleton];omega
 have hgl:=good_len (p:=p) (f:=f) (l:=l)
 have hml:=mulP_len (E:=E) (by omega) (g:=f)
 have hw2:k+2*decW l k≤(kn 0 l).length:=by unfold decW;omega
 have hD:AllZ p (addL q (smulL (-1) (mulP f E))):=by
  have hlen:=addL_len_max (a:=q) (b:=smulL (-1) (mulP f E))
  rw[smulL_len] at hlen
  refine roots hp (((kn 0 l).filter (goodB p f)).map fun z=>(z.1:Int)) _ (by rw[lm];omega) (kn_diff hl) fun a ha=>?_
  obtain⟨z,hz,rfl⟩:=List.mem_map.1 ha
  obtain⟨hz1,hz2⟩:=List.mem_filter.1 hz
  have h3:valF p f z.1=z.2:=by simpa [goodB] using hz2
  have h4:=valF_pe (p:=p) f z.1
  rw[h3] at h4
  rw[pe_addL,pe_smulL,pe_mulP]
  have h5:=((hs z hz1).trans h4.mulR).sub (Cg.refl (pe f z.1*pe E z.1))
  rw[Int.sub_self] at h5
  exact (Cg.of_eq (by omega)).trans h5
 intro z
 have h1:=pe_zero (x:=z) hD
 rw[pe_addL,pe_smulL,pe_mulP] at h1
 have h2:=h1.add (Cg.refl (pe f z*pe E z))
 exact (Cg.of_eq (by omega)).trans (h2.trans (Cg.of_eq (by omega)))
end
/-! ### Division -/
theorem trimN_zero:∀ {l:List Int} {n i:Nat},n≤l.length→trimN l n≤i→i<n→l.getD i 0=0
 |l,0,i,_,_,h=>by omega
 |l,n+1,i,hn,h1,h2=>by
  rw[trimN] at h1
  split at h1
  ·rename_i h0
   by_cases e:i=n
   ·rw[e];exact h0
   ·exact trimN_zero (by omega) h1 (by omega)
  ·omega
theorem trimF_getD {l:List Int} {i:Nat}:(trimF l).getD i 0=l.getD i 0:=by
 unfold trimF
 rw[List.getD_eq_getElem?_getD,List.getElem?_take]
 split
 ·rw[← List.getD_eq_getElem?_getD]
 ·rename_i h
  by_cases hi:i<l.length
  ·rw[trimN_zero (l:=l) (n:=l.length) (Nat.le_refl _) (by omega) hi];rfl
  ·rw[List.getD_eq_getElem?_getD,List.getElem?_eq_none (by omega)]
theorem pe_congr {a b:List Int} {x:Int} (h:∀ i,a.getD i 0=b.getD i 0):pe a x=pe b x:=by
 rw[pe_sum_more a x (n:=max a.length b.length) (by omega),pe_sum_more b x (n:=max a.length b.length) (by omega)]
 exact sumN_eq fun i _=>by rw[h i]
theorem pe_trimF {l:List Int} {x:Int}:pe (trimF l) x=pe l x:=pe_congr fun i=>trimF_getD
theorem pe_take_last {p:Int} {l:List Int} {x:Int} (h:1≤l.length) (h0:Cg p (l.getD (l.length-1) 0) 0):Cg p (pe (l.take (l.length-1)) x) (pe l x):=by
 obtain⟨n,hn⟩:∃ n,l.length=n+1:=⟨l.length-1,by omega⟩
 have hl:(l.take (l.length-1)).length=n:=by rw[List.length_take];omega
 rw[pe_sum (l.take (l.length-1)),hl,pe_sum l,hn]
 show Cg p _ (sumN _ n+l.getD n 0*x ^ n)
 have e1:sumN (fun i=>(l.take (n+1-1)).getD i 0*x ^ i) n=sumN (fun i=>l.getD i 0*x ^ i) n:=sumN_eq fun i hi=>by
  rw[List.getD_eq_getElem?_getD,List.getElem?_take,if_pos (by omega),← List.getD_eq_getElem?_getD]
 rw[e1]
 rw[hn] at h0
 have h1:=(Cg.refl (p:=p) (sumN (fun i=>l.getD i 0*x ^ i) n)).add (h0.mulR (c:=x ^ n))
 rw[Int.zero_mul,Int.add_zero] at h1
 exact h1.symm
theorem pe_set {l:List Int} {i:Nat} {v x:Int} (h:i<l.length) (h0:l.getD i 0=0):pe (l.set i v) x=pe l x+v*x ^ i:=by
 rw[pe_sum,pe_sum,List.length_set]
 have e:sumN (fun j=>(l.set i v).getD j 0*x ^ j) l.length=sumN (fun j=>l.getD j 0*x ^ j+(if i≤j∧j<i+1 then v*x ^ j else 0)) l.length:=sumN_eq fun j hj=>by
  rw[List.getD_eq_getElem?_getD,List.getElem?_set]
  by_cases e:i=j
  ·subst e
   rw[if_pos rfl,if_pos h,if_pos ⟨Nat.le_refl _,by omega⟩,h0]
   simp
  ·rw[if_neg e,if_neg (by omega),Int.add_zero,← List.getD_eq_getElem?_getD]
 rw[e,sumN_add,sumN_part (g:=fun j=>v*x ^ j) (by omega)]
 simp [sumN]
theorem divR_pe {p by_:Int} {b rest:List Int} {x:Int} (hb1:1≤b.length) (hle:b.length≤rest.length) (hby:Cg p (b.getD (b.length-1) 0*by_) 1) (hrin:rest.all (inE p)=true) :
  Cg p (pe (divR p by_ b rest) x) (pe rest x-divQ p by_ rest*(x ^ (rest.length-b.length)*pe b x)):=by
 unfold divR
 rw[pe_trimF]
 obtain⟨A,hA⟩:∃ A,A=addAt p ((0-divQ p by_ rest+p) % p) rest b (rest.length-b.length) b.length:=⟨_,rfl⟩
 rw[← hA]
 have hAl:A.length=rest.length:=by rw[hA,addAt_len]
 have hy:Cg p ((0-divQ p by_ rest+p) % p) (0-divQ p by_ rest):=(Cg.emod _).trans (Cg.refl _).add_p
 have htop:Cg p (A.getD (A.length-1) 0) 0:=by
  rw[hAl,hA,addAt_getD (by omega),if_pos ⟨by omega,by omega⟩]
  rw[show rest.length-1-(rest.length-b.length)=b.length-1 by omega]
  refine (Cg.emod _).trans (((Cg.refl _).add ((Cg.emod _).trans hy.mulR)).trans ?_)
  have hq:Cg p (divQ p by_ rest) (rest.getD (rest.length-1) 0*by_):=Cg.emod _
  have h1:Cg p (divQ p by_ rest*b.getD (b.length-1) 0) (rest.getD (rest.length-1) 0):=by
   refine hq.mulR.trans ?_
   rw[Int.mul_assoc,Int.mul_comm by_]
   have:=Cg.mulL (a:=rest.getD (rest.length-1) 0) hby
   rwa [Int.mul_one] at this
  have h2:=(Cg.refl (p:=p) (rest.getD (rest.length-1) 0)).sub h1
  rw[Int.sub_self] at h2
  refine (Cg.of_eq ?_).trans h2
  rw[Int.sub_mul,Int.zero_mul];omega
 rw[show rest.length-1=A.length-1 by omega]
 refine (pe_take_last (by omega) htop).trans ?_
 rw[hA]
 refine (pe_addAt (by omega)).trans (((Cg.refl _).add hy.mulR).trans (Cg.of_eq ?_))
 rw[Int.sub_mul,Int.zero_mul];omega
theorem divN_pe {p by_:Int} {b:List Int} {x:Int} (hp:1≤p) (hb1:1≤b.length) (hby:Cg p (b.getD (b.length-1) 0*by_) 1):∀ {f:Nat} {rest quot:List Int},rest.length<f→rest.all (inE p)=true→rest.length+1-b.length≤quot.length→(∀ i,i+b.length≤rest.length→quot.getD i 0=0) →
  Cg p (pe (divN p by_ b f rest quot).2 x*pe b x+pe (divN p by_ b f rest quot).1 x) (pe quot x*pe b x+pe rest x)∧(divN p by_ b f rest quot).1.length<b.length∧(divN p by_ b f rest quot).2.length=quot.length∧(divN p by_ b f rest quot).1.all (inE p)=true
 |0,rest,quot,h,_,_,_=>by omega
 |f+1,rest,quot,h,hin,hql,hz=>by
  rw[divN]
  split
  ·rename_i hle
   have hrl:=divR_len (p:=p) (by_:=by_) (b:=b) (rest:=rest) (by omega)
   have hri:=divR_in (by_:=by_) (b:=b) hp hin
   obtain⟨h1,h2,h3,h4⟩:=divN_pe (x:=x) hp hb1 hby (f:=f) (rest:=divR p by_ b rest) (quot:=quot.set (rest.length-b.length) (divQ p by_ rest)) (by omega) hri (by rw[List.length_set];omega) (fun i hi=>by
    rw[List.getD_eq_getElem?_getD,List.getElem?_set,if_neg (by omega),← List.getD_eq_getElem?_getD]
    exact hz i (by omega))
   refine⟨h1.trans ?_,h2,by rw[h3,List.length_set],h4⟩
   rw[pe_set (by omega) (hz _ (by omega))]
   refine ((Cg.refl _).add (divR_pe (x:=x) hb1 hle hby hin)).trans (Cg.of_eq ?_)
   rw[Int.add_mul,Int.mul_assoc];omega
  ·rename_i hle
   exact⟨Cg.refl _,by show rest.length<b.length;omega,rfl,hin⟩
end Go.Proofs.YtacfbiegbdlldaaGreatDoor.Sim
end
section
namespace Go.Proofs.YtacfbiegbdlldaaGreatDoor.Sim
open Go Go.RowKit Go.Deep
open Go.Proofs.YtacfbiegbdlldaaGreatDoor.Field (isP isP.mul)
open Go.Proofs.YtacfbiegbdlldaaGreatDoor.Tw (WCell kn kn_len kn_all kn_next)
set_option linter.unusedVariables false
theorem allZ_getD {p:Int} {l:List Int} (h:AllZ p l) (i:Nat):Cg p (l.getD i 0) 0:=by
 by_cases hi:i<l.length
 ·exact h _ (mem_getD 0 l i hi)
 ·rw[List.getD_eq_getElem?_getD,List.getElem?_eq_none (by omega)];exact Cg.refl 0
theorem mulP_zero {p:Int} {E:List Int}:∀ {g:List Int},AllZ p g→∀ i,Cg p ((mulP g E).getD i 0) 0
 |[],_,i=>by simp only[mulP];exact Cg.refl 0
 |c :: r,h,i=>by
  have ih:=mulP_zero (E:=E) (g:=r) fun y hy=>h y (List.mem_cons_of_mem _ hy)
  rw[mulP,addL_get,smulL_get]
  have h1:Cg p (c*E.getD i 0) 0:=by
   have:=(h c (by simp)).mulR (c:=E.getD i 0)
   rwa [Int.zero_mul] at this
  have h2:Cg p ((0 :: mulP r E).getD i 0) 0:=by
   cases i with
   |zero=>exact Cg.refl 0
   |succ i=>exact ih i
  exact h1.add h2
theorem high_zero {p:Int} {w:Nat} {E:List Int} (h1:E.getD w 0=1) (h2:∀ i,w<i→E.getD i 0=0):∀ {g:List Int},(∀ i,w≤i→Cg p ((mulP g E).getD i 0) 0)→AllZ p g
 |[],_=>fun c hc=>by simp at hc
 |c :: r,h=>by
  have hr:∀ i,w≤i→Cg p ((mulP r E).getD i 0) 0:=fun i hi=>by
   have:=h (i+1) (by omega)
   rw[mulP,addL_get,smulL_get,h2 (i+1) (by omega),Int.mul_zero,Int.zero_add] at this
   exact this
  have ih:=high_zero h1 h2 hr
  intro y hy
  rcases List.mem_cons.1 hy with rfl|hy
  ·have h3:=h w (Nat.le_refl _)
   rw[mulP,addL_get,smulL_get,h1,Int.mul_one] at h3
   have h4:Cg p ((0 :: mulP r E).getD w 0) 0:=by
    cases w with
    |zero=>exact Cg.refl 0
    |succ w=>exact mulP_zero ih w
   have h5:=h3.sub h4
   rwa [Int.add_sub_cancel,Int.sub_self] at h5
  ·exact ih y hy
section
variable {p:Int} {l:List WCell} {k:Nat} {f:List Int}
theorem key_rows (hf:fieldB p=true):RowsC p (k+decW l k+decW l k) (rowsT (k+decW l k+decW l k) (keyC p (k+decW l k) (decW l k) (kn 0 l)) (keyR p (decW l k) (kn 0 l)) (kn 0 l).length) :=
 rowsT_rows keyC_len (by simp [keyR]) (keyC_in (fieldB_iff.1 hf).1) (keyR_in (fieldB_iff.1 hf).1)
theorem key_sat {x:List Int} (hx:x.length=k+decW l k+decW l k):SatAll p (k+decW l k+decW l k) x (rowsT (k+decW l k+decW l k) (keyC p (k+decW l k) (decW l k) (kn 0 l)) (keyR p (decW l k) (kn 0 l)) (kn 0 l).length) ↔
  ∀ z ∈ kn 0 l,Cg p (pe (x.take (k+decW l k)) z.1) (z.2*pe (x.drop (k+decW l k)++[1]) z.1):=by
 have hl:(rowsT (k+decW l k+decW l k) (keyC p (k+decW l k) (decW l k) (kn 0 l)) (keyR p (decW l k) (kn 0 l)) (kn 0 l).length).length=(kn 0 l).length:=rowsT_len
 constructor
 ·intro h z hz
  obtain⟨i,hi,rfl⟩:=List.getElem_of_mem hz
  have:=h i (by omega)
  rw[rows_key hi] at this
  exact (sat_key hx).1 this
 ·intro h i hi
  rw[hl] at hi
  rw[rows_key hi]
  exact (sat_key hx).2 (h _ (List.getElem_mem hi))
theorem dec_ok (hf:fieldB p=true) (hl:WordIn p l) (h1:1≤k) (hk:k≤(kn 0 l).length) (hfl:f.length=k) (hfi:f.all (inE p)=true) (hw:(wrN p f 0 l).length≤decW l k) :
  DecOK p l k∧(∀ i,(decP p l k).getD i 0=f.getD i 0)∧wrN p (decP p l k) 0 l=wrN p f 0 l:=by
 have hp:=isP_field hf
 have hp2:=(fieldB_iff.1 hf).1
 have hw2:k+2*decW l k≤(kn 0 l).length:=by unfold decW;omega
 have hn32:(kn 0 l).length≤32:=Nat.le_trans (kn_len 0 l) hl.len
 have hc:k+decW l k+decW l k=k+2*decW l k:=by omega
 obtain⟨x0,hx0,hs0⟩:=has_sol (k:=k) hf hl hfl hw
 have hrow:=key_rows (k:=k) (l:=l) hf
 obtain⟨ho,hsat⟩:=solve_ok hf (by omega) hrow ((key_sat hx0).2 hs0)
 rw[hc] at ho hsat hrow
 have hxd:decX p l k=solF (k+2*decW l k) (solveN p (kn 0 l).length (k+2*decW l k) (keyC p (k+decW l k) (decW l k) (kn 0 l)) (keyR p (decW l k) (kn 0 l))):=rfl
 rw[← hxd] at hsat
 have hxl:(decX p l k).length=k+decW l k+decW l k:=by rw[hxd,hc];simp [solF]
 rw[← hc] at hsat
 have hs:=(key_sat hxl).1 hsat
 have hq:=sol_poly hf hl hk hfl hw hxl hs
 have hxi:(decX p l k).all (inE p)=true:=by
  rw[hxd]
  exact solF_in (by omega) (redN_ok (k:=k+2*decW l k) hf hrow).2.1
 obtain⟨q,hqd⟩:∃ q,q=(decX p l k).take (k+decW l k):=⟨_,rfl⟩
 obtain⟨e,hed⟩:∃ e,e=(decX p l k).drop (k+decW l k):=⟨_,rfl⟩
 have hel:e.length=decW l k:=by rw[hed,List.length_drop];omega
 have hql:q.length=k+decW l k:=by rw[hqd,List.length_take];omega
 have hqi:q.all (inE p)=true:=by rw[hqd];exact take_in hxi
 rw[← hqd,← hed] at hq
 have hD:decD p l k=divF p q (e++[1]):=by rw[hqd,hed];rfl
 have htE:trimF (e++[1])=e++[1]:=trimN_last (by decide)
 have hElast:(e++[1]).getD ((e++[1]).length-1) 0=1:=by simp [List.getD_eq_getElem?_getD]
 have hby:Cg p ((e++[1]).getD ((e++[1]).length-1) 0*invI p 1) 1:=by
  rw[hElast]
  have:=invI_mul hf (a:=1) ⟨by omega,by omega⟩
  exact Cg.of_emod (by rw[this,Int.emod_eq_of_lt (by omega) (by omega)])
 have hDd:decD p l k=divN p (invI p 1) (e++[1]) ((trimF q).length+1) (trimF q) (List.replicate ((trimF q).length+1-(e++[1]).length) 0):=by
  rw[hD,divF]
  simp only[htE,hElast]
 have htl:(trimF q).length≤q.length:=by rw[trimF_len];exact trimN_le _ _
 have hz0:∀ i,i+(e++[1]).length≤(trimF q).length→(List.replicate ((trimF q).length+1-(e++[1]).length) (0:Int)).getD i 0=0:=fun i hi=>by
  rw[List.getD_eq_getElem?_getD,List.getElem?_replicate]
  split <;> rfl
 have hdiv:=fun z=>divN_pe (p:=p) (by_:=invI p 1) (b:=e++[1]) (x:=z) (by omega) (by simp) hby (f:=(trimF q).length+1) (rest:=trimF q) (quot:=List.replicate ((trimF q).length+1-(e++[1]).length) 0) (by omega) (trimF_in hqi) (by rw[List.length_replicate];exact Nat.le_refl _) hz0
 rw[← hDd] at hdiv
 have hrl:=(hdiv 0).2.1
 have hqul:=(hdiv 0).2.2.1
 have hri:=(hdiv 0).2.2.2
 rw[List.length_replicate] at hqul
 have hE1:(e++[1]).length=decW l k+1:=by rw[List.length_append,hel];rfl
 have hqui:(decD p l k).2.all (inE p)=true:=by
  rw[hDd]
  refine divN_in (by omega) _ _ _ ?_
  rw[List.all_eq_true]
  intro y hy
  rw[List.eq_of_mem_replicate hy]
  simp [inE];omega
 obtain⟨D,hDD⟩:∃ D,D=decD p l k:=⟨_,rfl⟩
 rw[← hDD] at hrl hqul hri hqui
 simp only[← hDD] at hdiv
 have hall:∀ z:Int,Cg p (pe (addL f (smulL (-1) D.2)) z*pe (e++[1]) z) (pe D.1 z):=fun z=>by
  have h3:=(hdiv z).1
  have h4:pe (List.replicate ((trimF q).length+1-(e++[1]).length) 0) z=0:=by
   have:∀ n:Nat,pe (List.replicate n 0) z=0:=fun n=>by
    induction n with
    |zero=>rfl
    |succ n ih=>simp only[List.replicate_succ,pe,ih];simp
   exact this _
  rw[h4,Int.zero_mul,Int.zero_add,pe_trimF] at h3
  have h5:=(h3.trans (hq z)).symm
  rw[pe_addL,pe_smulL,Int.add_mul]
  have h6:=h5.sub (Cg.refl (pe D.2 z*pe (e++[1]) z))
  refine (Cg.of_eq ?_).trans (h6.trans (Cg.of_eq (by omega)))
  rw[Int.neg_mul,Int.one_mul,Int.neg_mul];omega
 have hgl:(addL f (smulL (-1) D.2)).length≤k:=by
  have:=addL_len_max (a:=f) (b:=smulL (-1) D.2)
  rw[smulL_len] at this
  omega
 have hknd:((kn 0 l).map fun z=>(z.1:Int)).Pairwise fun a b=>¬ Cg p a b:=by
  have:=kn_diff hl (P:=fun _=>true)
  rwa [List.filter_eq_self.2 (fun _ _=>rfl)] at this
 have hT:AllZ p (addL (mulP (addL f (smulL (-1) D.2)) (e++[1])) (smulL (-1) D.1)):=by
  have hm:=mulP_len (E:=e++[1]) (by omega) (g:=addL f (smulL (-1) D.2))
  have hlen:=addL_len_max (a:=mulP (addL f (smulL (-1) D.2)) (e++[1])) (b:=smulL (-1) D.1)
  rw[smulL_len] at hlen
  refine roots hp ((kn 0 l).map fun z=>(z.1:Int)) _ (by rw[lm];omega) hknd fun z _=>?_
  rw[pe_addL,pe_mulP,pe_smulL]
  have:=(hall z).sub (Cg.refl (pe D.1 z))
  rw[Int.sub_self] at this
  exact (Cg.of_eq (by rw[Int.neg_mul,Int.one_mul];omega)).trans this
 have hg0:AllZ p (addL f (smulL (-1) D.2)):=by
  refine high_zero (w:=decW l k) (E:=e++[1]) ?_ ?_ fun i hi=>?_
  ·have:=hElast
   rwa [hE1,Nat.add_sub_cancel] at this
  ·intro i hi
   rw[List.getD_eq_getElem?_getD,List.getElem?_eq_none (by omega)];rfl
  ·have:=allZ_getD hT i
   rw[addL_get,smulL_get] at this
   have h0:D.1.getD i 0=0:=by rw[List.getD_eq_getElem?_getD,List.getElem?_eq_none (by omega)];rfl
   rw[h0,Int.mul_zero,Int.add_zero] at this
   exact this
 have hr0:AllZ p D.1:=by
  refine roots hp ((kn 0 l).map fun z=>(z.1:Int)) _ (by rw[lm];omega) hknd fun z _=>?_
  have h3:=(pe_zero (x:=z) hg0).mulR (c:=pe (e++[1]) z)
  rw[Int.zero_mul] at h3
  exact (hall z).symm.trans h3
 have hrest:trimF D.1=[]:=by
  have hz:∀ y ∈ D.1,y=0:=fun y hy=>by
   have hb:=allIn.1 hri y hy
   exact (hr0 y hy).small hb ⟨by omega,by omega⟩
  have:∀ n,n≤D.1.length→trimN D.1 n=0:=fun n=>by
   induction n with
   |zero=>intro _;rfl
   |succ n ih =>
    intro hn
    rw[trimN,if_pos (hz _ (mem_getD 0 D.1 n (by omega)))]
    exact ih (by omega)
  rw[trimF,this _ (Nat.le_refl _)]
  rfl
 have hcoef:∀ i,D.2.getD i 0=f.getD i 0:=fun i=>by
  have h3:=allZ_getD hg0 i
  rw[addL_get,smulL_get] at h3
  have h4:=h3.add (Cg.refl (D.2.getD i 0))
  have hb:∀ (L:List Int),L.all (inE p)=true→0≤L.getD i 0∧L.getD i 0<p:=fun L hL=>by
   by_cases hi:i<L.length
   ·exact all_getD hL hi
   ·rw[List.getD_eq_getElem?_getD,List.getElem?_eq_none (by omega)]
    constructor
    ·exact Int.le_refl 0
    ·show (0:Int)<p;omega
  have h5:Cg p (f.getD i 0) (D.2.getD i 0):=(Cg.of_eq (by omega)).trans (h4.trans (Cg.of_eq (by omega)))
  exact (h5.small (hb f hfi) (hb D.2 hqui)).symm
 have hP:∀ i,(trimF D.2).getD i 0=f.getD i 0:=fun i=>by rw[trimF_getD];exact hcoef i
 have hval:∀ z,valF p (trimF D.2) z=valF p f z:=fun z=>by
  rw[valF_eq (by omega),valF_eq (by omega),pe_congr hP]
 have hwr:∀ (i:Nat) (L:List WCell),wrN p (trimF D.2) i L=wrN p f i L:=fun i L=>by
  induction L generalizing i with
  |nil=>rfl
  |cons c r ih=>simp only[wrN,hval,ih]
 have hPD:decP p l k=trimF D.2:=by rw[hDD];rfl
 have hPl:(trimF D.2).length≤D.2.length:=by rw[trimF_len];exact trimN_le _ _
 refine⟨⟨fillAll hf hl,ho,by rw[← hDD];exact hrest,by rw[hPD];omega,by rw[hPD,hwr 0 l];exact hw⟩,by rw[hPD];exact hP,by rw[hPD];exact hwr 0 l⟩
end
end Go.Proofs.YtacfbiegbdlldaaGreatDoor.Sim
end
section
namespace Go.Proofs.YtacfbiegbdlldaaGreatDoor.Sim
open Go Go.RowKit Go.Deep
set_option linter.unusedVariables false
theorem swpL_form {l:List Int} {j:Nat} (h:j+1<l.length):swpL l j=l.take j++(l.getD (j+1) 0 :: l.getD j 0 :: l.drop (j+2))∧l=l.take j++(l.getD j 0 :: l.getD (j+1) 0 :: l.drop (j+2)):=by
 have h2:l=l.take j++(l.getD j 0 :: l.getD (j+1) 0 :: l.drop (j+2)):=by
  conv=>lhs;rw[← List.take_append_drop j l]
  congr 1
  rw[List.drop_eq_getElem_cons (by omega),List.drop_eq_getElem_cons h,List.getD_eq_getElem?_getD,List.getElem?_eq_getElem (by omega),List.getD_eq_getElem?_getD,List.getElem?_eq_getElem h]
  rfl
 refine⟨?_,h2⟩
 have hl:(l.take j).length=j:=by rw[List.length_take];omega
 apply List.ext_getElem?
 intro i
 unfold swpL
 rw[List.getElem?_set,List.getElem?_set]
 by_cases e1:j=i
 ·subst e1
  rw[if_pos rfl,if_pos (by rw[List.length_set];omega),List.getElem?_append_right (by omega),hl,Nat.sub_self]
  rfl
 ·rw[if_neg e1]
  by_cases e2:j+1=i
  ·subst e2
   rw[if_pos rfl,if_pos h,List.getElem?_append_right (by omega),hl,show j+1-j=1 by omega]
   rfl
  ·rw[if_neg e2]
   conv=>lhs;rw[h2]
   by_cases e3:i<j
   ·rw[List.getElem?_append_left (by omega),List.getElem?_append_left (by omega)]
   ·rw[List.getElem?_append_right (by omega),List.getElem?_append_right (by omega),hl]
    obtain⟨d,rfl⟩:∃ d,i=j+2+d:=⟨i-(j+2),by omega⟩
    rw[show j+2+d-j=d+2 by omega]
    rfl
theorem swpL_perm {l:List Int} {j:Nat} (h:j+1<l.length):(swpL l j).Perm l:=by
 obtain⟨h1,h2⟩:=swpL_form h
 rw[h1]
 conv=>rhs;rw[h2]
 exact List.Perm.append_left _ (List.Perm.swap _ _ _)
theorem sink_perm:∀ {j:Nat} {l:List Int},j<l.length→(sink j l).Perm l
 |0,l,_=>List.Perm.refl _
 |j+1,l,h=>by
  rw[sink]
  split
  ·exact (sink_perm (j:=j) (l:=swpL l j) (by rw[swpL_len];omega)).trans (swpL_perm h)
  ·exact List.Perm.refl _
theorem sorts_perm {l:List Int}:∀ {i:Nat},i<l.length→(sorts l i).Perm l
 |0,_=>List.Perm.refl _
 |i+1,h=>by
  rw[sorts]
  exact (sink_perm (by rw[sorts_len];exact h)).trans (sorts_perm (by omega))
theorem sortF_perm {l:List Int}:(sortF l).Perm l:=by
 unfold sortF
 cases l with
 |nil=>exact List.Perm.refl _
 |cons x r=>exact sorts_perm (by simp)
theorem swpL_get {l:List Int} {j i:Nat} (h:j+1<l.length):(swpL l j).getD i 0=if i=j then l.getD (j+1) 0 else if i=j+1 then l.getD j 0 else l.getD i 0:=by
 unfold swpL
 rw[List.getD_eq_getElem?_getD,List.getElem?_set]
 by_cases e1:j=i
 ·subst e1
  rw[if_pos rfl,if_pos (by rw[List.length_set];omega),if_pos rfl];rfl
 ·rw[if_neg e1,if_neg (fun e=>e1 e.symm),List.getElem?_set]
  by_cases e2:j+1=i
  ·subst e2
   rw[if_pos rfl,if_pos h,if_pos rfl];rfl
  ·rw[if_neg e2,if_neg (fun e=>e2 e.symm),← List.getD_eq_getElem?_getD]
theorem sink_sorted {m:Nat}:∀ {j:Nat} {l:List Int},j≤m→m<l.length→(∀ a b,a<b→b≤m→a ≠ j→b ≠ j→l.getD a 0≤l.getD b 0)→(∀ b,j<b→b≤m→l.getD j 0≤l.getD b 0) →
  ∀ a b,a<b→b≤m→(sink j l).getD a 0≤(sink j l).getD b 0
 |0,l,hj,hm,h1,h2=>fun a b hab hb=>by
  simp only[sink]
  by_cases e:a=0
  ·rw[e];exact h2 b (by omega) hb
  ·exact h1 a b hab hb e (by omega)
 |j+1,l,hj,hm,h1,h2=>by
  rw[sink]
  split
  ·rename_i hlt
   refine sink_sorted (j:=j) (l:=swpL l j) (by omega) (by rw[swpL_len];exact hm) (fun a b hab hb ha hb'=>?_) (fun b hjb hb=>?_)
   ·rw[swpL_get (by omega),swpL_get (by omega),if_neg ha,if_neg hb']
    by_cases ea:a=j+1
    ·rw[if_pos ea,if_neg (by omega)]
     exact h1 j b (by omega) hb (by omega) (by omega)
    ·rw[if_neg ea]
     by_cases eb:b=j+1
     ·rw[if_pos eb]
      exact h1 a j (by omega) (by omega) (by omega) (by omega)
     ·rw[if_neg eb]
      exact h1 a b hab hb ea eb
   ·rw[swpL_get (by omega),swpL_get (by omega),if_pos rfl,if_neg (by omega)]
    by_cases eb:b=j+1
    ·rw[if_pos eb];omega
    ·rw[if_neg eb]
     exact h2 b (by omega) hb
  ·rename_i hge
   intro a b hab hb
   by_cases ea:a=j+1
   ·rw[ea];exact h2 b (by omega) hb
   ·by_cases eb:b=j+1
    ·rw[eb]
     by_cases e:a=j
     ·rw[e];omega
     ·have:=h1 a j (by omega) (by omega) (by omega) (by omega)
      omega
    ·exact h1 a b hab hb ea eb
theorem sorts_sorted {l:List Int}:∀ {i:Nat},i<l.length→∀ a b,a<b→b≤i→(sorts l i).getD a 0≤(sorts l i).getD b 0
 |0,_=>fun a b hab hb=>by omega
 |i+1,h=>by
  rw[sorts]
  have ih:=sorts_sorted (l:=l) (i:=i) (by omega)
  exact sink_sorted (Nat.le_refl _) (by rw[sorts_len];exact h) (fun a b hab hb _ hb'=>ih a b hab (by omega)) (fun b h1 h2=>by omega)
theorem sortF_sorted {l:List Int}:(sortF l).Pairwise (·≤·):=by
 rw[List.pairwise_iff_getElem]
 intro i j hi hj hij
 have hl:(sortF l).length=l.length:=sortF_len
 have h:=sorts_sorted (l:=l) (i:=l.length-1) (by omega) i j hij (by omega)
 have e:∀ k (hk:k<(sortF l).length),(sorts l (l.length-1)).getD k 0=(sortF l)[k]:=fun k hk=>by
  rw[List.getD_eq_getElem?_getD]
  show ((sortF l)[k]?).getD 0=_
  rw[List.getElem?_eq_getElem hk];rfl
 rw[e i hi,e j hj] at h
 exact h
theorem asc_ext:∀ {a b:List Int},a.Pairwise (·<·)→b.Pairwise (·<·)→(∀ x,x ∈ a↔x ∈ b)→a=b
 |[],[],_,_,_=>rfl
 |[],y :: b,_,_,h=>by have:=(h y).2 (by simp);simp at this
 |x :: a,[],_,_,h=>by have:=(h x).1 (by simp);simp at this
 |x :: a,y :: b,ha,hb,h=>by
  rw[List.pairwise_cons] at ha hb
  have hxy:x=y:=by
   have h1:=(h x).1 (by simp)
   have h2:=(h y).2 (by simp)
   rcases List.mem_cons.1 h1 with e|h1
   ·exact e
   ·rcases List.mem_cons.1 h2 with e|h2
    ·exact e.symm
    ·have:=hb.1 x h1
     have:=ha.1 y h2
     omega
  subst hxy
  congr 1
  refine asc_ext ha.2 hb.2 fun z=>?_
  have hz:=h z
  simp only[List.mem_cons] at hz
  constructor
  ·intro hm
   have:=ha.1 z hm
   rcases hz.1 (.inr hm) with e|e
   ·omega
   ·exact e
  ·intro hm
   have:=hb.1 z hm
   rcases hz.2 (.inr hm) with e|e
   ·omega
   ·exact e
theorem sortF_eq {l b:List Int} (hn:l.Nodup) (hb:b.Pairwise (·<·)) (h:∀ x,x ∈ l↔x ∈ b):sortF l=b:=by
 have hp:=sortF_perm (l:=l)
 have hs:(sortF l).Pairwise (·<·):=by
  have h1:(sortF l).Pairwise (· ≠ ·):=hp.nodup_iff.2 hn
  refine (sortF_sorted.and h1).imp fun {x y} hxy=>?_
  omega
 exact asc_ext hs hb fun x=>(hp.mem_iff).trans (h x)
end Go.Proofs.YtacfbiegbdlldaaGreatDoor.Sim
end
section
namespace Go.Proofs.YtacfbiegbdlldaaGreatDoor.Sim
open Go Go.RowKit Go.Deep
open Go.Proofs.YtacfbiegbdlldaaGreatDoor.Tw (WCell kn kn_len kn_all kn_next)
set_option linter.unusedVariables false
theorem asc_len:∀ {a b:List Int},a.Pairwise (·<·)→b.Pairwise (·<·)→(∀ x,x ∈ a→x ∈ b)→a.length≤b.length
 |[],b,_,_,_=>Nat.zero_le _
 |x :: a,[],_,_,h=>by have:=h x (by simp);simp at this
 |x :: a,y :: b,ha,hb,h=>by
  by_cases e:x=y
  ·subst e
   rw[List.pairwise_cons] at ha hb
   have:=asc_len (a:=a) (b:=b) ha.2 hb.2 fun z hz=>by
    rcases List.mem_cons.1 (h z (List.mem_cons_of_mem _ hz)) with e|h1
    ·have:=ha.1 z hz;omega
    ·exact h1
   simp only[List.length_cons];omega
  ·have hx:x ∈ b:=by
    rcases List.mem_cons.1 (h x (by simp)) with h1|h1
    ·exact absurd h1 e
    ·exact h1
   have hb':=hb
   rw[List.pairwise_cons] at hb
   have:=asc_len (a:=x :: a) (b:=b) ha hb.2 fun z hz=>by
    rcases List.mem_cons.1 (h z hz) with e2|h1
    ·exfalso
     have h2:=hb.1 x hx
     rcases List.mem_cons.1 hz with e3|h3
     ·omega
     ·rw[List.pairwise_cons] at ha
      have:=ha.1 z h3
      omega
    ·exact h1
   simp only[List.length_cons] at this ⊢;omega
theorem wrN_asc {p:Int} {f:List Int} {l:List WCell}:(wrN p f 0 l).Pairwise (·<·):=by
 rw[wrN_kn,List.pairwise_map]
 exact ((kn_asc 0 l).filter _).imp fun h=>by omega
section
variable {p:Int} {need:Nat} {l:List PAns}
theorem flatMap_cg {f g:Nat→List Int}:∀ {L:List Nat},(∀ i ∈ L,f i=g i)→L.flatMap f=L.flatMap g
 |[],_=>rfl
 |a :: L,h=>by
  rw[List.flatMap_cons,List.flatMap_cons,h a (by simp),flatMap_cg fun i hi=>h i (by simp [hi])]
theorem wrgs_eq {w:Nat} {F:Nat→List Int} (h:∀ i,i<w→wrN p (decP p (colC i l) need) 0 (colC i l)=wrN p (F i) 0 (colC i l)):wrgsF p need w l=(List.range w).flatMap fun i=>wrN p (F i) 0 (colC i l):=by
 unfold wrgsF
 exact flatMap_cg fun i hi=>h i (List.mem_range.1 hi)
theorem nodup_cols {g:Nat→List Int}:∀ {w:Nat},(∀ i,i<w→(g i).Nodup)→(∀ i j x,i<w→j<w→x ∈ g i→x ∈ g j→i=j)→((List.range w).flatMap g).Nodup
 |0,_,_=>by simp
 |w+1,h1,h2=>by
  rw[List.range_succ,List.flatMap_append,List.nodup_append]
  refine⟨nodup_cols (fun i hi=>h1 i (by omega)) fun i j x hi hj=>h2 i j x (by omega) (by omega),by simpa using h1 w (by omega),fun a ha b hb e=>?_⟩
  obtain⟨i,hi,hx⟩:=List.mem_flatMap.1 ha
  have hi':=List.mem_range.1 hi
  simp only[List.flatMap_cons,List.flatMap_nil,List.append_nil] at hb
  subst e
  have:=h2 i w a (by omega) (by omega) hx hb
  omega
theorem cols_ok {w:Nat} {F:Nat→List Int} {B:List Int} (hf:fieldB p=true) (hl:l.length≤32) (hlp:(l.length:Int)<p) (ha:AnsOK p w l) (h1:1≤need) (hn:need≤cntA l)
  (hF:∀ i,i<w→(F i).length=need∧(F i).all (inE p)=true) (hB:B.Pairwise (·<·)) (hBr:B.length≤(cntA l-need) / 2) (hB12:B.length≤12)
  (hin:∀ i,i<w→∀ x ∈ wrN p (F i) 0 (colC i l),x ∈ B) (hex:∀ x ∈ B,∃ i,i<w∧x ∈ wrN p (F i) 0 (colC i l)) (huq:∀ i j x,i<w→j<w→x ∈ wrN p (F i) 0 (colC i l)→x ∈ wrN p (F j) 0 (colC j l)→i=j) :
  ColsOK p need w l∧sortF (wrgsF p need w l)=B∧heads (polysF p need w l)=(List.range w).map fun i=>(F i).getD 0 0:=by
 have h2:=(fieldB_iff.1 hf).1
 have hd:∀ i,i<w→DecOK p (colC i l) need∧(∀ j,(decP p (colC i l) need).getD j 0=(F i).getD j 0)∧wrN p (decP p (colC i l) need) 0 (colC i l)=wrN p (F i) 0 (colC i l):=fun i hi=>by
  refine dec_ok hf (colC_in h2 ha hi hl hlp) h1 (by rw[kn_colC];exact hn) (hF i hi).1 (hF i hi).2 ?_
  have:=asc_len wrN_asc hB (hin i hi)
  unfold decW
  rw[kn_colC]
  omega
 have hwg:=wrgs_eq (F:=F) fun i hi=>(hd i hi).2.2
 have hnd:(wrgsF p need w l).Nodup:=by
  rw[hwg]
  exact nodup_cols (fun i _=>wrN_asc.imp fun h=>by omega) huq
 have hmem:∀ x,x ∈ wrgsF p need w l↔x ∈ B:=fun x=>by
  rw[hwg,List.mem_flatMap]
  constructor
  ·rintro⟨i,hi,hx⟩
   exact hin i (List.mem_range.1 hi) x hx
  ·intro hx
   obtain⟨i,hi,h3⟩:=hex x hx
   exact⟨i,List.mem_range.2 hi,h3⟩
 have hs:=sortF_eq hnd hB hmem
 refine⟨⟨fun i hi=>(hd i hi).1,?_,fun i hi=>?_⟩,hs,?_⟩
 ·rw[← sortF_len,hs];exact hB12
 ·rw[hs] at hi ⊢
  have:=List.pairwise_iff_getElem.1 hB i (i+1) (by omega) hi (by omega)
  rw[List.getD_eq_getElem?_getD,List.getElem?_eq_getElem hi,List.getD_eq_getElem?_getD,List.getElem?_eq_getElem (by omega)]
  simp only[Option.getD_some]
  omega
 ·unfold heads polysF
  rw[List.map_map]
  refine List.map_congr_left fun i hi=>?_
  exact (hd i (List.mem_range.1 hi)).2.1 0
end
end Go.Proofs.YtacfbiegbdlldaaGreatDoor.Sim
end
