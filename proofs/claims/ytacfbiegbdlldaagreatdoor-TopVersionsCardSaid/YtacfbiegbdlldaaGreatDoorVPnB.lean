/- Honest answers are values of polynomials; linear digests fit them; marks differ. Conditions: none. -/
import Derived.Test.YtacfbiegbdlldaaGreatDoorVTvC
import Derived.Test.YtacfbiegbdlldaaGreatDoorVPmJ
import Derived.Test.YtacfbiegbdlldaaGreatDoorVTpCq
section
namespace Go.Proofs.YtacfbiegbdlldaaGreatDoor.Sim
open Go Go.RowKit Go.Deep
set_option maxRecDepth 100000
set_option maxHeartbeats 4000000
set_option linter.unusedVariables false
set_option linter.unusedSimpArgs false
attribute [local irreducible] Go Mean
def seedS (seed:Int):Nat→Int
 |0=>seed
 |j+1=>seedS seed j*48271 % 2147483647
def seedF (seed:Int) (lim:List Int):Nat→List Int
 |0=>[]
 |j+1=>seedF seed lim j++[seedS seed (j+1) % lim.getD j 0]
theorem seedF_len {seed:Int} {lim:List Int}:∀ {j:Nat},(seedF seed lim j).length=j
 |0=>rfl
 |j+1=>by rw[seedF];simp [seedF_len]
theorem seedS_in {seed:Int} (h:0≤seed∧seed<2147483647):∀ {j:Nat},0≤seedS seed j∧seedS seed j<2147483647
 |0=>h
 |j+1=>by rw[seedS];omega
def limOKs (l:List Int):Prop:=∀ x ∈ l,1≤x∧x≤2147483647
theorem seedT (seed:Int) (lim:List Int) (h:1≤seed∧seed<2147483647) (hl:lim.length≤16384) (ho:limOKs lim):Does Tryz.prog 43 [I seed,.d (dInts lim)] [] (.tu [.ag [.d (dInts (seedF seed lim lim.length)),I 0],I 0]) [] []:=by
 refine G15' rfl BxOK.nil fun cx hm0=>go_in 5000 ?_
 unfold A15' R15'
 have q0:decide (seed<1)=false:=df (by omega)
 have q1:decide (seed ≥ 2147483647)=false:=df (by omega)
 have q1':decide ((2147483647:Int)≤seed)=false:=df (by omega)
 repeat' (first|simp (maxSteps:=9999999) only[↓GE,PL,PP,EE,QQ,seval,q0,q1,q1',lm]|(simp (disch:=omega) only[i6])|(apply go_brD<;>intro h)|(apply go_gsD aE<;>intro h)|(apply go_br<;>intro h)|(apply go_gs aE<;>intro h)|(with_reducible apply And.intro)|exact aG|fail)
 refine go_loopz 5000 hm0 (ι:={j:Nat // j≤lim.length}) (fun j=>[(0,I seed),(1,.d (dInts lim)),(4,.bp 4 0 0),(22,.d (dInts lim)),(23,I lim.length),(24,I j.1)]) (fun j=>[(4,.box 0 [.nl 1,I 0])]) (fun j=>lim.length-j.1) [] [] ⟨0,Nat.zero_le _⟩ ?_ ?_
 ·simp only[GeZ];exact aH
 rintro⟨j,hj⟩
 simp only at hj ⊢
 by_cases hjn:j<lim.length
 ·have r1:decide ((j:Int)<(lim.length:Int))=true:=dt (by omega)
  have u1:IntKind.i64.wrap ((j:Int)+1)=((j+1:Nat):Int):=by rw[i6 _ (by omega)];omega
  have hs:=getD_map eI [] 0 lim j hjn
  have hx:=ho _ (mem_getD 0 lim j hjn)
  generalize lim.getD j 0=x at hs hx
  have r2:decide (x<1)=false:=df (by omega)
  have r3:decide (x > 2147483647)=false:=df (by omega)
  have r3':decide ((2147483647:Int)<x)=false:=df (by omega)
  repeat' (first|simp (maxSteps:=9999999) only[↓GE,PL,PP,EE,QQ,seval,r1,r2,r3,r3',u1,hs,eI,hjn,lm]|(simp (disch:=omega) only[i6])|(apply go_brD<;>intro h)|(apply go_gsD aE<;>intro h)|(apply go_br<;>intro h)|(apply go_gs aE<;>intro h)|(with_reducible apply And.intro)|exact aG|fail)
  refine⟨[],[],⟨j+1,hjn⟩,?_,by simp only;omega⟩
  simp only[GeZ];exact aH
 obtain rfl:j=lim.length:=by omega
 have r1:decide ((lim.length:Int)<(lim.length:Int))=false:=df (by omega)
 repeat' (first|simp (maxSteps:=9999999) only[↓GE,PL,PP,EE,QQ,seval,r1,lm]|(simp (disch:=omega) only[i6])|(apply go_brD<;>intro h)|(apply go_gsD aE<;>intro h)|(apply go_br<;>intro h)|(apply go_gs aE<;>intro h)|(with_reducible apply And.intro)|exact aG|fail)
 refine go_loopz 5000 hm0 (ι:={p:Nat × Nat // p.1≤lim.length}) (fun p=>[(0,I (seedS seed p.1.1)),(4,.bp 4 0 0),(8,.bp 8 0 0),(36,.d (dInts lim)),(37,I lim.length),(38,I p.1.1)]) (fun p=>[(4,.box 0 [.nl 1,I 0]),(8,.box 0 [.og 51 p.1.2,I 0]),(51,.arr p.1.2 1 true ((seedF seed lim p.1.1).map eI))]) (fun p=>lim.length-p.1.1) [] [51] ⟨(0,0),Nat.zero_le _⟩ ?_ ?_
 ·simp only[GeZ];(simp only[GeS];refine⟨?_,?_,?_,?_⟩;all_goals (repeat' (first|(with_reducible exact True.intro)|(with_reducible rfl)|simp only[XC,↓reduceIte,seval]|(with_reducible apply And.intro)|(refine⟨_,rfl,?_⟩)|(simp [seedF,seedS];done)|exact aS|fail)))
 rintro⟨⟨j,v⟩,hj⟩
 simp only at hj ⊢
 by_cases hjn:j<lim.length
 ·have r1:decide ((j:Int)<(lim.length:Int))=true:=dt (by omega)
  have u1:IntKind.i64.wrap ((j:Int)+1)=((j+1:Nat):Int):=by rw[i6 _ (by omega)];omega
  have hs:=getD_map eI [] 0 lim j hjn
  have hx:=ho _ (mem_getD 0 lim j hjn)
  have hin:=seedS_in (seed:=seed) (by omega) (j:=j)
  have hin':=seedS_in (seed:=seed) (by omega) (j:=j+1)
  have hn1:seedS seed (j+1)=seedS seed j*48271 % 2147483647:=rfl
  have hn2:seedF seed lim (j+1)=seedF seed lim j++[seedS seed (j+1) % lim.getD j 0]:=rfl
  have hlen:=seedF_len (seed:=seed) (lim:=lim) (j:=j)
  have t1:(seedS seed j*48271).tmod 2147483647=seedS seed (j+1):=by rw[tmod_pos (by omega),hn1]
  have w1:IntKind.i64.wrap (seedS seed j*48271)=seedS seed j*48271:=i6 _ (by omega)
  generalize lim.getD j 0=x at *
  have t2:(seedS seed (j+1)).tmod x=seedS seed (j+1) % x:=tmod_pos hin'.1
  have r2:(x == 0)=false:=by simp;omega
  generalize hS:seedS seed j=S at *
  generalize hS1:seedS seed (j+1)=S1 at *
  have hx0:x ≠ 0:=by omega
  have b1:=Int.emod_nonneg S1 hx0
  have b2:=Int.emod_lt_of_pos S1 (show 0<x by omega)
  repeat' (first|simp (maxSteps:=9999999) only[↓GE,PL,PP,EE,QQ,seval,r1,r2,w1,t1,t2,u1,hs,eI,hjn,hlen,lm]|(simp (disch:=omega) only[i6])|(apply go_brD<;>intro h)|(apply go_gsD aE<;>intro h)|(apply go_br<;>intro h)|(apply go_gs aE<;>intro h)|(with_reducible apply And.intro)|exact aG|fail)
  refine⟨[],[],⟨(j+1,v+1),hjn⟩,?_,by simp only;omega⟩
  simp only[GeZ];(simp only[GeS];refine⟨?_,?_,?_,?_⟩;all_goals (repeat' (first|(with_reducible exact True.intro)|(with_reducible rfl)|simp only[XC,↓reduceIte,seval]|(with_reducible apply And.intro)|(refine⟨_,rfl,?_⟩)|(simp [hn2,hS1,eI];done)|exact aS|fail)))
 obtain rfl:j=lim.length:=by omega
 have r1:decide ((lim.length:Int)<(lim.length:Int))=false:=df (by omega)
 repeat' (first|simp (maxSteps:=9999999) only[↓GE,PL,PP,EE,QQ,seval,r1]|(simp (disch:=omega) only[i6])|(apply go_brD<;>intro h)|(apply go_gsD aE<;>intro h)|(apply go_br<;>intro h)|(apply go_gs aE<;>intro h)|(with_reducible apply And.intro)|exact aG|fail)
 all_goals ((first|apply ret_mk []|apply end_mk []);(· exact aR);(· exact aZ);all_goals exact aF)
end Go.Proofs.YtacfbiegbdlldaaGreatDoor.Sim
end
section
namespace Go.Proofs.YtacfbiegbdlldaaGreatDoor.Sim
open Go Go.RowKit Go.Deep
set_option maxRecDepth 100000
set_option maxHeartbeats 4000000
set_option linter.unusedVariables false
set_option linter.unusedSimpArgs false
attribute [local irreducible] Go Mean
def seedV (l:List Int) (k:Nat):Int:=1+nextV l k 2147483646
theorem seedV_in (l:List Int) (k:Nat):1≤seedV l k∧seedV l k<2147483647:=by
 have:=nextV_in l k 2147483646
 unfold seedV;omega
theorem seedM (l:List Int) (hl:l.length≤17592186044416) (k:Nat) (lim:List Int) (hll:lim.length≤16384) (ho:limOKs lim):Does Tryz.prog 14 [dkp,.d (dInts lim)] (dk l k) (.ag [.d (dInts (seedF (seedV l k) lim lim.length)),I 0]) (dk l (nextK l k 2147483646)) []:=by
 refine G10' rfl BxOK.one fun cx hm0=>go_in 5000 ?_
 unfold A10' R10'
 have e1:=next l hl k 2147483646 (by omega)
 have hin:=seedV_in l k
 have e2:=seedT (seedV l k) lim hin hll ho
 have w1:IntKind.i64.wrap (1+nextV l k 2147483646)=seedV l k:=i6 _ (by unfold seedV at hin;omega)
 generalize seedV l k=sv at *
 repeat' (first|simp (maxSteps:=9999999) only[↓GE,PL,PP,EE,QQ,seval,w1]|(simp (disch:=omega) only[i6])|(apply go_brD<;>intro h)|(apply go_gsD aE<;>intro h)|(apply go_br<;>intro h)|(apply go_gs aE<;>intro h)|(apply go_call 5000 (e1) rfl rfl;iterate 4 (first|(exact CallForm.lent aL rfl rfl)|exact aC))|(apply go_call 5000 (e2) rfl rfl;iterate 4 (first|(exact CallForm.plain rfl)|exact aC))|(with_reducible apply And.intro)|exact aG|fail)
 ((first|apply ret_mk []|apply end_mk []);(· exact aR);(· exact aZ);all_goals exact aF)
end Go.Proofs.YtacfbiegbdlldaaGreatDoor.Sim
end
section
namespace Go.Proofs.YtacfbiegbdlldaaGreatDoor.Sim
open Go Go.RowKit Go.Deep
set_option maxRecDepth 100000
set_option maxHeartbeats 4000000
set_option linter.unusedVariables false
set_option linter.unusedSimpArgs false
attribute [local irreducible] Go Mean
def sumP (p:Int) (l:List Int):Int:=l.foldl (fun s x=>(s+x) % p) 0
theorem sumP_next {p:Int} {l:List Int} {j:Nat} (h:j<l.length):sumP p (l.take (j+1))=(sumP p (l.take j)+l.getD j 0) % p:=by
 unfold sumP
 rw[List.take_succ_eq_append_getElem h,List.foldl_append,List.getD_eq_getElem?_getD,List.getElem?_eq_getElem h]
 rfl
theorem sumP_in {p:Int} (hp:1≤p) {l:List Int}:∀ {j:Nat},j≤l.length→0≤sumP p (l.take j)∧sumP p (l.take j)<p
 |0,_=>by simp [sumP];omega
 |j+1,h=>by
  rw[sumP_next h]
  exact⟨Int.emod_nonneg _ (by omega),Int.emod_lt_of_pos _ (by omega)⟩
end Go.Proofs.YtacfbiegbdlldaaGreatDoor.Sim
end
section
namespace Go.Proofs.YtacfbiegbdlldaaGreatDoor.Sim
open Go Go.RowKit Go.Deep
open Go.Proofs.YtacfbiegbdlldaaGreatDoor.Tw (WCell)
set_option linter.unusedVariables false
set_option linter.unusedSimpArgs false
theorem ordR_perm {l rest:List Int} {k:Nat} (h:0<rest.length):(rest.getD (ordJ l rest k) 0 :: ordR l rest k).Perm rest:=by
 have hj:=(ordJ_lt (l:=l) (k:=k) h).1
 unfold ordR
 generalize ordJ l rest k=j at *
 have h2:rest=rest.take j++(rest.getD j 0 :: rest.drop (j+1)):=by
  conv=>lhs;rw[← List.take_append_drop j rest]
  rw[List.drop_eq_getElem_cons hj,List.getD_eq_getElem?_getD,List.getElem?_eq_getElem hj]
  rfl
 conv=>rhs;rw[h2]
 exact (List.perm_middle).symm
theorem ordF_perm {l:List Int}:∀ {f:Nat} {rest:List Int} {k:Nat},rest.length=f→(ordF l f rest k).1.Perm rest
 |0,rest,k,h=>by
  rw[List.eq_nil_of_length_eq_zero h]
  exact List.Perm.refl _
 |f+1,rest,k,h=>by
  rw[ordF_step (by omega)]
  have h0:=ordR_len (l:=l) (rest:=rest) (k:=k) (by omega)
  exact (List.Perm.cons _ (ordF_perm (by omega))).trans (ordR_perm (by omega))
structure AnsS where
 rows:List (List Int)
 kn:List Bool
 bad:List Bool
 k:Nat
def ansStep (l:List Int) (p:Int) (w wrong silent i j:Nat) (s:AnsS):AnsS :=
 if i<wrong then ⟨s.rows.set j ((s.rows.getD j []).set (nextN l s.k w) (((s.rows.getD j []).getD (nextN l s.k w) 0+1+nextV l (nextK l s.k w) (p-1)) % p)),s.kn,s.bad.set j true,nextK l (nextK l s.k w) (p-1)⟩
 else if i<wrong+silent then ⟨s.rows,s.kn.set j false,s.bad,s.k⟩ else s
def ansN (l:List Int) (p:Int) (w wrong silent:Nat) (ord:List Int) (s0:AnsS):Nat→AnsS
 |0=>s0
 |i+1=>ansStep l p w wrong silent i (ord.getD i 0).toNat (ansN l p w wrong silent ord s0 i)
def ansZ (H:List (List Int)) (k:Nat):AnsS:=⟨H,List.replicate H.length true,List.replicate H.length false,k⟩
structure OrdOK (ord:List Int) (n:Nat):Prop where
 len:ord.length=n
 lt:∀ i,i<n→0≤ord.getD i 0∧ord.getD i 0<n
 ne:∀ i j,i<j→j<n→ord.getD i 0 ≠ ord.getD j 0
theorem ordOK {l:List Int} {n k:Nat}:OrdOK (ordF l n (upTo n) k).1 n:=by
 have hp:=ordF_perm (l:=l) (k:=k) (upTo_len (n:=n))
 generalize (ordF l n (upTo n) k).1=o at *
 have hl:o.length=n:=by rw[hp.length_eq,upTo_len]
 have hnd:(upTo n).Nodup:=by
  unfold upTo
  rw[List.nodup_iff_pairwise_ne,List.pairwise_map]
  exact List.nodup_range.imp fun h e=>h (by omega)
 have hno:o.Nodup:=(hp.nodup_iff).2 hnd
 refine⟨hl,fun i hi=>?_,fun i j hij hj e=>?_⟩
 ·have:o.getD i 0 ∈ upTo n:=hp.mem_iff.1 (mem_getD 0 o i (by omega))
  simp only[upTo,List.mem_map,List.mem_range] at this
  obtain⟨m,hm,e⟩:=this
  omega
 ·rw[List.getD_eq_getElem?_getD,List.getElem?_eq_getElem (by omega),List.getD_eq_getElem?_getD,List.getElem?_eq_getElem (by omega)] at e
  exact (List.pairwise_iff_getElem.1 hno i j (by omega) (by omega) hij) e
structure AnsI (p:Int) (w:Nat) (H:List (List Int)) (ord:List Int) (wrong silent i:Nat) (s:AnsS):Prop where
 rl:s.rows.length=H.length
 kl:s.kn.length=H.length
 bl:s.bad.length=H.length
 no:∀ j,j<H.length→s.bad.getD j false=false→s.rows.getD j []=H.getD j []
 yes:∀ j,j<H.length→s.bad.getD j false=true→s.kn.getD j true=true∧∃ c v,c<w∧0≤v∧v<p∧v ≠ (H.getD j []).getD c 0∧s.rows.getD j []=(H.getD j []).set c v
 new:∀ j,j<H.length→(s.bad.getD j false=true∨s.kn.getD j true=false)→∃ m,m<i∧(ord.getD m 0).toNat=j
 nb:s.bad.count true≤wrong∧s.bad.count true≤i
 nk:s.kn.count false≤silent∧s.kn.count false+wrong≤max i wrong
theorem getD_rep {α:Type} {n j:Nat} {a d:α} (h:j<n):(List.replicate n a).getD j d=a:=by
 simp [List.getD_eq_getElem?_getD,List.getElem?_replicate,h]
theorem getD_set' {α:Type} {l:List α} {i j:Nat} {a d:α} (h:i<l.length):(l.set i a).getD j d=if i=j then a else l.getD j d:=by
 rw[List.getD_eq_getElem?_getD,List.getElem?_set]
 by_cases e:i=j
 ·rw[if_pos e,if_pos h,if_pos e];rfl
 ·rw[if_neg e,if_neg e,← List.getD_eq_getElem?_getD]
theorem ansI_zero {p:Int} {w:Nat} {H:List (List Int)} {ord:List Int} {wrong silent k:Nat}:AnsI p w H ord wrong silent 0 (ansZ H k):=by
 refine⟨rfl,by simp [ansZ],by simp [ansZ],fun j hj _=>rfl,fun j hj h=>?_,fun j hj h=>?_,?_,?_⟩
 ·simp only[ansZ,getD_rep hj] at h;cases h
 ·simp only[ansZ,getD_rep hj] at h;rcases h with h|h <;> cases h
 ·simp [ansZ,List.count_replicate]
 ·simp [ansZ,List.count_replicate]
theorem wrong_ne {p x e:Int} (hx:0≤x∧x<p) (he:0≤e∧e<p-1):0≤(x+1+e) % p∧(x+1+e) % p<p∧(x+1+e) % p ≠ x:=by
 refine⟨Int.emod_nonneg _ (by omega),Int.emod_lt_of_pos _ (by omega),?_⟩
 by_cases h:x+1+e<p
 ·rw[Int.emod_eq_of_lt (by omega) h];omega
 ·have:(x+1+e) % p=x+1+e-p:=by
   rw[← Int.sub_emod_right,Int.emod_eq_of_lt (by omega) (by omega)]
  omega
theorem ansI_step {l:List Int} {p:Int} {w:Nat} {H:List (List Int)} {ord:List Int} {wrong silent i:Nat} {s:AnsS} (hp:2≤p) (hw:1≤w) (hH:RowsOK p w H) (ho:OrdOK ord H.length) (hi:i<H.length) (h:AnsI p w H ord wrong silent i s) :
  AnsI p w H ord wrong silent (i+1) (ansStep l p w wrong silent i (ord.getD i 0).toNat s):=by
 have hj:=ho.lt i hi
 have hnew:∀ m,m<i→(ord.getD m 0).toNat ≠ (ord.getD i 0).toNat:=fun m hm e=>by
  have h1:=ho.lt m (by omega)
  have h2:=ho.ne m i hm hi
  omega
 obtain⟨j,hjd⟩:∃ j,j=(ord.getD i 0).toNat:=⟨_,rfl⟩
 rw[← hjd] at hnew ⊢
 have hjl:j<H.length:=by omega
 have hbj:s.bad.getD j false=false:=by
  cases hb:s.bad.getD j false with
  |false=>rfl
  |true =>
   obtain⟨m,hm,e⟩:=h.new j hjl (.inl hb)
   exact absurd e (hnew m hm)
 have hkj:s.kn.getD j true=true:=by
  cases hb:s.kn.getD j true with
  |true=>rfl
  |false =>
   obtain⟨m,hm,e⟩:=h.new j hjl (.inr hb)
   exact absurd e (hnew m hm)
 have hrj:=h.no j hjl hbj
 have hHj:=hH _ (mem_getD [] H j hjl)
 have hb1:=h.nb
 have hk1:=h.nk
 unfold ansStep
 by_cases h1:i<wrong
 ·rw[if_pos h1]
  have hc:=nextN_lt l s.k w hw
  have hv:=nextV_in l (nextK l s.k w) (p-1)
  generalize nextN l s.k w=c at *
  generalize nextK l s.k w=k1 at *
  generalize nextV l k1 (p-1)=e at *
  have hwl:(H.getD j []).length=w:=by have:=hHj.1;omega
  have hx:=all_getD hHj.2 (i:=c) (by omega)
  obtain⟨g1,g2,g3⟩:=wrong_ne hx (e:=e) (by omega)
  rw[hrj]
  refine⟨by simp only[List.length_set];exact h.rl,h.kl,by simp only[List.length_set];exact h.bl,fun m hm hb=>?_,fun m hm hb=>?_,fun m hm hb=>?_,?_,?_⟩
  ·simp only at hb ⊢
   rw[getD_set' (by rw[h.bl];exact hjl)] at hb
   rw[getD_set' (by rw[h.rl];exact hjl)]
   by_cases e1:j=m
   ·rw[if_pos e1] at hb;cases hb
   ·rw[if_neg e1] at hb ⊢;exact h.no m hm hb
  ·simp only at hb ⊢
   rw[getD_set' (by rw[h.bl];exact hjl)] at hb
   rw[getD_set' (by rw[h.rl];exact hjl)]
   by_cases e1:j=m
   ·subst e1
    rw[if_pos rfl]
    exact⟨hkj,c,_,hc,g1,g2,g3,rfl⟩
   ·rw[if_neg e1] at hb ⊢;exact h.yes m hm hb
  ·simp only at hb
   rw[getD_set' (by rw[h.bl];exact hjl)] at hb
   by_cases e1:j=m
   ·exact⟨i,by omega,by omega⟩
   ·rw[if_neg e1] at hb
    obtain⟨q,hq,e⟩:=h.new m hm hb
    exact⟨q,by omega,e⟩
  ·simp only
   have:(s.bad.set j true).count true≤s.bad.count true+1:=by
    rw[List.count_set (by rw[h.bl];exact hjl)]
    simp
   omega
  ·simp only;omega
 ·rw[if_neg h1]
  by_cases h2:i<wrong+silent
  ·rw[if_pos h2]
   refine⟨h.rl,by simp only[List.length_set];exact h.kl,h.bl,h.no,fun m hm hb=>?_,fun m hm hb=>?_,?_,?_⟩
   ·simp only at hb ⊢
    rw[getD_set' (by rw[h.kl];exact hjl)]
    by_cases e1:j=m
    ·subst e1;rw[hbj] at hb;cases hb
    ·rw[if_neg e1];exact h.yes m hm hb
   ·simp only at hb
    rw[getD_set' (by rw[h.kl];exact hjl)] at hb
    by_cases e1:j=m
    ·exact⟨i,by omega,by omega⟩
    ·rw[if_neg e1] at hb
     obtain⟨q,hq,e⟩:=h.new m hm hb
     exact⟨q,by omega,e⟩
   ·simp only;omega
   ·simp only
    have:(s.kn.set j false).count false≤s.kn.count false+1:=by
     rw[List.count_set (by rw[h.kl];exact hjl)]
     simp
    omega
  ·rw[if_neg h2]
   refine⟨h.rl,h.kl,h.bl,h.no,h.yes,fun m hm hb=>?_,by omega,by omega⟩
   obtain⟨q,hq,e⟩:=h.new m hm hb
   exact⟨q,by omega,e⟩
theorem ansI {l:List Int} {p:Int} {w:Nat} {H:List (List Int)} {ord:List Int} {wrong silent k:Nat} (hp:2≤p) (hw:1≤w) (hH:RowsOK p w H) (ho:OrdOK ord H.length):∀ {i:Nat},i≤H.length→AnsI p w H ord wrong silent i (ansN l p w wrong silent ord (ansZ H k) i)
 |0,_=>ansI_zero
 |i+1,h=>ansI_step hp hw hH ho (by omega) (ansI hp hw hH ho (by omega))
def ansAt (rows:List (List Int)) (kn:List Bool) (j:Nat):PAns:=if kn.getD j true then ⟨true,rows.getD j []⟩ else ⟨false,[]⟩
def ansL (rows:List (List Int)) (kn:List Bool):List PAns:=(List.range rows.length).map (ansAt rows kn)
theorem ansAt_k {rows:List (List Int)} {kn:List Bool} {j:Nat}:(ansAt rows kn j).k=kn.getD j true:=by
 unfold ansAt
 cases kn.getD j true <;> rfl
def badL (b:List Bool):Nat→List Int
 |0=>[]
 |j+1=>if b.getD j false then badL b j++[(j:Int)+1] else badL b j
theorem badL_mem {b:List Bool} {x:Int}:∀ {n:Nat},x ∈ badL b n↔∃ j,j<n∧x=(j:Int)+1∧b.getD j false=true
 |0=>by simp [badL]
 |n+1=>by
  rw[badL]
  constructor
  ·intro h
   split at h
   ·rename_i hb
    rcases List.mem_append.1 h with h|h
    ·obtain⟨j,h1,h2⟩:=badL_mem.1 h;exact⟨j,by omega,h2⟩
    ·exact⟨n,by omega,by simpa using h,hb⟩
   ·obtain⟨j,h1,h2⟩:=badL_mem.1 h;exact⟨j,by omega,h2⟩
  ·rintro⟨j,h1,h2,h3⟩
   by_cases e:j=n
   ·subst e;rw[if_pos h3,h2];simp
   ·have:=(badL_mem (b:=b) (x:=x) (n:=n)).2 ⟨j,by omega,h2,h3⟩
    split
    ·exact List.mem_append_left _ this
    ·exact this
theorem badL_asc {b:List Bool}:∀ {n:Nat},(badL b n).Pairwise (·<·)
 |0=>by simp [badL]
 |n+1=>by
  rw[badL]
  split
  ·rw[List.pairwise_append]
   refine⟨badL_asc,by simp,fun x hx y hy=>?_⟩
   obtain⟨j,h1,h2,_⟩:=badL_mem.1 hx
   simp only[List.mem_singleton] at hy
   omega
  ·exact badL_asc
theorem badL_len {b:List Bool}:∀ {n:Nat},(badL b n).length≤n
 |0=>by simp [badL]
 |n+1=>by
  have:=badL_len (b:=b) (n:=n)
  rw[badL]
  split
  ·simp only[List.length_append,List.length_cons,List.length_nil];omega
  ·omega
theorem badL_count {b:List Bool}:∀ {n:Nat},n≤b.length→(badL b n).length=(b.take n).count true
 |0,_=>by simp [badL]
 |n+1,h=>by
  have ih:=badL_count (b:=b) (n:=n) (by omega)
  rw[badL,List.take_succ_eq_append_getElem (by omega),List.count_append]
  have e:b.getD n false=b[n]:=by rw[List.getD_eq_getElem?_getD,List.getElem?_eq_getElem (by omega)];rfl
  rw[e]
  cases b[n] <;> simp [ih]
theorem cnt_ansL {rows:List (List Int)} {kn:List Bool}:∀ {n:Nat},n≤rows.length→n≤kn.length→cntA ((List.range n).map (ansAt rows kn))+(kn.take n).count false=n
 |0,_,_=>by simp [cntA]
 |n+1,h,h2=>by
  have ih:=cnt_ansL (rows:=rows) (kn:=kn) (n:=n) (by omega) (by omega)
  rw[List.range_succ,List.map_append,cntA_append,List.take_succ_eq_append_getElem (by omega),List.count_append]
  have e:kn.getD n true=kn[n]:=by rw[List.getD_eq_getElem?_getD,List.getElem?_eq_getElem (by omega)];rfl
  simp only[List.map_cons,List.map_nil,cntA,ansAt_k,e]
  cases kn[n] <;> simp <;> omega
theorem wrN_mem {p:Int} {f:List Int} {x:Int}:∀ {l:List WCell} {i:Nat},x ∈ wrN p f i l↔∃ j,∃ h:j<l.length,x=((i+j:Nat):Int)+1∧l[j].k=true∧valF p f (((i+j:Nat):Int)+1) ≠ l[j].v
 |[],i=>by simp [wrN]
 |c :: r,i=>by
  have ih:=wrN_mem (p:=p) (f:=f) (x:=x) (l:=r) (i:=i+1)
  have key:x ∈ wrN p f i (c :: r)↔(x=(i:Int)+1∧c.k=true∧valF p f ((i:Int)+1) ≠ c.v)∨x ∈ wrN p f (i+1) r:=by
   rw[wrN]
   split
   ·rename_i h
    simp only[Bool.and_eq_true,bne_iff_ne] at h
    rw[List.mem_cons]
    constructor
    ·rintro (h1|h1)
     ·exact .inl ⟨h1,h⟩
     ·exact .inr h1
    ·rintro (h1|h1)
     ·exact .inl h1.1
     ·exact .inr h1
   ·rename_i h
    simp only[Bool.and_eq_true,bne_iff_ne] at h
    constructor
    ·exact .inr
    ·rintro (h1|h1)
     ·exact absurd h1.2 h
     ·exact h1
  rw[key,ih]
  constructor
  ·rintro (h|⟨j,h,h1,h2,h3⟩)
   ·exact⟨0,by simp,h.1,h.2.1,h.2.2⟩
   ·refine⟨j+1,by simp only[List.length_cons];omega,by omega,by simpa using h2,?_⟩
    simp only[List.getElem_cons_succ]
    rw[show i+(j+1)=i+1+j by omega]
    exact h3
  ·rintro⟨j,h,h1,h2,h3⟩
   cases j with
   |zero=>exact .inl ⟨h1,h2,h3⟩
   |succ j =>
    refine .inr ⟨j,by simp only[List.length_cons] at h;omega,by omega,by simpa using h2,?_⟩
    simp only[List.getElem_cons_succ] at h3
    rw[show i+1+j=i+(j+1) by omega]
    exact h3
theorem ansL_len {rows:List (List Int)} {kn:List Bool}:(ansL rows kn).length=rows.length:=by simp [ansL]
theorem ansL_get {rows:List (List Int)} {kn:List Bool} {j:Nat} (h:j<rows.length):(ansL rows kn)[j]'(by rw[ansL_len];exact h)=ansAt rows kn j:=by
 simp [ansL]
theorem ans_read {p:Int} {w need wrong silent i:Nat} {H:List (List Int)} {ord:List Int} {s:AnsS} {F:Nat→List Int} (hf:fieldB p=true) (h:AnsI p w H ord wrong silent i s) (hH:RowsOK p w H) (hl:H.length≤12) (hlp:(H.length:Int)<p) (h1:1≤need) (hn:silent+2*wrong+need≤H.length)
  (hF:∀ i,i<w→(F i).length=need∧(F i).all (inE p)=true) (hv:∀ i j,i<w→j<H.length→(H.getD j []).getD i 0=valF p (F i) ((j:Int)+1)) :
  AnsOK p w (ansL s.rows s.kn)∧need≤cntA (ansL s.rows s.kn)∧ColsOK p need w (ansL s.rows s.kn)∧sortF (wrgsF p need w (ansL s.rows s.kn))=badL s.bad H.length∧heads (polysF p need w (ansL s.rows s.kn))=(List.range w).map fun i=>(F i).getD 0 0:=by
 have hp2:=(fieldB_iff.1 hf).1
 have hrow:∀ j,j<H.length→(s.rows.getD j []).length=w∧(s.rows.getD j []).all (inE p)=true:=fun j hj=>by
  have hHj:=hH _ (mem_getD [] H j hj)
  cases hb:s.bad.getD j false with
  |false=>rw[h.no j hj hb];exact⟨by have:=hHj.1;omega,hHj.2⟩
  |true =>
   obtain⟨_,c,v,hc,hv0,hvp,_,e⟩:=h.yes j hj hb
   rw[e]
   refine⟨by rw[List.length_set];have:=hHj.1;omega,?_⟩
   rw[allIn]
   intro x hx
   rcases List.mem_or_eq_of_mem_set hx with hx|hx
   ·exact allIn.1 hHj.2 x hx
   ·subst hx;exact⟨hv0,hvp⟩
 have hA:AnsOK p w (ansL s.rows s.kn):=fun a ha hk=>by
  simp only[ansL,List.mem_map,List.mem_range] at ha
  obtain⟨j,hj,rfl⟩:=ha
  rw[h.rl] at hj
  rw[ansAt_k] at hk
  unfold ansAt
  rw[if_pos hk];exact hrow j hj
 have hcn:cntA (ansL s.rows s.kn)+s.kn.count false=H.length:=by
  have:=cnt_ansL (rows:=s.rows) (kn:=s.kn) (n:=H.length) (by rw[h.rl];exact Nat.le_refl _) (by rw[h.kl];exact Nat.le_refl _)
  rw[List.take_of_length_le (by rw[h.kl];exact Nat.le_refl _)] at this
  unfold ansL
  rw[h.rl]
  exact this
 have hbn:(badL s.bad H.length).length≤wrong:=by
  rw[badL_count (by rw[h.bl];exact Nat.le_refl _),List.take_of_length_le (by rw[h.bl];exact Nat.le_refl _)]
  exact h.nb.1
 have hk1:=h.nk.1
 have hlen:(ansL s.rows s.kn).length=H.length:=by rw[ansL_len,h.rl]
 have hmem:∀ i,i<w→∀ x,x ∈ wrN p (F i) 0 (colC i (ansL s.rows s.kn))↔∃ j,j<H.length∧x=(j:Int)+1∧s.bad.getD j false=true∧(s.rows.getD j []).getD i 0 ≠ (H.getD j []).getD i 0:=fun i hi x=>by
  rw[wrN_mem]
  have hc:∀ j (hj:j<H.length),(colC i (ansL s.rows s.kn))[j]'(by rw[colC_len,hlen];exact hj)=⟨if s.kn.getD j true then (s.rows.getD j []).getD i 0 else 0,s.kn.getD j true⟩:=fun j hj=>by
   simp only[colC,List.getElem_map]
   rw[ansL_get (by rw[h.rl];exact hj),ansAt_k]
   unfold ansAt
   cases s.kn.getD j true <;> rfl
  constructor
  ·rintro⟨j,hj,h2,h3,h4⟩
   rw[colC_len,hlen] at hj
   rw[hc j hj] at h3 h4
   simp only[Nat.zero_add] at h2 h3 h4
   rw[if_pos h3,← hv i j hi hj] at h4
   refine⟨j,hj,h2,?_,fun e=>h4 e.symm⟩
   cases hb:s.bad.getD j false with
   |true=>rfl
   |false=>exact absurd (by rw[h.no j hj hb]) h4
  ·rintro⟨j,hj,h2,h3,h4⟩
   refine⟨j,by rw[colC_len,hlen];exact hj,by rw[Nat.zero_add];exact h2,?_⟩
   rw[hc j hj]
   have hk:=(h.yes j hj h3).1
   simp only[Nat.zero_add]
   rw[if_pos hk,← hv i j hi hj]
   exact⟨hk,fun e=>h4 e.symm⟩
 have hcol:∀ j,j<H.length→s.bad.getD j false=true→∃ c,c<w∧∀ i,i<w→((s.rows.getD j []).getD i 0 ≠ (H.getD j []).getD i 0↔i=c):=fun j hj hb=>by
  obtain⟨_,c,v,hc,hv0,hvp,hne,e⟩:=h.yes j hj hb
  have hHj:=hH _ (mem_getD [] H j hj)
  refine⟨c,hc,fun i hi=>?_⟩
  rw[e,getD_set' (by have:=hHj.1;omega)]
  constructor
  ·intro h2
   by_cases e2:c=i
   ·exact e2.symm
   ·rw[if_neg e2] at h2;exact absurd rfl h2
  ·rintro rfl
   rw[if_pos rfl];exact hne
 obtain⟨g1,g2,g3⟩:=cols_ok (F:=F) (B:=badL s.bad H.length) hf (by omega) (by omega) hA h1 (by omega) hF badL_asc (by omega) (by omega)
  (fun i hi x hx=>by
   obtain⟨j,hj,h2,h3,_⟩:=(hmem i hi x).1 hx
   exact badL_mem.2 ⟨j,hj,h2,h3⟩)
  (fun x hx=>by
   obtain⟨j,hj,h2,h3⟩:=badL_mem.1 hx
   obtain⟨c,hc,h4⟩:=hcol j hj h3
   exact⟨c,hc,(hmem c hc x).2 ⟨j,hj,h2,h3,(h4 c hc).2 rfl⟩⟩)
  (fun i i2 x hi hi2 hx hx2=>by
   obtain⟨j,hj,h2,h3,h5⟩:=(hmem i hi x).1 hx
   obtain⟨j2,hj2,h22,h32,h52⟩:=(hmem i2 hi2 x).1 hx2
   obtain rfl:j=j2:=by omega
   obtain⟨c,hc,h4⟩:=hcol j hj h3
   rw[(h4 i hi).1 h5,(h4 i2 hi2).1 h52])
 exact⟨hA,by omega,g1,g2,g3⟩
end Go.Proofs.YtacfbiegbdlldaaGreatDoor.Sim
end
section
namespace Go.Proofs.YtacfbiegbdlldaaGreatDoor.Sim
open Go Go.RowKit Go.Deep
set_option linter.unusedVariables false
set_option linter.unusedSimpArgs false
theorem sumN_swap {f:Nat→Nat→Int} {m:Nat}:∀ {n:Nat},sumN (fun i=>sumN (f i) m) n=sumN (fun e=>sumN (fun i=>f i e) n) m
 |0=>by simp only[sumN];rw[sumN_zero]
 |n+1=>by
  simp only[sumN]
  rw[sumN_add,sumN_swap]
theorem sumN_mulR {f:Nat→Int} {a:Int} {n:Nat}:sumN f n*a=sumN (fun i=>f i*a) n:=by
 rw[Int.mul_comm,← sumN_mul]
 exact sumN_eq fun i _=>Int.mul_comm _ _
theorem comb_cg {p:Int} {w:Nat} {c:List Int} {rows:List (List Int)} {e:Nat} (he:e<w):∀ {n:Nat},Cg p ((combN p w c rows n).getD e 0) (sumN (fun i=>c.getD i 0*(rows.getD i []).getD e 0) n)
 |0=>by
  simp only[combN,sumN]
  rw[getD_rep he]
  exact Cg.refl 0
 |n+1=>by
  rw[combN,addStep_get (by rw[combN_len];exact he),if_pos he]
  simp only[sumN]
  exact (Cg.emod _).trans ((comb_cg he).add (Cg.emod _))
theorem comb_eq {p:Int} (hp:1≤p) {w:Nat} {c:List Int} {rows:List (List Int)} {e:Nat} (he:e<w) {x:Int} (hx:0≤x∧x<p) (h:Cg p (sumN (fun i=>c.getD i 0*(rows.getD i []).getD e 0) rows.length) x):(combL p w c rows).getD e 0=x :=
 ((comb_cg he).trans h).small (combN_in hp he) hx
def gP (p:Int) (d:Nat) (rows:List (List Int)) (cf:Nat→List Int) (c:Nat):List Int:=(List.range (d+1)).map fun e=>sumN (fun i=>(rows.getD i []).getD c 0*(cf i).getD e 0) rows.length % p
theorem gP_len {p:Int} {d:Nat} {rows:List (List Int)} {cf:Nat→List Int} {c:Nat}:(gP p d rows cf c).length=d+1:=by simp [gP]
theorem gP_in {p:Int} (hp:1≤p) {d:Nat} {rows:List (List Int)} {cf:Nat→List Int} {c:Nat}:(gP p d rows cf c).all (inE p)=true:=by
 rw[allIn]
 intro x hx
 simp only[gP,List.mem_map] at hx
 obtain⟨e,_,rfl⟩:=hx
 exact⟨Int.emod_nonneg _ (by omega),Int.emod_lt_of_pos _ (by omega)⟩
theorem gP_get {p:Int} {d:Nat} {rows:List (List Int)} {cf:Nat→List Int} {c e:Nat} (h:e<d+1):(gP p d rows cf c).getD e 0=sumN (fun i=>(rows.getD i []).getD c 0*(cf i).getD e 0) rows.length % p:=by
 simp [gP,List.getD_eq_getElem?_getD,h]
theorem colQ_get {p:Int} {cf:Nat→List Int} {k:Nat}:∀ {n i:Nat},i<n→(colQ p cf k n).getD i 0=valF p (cf i) ((k:Int)+1)
 |0,i,h=>by omega
 |n+1,i,h=>by
  rw[colQ]
  by_cases e:i<n
  ·rw[List.getD_eq_getElem?_getD,List.getElem?_append_left (by rw[colQ_len];exact e),← List.getD_eq_getElem?_getD]
   exact colQ_get e
  ·obtain rfl:i=n:=by omega
   rw[List.getD_eq_getElem?_getD,List.getElem?_append_right (by rw[colQ_len];omega),colQ_len,Nat.sub_self]
   rfl
theorem valP_in {p:Int} (hp:1≤p) (l:List Int) (x:Int):0≤valF p l x∧valF p l x<p:=by
 rw[valF_eq hp]
 exact⟨Int.emod_nonneg _ (by omega),Int.emod_lt_of_pos _ (by omega)⟩
theorem colQ_in {p:Int} (hp:1≤p) {cf:Nat→List Int} {k:Nat}:∀ {n:Nat},(colQ p cf k n).all (inE p)=true
 |0=>rfl
 |n+1=>by
  rw[colQ,List.all_append,colQ_in hp]
  have:=valP_in hp (cf n) ((k:Int)+1)
  simp [inE,this]
theorem gP_val {p:Int} (hp:1≤p) {d w:Nat} {rows:List (List Int)} {cf:Nat→List Int} {c k:Nat} (hc:c<w) (hcf:∀ i,i<rows.length→(cf i).length≤d+1):(combL p w (colQ p cf k rows.length) rows).getD c 0=valF p (gP p d rows cf c) ((k:Int)+1):=by
 refine comb_eq hp hc (valP_in hp _ _) (Cg.symm ((valF_pe _ _).trans ?_))
 have hq:∀ i,i<rows.length→Cg p ((colQ p cf k rows.length).getD i 0) (pe (cf i) ((k:Int)+1)):=fun i hi=>by rw[colQ_get hi];exact valF_pe _ _
 rw[pe_sum,gP_len]
 have h1:Cg p (sumN (fun e=>(gP p d rows cf c).getD e 0*((k:Int)+1) ^ e) (d+1)) (sumN (fun e=>sumN (fun i=>(rows.getD i []).getD c 0*(cf i).getD e 0*((k:Int)+1) ^ e) rows.length) (d+1)):=by
  refine sumN_cg fun e he=>?_
  rw[gP_get he,← sumN_mulR]
  exact (Cg.emod _).mulR
 refine h1.trans ?_
 rw[← sumN_swap]
 refine sumN_cg fun i hi=>?_
 have h2:sumN (fun e=>(rows.getD i []).getD c 0*(cf i).getD e 0*((k:Int)+1) ^ e) (d+1)=(rows.getD i []).getD c 0*pe (cf i) ((k:Int)+1):=by
  rw[pe_sum_more (cf i) _ (hcf i hi),← sumN_mul]
  exact sumN_eq fun e _=>Int.mul_assoc _ _ _
 rw[h2,Int.mul_comm]
 exact (hq i hi).symm.mulR
theorem gP_zero {p:Int} {d w:Nat} {rows:List (List Int)} {cf:Nat→List Int} {c ix:Nat} (hr:RowsOK p w rows) (hc:c<w) (hix:ix<rows.length) (h:∀ i,i<rows.length→(cf i).getD 0 0=if i=ix then 1 else 0):(gP p d rows cf c).getD 0 0=(rows.getD ix []).getD c 0:=by
 have hrow:=hr _ (mem_getD [] rows ix hix)
 have hx:=all_getD hrow.2 (i:=c) (by have:=hrow.1;omega)
 rw[gP_get (by omega),sum_one hix fun i hi hne=>by rw[h i hi,if_neg hne,Int.mul_zero]]
 rw[h ix hix,if_pos rfl,Int.mul_one,Int.emod_eq_of_lt hx.1 hx.2]
theorem sumP_snoc {p:Int} {l:List Int} {x:Int}:sumP p (l++[x])=(sumP p l+x) % p:=by simp [sumP]
/-! ### Digests of rows -/
theorem step_inj {a b c:Int} (ha:0≤a∧a<2147483647) (hb:0≤b∧b<2147483647) (h:(a*1000003+c) % 2147483647=(b*1000003+c) % 2147483647):a=b:=by
 have h1:Cg 2147483647 (a*1000003+c) (b*1000003+c):=Cg.of_emod h
 have h2:=(h1.sub (Cg.refl c)).mulR (c:=1523789695)
 refine Cg.small (p:=2147483647) ?_ ha hb
 have key:∀ z:Int,Cg 2147483647 ((z*1000003+c-c)*1523789695) z:=fun z=>by
  have e:(z*1000003+c-c)*1523789695=z*(1000003*1523789695):=by rw[Int.add_sub_cancel,Int.mul_assoc]
  rw[e]
  have:Cg 2147483647 (1000003*1523789695) 1:=Cg.of_emod (by decide)
  have h3:=this.mulL (a:=z)
  rwa [Int.mul_one] at h3
 exact (key a).symm.trans (h2.trans (key b))
theorem rowGo_inj:∀ {l:List Int} {a b:Int},0≤a∧a<2147483647→0≤b∧b<2147483647→rowGo a l=rowGo b l→a=b
 |[],a,b,_,_,h=>h
 |x :: l,a,b,ha,hb,h=>by
  have h2:∀ z:Int,0≤(z*1000003+modP x+1) % 2147483647∧(z*1000003+modP x+1) % 2147483647<2147483647:=fun z=>⟨Int.emod_nonneg _ (by omega),Int.emod_lt_of_pos _ (by omega)⟩
  have h3:=rowGo_inj (l:=l) (h2 a) (h2 b) h
  rw[Int.add_assoc,Int.add_assoc] at h3
  exact step_inj ha hb h3
theorem modP_small {x:Int} (h:0≤x∧x<2147483647):modP x=x:=by unfold modP;omega
theorem rowGo_append {d:Int} {a b:List Int}:rowGo d (a++b)=rowGo (rowGo d a) b:=by simp [rowGo,List.foldl_append]
theorem rowGo_in {d:Int} (h:0≤d∧d<2147483647):∀ {l:List Int},0≤rowGo d l∧rowGo d l<2147483647
 |[]=>h
 |x :: l=>rowGo_in (l:=l) (d:=(d*1000003+modP x+1) % 2147483647) ⟨Int.emod_nonneg _ (by omega),Int.emod_lt_of_pos _ (by omega)⟩
theorem rowF_ne {a b:List Int} {x y:Int} (hx:0≤x∧x<2147483647) (hy:0≤y∧y<2147483647) (h:x ≠ y):rowF (a++x :: b) ≠ rowF (a++y :: b):=by
 intro e
 unfold rowF at e
 rw[rowGo_append,rowGo_append] at e
 have hd:=rowGo_in (d:=2) (by omega) (l:=a)
 generalize rowGo 2 a=d at *
 have h2:∀ z:Int,0≤(d*1000003+modP z+1) % 2147483647∧(d*1000003+modP z+1) % 2147483647<2147483647:=fun z=>⟨Int.emod_nonneg _ (by omega),Int.emod_lt_of_pos _ (by omega)⟩
 have h3:=rowGo_inj (l:=b) (h2 x) (h2 y) e
 rw[modP_small hx,modP_small hy] at h3
 omega
end Go.Proofs.YtacfbiegbdlldaaGreatDoor.Sim
end
