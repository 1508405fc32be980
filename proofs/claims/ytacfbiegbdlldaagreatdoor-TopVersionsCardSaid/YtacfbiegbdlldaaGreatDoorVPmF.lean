/- The equations of a word, and polynomials with given roots. Conditions: none. -/
import Derived.Test.YtacfbiegbdlldaaGreatDoorVTpT
import Derived.Test.YtacfbiegbdlldaaGreatDoorVFieldPlain
section
namespace Go.Proofs.YtacfbiegbdlldaaGreatDoor.Sim
open Go Go.RowKit Go.Deep
open Go.Proofs.YtacfbiegbdlldaaGreatDoor.Field (isP isP.mul)
set_option linter.unusedVariables false
def Cg (p a b:Int):Prop:=p ∣ a-b
section
variable {p a b c d:Int}
theorem Cg.refl (a:Int):Cg p a a:=by unfold Cg;rw[Int.sub_self];exact Int.dvd_zero p
theorem Cg.of_eq (h:a=b):Cg p a b:=h ▸ Cg.refl a
theorem Cg.symm (h:Cg p a b):Cg p b a:=by
 obtain⟨k,hk⟩:=h
 exact⟨-k,by rw[Int.mul_neg];omega⟩
theorem Cg.trans (h:Cg p a b) (h':Cg p b c):Cg p a c:=by
 obtain⟨k,hk⟩:=h
 obtain⟨j,hj⟩:=h'
 exact⟨k+j,by rw[Int.mul_add];omega⟩
theorem Cg.add (h:Cg p a b) (h':Cg p c d):Cg p (a+c) (b+d):=by
 obtain⟨k,hk⟩:=h
 obtain⟨j,hj⟩:=h'
 exact⟨k+j,by rw[Int.mul_add];omega⟩
theorem Cg.sub (h:Cg p a b) (h':Cg p c d):Cg p (a-c) (b-d):=by
 obtain⟨k,hk⟩:=h
 obtain⟨j,hj⟩:=h'
 exact⟨k-j,by rw[Int.mul_sub];omega⟩
theorem Cg.mul (h:Cg p a b) (h':Cg p c d):Cg p (a*c) (b*d):=by
 obtain⟨k,hk⟩:=h
 obtain⟨j,hj⟩:=h'
 refine⟨k*c+b*j,?_⟩
 have h1:a=b+p*k:=by omega
 have h2:c=d+p*j:=by omega
 rw[h1,h2]
 simp only[Int.add_mul,Int.mul_add]
 have e1:b*(p*j)=p*(b*j):=by rw[← Int.mul_assoc,Int.mul_comm b p,Int.mul_assoc]
 have e2:p*(k*(p*j))=p*k*(p*j):=by rw[Int.mul_assoc]
 rw[e1,e2,← Int.mul_assoc p k d]
 omega
theorem Cg.mulL (h:Cg p c d):Cg p (a*c) (a*d):=(Cg.refl a).mul h
theorem Cg.mulR (h:Cg p a b):Cg p (a*c) (b*c):=h.mul (Cg.refl c)
theorem Cg.emod (a:Int):Cg p (a % p) a:=by
 refine⟨-(a / p),?_⟩
 have:=Int.emod_add_mul_ediv a p
 rw[Int.mul_neg];omega
theorem Cg.emod_eq (h:Cg p a b):a % p=b % p:=Int.emod_eq_emod_iff_emod_sub_eq_zero.2 (Int.emod_eq_zero_of_dvd h)
theorem Cg.of_emod (h:a % p=b % p):Cg p a b:=(Cg.emod a).symm.trans ((Cg.of_eq h).trans (Cg.emod b))
theorem Cg.small (h:Cg p a b) (ha:0≤a∧a<p) (hb:0≤b∧b<p):a=b:=by
 have:=h.emod_eq
 rwa [Int.emod_eq_of_lt ha.1 ha.2,Int.emod_eq_of_lt hb.1 hb.2] at this
theorem Cg.add_p (h:Cg p a b):Cg p (a+p) b:=by
 obtain⟨k,hk⟩:=h
 exact⟨k+1,by rw[Int.mul_add];omega⟩
theorem Cg.zero_of_mul (hp:isP p.toNat) (h:Cg p (a*b) 0) (ha:¬ Cg p a 0):Cg p b 0:=by
 unfold Cg at *
 rw[Int.sub_zero] at *
 have hp0:0≤p:=by have:=hp.1;omega
 have h1:p.toNat ∣ a.natAbs*b.natAbs:=by
  rw[← Int.natAbs_mul]
  have:=Int.natAbs_dvd_natAbs.2 h
  rwa [show p.natAbs=p.toNat by omega] at this
 rcases hp.mul h1 with h2|h2
 ·exfalso
  apply ha
  rw[← Int.natAbs_dvd_natAbs,show p.natAbs=p.toNat by omega]
  exact h2
 ·rw[← Int.natAbs_dvd_natAbs,show p.natAbs=p.toNat by omega]
  exact h2
end
def pe:List Int→Int→Int
 |[],_=>0
 |c :: r,x=>pe r x*x+c
theorem valF_pe {p:Int}:∀ (l:List Int) (x:Int),Cg p (valF p l x) (pe l x)
 |[],x=>Cg.refl 0
 |c :: r,x=>by
  have ih:=valF_pe (p:=p) r x
  show Cg p ((valF p r x*x % p+c) % p) (pe r x*x+c)
  exact (Cg.emod _).trans (((Cg.emod _).trans ih.mulR).add (Cg.refl c))
theorem valF_eq {p:Int} (hp:1≤p) (l:List Int) (x:Int):valF p l x=pe l x % p:=by
 have h:=valF_in (p:=p) (x:=x) (l:=l) hp
 have:=(valF_pe (p:=p) l x).emod_eq
 rwa [Int.emod_eq_of_lt h.1 h.2] at this
def AllZ (p:Int) (l:List Int):Prop:=∀ c ∈ l,Cg p c 0
theorem pe_zero {p:Int}:∀ {l:List Int} {x:Int},AllZ p l→Cg p (pe l x) 0
 |[],x,_=>Cg.refl 0
 |c :: r,x,h=>by
  have h1:=pe_zero (l:=r) (x:=x) fun y hy=>h y (List.mem_cons_of_mem _ hy)
  have h2:=(h1.mulR (c:=x)).add (h c (by simp))
  simpa [pe] using h2
def syn (a:Int):List Int→List Int
 |[]=>[]
 |[_]=>[]
 |c :: d :: r=>pe (d :: r) a :: syn a (d :: r)
theorem syn_len (a:Int):∀ l:List Int,(syn a l).length=l.length-1
 |[]=>rfl
 |[_]=>rfl
 |c :: d :: r=>by
  have:=syn_len a (d :: r)
  simp only[syn,List.length_cons] at this ⊢
  omega
theorem syn_pe (a:Int):∀ (l:List Int) (x:Int),pe l x=(x-a)*pe (syn a l) x+pe l a
 |[],x=>by simp [syn,pe]
 |[c],x=>by simp [syn,pe]
 |c :: d :: r,x=>by
  have ih:=syn_pe a (d :: r) x
  show pe (d :: r) x*x+c=(x-a)*(pe (syn a (d :: r)) x*x+pe (d :: r) a)+(pe (d :: r) a*a+c)
  rw[ih]
  generalize pe (syn a (d :: r)) x=s
  generalize pe (d :: r) a=t
  simp only[Int.add_mul,Int.mul_add,Int.sub_mul]
  rw[Int.mul_assoc x s x,Int.mul_assoc a s x,Int.mul_comm x t,Int.mul_comm a t]
  omega
theorem allZ_of_syn {p a:Int}:∀ {l:List Int},Cg p (pe l a) 0→AllZ p (syn a l)→AllZ p l
 |[],_,_=>fun c hc=>by simp at hc
 |[c],h,_=>fun y hy=>by
  rw[List.mem_singleton.1 hy]
  simpa [pe] using h
 |c :: d :: r,h,hs=>by
  have h1:Cg p (pe (d :: r) a) 0:=hs _ (by simp [syn])
  have ih:=allZ_of_syn (l:=d :: r) h1 fun y hy=>hs y (by simp only[syn];exact List.mem_cons_of_mem _ hy)
  intro y hy
  rcases List.mem_cons.1 hy with rfl|hy
  ·have h2:=h.sub (h1.mulR (c:=a))
   have h3:pe (y :: d :: r) a=pe (d :: r) a*a+y:=rfl
   rw[h3,Int.zero_mul,Int.sub_zero,show pe (d :: r) a*a+y-pe (d :: r) a*a=y by omega] at h2
   exact h2
  ·exact ih y hy
theorem roots {p:Int} (hp:isP p.toNat):∀ (xs l:List Int),l.length≤xs.length→xs.Pairwise (fun a b=>¬ Cg p a b)→(∀ x ∈ xs,Cg p (pe l x) 0)→AllZ p l
 |[],l,h,_,_=>by
  have:l=[]:=List.eq_nil_of_length_eq_zero (by simpa using h)
  subst this
  exact fun c hc=>by simp at hc
 |a :: xs,l,h,hd,hz=>by
  rw[List.pairwise_cons] at hd
  refine allZ_of_syn (hz a (by simp)) (roots hp xs (syn a l) (by rw[syn_len];simp only[List.length_cons] at h;omega) hd.2 fun x hx=>?_)
  have h1:=hz x (List.mem_cons_of_mem _ hx)
  have h2:=hz a (by simp)
  rw[syn_pe a l x] at h1
  have h3:=h1.sub h2
  rw[Int.add_sub_cancel,Int.sub_zero] at h3
  refine Cg.zero_of_mul hp h3 fun h4=>hd.1 x hx ?_
  have h5:=(h4.add (Cg.refl a)).symm
  rwa [Int.sub_add_cancel,Int.zero_add] at h5
end Go.Proofs.YtacfbiegbdlldaaGreatDoor.Sim
end
section
namespace Go.Proofs.YtacfbiegbdlldaaGreatDoor.Sim
open Go Go.RowKit Go.Deep
open Go.Proofs.YtacfbiegbdlldaaGreatDoor.Field (isP isP.mul)
set_option linter.unusedVariables false
def sumN (f:Nat→Int):Nat→Int
 |0=>0
 |n+1=>sumN f n+f n
theorem sumN_eq {f g:Nat→Int}:∀ {n:Nat},(∀ i,i<n→f i=g i)→sumN f n=sumN g n
 |0,_=>rfl
 |n+1,h=>by simp only[sumN];rw[sumN_eq fun i hi=>h i (by omega),h n (by omega)]
theorem sumN_cg {p:Int} {f g:Nat→Int}:∀ {n:Nat},(∀ i,i<n→Cg p (f i) (g i))→Cg p (sumN f n) (sumN g n)
 |0,_=>Cg.refl 0
 |n+1,h=>(sumN_cg fun i hi=>h i (by omega)).add (h n (by omega))
theorem sumN_add {f g:Nat→Int}:∀ {n:Nat},sumN (fun i=>f i+g i) n=sumN f n+sumN g n
 |0=>rfl
 |n+1=>by simp only[sumN];rw[sumN_add];omega
theorem sumN_mul {f:Nat→Int} {a:Int}:∀ {n:Nat},sumN (fun i=>a*f i) n=a*sumN f n
 |0=>by simp [sumN]
 |n+1=>by simp only[sumN];rw[sumN_mul,Int.mul_add]
theorem sumN_zero:∀ {n:Nat},sumN (fun _=>0) n=0
 |0=>rfl
 |n+1=>by simp only[sumN];rw[sumN_zero];rfl
theorem sumN_off {f:Nat→Int} {m:Nat}:∀ {n:Nat},sumN f (m+n)=sumN f m+sumN (fun i=>f (m+i)) n
 |0=>by simp [sumN]
 |n+1=>by
  show sumN f (m+n)+f (m+n)=sumN f m+(sumN (fun i=>f (m+i)) n+f (m+n))
  rw[sumN_off];omega
theorem sumN_head {f:Nat→Int} {n:Nat}:sumN f (n+1)=f 0+sumN (fun i=>f (i+1)) n:=by
 have h:sumN f (1+n)=sumN f 1+sumN (fun i=>f (1+i)) n:=sumN_off (m:=1)
 rw[show n+1=1+n by omega,h]
 have h2:sumN f 1=f 0:=by simp [sumN]
 rw[h2]
 congr 1
 exact sumN_eq fun i _=>by rw[Nat.add_comm]
theorem sumN_part {g:Nat→Int} {e k n:Nat} (h:e+k≤n):sumN (fun i=>if e≤i∧i<e+k then g i else 0) n=sumN (fun j=>g (e+j)) k:=by
 obtain⟨d,rfl⟩:∃ d,n=(e+k)+d:=⟨n-(e+k),by omega⟩
 rw[sumN_off,sumN_off]
 have h1:sumN (fun i=>if e≤i∧i<e+k then g i else 0) e=0 :=
  (sumN_eq (g:=fun _=>0) fun i hi=>if_neg (by omega)).trans sumN_zero
 have h2:sumN (fun i=>if e≤e+k+i∧e+k+i<e+k then g (e+k+i) else 0) d=0 :=
  (sumN_eq (g:=fun _=>0) fun i hi=>if_neg (by omega)).trans sumN_zero
 rw[h1,h2]
 rw[Int.zero_add,Int.add_zero]
 exact sumN_eq fun i hi=>if_pos (by omega)
theorem pe_sum:∀ (l:List Int) (x:Int),pe l x=sumN (fun i=>l.getD i 0*x ^ i) l.length
 |[],x=>rfl
 |c :: r,x=>by
  show pe r x*x+c=_
  rw[List.length_cons,sumN_head,pe_sum r x]
  have h:sumN (fun i=>(c :: r).getD (i+1) 0*x ^ (i+1)) r.length=sumN (fun i=>r.getD i 0*x ^ i) r.length*x:=by
   rw[Int.mul_comm,← sumN_mul]
   refine sumN_eq fun i _=>?_
   rw[List.getD_cons_succ,Int.pow_succ,Int.mul_comm x,Int.mul_assoc]
  rw[h]
  simp only[List.getD_cons_zero,Int.pow_zero,Int.mul_one]
  omega
theorem pe_sum_more (l:List Int) (x:Int) {n:Nat} (h:l.length≤n):pe l x=sumN (fun i=>l.getD i 0*x ^ i) n:=by
 obtain⟨d,rfl⟩:∃ d,n=l.length+d:=⟨n-l.length,by omega⟩
 rw[sumN_off,← pe_sum]
 have:sumN (fun i=>l.getD (l.length+i) 0*x ^ (l.length+i)) d=0:=by
  refine (sumN_eq (g:=fun _=>0) fun i _=>?_).trans sumN_zero
  rw[List.getD_eq_getElem?_getD,List.getElem?_eq_none (by omega)]
  simp
 rw[this];omega
theorem addAt_getD {p x:Int} {L r:List Int} {e k i:Nat} (h:i<L.length):(addAt p x L r e k).getD i 0=if e≤i∧i<e+k then (L.getD i 0+x*r.getD (i-e) 0 % p) % p else L.getD i 0:=by
 simp [addAt,List.getD_eq_getElem?_getD,h]
theorem pe_addAt {p x y:Int} {L r:List Int} {e:Nat} (h:e+r.length≤L.length):Cg p (pe (addAt p y L r e r.length) x) (pe L x+y*(x ^ e*pe r x)):=by
 rw[pe_sum (addAt p y L r e r.length),addAt_len,pe_sum L]
 have h1:y*(x ^ e*pe r x)=sumN (fun i=>if e≤i∧i<e+r.length then y*r.getD (i-e) 0*x ^ i else 0) L.length:=by
  rw[sumN_part (g:=fun i=>y*r.getD (i-e) 0*x ^ i) h,pe_sum r,← sumN_mul,← sumN_mul]
  refine sumN_eq fun i _=>?_
  rw[show e+i-e=i by omega,Int.pow_add]
  rw[Int.mul_assoc y,Int.mul_comm (x ^ e) (r.getD i 0*x ^ i),Int.mul_assoc (r.getD i 0),Int.mul_comm (x ^ i)]
 rw[h1,← sumN_add]
 refine sumN_cg fun i hi=>?_
 rw[addAt_getD hi]
 split
 ·refine (Cg.mulR ((Cg.emod _).trans ((Cg.refl _).add (Cg.emod _)))).trans (Cg.of_eq ?_)
  rw[Int.add_mul]
 ·exact Cg.of_eq (by omega)
theorem pe_timesN {p x:Int} {a b:List Int} (ha:1≤a.length) (hb:1≤b.length):∀ {n:Nat},n≤a.length→Cg p (pe (timesN p a b n) x) (sumN (fun i=>a.getD i 0*x ^ i) n*pe b x)
 |0,_=>by
  simp only[timesN,sumN,Int.zero_mul]
  exact pe_zero fun c hc=>by rw[List.eq_of_mem_replicate hc];exact Cg.refl 0
 |n+1,hn=>by
  have ih:=pe_timesN (x:=x) ha hb (n:=n) (by omega) (p:=p)
  simp only[timesN,sumN]
  refine (pe_addAt (by rw[timesN_len];omega)).trans ((ih.add (Cg.refl _)).trans (Cg.of_eq ?_))
  rw[Int.add_mul,Int.mul_assoc]
theorem pe_timesF {p x:Int} {a b:List Int} (ha:1≤a.length) (hb:1≤b.length):Cg p (pe (timesF p a b) x) (pe a x*pe b x):=by
 have:=pe_timesN (p:=p) (x:=x) ha hb (n:=a.length) (Nat.le_refl _)
 rwa [← pe_sum] at this
end Go.Proofs.YtacfbiegbdlldaaGreatDoor.Sim
end
section
namespace Go.Proofs.YtacfbiegbdlldaaGreatDoor.Sim
open Go Go.RowKit Go.Deep
open Go.Proofs.YtacfbiegbdlldaaGreatDoor.Field (isP isP.mul)
open Go.Proofs.YtacfbiegbdlldaaGreatDoor.Tw (WCell kn kn_len kn_all kn_next)
set_option linter.unusedVariables false
theorem not_cg {p a b:Int} (ha:0≤a∧a<p) (hb:0≤b∧b<p) (h:a ≠ b):¬ Cg p a b:=fun hc=>h (hc.small ha hb)
theorem intN_nz {p x:Int} (hp:isP p.toNat) {l:List (Int × Int)}:∀ k,(∀ i,i<k→¬ Cg p x (l.getD i (0,0)).1)→¬ Cg p (pe (intN p l k).2 x) 0
 |0,_=>fun h=>by
  have h1:=h.emod_eq
  have h2:=hp.1
  simp only[intN,pe,Int.zero_mul,Int.zero_add,Int.zero_emod] at h1
  rw[Int.emod_eq_of_lt (by omega) (by omega)] at h1
  omega
 |k+1,h=>fun hc=>by
  have ih:=intN_nz hp k fun i hi=>h i (by omega)
  have hl:=(intN_len (p:=p) (l:=l) k).2
  simp only[intN,intS] at hc
  have h1:=(pe_timesF (p:=p) (x:=x) (a:=(intN p l k).2) (b:=[(0-(l.getD k (0,0)).1+p) % p,1]) (by omega) (by simp)).symm.trans hc
  have h2:=Cg.zero_of_mul hp h1 ih
  apply h k (by omega)
  have h3:Cg p (pe [(0-(l.getD k (0,0)).1+p) % p,1] x) (x-(l.getD k (0,0)).1):=by
   simp only[pe,Int.zero_mul,Int.zero_add,Int.one_mul]
   refine ((Cg.refl x).add ((Cg.emod _).trans (Cg.refl _).add_p)).trans (Cg.of_eq ?_)
   omega
  have h4:=(h3.symm.trans h2).add (Cg.refl (l.getD k (0,0)).1)
  rwa [Int.sub_add_cancel,Int.zero_add] at h4
theorem fillAll {p:Int} (hf:fieldB p=true) {l:List WCell} (hl:WordIn p l) {k:Nat}:FillOK p l k:=by
 intro j hj
 have hp:=isP_field hf
 have h2:=(fieldB_iff.1 hf).1
 have hv:=valF_in (p:=p) (x:=(((knS l).take k).getD j (0,0)).1) (l:=(intN p ((knS l).take k) j).2) (by omega)
 have hne:¬ Cg p (pe (intN p ((knS l).take k) j).2 (((knS l).take k).getD j (0,0)).1) 0:=by
  refine intN_nz hp j fun i hi=>?_
  have hpw:((knS l).take k).Pairwise fun x y=>x.1<y.1:=knS_asc.take
  have hat:=(knS_at hl).1
  rw[List.all_map] at hat
  have hin:∀ m,m<((knS l).take k).length→0≤(((knS l).take k).getD m (0,0)).1∧(((knS l).take k).getD m (0,0)).1<p:=fun m hm=>by
   have:=List.all_eq_true.1 hat _ (List.mem_of_mem_take (mem_getD (0,0) _ m hm))
   simpa [inE] using this
  refine not_cg (hin j hj) (hin i (by omega)) ?_
  have hlt:=List.pairwise_iff_getElem.1 hpw i j (by omega) hj hi
  rw[List.getD_eq_getElem?_getD,List.getElem?_eq_getElem hj,List.getD_eq_getElem?_getD,List.getElem?_eq_getElem (by omega)]
  simp only[Option.getD_some]
  omega
 rcases Int.lt_or_eq_of_le hv.1 with h|h
 ·exact h
 ·exact absurd ((Cg.of_eq (p:=p) h).trans (valF_pe _ _)).symm hne
/-! ### Equations -/
def dotN (c:Nat) (row x:List Int):Int:=sumN (fun i=>row.getD i 0*x.getD i 0) c
def Sat (p:Int) (c:Nat) (x row:List Int):Prop:=Cg p (dotN c row x) (row.getD c 0)
def SatAll (p:Int) (c:Nat) (x:List Int) (rows:List (List Int)):Prop:=∀ i,i<rows.length→Sat p c x (rows.getD i [])
theorem scaleN_getD {p b:Int} {row:List Int} {i:Nat} (h:i<row.length):(scaleN p b row row.length).getD i 0=row.getD i 0*b % p:=by
 simp [scaleN,List.getD_eq_getElem?_getD,h]
theorem addStep_getD {p x:Int} {a r:List Int} {i k:Nat} (h:i<a.length) (hk:i<k):(addStep p x a r k).getD i 0=(a.getD i 0+x*r.getD i 0 % p) % p:=by
 simp [addStep,List.getD_eq_getElem?_getD,h,hk]
theorem dot_scale {p b:Int} {c:Nat} {row x:List Int} (h:row.length=c+1):Cg p (dotN c (scaleN p b row row.length) x) (b*dotN c row x):=by
 unfold dotN
 rw[← sumN_mul]
 refine sumN_cg fun i hi=>?_
 rw[scaleN_getD (by omega)]
 refine ((Cg.emod _).mulR).trans (Cg.of_eq ?_)
 rw[Int.mul_comm (row.getD i 0) b,Int.mul_assoc]
theorem sat_scale {p b b':Int} (hb:Cg p (b'*b) 1) {c:Nat} {row x:List Int} (h:row.length=c+1):Sat p c x (scaleN p b row row.length)↔Sat p c x row:=by
 have hr:Cg p ((scaleN p b row row.length).getD c 0) (b*row.getD c 0):=by
  rw[scaleN_getD (by omega),Int.mul_comm]
  exact Cg.emod _
 have hd:=dot_scale (p:=p) (b:=b) (x:=x) h
 constructor
 ·intro hs
  have h1:=(hd.symm.trans (hs.trans hr)).mulL (a:=b')
  rw[← Int.mul_assoc,← Int.mul_assoc] at h1
  have h2:=(hb.mulR (c:=dotN c row x)).symm.trans (h1.trans (hb.mulR (c:=row.getD c 0)))
  rwa [Int.one_mul,Int.one_mul] at h2
 ·intro hs
  exact hd.trans ((Cg.mulL hs).trans hr.symm)
theorem sat_add {p y:Int} {c:Nat} {row first x:List Int} (h:row.length=c+1) (hf:first.length=c+1) (hs:Sat p c x first):Sat p c x (addStep p y row first first.length)↔Sat p c x row:=by
 have hr:Cg p ((addStep p y row first first.length).getD c 0) (row.getD c 0+y*first.getD c 0):=by
  rw[addStep_getD (by omega) (by omega)]
  exact (Cg.emod _).trans ((Cg.refl _).add (Cg.emod _))
 have hd:Cg p (dotN c (addStep p y row first first.length) x) (dotN c row x+y*dotN c first x):=by
  unfold dotN
  rw[← sumN_mul,← sumN_add]
  refine sumN_cg fun i hi=>?_
  rw[addStep_getD (by omega) (by omega)]
  refine (((Cg.emod _).trans ((Cg.refl _).add (Cg.emod _))).mulR).trans (Cg.of_eq ?_)
  rw[Int.add_mul,Int.mul_assoc]
 have hy:Cg p (y*dotN c first x) (y*first.getD c 0):=Cg.mulL hs
 constructor
 ·intro h1
  have h2:=(hd.symm.trans (h1.trans hr)).sub hy
  rwa [Int.add_sub_cancel,Int.add_sub_cancel] at h2
 ·intro h1
  exact hd.trans ((h1.add hy).trans hr.symm)
end Go.Proofs.YtacfbiegbdlldaaGreatDoor.Sim
end
section
namespace Go.Proofs.YtacfbiegbdlldaaGreatDoor.Sim
open Go Go.RowKit Go.Deep
open Go.Proofs.YtacfbiegbdlldaaGreatDoor.Field (isP isP.mul)
set_option linter.unusedVariables false
theorem pivN_none {rows:List (List Int)} {k:Nat}:∀ {f i:Nat},pivN rows k i f=i+f→∀ j,i≤j→j<i+f→(rows.getD j []).getD k 0=0
 |0,i,_,j,h1,h2=>by omega
 |f+1,i,h,j,h1,h2=>by
  rw[pivN] at h
  split at h
  ·rename_i h0
   by_cases e:j=i
   ·rw[e];exact h0
   ·exact pivN_none (f:=f) (i:=i+1) (by omega) j (by omega) (by omega)
  ·omega
theorem piv_none {rows:List (List Int)} {k r:Nat} (hr:r≤rows.length) (h:¬ piv rows k r<rows.length):∀ j,r≤j→j<rows.length→(rows.getD j []).getD k 0=0:=fun j h1 h2=>by
 have:=piv_in (k:=k) hr
 exact pivN_none (f:=rows.length-r) (i:=r) (by unfold piv at this h;omega) j h1 (by omega)
def elimR (p:Int) (k:Nat) (first row:List Int):List Int:=if row.getD k 0 ≠ 0 then addStep p ((0-row.getD k 0+p) % p) row first first.length else row
theorem elimN_get {p:Int} {k r:Nat} {first:List Int} {rows:List (List Int)}:∀ {n i:Nat},n≤rows.length→i<rows.length→(elimN p k r first rows n).getD i []=if i<n∧i ≠ r then elimR p k first (rows.getD i []) else rows.getD i []
 |0,i,_,hi=>by simp [elimN]
 |n+1,i,hn,hi=>by
  have ih:=fun j hj=>elimN_get (p:=p) (k:=k) (r:=r) (first:=first) (rows:=rows) (n:=n) (i:=j) (by omega) hj
  have hn0:=ih n (by omega)
  rw[if_neg (by omega)] at hn0
  simp only[elimN]
  rw[hn0]
  by_cases e:i=n
  ·subst e
   by_cases hr:i=r
   ·rw[if_neg (fun h=>h.1 hr),ih i hi,if_neg (by omega),if_neg (by omega)]
   ·by_cases hz:(rows.getD i []).getD k 0=0
    ·rw[if_neg (fun h=>h.2 hz),ih i hi,if_neg (by omega),if_pos ⟨by omega,hr⟩,elimR,if_neg (fun h=>h hz)]
    ·rw[if_pos ⟨hr,hz⟩,List.getD_eq_getElem?_getD,List.getElem?_set,if_pos rfl,if_pos (by rw[elimN_len];exact hi),if_pos ⟨by omega,hr⟩,elimR,if_pos hz]
     rfl
  ·have hg:∀ (s:List (List Int)) (v:List Int),(s.set n v).getD i []=s.getD i []:=fun s v=>by
    rw[List.getD_eq_getElem?_getD,List.getElem?_set,if_neg (fun h=>e h.symm),← List.getD_eq_getElem?_getD]
   have h2:(i<n∧i ≠ r)↔(i<n+1∧i ≠ r):=by omega
   split
   ·rw[hg,ih i hi]
    simp only[h2]
   ·rw[ih i hi]
    simp only[h2]
theorem sat_elim {p:Int} {k c:Nat} {row first x:List Int} (h:row.length=c+1) (hf:first.length=c+1) (hs:Sat p c x first):Sat p c x (elimR p k first row)↔Sat p c x row:=by
 unfold elimR
 split
 ·exact sat_add h hf hs
 ·exact Iff.rfl
theorem elimR_same {p:Int} {k j c:Nat} {row first:List Int} (hr:row.length=c+1) (hf:first.length=c+1) (hj:j<c) (hin:0≤row.getD j 0∧row.getD j 0<p) (h0:first.getD j 0=0):(elimR p k first row).getD j 0=row.getD j 0:=by
 unfold elimR
 split
 ·rw[addStep_getD (by omega) (by omega),h0,Int.mul_zero,Int.zero_emod,Int.add_zero,Int.emod_eq_of_lt hin.1 hin.2]
 ·rfl
theorem elimR_zero {p:Int} {k c:Nat} {row first:List Int} (hr:row.length=c+1) (hf:first.length=c+1) (hk:k<c) (hin:0≤row.getD k 0∧row.getD k 0<p) (h1:first.getD k 0=1):(elimR p k first row).getD k 0=0:=by
 unfold elimR
 split
 ·rename_i hz
  rw[addStep_getD (by omega) (by omega),h1,Int.mul_one,Int.emod_emod]
  rw[Int.emod_eq_of_lt (a:=0-row.getD k 0+p) (by omega) (by omega)]
  rw[show row.getD k 0+(0-row.getD k 0+p)=p by omega,Int.emod_self]
 ·rename_i hz
  exact Decidable.not_not.1 hz
def sgm (r pv i:Nat):Nat:=if i=pv then r else i
theorem leadR_get {p:Int} {rows:List (List Int)} {k r:Nat} (hr:r<rows.length) (hp:piv rows k r<rows.length) {i:Nat} (hi:i<rows.length) :
  (leadR p rows k r).getD i []=if i=r then firstF p rows k r else elimR p k (firstF p rows k r) (rows.getD (sgm r (piv rows k r) i) []):=by
 unfold leadR
 rw[if_pos hp]
 have hl:((swapL rows r (piv rows k r)).set r (firstF p rows k r)).length=rows.length:=by rw[List.length_set,swapL_len]
 have h:=elimN_get (p:=p) (k:=k) (r:=r) (first:=firstF p rows k r) (rows:=(swapL rows r (piv rows k r)).set r (firstF p rows k r)) (n:=rows.length) (i:=i) (by omega) (by omega)
 rw[h]
 by_cases e:i=r
 ·subst e
  rw[if_neg (by omega),if_pos rfl,List.getD_eq_getElem?_getD,List.getElem?_set,if_pos rfl,if_pos (by rw[swapL_len];exact hi)]
  rfl
 ·rw[if_pos ⟨hi,e⟩,if_neg e]
  congr 1
  rw[List.getD_eq_getElem?_getD,List.getElem?_set,if_neg (fun h=>e h.symm),← List.getD_eq_getElem?_getD,swapL_get hr hp hi,if_neg e]
  unfold sgm
  by_cases e2:i=piv rows k r
  ·rw[if_pos e2,if_pos e2]
  ·rw[if_neg e2,if_neg e2]
section
variable {p:Int} {c:Nat} {rows:List (List Int)} {k r:Nat}
theorem firstF_len (hrow:RowsC p c rows) (hp:piv rows k r<rows.length):(firstF p rows k r).length=c+1:=by
 unfold firstF
 simp only
 rw[scaleN_len]
 exact (hrow _ (mem_getD [] rows _ hp)).1
theorem piv_inv (hf:fieldB p=true) (hrow:RowsC p c rows) (hk:k<c) (hr:r≤rows.length) (hp:piv rows k r<rows.length):(rows.getD (piv rows k r) []).getD k 0*invI p ((rows.getD (piv rows k r) []).getD k 0) % p=1:=by
 have hm:=hrow _ (mem_getD [] rows _ hp)
 have hb:=all_getD hm.2 (i:=k) (by omega)
 exact invI_mul hf ⟨by have:=piv_nz hr hp;omega,hb.2⟩
theorem firstF_k (hf:fieldB p=true) (hrow:RowsC p c rows) (hk:k<c) (hr:r≤rows.length) (hp:piv rows k r<rows.length):(firstF p rows k r).getD k 0=1:=by
 have hm:=hrow _ (mem_getD [] rows _ hp)
 unfold firstF
 simp only
 rw[scaleN_getD (by omega)]
 exact piv_inv hf hrow hk hr hp
theorem firstF_sat (hf:fieldB p=true) (hrow:RowsC p c rows) (hk:k<c) (hr:r≤rows.length) (hp:piv rows k r<rows.length) {x:List Int}:Sat p c x (firstF p rows k r)↔Sat p c x (rows.getD (piv rows k r) []):=by
 have hm:=hrow _ (mem_getD [] rows _ hp)
 unfold firstF
 simp only
 have h1:=piv_inv hf hrow hk hr hp
 have h2:=(fieldB_iff.1 hf).1
 exact sat_scale (b':=(rows.getD (piv rows k r) []).getD k 0) (Cg.of_emod (by rw[h1,Int.emod_eq_of_lt (by omega) (by omega)])) hm.1
theorem lead_sat (hf:fieldB p=true) (hrow:RowsC p c rows) (hk:k<c) (hr:r≤rows.length) {x:List Int}:SatAll p c x (leadR p rows k r)↔SatAll p c x rows:=by
 by_cases hp:piv rows k r<rows.length
 ·have hpi:=piv_in (k:=k) hr
  have hr':r<rows.length:=by omega
  have hfl:=firstF_len hrow hp
  have hfs:=firstF_sat hf hrow hk hr hp (x:=x)
  have hlen:∀ i,i<rows.length→(rows.getD i []).length=c+1:=fun i hi=>(hrow _ (mem_getD [] rows i hi)).1
  have hsg:∀ i,i<rows.length→sgm r (piv rows k r) i<rows.length:=fun i hi=>by unfold sgm;split <;> omega
  constructor
  ·intro h
   have h1:Sat p c x (firstF p rows k r):=by
    have:=h r (by rw[leadR_len];exact hr')
    rwa [leadR_get hr' hp hr',if_pos rfl] at this
   have h2:∀ i,i<rows.length→i ≠ r→Sat p c x (rows.getD (sgm r (piv rows k r) i) []):=fun i hi hne=>by
    have:=h i (by rw[leadR_len];exact hi)
    rw[leadR_get hr' hp hi,if_neg hne] at this
    exact (sat_elim (hlen _ (hsg i hi)) hfl h1).1 this
   intro m hm
   by_cases e:m=piv rows k r
   ·rw[e];exact hfs.1 h1
   ·by_cases e2:m=r
    ·have:=h2 (piv rows k r) hp (by omega)
     unfold sgm at this
     rw[if_pos rfl] at this
     rw[e2];exact this
    ·have:=h2 m hm e2
     unfold sgm at this
     rwa [if_neg e] at this
  ·intro h i hi
   rw[leadR_len] at hi
   have h1:Sat p c x (firstF p rows k r):=hfs.2 (h _ hp)
   rw[leadR_get hr' hp hi]
   split
   ·exact h1
   ·exact (sat_elim (hlen _ (hsg i hi)) hfl h1).2 (h _ (hsg i hi))
 ·have:leadR p rows k r=rows:=by unfold leadR;rw[if_neg hp]
  rw[this]
end
structure Red (p:Int) (c:Nat) (rows:List (List Int)) (k r:Nat) (ld:List Int):Prop where
 rk:r≤rows.length
 zero:∀ i j,r≤i→i<rows.length→j<k→(rows.getD i []).getD j 0=0
 lead:∀ j,j<k→ld.getD j 0 ≠ 0→∃ m,m<r∧ld.getD j 0=((m+1:Nat):Int)∧(rows.getD m []).getD j 0=1∧∀ i,i<rows.length→i ≠ m→(rows.getD i []).getD j 0=0
 cover:∀ m,m<r→∃ j,j<k∧ld.getD j 0=((m+1:Nat):Int)
 uniq:∀ j j',j<k→j'<k→ld.getD j 0 ≠ 0→ld.getD j 0=ld.getD j' 0→j=j'
 later:∀ j,k≤j→ld.getD j 0=0
theorem red_step {p:Int} {c:Nat} {rows:List (List Int)} {k r:Nat} {ld:List Int} (hf:fieldB p=true) (hrow:RowsC p c rows) (hk:k<c) (hl:c≤ld.length) (h:Red p c rows k r ld):Red p c (leadR p rows k r) (k+1) (leadK rows k r) (leadD rows k r ld):=by
 have hr:=h.rk
 by_cases hp:piv rows k r<rows.length
 ·have hpi:=piv_in (k:=k) hr
  have hr':r<rows.length:=by omega
  have hfl:=firstF_len hrow hp
  have hfk:=firstF_k hf hrow hk hr hp
  have hlen:∀ i,i<rows.length→(rows.getD i []).length=c+1:=fun i hi=>(hrow _ (mem_getD [] rows i hi)).1
  have hin:∀ i j,i<rows.length→j<c→0≤(rows.getD i []).getD j 0∧(rows.getD i []).getD j 0<p:=fun i j hi hj=>all_getD (hrow _ (mem_getD [] rows i hi)).2 (by rw[hlen i hi];omega)
  have hsg:∀ i,i<rows.length→sgm r (piv rows k r) i<rows.length:=fun i hi=>by unfold sgm;split <;> omega
  have hf0:∀ j,j<k→(firstF p rows k r).getD j 0=0:=fun j hj=>by
   unfold firstF
   simp only
   rw[scaleN_getD (by rw[hlen _ hp];omega),h.zero _ j hpi.1 hp hj,Int.zero_mul,Int.zero_emod]
  have hother:∀ i j,i<rows.length→i ≠ r→j<k→((leadR p rows k r).getD i []).getD j 0=(rows.getD (sgm r (piv rows k r) i) []).getD j 0:=fun i j hi hne hj=>by
   rw[leadR_get hr' hp hi,if_neg hne]
   exact elimR_same (hlen _ (hsg i hi)) hfl (by omega) (hin _ _ (hsg i hi) (by omega)) (hf0 j hj)
  have hotherk:∀ i,i<rows.length→i ≠ r→((leadR p rows k r).getD i []).getD k 0=0:=fun i hi hne=>by
   rw[leadR_get hr' hp hi,if_neg hne]
   exact elimR_zero (hlen _ (hsg i hi)) hfl hk (hin _ _ (hsg i hi) hk) hfk
  have hrowr:(leadR p rows k r).getD r []=firstF p rows k r:=by rw[leadR_get hr' hp hr',if_pos rfl]
  have hK:leadK rows k r=r+1:=by unfold leadK;rw[if_pos hp]
  have hD:leadD rows k r ld=ld.set k ((r+1:Nat):Int):=by unfold leadD;rw[if_pos hp]
  have hDk:(leadD rows k r ld).getD k 0=((r+1:Nat):Int):=by
   rw[hD,List.getD_eq_getElem?_getD,List.getElem?_set,if_pos rfl,if_pos (by omega)];rfl
  have hDj:∀ j,j ≠ k→(leadD rows k r ld).getD j 0=ld.getD j 0:=fun j hj=>by
   rw[hD,List.getD_eq_getElem?_getD,List.getElem?_set,if_neg (fun e=>hj e.symm),← List.getD_eq_getElem?_getD]
  rw[hK]
  refine⟨by rw[leadR_len];omega,fun i j hi hil hj=>?_,fun j hj hne=>?_,fun m hm=>?_,fun j j' hj hj' hne he=>?_,fun j hj=>?_⟩
  ·rw[leadR_len] at hil
   by_cases e:j=k
   ·rw[e];exact hotherk i hil (by omega)
   ·rw[hother i j hil (by omega) (by omega)]
    exact h.zero _ j (by unfold sgm;split <;> omega) (hsg i hil) (by omega)
  ·by_cases e:j=k
   ·subst e
    refine⟨r,by omega,hDk,by rw[hrowr];exact hfk,fun i hi hne=>?_⟩
    rw[leadR_len] at hi
    exact hotherk i hi hne
   ·rw[hDj j e] at hne ⊢
    obtain⟨m,hm,h1,h2,h3⟩:=h.lead j (by omega) hne
    refine⟨m,by omega,h1,?_,fun i hi hne'=>?_⟩
    ·rw[hother m j (by omega) (by omega) (by omega)]
     have:sgm r (piv rows k r) m=m:=by unfold sgm;rw[if_neg (by omega)]
     rw[this];exact h2
    ·rw[leadR_len] at hi
     by_cases e2:i=r
     ·rw[e2,hrowr];exact hf0 j (by omega)
     ·rw[hother i j hi e2 (by omega)]
      exact h3 _ (hsg i hi) (by unfold sgm;split <;> omega)
  ·by_cases e:m=r
   ·exact⟨k,by omega,by rw[hDk,e]⟩
   ·obtain⟨j,hj,h1⟩:=h.cover m (by omega)
    exact⟨j,by omega,by rw[hDj j (by omega)];exact h1⟩
  ·by_cases e:j=k
   ·by_cases e':j'=k
    ·omega
    ·exfalso
     rw[e,hDk,hDj j' e'] at he
     obtain⟨m,hm,h1,_⟩:=h.lead j' (by omega) (by omega)
     omega
   ·by_cases e':j'=k
    ·exfalso
     rw[hDj j e] at hne
     rw[e',hDk,hDj j e] at he
     obtain⟨m,hm,h1,_⟩:=h.lead j (by omega) hne
     omega
    ·rw[hDj j e] at hne he
     rw[hDj j' e'] at he
     exact h.uniq j j' (by omega) (by omega) hne he
  ·rw[hDj j (by omega)]
   exact h.later j (by omega)
 ·have hR:leadR p rows k r=rows:=by unfold leadR;rw[if_neg hp]
  have hK:leadK rows k r=r:=by unfold leadK;rw[if_neg hp]
  have hD:leadD rows k r ld=ld:=by unfold leadD;rw[if_neg hp]
  have hn:=piv_none hr hp
  have hlk:=h.later k (Nat.le_refl _)
  rw[hR,hK,hD]
  refine⟨hr,fun i j hi hil hj=>?_,fun j hj hne=>?_,fun m hm=>?_,fun j j' hj hj' hne he=>?_,fun j hj=>h.later j (by omega)⟩
  ·by_cases e:j=k
   ·rw[e];exact hn i hi hil
   ·exact h.zero i j hi hil (by omega)
  ·have e:j ≠ k:=fun e=>hne (by rw[e];exact hlk)
   exact h.lead j (by omega) hne
  ·obtain⟨j,hj,h1⟩:=h.cover m hm
   exact⟨j,by omega,h1⟩
  ·have e:j ≠ k:=fun e=>hne (by rw[e];exact hlk)
   have e':j' ≠ k:=fun e=>hne (by rw[he,e];exact hlk)
   exact h.uniq j j' (by omega) (by omega) hne he
end Go.Proofs.YtacfbiegbdlldaaGreatDoor.Sim
end
section
namespace Go.Proofs.YtacfbiegbdlldaaGreatDoor.Sim
open Go Go.RowKit Go.Deep
open Go.Proofs.YtacfbiegbdlldaaGreatDoor.Field (isP isP.mul)
set_option linter.unusedVariables false
theorem red_start {p:Int} {c:Nat} {rows:List (List Int)}:Red p c rows 0 0 zer:=by
 refine⟨Nat.zero_le _,fun i j _ _ hj=>by omega,fun j hj=>by omega,fun m hm=>by omega,fun j j' hj=>by omega,fun j _=>?_⟩
 unfold zer
 rw[List.getD_eq_getElem?_getD,List.getElem?_replicate]
 split <;> rfl
theorem redN_red {p:Int} {c:Nat} {rows:List (List Int)} (hf:fieldB p=true) (hrow:RowsC p c rows) (hc:c≤32):∀ {k:Nat},k≤c→Red p c (redN p rows k).1 k (redN p rows k).2.1 (redN p rows k).2.2
 |0,_=>red_start
 |k+1,hk=>by
  obtain⟨h1,h2,h3,h4⟩:=redN_ok (k:=k) hf hrow
  exact red_step hf h2 (by omega) (by omega) (redN_red hf hrow hc (by omega))
theorem redN_sat {p:Int} {c:Nat} {rows:List (List Int)} {x:List Int} (hf:fieldB p=true) (hrow:RowsC p c rows):∀ {k:Nat},k≤c→(SatAll p c x (redN p rows k).1↔SatAll p c x rows)
 |0,_=>Iff.rfl
 |k+1,hk=>by
  obtain⟨h1,h2,h3,h4⟩:=redN_ok (k:=k) hf hrow
  exact (lead_sat hf h2 (by omega) (by omega)).trans (redN_sat hf hrow (by omega))
theorem ok_of_sat {p:Int} {c:Nat} {s:List (List Int) × Nat × List Int} {x:List Int} (hrow:RowsC p c s.1) (hr:Red p c s.1 c s.2.1 s.2.2) (hs:SatAll p c x s.1):okZ c (s.1.drop s.2.1)=true:=by
 unfold okZ
 rw[List.all_eq_true]
 intro row hrw
 obtain⟨i,hi,rfl⟩:=List.getElem_of_mem hrw
 rw[List.length_drop] at hi
 have hil:s.2.1+i<s.1.length:=by omega
 have e:(s.1.drop s.2.1)[i]'(by rw[List.length_drop];exact hi)=s.1.getD (s.2.1+i) []:=by
  rw[List.getElem_drop,List.getD_eq_getElem?_getD,List.getElem?_eq_getElem hil];rfl
 rw[e]
 have hm:=hrow _ (mem_getD [] s.1 _ hil)
 have h1:=hs _ hil
 have h0:dotN c (s.1.getD (s.2.1+i) []) x=0:=by
  unfold dotN
  refine (sumN_eq (g:=fun _=>0) fun j hj=>?_).trans sumN_zero
  rw[hr.zero _ j (by omega) hil hj,Int.zero_mul]
 unfold Sat at h1
 rw[h0] at h1
 have hb:=all_getD hm.2 (i:=c) (by omega)
 have:=h1.small ⟨by omega,by omega⟩ hb
 simpa using this.symm
theorem solF_getD {c:Nat} {s:List (List Int) × Nat × List Int} {i:Nat} (h:i<c):(solF c s).getD i 0=solAt c s i:=by
 simp [solF,List.getD_eq_getElem?_getD,h]
theorem sum_one {f:Nat→Int} {n j:Nat} (hj:j<n) (h:∀ i,i<n→i ≠ j→f i=0):sumN f n=f j:=by
 have h1:=sumN_part (g:=f) (e:=j) (k:=1) (n:=n) (by omega)
 have h2:sumN f n=sumN (fun i=>if j≤i∧i<j+1 then f i else 0) n:=sumN_eq fun i hi=>by
  split
  ·rfl
  ·exact h i hi (by omega)
 rw[h2,h1]
 simp [sumN]
theorem sol_sat {p:Int} {c:Nat} {s:List (List Int) × Nat × List Int} (hrow:RowsC p c s.1) (hr:Red p c s.1 c s.2.1 s.2.2) (ho:okZ c (s.1.drop s.2.1)=true):SatAll p c (solF c s) s.1:=by
 intro i hi
 unfold Sat dotN
 by_cases h:i<s.2.1
 ·obtain⟨j,hj,hld⟩:=hr.cover i h
  have hrk:=hr.rk
  refine Cg.of_eq ?_
  rw[sum_one hj fun j' hj' hne=>?_]
  ·obtain⟨m,hm,h1,h2,h3⟩:=hr.lead j hj (by omega)
   obtain rfl:m=i:=by omega
   rw[h2,Int.one_mul,solF_getD hj,solAt,if_pos (by omega),hld]
   rw[show (((m+1:Nat):Int)-1).toNat=m by omega]
  ·rw[solF_getD hj',solAt]
   by_cases hz:0<s.2.2.getD j' 0
   ·obtain⟨m,hm,h1,h2,h3⟩:=hr.lead j' hj' (by omega)
    have hmi:i ≠ m:=fun e=>by
     subst e
     exact hne (hr.uniq j' j hj' hj (by omega) (by omega))
    rw[h3 i hi hmi,Int.zero_mul]
   ·rw[if_neg hz,Int.mul_zero]
 ·have h0:sumN (fun j=>(s.1.getD i []).getD j 0*(solF c s).getD j 0) c=0:=by
   refine (sumN_eq (g:=fun _=>0) fun j hj=>?_).trans sumN_zero
   rw[hr.zero i j (by omega) hi hj,Int.zero_mul]
  rw[h0]
  have h2:=List.all_eq_true.1 ho (s.1.getD i []) (by
   rw[List.getD_eq_getElem?_getD,List.getElem?_eq_getElem hi]
   have:s.1[i]=(s.1.drop s.2.1)[i-s.2.1]'(by rw[List.length_drop];omega):=by
    rw[List.getElem_drop];congr 1;omega
   simp only[Option.getD_some]
   rw[this]
   exact List.getElem_mem _)
  have h3:(s.1.getD i []).getD c 0=0:=by simpa using h2
  rw[h3]
  exact Cg.refl 0
theorem solve_ok {p:Int} {n c:Nat} {vals right x:List Int} (hf:fieldB p=true) (hc:c≤32) (hrow:RowsC p c (rowsT c vals right n)) (hx:SatAll p c x (rowsT c vals right n)) :
  okZ c ((solveN p n c vals right).1.drop (solveN p n c vals right).2.1)=true∧SatAll p c (solF c (solveN p n c vals right)) (rowsT c vals right n):=by
 have h1:=redN_red hf hrow hc (k:=c) (Nat.le_refl _)
 have h2:=redN_ok (k:=c) hf hrow
 have h3:=(redN_sat hf hrow (k:=c) (Nat.le_refl _)).2 hx
 have ho:=ok_of_sat (s:=redN p (rowsT c vals right n) c) h2.2.1 h1 h3
 refine⟨ho,?_⟩
 exact (redN_sat hf hrow (k:=c) (Nat.le_refl _)).1 (sol_sat (s:=redN p (rowsT c vals right n) c) h2.2.1 h1 ho)
end Go.Proofs.YtacfbiegbdlldaaGreatDoor.Sim
end
section
namespace Go.Proofs.YtacfbiegbdlldaaGreatDoor.Sim
open Go Go.RowKit Go.Deep
open Go.Proofs.YtacfbiegbdlldaaGreatDoor.Field (isP isP.mul)
open Go.Proofs.YtacfbiegbdlldaaGreatDoor.Tw (WCell kn kn_len kn_all kn_next)
set_option linter.unusedVariables false
theorem powN_cg {p x:Int}:∀ n:Nat,Cg p (powN p x n) (x ^ n)
 |0=>Cg.of_eq (by simp [powN])
 |n+1=>by
  rw[powN,Int.pow_succ]
  exact (Cg.emod _).trans (powN_cg n).mulR
theorem pe_snoc {a x:Int}:∀ {l:List Int},pe (l++[a]) x=pe l x+a*x ^ l.length
 |[]=>by simp [pe]
 |c :: r=>by
  show pe (r++[a]) x*x+c=pe r x*x+c+a*x ^ (r.length+1)
  rw[pe_snoc,Int.add_mul,Int.pow_succ,Int.mul_assoc];omega
theorem negM_cg {p y t:Int}:Cg p (negM p y t) (0-y*t):=(Cg.emod _).trans (((Cg.refl 0).sub (Cg.emod _)).add_p)
theorem sat_key {p:Int} {m w:Nat} {x:List Int} {z:Nat × Int} (hx:x.length=m+w):Sat p (m+w) x (keyL p m w z++[keyB p w z])↔Cg p (pe (x.take m) z.1) (z.2*pe (x.drop m++[1]) z.1):=by
 have hkl:(keyL p m w z).length=m+w:=keyL_len
 have hr:(keyL p m w z++[keyB p w z]).getD (m+w) 0=keyB p w z:=by
  rw[List.getD_eq_getElem?_getD,List.getElem?_append_right (by omega),hkl,Nat.sub_self];rfl
 have hq:(x.take m).length=m:=by rw[List.length_take];omega
 have he:(x.drop m).length=w:=by rw[List.length_drop];omega
 have h1:Cg p (sumN (fun i=>(keyL p m w z++[keyB p w z]).getD i 0*x.getD i 0) m) (pe (x.take m) z.1):=by
  rw[pe_sum,hq]
  refine sumN_cg fun i hi=>?_
  have e1:(keyL p m w z++[keyB p w z]).getD i 0=powN p z.1 i:=by
   rw[List.getD_eq_getElem?_getD,List.getElem?_append_left (by omega),keyL,List.getElem?_append_left (by rw[powL_len];exact hi),← List.getD_eq_getElem?_getD,powL_get hi]
  have e2:(x.take m).getD i 0=x.getD i 0:=by
   rw[List.getD_eq_getElem?_getD,List.getElem?_take,if_pos hi,← List.getD_eq_getElem?_getD]
  rw[e1,e2,Int.mul_comm]
  exact Cg.mulL (powN_cg i)
 have h2:Cg p (sumN (fun i=>(keyL p m w z++[keyB p w z]).getD (m+i) 0*x.getD (m+i) 0) w) (0-z.2*pe (x.drop m) z.1):=by
  have e0:0-z.2*pe (x.drop m) z.1=(0-z.2)*pe (x.drop m) z.1:=by rw[Int.sub_mul,Int.zero_mul]
  rw[e0,pe_sum,he,← sumN_mul]
  refine sumN_cg fun i hi=>?_
  have e1:(keyL p m w z++[keyB p w z]).getD (m+i) 0=negM p z.2 (powN p z.1 i):=by
   rw[List.getD_eq_getElem?_getD,List.getElem?_append_left (by omega),keyL,List.getElem?_append_right (by rw[powL_len];omega),powL_len,show m+i-m=i by omega,List.getElem?_map]
   have:=powL_get (p:=p) (x:=(z.1:Int)) hi
   rw[List.getD_eq_getElem?_getD] at this
   rw[List.getElem?_eq_getElem (by rw[powL_len];exact hi)] at this ⊢
   simp only[Option.getD_some,Option.map_some] at this ⊢
   rw[this]
  have e2:(x.drop m).getD i 0=x.getD (m+i) 0:=by
   rw[List.getD_eq_getElem?_getD,List.getElem?_drop,← List.getD_eq_getElem?_getD]
  rw[e1,e2]
  refine (Cg.mulR (negM_cg.trans ((Cg.refl 0).sub (Cg.mulL (powN_cg i))))).trans (Cg.of_eq ?_)
  rw[Int.sub_mul,Int.sub_mul,Int.zero_mul,Int.zero_mul,Int.mul_assoc,Int.mul_comm (z.1 ^ i:Int)]
 have hb:Cg p (keyB p w z) (z.2*z.1 ^ w):=(Cg.emod _).trans (Cg.mulL (powN_cg w))
 have hE:pe (x.drop m++[1]) z.1=pe (x.drop m) z.1+z.1 ^ w:=by rw[pe_snoc,he,Int.one_mul]
 have hd:Cg p (dotN (m+w) (keyL p m w z++[keyB p w z]) x) (pe (x.take m) z.1-z.2*pe (x.drop m) z.1):=by
  unfold dotN
  rw[sumN_off]
  exact (h1.add h2).trans (Cg.of_eq (by omega))
 unfold Sat
 rw[hr,hE,Int.mul_add]
 constructor
 ·intro h
  have h3:=(hd.symm.trans (h.trans hb)).add (Cg.refl (z.2*pe (x.drop m) z.1))
  rw[Int.sub_add_cancel] at h3
  exact h3.trans (Cg.of_eq (by omega))
 ·intro h
  refine hd.trans (Cg.trans ?_ hb.symm)
  have h3:=h.sub (Cg.refl (z.2*pe (x.drop m) z.1))
  exact h3.trans (Cg.of_eq (by omega))
theorem keyC_row {p:Int} {m w:Nat}:∀ {K:List (Nat × Int)} {i:Nat} (h:i<K.length),((keyC p m w K).drop (i*(m+w))).take (m+w)=keyL p m w K[i]
 |z :: K,0,_=>by
  rw[Nat.zero_mul,List.drop_zero]
  show List.take (m+w) (keyL p m w z++keyC p m w K)=keyL p m w z
  exact List.take_left' keyL_len
 |z :: K,i+1,h=>by
  have ih:=keyC_row (p:=p) (m:=m) (w:=w) (K:=K) (i:=i) (by simpa using h)
  show List.take (m+w) (List.drop ((i+1)*(m+w)) (keyL p m w z++keyC p m w K))=_
  rw[show (i+1)*(m+w)=(keyL p m w z).length+i*(m+w) by rw[keyL_len,Nat.add_mul];omega,← List.drop_drop,List.drop_left]
  exact ih
theorem rows_key {p:Int} {m w:Nat} {K:List (Nat × Int)} {i:Nat} (h:i<K.length):(rowsT (m+w) (keyC p m w K) (keyR p w K) K.length).getD i []=keyL p m w K[i]++[keyB p w K[i]]:=by
 have hk:(keyR p w K).getD i 0=keyB p w K[i]:=by simp [keyR,List.getD_eq_getElem?_getD,h]
 simp only[rowsT,List.getD_eq_getElem?_getD,List.getElem?_map,List.getElem?_range h,Option.map_some,Option.getD_some,rowT]
 rw[keyC_row h]
 simp only[List.getD_eq_getElem?_getD] at hk
 rw[hk]
/-! ### Sums and products of polynomials -/
def addL:List Int→List Int→List Int
 |[],b=>b
 |a,[]=>a
 |x :: a,y :: b=>(x+y) :: addL a b
theorem pe_addL {x:Int}:∀ {a b:List Int},pe (addL a b) x=pe a x+pe b x
 |[],b=>by simp [addL,pe]
 |c :: a,[]=>by simp [addL,pe]
 |c :: a,d :: b=>by
  show pe (addL a b) x*x+(c+d)=pe a x*x+c+(pe b x*x+d)
  rw[pe_addL,Int.add_mul];omega
theorem addL_get:∀ {a b:List Int} {i:Nat},(addL a b).getD i 0=a.getD i 0+b.getD i 0
 |[],b,i=>by simp [addL]
 |c :: a,[],i=>by simp [addL]
 |c :: a,d :: b,0=>rfl
 |c :: a,d :: b,i+1=>by
  simp only[addL,List.getD_cons_succ]
  exact addL_get
def smulL (c:Int) (l:List Int):List Int:=l.map (c * ·)
theorem pe_smulL {c x:Int}:∀ {l:List Int},pe (smulL c l) x=c*pe l x
 |[]=>by simp [smulL,pe]
 |d :: r=>by
  have ih:=pe_smulL (c:=c) (x:=x) (l:=r)
  simp only[smulL,List.map_cons,pe] at ih ⊢
  rw[ih,Int.mul_add,Int.mul_assoc]
theorem smulL_len {c:Int} {l:List Int}:(smulL c l).length=l.length:=by simp [smulL]
theorem smulL_get {c:Int} {l:List Int} {i:Nat}:(smulL c l).getD i 0=c*l.getD i 0:=by
 simp only[smulL,List.getD_eq_getElem?_getD,List.getElem?_map]
 cases l[i]? <;> simp
def mulP:List Int→List Int→List Int
 |[],_=>[]
 |c :: r,E=>addL (smulL c E) (0 :: mulP r E)
theorem pe_mulP {E:List Int} {x:Int}:∀ {g:List Int},pe (mulP g E) x=pe g x*pe E x
 |[]=>by simp [mulP,pe]
 |c :: r=>by
  rw[mulP,pe_addL,pe_smulL]
  show c*pe E x+(pe (mulP r E) x*x+0)=(pe r x*x+c)*pe E x
  rw[pe_mulP,Int.add_mul,Int.mul_assoc,Int.mul_assoc,Int.mul_comm x (pe E x)];omega
theorem addL_len_max:∀ {a b:List Int},(addL a b).length≤max a.length b.length
 |[],b=>by simp [addL]
 |c :: a,[]=>by simp [addL]
 |c :: a,d :: b=>by
  have:=addL_len_max (a:=a) (b:=b)
  simp only[addL,List.length_cons];omega
theorem mulP_len {E:List Int} (hE:1≤E.length):∀ {g:List Int},(mulP g E).length+1≤g.length+E.length
 |[]=>by simp [mulP];omega
 |c :: r=>by
  have ih:=mulP_len hE (g:=r)
  have:=addL_len_max (a:=smulL c E) (b:=0 :: mulP r E)
  rw[smulL_len,List.length_cons] at this
  simp only[mulP,List.length_cons];omega
def padL (n:Nat) (l:List Int):List Int:=l++List.replicate (n-l.length) 0
theorem padL_len {n:Nat} {l:List Int} (h:l.length≤n):(padL n l).length=n:=by simp [padL];omega
theorem pe_padL {n:Nat} {x:Int}:∀ {l:List Int},pe (padL n l) x=pe l x:=by
 intro l
 have h0:∀ k:Nat,pe (List.replicate k 0) x=0:=fun k=>by
  induction k with
  |zero=>rfl
  |succ k ih=>simp only[List.replicate_succ,pe,ih];simp
 have h1:∀ (a b:List Int),pe b x=0→pe (a++b) x=pe a x:=fun a b hb=>by
  induction a with
  |nil=>simpa [pe] using hb
  |cons c a ih=>simp only[List.cons_append,pe,ih]
 exact h1 _ _ (h0 _)
def mx (a:Int):Int→List Int→List Int
 |prev,[]=>[prev]
 |prev,c :: r=>(prev-a*c) :: mx a c r
theorem pe_mx {a x:Int}:∀ {l:List Int} {prev:Int},pe (mx a prev l) x=prev+(x-a)*pe l x
 |[],prev=>by simp [mx,pe]
 |c :: r,prev=>by
  show pe (mx a c r) x*x+(prev-a*c)=prev+(x-a)*(pe r x*x+c)
  rw[pe_mx]
  generalize pe r x=t
  simp only[Int.add_mul,Int.mul_add,Int.sub_mul]
  rw[Int.mul_assoc x t x,Int.mul_assoc a t x,Int.mul_comm c x]
  omega
theorem mx_snoc {a:Int}:∀ {l:List Int} {prev:Int},∃ l',mx a prev (l++[1])=l'++[1]∧l'.length=l.length+1
 |[],prev=>⟨[prev-a*1],rfl,rfl⟩
 |c :: r,prev=>by
  obtain⟨l',h1,h2⟩:=mx_snoc (a:=a) (l:=r) (prev:=c)
  exact⟨(prev-a*c) :: l',by simp only[List.cons_append,mx,h1],by simp [h2]⟩
theorem with_roots:∀ (R:List Int),∃ e:List Int,e.length=R.length∧∀ a ∈ R,pe (e++[1]) a=0
 |[]=>⟨[],rfl,fun a h=>by simp at h⟩
 |a :: R=>by
  obtain⟨e,h1,h2⟩:=with_roots R
  obtain⟨e',h3,h4⟩:=mx_snoc (a:=a) (l:=e) (prev:=0)
  refine⟨e',by rw[h4,h1];rfl,fun b hb=>?_⟩
  rw[← h3,pe_mx,Int.zero_add]
  rcases List.mem_cons.1 hb with rfl|hb
  ·rw[Int.sub_self,Int.zero_mul]
  ·rw[h2 b hb,Int.mul_zero]
end Go.Proofs.YtacfbiegbdlldaaGreatDoor.Sim
end
