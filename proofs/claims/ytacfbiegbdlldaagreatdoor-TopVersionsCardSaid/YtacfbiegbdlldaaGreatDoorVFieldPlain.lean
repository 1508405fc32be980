/- Primes, Fermat's theorem and inverses, in plain terms: no program in sight. -/
import Derived.Laws.Concat
namespace Go.Proofs.YtacfbiegbdlldaaGreatDoor.Field
set_option linter.unusedVariables false
def isP (p:Nat):Prop:=2≤p∧∀ d,2≤d→d<p→p % d ≠ 0
theorem isP_of_root {p:Nat} (h2:2≤p) (h:∀ d,2≤d→d*d≤p→p % d ≠ 0):isP p:=by
 refine⟨h2,fun d hd hlt hm=>?_⟩
 obtain⟨k,hk⟩:=Nat.dvd_of_mod_eq_zero hm
 by_cases hs:d*d≤p
 ·exact h d hd hs hm
 ·have hkd:k<d:=by
   rcases Nat.lt_or_ge k d with h'|h'
   ·exact h'
   ·have:=Nat.mul_le_mul_left d h'
    omega
  have hk2:2≤k:=by
   rcases Nat.lt_or_ge k 2 with h'|h'
   ·have:k=0∨k=1:=by omega
    rcases this with rfl|rfl <;> omega
   ·exact h'
  refine h k hk2 ?_ (Nat.mod_eq_zero_of_dvd ⟨d,by rw[hk,Nat.mul_comm]⟩)
  have:=Nat.mul_le_mul_right k (Nat.le_of_lt hkd)
  omega
variable {p:Nat}
theorem isP.coprime (hp:isP p) {a:Nat} (h:¬ p ∣ a):Nat.Coprime p a:=by
 have hg:p.gcd a ∣ p:=Nat.gcd_dvd_left _ _
 have hga:p.gcd a ∣ a:=Nat.gcd_dvd_right _ _
 have h0:0<p.gcd a:=Nat.gcd_pos_of_pos_left _ (by have:=hp.1;omega)
 have hle:=Nat.le_of_dvd (by have:=hp.1;omega) hg
 rcases Nat.lt_or_ge (p.gcd a) 2 with h1|h1
 ·show p.gcd a=1;omega
 ·rcases Nat.lt_or_ge (p.gcd a) p with h2|h2
  ·exact absurd (Nat.mod_eq_zero_of_dvd hg) (hp.2 _ h1 h2)
  ·have:p.gcd a=p:=by omega
   rw[this] at hga
   exact absurd hga h
theorem isP.mul (hp:isP p) {a b:Nat} (h:p ∣ a*b):p ∣ a∨p ∣ b:=by
 by_cases ha:p ∣ a
 ·exact .inl ha
 ·exact .inr ((hp.coprime ha).dvd_of_dvd_mul_left h)
def prod:List Nat→Nat
 |[]=>1
 |x :: l=>x*prod l
theorem prod_perm {l m:List Nat} (h:l.Perm m):prod l=prod m:=by
 induction h with
 |nil=>rfl
 |cons x _ ih=>rw[prod,prod,ih]
 |swap x y l=>simp only[prod];rw[← Nat.mul_assoc,← Nat.mul_assoc,Nat.mul_comm y x]
 |trans _ _ h1 h2=>exact h1.trans h2
theorem prod_map (a p:Nat):∀ l:List Nat,prod (l.map fun x=>a*x % p) % p=a ^ l.length*prod l % p
 |[]=>by simp [prod]
 |x :: l=>by
  have ih:=prod_map a p l
  simp only[List.map_cons,prod,List.length_cons]
  rw[Nat.mul_mod,ih,Nat.mod_mod,← Nat.mul_mod,Nat.pow_succ]
  congr 1
  rw[Nat.mul_mul_mul_comm,Nat.mul_comm (a ^ l.length) a]
theorem prod_unit (hp:isP p):∀ l:List Nat,(∀ x ∈ l,1≤x∧x<p)→¬ p ∣ prod l
 |[],_=>by
  intro h
  have h1:p≤1:=Nat.le_of_dvd (by decide) h
  have:=hp.1
  omega
 |x :: l,h=>by
  intro hd
  rcases hp.mul hd with h1|h1
  ·have:=Nat.le_of_dvd (by have:=(h x (by simp)).1;omega) h1
   have:=(h x (by simp)).2
   omega
  ·exact prod_unit hp l (fun y hy=>h y (by simp [hy])) h1
theorem fermat (hp:isP p) {a:Nat} (ha:¬ p ∣ a):a ^ (p-1) % p=1:=by
 have h2:=hp.1
 let L:=List.range' 1 (p-1)
 let M:=L.map fun x=>a*x % p
 have hL:∀ x,x ∈ L↔1≤x∧x<p:=fun x=>by simp only[L,List.mem_range'_1];omega
 have hinj:∀ x ∈ L,∀ y ∈ L,a*x % p=a*y % p→x=y:=by
  intro x hx y hy h
  have hx':=(hL x).1 hx
  have hy':=(hL y).1 hy
  rcases Nat.le_total x y with hxy|hxy
  ·have hd:p ∣ a*(y-x):=by
    rw[Nat.mul_sub]
    exact Nat.dvd_of_mod_eq_zero (Nat.sub_mod_eq_zero_of_mod_eq h.symm)
   rcases hp.mul hd with h1|h1
   ·exact absurd h1 ha
   ·rcases Nat.eq_zero_or_pos (y-x) with h0|h0
    ·omega
    ·have:=Nat.le_of_dvd h0 h1;omega
  ·have hd:p ∣ a*(x-y):=by
    rw[Nat.mul_sub]
    exact Nat.dvd_of_mod_eq_zero (Nat.sub_mod_eq_zero_of_mod_eq h)
   rcases hp.mul hd with h1|h1
   ·exact absurd h1 ha
   ·rcases Nat.eq_zero_or_pos (x-y) with h0|h0
    ·omega
    ·have:=Nat.le_of_dvd h0 h1;omega
 have hsub:∀ x ∈ M,x ∈ L:=by
  intro x hx
  obtain⟨y,hy,rfl⟩:=List.mem_map.1 hx
  have hy':=(hL y).1 hy
  refine (hL _).2 ⟨?_,Nat.mod_lt _ (by omega)⟩
  rcases Nat.eq_zero_or_pos (a*y % p) with h0|h0
  ·rcases hp.mul (Nat.dvd_of_mod_eq_zero h0) with h1|h1
   ·exact absurd h1 ha
   ·have:=Nat.le_of_dvd (by omega) h1;omega
  ·exact h0
 have hLn:L.Nodup:=List.nodup_range'
 have hMn:M.Nodup:=by
  refine List.pairwise_map.2 (List.Pairwise.imp_of_mem ?_ hLn)
  intro x y hx hy hne he
  exact hne (hinj x hx y hy he)
 have hlen:M.length=L.length:=by simp [M]
 have hsup:∀ x ∈ L,x ∈ M:=by
  intro x hx
  rcases Classical.em (x ∈ M) with h|h
  ·exact h
  ·have:=List.Nodup.length_le_of_subset (l₁:=x :: M) (l₂:=L) (List.nodup_cons.2 ⟨h,hMn⟩) (fun y hy=>by
    rcases List.mem_cons.1 hy with rfl|hy
    ·exact hx
    ·exact hsub y hy)
   simp only[List.length_cons] at this
   omega
 have hperm:M.Perm L:=(List.perm_ext_iff_of_nodup hMn hLn).2 fun x=>⟨hsub x,hsup x⟩
 have h1:a ^ (p-1)*prod L % p=prod L % p:=by
  have:=prod_map a p L
  rw[show L.map (fun x=>a*x % p)=M from rfl,prod_perm hperm] at this
  rw[this]
  simp [L]
 have hu:=prod_unit hp L (fun x hx=>(hL x).1 hx)
 have hpos:1≤a ^ (p-1):=by
  rcases Nat.eq_zero_or_pos a with h|h
  ·subst h;exact absurd (Nat.dvd_zero p) ha
  ·exact Nat.pow_pos h
 have hd:p ∣ (a ^ (p-1)-1)*prod L:=by
  rw[Nat.sub_mul,Nat.one_mul]
  exact Nat.dvd_of_mod_eq_zero (Nat.sub_mod_eq_zero_of_mod_eq h1)
 rcases hp.mul hd with h3|h3
 ·obtain⟨k,hk⟩:=h3
  have:a ^ (p-1)=p*k+1:=by omega
  rw[this,Nat.mul_add_mod,Nat.mod_eq_of_lt (by omega)]
 ·exact absurd h3 hu
theorem not_dvd {p a:Nat} (h0:0<a) (h1:a<p):¬ p ∣ a:=fun h=>by have:=Nat.le_of_dvd h0 h;omega
theorem inv_unique {p a b:Nat} (hp:isP p) (h0:0<a) (h1:a<p) (hb:b<p) (h:a*b % p=1):b=a ^ (p-2) % p:=by
 have h2:=hp.1
 have hf:=fermat hp (not_dvd h0 h1)
 have e:a ^ (p-1)=a ^ (p-2)*a:=by rw[← Nat.pow_succ];congr 1;omega
 have e2:a ^ (p-2)*(a*b) % p=b % p:=by
  rw[← Nat.mul_assoc,← e,Nat.mul_mod,hf,Nat.one_mul,Nat.mod_mod]
 rw[Nat.mul_mod,h,Nat.mul_one,Nat.mod_mod,Nat.mod_eq_of_lt hb] at e2
 exact e2.symm
theorem inv_pow {p a:Nat} (hp:isP p) (h0:0<a) (h1:a<p):a*(a ^ (p-2) % p) % p=1:=by
 have h2:=hp.1
 have hf:=fermat hp (not_dvd h0 h1)
 rw[Nat.mul_mod_mod,Nat.mul_comm,← Nat.pow_succ,show (p-2).succ=p-1 by omega]
 exact hf
structure Eu (p a r s:Nat) (x y:Int):Prop where
 hx:∃ u:Int,x*a=r+u*p
 hy:∃ v:Int,y*a=s+v*p
 sign:(x≤0∧0≤y)∨(0≤x∧y≤0)
 sum:x.natAbs*s+y.natAbs*r=p
 gcd:r.gcd s=1
 lt:s<r
 xb:x.natAbs≤p
 rb:r≤p
theorem Eu.start {p a:Nat} (hp:isP p) (h0:0<a) (h1:a<p):Eu p a p a 0 1 :=
 ⟨⟨-1,by omega⟩,⟨0,by omega⟩,.inl ⟨by omega,by omega⟩,by simp,hp.coprime (not_dvd h0 h1),h1,by simp,Nat.le_refl _⟩
theorem Eu.yb {p a r s:Nat} {x y:Int} (h:Eu p a r s x y):y.natAbs≤p∧y.natAbs*r≤p:=by
 have h1:=h.sum
 have h2:y.natAbs*1≤y.natAbs*r:=Nat.mul_le_mul_left _ (by have:=h.lt;omega)
 omega
theorem Eu.step {p a r s:Nat} {x y:Int} (h:Eu p a r s x y) (hs:0<s):Eu p a s (r % s) y (x-((r / s:Nat):Int)*y):=by
 obtain⟨u,hu⟩:=h.hx
 obtain⟨v,hv⟩:=h.hy
 have hd:r=r / s*s+r % s:=by have:=Nat.div_add_mod r s;rw[Nat.mul_comm] at this;omega
 have hlt:=Nat.mod_lt r hs
 have hg:s.gcd (r % s)=1:=by rw[Nat.gcd_comm,← Nat.gcd_rec,Nat.gcd_comm];exact h.gcd
 have hyb:=h.yb.1
 have hrb:=h.rb
 have hltr:=h.lt
 have hsum:=h.sum
 have hsign:=h.sign
 have hyy:=h.hy
 clear h
 generalize r / s=q at *
 generalize r % s=t at *
 subst hd
 refine⟨hyy,⟨u-(q:Int)*v,?_⟩,?_,?_,hg,hlt,hyb,by omega⟩
 ·rw[Int.natCast_add,Int.natCast_mul] at hu
  rw[Int.sub_mul,hu,Int.mul_assoc,hv,Int.mul_add,Int.sub_mul,Int.mul_assoc]
  omega
 ·have hq:0≤(q:Int):=by omega
  rcases hsign with ⟨h1,h2⟩|⟨h1,h2⟩
  ·exact .inr ⟨h2,by have:=Int.mul_nonneg hq h2;omega⟩
  ·refine .inl ⟨h2,?_⟩
   have:=Int.mul_nonneg hq (show 0≤-y by omega)
   rw[Int.mul_neg] at this
   omega
 ·have hq:0≤(q:Int):=by omega
  have habs:(x-(q:Int)*y).natAbs=x.natAbs+q*y.natAbs:=by
   have hm:((q:Int)*y).natAbs=q*y.natAbs:=by rw[Int.natAbs_mul,Int.natAbs_natCast]
   rcases hsign with ⟨h1,h2⟩|⟨h1,h2⟩
   ·have:=Int.mul_nonneg hq h2;omega
   ·have:=Int.mul_nonneg hq (show 0≤-y by omega)
    rw[Int.mul_neg] at this
    omega
  rw[habs,Nat.add_mul,← hsum,Nat.mul_add,Nat.mul_comm q y.natAbs,Nat.mul_assoc]
  omega
theorem Eu.qb {p a r s:Nat} {x y:Int} (h:Eu p a r s x y):r / s*y.natAbs≤p:=by
 have h1:=h.yb.2
 have h2:r / s*y.natAbs≤r*y.natAbs:=Nat.mul_le_mul_right _ (Nat.div_le_self r s)
 rw[Nat.mul_comm r] at h2
 omega
theorem Eu.done {p a r:Nat} {x y:Int} (hp:isP p) (h0:0<a) (h1:a<p) (h:Eu p a r 0 x y):(x % (p:Int))=((a ^ (p-2) % p:Nat):Int):=by
 have h2:=hp.1
 have hr:r=1:=by have:=h.gcd;rwa [Nat.gcd_zero_right] at this
 subst hr
 obtain⟨u,hu⟩:=h.hx
 have hn:=Int.emod_nonneg x (show (p:Int) ≠ 0 by omega)
 have hl:=Int.emod_lt_of_pos x (show (0:Int)<p by omega)
 obtain⟨b,hb⟩:=Int.eq_ofNat_of_zero_le hn
 rw[hb]
 congr 1
 refine inv_unique hp h0 h1 (by omega) ?_
 have e:((a*b % p:Nat):Int)=1:=by
  rw[Int.natCast_emod,Int.natCast_mul,← hb,Int.mul_emod,Int.emod_emod,← Int.mul_emod,Int.mul_comm,hu,Int.natCast_one,Int.add_mul_emod_self_right]
  exact Int.emod_eq_of_lt (by decide) (by omega)
 omega
theorem tmod_fix (x:Int) {p:Int} (hp:0<p):(x.tmod p+p) % p=x % p:=by
 rw[Int.add_emod_right,Int.tmod_def,Int.sub_mul_emod_self_left]
theorem tmod_range (x:Int) {p:Int} (hp:0<p):-p<x.tmod p∧x.tmod p<p:=by
 have h1:=Int.lt_tmod_of_pos x hp
 have h2:=Int.tmod_lt_of_pos x hp
 exact⟨h1,h2⟩
end Go.Proofs.YtacfbiegbdlldaaGreatDoor.Field
