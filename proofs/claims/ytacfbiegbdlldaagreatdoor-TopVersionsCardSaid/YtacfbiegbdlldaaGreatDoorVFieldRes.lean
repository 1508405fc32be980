/- The elements of a valid field: sums, differences, products, powers and inverses of package residue. -/
import Derived.Test.YtacfbiegbdlldaaGreatDoorVBase
import Derived.Test.YtacfbiegbdlldaaGreatDoorVFieldPlain
import Derived.Test.YtacfbiegbdlldaaGreatDoorRows
import Derived.Laws.BitsAllLaws
section
namespace Go.Proofs.YtacfbiegbdlldaaGreatDoor.Field
open Go Go.RowKit
set_option linter.unusedVariables false
def Valid (P:Int):Prop:=2≤P∧P≤65521∧isP P.toNat
theorem Valid.found {P:Int} {d:Nat} (h2:2≤d) (hd:(d:Int)*d≤P) (hm:P % (d:Int)=0):¬ Valid P:=by
 rintro⟨h0,h1,_,h⟩
 obtain⟨p,rfl⟩:=Int.eq_ofNat_of_zero_le (show 0≤P by omega)
 rw[Int.toNat_natCast] at h
 have hd':d*d≤p:=by rw[← Int.natCast_mul] at hd;omega
 have:d<p:=by have:=Nat.mul_le_mul_right d h2;omega
 exact h d h2 this (by have:=hm;rw[← Int.natCast_emod] at this;omega)
theorem Valid.none {P:Int} {d:Nat} (h0:2≤P) (h1:P≤65521) (hd:P<(d:Int)*d) (h:∀ e:Nat,2≤e→e<d→P % (e:Int) ≠ 0):Valid P:=by
 refine⟨h0,h1,?_⟩
 obtain⟨p,rfl⟩:=Int.eq_ofNat_of_zero_le (show 0≤P by omega)
 rw[Int.toNat_natCast]
 refine isP_of_root (by omega) fun e he hee hm=>?_
 have hd':p<d*d:=by rw[← Int.natCast_mul] at hd;omega
 have:e<d:=by
  rcases Nat.lt_or_ge e d with h'|h'
  ·exact h'
  ·have:=Nat.mul_le_mul h' h';omega
 exact h e he this (by rw[← Int.natCast_emod,hm];rfl)
def OfPost (P:Int) (w:World) (e:Ending) (w':World):Prop :=
 ∃ (q:Int) (b:Bool),e=.returned (.tuple #[.int .i64 q,.bool b])∧((b=true∧q=P∧Valid P)∨(b=false∧q=0∧¬ Valid P))∧Below w.heap.size w w'
def DRel (P:Int) (w:World) (gk:Nat) (i:Value) (wr:World):Prop :=
 ∃ d:Nat,gk+d=257∧2≤d∧i=.int .i64 d∧(∀ e:Nat,2≤e→e<d→P % (e:Int) ≠ 0)∧wr=w
theorem sq_bound {d:Nat} (h:d≤257):(d:Int)*d≤70000∧0≤(d:Int)*d:=by
 have h1:d*d≤257*257:=Nat.mul_le_mul h h
 rw[← Int.natCast_mul]
 omega
theorem sq_small {d:Nat} {P:Int} (h:(d:Int)*d≤P) (hP:P≤65521):d≤255:=by
 rcases Nat.lt_or_ge d 256 with h'|h'
 ·omega
 ·have h1:256*256≤d*d:=Nat.mul_le_mul h' h'
  rw[← Int.natCast_mul] at h
  omega
theorem of_any (P:Int) (w:World):Calls Tryz.prog 44 #[.agg #[.int .i64 P]] w (OfPost P w):=by
 by_cases h2:P<2
 ·go_enter Tryz.func44,Tryz.ntmps44
  go_wp2_with fail
  go_ret2
  exact⟨0,false,rfl,.inr ⟨rfl,rfl,fun h=>by have:=h.1;omega⟩,(Below.refl _ _).alloc (Nat.le_refl _) _⟩
 ·by_cases h3:65521<P
  ·go_enter Tryz.func44,Tryz.ntmps44
   go_wp2_with fail
   go_ret2
   exact⟨0,false,rfl,.inr ⟨rfl,rfl,fun h=>by have:=h.2.1;omega⟩,(Below.refl _ _).alloc (Nat.le_refl _) _⟩
  ·have hd1:decide (P<2)=false:=by simp;omega
   have hd2:decide ((65521:Int)<P)=false:=by simp;omega
   have hP0:2≤P:=by omega
   have hP1:P≤65521:=by omega
   clear h2 h3
   go_enter Tryz.func44,Tryz.ntmps44
   go_wp2_with fail
   go_loopg [4] 255 (fun gk i wr=>DRel P (w.alloc (.cells #[.int .i64 P] 28)) gk i wr)
   case atStart=>exact⟨2,rfl,by decide,rfl,fun e h1 h2=>by omega,rfl⟩
   case round =>
    obtain⟨d,hg,hd2',rfl,hall,rfl⟩:=hrel
    have hsq:=sq_bound (d:=d) (by omega)
    obtain⟨hs1,hs2⟩:=hsq
    have Hall:=Lib.hid hall
    clear hall
    by_cases hlt:(d:Int)*d≤P
    ·have hd255:=sq_small hlt hP1
     by_cases hm:P % (d:Int)=0
     ·have hq:(P % (d:Int) == 0)=true:=by simp [hm]
      have hv:=Valid.found hd2' hlt hm
      clear hm
      go_wp2_with fail
      go_ret2
      exact⟨0,false,rfl,.inr ⟨rfl,rfl,hv⟩,(Below.refl _ _).alloc (Nat.le_refl _) _⟩
     ·have hq:(P % (d:Int) == 0)=false:=by simp [hm]
      have Hm:=Lib.hid hm
      clear hm
      go_wp2_with fail
      go_roundg (gk-1)
      case measure=>omega
      case rel=>exact⟨d+1,by omega,by omega,by go_num,fun e h1 h2=>by
         rcases Nat.lt_or_ge e d with h|h
         ·exact Hall.out e h1 h
         ·obtain rfl:e=d:=by omega
          exact Hm.out,rfl⟩
    ·have hv:=Valid.none hP0 hP1 (by omega) Hall.out
     go_wp2_with fail
     go_ret2
     exact⟨P,true,rfl,.inl ⟨rfl,rfl,hv⟩,(Below.refl _ _).alloc (Nat.le_refl _) _⟩
end Go.Proofs.YtacfbiegbdlldaaGreatDoor.Field
end
section
namespace Go.Proofs.YtacfbiegbdlldaaGreatDoor.Field
open Go Go.RowKit
set_option linter.unusedVariables false
def hasB (p a:Int):Bool:=decide (0≤a∧a<p)
theorem pHas_any (p a:Int) (w:World):Calls Tryz.prog 45 #[.int .i64 p,.int .i64 a] w fun e w'=>e=.returned (.bool (hasB p a))∧w=w':=by
 by_cases h0:0≤a
 ·by_cases h1:a<p
  ·have hb:hasB p a=true:=by unfold hasB;simp [h0,h1]
   rw[hb]
   clear hb
   go_enter Tryz.func45,Tryz.ntmps45
   go_wp2_with fail
   go_ret
   exact⟨rfl,rfl⟩
  ·have hb:hasB p a=false:=by unfold hasB;simp [h1]
   rw[hb]
   clear hb
   go_enter Tryz.func45,Tryz.ntmps45
   go_wp2_with fail
   go_ret
   exact⟨rfl,rfl⟩
 ·have hb:hasB p a=false:=by unfold hasB;simp [h0]
  rw[hb]
  clear hb
  go_enter Tryz.func45,Tryz.ntmps45
  go_wp2_with fail
  go_ret
  exact⟨rfl,rfl⟩
theorem pAdd_any (p a b:Int) (w:World) (hp:1≤p) (hp1:p≤65521) (a0:0≤a) (a1:a<p) (b0:0≤b) (b1:b<p) :
  Calls Tryz.prog 79 #[.int .i64 p,.int .i64 a,.int .i64 b] w fun e w'=>e=.returned (.int .i64 ((a+b) % p))∧w=w':=by
 go_enter Tryz.func79,Tryz.ntmps79
 go_wp2_with fail
 go_ret
 exact⟨rfl,rfl⟩
theorem mul_bound {p a b:Int} (hp1:p≤65521) (a0:0≤a) (a1:a<p) (b0:0≤b) (b1:b<p):0≤a*b∧a*b≤4293001441:=by
 have h1:a*b≤65521*65521:=Int.mul_le_mul (by omega) (by omega) b0 (by decide)
 exact⟨Int.mul_nonneg a0 b0,by omega⟩
theorem pMul_any (p a b:Int) (w:World) (hp:1≤p) (hp1:p≤65521) (a0:0≤a) (a1:a<p) (b0:0≤b) (b1:b<p) :
  Calls Tryz.prog 80 #[.int .i64 p,.int .i64 a,.int .i64 b] w fun e w'=>e=.returned (.int .i64 (a*b % p))∧w=w':=by
 obtain⟨h1,h2⟩:=mul_bound hp1 a0 a1 b0 b1
 go_enter Tryz.func80,Tryz.ntmps80
 go_wp2_with fail
 go_ret
 exact⟨rfl,rfl⟩
def ERel (p a:Nat) (w:World) (gk:Nat) (v5 v6 v7 v8:Value) (wr:World):Prop :=
 ∃ (r:Nat) (x y:Int),v5=.int .i64 r∧v6=.int .i64 gk∧v7=.int .i64 x∧v8=.int .i64 y∧Eu p a r gk x y∧wr=w
theorem pInverse_any (p a:Nat) (w:World) (hp:isP p) (hp1:p≤65521) (h0:0<a) (h1:a<p) :
  Calls Tryz.prog 143 #[.int .i64 p,.int .i64 a] w fun e w'=>e=.returned (.int .i64 ((a ^ (p-2) % p:Nat):Int))∧w=w':=by
 have hp2:=hp.1
 have HP:=Lib.hid hp
 clear hp
 go_enter Tryz.func143,Tryz.ntmps143
 go_wp2_with fail
 go_loopg [5,6,7,8] a (fun gk v5 v6 v7 v8 wr=>ERel p a w gk v5 v6 v7 v8 wr)
 case atStart=>exact⟨p,0,1,rfl,rfl,rfl,rfl,Eu.start HP.out h0 h1,rfl⟩
 case round =>
  obtain⟨r,x,y,rfl,rfl,rfl,rfl,he,rfl⟩:=hrel
  have hyb:=he.yb.1
  have hxb:=he.xb
  have hrb:=he.rb
  have hlt:=he.lt
  have hqb:=he.qb
  by_cases hs:0<gk
  ·have hst:=he.step hs
   have hd:(r:Int)-((r / gk:Nat):Int)*gk=((r % gk:Nat):Int):=by
    have:=Nat.div_add_mod r gk
    rw[Nat.mul_comm] at this
    have e:(r:Int)=((r / gk:Nat):Int)*gk+((r % gk:Nat):Int):=by exact_mod_cast this.symm
    omega
   have hml:=Nat.mod_lt r hs
   have hyy:=hst.yb.1
   have hq1:(((r / gk:Nat):Int)*y).natAbs≤p:=by rw[Int.natAbs_mul,Int.natAbs_natCast];exact hqb
   have hq2:-65521≤((r / gk:Nat):Int)*y∧((r / gk:Nat):Int)*y≤65521:=by
    generalize ((r / gk:Nat):Int)*y=z at *
    omega
   have HQ:=Lib.hid hq2
   clear hq1 hq2
   have HD:=Lib.hid hd
   have HST:=Lib.hid hst
   clear hd hst he hqb
   have hq0:((gk:Int) != 0)=true:=by simp;omega
   go_wp2_with fail
   have e1:wrap64 ((r:Int) / (gk:Int))=((r / gk:Nat):Int):=by
    rw[← Int.natCast_ediv]
    have hdl:=Nat.div_le_self r gk
    generalize r / gk=q at hdl ⊢
    exact IntWalk.wrap64_in _ (by omega)
   have e2:wrap64 (((r / gk:Nat):Int)*(gk:Int))=((r / gk:Nat):Int)*(gk:Int):=IntWalk.wrap64_in _ (by have:=HD.out;omega)
   have e3:wrap64 ((r:Int)-((r / gk:Nat):Int)*(gk:Int))=((r % gk:Nat):Int):=by rw[HD.out];exact IntWalk.wrap64_in _ (by omega)
   have hq2:=HQ.out
   have hdd:=HD.out
   have e4:wrap64 (((r / gk:Nat):Int)*y)=((r / gk:Nat):Int)*y:=IntWalk.wrap64_in _ (by omega)
   have e5:wrap64 (x-((r / gk:Nat):Int)*y)=x-((r / gk:Nat):Int)*y:=IntWalk.wrap64_in _ (by omega)
   go_roundg (r % gk)
   case measure=>exact hml
   case rel=>exact⟨gk,y,x-((r / gk:Nat):Int)*y,rfl,by rw[e1,e2,e3],rfl,by rw[e1,e4,e5],HST.out,rfl⟩
  ·obtain rfl:gk=0:=by omega
   have hdone:=he.done HP.out h0 h1
   have ht:=tmod_fix x (p:=(p:Int)) (by omega)
   have hr:=tmod_range x (p:=(p:Int)) (by omega)
   obtain⟨hr1,hr2⟩:=hr
   have HT:=Lib.hid ht
   clear he ht
   go_wp2_with fail
   go_ret
   exact⟨by rw[← hdone,← HT.out];rfl,rfl⟩
end Go.Proofs.YtacfbiegbdlldaaGreatDoor.Field
end
