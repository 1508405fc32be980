/- Steps: check, bytes. -/
import Derived.Test.YticdbambknflgaaGreatMWirePuts
import Derived.Test.YticdbambknflgaaGreatRows
import Derived.WalkKit
import Derived.WalkSpells
import Derived.WalkLawsBesides
import Derived.Outline
import Derived.Deep.DeepFit
import Derived.OwnWalk
import Derived.Below
import Derived.Lib.Hide
import Derived.Laws.BytesArg
import Derived.Deep.LoopGhost
import Derived.Test.YticdbambknflgaaGreatMBytes
import Derived.Test.YticdbambknflgaaGreatMLibI
import Derived.Test.YticdbambknflgaaGreatMAcs
import Derived.Test.YticdbambknflgaaGreatMSimBr
import Derived.Test.YticdbambknflgaaGreatMSimSl
section
namespace Go.Proofs.YticdbambknflgaaGreat.Wire
open Go Go.RowKit
set_option linter.unusedVariables false
def IntRel (s:List UInt8) (a:Nat) (w:World) (gk:Nat) (u k:Value) (wr:World):Prop :=
 ∃ (acc j:Nat),wr=w∧gk+j=10∧u=.int .u64 acc∧k=.int .i64 j∧j≤9∧a+j≤s.length∧acc<128 ^ j∧rd 0 0 (s.drop a)=rd j acc (s.drop (a+j))
def IntPost (s:List UInt8) (a:Int) (w:World) (e:Ending) (w':World):Prop :=
 e=.returned (.tuple #[.int .i64 (getI s a).1,.int .i64 (getI s a).2.1,.int .i64 (getI s a).2.2])∧w=w'
theorem drop_at {l:List UInt8} {i:Nat} (h:i<l.length):l.drop i=l[i] :: l.drop (i+1):=List.drop_eq_getElem_cons h
theorem getI_of {s:List UInt8} {a:Nat} (h:a≤s.length) {x:Int} {k:Nat} (hr:rd 0 0 (s.drop a)=(x,k,0)):getI s a=(x,((a+k:Nat):Int),0):=by
 unfold getI
 rw[if_neg (by omega),Int.toNat_natCast,hr]
 show (x,(a:Int)+(k:Int),(0:Int))=_
 simp
theorem getI_bad {s:List UInt8} {a:Nat} (h:a≤s.length) {x:Int} {k e:Nat} (hr:rd 0 0 (s.drop a)=(x,k,e+1)):getI s a=(0,0,((e+1:Nat):Int)):=by
 unfold getI
 rw[if_neg (by omega),Int.toNat_natCast,hr]
 rfl
theorem rd_form {k acc:Nat} {b:UInt8} {r:List UInt8} (h:k=9∧1<b.toNat∨0<k∧b.toNat=0):rd k acc (b :: r)=(0,0,2):=by
 rw[rd,if_pos h]
theorem rd_end {k acc:Nat} {b:UInt8} {r:List UInt8} (h:¬ (k=9∧1<b.toNat∨0<k∧b.toNat=0)) (hb:b.toNat<128):rd k acc (b :: r)=(unzz (acc+b.toNat % 128*128 ^ k),k+1,0):=by
 rw[rd,if_neg h,if_pos hb,Nat.mod_eq_of_lt hb]
theorem rd_on {k acc:Nat} {b:UInt8} {r:List UInt8} (h:¬ (k=9∧1<b.toNat∨0<k∧b.toNat=0)) (hb:¬ b.toNat<128):rd k acc (b :: r)=rd (k+1) (acc+b.toNat % 128*128 ^ k) r:=by
 rw[rd,if_neg h,if_neg hb]
theorem acc_u64 {acc j b:Nat} (hj:j≤9) (h9:j=9→b≤1) (h:acc<128 ^ j):acc+b % 128*128 ^ j<18446744073709551616:=by
 by_cases h':j=9
 ·have:=h9 h'
  subst h'
  have:b % 128≤1:=by omega
  have h2:b % 128*128 ^ 9≤1*128 ^ 9:=Nat.mul_le_mul_right _ this
  omega
 ·have h1:=acc_lt (b:=b) h
  have h2:128 ^ (j+1)≤128 ^ 9:=Nat.pow_le_pow_right (by decide) (by omega)
  omega
theorem close_form {s:List UInt8} {a j acc:Nat} {w:World} (h1:a≤s.length) (hlt:a+j<s.length) (hr:rd 0 0 (s.drop a)=rd j acc (s.drop (a+j)))
  (hf:j=9∧1<s[a+j].toNat∨0<j∧s[a+j].toNat=0):IntPost s a w (.returned (.tuple #[.int .i64 0,.int .i64 0,.int .i64 2])) w:=by
 unfold IntPost
 rw[getI_bad h1 (x:=0) (k:=0) (e:=1) (by rw[hr,drop_at hlt,rd_form hf])]
 exact⟨rfl,rfl⟩
theorem close_end {s:List UInt8} {a j acc:Nat} {w:World} (h1:a≤s.length) (hlt:a+j<s.length) (hj:j≤9) (hacc:acc<128 ^ j) (hr:rd 0 0 (s.drop a)=rd j acc (s.drop (a+j)))
  (hf:¬ (j=9∧1<s[a+j].toNat∨0<j∧s[a+j].toNat=0)) (hb:s[a+j].toNat<128) :
  IntPost s a w (.returned (.tuple #[.int .i64 (bits .xor .i64 (wrap64 (bits .or .u64 (acc:Int) (IntKind.u64.wrap (IntKind.u64.wrap (bits .and .u8 (s[a+j].toNat:Int) 127)*2 ^ (7*j))) / 2)) (wrap64 (-wrap64 (bits .and .u64 (bits .or .u64 (acc:Int) (IntKind.u64.wrap (IntKind.u64.wrap (bits .and .u8 (s[a+j].toNat:Int) 127)*2 ^ (7*j)))) 1)))),.int .i64 ((a:Int)+j+1),.int .i64 0])) w:=by
 unfold IntPost
 have hlt':=s[a+j].toNat_lt
 rw[or_walk hj hlt' (by omega) hacc,unzz_walk (acc_u64 hj (by omega) hacc),getI_of h1 (by rw[hr,drop_at hlt,rd_end hf hb])]
 exact⟨rfl,rfl⟩
theorem close_on {s:List UInt8} {a j acc gk':Nat} {w:World} (hg:gk'+(j+1)=10) (hlt:a+j<s.length) (hj:j≤9) (hacc:acc<128 ^ j) (hr:rd 0 0 (s.drop a)=rd j acc (s.drop (a+j)))
  (hf:¬ (j=9∧1<s[a+j].toNat∨0<j∧s[a+j].toNat=0)) (hb:¬ s[a+j].toNat<128) (h9:¬ j=9) :
  IntRel s a w gk' (.int .u64 (bits .or .u64 (acc:Int) (IntKind.u64.wrap (IntKind.u64.wrap (bits .and .u8 (s[a+j].toNat:Int) 127)*2 ^ (7*j))))) (.int .i64 ((j:Int)+1)) w:=by
 have hlt':=s[a+j].toNat_lt
 rw[or_walk hj hlt' (by omega) hacc]
 exact⟨_,j+1,rfl,hg,rfl,by simp,by omega,by omega,acc_lt hacc,by rw[hr,drop_at hlt,rd_on hf hb];rfl⟩
set_option maxRecDepth 100000 in
theorem wInt_in (s:List UInt8) (a:Nat) (w:World) (h1:a≤s.length) (hs:s.length≤2 ^ 62) :
  Calls Tryz.prog 83 #[.string ⟨s.toArray⟩,.int .i64 a] w (IntPost s a w):=by
 have hA:decide ((a:Int)<0)=false:=by simp
 have hB:decide (s.length<a)=false:=by simp;omega
 go_enter Tryz.func83,Tryz.ntmps83
 go_wp2
 go_loopg [7,8,9] 10 (fun gk u k b wr=>IntRel s a w gk u k wr)
 case atStart=>exact⟨0,0,rfl,rfl,rfl,rfl,by omega,by omega,by decide,rfl⟩
 case round =>
  obtain⟨acc,j,rfl,hg,rfl,rfl,hj,ha,hacc,hrd⟩:=hrel
  have Hrd:=Lib.hid hrd
  clear hrd
  by_cases hlt:a+j<s.length
  ·by_cases hj9:j=9
   ·subst hj9
    go_wp2
    ·go_ret3
     have h:1<(s[a+9].toNat:Int)∨((s[a+9].toNat:Int) == 0)=true:=by assumption
     exact close_form h1 hlt Hrd.out (by simp at h;omega)
    ·go_ret3
     have h2:(s[a+9].toNat:Int)≤1∧((s[a+9].toNat:Int) == 0)=false:=by assumption
     have h3:(s[a+9].toNat:Int)<128:=by assumption
     exact close_end h1 hlt hj hacc Hrd.out (by simp at h2;omega) (by omega)
    ·go_ret3
     have h:1<(s[a+9].toNat:Int):=by assumption
     exact close_form h1 hlt Hrd.out (by omega)
   ·by_cases hjp:j<1
    ·go_wp2
     ·go_ret3
      have h3:(s[a+j].toNat:Int)<128:=by assumption
      exact close_end h1 hlt hj hacc Hrd.out (by omega) (by omega)
     ·have h3:128≤(s[a+j].toNat:Int):=by assumption
      go_roundg (gk-1)
      case measure=>omega
      case rel=>exact close_on (by omega) hlt hj hacc Hrd.out (by omega) (by omega) hj9
    ·have hjp:0<j:=by omega
     go_wp2
     ·go_ret3
      have h:((s[a+j].toNat:Int) == 0)=true:=by assumption
      exact close_form h1 hlt Hrd.out (by simp at h;omega)
     ·go_ret3
      have h2:((s[a+j].toNat:Int) == 0)=false:=by assumption
      have h3:(s[a+j].toNat:Int)<128:=by assumption
      exact close_end h1 hlt hj hacc Hrd.out (by simp at h2;omega) (by omega)
     ·have h2:((s[a+j].toNat:Int) == 0)=false:=by assumption
      have h3:128≤(s[a+j].toNat:Int):=by assumption
      go_roundg (gk-1)
      case measure=>omega
      case rel=>exact close_on (by omega) hlt hj hacc Hrd.out (by simp at h2;omega) (by omega) hj9
  ·go_wp2
   go_ret3
   refine⟨?_,rfl⟩
   rw[getI_bad h1 (x:=0) (k:=0) (e:=2) (by rw[Hrd.out,List.drop_eq_nil_of_le (by omega),rd])]
   rfl
theorem wInt_out (s:List UInt8) (a:Int) (w:World) (h1:a<0∨(s.length:Int)<a) (hs:s.length≤2 ^ 62) :
  Calls Tryz.prog 83 #[.string ⟨s.toArray⟩,.int .i64 a] w (IntPost s a w):=by
 have hg:getI s a=(0,0,1):=by unfold getI;rw[if_pos h1]
 rcases Int.lt_or_le a 0 with h|h
 ·go_enter Tryz.func83,Tryz.ntmps83
  go_wp2
  go_ret3
  exact⟨by rw[hg];rfl,rfl⟩
 ·have h2:(s.length:Int)<a:=by omega
  go_enter Tryz.func83,Tryz.ntmps83
  go_wp2
  go_ret3
  exact⟨by rw[hg];rfl,rfl⟩
theorem wInt_any (s:List UInt8) (a:Int) (w:World) (hs:s.length≤2 ^ 62) :
  Calls Tryz.prog 83 #[.string ⟨s.toArray⟩,.int .i64 a] w (IntPost s a w):=by
 by_cases h:a<0∨(s.length:Int)<a
 ·exact wInt_out s a w h hs
 ·obtain⟨n,rfl⟩:=Int.eq_ofNat_of_zero_le (show 0≤a by omega)
  exact wInt_in s n w (by omega) hs
end Go.Proofs.YticdbambknflgaaGreat.Wire
end
section
namespace Go.Proofs.YticdbambknflgaaGreat.Wire
open Go Go.RowKit
set_option linter.unusedVariables false
theorem zz_unzz (u:Nat):zz (unzz u)=u:=by
 unfold unzz zz
 split <;> split <;> omega
theorem unzz_zz (n:Int):unzz (zz n)=n:=by
 unfold unzz zz
 split <;> split <;> omega
theorem unzz_i64 {u:Nat} (h:u<18446744073709551616):-9223372036854775808≤unzz u∧unzz u≤9223372036854775807:=by
 unfold unzz
 split <;> omega
theorem pow_bounds {k:Nat} (hk:k≤9):1≤128 ^ k∧(k<9→128 ^ k*128≤128 ^ 9):=by
 refine⟨Nat.pos_of_ne_zero (by simp),fun h=>?_⟩
 rw[← Nat.pow_succ]
 exact Nat.pow_le_pow_right (by decide) (by omega)
theorem acc_bound {acc j b:Nat} (hj:j≤9) (h9:j=9→b≤1) (h:acc<128 ^ j):acc+b % 128*128 ^ j<18446744073709551616:=by
 by_cases h':j=9
 ·have:=h9 h'
  subst h'
  have:b % 128≤1:=by omega
  have h2:b % 128*128 ^ 9≤1*128 ^ 9:=Nat.mul_le_mul_right _ this
  omega
 ·have h1:=acc_lt (b:=b) h
  have h2:128 ^ (j+1)≤128 ^ 9:=Nat.pow_le_pow_right (by decide) (by omega)
  omega
theorem rd_sound:∀ (l:List UInt8) (k acc:Nat) (x:Int) (j:Nat),k≤9→acc<128 ^ k→rd k acc l=(x,j,0) →
  ∃ v,x=unzz (acc+v*128 ^ k)∧acc+v*128 ^ k<18446744073709551616∧l.take (j-k)=vb v∧k<j∧j≤10∧j-k≤l.length∧(0<k→0<v)
 |[],k,acc,x,j,hk,ha,h=>by simp [rd] at h
 |b :: r,k,acc,x,j,hk,ha,h=>by
  have hb:=b.toNat_lt
  by_cases hf:k=9∧1<b.toNat∨0<k∧b.toNat=0
  ·rw[rd,if_pos hf] at h;simp at h
  ·rw[rd,if_neg hf] at h
   by_cases hlt:b.toNat<128
   ·rw[if_pos hlt] at h
    simp only[Prod.mk.injEq,and_true] at h
    obtain⟨rfl,rfl⟩:=h
    have hu:=acc_bound (b:=b.toNat) hk (by omega) ha
    rw[Nat.mod_eq_of_lt hlt] at hu
    refine⟨b.toNat,rfl,hu,?_,by omega,by omega,by simp,by omega⟩
    rw[vb_small (by omega),show k+1-k=1 by omega]
    simp
   ·rw[if_neg hlt] at h
    have hk9:k ≠ 9:=by omega
    obtain⟨v,hx,hu,ht,h1,h2,h3,h4⟩:=rd_sound r (k+1) _ x j (by omega) (acc_lt ha) h
    have hv:=h4 (by omega)
    have e1:acc+b.toNat % 128*128 ^ k+v*128 ^ (k+1)=acc+(b.toNat % 128+128*v)*128 ^ k:=by
     rw[Nat.pow_succ,Nat.add_mul,Nat.mul_comm 128 v,Nat.mul_assoc,Nat.mul_comm (128 ^ k) 128];omega
    rw[e1] at hx hu
    refine⟨b.toNat % 128+128*v,hx,hu,?_,by omega,h2,by simp;omega,by omega⟩
    rw[vb_big (by omega),show (b.toNat % 128+128*v) % 128+128=b.toNat by omega,show (b.toNat % 128+128*v) / 128=v by omega,← ht,show j-k=(j-(k+1))+1 by omega]
    simp
theorem rd_put:∀ (f v k acc:Nat) (r:List UInt8),v<f→k≤9→acc<128 ^ k→acc+v*128 ^ k<18446744073709551616→(0<k→0<v) →
  rd k acc (vb v++r)=(unzz (acc+v*128 ^ k),k+(vb v).length,0)
 |0,v,k,acc,r,hf,_,_,_,_=>by omega
 |f+1,v,k,acc,r,hf,hk,ha,hu,hv=>by
  have hp:=pow_bounds hk
  have h9:k=9→v≤1:=fun h=>by subst h;omega
  by_cases hlt:127<v
  ·have hk9:k<9:=by
    rcases Nat.lt_or_ge k 9 with h|h
    ·exact h
    ·have:=h9 (by omega);omega
   have hn:(UInt8.ofNat (v % 128+128)).toNat=v % 128+128:=by simp;omega
   rw[vb_big hlt,List.cons_append,rd,hn,if_neg (by omega),if_neg (by omega)]
   have e1:acc+(v % 128+128) % 128*128 ^ k+v / 128*128 ^ (k+1)=acc+v*128 ^ k:=by
    have e2:(v % 128+128) % 128=v % 128:=by omega
    have e3:v=v % 128+v / 128*128:=by omega
    rw[e2,Nat.pow_succ,Nat.mul_comm (128 ^ k) 128,← Nat.mul_assoc,Nat.add_assoc,← Nat.add_mul,← e3]
   rw[rd_put f (v / 128) (k+1) _ r (by omega) (by omega) (acc_lt ha) (by rw[e1];exact hu) (by omega),e1]
   simp;omega
  ·have hn:(UInt8.ofNat v).toNat=v:=by simp;omega
   rw[vb_small hlt,List.singleton_append,rd,hn,if_neg (by omega),if_pos (by omega)]
   simp
theorem getI_put {n:Int} (h0:-9223372036854775808≤n) (h1:n≤9223372036854775807) (pre r:List UInt8) :
  getI (pre++(putB n++r)) pre.length=(n,((pre.length+(putB n).length:Nat):Int),0):=by
 unfold getI
 rw[if_neg (by simp;omega),Int.toNat_natCast,List.drop_left,putB,rd_put (zz n+1) (zz n) 0 0 r (by omega) (by omega) (by decide) (by simp;exact zz_lt h0 h1) (by omega)]
 simp [unzz_zz]
theorem getI_sound {s:List UInt8} {a:Nat} {x k:Int} (h:getI s a=(x,k,0)) :
  ∃ j:Nat,k=a+j∧1≤j∧j≤10∧a+j≤s.length∧(s.drop a).take j=putB x∧-9223372036854775808≤x∧x≤9223372036854775807:=by
 unfold getI at h
 by_cases hr:(a:Int)<0∨(s.length:Int)<a
 ·rw[if_pos hr] at h;simp at h
 ·rw[if_neg hr,Int.toNat_natCast] at h
  rcases hrd:rd 0 0 (s.drop a) with ⟨x',j,e⟩
  rw[hrd] at h
  cases e with
  |succ e=>simp at h;omega
  |zero =>
   simp only[Prod.mk.injEq,and_true] at h
   obtain⟨rfl,rfl⟩:=h
   obtain⟨v,hx,hu,ht,h1,h2,h3,_⟩:=rd_sound _ 0 0 x' j (by omega) (by decide) hrd
   simp at hx hu ht h3
   refine⟨j,rfl,by omega,h2,by omega,?_,?_⟩
   ·rw[ht,putB,hx,zz_unzz]
   ·rw[hx];exact unzz_i64 hu
end Go.Proofs.YticdbambknflgaaGreat.Wire
end
section
namespace Go.Proofs.YticdbambknflgaaGreat.Wire
open Go Go.RowKit
set_option linter.unusedVariables false
attribute [local go_sem] extract_list
def getC (l:List UInt8) (at_ most:Int):Int × Int × Int :=
 if (getI l at_).2.2 ≠ 0 then (0,0,(getI l at_).2.2) else if (getI l at_).1<0 then (0,0,2) else if most<(getI l at_).1 then (0,0,4) else getI l at_
theorem getI_err {l:List UInt8} {a:Int} (h:(getI l a).2.2 ≠ 0):getI l a=(0,0,(getI l a).2.2):=by
 unfold getI at h ⊢
 split
 ·rfl
 ·rename_i hr
  rw[if_neg hr] at h
  rcases hrd:rd 0 0 (l.drop a.toNat) with ⟨x,k,e⟩
  rw[hrd] at h
  cases e with
  |zero=>exact absurd rfl h
  |succ e=>rfl
theorem getI_ok {l:List UInt8} {a:Int} (h:(getI l a).2.2=0):∃ (n:Nat) (j:Nat),a=n∧(getI l a).2.1=n+j∧1≤j∧n+j≤l.length∧(l.drop n).take j=putB (getI l a).1∧-9223372036854775808≤(getI l a).1∧(getI l a).1≤9223372036854775807:=by
 by_cases hr:a<0∨(l.length:Int)<a
 ·unfold getI at h;rw[if_pos hr] at h;simp at h
 ·obtain⟨n,rfl⟩:=Int.eq_ofNat_of_zero_le (show 0≤a by omega)
  rcases hg:getI l n with ⟨x,k,e⟩
  rw[hg] at h
  simp only at h
  subst h
  obtain⟨j,h1,h2,_,h4,h5,h6,h7⟩:=getI_sound hg
  exact⟨n,j,rfl,h1,h2,h4,h5,h6,h7⟩
def Post3 (w:World) (r:Int × Int × Int) (e:Ending) (w':World):Prop:=e=.returned (.tuple #[.int .i64 r.1,.int .i64 r.2.1,.int .i64 r.2.2])∧w=w'
theorem wCount_any (s:List UInt8) (a most:Int) (w:World) (hs:s.length≤2 ^ 62) :
  Calls Tryz.prog 121 #[.string ⟨s.toArray⟩,.int .i64 a,.int .i64 most] w (Post3 w (getC s a most)):=by
 rcases hg:getI s a with ⟨x,k,er⟩
 have hgc:getC s a most=if er ≠ 0 then (0,0,er) else if x<0 then (0,0,2) else if most<x then (0,0,4) else (x,k,er):=by unfold getC;rw[hg]
 have hi:=wInt_any s a w hs
 unfold IntPost at hi
 rw[hg] at hi
 rw[hgc]
 have HI:=Lib.hid hi
 clear hi hg hgc
 by_cases he:er=0
 ·subst he
  by_cases h1:x<0
  ·go_enter Tryz.func121,Tryz.ntmps121
   go_wp2_with fail
   refine (HI.out).mono ?_
   rintro e w' ⟨rfl,rfl⟩
   go_wp2_with fail
   go_ret3
   exact⟨by simp,rfl⟩
  ·by_cases h2:most<x
   ·go_enter Tryz.func121,Tryz.ntmps121
    go_wp2_with fail
    refine (HI.out).mono ?_
    rintro e w' ⟨rfl,rfl⟩
    go_wp2_with fail
    go_ret3
    exact⟨by simp,rfl⟩
   ·go_enter Tryz.func121,Tryz.ntmps121
    go_wp2_with fail
    refine (HI.out).mono ?_
    rintro e w' ⟨rfl,rfl⟩
    go_wp2_with fail
    go_ret3
    exact⟨by simp,rfl⟩
 ·have hq:(er != 0)=true:=by simp [he]
  go_enter Tryz.func121,Tryz.ntmps121
  go_wp2_with fail
  refine (HI.out).mono ?_
  rintro e w' ⟨rfl,rfl⟩
  go_wp2_with fail
  go_ret3
  exact⟨by simp,rfl⟩
theorem getC_ok {l:List UInt8} {a most:Int} (h:(getC l a most).2.2=0):getC l a most=getI l a∧0≤(getI l a).1∧(getI l a).1≤most∧(getI l a).2.2=0:=by
 unfold getC at h ⊢
 split
 ·rename_i h1;rw[if_pos h1] at h;exact absurd h h1
 ·rename_i h1
  rw[if_neg h1] at h
  split
  ·rename_i h2;rw[if_pos h2] at h;simp at h
  ·rename_i h2
   rw[if_neg h2] at h
   split
   ·rename_i h3;rw[if_pos h3] at h;simp at h
   ·rename_i h3
    exact⟨rfl,by omega,by omega,by simpa using h1⟩
def rdL:Nat→List UInt8→Int→List Int→List Int × Int × Int
 |0,_,a,acc=>(acc,a,0)
 |n+1,l,a,acc=>if (getI l a).2.2 ≠ 0 then ([],0,(getI l a).2.2) else rdL n l (getI l a).2.1 (acc++[(getI l a).1])
def getL (l:List UInt8) (at_ most:Int):List Int × Int × Int :=
 if (getC l at_ most).2.2 ≠ 0 then ([],0,(getC l at_ most).2.2) else rdL (getC l at_ most).1.toNat l (getC l at_ most).2.1 []
def PostL (w:World) (r:List Int × Int × Int) (e:Ending) (w':World):Prop :=
 ∃ ad c,e=.returned (.tuple #[.slice ad r.1.length c,.int .i64 r.2.1,.int .i64 r.2.2])∧Own w' w.heap.size 1 (.slice ad r.1.length c) r.1.length (r.1.map (Value.int .i64))∧Below w.heap.size w w'
theorem infoInt:(Tryz.prog.info? 3).map (fun i=>(i.zero,i.size,i.bytes))=some (some (.int .i64 0),1,8):=by kernel_rfl
def LRel (s:List UInt8) (w:World) (m q gk:Nat) (v1 v11 v27:Value) (wr:World):Prop :=
 ∃ (i:Nat) (a:Int) (acc:List Int) (ad:Option Addr) (c:Nat),gk+i=m∧v27=.int .i64 i∧v1=.int .i64 a∧v11=.slice ad acc.length c∧Own wr w.heap.size 1 (.slice ad acc.length c) acc.length (acc.map (Value.int .i64)) ∧
  Below w.heap.size w wr∧rdL m s q []=rdL gk s a acc∧(acc.length:Int)≤a∧a≤s.length
theorem wList_any (s:List UInt8) (a most:Int) (w:World) (hs:s.length≤2 ^ 40) :
  Calls Tryz.prog 86 #[.string ⟨s.toArray⟩,.int .i64 a,.int .i64 most] w (PostL w (getL s a most)):=by
 have hc:=wCount_any s a most w (by omega)
 by_cases he:(getC s a most).2.2=0
 ·obtain⟨h1,h2,h3,h4⟩:=getC_ok he
  obtain⟨n,j,rfl,hk,hj,hle,_,hx0,hx1⟩:=getI_ok h4
  obtain⟨m,hm⟩:=Int.eq_ofNat_of_zero_le h2
  rcases hg:getI s n with ⟨x,k,er⟩
  rw[hg] at h1 h2 h3 h4 hk hx0 hx1 hm
  simp only at h1 h2 h3 h4 hk hx0 hx1 hm
  subst h4
  subst hm
  obtain rfl:k=((n+j:Nat):Int):=by omega
  unfold Post3 at hc
  rw[h1] at hc
  have hgt:getL s n most=rdL m s ((n+j:Nat):Int) []:=by unfold getL;rw[h1];simp only[ne_eq,not_true_eq_false,if_false,Int.toNat_natCast]
  rw[hgt]
  generalize n+j=q at *
  have HC:=Lib.hid hc
  clear hc h1 hg hgt hk he
  go_enter Tryz.func86,Tryz.ntmps86
  go_wp2_with fail
  refine (HC.out).mono ?_
  rintro e w' ⟨rfl,rfl⟩
  go_wp2_with fail
  obtain⟨i0,hi,hz0,hz1,hz2⟩:=info_parts infoInt
  go_loopg [1,11,27] m (fun gk v1 v11 v27 wr=>LRel s w m q gk v1 v11 v27 wr)
  case atStart=>exact⟨0,q,[],none,0,rfl,rfl,rfl,rfl,Own.nil _ _ _,Below.refl _ _,rfl,by simp,by omega⟩
  case round =>
   obtain⟨i,a,acc,ad,c,hgk,rfl,rfl,rfl,hown,hb,hrd,ha0,ha1⟩:=hrel
   have hsz:=hb.size
   have Hrd:=Lib.hid hrd
   clear hrd
   by_cases hlt:i<m
   ·obtain⟨g,rfl⟩:∃ g,gk=g+1:=⟨gk-1,by omega⟩
    have hc:=wInt_any s a wr (by omega)
    unfold IntPost at hc
    by_cases he:(getI s a).2.2=0
    ·obtain⟨n1,j1,rfl,hk1,hj1,hle1,_,hx0,hx1⟩:=getI_ok he
     have hstep:rdL (g+1) s n1 acc=rdL g s (getI s n1).2.1 (acc++[(getI s n1).1]):=by rw[rdL,if_neg (by simpa using he)]
     rw[he] at hc
     rw[hstep] at Hrd
     generalize (getI s n1).1=x at *
     generalize (getI s n1).2.1=y at *
     have HC:=Lib.hid hc
     clear hc he hstep
     have Hk:=Lib.hid hk1
     clear hk1
     go_wp2_with fail
     refine (HC.out).mono ?_
     rintro e w' ⟨rfl,rfl⟩
     go_wp2_with (at_builtin;refine wpList_append_mine rfl _ _ 28 28 rfl 3 i0 _ 8 Tryz.underlying28 hi hz0 hz1 hz2 rfl rfl (hown.alloc _) (by simp;omega) _ rfl 1 [.int .i64 x] (Src.ofSlice _ Tryz.underlying28 ⟨wr.heap.size,0,none⟩ 1 1 _ rfl (cell_one_new _ _ _) (by simp [Value.oneCell'])) (by simp only[maxLen];omega) (by omega) ?_;intro ad2 c2 w2 ho2 hg2 hat2)
     go_roundg g
     case measure=>omega
     case rel =>
      have e1:=Hk.out
      refine⟨i+1,y,acc++[x],ad2,c2,by omega,by go_num,rfl,by simp,by simpa using ho2,?_,Hrd.out,by rw[List.length_append,List.length_singleton];omega,by omega⟩
      exact (hb.alloc hsz _).grown hg2 (by simp;omega) (fun k hk=>(hown.lt hk).2)
    ·have hstep:rdL (g+1) s a acc=([],0,(getI s a).2.2):=by rw[rdL,if_pos he]
     rw[hstep] at Hrd
     have hq:((getI s a).2.2 != 0)=true:=by simp [he]
     generalize getI s a=r at *
     have HC:=Lib.hid hc
     clear hc he hstep
     go_wp2_with fail
     refine (HC.out).mono ?_
     rintro e w' ⟨rfl,rfl⟩
     go_wp2_with fail
     go_ret3
     exact⟨none,0,by rw[Hrd.out];rfl,by rw[Hrd.out];exact Own.nil _ _ _,hb⟩
   ·obtain rfl:gk=0:=by omega
    go_wp2_with fail
    go_ret3
    exact⟨ad,c,by rw[Hrd.out];rfl,by rw[Hrd.out];exact hown,hb⟩
 ·have hgt:getL s a most=([],0,(getC s a most).2.2):=by unfold getL;rw[if_pos he]
  rw[hgt]
  unfold Post3 at hc
  generalize getC s a most=r at *
  have HC:=Lib.hid hc
  have hq:(r.2.2 != 0)=true:=by simp [he]
  clear hc hgt he
  go_enter Tryz.func86,Tryz.ntmps86
  go_wp2_with fail
  refine (HC.out).mono ?_
  rintro e w' ⟨rfl,rfl⟩
  go_wp2_with fail
  go_ret3
  exact⟨none,0,rfl,Own.nil _ _ _,Below.refl _ _⟩
end Go.Proofs.YticdbambknflgaaGreat.Wire
end
section
namespace Go.Proofs.YticdbambknflgaaGreat.Wire
open Go Go.RowKit
set_option linter.unusedVariables false
theorem getC_put {n most:Int} (h0:0≤n) (h1:n≤9223372036854775807) (hm:n≤most) (pre r:List UInt8) :
  getC (pre++(putB n++r)) pre.length most=(n,((pre.length+(putB n).length:Nat):Int),0):=by
 unfold getC
 rw[getI_put (by omega) h1]
 simp only[ne_eq,not_true_eq_false,if_false]
 rw[if_neg (by omega),if_neg (by omega)]
theorem rdL_put:∀ (l:List Int) (pre r:List UInt8) (acc:List Int),Int64 l→rdL l.length (pre++(l.flatMap putB++r)) pre.length acc=(acc++l,((pre.length+(l.flatMap putB).length:Nat):Int),0)
 |[],pre,r,acc,h=>by simp [rdL]
 |x :: l,pre,r,acc,h=>by
  have hx:=h x (by simp)
  rw[List.length_cons,rdL,List.flatMap_cons,List.append_assoc,getI_put hx.1 hx.2]
  simp only[ne_eq,not_true_eq_false,if_false]
  have:=rdL_put l (pre++putB x) r (acc++[x]) (fun y hy=>h y (by simp [hy]))
  rw[List.append_assoc,List.length_append] at this
  rw[this]
  simp only[List.append_assoc,List.singleton_append,List.length_append]
  congr 3
  omega
theorem getL_put {l:List Int} {most:Int} (h:Int64 l) (h1:l.length≤2 ^ 62) (hm:(l.length:Int)≤most) (pre r:List UInt8) :
  getL (pre++(putL l++r)) pre.length most=(l,((pre.length+(putL l).length:Nat):Int),0):=by
 unfold getL putL
 rw[List.append_assoc,getC_put (by omega) (by omega) hm]
 simp only[ne_eq,not_true_eq_false,if_false,Int.toNat_natCast]
 have:=rdL_put l (pre++putB (l.length:Int)) r [] h
 rw[List.append_assoc,List.length_append] at this
 rw[this]
 simp only[List.nil_append,List.length_append]
 congr 3
 omega
end Go.Proofs.YticdbambknflgaaGreat.Wire
end
section
namespace Go.Proofs.YticdbambknflgaaGreat.Sim
open Go Go.RowKit Go.Deep
set_option maxRecDepth 100000
set_option maxHeartbeats 4000000
set_option linter.unusedVariables false
set_option linter.unusedSimpArgs false
attribute [local irreducible] Go Mean
open Go.Proofs.YticdbambknflgaaGreat.Wire (putB putL putB_len wPutInt_any wPutList_any rPutInt_any rPutList_any flat_len Int64 getI getL getC wInt_any wList_any PostL IntPost)
theorem chunks_of {α:Type} [Rep α] (f:α→List D) (Q:α→Prop) {w:World} {S:Nat→Prop} (hf:∀ cs x,Q x→Cells w S (f x) cs→Rep.is w S cs x):∀ (l:List α) (xs:List Value),(∀ x ∈ l,Q x)→Rows w S (Rep.sz α) (l.map f) xs→Chunks w S xs l
 |[],xs,_,h=>by simp only[Rows,List.map_nil] at h;exact h
 |a :: l,xs,hq,h=>by
  simp only[Rows,List.map_cons] at h
  obtain⟨x,r,rfl,h1,h2,h3⟩:=h
  exact⟨x,r,rfl,hf _ _ (hq a (by simp)) h2,chunks_of f Q hf l r (fun y hy=>hq y (by simp [hy])) h3⟩
theorem sl_lst {α:Type} [Rep α] (f:α→List D) (Q:α→Prop) {w:World} {S:Nat→Prop} (hf:∀ cs x,Q x→Cells w S (f x) cs→Rep.is w S cs x) {v:Value} {l:List α} (hq:∀ x ∈ l,Q x) (h:(D.sl (Rep.sz α) (l.map f)).is w S v):Lst w S v l:=by
 simp only[D.is] at h
 obtain⟨a,cap,xs,rfl,h1,h2,h3,h4⟩:=h
 rw[List.length_map] at h1 h4 ⊢
 exact⟨xs,a,cap,rfl,h1,h2,chunks_of f Q hf l xs hq h3,h4⟩
theorem dints_lst {w:World} {S:Nat→Prop} {v:Value} {l:List Int} (hq:∀ x ∈ l,I64 x) (h:(dInts l).is w S v):Lst w S v l :=
 sl_lst (α:=Int) eI I64 (fun cs x hx hc=>by
  simp only[eI,Cells,D.is] at hc
  obtain⟨u,r,rfl,⟨rfl,-⟩,rfl⟩:=hc
  exact⟨rfl,hx⟩) hq h
theorem lst_dints {w:World} {S:Nat→Prop} {v:Value} {l:List Int} (h:Lst w S v l):(dInts l).is w S v:=lst_sl (α:=Int) (fun x=>[.at (.int .i64 x)]) int_cells h
theorem own_lst {α:Type} [Rep α] {w:World} {B:Nat} {v:Value} {l:List α} (h:OwnT w B (fun b=>B≤b) v l):Lst w (fun b=>B≤b∧b<w.heap.size) v l:=by
 obtain⟨xs,ho,hx⟩:=h
 have hx':=hx.keep (w':=w) (S':=fun b=>B≤b∧b<w.heap.size) fun b hb hl=>⟨⟨hb.2,hl⟩,rfl⟩
 rcases ho.2 with ⟨rfl,h0⟩|⟨g,off,cap,rfl,hB,hlt,hn,hc,_,hr⟩
 ·exact⟨xs,none,0,by rw[h0],by omega,Nat.zero_le _,hx',fun h=>by omega⟩
 ·exact⟨xs,_,cap,rfl,hn,hc,hx',fun _=>⟨g,off,rfl,⟨⟨hB,hlt⟩,hlt⟩,hr⟩⟩
theorem does_at {P:Program} {f:FuncId} {xs:List V} {r:Value} (hr:r.oneCell'=true) (h:∀ (w:World) (m:M) (hd:H) (S:Nat→Prop) (us:List Value),(∀ b,S b→b<w.heap.size)→VRs m hd w S xs us→Calls P f us.toArray w fun e w'=>e=.returned r∧Below w.heap.size w w'):Does P f xs [] (.d (.at r)) [] []:=by
 intro w hd S X us hgk hm hv
 refine (h w _ hd S us hm.lt hv).mono ?_
 rintro e w' ⟨rfl,hb⟩
 refine⟨_,hd,S,rfl,⟨hb.os,hb.tape,hb.output,hb.size,fun k hk _=>hb.block k hk⟩,⟨fun i o h=>by simp [ups,fresh] at h,fun i j oi oj b _ h=>by simp [ups,fresh] at h,fun b hb'=>Nat.lt_of_lt_of_le (hm.lt b hb') hb.size,hb.size,hm.sX⟩,?_,fun b h=>.inl h,Le.refl _ _⟩
 simp only[VR,D.is]
 exact⟨trivial,hr⟩
abbrev vS (l:List UInt8):V:=.d (.at (.string ⟨l.toArray⟩))
theorem str_one (l:List UInt8):(Value.string ⟨l.toArray⟩).oneCell'=true:=rfl
theorem wPutIntD (s:List UInt8) (n:Int) (hn:I64 n) (hs:s.length+10≤140737488355328):Does Tryz.prog 25 [vS s,I n] [] (vS (s++putB n)) [] []:=by
 refine does_at (str_one _) fun w m hd S us hS hv=>?_
 simp only[VRs,VR,I,D.is] at hv
 obtain⟨u,r,rfl,⟨rfl,-⟩,u2,r2,rfl,⟨rfl,-⟩,rfl⟩:=hv
 exact wPutInt_any s n w hn.1 hn.2 hs
theorem rPutIntD (s:List UInt8) (n:Int) (hn:I64 n) (hs:s.length+10≤140737488355328):Does Tryz.prog 36 [vS s,I n] [] (vS (s++putB n)) [] []:=by
 refine does_at (str_one _) fun w m hd S us hS hv=>?_
 simp only[VRs,VR,I,D.is] at hv
 obtain⟨u,r,rfl,⟨rfl,-⟩,u2,r2,rfl,⟨rfl,-⟩,rfl⟩:=hv
 exact rPutInt_any s n w hn.1 hn.2 (by omega)
theorem wPutListD (s:List UInt8) (l:List Int) (hl:∀ x ∈ l,I64 x) (hs:s.length+10*l.length+20≤140737488355328):Does Tryz.prog 26 [vS s,.d (dInts l)] [] (vS (s++putL l)) [] []:=by
 refine does_at (str_one _) fun w m hd S us hS hv=>?_
 simp only[VRs,VR] at hv
 obtain⟨u,r,rfl,h1,u2,r2,rfl,h2,rfl⟩:=hv
 simp only[D.is] at h1
 obtain⟨rfl,-⟩:=h1
 have hq:=(dints_lst hl h2).more (S':=Lo w.heap.size) (fun b hb=>hS b hb)
 obtain⟨a,c,rfl,-⟩:=hq.form
 exact wPutList_any s l a c w.heap.size w hl hq.rd (Nat.le_refl _) hs
theorem rPutListD (s:List UInt8) (l:List Int) (hl:∀ x ∈ l,I64 x) (hs:s.length+10*l.length+20≤140737488355328):Does Tryz.prog 39 [vS s,.d (dInts l)] [] (vS (s++putL l)) [] []:=by
 refine does_at (str_one _) fun w m hd S us hS hv=>?_
 simp only[VRs,VR] at hv
 obtain⟨u,r,rfl,h1,u2,r2,rfl,h2,rfl⟩:=hv
 simp only[D.is] at h1
 obtain⟨rfl,-⟩:=h1
 have hq:=(dints_lst hl h2).more (S':=Lo w.heap.size) (fun b hb=>hS b hb)
 obtain⟨a,c,rfl,-⟩:=hq.form
 exact rPutList_any s l a c w.heap.size w hl hq.rd (Nat.le_refl _) hs
theorem flatMap_le {α:Type} {f:α→List UInt8} {m:Nat}:∀ {l:List α},(∀ x ∈ l,(f x).length≤m)→(l.flatMap f).length≤l.length*m
 |[],_=>by simp
 |x :: l,h=>by
  have h1:=h x (by simp)
  have h2:=flatMap_le (f:=f) (m:=m) (l:=l) fun y hy=>h y (by simp [hy])
  rw[List.flatMap_cons,List.length_append,List.length_cons,Nat.add_mul,Nat.one_mul];omega
theorem take_flatMap {α:Type} (f:α→List UInt8) (z:α) {l:List α} {k:Nat} (h:k<l.length):(l.take (k+1)).flatMap f=(l.take k).flatMap f++f (l.getD k z):=by
 rw[take_succ_getD z l k h,List.flatMap_append,List.flatMap_cons,List.flatMap_nil,List.append_nil]
theorem wIntD (s:List UInt8) (a:Int) (hs:s.length≤1000000000000):Does Tryz.prog 83 [vS s,I a] [] (.tu [I (getI s a).1,I (getI s a).2.1,I (getI s a).2.2]) [] []:=by
 intro w hd S X us hgk hm hv
 simp only[VRs,VR,I,D.is] at hv
 obtain⟨u,r,rfl,⟨rfl,-⟩,u2,r2,rfl,⟨rfl,-⟩,rfl⟩:=hv
 refine (wInt_any s a w (by omega)).mono ?_
 unfold IntPost
 rintro e w' ⟨rfl,rfl⟩
 refine⟨_,hd,S,rfl,⟨rfl,rfl,rfl,Nat.le_refl _,fun k hk _=>rfl⟩,⟨fun i o h=>by simp [ups,fresh] at h,fun i j oi oj b _ h=>by simp [ups,fresh] at h,hm.lt,Nat.le_refl _,hm.sX⟩,?_,fun b h=>.inl h,Le.refl _ _⟩
 exact⟨[_,_,_],rfl,by simp [I,VRs,VR,D.is,Value.oneCell']⟩
theorem wListD (s:List UInt8) (a most:Int) (hs:s.length≤1000000000000) (hin:∀ x ∈ (getL s a most).1,I64 x):Does Tryz.prog 86 [vS s,I a,I most] [] (.tu [.d (dInts (getL s a most).1),I (getL s a most).2.1,I (getL s a most).2.2]) [] []:=by
 intro w hd S X us hgk hm hv
 simp only[VRs,VR,I,D.is] at hv
 obtain⟨u,r,rfl,⟨rfl,-⟩,u2,r2,rfl,⟨rfl,-⟩,u3,r3,rfl,⟨rfl,-⟩,rfl⟩:=hv
 refine (wList_any s a most w (by omega)).mono ?_
 unfold PostL
 rintro e w' ⟨ad,c,rfl,ho,hb⟩
 generalize (getL s a most).1=l at *
 have hlv:=(own_lst (ho.ownT (T:=fun b=>w.heap.size≤b) hin)).more (S':=fun b=>S b∨(w.heap.size≤b∧b<w'.heap.size)) fun b h=>.inr h
 have hd1:=lst_dints hlv
 refine⟨_,hd,fun b=>S b∨(w.heap.size≤b∧b<w'.heap.size),rfl,⟨hb.os,hb.tape,hb.output,hb.size,fun k hk _=>hb.block k hk⟩,⟨fun i o h=>by simp [ups,fresh] at h,fun i j oi oj b _ h=>by simp [ups,fresh] at h,fun b hb'=>hb'.elim (fun h=>Nat.lt_of_lt_of_le (hm.lt b h) hb.size) (fun h=>h.2),hb.size,hm.sX⟩,?_,fun b h=>h.elim .inl fun h=>.inr (.inl h.1),Le.refl _ _⟩
 refine⟨[_,_,_],rfl,?_⟩
 simp only[I,VRs,VR]
 exact⟨_,_,rfl,hd1,_,_,rfl,by simp [D.is,Value.oneCell'],_,_,rfl,by simp [D.is,Value.oneCell'],rfl⟩
end Go.Proofs.YticdbambknflgaaGreat.Sim
end
section
namespace Go.Proofs.YticdbambknflgaaGreat.Sc
open Go.Proofs.YticdbambknflgaaGreat.Sim
open Go Go.RowKit
set_option maxRecDepth 100000
set_option maxHeartbeats 8000000
set_option linter.unusedVariables false
set_option linter.unusedSimpArgs false
attribute [local irreducible] Go Mean
open Go.Proofs.YticdbambknflgaaGreat.Wire (putB putL putB_len)
structure PSe where
 idx:Int
 row:List Int
structure PSt where
 kind:Int
 num:Int
 rows:List Int
 fr:Int
 tt:Int
 cnt:Int
 sets:List PSe
def eSe (s:PSe):List D:=[.at (.int .i64 s.idx),dInts s.row]
abbrev dSets (l:List PSe):D:=.sl 2 (l.map eSe)
def eSt (x:PSt):List D:=[.at (.int .i64 x.kind),.at (.int .i64 x.num),dInts x.rows,.at (.int .i64 x.fr),.at (.int .i64 x.tt),.at (.int .i64 x.cnt),dSets x.sets]
abbrev vSt (x:PSt):V:=.ag [I x.kind,I x.num,.d (dInts x.rows),I x.fr,I x.tt,I x.cnt,.d (dSets x.sets)]
abbrev dSts (l:List PSt):D:=.sl 7 (l.map eSt)
def noSe:PSe:=⟨0,[]⟩
def noSt:PSt:=⟨0,0,[],0,0,0,[]⟩
def okSe (s:PSe):Prop:=I64 s.idx∧s.row.length≤17592186044416∧∀ n ∈ s.row,I64 n
structure okSt (x:PSt):Prop where
 kind:I64 x.kind
 num:I64 x.num
 fr:I64 x.fr
 tt:I64 x.tt
 cnt:I64 x.cnt
 len:x.rows.length≤2000
 row:∀ n ∈ x.rows,I64 n
 slen:x.sets.length≤2000
 set:∀ s ∈ x.sets,okSe s
def wideN:List PSe→Nat
 |[]=>0
 |s :: r=>if 64<s.row.length then 0 else 1+wideN r
def chk (x:PSt):Bool:=decide (x.rows.length≤16)&&(decide (x.sets.length≤1024)&&!decide (wideN x.sets<x.sets.length))
theorem check1 (s:PSe):Does Tryz.prog 41 [.ag [I s.idx,.d (dInts s.row)]] [] (B (decide ((s.row.length:Int) > 64))) [] []:=by
 refine wD Tryz.func41 fun cx hm0=>?_
 repeat' (first|refine gS ?_|refine sp ?_ ?_ <;> intro h|(with_reducible apply And.intro)|exact aG|fail)
 all_goals exact rt []
theorem indexW (l:List PSe) (hl:l.length≤2000):Does Tryz.prog 54 [.d (dSets l),.cl 41 []] [] (I (if wideN l<l.length then (wideN l:Int) else -1)) [] []:=by
 refine wD Tryz.func54 fun cx hm0=>?_
 repeat' (first|refine gS ?_|refine sp ?_ ?_ <;> intro h|(with_reducible apply And.intro)|exact aG|fail)
 refine go_loop 5000 hm0 (ι:={k:Nat // k≤l.length∧wideN l=k+wideN (l.drop k)}) (fun i=>[(0,.d (dSets l)),(1,.cl 41 []),(7,I l.length),(8,I i.1)]) (fun i=>[]) (fun i=>l.length-i.1) [] ⟨0,Nat.zero_le _,by rw[List.drop_zero,Nat.zero_add]⟩ ?_ ?_
 ·exact aH
 rintro⟨k,hk,hv⟩
 by_cases hkl:k<l.length
 ·have hs:=getD_map eSe [] noSe l k hkl
  rw[drop_get noSe _ _ hkl] at hv
  generalize l.getD k noSe=y at *
  simp only[wideN] at hv
  have e1:=check1 y
  by_cases hy:64<y.row.length
  ·rw[if_pos hy,Nat.add_zero] at hv
   rw[decide_eq_true (by omega)] at e1
   have hr:(if wideN l<l.length then (wideN l:Int) else -1)=(k:Int):=by rw[hv,if_pos hkl]
   rw[hr]
   repeat' (first|refine gC hs hkl eSe.eq_1 ?_|refine sp ?_ ?_ <;> intro h|(apply go_callv 5000 (e1) rfl (by kernel_rfl) rfl;iterate 4 (first|(exact CallForm.plain rfl)|exact aC))|(with_reducible apply And.intro)|exact aG|fail)
   all_goals exact rt []
  ·rw[if_neg hy] at hv
   rw[decide_eq_false (by omega)] at e1
   repeat' (first|refine gC hs hkl eSe.eq_1 ?_|refine sp ?_ ?_ <;> intro h|(apply go_callv 5000 (e1) rfl (by kernel_rfl) rfl;iterate 4 (first|(exact CallForm.plain rfl)|exact aC))|(with_reducible apply And.intro)|exact aG|fail)
   refine⟨⟨k+1,hkl,by omega⟩,?_,by simp only;omega⟩
   exact aH
 ·obtain rfl:k=l.length:=by omega
  rw[List.drop_length] at hv
  simp only[wideN,Nat.add_zero] at hv
  have hr:(if wideN l<l.length then (wideN l:Int) else -1)=-1:=by rw[if_neg (by omega)]
  rw[hr]
  repeat' (first|refine gS ?_|refine sp ?_ ?_ <;> intro h|(with_reducible apply And.intro)|exact aG|fail)
  all_goals exact rt []
theorem containsW (l:List PSe) (hl:l.length≤2000):Does Tryz.prog 40 [.d (dSets l),.cl 41 []] [] (B (decide (wideN l<l.length))) [] []:=by
 refine wD Tryz.func40 fun cx hm0=>?_
 have e1:=indexW l hl
 by_cases h:wideN l<l.length
 ·rw[if_pos h] at e1
  have q:decide ((wideN l:Int) ≥ 0)=true:=decide_eq_true (by omega)
  rw[decide_eq_true h]
  repeat' (first|refine gA q ?_|refine sp ?_ ?_ <;> intro h|refine gP e1 ?_|(with_reducible apply And.intro)|exact aG|fail)
  all_goals exact rt []
 ·rw[if_neg h] at e1
  rw[decide_eq_false h]
  repeat' (first|refine gS ?_|refine sp ?_ ?_ <;> intro h|refine gP e1 ?_|(with_reducible apply And.intro)|exact aG|fail)
  all_goals exact rt []
theorem checkD (x:PSt) (h:okSt x):Does Tryz.prog 21 [vSt x] [] (I (if chk x=true then 0 else 4)) [] []:=by
 refine wD Tryz.func21 fun cx hm0=>?_
 have e1:=containsW x.sets h.slen
 by_cases h1:x.rows.length≤16
 ·have q1:decide ((x.rows.length:Int) > 16)=false:=decide_eq_false (by omega)
  by_cases h2:x.sets.length≤1024
  ·have q2:decide ((x.sets.length:Int) > 1024)=false:=decide_eq_false (by omega)
   cases h3:decide (wideN x.sets<x.sets.length) with
   |true =>
    rw[h3] at e1
    have hc:chk x=false:=by rw[chk,h3];simp
    repeat' (first|refine gB q1 q2 ?_|refine sp ?_ ?_ <;> intro h|refine gP e1 ?_|(with_reducible apply And.intro)|exact aG|fail)
    all_goals exact rtF [] hc
   |false =>
    rw[h3] at e1
    have hc:chk x=true:=by rw[chk,h3,decide_eq_true h1,decide_eq_true h2];rfl
    repeat' (first|refine gB q1 q2 ?_|refine sp ?_ ?_ <;> intro h|refine gP e1 ?_|(with_reducible apply And.intro)|exact aG|fail)
    all_goals exact rtF [] hc
  ·have q2:decide ((x.sets.length:Int) > 1024)=true:=decide_eq_true (by omega)
   have hc:chk x=false:=by rw[chk,decide_eq_false h2];simp
   repeat' (first|refine gB q1 q2 ?_|refine sp ?_ ?_ <;> intro h|(with_reducible apply And.intro)|exact aG|fail)
   all_goals exact rtF [] hc
 ·have q1:decide ((x.rows.length:Int) > 16)=true:=decide_eq_true (by omega)
  have hc:chk x=false:=by rw[chk,decide_eq_false h1];rfl
  repeat' (first|refine gA q1 ?_|refine sp ?_ ?_ <;> intro h|(with_reducible apply And.intro)|exact aG|fail)
  all_goals exact rtF [] hc
theorem rCheckD (x:PSt) (h:okSt x):Does Tryz.prog 22 [vSt x] [] (I (if chk x=true then 0 else 4)) [] []:=by
 refine wD Tryz.func22 fun cx hm0=>?_
 have hsl:=h.slen
 by_cases h1:x.rows.length≤16
 case neg =>
  have q1:decide ((x.rows.length:Int) > 16)=true:=decide_eq_true (by omega)
  have hc:chk x=false:=by rw[chk,decide_eq_false h1];rfl
  repeat' (first|refine gA q1 ?_|refine sp ?_ ?_ <;> intro h|(with_reducible apply And.intro)|exact aG|fail)
  all_goals exact rtF [] hc
 have q1:decide ((x.rows.length:Int) > 16)=false:=decide_eq_false (by omega)
 by_cases h2:x.sets.length≤1024
 case neg =>
  have q2:decide ((x.sets.length:Int) > 1024)=true:=decide_eq_true (by omega)
  have hc:chk x=false:=by rw[chk,decide_eq_false h2];simp
  repeat' (first|refine gB q1 q2 ?_|refine sp ?_ ?_ <;> intro h|(with_reducible apply And.intro)|exact aG|fail)
  all_goals exact rtF [] hc
 have q2:decide ((x.sets.length:Int) > 1024)=false:=decide_eq_false (by omega)
 repeat' (first|refine gB q1 q2 ?_|refine sp ?_ ?_ <;> intro h|(with_reducible apply And.intro)|exact aG|fail)
 refine go_loop 5000 hm0 (ι:={k:Nat // k≤x.sets.length∧wideN x.sets=k+wideN (x.sets.drop k)}) (fun i=>[(1,.bp 1 0 0),(3,I i.1)]) (fun i=>[(1,.box 0 [I x.kind,I x.num,.d (dInts x.rows),I x.fr,I x.tt,I x.cnt,.d (dSets x.sets)])]) (fun i=>x.sets.length-i.1) [] ⟨0,Nat.zero_le _,by rw[List.drop_zero,Nat.zero_add]⟩ ?_ ?_
 ·exact aH
 rintro⟨k,hk,hv⟩
 by_cases hkl:k<x.sets.length
 ·have hs:=getD_map eSe [] noSe x.sets k hkl
  rw[drop_get noSe _ _ hkl] at hv
  generalize x.sets.getD k noSe=y at *
  simp only[wideN] at hv
  by_cases hy:64<y.row.length
  ·rw[if_pos hy,Nat.add_zero] at hv
   have q3:decide ((y.row.length:Int) > 64)=true:=decide_eq_true (by omega)
   have hc:chk x=false:=by rw[chk,decide_eq_true (show wideN x.sets<x.sets.length by omega)];simp
   repeat' (first|refine gQ hs hkl q3 eSe.eq_1 ?_|refine sp ?_ ?_ <;> intro h|(with_reducible apply And.intro)|exact aG|fail)
   all_goals exact rtF [] hc
  ·rw[if_neg hy] at hv
   have q3:decide ((y.row.length:Int) > 64)=false:=decide_eq_false (by omega)
   repeat' (first|refine gQ hs hkl q3 eSe.eq_1 ?_|refine sp ?_ ?_ <;> intro h|(with_reducible apply And.intro)|exact aG|fail)
   refine⟨⟨k+1,hkl,by omega⟩,?_,by simp only;omega⟩
   exact aH
 ·obtain rfl:k=x.sets.length:=by omega
  rw[List.drop_length] at hv
  simp only[wideN,Nat.add_zero] at hv
  have hc:chk x=true:=by rw[chk,decide_eq_false (show ¬wideN x.sets<x.sets.length by omega),decide_eq_true h1,decide_eq_true h2];rfl
  repeat' (first|refine gS ?_|refine sp ?_ ?_ <;> intro h|(with_reducible apply And.intro)|exact aG|fail)
  all_goals exact rtF [] hc
def encSe (s:PSe):List UInt8:=putB s.idx++putL s.row
def encSt (x:PSt):List UInt8:=putB x.kind++(putB x.num++(putL x.rows++(putB x.fr++(putB x.tt++(putB x.cnt++(putB x.sets.length++x.sets.flatMap encSe))))))
theorem putL_len2 {l:List Int} (hl:∀ x ∈ l,I64 x) (h:l.length≤2000):(putL l).length≤20010:=by
 have h1:=Go.Proofs.YticdbambknflgaaGreat.Wire.flat_len (l:=l) hl
 have h2:=(putB_len (n:=(l.length:Int)) (by omega) (by omega)).1
 rw[putL,List.length_append];omega
theorem wideN_no:∀ {l:List PSe},¬wideN l<l.length→∀ s ∈ l,s.row.length≤64
 |[],_,s,hs=>by cases hs
 |y :: r,h,s,hs=>by
  simp only[wideN,List.length_cons] at h
  by_cases hy:64<y.row.length
  ·rw[if_pos hy] at h;omega
  ·rw[if_neg hy] at h
   rcases List.mem_cons.1 hs with rfl|hs
   ·omega
   ·exact wideN_no (by omega) s hs
theorem chk_iff {x:PSt} (h:chk x=true):x.rows.length≤16∧x.sets.length≤1024∧∀ s ∈ x.sets,s.row.length≤64:=by
 simp only[chk,Bool.and_eq_true,decide_eq_true_eq,Bool.not_eq_true',decide_eq_false_iff_not] at h
 exact⟨h.1,h.2.1,wideN_no h.2.2⟩
theorem encSe_len {s:PSe} (h:okSe s) (hr:s.row.length≤2000):(encSe s).length≤20020:=by
 have h1:=putL_len2 h.2.2 hr
 have h2:=(putB_len (n:=s.idx) h.1.1 h.1.2).1
 rw[encSe,List.length_append];omega
theorem encSt_len {x:PSt} (h:okSt x) (hc:chk x=true):(encSt x).length≤41000000:=by
 have h1:=flatMap_le (f:=encSe) (l:=x.sets) (m:=20020) fun s hs=>encSe_len (h.set s hs) (by have:=(chk_iff hc).2.2 s hs;omega)
 have h2:x.sets.length*20020≤2000*20020:=Nat.mul_le_mul_right _ h.slen
 have h3:=putL_len2 h.row h.len
 have a1:=(putB_len h.kind.1 h.kind.2).1
 have a2:=(putB_len h.num.1 h.num.2).1
 have a3:=(putB_len h.fr.1 h.fr.2).1
 have a4:=(putB_len h.tt.1 h.tt.2).1
 have a5:=(putB_len h.cnt.1 h.cnt.2).1
 have hsl:=h.slen
 have a6:=(putB_len (n:=(x.sets.length:Int)) (by omega) (by omega)).1
 simp only[encSt,List.length_append];omega
end Go.Proofs.YticdbambknflgaaGreat.Sc
end
