/- Numbers, lists of any bytes: the reference; readers in any state. -/
import Derived.Test.YticdbambknflgaaGreatMScA
import Derived.Test.YticdbambknflgaaGreatRows
import Derived.WalkKit
import Derived.WalkSpells
import Derived.WalkLawsBesides
import Derived.Outline
import Derived.Deep.DeepFit
import Derived.OwnWalk
import Derived.Below
import Derived.Lib.Hide
import Derived.Laws.BytesArg
import Derived.Deep.LoopGhost
import Derived.Test.YticdbambknflgaaGreatMSimZf
section
namespace Go.Proofs.YticdbambknflgaaGreat.Wire
open Go Go.RowKit
set_option linter.unusedVariables false
theorem pow9 {j:Nat} (h:j=9):(9223372036854775808:Int)=2 ^ (7*j):=by subst h;decide
theorem close_endR {s:List UInt8} {a j acc:Nat} {w:World} (B P J:Int) (h1:a≤s.length) (hlt:a+j<s.length) (hj:j≤9) (hacc:acc<128 ^ j) (hr:rd 0 0 (s.drop a)=rd j acc (s.drop (a+j)))
  (hf:¬ (j=9∧1<s[a+j].toNat∨0<j∧s[a+j].toNat=0)) (hb:s[a+j].toNat<128) (hB:B=(s[a+j].toNat:Int)) (hP:P=2 ^ (7*j)) (hJ:J=j)
  (ht:(bits .and .u64 (bits .or .u64 (acc:Int) (IntKind.u64.wrap (IntKind.u64.wrap (bits .and .u8 B 127)*P))) 1 == 1)=false) :
  IntPost s a w (.returned (.tuple #[.int .i64 (wrap64 (bits .or .u64 (acc:Int) (IntKind.u64.wrap (IntKind.u64.wrap (bits .and .u8 B 127)*P)) / 2)),.int .i64 ((a:Int)+J+1),.int .i64 0])) w:=by
 subst hB hP hJ
 have hlt':=s[a+j].toNat_lt
 have hu:=acc_u64 (b:=s[a+j].toNat) hj (by omega) hacc
 unfold IntPost
 rw[or_walk hj hlt' (by omega) hacc] at ht ⊢
 rw[unzz_even hu ht,getI_of h1 (by rw[hr,drop_at hlt,rd_end hf hb])]
 exact⟨rfl,rfl⟩
theorem close_endR' {s:List UInt8} {a j acc:Nat} {w:World} (B P J:Int) (h1:a≤s.length) (hlt:a+j<s.length) (hj:j≤9) (hacc:acc<128 ^ j) (hr:rd 0 0 (s.drop a)=rd j acc (s.drop (a+j)))
  (hf:¬ (j=9∧1<s[a+j].toNat∨0<j∧s[a+j].toNat=0)) (hb:s[a+j].toNat<128) (hB:B=(s[a+j].toNat:Int)) (hP:P=2 ^ (7*j)) (hJ:J=j)
  (ht:(bits .and .u64 (bits .or .u64 (acc:Int) (IntKind.u64.wrap (IntKind.u64.wrap (bits .and .u8 B 127)*P))) 1 == 1)=true) :
  IntPost s a w (.returned (.tuple #[.int .i64 (wrap64 (wrap64 (-wrap64 (bits .or .u64 (acc:Int) (IntKind.u64.wrap (IntKind.u64.wrap (bits .and .u8 B 127)*P)) / 2))-1)),.int .i64 ((a:Int)+J+1),.int .i64 0])) w:=by
 subst hB hP hJ
 have hlt':=s[a+j].toNat_lt
 have hu:=acc_u64 (b:=s[a+j].toNat) hj (by omega) hacc
 unfold IntPost
 rw[or_walk hj hlt' (by omega) hacc] at ht ⊢
 rw[unzz_odd hu ht,getI_of h1 (by rw[hr,drop_at hlt,rd_end hf hb])]
 exact⟨rfl,rfl⟩
set_option maxRecDepth 100000 in
theorem rInt_in (s:List UInt8) (a:Nat) (w:World) (h1:a≤s.length) (hs:s.length≤2 ^ 62) :
  Calls Tryz.prog 37 #[.string ⟨s.toArray⟩,.int .i64 a] w (IntPost s a w):=by
 have hA:decide ((a:Int)<0)=false:=by simp
 have hB:decide (s.length<a)=false:=by simp;omega
 go_enter Tryz.func37,Tryz.ntmps37
 go_wp2
 go_loopg [7,8,9,10] 10 (fun gk u k b n wr=>IntRel s a w gk u k wr)
 case atStart=>exact⟨0,0,rfl,rfl,rfl,rfl,by omega,by omega,by decide,rfl⟩
 case round =>
  obtain⟨acc,j,rfl,hg,rfl,rfl,hj,ha,hacc,hrd⟩:=hrel
  have Hrd:=Lib.hid hrd
  clear hrd
  by_cases hlt:a+j<s.length
  ·by_cases hj9:9≤j
   ·go_wp2
    ·go_ret3
     have h:1<(s[a+j].toNat:Int):=by assumption
     exact close_form h1 hlt Hrd.out (by omega)
    ·go_ret3
     have h:s[a+j].toNat=0:=by assumption
     exact close_form h1 hlt Hrd.out (by omega)
    ·go_ret3
     have h0:¬ s[a+j].toNat=0:=by assumption
     have h2:(s[a+j].toNat:Int)≤1:=by assumption
     have h3:(s[a+j].toNat:Int)≤127:=by assumption
     exact close_endR' _ 9223372036854775808 9 h1 hlt hj hacc Hrd.out (by omega) (by omega) rfl (pow9 (by omega)) (by omega) (by assumption)
    ·go_ret3
     have h0:¬ s[a+j].toNat=0:=by assumption
     have h2:(s[a+j].toNat:Int)≤1:=by assumption
     have h3:(s[a+j].toNat:Int)≤127:=by assumption
     exact close_endR _ 9223372036854775808 9 h1 hlt hj hacc Hrd.out (by omega) (by omega) rfl (pow9 (by omega)) (by omega) (by assumption)
   ·by_cases hjp:j<1
    ·go_wp2
     ·have h3:127<(s[a+j].toNat:Int):=by assumption
      go_roundg (gk-1)
      case measure=>omega
      case rel=>exact close_on (by omega) hlt hj hacc Hrd.out (by omega) (by omega) (by omega)
     ·go_ret3
      have h0:s[a+j].toNat=0:=by assumption
      exact close_endR' 0 _ _ h1 hlt hj hacc Hrd.out (by omega) (by omega) (by omega) rfl rfl (by assumption)
     ·go_ret3
      have h0:s[a+j].toNat=0:=by assumption
      exact close_endR 0 _ _ h1 hlt hj hacc Hrd.out (by omega) (by omega) (by omega) rfl rfl (by assumption)
     ·go_ret3
      have h0:¬ s[a+j].toNat=0:=by assumption
      have h3:(s[a+j].toNat:Int)≤127:=by assumption
      exact close_endR' _ _ _ h1 hlt hj hacc Hrd.out (by omega) (by omega) rfl rfl rfl (by assumption)
     ·go_ret3
      have h0:¬ s[a+j].toNat=0:=by assumption
      have h3:(s[a+j].toNat:Int)≤127:=by assumption
      exact close_endR _ _ _ h1 hlt hj hacc Hrd.out (by omega) (by omega) rfl rfl rfl (by assumption)
    ·have hjp:0<j:=by omega
     go_wp2
     ·have h3:127<(s[a+j].toNat:Int):=by assumption
      go_roundg (gk-1)
      case measure=>omega
      case rel=>exact close_on (by omega) hlt hj hacc Hrd.out (by omega) (by omega) (by omega)
     ·go_ret3
      have h0:s[a+j].toNat=0:=by assumption
      exact close_form h1 hlt Hrd.out (by omega)
     ·go_ret3
      have h0:¬ s[a+j].toNat=0:=by assumption
      have h3:(s[a+j].toNat:Int)≤127:=by assumption
      exact close_endR' _ _ _ h1 hlt hj hacc Hrd.out (by omega) (by omega) rfl rfl rfl (by assumption)
     ·go_ret3
      have h0:¬ s[a+j].toNat=0:=by assumption
      have h3:(s[a+j].toNat:Int)≤127:=by assumption
      exact close_endR _ _ _ h1 hlt hj hacc Hrd.out (by omega) (by omega) rfl rfl rfl (by assumption)
  ·go_wp2
   go_ret3
   refine⟨?_,rfl⟩
   rw[getI_bad h1 (x:=0) (k:=0) (e:=2) (by rw[Hrd.out,List.drop_eq_nil_of_le (by omega),rd])]
   rfl
theorem rInt_out (s:List UInt8) (a:Int) (w:World) (h1:a<0∨(s.length:Int)<a) (hs:s.length≤2 ^ 62) :
  Calls Tryz.prog 37 #[.string ⟨s.toArray⟩,.int .i64 a] w (IntPost s a w):=by
 have hg:getI s a=(0,0,1):=by unfold getI;rw[if_pos h1]
 rcases Int.lt_or_le a 0 with h|h
 ·go_enter Tryz.func37,Tryz.ntmps37
  go_wp2
  go_ret3
  exact⟨by rw[hg];rfl,rfl⟩
 ·have h2:(s.length:Int)<a:=by omega
  go_enter Tryz.func37,Tryz.ntmps37
  go_wp2
  go_ret3
  exact⟨by rw[hg];rfl,rfl⟩
theorem rInt_any (s:List UInt8) (a:Int) (w:World) (hs:s.length≤2 ^ 62) :
  Calls Tryz.prog 37 #[.string ⟨s.toArray⟩,.int .i64 a] w (IntPost s a w):=by
 by_cases h:a<0∨(s.length:Int)<a
 ·exact rInt_out s a w h hs
 ·obtain⟨n,rfl⟩:=Int.eq_ofNat_of_zero_le (show 0≤a by omega)
  exact rInt_in s n w (by omega) hs
end Go.Proofs.YticdbambknflgaaGreat.Wire
end
section
namespace Go.Proofs.YticdbambknflgaaGreat.Sc
open Go.Proofs.YticdbambknflgaaGreat.Sim
open Go Go.RowKit
set_option maxRecDepth 100000
set_option maxHeartbeats 8000000
set_option linter.unusedVariables false
set_option linter.unusedSimpArgs false
attribute [local irreducible] Go Mean
open Go.Proofs.YticdbambknflgaaGreat.Wire (putB putL putB_len getI getL getC rdL getI_put getL_put getI_ok getI_err rInt_any IntPost)
theorem rIntD (s:List UInt8) (a:Int) (hs:s.length≤1000000000000):Does Tryz.prog 37 [vS s,I a] [] (.tu [I (getI s a).1,I (getI s a).2.1,I (getI s a).2.2]) [] []:=by
 intro w hd S X us hgk hm hv
 simp only[VRs,VR,I,D.is] at hv
 obtain⟨u,r,rfl,⟨rfl,-⟩,u2,r2,rfl,⟨rfl,-⟩,rfl⟩:=hv
 refine (rInt_any s a w (by omega)).mono ?_
 unfold IntPost
 rintro e w' ⟨rfl,rfl⟩
 refine⟨_,hd,S,rfl,⟨rfl,rfl,rfl,Nat.le_refl _,fun k hk _=>rfl⟩,⟨fun i o h=>by simp [ups,fresh] at h,fun i j oi oj b _ h=>by simp [ups,fresh] at h,hm.lt,Nat.le_refl _,hm.sX⟩,?_,fun b h=>.inl h,Le.refl _ _⟩
 exact⟨[_,_,_],rfl,by simp [I,VRs,VR,D.is,Value.oneCell']⟩
theorem getI64 (l:List UInt8) (a:Int):I64 (getI l a).1:=by
 by_cases h:(getI l a).2.2=0
 ·obtain⟨n,j,_,_,_,_,_,h1,h2⟩:=getI_ok h
  exact⟨h1,h2⟩
 ·rw[getI_err h];exact⟨by simp,by simp⟩
theorem rdL64 (l:List UInt8):∀ (n:Nat) (a:Int) (acc:List Int),(∀ x ∈ acc,I64 x)→∀ x ∈ (rdL n l a acc).1,I64 x
 |0,a,acc,h=>by simpa [rdL] using h
 |n+1,a,acc,h=>by
  rw[rdL]
  split
  ·simp
  ·refine rdL64 l n _ _ fun x hx=>?_
   rcases List.mem_append.1 hx with hx|hx
   ·exact h x hx
   ·simp only[List.mem_singleton] at hx;subst hx;exact getI64 l a
theorem getL64 (l:List UInt8) (a most:Int):∀ x ∈ (getL l a most).1,I64 x:=by
 unfold getL
 split
 ·simp
 ·exact rdL64 l _ _ _ (by simp)
theorem rdL_len (l:List UInt8):∀ (n:Nat) (a:Int) (acc:List Int),(rdL n l a acc).1.length≤acc.length+n
 |0,a,acc=>by simp [rdL]
 |n+1,a,acc=>by
  rw[rdL]
  split
  ·simp
  ·have:=rdL_len l n (getI l a).2.1 (acc++[(getI l a).1])
   simp only[List.length_append,List.length_singleton] at this
   omega
theorem getL_len (l:List UInt8) (a:Int) (most:Nat):(getL l a most).1.length≤most:=by
 unfold getL
 split
 ·simp
 ·rename_i h
  have:=rdL_len l (getC l a most).1.toNat (getC l a most).2.1 []
  simp only[List.length_nil] at this
  have hc:(getC l a most).1.toNat≤most:=by
   unfold getC
   by_cases c1:(getI l a).2.2 ≠ 0
   ·rw[if_pos c1];simp
   rw[if_neg c1]
   by_cases c2:(getI l a).1<0
   ·rw[if_pos c2];simp
   rw[if_neg c2]
   by_cases c3:(most:Int)<(getI l a).1
   ·rw[if_pos c3];simp
   rw[if_neg c3]
   omega
  omega
theorem wListD' (s:List UInt8) (a most:Int) (hs:s.length≤1000000000000):Does Tryz.prog 86 [vS s,I a,I most] [] (.tu [.d (dInts (getL s a most).1),I (getL s a most).2.1,I (getL s a most).2.2]) [] []:=wListD s a most hs (getL64 s a most)
theorem rListD (s:List UInt8) (a most:Int) (hs:s.length≤1000000000000) (hm:most≤1000000):Does Tryz.prog 38 [vS s,I a,I most] [] (.tu [.d (dInts (getL s a most).1),I (getL s a most).2.1,I (getL s a most).2.2]) [] []:=by
 have e0:=rIntD s a hs
 have hg:getL s a most=if (getI s a).2.2 ≠ 0 then ([],0,(getI s a).2.2) else if (getI s a).1<0 then ([],0,2) else if most<(getI s a).1 then ([],0,4) else rdL (getI s a).1.toNat s (getI s a).2.1 []:=by
  unfold getL getC
  split
  ·simp_all
  ·split
   ·simp
   ·split
    ·simp
    ·simp_all
 rw[hg]
 generalize getI s a=q at *
 obtain⟨x,b0,e⟩:=q
 simp only at e0 hg ⊢
 refine wD Tryz.func38 fun cx hm0=>?_
 by_cases he:e=0
 case neg =>
  have q:(e != 0)=true:=by simpa using he
  rw[if_pos he]
  repeat' (first|refine gA q ?_|refine sp ?_ ?_ <;> intro h|refine gP e0 ?_|(with_reducible apply And.intro)|exact aG|fail)
  all_goals exact rt []
 subst he
 rw[if_neg (by simp)]
 by_cases hx:x<0
 ·rw[if_pos hx]
  repeat' (first|refine gS ?_|refine sp ?_ ?_ <;> intro h|refine gP e0 ?_|(with_reducible apply And.intro)|exact aG|fail)
  all_goals try (exfalso;omega)
  all_goals exact rt []
 rw[if_neg hx]
 by_cases hx2:most<x
 ·rw[if_pos hx2]
  repeat' (first|refine gS ?_|refine sp ?_ ?_ <;> intro h|refine gP e0 ?_|(with_reducible apply And.intro)|exact aG|fail)
  all_goals try (exfalso;omega)
  all_goals exact rt []
 rw[if_neg hx2]
 obtain⟨n,rfl⟩:∃ n:Nat,x=n:=⟨x.toNat,by omega⟩
 simp only[Int.toNat_natCast]
 generalize hT:rdL n s b0 []=tt
 repeat' (first|refine gS ?_|refine sp ?_ ?_ <;> intro h|refine gP e0 ?_|(with_reducible apply And.intro)|exact aG|fail)
 all_goals try (exfalso;omega)
 refine gl (κ:=(List Int) × Nat × Int) hm0 (fun q_=>q_.1.length≤n∧rdL (n-q_.1.length) s q_.2.2 q_.1=tt) (fun q_=>[(0,vS s),(9,I n),(10,I q_.2.2),(12,.og 48 q_.2.1)]) (fun q_=>[(48,.arr q_.2.1 1 true (q_.1.map eI))]) (fun q_=>n-q_.1.length) [] [48] ([],0,b0) ?_ (h0:=(aY hT))
 rintro⟨acc,v,b⟩ hI
 try simp only at hI ⊢
 try have hI2:=hI.2
 by_cases hl:acc.length<n
 ·have e1:=rIntD s b hs
  have hst:rdL (n-acc.length) s b acc=if (getI s b).2.2 ≠ 0 then ([],0,(getI s b).2.2) else rdL (n-(acc.length+1)) s (getI s b).2.1 (acc++[(getI s b).1]):=by
   rw[show n-acc.length=(n-(acc.length+1))+1 by omega,rdL]
  rw[hI2] at hst
  generalize getI s b=q at *
  obtain⟨x,b1,e⟩:=q
  simp only at e1 hst
  by_cases he:e=0
  ·subst he
   rw[if_neg (by simp)] at hst
   repeat' (first|refine gS ?_|refine sp ?_ ?_ <;> intro h|refine gP e1 ?_|(with_reducible apply And.intro)|exact aG|fail)
   all_goals try (exfalso;omega)
   refine⟨[],[],⟨(acc++[x],v+1,b1),by simp only[List.length_append,List.length_singleton];omega,by simp only[List.length_append,List.length_singleton];exact hst.symm⟩,?_,by simp only[List.length_append,List.length_singleton];omega⟩
   exact aX
  ·have q:(e != 0)=true:=by simpa using he
   rw[if_pos he] at hst
   subst hst
   repeat' (first|refine gA q ?_|refine sp ?_ ?_ <;> intro h|refine gP e1 ?_|(with_reducible apply And.intro)|exact aG|fail)
   all_goals try (exfalso;omega)
   all_goals exact rt []
 ·have hn:n-acc.length=0:=by omega
  rw[hn,rdL] at hI2
  repeat' (first|refine gS ?_|refine sp ?_ ?_ <;> intro h|(with_reducible apply And.intro)|exact aG|fail)
  all_goals try (exfalso;omega)
  subst hI2
  all_goals exact rt []
abbrev rdp:V:=.bp 900000 0 0
abbrev rdS (s:List UInt8) (a e:Int):U:=[(900000,.box 0 [vS s,I a,I e])]
def rI (s:List UInt8) (a e:Int):Int × Int × Int:=if e ≠ 0 then (0,a,e) else if (getI s a).2.2 ≠ 0 then (0,a,(getI s a).2.2) else ((getI s a).1,(getI s a).2.1,0)
def rC (s:List UInt8) (a e most:Int):Int × Int × Int:=if (rI s a e).2.2=0∧((rI s a e).1<0∨most<(rI s a e).1) then (0,(rI s a e).2.1,4) else rI s a e
def rL (s:List UInt8) (a e most:Int):List Int × Int × Int:=if e ≠ 0 then ([],a,e) else if (getL s a most).2.2 ≠ 0 then ([],a,(getL s a most).2.2) else ((getL s a most).1,(getL s a most).2.1,0)
theorem thenI (s:List UInt8) (a e:Int) (hs:s.length≤1000000000000):Does Tryz.prog 82 [rdp,.cl 83 []] (rdS s a e) (I (rI s a e).1) (rdS s (rI s a e).2.1 (rI s a e).2.2) []:=by
 have e1:=wIntD s a hs
 unfold rI
 generalize getI s a=g at *
 obtain⟨x,b,f⟩:=g
 simp only at e1 ⊢
 refine wB Tryz.func82 BxOK.one fun cx hm0=>?_
 by_cases he:e=0
 ·subst he
  rw[if_neg (by simp)]
  by_cases hf:f=0
  ·subst hf
   rw[if_neg (by simp)]
   repeat' (first|refine gS ?_|refine sp ?_ ?_ <;> intro h|(apply go_callv 5000 (e1) rfl (by kernel_rfl) rfl;iterate 4 (first|(exact CallForm.plain rfl)|exact aC))|(with_reducible apply And.intro)|exact aG|fail)
   all_goals exact rt []
  ·have q:(f != 0)=true:=by simpa using hf
   rw[if_pos hf]
   repeat' (first|refine gA q ?_|refine sp ?_ ?_ <;> intro h|(apply go_callv 5000 (e1) rfl (by kernel_rfl) rfl;iterate 4 (first|(exact CallForm.plain rfl)|exact aC))|(with_reducible apply And.intro)|exact aG|fail)
   all_goals exact rt []
 ·have q:(e != 0)=true:=by simpa using he
  rw[if_pos he]
  repeat' (first|refine gA q ?_|refine sp ?_ ?_ <;> intro h|(with_reducible apply And.intro)|exact aG|fail)
  all_goals exact rt []
theorem readI (s:List UInt8) (a e:Int) (hs:s.length≤1000000000000):Does Tryz.prog 51 [rdp] (rdS s a e) (I (rI s a e).1) (rdS s (rI s a e).2.1 (rI s a e).2.2) []:=by
 refine wB Tryz.func51 BxOK.one fun cx hm0=>?_
 have e1:=thenI s a e hs
 repeat' (first|refine gS ?_|refine sp ?_ ?_ <;> intro h|refine gL e1 ?_|(with_reducible apply And.intro)|exact aG|fail)
 all_goals exact rt []
theorem readC (s:List UInt8) (a e most:Int) (hs:s.length≤1000000000000):Does Tryz.prog 30 [rdp,I most] (rdS s a e) (I (rC s a e most).1) (rdS s (rC s a e most).2.1 (rC s a e most).2.2) []:=by
 have e1:=readI s a e hs
 unfold rC
 generalize rI s a e=g at *
 obtain⟨x,b,f⟩:=g
 simp only at e1 ⊢
 refine wB Tryz.func30 BxOK.one fun cx hm0=>?_
 by_cases hf:f=0
 ·subst hf
  by_cases hx:x<0∨most<x
  ·rw[if_pos ⟨rfl,hx⟩]
   repeat' (first|refine gS ?_|refine sp ?_ ?_ <;> intro h|refine gL e1 ?_|(with_reducible apply And.intro)|exact aG|fail)
   all_goals try (exfalso;omega)
   all_goals exact rt []
  ·rw[if_neg (fun h=>hx h.2)]
   repeat' (first|refine gS ?_|refine sp ?_ ?_ <;> intro h|refine gL e1 ?_|(with_reducible apply And.intro)|exact aG|fail)
   all_goals try (exfalso;omega)
   all_goals exact rt []
 ·have q:(f == 0)=false:=by simpa using hf
  rw[if_neg (fun h=>hf h.1)]
  repeat' (first|refine gA q ?_|refine sp ?_ ?_ <;> intro h|refine gL e1 ?_|(with_reducible apply And.intro)|exact aG|fail)
  all_goals exact rt []
theorem list1 (s:List UInt8) (a most:Int) (hs:s.length≤1000000000000):Does Tryz.prog 85 [vS s,I a,rdp] [(900000,.box 0 [I most])] (.tu [.d (dInts (getL s a most).1),I (getL s a most).2.1,I (getL s a most).2.2]) [(900000,.box 0 [I most])] []:=by
 have e:=wListD' s a most hs
 refine wB Tryz.func85 BxOK.one fun cx hm0=>?_
 repeat' (first|refine gS ?_|refine sp ?_ ?_ <;> intro h|refine gP e ?_|(with_reducible apply And.intro)|exact aG|fail)
 all_goals exact rt []
theorem thenL (s:List UInt8) (a e most:Int) (hs:s.length≤1000000000000):Does Tryz.prog 84 [rdp,.cl 85 [.bp 900001 0 0]] [(900000,.box 0 [vS s,I a,I e]),(900001,.box 0 [I most])] (.d (dInts (rL s a e most).1)) [(900000,.box 0 [vS s,I (rL s a e most).2.1,I (rL s a e most).2.2]),(900001,.box 0 [I most])] []:=by
 have e1:Does Tryz.prog 85 [vS s,I a,.bp 900001 0 0] [(900001,.box 0 [I most])] (.tu [.d (dInts (getL s a most).1),I (getL s a most).2.1,I (getL s a most).2.2]) [(900001,.box 0 [I most])] []:=(list1 s a most hs).nm [(900000,900001,0)] rfl rfl rfl rfl rfl rfl rfl rfl rfl
 unfold rL
 generalize getL s a most=g at *
 obtain⟨x,b,f⟩:=g
 simp only at e1 ⊢
 refine wB Tryz.func84 ⟨rfl,by simp⟩ fun cx hm0=>?_
 by_cases he:e=0
 ·subst he
  rw[if_neg (by simp)]
  by_cases hf:f=0
  ·subst hf
   rw[if_neg (by simp)]
   repeat' (first|refine gS ?_|refine sp ?_ ?_ <;> intro h|(apply go_callv 5000 (e1) rfl (by kernel_rfl) rfl;iterate 4 (first|(exact CallForm.lent aL rfl rfl)|exact aC))|(with_reducible apply And.intro)|exact aG|fail)
   all_goals exact rt []
  ·have q:(f != 0)=true:=by simpa using hf
   rw[if_pos hf]
   repeat' (first|refine gA q ?_|refine sp ?_ ?_ <;> intro h|(apply go_callv 5000 (e1) rfl (by kernel_rfl) rfl;iterate 4 (first|(exact CallForm.lent aL rfl rfl)|exact aC))|(with_reducible apply And.intro)|exact aG|fail)
   all_goals exact rt []
 ·have q:(e != 0)=true:=by simpa using he
  rw[if_pos he]
  repeat' (first|refine gA q ?_|refine sp ?_ ?_ <;> intro h|(with_reducible apply And.intro)|exact aG|fail)
  all_goals exact rt []
theorem readL (s:List UInt8) (a e most:Int) (hs:s.length≤1000000000000):Does Tryz.prog 52 [rdp,I most] (rdS s a e) (.d (dInts (rL s a e most).1)) (rdS s (rL s a e most).2.1 (rL s a e most).2.2) []:=by
 refine wB Tryz.func52 BxOK.one fun cx hm0=>?_
 have e1:Does Tryz.prog 84 [rdp,.cl 85 [.bp 3 0 0]] [(900000,.box 0 [vS s,I a,I e]),(3,.box 0 [I most])] (.d (dInts (rL s a e most).1)) [(900000,.box 0 [vS s,I (rL s a e most).2.1,I (rL s a e most).2.2]),(3,.box 0 [I most])] []:=(thenL s a e most hs).nm [(900000,900000,0),(900001,3,0)] rfl rfl rfl rfl rfl rfl rfl rfl rfl
 repeat' (first|refine gS ?_|refine sp ?_ ?_ <;> intro h|refine gL e1 ?_|(with_reducible apply And.intro)|exact aG|fail)
 all_goals exact rt []
end Go.Proofs.YticdbambknflgaaGreat.Sc
end
