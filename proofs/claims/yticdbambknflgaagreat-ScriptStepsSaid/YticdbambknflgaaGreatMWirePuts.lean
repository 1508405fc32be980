/- PutInt, PutText, PutList of the program and of the reference: the bytes of numbers, texts and lists. -/
import Derived.Laws.Concat
import Derived.Laws.Bits64b
import Derived.Laws.BitsAllLaws
import Derived.Lib.Zigzag
import Derived.IntWalk
import Derived.RangeFuncNested
import Derived.Shelf.Abstract
import Derived.Test.YticdbambknflgaaGreatRows
import Derived.RangeFuncBound
import Derived.RangeFuncCalls
import Derived.RangeFuncLeaves
import Derived.Shelf.RegionOpen
import Derived.WalkKit
import Derived.OwnWalkIn
import Derived.TacticsInMore
import Derived.LoopNIn
import Derived.LoopIn
import Derived.Lib.Hide
import Derived.Test.YticdbambknflgaaGreatMBytes
import Derived.OwnWalk
import Derived.Outline
import Derived.WalkSpells
import Derived.WalkLawsBesides
import Derived.Deep.DeepFit
import Derived.Below
import Derived.Laws.BytesArg
section
namespace Go.Proofs.YticdbambknflgaaGreat.Wire
open Go Go.RowKit
set_option linter.unusedVariables false
def vb (u:Nat):List UInt8:=if h:127<u then UInt8.ofNat (u % 128+128) :: vb (u / 128) else [UInt8.ofNat u]
termination_by u
decreasing_by omega
def zz (n:Int):Nat:=if 0≤n then (2*n).toNat else (-2*n-1).toNat
def putB (n:Int):List UInt8:=vb (zz n)
theorem vb_big {u:Nat} (h:127<u):vb u=UInt8.ofNat (u % 128+128) :: vb (u / 128):=by rw[vb];simp [h]
theorem vb_small {u:Nat} (h:¬ 127<u):vb u=[UInt8.ofNat u]:=by rw[vb];simp [h]
theorem vb_len:∀ (k u:Nat),u<128 ^ (k+1)→(vb u).length≤k+1∧1≤(vb u).length
 |0,u,h=>by rw[vb_small (by omega)];simp
 |k+1,u,h=>by
  by_cases hu:127<u
  ·rw[vb_big hu]
   have h1:u / 128<128 ^ (k+1):=by
    rw[Nat.div_lt_iff_lt_mul (by decide)];rw[Nat.pow_succ] at h;exact h
   have:=vb_len k (u / 128) h1
   simp;omega
  ·rw[vb_small hu];simp
theorem zz_lt {n:Int} (h0:-9223372036854775808≤n) (h1:n≤9223372036854775807):zz n<18446744073709551616:=by
 unfold zz;split <;> omega
theorem putB_len {n:Int} (h0:-9223372036854775808≤n) (h1:n≤9223372036854775807):(putB n).length≤10∧1≤(putB n).length:=by
 have:=zz_lt h0 h1
 exact vb_len 9 (zz n) (by omega)
theorem zz_walk {n:Int} (h0:-9223372036854775808≤n) (h1:n≤9223372036854775807) :
  bits .xor .u64 (n % 18446744073709551616*2 % 18446744073709551616) (n / 9223372036854775808 % 18446744073709551616)=((zz n:Nat):Int):=by
 have hlt:=zz_lt h0 h1
 by_cases h:0≤n
 ·have e1:n % 18446744073709551616*2 % 18446744073709551616=(((2*n).toNat:Nat):Int):=by omega
  have e2:n / 9223372036854775808 % 18446744073709551616=((0:Nat):Int):=by omega
  rw[e1,e2,bits_xor_u64_nat _ _ (by omega) (by decide),Nat.xor_zero]
  unfold zz;rw[if_pos h]
 ·have e1:n % 18446744073709551616*2 % 18446744073709551616=(((2*n+18446744073709551616).toNat:Nat):Int):=by omega
  have e2:n / 9223372036854775808 % 18446744073709551616=((2 ^ 64-1:Nat):Int):=by omega
  rw[e1,e2,bits_xor_u64_nat _ _ (by omega) (by decide),Nat.xor_comm,Lib.xor_ones64 _ (by omega)]
  unfold zz;rw[if_neg h]
  omega
theorem or128:∀ x:Nat,x<256→x ||| 128=x % 128+128:=by decide +kernel
theorem byteBig (k:Nat):(UInt8.ofNat (bits .or .u8 ((k:Int) % 256) 128).toNat)=UInt8.ofNat (k % 128+128):=by
 have e:(k:Int) % 256=((k % 256:Nat):Int):=by omega
 rw[e,show (128:Int)=((128:Nat):Int) from rfl,u8_or_nat _ _ (by omega) (by decide),or128 _ (by omega)]
 congr 1
 omega
theorem bigI (k:Nat):bits .or .u8 ((k:Int) % 256) 128=((k % 128+128:Nat):Int):=by
 have e:(k:Int) % 256=((k % 256:Nat):Int):=by omega
 rw[e,show (128:Int)=((128:Nat):Int) from rfl,u8_or_nat _ _ (by omega) (by decide),or128 _ (by omega)]
 omega
def unzz (u:Nat):Int:=if u % 2=0 then ((u / 2:Nat):Int) else -((u / 2:Nat):Int)-1
def rd (k acc:Nat):List UInt8→Int × Nat × Nat
 |[]=>(0,0,3)
 |b :: r =>
  if k=9∧1<b.toNat∨0<k∧b.toNat=0 then (0,0,2)
  else if b.toNat<128 then (unzz (acc+b.toNat*128 ^ k),k+1,0)
  else rd (k+1) (acc+b.toNat % 128*128 ^ k) r
def getI (l:List UInt8) (at_:Int):Int × Int × Int :=
 if at_<0∨(l.length:Int)<at_ then (0,0,1)
 else match rd 0 0 (l.drop at_.toNat) with
  |(x,k,0)=>(x,at_+k,0)
  |(_,_,e)=>(0,0,e)
theorem acc_lt {acc j b:Nat} (h:acc<128 ^ j):acc+b % 128*128 ^ j<128 ^ (j+1):=by
 have h1:b % 128*128 ^ j≤127*128 ^ j:=Nat.mul_le_mul_right _ (by omega)
 rw[Nat.pow_succ]
 omega
theorem pow128 (j:Nat):(2:Nat) ^ (7*j)=128 ^ j:=by rw[Nat.pow_mul]
theorem or_walk {acc j b:Nat} (hj:j≤9) (hb:b<256) (h9:j=9→b≤1) (h:acc<128 ^ j) :
  bits .or .u64 (acc:Int) (IntKind.u64.wrap (IntKind.u64.wrap (bits .and .u8 (b:Int) 127)*2 ^ (7*j)))=((acc+b % 128*128 ^ j:Nat):Int):=by
 have ha:bits .and .u8 (b:Int) 127=((b % 128:Nat):Int):=by
  rw[show (127:Int)=((127:Nat):Int) from rfl,u8_and_nat _ _ hb (by decide),nat_mask7]
 have hw:IntKind.u64.wrap ((b % 128:Nat):Int)=((b % 128:Nat):Int):=by rw[IntKind.wrap_u64];omega
 have hp:((2:Int) ^ (7*j))=((128 ^ j:Nat):Int):=by rw[← pow128];simp
 have hlt:b % 128*128 ^ j<18446744073709551616:=by
  by_cases h':j=9
  ·have:=h9 h'
   subst h'
   have:b % 128≤1:=by omega
   have h2:b % 128*128 ^ 9≤1*128 ^ 9:=Nat.mul_le_mul_right _ this
   omega
  ·have h1:b % 128*128 ^ j≤127*128 ^ j:=Nat.mul_le_mul_right _ (by omega)
   have h2:128 ^ j≤128 ^ 8:=Nat.pow_le_pow_right (by decide) (by omega)
   omega
 have hacc:acc<18446744073709551616:=by
  have h2:128 ^ j≤128 ^ 9:=Nat.pow_le_pow_right (by decide) hj
  omega
 have hw2:IntKind.u64.wrap (((b % 128:Nat):Int)*2 ^ (7*j))=((b % 128*128 ^ j:Nat):Int):=by
  rw[hp,← Int.natCast_mul,IntKind.wrap_u64];omega
 rw[ha,hw,hw2,bits_or_u64_nat _ _ hacc hlt,Nat.or_comm,nat_join (7*j) _ _ (by rw[pow128];exact Nat.mul_mod_left _ _) (by rw[pow128];exact h),Nat.add_comm]
theorem unzz_walk {u:Nat} (hu:u<18446744073709551616) :
  bits .xor .i64 (wrap64 ((u:Int) / 2)) (wrap64 (-wrap64 (bits .and .u64 (u:Int) 1)))=unzz u:=by
 have ha:bits .and .u64 (u:Int) 1=((u % 2:Nat):Int):=by
  rw[show (1:Int)=((1:Nat):Int) from rfl,u64_and_nat _ _ hu (by decide),nat_mask1]
 have h2:wrap64 ((u:Int) / 2)=((u / 2:Nat):Int):=by unfold wrap64;omega
 rw[ha,h2]
 have hofx:(BitVec.ofInt 64 (((u / 2:Nat):Int))).toNat=u / 2:=by
  rw[BitVec.ofInt_natCast,BitVec.toNat_ofNat];exact Nat.mod_eq_of_lt (by omega)
 unfold unzz
 by_cases h:u % 2=0
 ·rw[if_pos h,h]
  show IntKind.i64.wrap ((BitVec.ofInt 64 (((u / 2:Nat):Int)) ^^^ BitVec.ofInt 64 (wrap64 (-wrap64 ((0:Nat):Int)))).toNat:Int)=_
  rw[BitVec.toNat_xor,hofx,show wrap64 (-wrap64 ((0:Nat):Int))=0 by unfold wrap64;omega,show (BitVec.ofInt 64 0).toNat=0 by decide,Nat.xor_zero,IntKind.wrap_i64]
  omega
 ·rw[if_neg h,show u % 2=1 by omega]
  show IntKind.i64.wrap ((BitVec.ofInt 64 (((u / 2:Nat):Int)) ^^^ BitVec.ofInt 64 (wrap64 (-wrap64 ((1:Nat):Int)))).toNat:Int)=_
  rw[BitVec.toNat_xor,hofx,show wrap64 (-wrap64 ((1:Nat):Int))=-1 by unfold wrap64;omega,show (BitVec.ofInt 64 (-1)).toNat=2 ^ 64-1 by decide,Nat.xor_comm,Lib.xor_ones64 _ (by omega),IntKind.wrap_i64]
  omega
theorem unzz_even {u:Nat} (hu:u<18446744073709551616) (h:(bits .and .u64 (u:Int) 1 == 1)=false):wrap64 ((u:Int) / 2)=unzz u:=by
 have ha:bits .and .u64 (u:Int) 1=((u % 2:Nat):Int):=by
  rw[show (1:Int)=((1:Nat):Int) from rfl,u64_and_nat _ _ hu (by decide),nat_mask1]
 rw[ha] at h
 have h':¬ ((u % 2:Nat):Int)=1:=by simpa using h
 unfold unzz
 rw[if_pos (by omega)]
 unfold wrap64;omega
theorem unzz_odd {u:Nat} (hu:u<18446744073709551616) (h:(bits .and .u64 (u:Int) 1 == 1)=true):wrap64 (wrap64 (-wrap64 ((u:Int) / 2))-1)=unzz u:=by
 have ha:bits .and .u64 (u:Int) 1=((u % 2:Nat):Int):=by
  rw[show (1:Int)=((1:Nat):Int) from rfl,u64_and_nat _ _ hu (by decide),nat_mask1]
 rw[ha] at h
 have h':((u % 2:Nat):Int)=1:=by simpa using h
 unfold unzz
 rw[if_neg (by omega)]
 unfold wrap64;omega
end Go.Proofs.YticdbambknflgaaGreat.Wire
end
section
namespace Go.Proofs.YticdbambknflgaaGreat
open Go Go.RowKit
set_option linter.unusedVariables false
structure But (X:Nat→Prop) (W W':World):Prop where
 os:W'.os=W.os
 tape:W'.tape=W.tape
 output:W'.output=W.output
 size:W.heap.size≤W'.heap.size
 block:∀ k,k<W.heap.size→¬ X k→W'.heap[k]?=W.heap[k]?
theorem But.putObj {W:World} {l:Nat} (o:Obj):But (fun k=>k=l) W (W.putObj l o):=by
 refine⟨rfl,rfl,rfl,?_,fun k _ hne=>World.putObj_heap_other hne⟩
 simp [World.putObj]
theorem But.setCell {W:World} {p:Addr} (u:Value):But (fun k=>k=p.block) W (W.setCell p u) :=
 ⟨rfl,rfl,rfl,by simp [World.setCell],fun k _ hne=>Below.heap_setCell W p u k hne⟩
theorem But.mono {X Y:Nat→Prop} {W W':World} (h:But X W W') (hXY:∀ k,X k→Y k):But Y W W':=⟨h.os,h.tape,h.output,h.size,fun k hk hn=>h.block k hk (fun hx=>hn (hXY k hx))⟩
def KeepS (S D:Nat) (W W':World):Prop:=∀ k,k=S∨k=D∨k=D+1→W'.heap[k]?=W.heap[k]?
variable {F:Fence} {n:Nat} {P:Program}
theorem wpIn_range_on {α:Type} {g:Operand} {p:Tmp} {assign body:Code} {Q:Exit→Act→World→Prop} {a:Act} {w:World}
  (hro:F.round=none) (h1:1≤n) {gf:Nat} {lb:Array Value} (hg:a.eval g=.func (.func gf) #[] lb) (hFg:F.fn gf) (eg:Enters P gf)
  (enc:α→Value) (xs:List α) (S:Nat) (hS:S<w.heap.size) (I:List α→World→Prop)
  (hI:∀ pre W W',I pre W→But (fun k=>k=S∨k=w.heap.size∨k=w.heap.size+1) W W'→I pre W') (h0:I [] w)
  (hIa:∀ (W:World) (o:Obj),W.heap.size=w.heap.size∨W.heap.size=w.heap.size+1→I [] W→I [] (W.alloc o))
  (hseq:∀ (l:Nat) (J:List α→World→Prop) (W:World),(∀ pre W v,J pre W→J pre (W.setCell ⟨S,0,none⟩ v)) →
   (∀ pre x W,J pre W→pre.length<xs.length→YieldAt F (n-1-1) P l #[enc x] W fun e W'=>e=.returned (.bool true)∧J (pre++[x]) W'∧W'.heap[S]?=W.heap[S]?) →
   J [] W→W.heap[S]?=w.heap[S]?→CallsIn F (n-1) P gf (#[.func (.yield l) #[] #[]]++lb) W fun e W'=>(∃ v,e=.returned v)∧J xs W')
  (a₁:α→Act)
  (hassign:∀ (l:Nat) (x:α) (W:World) (K:Act→World→Prop),K (a₁ x) W →
   assign.wpIn (F.inRound l) (n-1-1) P (Exit.then K (fun _ _ _=>False)) { tmps:=(#[p].zip #[enc x]).foldl (fun t (p,v)=>t.setIfInBounds p v) a.tmps,defers:=[] } W)
  (hbody:∀ (l:Nat) (pre:List α) (x:α) (W:World),I pre W→pre.length<xs.length→w.heap.size+1<W.heap.size →
   body.wpIn (F.inRound l) (n-1-1) P (fun e _ W'=>e=.normal∧I (pre++[x]) W'∧KeepS S w.heap.size W W') (a₁ x) W)
  (hdone:∀ (W:World),I xs W→W.heap[w.heap.size]?=some (.deferred (some []))→Q .normal { a with defers:={ target:=.collected w.heap.size,args:=#[] } :: a.defers } W) :
  (Code.rangeFunc g #[p] assign body).wpIn F n P Q a w:=by
 refine wpIn_rangeFunc fun fn hfn=>?_
 let rec_:LoopState→Loop:=fun st=>{ state:=st,pending:=none,fn,tmps:=a.tmps,params:=#[p],assign,body,defers:=w.heap.size }
 let W1:World:=(w.alloc (.deferred (some []))).alloc (.loop (rec_ .ready))
 have hsz:W1.heap.size=w.heap.size+2:=by show ((w.alloc _).alloc _).heap.size=_;simp
 have hL1:W1.heap[w.heap.size+1]?=some (.loop (rec_ .ready)):=by
  have:=World.alloc_heap_new (w.alloc (.deferred (some []))) (.loop (rec_ .ready));rwa [World.size_alloc] at this
 have hD1:W1.heap[w.heap.size]?=some (.deferred (some [])):=(Below.heap_alloc _ _ _ (by simp)).trans (World.alloc_heap_new w _)
 have hS1:W1.heap[S]?=w.heap[S]?:=(Below.heap_alloc _ _ _ (by simp;omega)).trans (Below.heap_alloc _ _ _ hS)
 refine⟨w.heap.size+1,[{ target:=.collected w.heap.size,args:=#[] }],W1,{ target:=.fn (.func gf) lb,args:=#[.func (.yield (w.heap.size+1)) #[] #[]] },W1,gf,
  #[.func (.yield (w.heap.size+1)) #[] #[]]++lb,W1,?_,?_,?_,?_,fun _=>h1,?_⟩
 ·rw[hro];exact run_enterLoop_outer _ _ _ _ _
 ·simp only[resolve,hg]
  simp [go_sem]
 ·intro f' hf'
  simp [Target.leads] at hf'
  subst hf'
  exact hFg
 ·simp [invoke,go_sem,eg _ _]
 ·refine (hseq (w.heap.size+1) (fun pre W=>I pre W∧W.heap[w.heap.size+1]?=some (.loop (rec_ .ready))∧W.heap[w.heap.size]?=some (.deferred (some []))) W1 ?_ ?_ ⟨?_,hL1,hD1⟩ hS1).mono ?_
  ·rintro pre W v ⟨hi,hl,hd⟩
   exact⟨hI _ _ _ hi ((But.setCell (p:=⟨S,0,none⟩) v).mono fun k hk=>.inl hk),(Below.heap_setCell W ⟨S,0,none⟩ v _ (by show w.heap.size+1 ≠ S;omega)).trans hl,(Below.heap_setCell W ⟨S,0,none⟩ v _ (by show w.heap.size ≠ S;omega)).trans hd⟩
  ·rintro pre x W ⟨hi,hl,hd⟩ hpl
   have hlt:w.heap.size+1<W.heap.size:=(Array.getElem?_eq_some_iff.1 hl).1
   have hy:=run_yield (P:=P) (args:=#[enc x]) hl rfl
   have hl2:(W.putObj (w.heap.size+1) (.loop (rec_ .busy))).heap[w.heap.size+1]?=some (.loop (rec_ .busy)):=World.putObj_heap_same hlt
   have hbut:∀ (V:World) (o:Obj),But (fun k=>k=S∨k=w.heap.size∨k=w.heap.size+1) V (V.putObj (w.heap.size+1) o):=fun V o=>(But.putObj o).mono fun k hk=>.inr (.inr hk)
   refine⟨fn,_,assign,body,hy,roundIn_of_wpIn hfn ?_⟩
   refine hassign _ x W _ ⟨_,run_beginRound hl rfl,?_⟩
   refine wpIn_mono (hbody (w.heap.size+1) pre x _ (hI _ _ _ hi (hbut W _)) hpl (by rw[World.putObj];simpa using hlt)) ?_
   rintro e a3 W3 ⟨rfl,hi3,hk3⟩
   have hl3:=(hk3 (w.heap.size+1) (.inr (.inr rfl))).trans hl2
   have hd3:=(hk3 w.heap.size (.inr (.inl rfl))).trans ((World.putObj_heap_other (by omega)).trans hd)
   refine⟨_,_,run_endRound (P:=P) none hl3,rfl,⟨hI _ _ _ hi3 (hbut W3 _),World.putObj_heap_same (Array.getElem?_eq_some_iff.1 hl3).1,(World.putObj_heap_other (by omega)).trans hd3⟩,?_⟩
   exact (World.putObj_heap_other (by omega)).trans ((hk3 S (.inl rfl)).trans (World.putObj_heap_other (by omega)))
  ·exact hIa _ _ (.inr (by simp)) (hIa _ _ (.inl rfl) h0)
  ·rintro e W2 ⟨⟨v,rfl⟩,hi,hl,hd⟩
   exact⟨none,_,run_endLoop (P:=P) hl (by simp [rec_]),hdone _ (hI _ _ _ hi ((But.putObj _).mono fun k hk=>.inr (.inr hk))) ((World.putObj_heap_other (by omega)).trans hd)⟩
end Go.Proofs.YticdbambknflgaaGreat
end
section
namespace Go.Proofs.YticdbambknflgaaGreat.Wire
open Go Go.RowKit Go.Shelf
set_option linter.unusedVariables false
attribute [local go_sem] Oper.semAt_some
theorem vb_pos (u:Nat):0<(vb u).length:=by
 by_cases h:127<u
 ·rw[vb_big h];simp
 ·rw[vb_small h];simp
theorem groups_any (u:Int) (w:World) :
  Calls Tryz.prog 81 #[.int .u64 u] w fun e w'=>e=.returned (.func (.func 120) #[] #[.pointer (some ⟨w.heap.size,0,none⟩)])∧w.alloc (.cells #[.int .u64 u] 117)=w':=by
 go_enter Tryz.func81,Tryz.ntmps81
 go_wp2
 go_ret
 exact⟨rfl,rfl⟩
theorem groups1_in (F:Fence) (n:Nat) (hf:F.fn 120) (hro:F.round=none) (hn:1≤n) (l Bu:Nat) (u:Nat) (hu:u<18446744073709551616) (J:List UInt8→World→Prop)
  (hJ:∀ pre W v,J pre W→J pre (W.setCell ⟨Bu,0,none⟩ v))
  (hY:∀ pre x W,J pre W→pre.length<(vb u).length→YieldAt F (n-1) Tryz.prog l #[.int .u8 (x:UInt8).toNat] W fun e W'=>e=.returned (.bool true)∧J (pre++[x]) W'∧W'.heap[Bu]?=W.heap[Bu]?)
  (W:World) (hB:W.heap[Bu]?=some (.cells #[.int .u64 u] 117 (0,0))) (h0:J [] W) :
  CallsIn F n Tryz.prog 120 #[.func (.yield l) #[] #[],.pointer (some ⟨Bu,0,none⟩)] W fun e W'=>(∃ v,e=.returned v)∧J (vb u) W':=by
 refine callsIn_of_wp Tryz.func120 rfl hf ?_ hro
 simp only[Tryz.ntmps120,List.size_toArray,List.length_cons,List.length_nil,Nat.reduceAdd,Nat.reduceSub,Array.replicate_succ,Array.replicate_zero,List.push_toArray,List.append_toArray,List.nil_append,List.cons_append]
 gi_wp2
 gi_loopw [] (fun wr=>∃ (pre:List UInt8) (k:Nat),k≤u∧pre++vb k=vb u∧J pre wr∧wr.heap[Bu]?=some (.cells #[.int .u64 k] 117 (0,0)))
  (fun wr=>(intOf ((wr.cell? ⟨Bu,0,none⟩).getD undef)).toNat)
 case atStart =>
  exact⟨[],u,Nat.le_refl _,rfl,h0,hB⟩
 case round =>
  obtain⟨pre,k,hk,he,hj,hb⟩:=hrel
  have hc:wr.cell? ⟨Bu,0,none⟩=some (.int .u64 k):=by simp [World.cell?,hb]
  have hz:wr.frozen? ⟨Bu,0,none⟩=false:=by simp [World.frozen?,hb]
  have hpl:pre.length<(vb u).length:=by rw[← he,List.length_append];have:=vb_pos k;omega
  have He:=Lib.hid he
  clear he
  by_cases hlt:127<k
  ·obtain⟨fn,tmps,assign,body,hy,hR⟩:=hY pre (UInt8.ofNat (k % 128+128)) wr hj hpl
   rw[show ((UInt8.ofNat (k % 128+128)).toNat:Int)=bits .or .u8 ((k:Int) % 256) 128 by rw[bigI];simp;omega] at hy
   have Hb:=Lib.hid hb
   clear hb
   gi_wp2
   refine hR.mono ?_
   rintro e W3 ⟨rfl,hJ3,hk3⟩
   have hb3:=hk3.trans Hb.out
   have hc3:W3.cell? ⟨Bu,0,none⟩=some (.int .u64 k):=by simp [World.cell?,hb3]
   have hz3:W3.frozen? ⟨Bu,0,none⟩=false:=by simp [World.frozen?,hb3]
   have Hb3:=Lib.hid hb3
   clear hb3 hk3
   gi_wp2
   have hb4:(W3.setCell ⟨Bu,0,none⟩ (.int .u64 ((k:Int) / 128))).heap[Bu]?=some (.cells #[.int .u64 ((k / 128:Nat):Int)] 117 (0,0)):=by
    simp [World.setCell,Array.getElem?_modify,Hb3.out]
   refine⟨⟨pre++[UInt8.ofNat (k % 128+128)],k / 128,by omega,?_,hJ _ _ _ hJ3,hb4⟩,?_⟩
   ·rw[← He.out,vb_big hlt];simp
   ·have e1:(W3.setCell ⟨Bu,0,none⟩ (.int .u64 ((k:Int) / 128))).cell? ⟨Bu,0,none⟩=some (.int .u64 ((k / 128:Nat):Int)):=by
     simp only[World.cell?,hb4];simp
    have e2:wr.cell? ⟨Bu,0,none⟩=some (.int .u64 k):=by simp only[World.cell?,Hb.out];simp
    rw[e1,e2]
    simp [intOf];omega
  ·obtain⟨fn,tmps,assign,body,hy,hR⟩:=hY pre (UInt8.ofNat k) wr hj hpl
   rw[show ((UInt8.ofNat k).toNat:Int)=(k:Int) by simp;omega] at hy
   have Hb:=Lib.hid hb
   clear hb
   gi_wp2
   refine hR.mono ?_
   rintro e W3 ⟨rfl,hJ3,hk3⟩
   gi_wp2
   go_end0
   exact⟨⟨_,rfl⟩,by rw[← He.out,vb_small hlt];exact hJ3⟩
end Go.Proofs.YticdbambknflgaaGreat.Wire
end
section
namespace Go.Proofs.YticdbambknflgaaGreat.Wire
open Go Go.RowKit Go.Shelf
set_option linter.unusedVariables false
attribute [local go_sem] Oper.semAt_some
theorem infoU8:(Tryz.prog.info? 5).map (fun i=>(i.zero,i.size,i.bytes))=some (some (.int .u8 0),1,1):=by kernel_rfl
def PutI (w:World) (B n0:Nat) (xs0:List Value) (pre:List UInt8) (W:World):Prop :=
 ∃ ad c,W.heap[w.heap.size]?=some (.cells #[.slice ad (n0+pre.length) c] 22 (0,0))∧Own W B 1 (.slice ad (n0+pre.length) c) (n0+pre.length) (xs0++pre.map bv) ∧
  (∀ g,(Value.slice ad (n0+pre.length) c).ownBlock=some g→g<w.heap.size∨w.heap.size+3<g)∧Below B w W∧w.heap.size+2≤W.heap.size
theorem PutI.but {w:World} {B n0:Nat} {xs0:List Value} {pre:List UInt8} {W W':World} (hB:B≤w.heap.size) (h:PutI w B n0 xs0 pre W)
  (hb:But (fun k=>k=w.heap.size+1∨k=w.heap.size+2∨k=w.heap.size+2+1) W W'):PutI w B n0 xs0 pre W':=by
 obtain⟨ad,c,h1,h2,h3,h4,h5⟩:=h
 refine⟨ad,c,(hb.block _ (by omega) (by omega)).trans h1,h2.congr hb.size fun g hg=>hb.block g (h2.lt hg).1 (by rcases h3 g hg with h|h <;> omega),h3,
  h4.trans ⟨hb.os,hb.tape,hb.output,hb.size,fun k hk=>hb.block k (by omega) (by omega)⟩,by have:=hb.size;omega⟩
theorem PutI.alloc {w:World} {B n0:Nat} {xs0:List Value} {pre:List UInt8} {W:World} (hB:B≤w.heap.size) (h:PutI w B n0 xs0 pre W) (o:Obj):PutI w B n0 xs0 pre (W.alloc o):=by
 obtain⟨ad,c,h1,h2,h3,h4,h5⟩:=h
 exact⟨ad,c,(Below.heap_alloc W o _ (by omega)).trans h1,h2.alloc o,h3,h4.alloc (by omega) o,by simp;omega⟩
theorem put_any (ad:Option Addr) (n0 c:Nat) (xs0:List Value) (n:Int) (B:Nat) (w:World) (h0:-9223372036854775808≤n) (h1:n≤9223372036854775807) (hB:B≤w.heap.size)
  (hown:Own w B 1 (.slice ad n0 c) n0 xs0) (hlen:n0+10≤140737488355328) :
  Calls Tryz.prog 50 #[.slice ad n0 c,.int .i64 n] w fun e w'=>∃ ad' c',e=.returned (.slice ad' (n0+(putB n).length) c')∧Own w' B 1 (.slice ad' (n0+(putB n).length) c') (n0+(putB n).length) (xs0++(putB n).map bv)∧Below B w w':=by
 have Z:=zz_walk h0 h1
 have L:=(putB_len h0 h1).1
 have hzz:=zz_lt h0 h1
 have HZ:=Lib.hid Z
 clear Z
 refine (callsIn_wide (n:=3)).1 ?_
 refine callsIn_of_wp_marks Tryz.func50 rfl trivial ?_ rfl
 simp only[Tryz.ntmps50,List.size_toArray,List.length_cons,List.length_nil,Nat.reduceAdd,Nat.reduceSub,Array.replicate_succ,Array.replicate_zero,List.push_toArray,List.append_toArray,List.nil_append,List.cons_append]
 gi_wp2_with (refine⟨trivial,?_⟩;gi_at_call 81;refine (callsIn_wide.2 (groups_any _ _)).mono ?_;rintro e w' ⟨rfl,rfl⟩)
 have hbs:(w.alloc (.cells #[.slice ad n0 c] 22)).heap.size=w.heap.size+1:=by simp
 refine wpIn_range_on rfl (by decide) (gf:=120) (lb:=#[.pointer (some ⟨w.heap.size+1,0,none⟩)]) (by simp [go_sem]) trivial (enters_of Tryz.func120 (by kernel_rfl) rfl)
  (fun x:UInt8=>.int .u8 x.toNat) (putB n) (w.heap.size+1) (by simp) (PutI w B n0 xs0) ?hI ?h0 ?hIa ?hseq
  (fun x=>{ tmps:=#[.slice ad n0 c,.int .i64 n,.pointer (some ⟨w.heap.size,0,none⟩),undef,.slice none 0 0,.int .u8 x.toNat,.int .i64 n,.int .u64 (IntKind.u64.wrap n),.int .u64 (IntKind.u64.wrap (IntKind.u64.wrap n*2)),.int .i64 n,.int .i64 (n / 9223372036854775808),
    .int .u64 (IntKind.u64.wrap (n / 9223372036854775808)),.int .u64 (bits .xor .u64 (IntKind.u64.wrap (IntKind.u64.wrap n*2)) (IntKind.u64.wrap (n / 9223372036854775808))),.func (.func 120) #[] #[.pointer (some ⟨w.heap.size+1,0,none⟩)],.int .u8 x.toNat,undef,undef,undef,undef,undef],defers:=[] }) ?assign ?body ?done
 case hI =>
  intro pre W W' hi hb
  exact hi.but hB (hb.mono fun k hk=>by simp at hk;omega)
 case h0 =>
  refine⟨ad,c,?_,?_,?_,?_,by simp⟩
  ·rw[Below.heap_alloc _ _ _ (by simp)]
   simpa using World.alloc_heap_new w (.cells #[.slice ad n0 c] 22)
  ·simpa using (hown.alloc _).alloc _
  ·intro g hg
   exact .inl (hown.lt hg).1
  ·exact ((Below.refl B w).alloc hB _).alloc (by simp;omega) _
 case hIa =>
  intro W o _ hi
  exact hi.alloc hB o
 case hseq =>
  intro l J W hJ hY hj hS
  have hu:W.heap[w.heap.size+1]?=some (.cells #[.int .u64 ((zz n:Nat):Int)] 117 (0,0)):=by
   rw[hS,← HZ.out]
   simp only[IntKind.wrap_u64]
   have:=World.alloc_heap_new (w.alloc (.cells #[.slice ad n0 c] 22)) (.cells #[.int .u64 (bits .xor .u64 (n % 18446744073709551616*2 % 18446744073709551616) (n / 9223372036854775808 % 18446744073709551616))] 117)
   rwa [World.size_alloc] at this
  exact groups1_in Fence.wide 2 trivial rfl (by decide) l (w.heap.size+1) (zz n) hzz J hJ hY W hu hj
 case assign =>
  intro l x W K hK
  gi_wp2
  exact hK
 case body =>
  rintro l pre x W ⟨ad1,c1,hbx,ho,hg1,hbel,hsz⟩ hpl hlt
  have hc1:W.cell? ⟨w.heap.size,0,none⟩=some (.slice ad1 (n0+pre.length) c1):=by simp [World.cell?,hbx]
  have hf1:W.frozen? ⟨w.heap.size,0,none⟩=false:=by simp [World.frozen?,hbx]
  obtain⟨i0,hi,hz0,hz1,hz2⟩:=info_parts infoU8
  simp only[World.size_alloc] at hlt
  have hkeep:∀ (o:Obj) (row:Option Nat) (w2:World),(W.alloc o).grownBy w2 (Value.slice ad1 (n0+pre.length) c1).ownBlock→∀ k,w.heap.size≤k→k≤w.heap.size+3→w2.heap[k]?=W.heap[k]?:=fun o _ w2 hg k hk1 hk2 =>
   (hg.block k (by simp;omega) (fun e=>by rcases hg1 k e.symm with h|h <;> omega)).trans (Below.heap_alloc W o k (by omega))
  have hcell:∀ (o:Obj) (row:Option Nat) (w2:World),(W.alloc o).grownBy w2 (Value.slice ad1 (n0+pre.length) c1).ownBlock→w2.cell? ⟨w.heap.size,0,none⟩=some (.slice ad1 (n0+pre.length) c1):=fun o r w2 hg =>
   (World.cell?_of_block (a:=⟨w.heap.size,0,none⟩) (hkeep o r w2 hg _ (by show w.heap.size≤w.heap.size;omega) (by show w.heap.size≤_;omega))).trans hc1
  have hfr:∀ (o:Obj) (row:Option Nat) (w2:World),(W.alloc o).grownBy w2 (Value.slice ad1 (n0+pre.length) c1).ownBlock→w2.frozen? ⟨w.heap.size,0,none⟩=false:=fun o r w2 hg =>
   (World.frozen?_of_block (a:=⟨w.heap.size,0,none⟩) (hkeep o r w2 hg _ (by show w.heap.size≤w.heap.size;omega) (by show w.heap.size≤_;omega))).trans hf1
  have Hbx:=Lib.hid hbx
  clear hbx
  have HK:=Lib.hid hkeep
  have HC:=Lib.hid hcell
  have HF:=Lib.hid hfr
  clear hkeep hcell hfr
  gi_wp2_with (gi_at_builtin;refine wpListIn_append_mine rfl _ _ 22 22 rfl 5 i0 _ 1 Tryz.underlying22 hi hz0 hz1 hz2 rfl rfl (ho.alloc _) (by simp;omega) _ rfl 1 [.int .u8 x.toNat] (Src.ofSlice _ Tryz.underlying22 ⟨W.heap.size,0,none⟩ 1 1 _ rfl (cell_one_new _ _ _) (by simp [Value.oneCell'])) (by simp only[maxLen];omega) (by omega) ?_;intro ad2 c2 w2 ho2 hg2 hat2;have hc2:=HC.out _ none _ hg2;have hf2:=HF.out _ none _ hg2)
  have hk2:=HK.out _ none _ hg2
  have hset:∀ k,w.heap.size+1≤k→k≤w.heap.size+3→(w2.setCell ⟨w.heap.size,0,none⟩ (.slice ad2 (n0+pre.length+1) c2)).heap[k]?=W.heap[k]?:=fun k h1 h2 =>
   (Below.heap_setCell w2 ⟨w.heap.size,0,none⟩ _ k (by show k ≠ w.heap.size;omega)).trans (hk2 k (by omega) h2)
  have hsz2:=hg2.size
  simp only[World.size_alloc] at hsz2
  have hnb:∀ g,(Value.slice ad2 (n0+pre.length+1) c2).ownBlock=some g→g<w.heap.size∨w.heap.size+3<g:=fun g hg=>by
   rcases hat2 with h|h
   ·exact hg1 g (h.symm.trans hg)
   ·rw[h] at hg
    simp at hg
    omega
  refine⟨⟨ad2,c2,?_,?_,?_,?_,?_⟩,fun k hk=>hset k (by rcases hk with rfl|rfl|rfl <;> simp <;> omega) (by rcases hk with rfl|rfl|rfl <;> simp <;> omega)⟩
  ·have:=hk2 w.heap.size (Nat.le_refl _) (by omega)
   simp [World.setCell,Array.getElem?_modify,this,Hbx.out,Nat.add_assoc]
  ·have:=ho2.far (p:=⟨w.heap.size,0,none⟩) (fun e=>by rcases hnb _ e with h|h;exact Nat.lt_irrefl _ h;exact absurd h (by show ¬ w.heap.size+3<w.heap.size;omega)) (.slice ad2 (n0+pre.length+1) c2)
   simpa [Nat.add_assoc,bv] using this
  ·simpa [Nat.add_assoc] using hnb
  ·refine ((hbel.alloc (by omega) _).grown hg2 (by simp;omega) ?_).setCell (p:=⟨w.heap.size,0,none⟩) hB _
   intro k hk
   exact (ho.lt hk).2
  ·simp [World.setCell];omega
 case done =>
  rintro W ⟨ad1,c1,hbx,ho,hg1,hbel,hsz⟩ hD
  have hc1:W.cell? ⟨w.heap.size,0,none⟩=some (.slice ad1 (n0+(putB n).length) c1):=by simp [World.cell?,hbx]
  gi_wp2
  refine⟨by simp,.inl ⟨_,_,rfl,run_takeDeferred hD,?_⟩⟩
  simp only[World.size_alloc]
  refine⟨_,results_tmp rfl _ _ _,ad1,c1,rfl,?_,?_⟩
  ·refine ho.congr (by simp [World.putObj]) fun g hg=>World.putObj_heap_other ?_
   rcases hg1 g hg with h|h <;> omega
  ·exact hbel.trans ⟨rfl,rfl,rfl,by simp [World.putObj],fun k hk=>World.putObj_heap_other (by omega)⟩
end Go.Proofs.YticdbambknflgaaGreat.Wire
end
section
namespace Go.Proofs.YticdbambknflgaaGreat.Wire
open Go Go.RowKit
set_option linter.unusedVariables false
theorem conv1 (x:Int) (w:World):(convert 22 9 (.slice (some ⟨w.heap.size,0,none⟩) 1 1)).run Tryz.prog (w.alloc (.cells #[.int .u8 x] 5))=.ok (.string ⟨[UInt8.ofNat x.toNat].toArray⟩) (w.alloc (.cells #[.int .u8 x] 5)):=by
 have h:=run_convert_bytes_arg (P:=Tryz.prog) (w.alloc (.cells #[.int .u8 x] 5)) 22 5 Tryz.underlying22 Tryz.underlying5 w.heap.size 0 1 1 [x] rfl (fun i hi=>by
  obtain rfl:i=0:=by omega
  simp) 9 Tryz.underlying9
 rw[h]
 simp [strOfNums]
set_option maxHeartbeats 400000 in
theorem rPutInt_any (s:List UInt8) (n:Int) (w:World) (h0:-9223372036854775808≤n) (h1:n≤9223372036854775807) (hs:s.length≤2 ^ 62) :
  Calls Tryz.prog 36 #[.string ⟨s.toArray⟩,.int .i64 n] w fun e w'=>e=.returned (.string ⟨(s++putB n).toArray⟩)∧Below w.heap.size w w':=by
 have Z:=zz_walk h0 h1
 have L:=(putB_len h0 h1).1
 have hzz:=zz_lt h0 h1
 have HZ:=Lib.hid Z
 clear Z
 go_enter Tryz.func36,Tryz.ntmps36
 go_wp2
 go_loopw [0,5] (fun v u wr=>∃ (pre:List UInt8) (k:Nat),v=.string ⟨(s++pre).toArray⟩∧u=.int .u64 k∧k<18446744073709551616∧pre++vb k=putB n∧Below w.heap.size w wr) (fun _ u _=>(intOf u).toNat)
 case atStart=>exact⟨[],zz n,by simp,by simp only[IntKind.wrap_u64];rw[HZ.out],hzz,rfl,Below.refl _ _⟩
 case round =>
  obtain⟨pre,k,rfl,rfl,hk,he,hb⟩:=hrel
  have hpl:pre.length≤10:=by rw[← he] at L;simp at L;omega
  have he':=Lib.hid he
  clear he
  have c1:=conv1
  have hsz:=hb.size
  by_cases hlt:127<k
  ·go_wp2
   refine⟨⟨pre++[UInt8.ofNat (k % 128+128)],k / 128,?_,by go_num,by omega,?_,hb.alloc hsz _⟩,by simp [intOf];omega⟩
   ·rw[byteBig,ByteArray.mk_append_mk,List.append_assoc]
   ·rw[← he'.out,vb_big hlt];simp
  ·go_wp2
   go_ret
   refine⟨?_,hb.alloc hsz _⟩
   rw[← he'.out,vb_small hlt,ByteArray.mk_append_mk,List.append_assoc]
   rfl
end Go.Proofs.YticdbambknflgaaGreat.Wire
end
section
namespace Go.Proofs.YticdbambknflgaaGreat.Wire
open Go Go.RowKit
set_option linter.unusedVariables false
theorem toBytes (s:List UInt8) (w:World):(convert 9 22 (.string ⟨s.toArray⟩)).run Tryz.prog w=.ok (.slice (some ⟨w.heap.size,0,none⟩) s.length (grownCap w s.length 0 5)) (Lib.bytesWorld w 5 ⟨s.toArray⟩):=by
 have:=Lib.run_convert_string_bytes (P:=Tryz.prog) w 9 22 5 ⟨s.toArray⟩ Tryz.underlying9 Tryz.underlying22 Tryz.underlying5
 simpa [ByteArray.size] using this
theorem wPutInt_any (s:List UInt8) (n:Int) (w:World) (h0:-9223372036854775808≤n) (h1:n≤9223372036854775807) (hs:s.length+10≤140737488355328) :
  Calls Tryz.prog 25 #[.string ⟨s.toArray⟩,.int .i64 n] w fun e w'=>e=.returned (.string ⟨(s++putB n).toArray⟩)∧Below w.heap.size w w':=by
 have k1:=toBytes
 have ho:=own_bytes (w:=w) (e:=5) (s:=s) (by unfold maxLen;omega)
 have hB:=bytes_below w 5 ⟨s.toArray⟩ (Nat.le_refl _)
 have hsz:=hB.size
 go_enter Tryz.func25,Tryz.ntmps25
 go_wp2_with (go_at_call 50;refine (put_any _ _ _ _ _ w.heap.size _ h0 h1 hsz ho (by omega)).mono ?_;rintro e w1 ⟨ad,c,rfl,ho1,hb1⟩;have k2:=run_bytes_str (P:=Tryz.prog) (l:=s++putB n) 22 5 9 Tryz.underlying22 Tryz.underlying5 Tryz.underlying9 (by simpa using ho1.rd))
 go_ret
 exact⟨rfl,hB.trans hb1⟩
def putL (l:List Int):List UInt8:=putB l.length++l.flatMap putB
def Int64 (l:List Int):Prop:=∀ x ∈ l,-9223372036854775808≤x∧x≤9223372036854775807
theorem flat_len {l:List Int} (h:Int64 l):(l.flatMap putB).length≤10*l.length:=by
 induction l with
 |nil=>simp
 |cons x l ih =>
  have h1:=(putB_len (h x (by simp)).1 (h x (by simp)).2).1
  have h2:=ih fun y hy=>h y (by simp [hy])
  rw[List.flatMap_cons,List.length_append,List.length_cons];omega
def PLRel (s:List UInt8) (l:List Int) (w:World) (gk:Nat) (v i:Value) (wr:World):Prop :=
 ∃ k:Nat,gk+k=l.length∧v=.string ⟨(s++(putB l.length++(l.take k).flatMap putB)).toArray⟩∧i=.int .i64 k∧Below w.heap.size w wr
theorem flat_snoc {l:List Int} {k:Nat} (h:k<l.length):(l.take (k+1)).flatMap putB=(l.take k).flatMap putB++putB l[k]:=by
 rw[List.take_succ_eq_append_getElem h,List.flatMap_append];simp
theorem rPutList_any (s:List UInt8) (l:List Int) (a:Option Addr) (c:Nat) (B:Nat) (w:World) (hl:Int64 l) (hr:Rd w B 1 (.slice a l.length c) l.length (l.map (Value.int .i64))) (hB:B≤w.heap.size) (hs:s.length+10*l.length+20≤140737488355328) :
  Calls Tryz.prog 39 #[.string ⟨s.toArray⟩,.slice a l.length c] w fun e w'=>e=.returned (.string ⟨(s++putL l).toArray⟩)∧Below w.heap.size w w':=by
 have L:=(putB_len (n:=(l.length:Int)) (by omega) (by omega)).1
 rcases hr.addr with h0|⟨g,off,rfl,hg,hat⟩
 ·have hx:l=[]:=List.eq_nil_of_length_eq_zero h0
  subst hx
  go_enter Tryz.func39,Tryz.ntmps39
  go_wp2_with (go_at_call 36;refine (rPutInt_any _ _ _ (by omega) (by omega) (by omega)).mono ?_;rintro e w1 ⟨rfl,hb1⟩)
  go_loopg [0,13] 0 (fun gk v i wr=>PLRel s [] w gk v i wr)
  case atStart=>exact⟨0,rfl,by simp,rfl,hb1⟩
  case round =>
   obtain⟨k,hk,rfl,rfl,hb⟩:=hrel
   obtain rfl:k=0:=by simp at hk;omega
   go_wp2
   go_ret
   exact⟨by simp [putL],hb⟩
 ·go_enter Tryz.func39,Tryz.ntmps39
  go_wp2_with (go_at_call 36;refine (rPutInt_any _ _ _ (by omega) (by omega) (by omega)).mono ?_;rintro e w1 ⟨rfl,hb1⟩)
  go_loopg [0,13] l.length (fun gk v i wr=>PLRel s l w gk v i wr)
  case atStart=>exact⟨0,rfl,by simp,rfl,hb1⟩
  case round =>
   obtain⟨k,hk,rfl,rfl,hb⟩:=hrel
   have hfl:=flat_len (l:=l.take k) (fun x hx=>hl x (List.mem_of_mem_take hx))
   simp only[List.length_take] at hfl
   by_cases hlt:k<l.length
   ·have hc:wr.cell? ⟨g,off+k,none⟩=some (.int .i64 l[k]):=(hb.cell (p:=⟨g,off+k,none⟩) (by show g<_;omega)).trans (hat k _ (by simp [hlt]))
    have hx:=hl l[k] (List.getElem_mem _)
    go_wp2_with (go_at_call 36;refine (rPutInt_any _ _ _ hx.1 hx.2 (by simp only[List.length_append];omega)).mono ?_;rintro e w2 ⟨rfl,hb2⟩)
    go_roundg (gk-1)
    case measure=>omega
    case rel=>exact⟨k+1,by omega,by simp [flat_snoc hlt],by go_num,hb.trans (hb2.mono hb.size)⟩
   ·go_wp2
    go_ret
    exact⟨by rw[List.take_of_length_le (by omega)];rfl,hb⟩
def PLBRel (s:List UInt8) (l:List Int) (w:World) (gk:Nat) (v i:Value) (wr:World):Prop :=
 ∃ (k:Nat) (ad:Option Addr) (n c:Nat),gk+k=l.length∧v=.slice ad n c∧n=(s++(putB l.length++(l.take k).flatMap putB)).length∧Own wr w.heap.size 1 v n ((s++(putB l.length++(l.take k).flatMap putB)).map bv)∧i=.int .i64 k∧Below w.heap.size w wr
theorem wPutList_any (s:List UInt8) (l:List Int) (a:Option Addr) (c:Nat) (B:Nat) (w:World) (hl:Int64 l) (hr:Rd w B 1 (.slice a l.length c) l.length (l.map (Value.int .i64))) (hB:B≤w.heap.size) (hs:s.length+10*l.length+20≤140737488355328) :
  Calls Tryz.prog 26 #[.string ⟨s.toArray⟩,.slice a l.length c] w fun e w'=>e=.returned (.string ⟨(s++putL l).toArray⟩)∧Below w.heap.size w w':=by
 have k1:=toBytes
 have ho:=own_bytes (w:=w) (e:=5) (s:=s) (by unfold maxLen;omega)
 have hBw:=bytes_below w 5 ⟨s.toArray⟩ (Nat.le_refl _)
 have hsz:=hBw.size
 have L:=(putB_len (n:=(l.length:Int)) (by omega) (by omega)).1
 rcases hr.addr with h0|⟨g,off,rfl,hg,hat⟩
 ·have hx:l=[]:=List.eq_nil_of_length_eq_zero h0
  subst hx
  go_enter Tryz.func26,Tryz.ntmps26
  go_wp2_with (go_at_call 50;refine (put_any _ _ _ _ _ w.heap.size _ (by omega) (by omega) hsz ho (by omega)).mono ?_;rintro e w1 ⟨ad,c1,rfl,ho1,hb1⟩)
  go_loopg [5,15] 0 (fun gk v i wr=>PLBRel s [] w gk v i wr)
  case atStart=>exact⟨0,ad,_,c1,rfl,rfl,by simp,by simpa using ho1,rfl,hBw.trans hb1⟩
  case round =>
   obtain⟨k,ad,n,c,hk,rfl,hn,hown,rfl,hb⟩:=hrel
   obtain rfl:k=0:=by simp at hk;omega
   have k2:=run_bytes_str (P:=Tryz.prog) 22 5 9 Tryz.underlying22 Tryz.underlying5 Tryz.underlying9 hown.rd
   clear hn
   go_wp2
   go_ret
   exact⟨by simp [putL],hb⟩
 ·go_enter Tryz.func26,Tryz.ntmps26
  go_wp2_with (go_at_call 50;refine (put_any _ _ _ _ _ w.heap.size _ (by omega) (by omega) hsz ho (by omega)).mono ?_;rintro e w1 ⟨ad,c1,rfl,ho1,hb1⟩)
  go_loopg [5,15] l.length (fun gk v i wr=>PLBRel s l w gk v i wr)
  case atStart=>exact⟨0,ad,_,c1,rfl,rfl,by simp,by simpa using ho1,rfl,hBw.trans hb1⟩
  case round =>
   obtain⟨k,ad,n,c,hk,rfl,hn,hown,rfl,hb⟩:=hrel
   have hfl:=flat_len (l:=l.take k) (fun x hx=>hl x (List.mem_of_mem_take hx))
   simp only[List.length_take] at hfl
   have hn':n≤s.length+10+10*k:=by rw[hn];simp only[List.length_append];omega
   have Hn:=Lib.hid hn
   clear hn
   have hw1:=hb.size
   by_cases hlt:k<l.length
   ·have hc:wr.cell? ⟨g,off+k,none⟩=some (.int .i64 l[k]):=(hb.cell (p:=⟨g,off+k,none⟩) (by show g<_;omega)).trans (hat k _ (by simp [hlt]))
    have hx:=hl l[k] (List.getElem_mem _)
    go_wp2_with (go_at_call 50;refine (put_any _ _ _ _ _ w.heap.size _ hx.1 hx.2 hw1 hown (by omega)).mono ?_;rintro e w2 ⟨ad2,c2,rfl,ho2,hb2⟩)
    go_roundg (gk-1)
    case measure=>omega
    case rel =>
     refine⟨k+1,ad2,_,c2,by omega,rfl,?_,?_,by go_num,hb.trans hb2⟩
     ·rw[Hn.out,flat_snoc hlt];simp [Nat.add_assoc]
     ·rw[flat_snoc hlt];simpa using ho2
   ·have k2:=run_bytes_str (P:=Tryz.prog) 22 5 9 Tryz.underlying22 Tryz.underlying5 Tryz.underlying9 hown.rd
    go_wp2
    go_ret
    exact⟨by rw[List.take_of_length_le (by omega)];rfl,hb⟩
end Go.Proofs.YticdbambknflgaaGreat.Wire
end
