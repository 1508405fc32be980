/- Lists added to rests of lists; polynomials trimmed and multiplied. -/
import Derived.Test.YtacfbiegbdlldaaGreatDoorRows
import Derived.Test.YtacfbiegbdlldaaGreatDoorVRep
import Derived.Test.YtacfbiegbdlldaaGreatDoorVFieldRes
import Derived.RangeFuncNested
import Derived.RangeFuncBound
import Derived.RangeFuncCalls
import Derived.RangeFuncLeaves
import Derived.Shelf.Abstract
import Derived.Shelf.RegionOpen
import Derived.WalkKit
import Derived.OwnWalk
import Derived.OwnWalkIn
import Derived.Outline
import Derived.TacticsInMore
import Derived.LoopNIn
import Derived.LoopIn
import Derived.Lib.Hide
import Derived.Test.YtacfbiegbdlldaaGreatDoorVRangeKeep
import Derived.Test.YtacfbiegbdlldaaGreatDoorVTpA
section
namespace Go.Proofs.YtacfbiegbdlldaaGreatDoor.Tw
open Go Go.RowKit Go.Shelf
open Go.Proofs.YtacfbiegbdlldaaGreatDoor.Field (pAdd_any pMul_any)
set_option linter.unusedVariables false
attribute [local go_sem] Oper.semAt_some
set_option maxHeartbeats 4000000 in
theorem value_region (l id:Nat) (p x s y:Int) (aq:Option Addr) (n c Bp Bx Bs:Nat) (W:World) (u0 u6 u11 u12 u13:Value) (Q:Exit→Act→World→Prop) (hp:1≤p) (hp2:p≤65521) (hx:0≤x∧x<p) (hs:0≤s∧s<p) (hy:0≤y∧y<p)
  (hcs:W.cell? ⟨Bs,0,none⟩=some (.int .i64 s)) (hcp:W.cell? ⟨Bp,0,none⟩=some (.int .i64 p)) (hcx:W.cell? ⟨Bx,0,none⟩=some (.int .i64 x)) (hfs:W.frozen? ⟨Bs,0,none⟩=false)
  (hQ:Q .normal { tmps:=#[.int .i64 p,.slice aq n c,.int .i64 x,.pointer (some ⟨Bp,0,none⟩),undef,.pointer (some ⟨Bx,0,none⟩),u6,.pointer (some ⟨Bs,0,none⟩),undef,.int .i64 y,.slice aq n c,u11,u12,u13,.int .i64 p,.int .i64 p,.int .i64 s,.int .i64 x,.int .i64 (s*x % p),.int .i64 y,.int .i64 ((s*x+y) % p),undef],defers:=[] } (W.setCell ⟨Bs,0,none⟩ (.int .i64 ((s*x+y) % p))).drew) :
  (Code.region id #[⟨some 14,.load 111 (.tmp 3),111,"residue.go:69",#[],none⟩,⟨some 15,.load 111 (.tmp 3),111,"residue.go:69",#[],none⟩,⟨some 16,.load 3 (.tmp 7),3,"residue.go:69",#[],none⟩,⟨some 17,.load 3 (.tmp 5),3,"residue.go:69",#[],none⟩,
   ⟨some 18,.call { callee:=.value (.func 80),args:=#[.tmp 15,.tmp 16,.tmp 17],argTypes:=#[111,3,3] },3,"residue.go:69",#[⟨1,.data⟩,⟨2,.data⟩,⟨3,.data⟩],none⟩,⟨some 19,.move (.tmp 9),3,"residue.go:69",#[],none⟩,
   ⟨some 20,.call { callee:=.value (.func 79),args:=#[.tmp 14,.tmp 18,.tmp 19],argTypes:=#[111,3,3] },3,"residue.go:69",#[⟨0,.data⟩,⟨4,.data⟩,⟨5,.data⟩,⟨4,.chain⟩],none⟩,
   ⟨none,.store 3 (.tmp 7) (.tmp 20),0,"residue.go:69",#[⟨6,.data⟩,⟨6,.chain⟩,⟨0,.phase⟩,⟨1,.phase⟩,⟨2,.phase⟩,⟨3,.phase⟩,⟨4,.phase⟩,⟨5,.phase⟩,⟨6,.phase⟩],none⟩] true).wpIn (Fence.wide.inRound l) 1 Tryz.prog Q { tmps:=#[.int .i64 p,.slice aq n c,.int .i64 x,.pointer (some ⟨Bp,0,none⟩),undef,.pointer (some ⟨Bx,0,none⟩),u6,.pointer (some ⟨Bs,0,none⟩),undef,.int .i64 y,.slice aq n c,u11,u12,u13,undef,undef,undef,undef,undef,undef,undef,undef],defers:=[] } W:=by
 have e1:=fun W=>pMul_any p s x W hp hp2 hs.1 hs.2 hx.1 hx.2
 have e2:=fun W=>pAdd_any p (s*x % p) y W hp hp2 (Int.emod_nonneg _ (by omega)) (Int.emod_lt_of_pos _ (by omega)) hy.1 hy.2
 have hm:Tryz.prog.follows .mixedOrders=true:=by kernel_rfl
 gi_region_with_o (first|(refine⟨trivial,(CallsIn.inRound l (callsIn_wide.2 (e1 _))).mono ?_⟩;rintro e w' ⟨rfl,rfl⟩)|(refine⟨trivial,(CallsIn.inRound l (callsIn_wide.2 (e2 _))).mono ?_⟩;rintro e w' ⟨rfl,rfl⟩))
 all_goals exact hQ
end Go.Proofs.YtacfbiegbdlldaaGreatDoor.Tw
end
section
namespace Go.Proofs.YtacfbiegbdlldaaGreatDoor.Tw
open Go Go.RowKit Go.Shelf
open Go.Proofs.YtacfbiegbdlldaaGreatDoor.Field (pAdd_any pMul_any)
set_option linter.unusedVariables false
attribute [local go_sem] Oper.semAt_some
def backs (l:List Int):List (Nat × Int):=(List.range l.length).reverse.map fun i=>(i,l.getD i 0)
def enc2 (x:Nat × Int):Array Value:=#[.int .i64 x.1,.int .i64 x.2]
theorem backs_len {l:List Int}:(backs l).length=l.length:=by simp [backs]
theorem backs_next {l:List Int} {k:Nat} (h:k<l.length):(backs l).take (k+1)=(backs l).take k++[(l.length-1-k,l.getD (l.length-1-k) 0)]:=by
 rw[List.take_succ_eq_append_getElem (by rw[backs_len];exact h)]
 congr 2
 simp [backs]
theorem backward_any (v:Value) (w:World) (h1:v.oneCell'=true) :
  Calls Tryz.prog 78 #[v] w fun e w'=>e=.returned (.func (.func 98) #[] #[.pointer (some ⟨w.heap.size,0,none⟩)])∧w.alloc (.cells #[v] 22)=w':=by
 go_enter Tryz.func78,Tryz.ntmps78
 go_wp2
 go_ret
 exact⟨rfl,rfl⟩
theorem backward_in (F:Fence) (n:Nat) (hf:F.fn 98) (hro:F.round=none) (hn:1≤n) (l Bu:Nat) (K S:Nat→Prop) (hBu:K Bu) (hS:∀ b,S b→K b) (v:Value) (L:List Int) (J:List (Nat × Int)→World→Prop) (W0:World)
  (hbx:W0.heap[Bu]?=some (.cells #[v] 22 (0,0))) (hq:Lst W0 S v L) (hlen:L.length≤1000000000)
  (hY:∀ pre x W,J pre W→pre.length<(backs L).length→(backs L).take (pre.length+1)=pre++[x]→YieldAt F (n-1) Tryz.prog l (enc2 x) W fun e W'=>e=.returned (.bool true)∧J (pre++[x]) W'∧KeepK K W W')
  (h0:J [] W0) :
  CallsIn F n Tryz.prog 98 #[.func (.yield l) #[] #[],.pointer (some ⟨Bu,0,none⟩)] W0 fun e W'=>(∃ v,e=.returned v)∧J (backs L) W':=by
 obtain⟨aq,cq,rfl,hq1,hq2⟩:=hq.form
 have hc0:W0.cell? ⟨Bu,0,none⟩=some (.slice aq L.length cq):=by simp [World.cell?,hbx]
 have Hbx:=Lib.hid hbx
 clear hbx
 refine callsIn_of_wp Tryz.func98 rfl hf ?_ hro
 simp only[Tryz.ntmps98,List.size_toArray,List.length_cons,List.length_nil,Nat.reduceAdd,Nat.reduceSub,Array.replicate_succ,Array.replicate_zero,List.push_toArray,List.append_toArray,List.nil_append,List.cons_append]
 gi_wp2
 gi_loopw [3] (fun i wr=>∃ k:Nat,i=.int .i64 ((L.length:Int)-1-k)∧k≤L.length∧J ((backs L).take k) wr∧KeepK K W0 wr) (fun i wr=>(intOf i+1).toNat)
 case atStart =>
  exact⟨0,by simp,Nat.zero_le _,h0,KeepK.refl _ _⟩
 case round =>
  obtain⟨k,rfl,hk,hj,hb⟩:=hrel
  by_cases hkl:k<L.length
  ·have hnext:=backs_next hkl
   obtain⟨j,hj2⟩:∃ j:Nat,L.length-1-k=j:=⟨_,rfl⟩
   rw[hj2] at hnext
   have hjk:j+k+1=L.length:=by omega
   clear hj2
   have hjl:j<L.length:=by omega
   have hji:(L.length:Int)-1-k=(j:Int):=by omega
   obtain⟨g,off,cs,rfl,hg,hr,hcs,hI⟩:=hq.at_ hjl
   subst hcs
   have hjd:L.getD j 0=L[j]:=by simp [List.getD_eq_getElem?_getD,hjl]
   rw[hjd] at hnext
   have hc1:wr.cell? ⟨g,off+j,none⟩=some (.int .i64 L[j]):=(hb.cell (p:=⟨g,off+j,none⟩) (hS _ hg.1)).trans (by have:=hr 0 _ rfl;simpa [Rep.sz] using this)
   have hcb:wr.cell? ⟨Bu,0,none⟩=some (.slice (some ⟨g,off,none⟩) L.length cq):=(hb.cell (p:=⟨Bu,0,none⟩) hBu).trans hc0
   have hlt:((backs L).take k).length=k:=by rw[List.length_take,backs_len];omega
   obtain⟨fn,tmps,assign,body,hy,hR⟩:=hY _ (j,L[j]) wr hj (by rw[hlt,backs_len];omega) (by rw[hlt];exact hnext)
   simp only[enc2] at hy
   rw[hji]
   have Hji:=Lib.hid hji
   have Hjk:=Lib.hid hjk
   have hk1:(k:Int)+j+1=L.length:=by omega
   have Hk1:=Lib.hid hk1
   have Hlt:=Lib.hid hlt
   clear hji hjk hk1 hjd hlt
   gi_wp2
   refine hR.mono ?_
   rintro e W3 ⟨rfl,hJ3,hk3⟩
   gi_wp2
   have:=Hk1.out
   refine⟨⟨k+1,?_,hkl,?_,hb.trans hk3⟩,?_⟩
   ·rw[show (j:Int)-1=(L.length:Int)-1-(k+1:Nat) by omega]
   ·rw[hnext];exact hJ3
   ·simp only[intOf];omega
  ·obtain rfl:k=L.length:=by omega
   rw[show (L.length:Int)-1-(L.length:Nat)=-1 by omega]
   gi_wp2
   go_end0
   refine⟨⟨_,rfl⟩,?_⟩
   have:=hj
   rwa [List.take_of_length_le (by rw[backs_len];exact Nat.le_refl _)] at this
def sumP (p x:Int) (pre:List (Nat × Int)):Int:=pre.foldl (fun s y=>(s*x % p+y.2) % p) 0
def valF (p:Int) (l:List Int) (x:Int):Int:=l.foldr (fun c s=>(s*x % p+c) % p) 0
theorem sumP_all (p x:Int) (l:List Int):sumP p x (backs l)=valF p l x:=by
 have:l=(List.range l.length).map fun i=>l.getD i 0:=by
  apply List.ext_getElem (by simp)
  intro i h1 h2
  simp [List.getD_eq_getElem?_getD,h1]
 unfold sumP backs valF
 rw[List.foldl_map,List.foldl_reverse]
 conv=>rhs;rw[this,List.foldr_map]
theorem sumP_snoc (p x:Int) (pre:List (Nat × Int)) (y:Nat × Int):sumP p x (pre++[y])=(sumP p x pre*x % p+y.2) % p:=by
 simp [sumP]
theorem sumP_in {p x:Int} (hp:1≤p):∀ pre:List (Nat × Int),0≤sumP p x pre∧sumP p x pre<p:=fun pre=>by
 rcases List.eq_nil_or_concat pre with rfl|⟨q,y,rfl⟩
 ·simp [sumP];omega
 ·rw[List.concat_eq_append,sumP_snoc]
  exact⟨Int.emod_nonneg _ (by omega),Int.emod_lt_of_pos _ (by omega)⟩
structure SumI (p x:Int) (w:World) (pre:List (Nat × Int)) (W:World):Prop where
 sum:W.heap[w.heap.size+2]?=some (.cells #[.int .i64 (sumP p x pre)] 3 (0,0))
 p:W.heap[w.heap.size]?=some (.cells #[.int .i64 p] 111 (0,0))
 x:W.heap[w.heap.size+1]?=some (.cells #[.int .i64 x] 3 (0,0))
 below:Below w.heap.size w W
 size:w.heap.size+4≤W.heap.size
theorem value_any (p x:Int) (L:List Int) (v:Value) (w:World) (hp:1≤p) (hp2:p≤65521) (hx:0≤x∧x<p) (hL:∀ y ∈ L,0≤y∧y<p) (hq:Lst w (Lo w.heap.size) v L) (hlen:L.length≤1000000000) :
  Calls Tryz.prog 47 #[.int .i64 p,v,.int .i64 x] w fun e w'=>e=.returned (.int .i64 (valF p L x))∧Below w.heap.size w w':=by
 obtain⟨aq,cq,rfl,hq1,hq2⟩:=hq.form
 refine (callsIn_wide (n:=3)).1 ?_
 refine callsIn_of_wp_marks Tryz.func47 rfl trivial ?_ rfl
 simp only[Tryz.ntmps47,List.size_toArray,List.length_cons,List.length_nil,Nat.reduceAdd,Nat.reduceSub,Array.replicate_succ,Array.replicate_zero,List.push_toArray,List.append_toArray,List.nil_append,List.cons_append]
 gi_wp2
 refine⟨trivial,(callsIn_wide (n:=2)).2 ((backward_any _ _ rfl).mono ?_)⟩
 rintro e w1 ⟨rfl,rfl⟩
 gi_wp2
 let w1:=(((w.alloc (.cells #[.int .i64 p] 111)).alloc (.cells #[.int .i64 x] 3)).alloc (.cells #[.int .i64 0] 3)).alloc (.cells #[.slice aq L.length cq] 22)
 have hbs:w1.heap.size=w.heap.size+4:=by simp [w1]
 refine wpIn_range_keep rfl (by decide) (gf:=98) (lb:=#[.pointer (some ⟨w.heap.size+3,0,none⟩)]) (by simp [go_sem]) trivial (enters_of Tryz.func98 (by kernel_rfl) rfl)
  enc2 (fun _=>rfl) (backs L) (fun k=>k<w.heap.size∨k=w.heap.size+3) ?hK (SumI p x w) ?hI ?h0 ?hIb ?hseq
  (fun y=>{ tmps:=#[.int .i64 p,.slice aq L.length cq,.int .i64 x,.pointer (some ⟨w.heap.size,0,none⟩),undef,.pointer (some ⟨w.heap.size+1,0,none⟩),.int .i64 0,.pointer (some ⟨w.heap.size+2,0,none⟩),undef,.int .i64 y.2,.slice aq L.length cq,.func (.func 98) #[] #[.pointer (some ⟨w.heap.size+3,0,none⟩)],.int .i64 y.1,.int .i64 y.2,undef,undef,undef,undef,undef,undef,undef,undef],defers:=[] }) ?assign ?body ?done
 case hK =>
  intro k hk
  simp
  omega
 case hI =>
  intro pre W W' hi hb
  have hn:∀ k,k<w.heap.size+4→W'.heap[k]?=W.heap[k]?:=fun k hk=>hb.block k (by have:=hi.size;omega) (by simp;omega)
  have:=hb.size
  exact⟨(hn _ (by omega)).trans hi.sum,(hn _ (by omega)).trans hi.p,(hn _ (by omega)).trans hi.x,hi.below.trans ⟨hb.os,hb.tape,hb.output,hb.size,fun k hk=>hn k (by omega)⟩,by have:=hi.size;omega⟩
 case h0 =>
  have h1:∀ (V:World) (o o':Obj) (k:Nat),V.heap[k]?=some o→(V.alloc o').heap[k]?=some o:=fun V o o' k h=>(Below.heap_alloc V o' k (Array.getElem?_eq_some_iff.1 h).1).trans h
  refine⟨?_,?_,?_,?_,by simp⟩
  ·refine h1 _ _ _ _ ?_
   have:=World.alloc_heap_new ((w.alloc (.cells #[.int .i64 p] 111)).alloc (.cells #[.int .i64 x] 3)) (.cells #[.int .i64 0] 3)
   simpa [sumP] using this
  ·exact h1 _ _ _ _ (h1 _ _ _ _ (h1 _ _ _ _ (World.alloc_heap_new w _)))
  ·refine h1 _ _ _ _ (h1 _ _ _ _ ?_)
   have:=World.alloc_heap_new (w.alloc (.cells #[.int .i64 p] 111)) (.cells #[.int .i64 x] 3)
   simpa using this
  ·exact ((((Below.refl _ w).alloc (Nat.le_refl _) _).alloc (by simp) _).alloc (by simp;omega) _).alloc (by simp;omega) _
 case hIb =>
  intro pre W W' hi hb
  have hs:=hi.size
  exact⟨(hb.block _ (by omega)).trans hi.sum,(hb.block _ (by omega)).trans hi.p,(hb.block _ (by omega)).trans hi.x,hi.below.trans ⟨hb.os,hb.tape,hb.output,hb.size,fun k hk=>hb.block k (by omega)⟩,Nat.le_trans hs hb.size⟩
 case hseq =>
  intro l J W hJb hY hj hb
  refine backward_in Fence.wide 2 trivial rfl (by decide) l (w.heap.size+3) (fun k=>k<w.heap.size∨k=w.heap.size+3) (Lo w.heap.size) (.inr rfl) (fun b hb=>.inl hb) (.slice aq L.length cq) L J W ?_ ?_ hlen hY hj
  ·refine (hb.block _ (.inr rfl)).trans ?_
   have:=World.alloc_heap_new (((w.alloc (.cells #[.int .i64 p] 111)).alloc (.cells #[.int .i64 x] 3)).alloc (.cells #[.int .i64 0] 3)) (.cells #[.slice aq L.length cq] 22)
   simpa using this
  ·have hw:Below w.heap.size w W:=⟨hb.os,hb.tape,hb.output,by have:=hb.size;simp at this;omega,fun k hk=>(hb.block k (.inl hk)).trans ((((((Below.refl w.heap.size w).alloc (Nat.le_refl _) (.cells #[.int .i64 p] 111)).alloc (by simp) (.cells #[.int .i64 x] 3)).alloc (by simp;omega) (.cells #[.int .i64 0] 3)).alloc (by simp;omega) (.cells #[.slice aq L.length cq] 22)).block k hk)⟩
   exact hq.below hw (Nat.le_refl _)
 case assign =>
  intro l y W K hK
  simp only[enc2]
  gi_wp2
  exact hK
 case body =>
  rintro l pre y W hi hpl hpt hlt
  have hs:=sumP_in (p:=p) (x:=x) hp pre
  have hy:0≤y.2∧y.2<p:=by
   have:y ∈ (backs L).take (pre.length+1):=by rw[hpt];simp
   have h2:=List.mem_of_mem_take this
   simp only[backs,List.mem_map,List.mem_reverse,List.mem_range] at h2
   obtain⟨i,hi,rfl⟩:=h2
   simp only[List.getD_eq_getElem?_getD,List.getElem?_eq_getElem hi,Option.getD_some]
   exact hL _ (List.getElem_mem hi)
  have hcs:W.cell? ⟨w.heap.size+2,0,none⟩=some (.int .i64 (sumP p x pre)):=by simp [World.cell?,hi.sum]
  have hcp:W.cell? ⟨w.heap.size,0,none⟩=some (.int .i64 p):=by simp [World.cell?,hi.p]
  have hcx:W.cell? ⟨w.heap.size+1,0,none⟩=some (.int .i64 x):=by simp [World.cell?,hi.x]
  have hfs:W.frozen? ⟨w.heap.size+2,0,none⟩=false:=by simp [World.frozen?,hi.sum]
  have hsn:=sumP_snoc p x pre y
  generalize sumP p x pre=s at *
  have Hsn:=Lib.hid hsn
  have Hi:=Lib.hid hi
  clear hsn hi hpt hpl
  have hw1:w1.heap.size=w.heap.size+4:=hbs
  gi_wp2
  refine value_region l 4 p x s y.2 aq L.length cq w.heap.size (w.heap.size+1) (w.heap.size+2) W undef _ _ _ _ _ hp hp2 hx hs hy hcs hcp hcx hfs ?_
  have hsn:sumP p x (pre++[y])=(s*x+y.2) % p:=by rw[Hsn.out,Int.emod_add_emod]
  have hset:∀ k,k ≠ w.heap.size+2→((W.setCell ⟨w.heap.size+2,0,none⟩ (.int .i64 ((s*x+y.2) % p))).drew).heap[k]?=W.heap[k]?:=fun k hk=>Below.heap_setCell W ⟨w.heap.size+2,0,none⟩ _ k hk
  have hi:=Hi.out
  have hsz:=hi.size
  have hb:Below w.heap.size W ((W.setCell ⟨w.heap.size+2,0,none⟩ (.int .i64 ((s*x+y.2) % p))).drew):=⟨rfl,rfl,rfl,by simp [World.drew,World.setCell],fun k hk=>hset k (by omega)⟩
  refine⟨rfl,⟨?_,(hset _ (by omega)).trans hi.p,(hset _ (by omega)).trans hi.x,hi.below.trans hb,Nat.le_trans hsz hb.size⟩,⟨rfl,rfl,rfl,hb.size,fun k hk=>hset k (by omega)⟩,fun k hk=>hset k (by rcases hk with rfl|rfl <;> simp <;> omega)⟩
  rw[hsn]
  simp [World.drew,World.setCell,Array.getElem?_modify,hi.sum]
 case done =>
  rintro W hi hD
  have hcs:W.cell? ⟨w.heap.size+2,0,none⟩=some (.int .i64 (sumP p x (backs L))):=by simp [World.cell?,hi.sum]
  rw[sumP_all] at hcs
  gi_wp2
  refine⟨by simp,.inl ⟨_,_,rfl,run_takeDeferred hD,?_⟩⟩
  refine⟨_,results_tmp rfl _ _ _,rfl,?_⟩
  exact hi.below.trans ⟨rfl,rfl,rfl,by simp [World.putObj],fun k hk=>World.putObj_heap_other (by simp;omega)⟩
end Go.Proofs.YtacfbiegbdlldaaGreatDoor.Tw
end
section
namespace Go.Proofs.YtacfbiegbdlldaaGreatDoor.Sim
open Go Go.RowKit Go.Deep
set_option maxRecDepth 100000
set_option linter.unusedVariables false
theorem chunks_of {α:Type} [Rep α] (f:α→List D) (Q:α→Prop) {w:World} {S:Nat→Prop} (hf:∀ cs x,Q x→Cells w S (f x) cs→Rep.is w S cs x):∀ (l:List α) (xs:List Value),(∀ x ∈ l,Q x)→Rows w S (Rep.sz α) (l.map f) xs→Chunks w S xs l
 |[],xs,_,h=>by simp only[Rows,List.map_nil] at h;exact h
 |a :: l,xs,hq,h=>by
  simp only[Rows,List.map_cons] at h
  obtain⟨x,r,rfl,h1,h2,h3⟩:=h
  exact⟨x,r,rfl,hf _ _ (hq a (by simp)) h2,chunks_of f Q hf l r (fun y hy=>hq y (by simp [hy])) h3⟩
theorem sl_lst {α:Type} [Rep α] (f:α→List D) (Q:α→Prop) {w:World} {S:Nat→Prop} (hf:∀ cs x,Q x→Cells w S (f x) cs→Rep.is w S cs x) {v:Value} {l:List α} (hq:∀ x ∈ l,Q x) (h:(D.sl (Rep.sz α) (l.map f)).is w S v):Lst w S v l:=by
 simp only[D.is] at h
 obtain⟨a,cap,xs,rfl,h1,h2,h3,h4⟩:=h
 rw[lm] at h1 h4 ⊢
 exact⟨xs,a,cap,rfl,h1,h2,chunks_of f Q hf l xs hq h3,h4⟩
theorem dints_lst {w:World} {S:Nat→Prop} {v:Value} {l:List Int} (hq:∀ x ∈ l,I64 x) (h:(dInts l).is w S v):Lst w S v l :=
 sl_lst (α:=Int) eI I64 (fun cs x hx hc=>by
  simp only[eI,Cells,D.is] at hc
  obtain⟨u,r,rfl,⟨rfl,-⟩,rfl⟩:=hc
  exact⟨rfl,hx⟩) hq h
def valF (p:Int) (l:List Int) (x:Int):Int:=l.foldr (fun c s=>(s*x % p+c) % p) 0
theorem value (p x:Int) (l:List Int) (hp:1≤p) (hp2:p≤65521) (hx:0≤x∧x<p) (hl:l.all (inE p)=true) (hb:l.length≤1000000):Does Tryz.prog 47 [I p,.d (dInts l),I x] [] (I (valF p l x)) [] []:=by
 have hl2:∀ y ∈ l,0≤y∧y<p:=fun y hy=>by
  have:=List.all_eq_true.1 hl y hy
  simpa [inE] using this
 refine does_at (r:=.int .i64 (valF p l x)) rfl fun w m hd S us hS hv=>?_
 simp only[VRs,VR,I] at hv
 obtain⟨u,r,rfl,h1,u2,r2,rfl,h2,u3,r3,rfl,h3,rfl⟩:=hv
 simp only[D.is] at h1 h3
 obtain⟨rfl,-⟩:=h1
 obtain⟨rfl,-⟩:=h3
 have hq:=(dints_lst (fun y hy=>by have:=hl2 y hy;constructor <;> omega) h2).more (S':=Lo w.heap.size) (fun b hb=>hS b hb)
 exact Go.Proofs.YtacfbiegbdlldaaGreatDoor.Tw.value_any p x l u2 w hp hp2 hx hl2 hq (by omega)
theorem valF_in {p x:Int} {l:List Int} (hp:1≤p):0≤valF p l x∧valF p l x<p:=by
 cases l with
 |nil=>simp [valF];omega
 |cons c l=>simp only[valF,List.foldr_cons];exact⟨Int.emod_nonneg _ (by omega),Int.emod_lt_of_pos _ (by omega)⟩
end Go.Proofs.YtacfbiegbdlldaaGreatDoor.Sim
end
section
namespace Go.Proofs.YtacfbiegbdlldaaGreatDoor.Sim
open Go Go.RowKit Go.Deep
set_option maxRecDepth 100000
set_option maxHeartbeats 4000000
set_option linter.unusedVariables false
set_option linter.unusedSimpArgs false
attribute [local irreducible] Go Mean
def addAt (p x:Int) (L r:List Int) (e k:Nat):List Int:=(List.range L.length).map fun i=>if e≤i∧i<e+k then (L.getD i 0+x*r.getD (i-e) 0 % p) % p else L.getD i 0
theorem addAt_len {p x:Int} {L r:List Int} {e k:Nat}:(addAt p x L r e k).length=L.length:=by simp [addAt]
theorem addAt_get {p x:Int} {L r:List Int} {e k i:Nat} (h:i<L.length):(addAt p x L r e k).getD i 0=if e≤i∧i<e+k then (L.getD i 0+x*r.getD (i-e) 0 % p) % p else L.getD i 0:=by
 simp [addAt,List.getD_eq_getElem?_getD,h]
theorem addAt_next {p x:Int} {L r:List Int} {e k:Nat} (h:e+k<L.length):(addAt p x L r e k).set (e+k) ((L.getD (e+k) 0+x*r.getD k 0 % p) % p)=addAt p x L r e (k+1):=by
 apply List.ext_getElem (by simp [addAt])
 intro i h1 h2
 simp only[addAt,List.getElem_set,List.getElem_map,List.getElem_range]
 by_cases e1:e+k=i
 ·subst e1
  rw[if_pos rfl,if_pos (by omega),Nat.add_sub_cancel_left]
 ·rw[if_neg e1]
  by_cases h3:e≤i∧i<e+k
  ·rw[if_pos h3,if_pos (by omega)]
  ·rw[if_neg h3,if_neg (by omega)]
theorem addAt_zero {p x:Int} {L r:List Int} {e:Nat}:addAt p x L r e 0=L:=by
 apply List.ext_getElem (by simp [addAt])
 intro i h1 h2
 simp only[addAt,List.getElem_map,List.getElem_range]
 rw[if_neg (by omega)]
 simp [List.getD_eq_getElem?_getD,h2]
theorem addAt_in {p x:Int} {L r:List Int} {e k:Nat} (hp:1≤p) (hL:L.all (inE p)=true):(addAt p x L r e k).all (inE p)=true:=by
 rw[List.all_eq_true] at hL ⊢
 intro y hy
 simp only[addAt,List.mem_map,List.mem_range] at hy
 obtain⟨i,hi,rfl⟩:=hy
 split
 ·exact inE_yes ⟨Int.emod_nonneg _ (by omega),Int.emod_lt_of_pos _ (by omega)⟩
 ·exact hL _ (mem_getD _ _ _ hi)
theorem inE_iff {p x:Int}:inE p x=true↔0≤x∧x<p:=by simp [inE]
theorem all_get {p:Int} {l:List Int} (h:l.all (inE p)=true) {i:Nat} (hi:i<l.length):0≤l.getD i 0∧l.getD i 0<p:=inE_iff.1 (List.all_eq_true.1 h _ (mem_getD _ _ _ hi))
theorem addTimesT (p x:Int) (L r:List Int) (e:Nat) (hp:1≤p) (hp2:p≤65521) (hx:0≤x∧x<p) (hL:L.all (inE p)=true) (hr:r.all (inE p)=true) (hl:e+r.length≤L.length) (hb:L.length≤1000000):Does Tryz.prog 48 [I p,.ot 900000 0 e,I x,.d (dInts r)] [(900000,.arr 0 1 true (L.map eI))] (.tu []) [(900000,.arr 0 1 true ((addAt p x L r e r.length).map eI))] []:=by
 refine G74' rfl ⟨rfl,by simp⟩ fun cx hm0=>go_in 5000 ?_
 unfold A74' R74'
 repeat' (first|simp (maxSteps:=9999999) only[↓GE,PL,PP,EE,QQ,seval,lm]|(simp (disch:=omega) only[i6])|(apply go_brD<;>intro h)|(apply go_gsD aE<;>intro h)|(apply go_br<;>intro h)|(apply go_gs aE<;>intro h)|(with_reducible apply And.intro)|exact aG|fail)
 refine go_loop 5000 hm0 (ι:={k:Nat // k≤r.length}) (fun i=>[(0,I p),(1,.ot 900000 0 e),(2,I x),(10,.d (dInts r)),(11,I r.length),(12,I i.1)]) (fun i=>[(900000,.arr 0 1 true ((addAt p x L r e i.1).map eI))]) (fun i=>r.length-i.1) [] ⟨0,Nat.zero_le _⟩ ?_ ?_
 ·(simp only[GeS];refine⟨?_,?_,?_,?_⟩;all_goals (repeat' (first|(with_reducible exact True.intro)|(with_reducible rfl)|simp only[XC,↓reduceIte,seval]|(with_reducible apply And.intro)|(refine⟨_,rfl,?_⟩)|(simp [addAt_zero];done)|exact aS|fail)))
 ·rintro⟨k,hk⟩
  simp only
  by_cases hkr:k<r.length
  ·have hs1:=getD_map eI [] 0 r k hkr
   have hs2:=getD_map eI [] 0 (addAt p x L r e k) (e+k) (by rw[addAt_len];omega)
   rw[addAt_get (by omega),if_neg (by omega)] at hs2
   have hn:=addAt_next (p:=p) (x:=x) (r:=r) (show e+k<L.length by omega)
   have h1:=all_get hL (i:=e+k) (by omega)
   have h2:=all_get hr hkr
   have qk:e+k<(addAt p x L r e k).length:=by rw[addAt_len];omega
   generalize L.getD (e+k) 0=a at *
   generalize r.getD k 0=b at *
   have e1:=fmul p x b hp hp2 hx h2
   have e2:=fadd p a (x*b % p) hp hp2 h1 ⟨Int.emod_nonneg _ (by omega),Int.emod_lt_of_pos _ (by omega)⟩
   repeat' (first|simp (maxSteps:=9999999) only[↓GE,PL,PP,EE,QQ,seval,hs1,hs2,qk,eI,lm]|(simp (disch:=omega) only[i6])|(apply go_brD<;>intro h)|(apply go_gsD aE<;>intro h)|(apply go_br<;>intro h)|(apply go_gs aE<;>intro h)|(apply go_call 5000 (e1) rfl rfl;iterate 4 (first|(exact CallForm.plain rfl)|exact aC))|(apply go_call 5000 (e2) rfl rfl;iterate 4 (first|(exact CallForm.plain rfl)|exact aC))|(with_reducible apply And.intro)|exact aG|fail)
   refine⟨⟨k+1,hkr⟩,?_,by simp only;omega⟩
   (simp only[GeS];refine⟨?_,?_,?_,?_⟩;all_goals (repeat' (first|(with_reducible exact True.intro)|(with_reducible rfl)|simp only[XC,↓reduceIte,seval]|(with_reducible apply And.intro)|(refine⟨_,rfl,?_⟩)|(simp [← hn,List.map_set,eI];done)|exact aS|fail)))
  ·obtain rfl:k=r.length:=by omega
   repeat' (first|simp (maxSteps:=9999999) only[↓GE,PL,PP,EE,QQ,seval]|(simp (disch:=omega) only[i6])|(apply go_brD<;>intro h)|(apply go_gsD aE<;>intro h)|(apply go_br<;>intro h)|(apply go_gs aE<;>intro h)|(with_reducible apply And.intro)|exact aG|fail)
   all_goals ((first|apply ret_mk []|apply end_mk []);(· exact aR);(· exact aZ);all_goals exact aF)
def trimN (l:List Int):Nat→Nat
 |0=>0
 |n+1=>if l.getD n 0=0 then trimN l n else n+1
def trimF (l:List Int):List Int:=l.take (trimN l l.length)
theorem trimN_le (l:List Int):∀ n,trimN l n≤n
 |0=>Nat.le_refl _
 |n+1=>by rw[trimN];split;have:=trimN_le l n;omega;omega
theorem trimF_len (l:List Int):(trimF l).length=trimN l l.length:=by
 have:=trimN_le l l.length
 rw[trimF,List.length_take];omega
theorem trimD (l:List Int) (hl:l.length≤1000000):Does Tryz.prog 142 [.d (dInts l)] [] (.d (dInts (trimF l))) [] []:=by
 refine G101' rfl BxOK.nil fun cx hm0=>go_in 5000 ?_
 unfold A101' R101'
 repeat' (first|simp (maxSteps:=9999999) only[↓GE,PL,PP,EE,QQ,seval,lm]|(simp (disch:=omega) only[i6])|(apply go_brD<;>intro h)|(apply go_gsD aE<;>intro h)|(apply go_br<;>intro h)|(apply go_gs aE<;>intro h)|(with_reducible apply And.intro)|exact aG|fail)
 refine go_loop 5000 hm0 (ι:={k:Nat // k≤l.length∧trimN l l.length=trimN l k}) (fun i=>[(0,.d (dInts l)),(2,.nl 1),(3,I i.1)]) (fun i=>[]) (fun i=>i.1) [] ⟨l.length,Nat.le_refl _,rfl⟩ ?_ ?_
 ·exact aH
 ·rintro⟨k,hk,hv⟩
  simp only
  cases k with
  |zero =>
   have q:decide (((0:Nat):Int) > 0)=false:=rfl
   repeat' (first|simp (maxSteps:=9999999) only[↓GE,PL,PP,EE,QQ,seval,q,lm]|(simp (disch:=omega) only[i6])|(apply go_brD<;>intro h)|(apply go_gsD aE<;>intro h)|(apply go_br<;>intro h)|(apply go_gs aE<;>intro h)|(with_reducible apply And.intro)|exact aG|fail)
   simp only[trimN] at hv
   ((first|apply ret_mk []|apply end_mk []);(· exact aR);(· ((try simp only[CC,LL,EE,QQ,seval]) <;> repeat' (first|exact aD|(with_reducible apply And.intro)|(simp [*,trimF,hv];done)|(simp [*,trimF,hv];omega)|(simp_all [trimF,hv];done)|(simp_all [trimF,hv];omega))));all_goals (first|((try simp only[CC,LL,EE,QQ,seval]) <;> (repeat' (first|(with_reducible apply And.intro)|trivial|rfl|(simp [trimF,hv];done)));done)|exact aF))
  |succ k =>
   have hs:=getD_map eI [] 0 l k hk
   have q:decide (((k+1:Nat):Int) > 0)=true:=dt (by omega)
   have w:IntKind.i64.wrap (((k+1:Nat):Int)-1)=(k:Int):=by rw[i6 _ (by omega)];omega
   rw[trimN] at hv
   by_cases h0:l.getD k 0=0
   ·rw[if_pos h0] at hv
    have q2:(l.getD k 0 == 0)=true:=by simpa using h0
    repeat' (first|simp (maxSteps:=9999999) only[↓GE,PL,PP,EE,QQ,seval,q,w,hs,q2,eI,lm]|(simp (disch:=omega) only[i6])|(apply go_brD<;>intro h)|(apply go_gsD aE<;>intro h)|(apply go_br<;>intro h)|(apply go_gs aE<;>intro h)|(with_reducible apply And.intro)|exact aG|fail)
    refine⟨⟨k,by omega,hv⟩,?_,by simp only;omega⟩
    exact aH
   ·rw[if_neg h0] at hv
    have q2:(l.getD k 0 == 0)=false:=by simpa using h0
    repeat' (first|simp (maxSteps:=9999999) only[↓GE,PL,PP,EE,QQ,seval,q,w,hs,q2,eI,lm]|(simp (disch:=omega) only[i6])|(apply go_brD<;>intro h)|(apply go_gsD aE<;>intro h)|(apply go_br<;>intro h)|(apply go_gs aE<;>intro h)|(with_reducible apply And.intro)|exact aG|fail)
    ((first|apply ret_mk []|apply end_mk []);(· exact aR);(· ((try simp only[CC,LL,EE,QQ,seval]) <;> repeat' (first|exact aD|(with_reducible apply And.intro)|(simp [*,trimF,hv,List.map_take];done)|(simp [*,trimF,hv,List.map_take];omega)|(simp_all [trimF,hv,List.map_take];done)|(simp_all [trimF,hv,List.map_take];omega))));all_goals (first|((try simp only[CC,LL,EE,QQ,seval]) <;> (repeat' (first|(with_reducible apply And.intro)|trivial|rfl|(simp [trimF,hv,List.map_take];done)));done)|exact aF))
theorem trimO (l:List Int) (hl:l.length≤1000000):Does Tryz.prog 142 [.og 900000 0] [(900000,.arr 0 1 true (l.map eI))] (.og 900000 1) [(900000,.arr 1 1 true ((trimF l).map eI))] []:=by
 refine G101' rfl ⟨rfl,by simp⟩ fun cx hm0=>go_in 5000 ?_
 unfold A101' R101'
 repeat' (first|simp (maxSteps:=9999999) only[↓GE,PL,PP,EE,QQ,seval,lm]|(simp (disch:=omega) only[i6])|(apply go_brD<;>intro h)|(apply go_gsD aE<;>intro h)|(apply go_br<;>intro h)|(apply go_gs aE<;>intro h)|(with_reducible apply And.intro)|exact aG|fail)
 refine go_loop 5000 hm0 (ι:={k:Nat // k≤l.length∧trimN l l.length=trimN l k}) (fun i=>[(0,.og 900000 0),(2,.nl 1),(3,I i.1)]) (fun i=>[(900000,.arr 0 1 true (l.map eI))]) (fun i=>i.1) [] ⟨l.length,Nat.le_refl _,rfl⟩ ?_ ?_
 ·exact aH
 ·rintro⟨k,hk,hv⟩
  simp only
  cases k with
  |zero =>
   have q:decide (((0:Nat):Int) > 0)=false:=rfl
   simp only[trimN] at hv
   have ht:trimF l=[]:=by rw[trimF,hv];rfl
   rw[ht]
   repeat' (first|simp (maxSteps:=9999999) only[↓GE,PL,PP,EE,QQ,seval,q,lm]|(simp (disch:=omega) only[i6])|(apply go_brD<;>intro h)|(apply go_gsD aE<;>intro h)|(apply go_br<;>intro h)|(apply go_gs aE<;>intro h)|(with_reducible apply And.intro)|exact aG|fail)
   ((first|apply ret_mk []|apply end_mk []);(· exact aR);(· exact aZ);all_goals exact aF)
  |succ k =>
   have hs:=getD_map eI [] 0 l k hk
   have q:decide (((k+1:Nat):Int) > 0)=true:=dt (by omega)
   have w:IntKind.i64.wrap (((k+1:Nat):Int)-1)=(k:Int):=by rw[i6 _ (by omega)];omega
   rw[trimN] at hv
   have qk:k<l.length:=hk
   by_cases h0:l.getD k 0=0
   ·rw[if_pos h0] at hv
    have q2:(l.getD k 0 == 0)=true:=by simpa using h0
    repeat' (first|simp (maxSteps:=9999999) only[↓GE,PL,PP,EE,QQ,seval,q,w,hs,q2,qk,eI,lm]|(simp (disch:=omega) only[i6])|(apply go_brD<;>intro h)|(apply go_gsD aE<;>intro h)|(apply go_br<;>intro h)|(apply go_gs aE<;>intro h)|(with_reducible apply And.intro)|exact aG|fail)
    refine⟨⟨k,by omega,hv⟩,?_,by simp only;omega⟩
    exact aH
   ·rw[if_neg h0] at hv
    have ht:(trimF l).map eI=(l.map eI).take (k+1):=by rw[trimF,hv,List.map_take]
    rw[ht]
    have q2:(l.getD k 0 == 0)=false:=by simpa using h0
    repeat' (first|simp (maxSteps:=9999999) only[↓GE,PL,PP,EE,QQ,seval,q,w,hs,q2,qk,eI,lm]|(simp (disch:=omega) only[i6])|(apply go_brD<;>intro h)|(apply go_gsD aE<;>intro h)|(apply go_br<;>intro h)|(apply go_gs aE<;>intro h)|(with_reducible apply And.intro)|exact aG|fail)
    ((first|apply ret_mk []|apply end_mk []);(· exact aR);(· exact aZ);all_goals exact aF)
theorem ownP (l:List Int) (hl:l.length≤1000000):Does Tryz.prog 141 [.d (dInts l)] [] (.og 1000000 0) [] [.arr 0 1 true ((trimF l).map eI)]:=by
 refine G100' rfl BxOK.nil fun cx hm0=>go_in 5000 ?_
 unfold A100' R100'
 have e1:=trimD l hl
 have:=trimN_le l l.length
 have q:=trimF_len l
 repeat' (first|simp (maxSteps:=9999999) only[↓GE,PL,PP,EE,QQ,seval,lm]|(simp (disch:=omega) only[i6])|(apply go_brD<;>intro h)|(apply go_gsD aE<;>intro h)|(apply go_br<;>intro h)|(apply go_gs aE<;>intro h)|(apply go_call 5000 (e1) rfl rfl;iterate 4 (first|(exact CallForm.plain rfl)|exact aC))|(with_reducible apply And.intro)|exact aG|fail)
 ((first|apply ret_mk [some 5]|apply end_mk [some 5]);(· exact aR);(· exact aZ);all_goals exact aF)
def timesN (p:Int) (a b:List Int):Nat→List Int
 |0=>List.replicate (a.length+b.length-1) 0
 |n+1=>addAt p (a.getD n 0) (timesN p a b n) b n b.length
def timesF (p:Int) (a b:List Int):List Int:=timesN p a b a.length
theorem timesN_len {p:Int} {a b:List Int}:∀ {n:Nat},(timesN p a b n).length=a.length+b.length-1
 |0=>by simp [timesN]
 |n+1=>by rw[timesN,addAt_len,timesN_len]
theorem zeros_in {p:Int} (hp:1≤p) {n:Nat}:(List.replicate n (0:Int)).all (inE p)=true:=by
 rw[List.all_eq_true]
 intro x hx
 obtain⟨_,rfl⟩:=List.mem_replicate.1 hx
 exact inE_yes ⟨Int.le_refl _,by omega⟩
theorem timesN_in {p:Int} (hp:1≤p) {a b:List Int}:∀ {n:Nat},(timesN p a b n).all (inE p)=true
 |0=>zeros_in hp
 |n+1=>addAt_in hp (timesN_in hp)
theorem zeros_map (w:Nat):(List.replicate w (0:Int)).map eI=List.replicate w [D.at (.int .i64 0)]:=by rw[List.map_replicate];rfl
theorem times0 {p:Int} {a b:List Int}:(timesN p a b 0).map eI=List.replicate (a.length+b.length-1) [D.at (.int .i64 0)]:=zeros_map _
theorem times (p:Int) (a b:List Int) (hp:1≤p) (hp2:p≤65521) (ha:a.all (inE p)=true) (hb:b.all (inE p)=true) (ha1:1≤a.length) (hb1:1≤b.length) (ha2:a.length≤10000) (hb2:b.length≤10000):Does Tryz.prog 146 [I p,.d (dInts a),.d (dInts b)] [] (.og 1000000 0) [] [.arr 0 1 true ((timesF p a b).map eI)]:=by
 refine G102' rfl BxOK.nil fun cx hm0=>go_in 5000 ?_
 unfold A102' R102'
 have w:IntKind.i64.wrap ((a.length:Int)+b.length)=(a.length:Int)+b.length:=i6 _ (by omega)
 have w2:IntKind.i64.wrap ((a.length:Int)+b.length-1)=((a.length+b.length-1:Nat):Int):=by rw[i6 _ (by omega)];omega
 repeat' (first|simp (maxSteps:=9999999) only[↓GE,PL,PP,EE,QQ,seval,w,w2,lm]|(simp (disch:=omega) only[i6])|(apply go_brD<;>intro h)|(apply go_gsD aE<;>intro h)|(apply go_br<;>intro h)|(apply go_gs aE<;>intro h)|(with_reducible apply And.intro)|exact aG|fail)
 refine go_loop 5000 hm0 (ι:={k:Nat // k≤a.length}) (fun i=>[(0,I p),(2,.d (dInts b)),(7,.og 16 0),(17,.d (dInts a)),(18,I a.length),(19,I i.1)]) (fun i=>[(16,.arr 0 1 true ((timesN p a b i.1).map eI))]) (fun i=>a.length-i.1) [] ⟨0,Nat.zero_le _⟩ ?_ ?_
 ·(simp only[GeS];refine⟨?_,?_,?_,?_⟩;all_goals (repeat' (first|(with_reducible exact True.intro)|(with_reducible rfl)|simp only[XC,↓reduceIte,seval]|(with_reducible apply And.intro)|(refine⟨_,rfl,?_⟩)|(simp [times0];done)|exact aS|fail)))
 ·rintro⟨k,hk⟩
  simp only
  by_cases hkr:k<a.length
  ·have hs:=getD_map eI [] 0 a k hkr
   have hx:=all_get ha hkr
   have hl:=timesN_len (p:=p) (a:=a) (b:=b) (n:=k)
   have e3:=(addTimesT p (a.getD k 0) (timesN p a b k) b k hp hp2 hx (timesN_in hp) hb (by omega) (by omega)).nm [(900000,16,0)] rfl rfl rfl rfl rfl rfl rfl rfl rfl
   have hN:addAt p (a.getD k 0) (timesN p a b k) b k b.length=timesN p a b (k+1):=rfl
   rw[hN] at e3
   have qk:k<(timesN p a b k).length:=by omega
   generalize a.getD k 0=x at *
   repeat' (first|simp (maxSteps:=9999999) only[↓GE,PL,PP,EE,QQ,seval,hs,qk,eI,lm]|(simp (disch:=omega) only[i6])|(apply go_brD<;>intro h)|(apply go_gsD aE<;>intro h)|(apply go_br<;>intro h)|(apply go_gs aE<;>intro h)|(apply go_call 5000 (e3) rfl rfl;iterate 4 (first|(exact CallForm.lent aL rfl rfl)|exact aC))|(with_reducible apply And.intro)|exact aG|fail)
   refine⟨⟨k+1,hkr⟩,?_,by simp only;omega⟩
   exact aH
  ·obtain rfl:k=a.length:=by omega
   repeat' (first|simp (maxSteps:=9999999) only[↓GE,PL,PP,EE,QQ,seval]|(simp (disch:=omega) only[i6])|(apply go_brD<;>intro h)|(apply go_gsD aE<;>intro h)|(apply go_br<;>intro h)|(apply go_gs aE<;>intro h)|(with_reducible apply And.intro)|exact aG|fail)
   all_goals ((first|apply ret_mk [some 16]|apply end_mk [some 16]);(· exact aR);(· ((try simp only[CC,LL,EE,QQ,seval]) <;> repeat' (first|exact aD|(with_reducible apply And.intro)|(simp [*,timesF];done)|(simp [*,timesF];omega)|(simp_all [timesF];done)|(simp_all [timesF];omega))));all_goals (first|((try simp only[CC,LL,EE,QQ,seval]) <;> (repeat' (first|(with_reducible apply And.intro)|trivial|rfl|(simp [timesF];done)));done)|exact aF))
theorem openP (p:Int) (a b:List Int) (hf:fieldB p=true) (ha:a.all (inE p)=true) (hb:b.all (inE p)=true) (ha2:a.length≤512) (hb2:b.length≤512):Does Tryz.prog 140 [.ag [I p],.d (dRows [a,b])] [] (.tu [I p,I 0]) [] []:=by
 refine G99' rfl BxOK.nil fun cx hm0=>go_in 5000 ?_
 unfold A99' R99'
 have e1:=resOf p
 rw[hf,if_pos rfl] at e1
 repeat' (first|simp (maxSteps:=9999999) only[↓GE,PL,PP,EE,QQ,seval,List.map_cons,List.map_nil,List.length_cons,List.length_nil]|(simp (disch:=omega) only[i6])|(apply go_brD<;>intro h)|(apply go_gsD aE<;>intro h)|(apply go_br<;>intro h)|(apply go_gs aE<;>intro h)|(apply go_call 5000 (e1) rfl rfl;iterate 4 (first|(exact CallForm.plain rfl)|exact aC))|(with_reducible apply And.intro)|exact aG|fail)
 refine go_loop 5000 hm0 (ι:={k:Nat // k≤2}) (fun i=>[(6,I p),(8,B false),(18,.d (dRows [a,b])),(19,I 2),(20,I i.1)]) (fun i=>[]) (fun i=>2-i.1) [] ⟨0,by omega⟩ ?_ ?_
 ·exact aH
 ·rintro⟨k,hk⟩
  simp only
  by_cases hkr:k<2
  ·have hs:[[dInts a],[dInts b]].getD k []=eR ([a,b].getD k []):=getD_map eR [] [] [a,b] k hkr
   have hc:([a,b].getD k []).all (inE p)=true∧([a,b].getD k []).length≤512:=by
    match k,hkr with
    |0,_=>exact⟨ha,ha2⟩
    |1,_=>exact⟨hb,hb2⟩
   generalize [a,b].getD k []=c at hs hc
   have e2:=allF p c (by omega)
   rw[hc.1] at e2
   have q:decide ((c.length:Int) > 512)=false:=df (by omega)
   have q1:decide ((k:Int)<2)=true:=dt (by omega)
   have q2:k<2:=hkr
   repeat' (first|simp (maxSteps:=9999999) only[↓GE,PL,PP,EE,QQ,seval,hs,q,q1,q2,eR,lm]|(simp (disch:=omega) only[i6])|(apply go_brD<;>intro h)|(apply go_gsD aE<;>intro h)|(apply go_br<;>intro h)|(apply go_gs aE<;>intro h)|(apply go_call 5000 (e2) rfl rfl;iterate 4 (first|(exact CallForm.plain rfl)|exact aC))|(with_reducible apply And.intro)|exact aG|fail)
   refine⟨⟨k+1,hkr⟩,?_,by simp only;omega⟩
   exact aH
  ·obtain rfl:k=2:=by omega
   repeat' (first|simp (maxSteps:=9999999) only[↓GE,PL,PP,EE,QQ,seval]|(simp (disch:=omega) only[i6])|(apply go_brD<;>intro h)|(apply go_gsD aE<;>intro h)|(apply go_br<;>intro h)|(apply go_gs aE<;>intro h)|(with_reducible apply And.intro)|exact aG|fail)
   all_goals ((first|apply ret_mk []|apply end_mk []);(· exact aR);(· exact aZ);all_goals exact aF)
theorem inverse (p a:Int) (hf:fieldB p=true) (ha:0<a∧a<p):Does Tryz.prog 143 [I p,I a] [] (I (invI p a)) [] []:=by
 obtain⟨h1,h2,h3⟩:=fieldB_iff.1 hf
 have hP:=isP_field hf
 refine does_at (r:=.int .i64 (invI p a)) rfl fun w m hd S us hS hv=>?_
 simp only[VRs,VR,I,D.is] at hv
 obtain⟨u,r,rfl,⟨rfl,-⟩,u2,r2,rfl,⟨rfl,-⟩,rfl⟩:=hv
 have:=Go.Proofs.YtacfbiegbdlldaaGreatDoor.Field.pInverse_any p.toNat a.toNat w hP (by omega) (by omega) (by omega)
 rw[show ((p.toNat:Nat):Int)=p by omega,show ((a.toNat:Nat):Int)=a by omega] at this
 refine this.mono ?_
 rintro e w' ⟨rfl,rfl⟩
 exact⟨rfl,Below.refl _ _⟩
end Go.Proofs.YtacfbiegbdlldaaGreatDoor.Sim
end
