/- A range over an iterator that reads only what lay before, where the body always goes on and leaves that alone: of no program. Condition: no deferred call in the body. -/
import Derived.RangeFuncNested
import Derived.Shelf.Abstract
section
namespace Go.Proofs.YtacfbiegbdlldaaGreatDoor
open Go Go.RowKit
set_option linter.unusedVariables false
structure But (X:Nat→Prop) (W W':World):Prop where
 os:W'.os=W.os
 tape:W'.tape=W.tape
 output:W'.output=W.output
 size:W.heap.size≤W'.heap.size
 block:∀ k,k<W.heap.size→¬ X k→W'.heap[k]?=W.heap[k]?
theorem But.putObj {W:World} {l:Nat} (o:Obj):But (fun k=>k=l) W (W.putObj l o):=by
 refine⟨rfl,rfl,rfl,?_,fun k _ hne=>World.putObj_heap_other hne⟩
 simp [World.putObj]
theorem But.setCell {W:World} {p:Addr} (u:Value):But (fun k=>k=p.block) W (W.setCell p u) :=
 ⟨rfl,rfl,rfl,by simp [World.setCell],fun k _ hne=>Below.heap_setCell W p u k hne⟩
theorem But.mono {X Y:Nat→Prop} {W W':World} (h:But X W W') (hXY:∀ k,X k→Y k):But Y W W':=⟨h.os,h.tape,h.output,h.size,fun k hk hn=>h.block k hk (fun hx=>hn (hXY k hx))⟩
variable {F:Fence} {n:Nat} {P:Program}
end Go.Proofs.YtacfbiegbdlldaaGreatDoor
end
section
namespace Go.Proofs.YtacfbiegbdlldaaGreatDoor
open Go Go.RowKit
set_option linter.unusedVariables false
def KeepD (D:Nat) (W W':World):Prop:=∀ k,k=D∨k=D+1→W'.heap[k]?=W.heap[k]?
variable {F:Fence} {n:Nat} {P:Program}
end Go.Proofs.YtacfbiegbdlldaaGreatDoor
end
section
namespace Go.Proofs.YtacfbiegbdlldaaGreatDoor
open Go Go.RowKit
set_option linter.unusedVariables false
structure KeepK (K:Nat→Prop) (w w':World):Prop where
 os:w'.os=w.os
 tape:w'.tape=w.tape
 output:w'.output=w.output
 size:w.heap.size≤w'.heap.size
 block:∀ k,K k→w'.heap[k]?=w.heap[k]?
theorem KeepK.refl (K:Nat→Prop) (w:World):KeepK K w w:=⟨rfl,rfl,rfl,Nat.le_refl _,fun _ _=>rfl⟩
theorem KeepK.trans {K:Nat→Prop} {a b c:World} (h:KeepK K a b) (k:KeepK K b c):KeepK K a c :=
 ⟨k.os.trans h.os,k.tape.trans h.tape,k.output.trans h.output,Nat.le_trans h.size k.size,fun i hi=>(k.block i hi).trans (h.block i hi)⟩
theorem KeepK.alloc {K:Nat→Prop} {a b:World} (h:KeepK K a b) (hb:∀ k,K k→k<b.heap.size) (o:Obj):KeepK K a (b.alloc o) :=
 ⟨h.os,h.tape,h.output,by have:=h.size;simp;omega,fun i hi=>(Below.heap_alloc _ _ _ (hb i hi)).trans (h.block i hi)⟩
theorem KeepK.cell {K:Nat→Prop} {a b:World} (h:KeepK K a b) {p:Addr} (hp:K p.block):b.cell? p=a.cell? p:=World.cell?_of_block (h.block _ hp)
theorem KeepK.put {K:Nat→Prop} (a:World) {k:Nat} (hk:¬ K k) (o:Obj):KeepK K a (a.putObj k o) :=
 ⟨rfl,rfl,rfl,by simp [World.putObj],fun i hi=>World.putObj_heap_other (fun e=>hk (e ▸ hi))⟩
theorem KeepK.below {K:Nat→Prop} {a b:World} {B:Nat} (h:Below B a b) (hK:∀ k,K k→k<B):KeepK K a b:=⟨h.os,h.tape,h.output,h.size,fun k hk=>h.block k (hK k hk)⟩
variable {F:Fence} {n:Nat} {P:Program}
theorem wpIn_range_keep {α:Type} {g:Operand} {ps:Array Tmp} {assign body:Code} {Q:Exit→Act→World→Prop} {a:Act} {w:World}
  (hro:F.round=none) (h1:1≤n) {gf:Nat} {lb:Array Value} (hg:a.eval g=.func (.func gf) #[] lb) (hFg:F.fn gf) (eg:Enters P gf)
  (enc:α→Array Value) (hps:∀ x,(enc x).size=ps.size) (xs:List α) (K:Nat→Prop) (hK:∀ k,K k→k<w.heap.size) (I:List α→World→Prop)
  (hI:∀ pre W W',I pre W→But (fun k=>k=w.heap.size∨k=w.heap.size+1) W W'→I pre W') (h0:I [] w)
  (hIb:∀ pre W W',I pre W→Below W.heap.size W W'→I pre W')
  (hseq:∀ (l:Nat) (J:List α→World→Prop) (W:World),(∀ pre W W',J pre W→Below W.heap.size W W'→J pre W') →
   (∀ pre x W,J pre W→pre.length<xs.length→xs.take (pre.length+1)=pre++[x]→YieldAt F (n-1-1) P l (enc x) W fun e W'=>e=.returned (.bool true)∧J (pre++[x]) W'∧KeepK K W W') →
   J [] W→KeepK K w W→CallsIn F (n-1) P gf (#[.func (.yield l) #[] #[]]++lb) W fun e W'=>(∃ v,e=.returned v)∧J xs W')
  (a₁:α→Act)
  (hassign:∀ (l:Nat) (x:α) (W:World) (K:Act→World→Prop),K (a₁ x) W →
   assign.wpIn (F.inRound l) (n-1-1) P (Exit.then K (fun _ _ _=>False)) { tmps:=(ps.zip (enc x)).foldl (fun t (p,v)=>t.setIfInBounds p v) a.tmps,defers:=[] } W)
  (hbody:∀ (l:Nat) (pre:List α) (x:α) (W:World),I pre W→pre.length<xs.length→xs.take (pre.length+1)=pre++[x]→w.heap.size+1<W.heap.size →
   body.wpIn (F.inRound l) (n-1-1) P (fun e _ W'=>e=.normal∧I (pre++[x]) W'∧KeepK K W W'∧KeepD w.heap.size W W') (a₁ x) W)
  (hdone:∀ (W:World),I xs W→W.heap[w.heap.size]?=some (.deferred (some []))→Q .normal { a with defers:={ target:=.collected w.heap.size,args:=#[] } :: a.defers } W) :
  (Code.rangeFunc g ps assign body).wpIn F n P Q a w:=by
 refine wpIn_rangeFunc fun fn hfn=>?_
 let rec_:LoopState→Loop:=fun st=>{ state:=st,pending:=none,fn,tmps:=a.tmps,params:=ps,assign,body,defers:=w.heap.size }
 let W1:World:=(w.alloc (.deferred (some []))).alloc (.loop (rec_ .ready))
 have hsz:W1.heap.size=w.heap.size+2:=by show ((w.alloc _).alloc _).heap.size=_;simp
 have hL1:W1.heap[w.heap.size+1]?=some (.loop (rec_ .ready)):=by
  have:=World.alloc_heap_new (w.alloc (.deferred (some []))) (.loop (rec_ .ready));rwa [World.size_alloc] at this
 have hD1:W1.heap[w.heap.size]?=some (.deferred (some [])):=(Below.heap_alloc _ _ _ (by simp)).trans (World.alloc_heap_new w _)
 have hb1:KeepK K w W1:=((KeepK.refl K w).alloc hK _).alloc (fun k hk=>by have:=hK k hk;simp;omega) _
 refine⟨w.heap.size+1,[{ target:=.collected w.heap.size,args:=#[] }],W1,{ target:=.fn (.func gf) lb,args:=#[.func (.yield (w.heap.size+1)) #[] #[]] },W1,gf,
  #[.func (.yield (w.heap.size+1)) #[] #[]]++lb,W1,?_,?_,?_,?_,fun _=>h1,?_⟩
 ·rw[hro];exact run_enterLoop_outer _ _ _ _ _
 ·simp only[resolve,hg]
  simp [go_sem]
 ·intro f' hf'
  simp [Target.leads] at hf'
  subst hf'
  exact hFg
 ·simp [invoke,go_sem,eg _ _]
 ·refine (hseq (w.heap.size+1) (fun pre W=>I pre W∧W.heap[w.heap.size+1]?=some (.loop (rec_ .ready))∧W.heap[w.heap.size]?=some (.deferred (some []))) W1 ?_ ?_ ⟨?_,hL1,hD1⟩ hb1).mono ?_
  ·rintro pre W W' ⟨hi,hl,hd⟩ hb
   exact⟨hIb _ _ _ hi hb,(hb.block _ (Array.getElem?_eq_some_iff.1 hl).1).trans hl,(hb.block _ (Array.getElem?_eq_some_iff.1 hd).1).trans hd⟩
  ·rintro pre x W ⟨hi,hl,hd⟩ hpl hpt
   have hlt:w.heap.size+1<W.heap.size:=(Array.getElem?_eq_some_iff.1 hl).1
   have hy:=run_yield (P:=P) (args:=(enc x)) hl (hps x)
   have hl2:(W.putObj (w.heap.size+1) (.loop (rec_ .busy))).heap[w.heap.size+1]?=some (.loop (rec_ .busy)):=World.putObj_heap_same hlt
   have hbut:∀ (V:World) (o:Obj),But (fun k=>k=w.heap.size∨k=w.heap.size+1) V (V.putObj (w.heap.size+1) o):=fun V o=>(But.putObj o).mono fun k hk=>.inr hk
   have hbel:∀ (V:World) (o:Obj),KeepK K V (V.putObj (w.heap.size+1) o):=fun V o=>KeepK.put V (fun hk=>by have:=hK _ hk;omega) o
   refine⟨fn,_,assign,body,hy,roundIn_of_wpIn hfn ?_⟩
   refine hassign _ x W _ ⟨_,run_beginRound hl rfl,?_⟩
   refine wpIn_mono (hbody (w.heap.size+1) pre x _ (hI _ _ _ hi (hbut W _)) hpl hpt (by rw[World.putObj];simpa using hlt)) ?_
   rintro e a3 W3 ⟨rfl,hi3,hk3,hk4⟩
   have hl3:=(hk4 (w.heap.size+1) (.inr rfl)).trans hl2
   have hd3:=(hk4 w.heap.size (.inl rfl)).trans ((World.putObj_heap_other (by omega)).trans hd)
   refine⟨_,_,run_endRound (P:=P) none hl3,rfl,⟨hI _ _ _ hi3 (hbut W3 _),World.putObj_heap_same (Array.getElem?_eq_some_iff.1 hl3).1,(World.putObj_heap_other (by omega)).trans hd3⟩,?_⟩
   exact ((hbel W _).trans hk3).trans (hbel W3 _)
  ·exact hIb _ _ _ (hIb _ _ _ h0 ((Below.refl _ w).alloc (Nat.le_refl _) _)) ((Below.refl _ _).alloc (Nat.le_refl _) _)
  ·rintro e W2 ⟨⟨v,rfl⟩,hi,hl,hd⟩
   exact⟨none,_,run_endLoop (P:=P) hl (by simp [rec_]),hdone _ (hI _ _ _ hi ((But.putObj _).mono fun k hk=>.inr hk)) ((World.putObj_heap_other (by omega)).trans hd)⟩
end Go.Proofs.YtacfbiegbdlldaaGreatDoor
end
