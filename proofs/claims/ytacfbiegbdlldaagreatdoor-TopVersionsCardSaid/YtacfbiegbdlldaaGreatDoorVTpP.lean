/- The first of what is known: a contract. -/
import Derived.Test.YtacfbiegbdlldaaGreatDoorVRangeKeep
import Derived.Test.YtacfbiegbdlldaaGreatDoorVTpF
import Derived.Test.YtacfbiegbdlldaaGreatDoorVStage
section
namespace Go.Proofs.YtacfbiegbdlldaaGreatDoor
open Go Go.RowKit
set_option linter.unusedVariables false
variable {F:Fence} {n:Nat} {P:Program}
theorem wpIn_range_stop {α:Type} {g:Operand} {ps:Array Tmp} {assign body:Code} {Q:Exit→Act→World→Prop} {a:Act} {w:World}
  (hro:F.round=none) (h1:1≤n) {gf:Nat} {lb:Array Value} (hg:a.eval g=.func (.func gf) #[] lb) (hFg:F.fn gf) (eg:Enters P gf)
  (enc:α→Array Value) (hps:∀ x,(enc x).size=ps.size) (xs:List α) (K:Nat→Prop) (hK:∀ k,K k→k<w.heap.size) (I:List α→World→Prop) (X:Nat→World→Prop)
  (hI:∀ pre W W',I pre W→But (fun k=>k=w.heap.size∨k=w.heap.size+1) W W'→I pre W') (h0:I [] w)
  (hX:∀ id W W',X id W→But (fun k=>k=w.heap.size∨k=w.heap.size+1) W W'→X id W')
  (hIb:∀ pre W W',I pre W→Below W.heap.size W W'→I pre W') (hXb:∀ id W W',X id W→Below W.heap.size W W'→X id W')
  (hseq:∀ (l:Nat) (J:List α→World→Prop) (Y:World→Prop) (W:World),(∀ pre W W',J pre W→Below W.heap.size W W'→J pre W')→(∀ W W',Y W→Below W.heap.size W W'→Y W') →
   (∀ pre x W,J pre W→pre.length<xs.length→xs.take (pre.length+1)=pre++[x]→YieldAt F (n-1-1) P l (enc x) W fun e W'=>(e=.returned (.bool true)∧J (pre++[x]) W'∧KeepK K W W')∨(e=.returned (.bool false)∧Y W')) →
   J [] W→KeepK K w W→CallsIn F (n-1) P gf (#[.func (.yield l) #[] #[]]++lb) W fun e W'=>(∃ v,e=.returned v)∧(J xs W'∨Y W'))
  (a₁:α→Act)
  (hassign:∀ (l:Nat) (x:α) (W:World) (K:Act→World→Prop),K (a₁ x) W →
   assign.wpIn (F.inRound l) (n-1-1) P (Exit.then K (fun _ _ _=>False)) { tmps:=(ps.zip (enc x)).foldl (fun t (p,v)=>t.setIfInBounds p v) a.tmps,defers:=[] } W)
  (hbody:∀ (l:Nat) (pre:List α) (x:α) (W:World),I pre W→pre.length<xs.length→xs.take (pre.length+1)=pre++[x]→w.heap.size+1<W.heap.size →
   body.wpIn (F.inRound l) (n-1-1) P (fun e _ W'=>(e=.normal∧I (pre++[x]) W'∧KeepK K W W'∧KeepD w.heap.size W W')∨(∃ id,e=.exit id∧X id W'∧KeepD w.heap.size W W')) (a₁ x) W)
  (hdone:∀ (W:World),I xs W→W.heap[w.heap.size]?=some (.deferred (some []))→Q .normal { a with defers:={ target:=.collected w.heap.size,args:=#[] } :: a.defers } W)
  (hstop:∀ (id:Nat) (W:World),X id W→W.heap[w.heap.size]?=some (.deferred (some []))→(Code.exit id).wpIn F n P Q { a with defers:={ target:=.collected w.heap.size,args:=#[] } :: a.defers } W) :
  (Code.rangeFunc g ps assign body).wpIn F n P Q a w:=by
 refine wpIn_rangeFunc fun fn hfn=>?_
 obtain⟨rec_,hrec⟩:∃ rec_:LoopState→Option Code→Loop,rec_=fun st pe=>{ state:=st,pending:=pe,fn,tmps:=a.tmps,params:=ps,assign,body,defers:=w.heap.size }:=⟨_,rfl⟩
 obtain⟨W1,hW1⟩:∃ W1,(w.alloc (.deferred (some []))).alloc (.loop (rec_ .ready none))=W1:=⟨_,rfl⟩
 have hsz:W1.heap.size=w.heap.size+2:=by rw[← hW1];simp
 have hL1:W1.heap[w.heap.size+1]?=some (.loop (rec_ .ready none)):=by
  rw[← hW1];have:=World.alloc_heap_new (w.alloc (.deferred (some []))) (.loop (rec_ .ready none));rwa [World.size_alloc] at this
 have hD1:W1.heap[w.heap.size]?=some (.deferred (some [])):=by rw[← hW1];exact (Below.heap_alloc _ _ _ (by simp)).trans (World.alloc_heap_new w _)
 have hb1:KeepK K w W1:=by rw[← hW1];exact ((KeepK.refl K w).alloc hK _).alloc (fun k hk=>by have:=hK k hk;simp;omega) _
 have hI1:I [] W1:=by rw[← hW1];exact hIb _ _ _ (hIb _ _ _ h0 ((Below.refl _ w).alloc (Nat.le_refl _) _)) ((Below.refl _ _).alloc (Nat.le_refl _) _)
 refine⟨w.heap.size+1,[{ target:=.collected w.heap.size,args:=#[] }],W1,{ target:=.fn (.func gf) lb,args:=#[.func (.yield (w.heap.size+1)) #[] #[]] },W1,gf,
  #[.func (.yield (w.heap.size+1)) #[] #[]]++lb,W1,?_,?_,?_,?_,fun _=>h1,?_⟩
 ·rw[hro,← hW1,hrec];exact run_enterLoop_outer _ _ _ _ _
 ·simp only[resolve,hg]
  simp [go_sem]
 ·intro f' hf'
  simp [Target.leads] at hf'
  subst hf'
  exact hFg
 ·simp [invoke,go_sem,eg _ _]
 ·refine (hseq (w.heap.size+1) (fun pre W=>I pre W∧W.heap[w.heap.size+1]?=some (.loop (rec_ .ready none))∧W.heap[w.heap.size]?=some (.deferred (some [])))
   (fun W=>∃ id,X id W∧W.heap[w.heap.size+1]?=some (.loop (rec_ .done (some (.exit id))))∧W.heap[w.heap.size]?=some (.deferred (some []))) W1 ?_ ?_ ?_ ⟨hI1,hL1,hD1⟩ hb1).mono ?_
  ·rintro pre W W' ⟨hi,hl,hd⟩ hb
   exact⟨hIb _ _ _ hi hb,(hb.block _ (Array.getElem?_eq_some_iff.1 hl).1).trans hl,(hb.block _ (Array.getElem?_eq_some_iff.1 hd).1).trans hd⟩
  ·rintro W W' ⟨id,hi,hl,hd⟩ hb
   exact⟨id,hXb _ _ _ hi hb,(hb.block _ (Array.getElem?_eq_some_iff.1 hl).1).trans hl,(hb.block _ (Array.getElem?_eq_some_iff.1 hd).1).trans hd⟩
  ·rintro pre x W ⟨hi,hl,hd⟩ hpl hpt
   have hlt:w.heap.size+1<W.heap.size:=(Array.getElem?_eq_some_iff.1 hl).1
   have hy:=run_yield (P:=P) (args:=(enc x)) hl (by rw[hrec];exact hps x)
   have hrd:rec_ .ready none={ state:=.ready,pending:=none,fn,tmps:=a.tmps,params:=ps,assign,body,defers:=w.heap.size }:=by rw[hrec]
   rw[hrd] at hy
   have hbut:∀ (V:World) (o:Obj),But (fun k=>k=w.heap.size∨k=w.heap.size+1) V (V.putObj (w.heap.size+1) o):=fun V o=>(But.putObj o).mono fun k hk=>.inr hk
   have hbel:∀ (V:World) (o:Obj),KeepK K V (V.putObj (w.heap.size+1) o):=fun V o=>KeepK.put V (fun hk=>by have:=hK _ hk;omega) o
   refine⟨fn,_,assign,body,hy,roundIn_of_wpIn hfn ?_⟩
   clear hy
   refine hassign _ x W _ ⟨_,run_beginRound hl (by rw[hrec]),?_⟩
   have hl2:(W.putObj (w.heap.size+1) (.loop { rec_ .ready none with state:=.busy })).heap[w.heap.size+1]?=some (.loop { rec_ .ready none with state:=.busy }):=World.putObj_heap_same hlt
   refine wpIn_mono (hbody (w.heap.size+1) pre x _ (hI _ _ _ hi (hbut W _)) hpl hpt (by rw[World.putObj];simpa using hlt)) ?_
   rintro e a3 W3 (⟨rfl,hi3,hk3,hk4⟩|⟨id,rfl,hx3,hk4⟩)
   ·have hl3:=(hk4 (w.heap.size+1) (.inr rfl)).trans hl2
    have hd3:=(hk4 w.heap.size (.inl rfl)).trans ((World.putObj_heap_other (by omega)).trans hd)
    have hr:(Instr.endRound (w.heap.size+1) none).run P W3=.ok (.bool true) (W3.putObj (w.heap.size+1) (.loop (rec_ .ready none))):=by
     have:=run_endRound (P:=P) none hl3
     rw[hrec] at this ⊢
     exact this
    exact⟨_,_,hr,.inl ⟨rfl,⟨hI _ _ _ hi3 (hbut W3 _),World.putObj_heap_same (Array.getElem?_eq_some_iff.1 hl3).1,(World.putObj_heap_other (by omega)).trans hd3⟩,((hbel W _).trans hk3).trans (hbel W3 _)⟩⟩
   ·have hl3:=(hk4 (w.heap.size+1) (.inr rfl)).trans hl2
    have hd3:=(hk4 w.heap.size (.inl rfl)).trans ((World.putObj_heap_other (by omega)).trans hd)
    have hr:(Instr.endRound (w.heap.size+1) (some (.exit id))).run P W3=.ok (.bool false) (W3.putObj (w.heap.size+1) (.loop (rec_ .done (some (.exit id))))):=by
     have:=run_endRound (P:=P) (some (.exit id)) hl3
     rw[hrec] at this ⊢
     exact this
    have hx4:=hX id _ _ hx3 (hbut W3 (.loop (rec_ .done (some (.exit id)))))
    have hl4:(W3.putObj (w.heap.size+1) (.loop (rec_ .done (some (.exit id))))).heap[w.heap.size+1]?=some (.loop (rec_ .done (some (.exit id)))):=World.putObj_heap_same (Array.getElem?_eq_some_iff.1 hl3).1
    have hd4:(W3.putObj (w.heap.size+1) (.loop (rec_ .done (some (.exit id))))).heap[w.heap.size]?=some (.deferred (some [])):=(World.putObj_heap_other (by omega)).trans hd3
    refine⟨_,_,hr,.inr ⟨rfl,?_⟩⟩
    exact Exists.intro id ⟨hx4,hl4,hd4⟩
  ·rintro e W2 ⟨⟨v,rfl⟩,⟨hi,hl,hd⟩|⟨id,hi,hl,hd⟩⟩
   ·have hr:(Instr.endLoop (w.heap.size+1)).run P W2=.ok none (W2.putObj (w.heap.size+1) (.loop (rec_ .exhausted none))):=by
     have:=run_endLoop (P:=P) hl (by rw[hrec];simp);rw[hrec] at this ⊢;exact this
    exact⟨none,_,hr,hdone _ (hI _ _ _ hi ((But.putObj _).mono fun k hk=>.inr hk)) ((World.putObj_heap_other (by omega)).trans hd)⟩
   ·have hr:(Instr.endLoop (w.heap.size+1)).run P W2=.ok (some (.exit id)) (W2.putObj (w.heap.size+1) (.loop (rec_ .exhausted (some (.exit id))))):=by
     have:=run_endLoop (P:=P) hl (by rw[hrec];simp);rw[hrec] at this ⊢;exact this
    exact⟨some (.exit id),_,hr,hstop id _ (hX _ _ _ hi ((But.putObj _).mono fun k hk=>.inr hk)) ((World.putObj_heap_other (by omega)).trans hd)⟩
end Go.Proofs.YtacfbiegbdlldaaGreatDoor
end
section
namespace Go.Proofs.YtacfbiegbdlldaaGreatDoor.Tw
open Go Go.RowKit Go.Shelf
set_option linter.unusedVariables false
attribute [local go_sem] Oper.semAt_some
theorem known_stop (F:Fence) (n:Nat) (hf:F.fn 148) (hro:F.round=none) (hn:1≤n) (l Bu:Nat) (K S:Nat→Prop) (hBu:K Bu) (hS:∀ b,S b→K b) (v:Value) (L:List WCell) (J:List (Nat × Int)→World→Prop) (Y:World→Prop) (W0:World) (hK:∀ k,K k→k<W0.heap.size)
  (hbx:W0.heap[Bu]?=some (.cells #[v] 158 (0,0))) (hq:Lst W0 S v L) (hlen:L.length≤1000000000)
  (hJ:∀ pre W W',J pre W→Below W.heap.size W W'→J pre W')
  (hY:∀ pre x W,J pre W→pre.length<(kn 0 L).length→(kn 0 L).take (pre.length+1)=pre++[x]→YieldAt F (n-1) Tryz.prog l (encK x) W fun e W'=>(e=.returned (.bool true)∧J (pre++[x]) W'∧KeepK K W W')∨(e=.returned (.bool false)∧Y W'))
  (h0:J [] W0) :
  CallsIn F n Tryz.prog 148 #[.func (.yield l) #[] #[],.pointer (some ⟨Bu,0,none⟩)] W0 fun e W'=>(∃ v,e=.returned v)∧(J (kn 0 L) W'∨Y W'):=by
 obtain⟨aq,cq,rfl,hq1,hq2⟩:=hq.form
 have hc0:W0.cell? ⟨Bu,0,none⟩=some (.slice aq L.length cq):=by simp [World.cell?,hbx]
 have Hbx:=Lib.hid hbx
 clear hbx
 refine callsIn_of_wp Tryz.func148 rfl hf ?_ hro
 simp only[Tryz.ntmps148,List.size_toArray,List.length_cons,List.length_nil,Nat.reduceAdd,Nat.reduceSub,Array.replicate_succ,Array.replicate_zero,List.push_toArray,List.append_toArray,List.nil_append,List.cons_append]
 gi_wp2
 gi_loopw [7] (fun i wr=>∃ k:Nat,i=.int .i64 k∧k≤L.length∧J (kn 0 (L.take k)) wr∧KeepK K W0 wr) (fun i wr=>L.length-(intOf i).toNat)
 case atStart =>
  exact⟨0,rfl,Nat.zero_le _,h0,KeepK.refl _ _⟩
 case round =>
  obtain⟨k,rfl,hk,hj,hb⟩:=hrel
  by_cases hkl:k<L.length
  ·have hnext:=kn_next hkl
   have hall:=kn_take (l:=L) (k:=k+1)
   obtain⟨g,off,cs,rfl,hg,hr,hcs,hI⟩:=hq.at_ hkl
   subst hcs
   have hr2:wr.rangeAt g (off+k*2) [.int .i64 L[k].v,.bool L[k].k]:=fun i x hx=>(hb.cell (p:=⟨g,off+k*2+i,none⟩) (hS _ hg.1)).trans (hr i x hx)
   have hc1:wr.cell? ⟨g,off+k*2,none⟩=some (.int .i64 L[k].v):=hr2 0 _ rfl
   have hc2:wr.cell? ⟨g,off+k*2+1,none⟩=some (.bool L[k].k):=hr2 1 _ rfl
   have hsz:∀ k,K k→k<wr.heap.size:=fun k hk=>Nat.lt_of_lt_of_le (hK k hk) hb.size
   have hlt:(kn 0 (L.take (k+1))).length≤(kn 0 L).length:=by rw[hall,List.length_append];omega
   have htk:(kn 0 L).take (kn 0 (L.take (k+1))).length=kn 0 (L.take (k+1)):=by
    conv=>lhs;rw[hall]
    rw[List.take_append_of_le_length (Nat.le_refl _),List.take_length]
   clear hall
   generalize hck:L[k]=c at *
   obtain⟨cv,ck⟩:=c
   simp only at hnext hc1 hc2 hI
   cases ck with
   |true =>
    simp only[if_true] at hnext
    have hlen2:(kn 0 (L.take (k+1))).length=(kn 0 (L.take k)).length+1:=by rw[hnext,List.length_append];rfl
    have hj2:=hJ _ _ _ hj ((Below.refl wr.heap.size wr).alloc (Nat.le_refl _) (.cells #[.int .i64 cv,.bool true] 160))
    obtain⟨fn,tmps,assign,body,hy,hR⟩:=hY _ (k+1,cv) _ hj2 (by omega) (by rw[← hlen2,htk,hnext])
    simp only[encK] at hy
    rw[show ((k+1:Nat):Int)=(k:Int)+1 by omega] at hy
    have Hn:=Lib.hid hnext
    have Hl:=Lib.hid hlen2
    have Ht:=Lib.hid htk
    clear hnext hlen2 htk hlt hj2
    gi_wp2
    refine hR.mono ?_
    rintro e W3 (⟨rfl,hJ3,hk3⟩|⟨rfl,hY3⟩)
    ·gi_wp2
     have hka:KeepK K wr (wr.alloc (.cells #[.int .i64 cv,.bool true] 160)):=(KeepK.refl K wr).alloc hsz _
     refine⟨⟨k+1,by rw[show ((k+1:Nat):Int)=(k:Int)+1 by omega],hkl,by rw[Hn.out];exact hJ3,hb.trans (hka.trans hk3)⟩,?_⟩
     simp only[intOf];omega
    ·gi_wp2
     exact bodyPost_ret (results_none rfl _ _ _) rfl ⟨⟨_,rfl⟩,.inr hY3⟩
   |false =>
    simp only[Bool.false_eq_true,if_false,List.append_nil] at hnext
    have Hn:=Lib.hid hnext
    have Ht:=Lib.hid htk
    clear hnext htk hlt
    gi_wp2
    refine⟨by simp,?_⟩
    gi_wp2
    have hka:KeepK K wr (wr.alloc (.cells #[.int .i64 cv,.bool false] 160)):=(KeepK.refl K wr).alloc hsz _
    refine⟨⟨k+1,by rw[show ((k+1:Nat):Int)=(k:Int)+1 by omega],hkl,by rw[Hn.out];exact hJ _ _ _ hj ((Below.refl wr.heap.size wr).alloc (Nat.le_refl _) _),hb.trans hka⟩,?_⟩
    simp only[intOf];omega
  ·obtain rfl:k=L.length:=by omega
   gi_wp2
   go_end0
   refine⟨⟨_,rfl⟩,.inl ?_⟩
   have:=hj
   rwa [List.take_of_length_le (Nat.le_refl _)] at this
end Go.Proofs.YtacfbiegbdlldaaGreatDoor.Tw
end
section
namespace Go.Proofs.YtacfbiegbdlldaaGreatDoor.Tw
open Go Go.RowKit Go.Shelf
set_option linter.unusedVariables false
set_option maxRecDepth 100000
attribute [local go_sem] Oper.semAt_some
theorem infoShare:(Tryz.prog.info? 108).map (fun i=>(i.zero,i.size,i.bytes))=some (some (.agg #[.int .i64 0,.int .i64 0]),2,16):=by kernel_rfl
def flatS (l:List (Nat × Int)):List Value:=l.flatMap fun x=>[.int .i64 x.1,.int .i64 x.2]
structure FstI (k:Nat) (w:World) (pre:List (Nat × Int)) (W:World):Prop where
 kb:W.heap[w.heap.size]?=some (.cells #[.int .i64 k] 3 (0,0))
 ex:∃ ad c,W.heap[w.heap.size+1]?=some (.cells #[.slice ad pre.length c] 104 (0,0))∧Own W w.heap.size 2 (.slice ad pre.length c) pre.length (flatS pre) ∧
  (∀ g,(Value.slice ad pre.length c).ownBlock=some g→w.heap.size+4<g)
 below:Below w.heap.size w W
 size:w.heap.size+3≤W.heap.size
 len:pre.length≤k
theorem FstI.but {k:Nat} {w:World} {pre:List (Nat × Int)} {W W':World} (h:FstI k w pre W) (hb:But (fun k=>k=w.heap.size+3∨k=w.heap.size+4) W W'):FstI k w pre W':=by
 obtain⟨ad,c,h1,h2,h3⟩:=h.ex
 have hs:=h.size
 exact⟨(hb.block _ (by omega) (by omega)).trans h.kb,⟨ad,c,(hb.block _ (by omega) (by omega)).trans h1,h2.congr hb.size fun g hg=>hb.block g (h2.lt hg).1 (by have:=h3 g hg;omega),h3⟩,
  h.below.trans ⟨hb.os,hb.tape,hb.output,hb.size,fun k hk=>hb.block k (by omega) (by omega)⟩,Nat.le_trans h.size hb.size,h.len⟩
theorem FstI.below' {k:Nat} {w:World} {pre:List (Nat × Int)} {W W':World} (h:FstI k w pre W) (hb:Below W.heap.size W W'):FstI k w pre W':=by
 obtain⟨ad,c,h1,h2,h3⟩:=h.ex
 have hs:=h.size
 exact⟨(hb.block _ (by omega)).trans h.kb,⟨ad,c,(hb.block _ (by omega)).trans h1,h2.congr hb.size fun g hg=>hb.block g (h2.lt hg).1,h3⟩,
  h.below.trans ⟨hb.os,hb.tape,hb.output,hb.size,fun k hk=>hb.block k (by omega)⟩,Nat.le_trans hs hb.size,h.len⟩
theorem first_body (l k n x:Nat) (y:Int) (Bk Bo:Nat) (ad:Option Addr) (c:Nat) (xs:List Value) (W:World) (u0 u1 u2 u4 u8 u9 u10 u11:Value) (Q:Exit→Act→World→Prop) (hn:n≤1000)
  (hck:W.cell? ⟨Bk,0,none⟩=some (.int .i64 k)) (hco:W.cell? ⟨Bo,0,none⟩=some (.slice ad n c)) (hfo:W.frozen? ⟨Bo,0,none⟩=false)
  (hlt:Bo+3<W.heap.size) (ho:Own W 0 2 (.slice ad n c) n xs) (hg:∀ g,(Value.slice ad n c).ownBlock=some g→Bo<g)
  (hQ0:(n:Int)=k→∀ a,Q (.exit 0) a W)
  (hQ:(n:Int) ≠ k→∀ a ad2 c2 w2,Own w2 0 2 (.slice ad2 (n+1) c2) (n+1) (xs++[.int .i64 x,.int .i64 y])→(W.alloc (.cells #[.int .i64 x,.int .i64 y] 108)).grownBy w2 (Value.slice ad n c).ownBlock →
   ((Value.slice ad2 (n+1) c2).ownBlock=(Value.slice ad n c).ownBlock∨(Value.slice ad2 (n+1) c2).ownBlock=some (W.heap.size+1))→Q .normal a (w2.setCell ⟨Bo,0,none⟩ (.slice ad2 (n+1) c2))) :
  (Code.block 1
   (((Code.region 5 #[⟨some 12,.load 104 (.tmp 5),104,"code.go:61",#[],none⟩,⟨some 13,.call { callee:=.builtin .len,args:=#[.tmp 12],argTypes:=#[104] },3,"code.go:61",#[⟨0,.data⟩],none⟩,⟨some 14,.load 3 (.tmp 3),3,"code.go:61",#[],none⟩,⟨some 15,.binOp .eql 3 (.tmp 13) (.tmp 14) 3,4,"code.go:61",#[⟨1,.data⟩,⟨2,.data⟩],none⟩] false).seq
    (Code.cond (.tmp 15) (Code.exit 0) Code.skip)).seq
   (Code.region 6 #[⟨some 16,.load 104 (.tmp 5),104,"code.go:64",#[],none⟩,⟨some 17,.move (.tmp 6),3,"code.go:64",#[],none⟩,⟨some 18,.move (.tmp 7),3,"code.go:64",#[],none⟩,⟨some 19,.build 108 #[(0,.tmp 17),(1,.tmp 18)],108,"code.go:64",#[⟨1,.data⟩,⟨2,.data⟩],none⟩,⟨some 20,.buildSlice 104 1 #[(0,.tmp 19)],104,"code.go:64",#[⟨3,.data⟩],none⟩,⟨some 21,.call { callee:=.builtin .append,args:=#[.tmp 16,.tmp 20],argTypes:=#[104,104] },104,"code.go:64",#[⟨0,.data⟩,⟨4,.data⟩],none⟩,⟨none,.store 104 (.tmp 5) (.tmp 21),0,"code.go:64",#[⟨5,.data⟩,⟨5,.chain⟩,⟨0,.phase⟩,⟨1,.phase⟩,⟨2,.phase⟩,⟨3,.phase⟩,⟨4,.phase⟩,⟨5,.phase⟩],none⟩] false))).wpIn (Fence.wide.inRound l) 1 Tryz.prog Q { tmps:=#[u0,u1,u2,.pointer (some ⟨Bk,0,none⟩),u4,.pointer (some ⟨Bo,0,none⟩),.int .i64 x,.int .i64 y,u8,u9,u10,u11,undef,undef,undef,undef,undef,undef,undef,undef,undef,undef,undef],defers:=[] } W:=by
 obtain⟨i0,hi,hz0,hz1,hz2⟩:=info_parts infoShare
 by_cases hk:(n:Int)=k
 ·have q:decide ((n:Int)=k)=true:=decide_eq_true hk
  have hq:=hQ0 hk
  clear hQ0 hQ
  gi_wp2
  exact hq _
 ·have q:decide ((n:Int)=k)=false:=decide_eq_false hk
  have hq:=hQ hk
  clear hQ0 hQ
  have hcell:∀ (o:Obj) (w2:World),(W.alloc o).grownBy w2 (Value.slice ad n c).ownBlock→w2.cell? ⟨Bo,0,none⟩=some (.slice ad n c):=fun o w2 hgr =>
   (World.cell?_of_block (a:=⟨Bo,0,none⟩) ((hgr.block _ (by simp;omega) (fun e=>by have:=hg _ e.symm;simp at this)).trans (Below.heap_alloc W o _ (by show Bo<_;omega)))).trans hco
  have hfr:∀ (o:Obj) (w2:World),(W.alloc o).grownBy w2 (Value.slice ad n c).ownBlock→w2.frozen? ⟨Bo,0,none⟩=false:=fun o w2 hgr =>
   (World.frozen?_of_block (a:=⟨Bo,0,none⟩) ((hgr.block _ (by simp;omega) (fun e=>by have:=hg _ e.symm;simp at this)).trans (Below.heap_alloc W o _ (by show Bo<_;omega)))).trans hfo
  have HC:=Lib.hid hcell
  have HF:=Lib.hid hfr
  clear hcell hfr
  gi_wp2_with (gi_at_builtin;refine wpListIn_append_mine rfl _ _ 104 104 rfl 108 i0 _ 16 Tryz.underlying104 hi hz0 hz1 hz2 rfl rfl (ho.alloc _) (by simp) _ rfl 1 [.int .i64 x,.int .i64 y] (Src.single (cs:=[.int .i64 x,.int .i64 y]) Tryz.underlying104 rfl (range_new W [.int .i64 x,.int .i64 y] 108) (by simp [Value.oneCell'])) (by simp only[maxLen];omega) (by omega) ?_;intro ad2 c2 w2 ho2 hg2 hat2;have hc2:=HC.out _ _ hg2;have hf2:=HF.out _ _ hg2)
  exact hq _ ad2 c2 w2 ho2 hg2 (by have h:=hat2;rw[World.size_alloc] at h;exact h)
theorem flatS_snoc (pre:List (Nat × Int)) (x:Nat × Int):flatS (pre++[x])=flatS pre++[.int .i64 x.1,.int .i64 x.2]:=by simp [flatS]
set_option maxHeartbeats 4000000 in
theorem first_any (k:Nat) (L:List WCell) (v:Value) (w:World) (hq:Lst w (Lo w.heap.size) v L) (hlen:L.length≤32) :
  Calls Tryz.prog 135 #[v,.int .i64 k] w fun e w'=>∃ ad c,e=.returned (.slice ad ((kn 0 L).take k).length c)∧Own w' w.heap.size 2 (.slice ad ((kn 0 L).take k).length c) ((kn 0 L).take k).length (flatS ((kn 0 L).take k))∧Below w.heap.size w w':=by
 obtain⟨aq,cq,rfl,hq1,hq2⟩:=hq.form
 refine (callsIn_wide (n:=3)).1 ?_
 refine callsIn_of_wp_marks Tryz.func135 rfl trivial ?_ rfl
 simp only[Tryz.ntmps135,List.size_toArray,List.length_cons,List.length_nil,Nat.reduceAdd,Nat.reduceSub,Array.replicate_succ,Array.replicate_zero,List.push_toArray,List.append_toArray,List.nil_append,List.cons_append]
 have hkl:(kn 0 L).length≤L.length:=by
  have:∀ (i:Nat) (l:List WCell),(kn i l).length≤l.length:=fun i l=>by
   induction l generalizing i with
   |nil=>simp [kn]
   |cons c r ih=>simp only[kn];split <;> simp only[List.length_cons] <;> have:=ih (i+1) <;> omega
  exact this 0 L
 gi_wp2
 refine⟨trivial,(callsIn_wide (n:=2)).2 ((known_any _ _ rfl).mono ?_)⟩
 rintro e wk ⟨rfl,rfl⟩
 gi_wp2
 obtain⟨ws,hws⟩:∃ ws,ws=((w.alloc (.cells #[.int .i64 k] 3)).alloc (.cells #[.slice none 0 0] 104)).alloc (.cells #[.slice aq L.length cq] 158):=⟨_,rfl⟩
 rw[← hws]
 have hbs:ws.heap.size=w.heap.size+3:=by rw[hws];simp
 have h1:∀ (V:World) (o o':Obj) (k:Nat),V.heap[k]?=some o→(V.alloc o').heap[k]?=some o:=fun V o o' k h=>(Below.heap_alloc V o' k (Array.getElem?_eq_some_iff.1 h).1).trans h
 have hk0:ws.heap[w.heap.size]?=some (.cells #[.int .i64 k] 3 (0,0)):=by rw[hws];exact h1 _ _ _ _ (h1 _ _ _ _ (World.alloc_heap_new w _))
 have ho0:ws.heap[w.heap.size+1]?=some (.cells #[.slice none 0 0] 104 (0,0)):=by
  rw[hws];refine h1 _ _ _ _ ?_
  simpa using World.alloc_heap_new (w.alloc (.cells #[.int .i64 k] 3)) (.cells #[.slice none 0 0] 104)
 have hkb:ws.heap[w.heap.size+2]?=some (.cells #[.slice aq L.length cq] 158 (0,0)):=by
  rw[hws]
  simpa using World.alloc_heap_new ((w.alloc (.cells #[.int .i64 k] 3)).alloc (.cells #[.slice none 0 0] 104)) (.cells #[.slice aq L.length cq] 158)
 have hbw:Below w.heap.size w ws:=by rw[hws];exact (((Below.refl _ w).alloc (Nat.le_refl _) _).alloc (by simp) _).alloc (by simp;omega) _
 have hI0:FstI k w [] ws:=⟨hk0,⟨none,0,ho0,Own.nil _ _ _,fun g hg=>by simp [Value.ownBlock] at hg⟩,hbw,by omega,Nat.zero_le _⟩
 have hbut:∀ {V V':World},But (fun k=>k=ws.heap.size∨k=ws.heap.size+1) V V'→But (fun k=>k=w.heap.size+3∨k=w.heap.size+4) V V':=fun hb=>hb.mono fun k hk=>by rw[hbs] at hk;omega
 clear hk0 ho0 h1 hws
 refine wpIn_range_stop rfl (by decide) (gf:=148) (lb:=#[.pointer (some ⟨w.heap.size+2,0,none⟩)]) (by simp [go_sem]) trivial (enters_of Tryz.func148 (by kernel_rfl) rfl)
  encK (fun _=>rfl) (kn 0 L) (fun k=>k<w.heap.size∨k=w.heap.size+2) ?hK (FstI k w) (fun id W=>id=0∧FstI k w ((kn 0 L).take k) W) ?hI ?h0 ?hX ?hIb ?hXb ?hseq
  (fun y=>{ tmps:=#[.slice aq L.length cq,.int .i64 k,undef,.pointer (some ⟨w.heap.size,0,none⟩),.slice none 0 0,.pointer (some ⟨w.heap.size+1,0,none⟩),.int .i64 y.1,.int .i64 y.2,.slice aq L.length cq,.func (.func 148) #[] #[.pointer (some ⟨w.heap.size+2,0,none⟩)],.int .i64 y.1,.int .i64 y.2,undef,undef,undef,undef,undef,undef,undef,undef,undef,undef,undef],defers:=[] }) ?assign ?body ?done ?stop
 case hK=>intro k hk;omega
 case hI=>intro pre W W' hi hb;exact hi.but (hbut hb)
 case h0=>exact hI0
 case hX=>rintro id W W' ⟨h,hi⟩ hb;exact⟨h,hi.but (hbut hb)⟩
 case hIb=>intro pre W W' hi hb;exact hi.below' hb
 case hXb=>rintro id W W' ⟨h,hi⟩ hb;exact⟨h,hi.below' hb⟩
 case hseq =>
  intro l J Y W hJb _ hY hj hb
  refine known_stop Fence.wide 2 trivial rfl (by decide) l (w.heap.size+2) (fun k=>k<w.heap.size∨k=w.heap.size+2) (Lo w.heap.size) (.inr rfl) (fun b hb=>.inl hb) (.slice aq L.length cq) L J Y W (fun k hk=>by have:=hb.size;omega) ((hb.block _ (.inr rfl)).trans hkb) ?_ (by omega) hJb hY hj
  exact hq.below (hbw.trans ⟨hb.os,hb.tape,hb.output,hb.size,fun k hk=>hb.block k (.inl hk)⟩) (Nat.le_refl _)
 case assign =>
  intro l y W K hK
  simp only[encK]
  gi_wp2
  exact hK
 case body =>
  rintro l pre y W hi hpl hpt hlt
  obtain⟨ad1,c1,hbx1,ho1,hg1⟩:=hi.ex
  have hck:W.cell? ⟨w.heap.size,0,none⟩=some (.int .i64 k):=by simp [World.cell?,hi.kb]
  have hco:W.cell? ⟨w.heap.size+1,0,none⟩=some (.slice ad1 pre.length c1):=by simp [World.cell?,hbx1]
  have hfo:W.frozen? ⟨w.heap.size+1,0,none⟩=false:=by simp [World.frozen?,hbx1]
  have Hi:=Lib.hid hi
  have Hx:=Lib.hid hbx1
  have Hp:=Lib.hid hpt
  clear hi hbx1 hpt
  refine first_body l k pre.length y.1 y.2 w.heap.size (w.heap.size+1) ad1 c1 (flatS pre) W _ _ _ _ _ _ _ _ _ (by omega) hck hco hfo (by omega) (ho1.mono (Nat.zero_le _)) (fun g hg=>by have:=hg1 g hg;omega) ?_ ?_
  ·intro he a
   have hlen:pre.length=k:=by omega
   refine .inr ⟨0,rfl,⟨rfl,?_⟩,fun k _=>rfl⟩
   have hpk:(kn 0 L).take k=pre:=by
    have:=congrArg (List.take pre.length) Hp.out
    rw[List.take_take,List.take_left,Nat.min_eq_left (by omega),hlen] at this
    exact this
   rw[hpk]
   exact Hi.out
  ·intro he a ad2 c2 w2 ho2 hg2 hat2
   have hi:=Hi.out
   have hsz:=hg2.size
   simp only[World.size_alloc] at hsz
   have hold:∀ k,k<W.heap.size→(∀ g,(Value.slice ad1 pre.length c1).ownBlock=some g→k ≠ g)→w2.heap[k]?=W.heap[k]?:=fun k h1 h2 =>
    (hg2.block k (by simp;omega) (fun e=>h2 k e.symm rfl)).trans (Below.heap_alloc W _ k h1)
   have hset:∀ k,k ≠ w.heap.size+1→(w2.setCell ⟨w.heap.size+1,0,none⟩ (.slice ad2 (pre.length+1) c2)).heap[k]?=w2.heap[k]?:=fun k hk=>Below.heap_setCell w2 ⟨w.heap.size+1,0,none⟩ _ k hk
   have hlow:∀ k,k≤w.heap.size+4→w2.heap[k]?=W.heap[k]?:=fun k hk=>hold k (by omega) (fun g hg=>by have:=hg1 g hg;omega)
   have hss:(w2.setCell ⟨w.heap.size+1,0,none⟩ (.slice ad2 (pre.length+1) c2)).heap.size=w2.heap.size:=by simp [World.setCell]
   have hnb:∀ g,(Value.slice ad2 (pre.length+1) c2).ownBlock=some g→w.heap.size+4<g:=fun g hg=>by
    rcases hat2 with h|h
    ·exact hg1 g (h.symm.trans hg)
    ·rw[h] at hg;cases hg;omega
   have hbl:Below w.heap.size W (w2.setCell ⟨w.heap.size+1,0,none⟩ (.slice ad2 (pre.length+1) c2)):=by
    have hb1:=((Below.refl w.heap.size W).alloc (by omega) (.cells #[.int .i64 y.1,.int .i64 y.2] 108)).grown hg2 (by simp;omega) (fun k hk=>by have:=hg1 k hk;omega)
    exact hb1.setCell (p:=⟨w.heap.size+1,0,none⟩) (by show w.heap.size≤w.heap.size+1;omega) _
   refine .inl ⟨rfl,⟨?_,⟨ad2,c2,?_,?_,?_⟩,hi.below.trans hbl,by rw[hss];omega,?_⟩,⟨hbl.os,hbl.tape,hbl.output,by rw[hss];omega,fun k hk=>?_⟩,fun k hk=>?_⟩
   ·exact (hset _ (by omega)).trans ((hlow _ (by omega)).trans hi.kb)
   ·have:=hlow (w.heap.size+1) (by omega)
    simp [World.setCell,Array.getElem?_modify,this,Hx.out]
   ·rw[flatS_snoc]
    have h3:=(ho2.far (p:=⟨w.heap.size+1,0,none⟩) (fun e=>by have:=hnb _ e;exact absurd this (by show ¬ w.heap.size+4<w.heap.size+1;omega)) (.slice ad2 (pre.length+1) c2))
    rw[List.length_append]
    exact⟨h3.1,h3.2.imp id fun⟨g,off,cap,e1,e2,e3⟩=>⟨g,off,cap,e1,by have:=hnb g (by rw[e1];rfl);omega,e3⟩⟩
   ·rw[List.length_append];exact hnb
   ·rw[List.length_append]
    have h1:=hi.len
    show pre.length+1≤k
    omega
   ·rcases hk with hk|hk
    ·exact (hset _ (by omega)).trans (hlow _ (by omega))
    ·exact (hset _ (by omega)).trans (hlow _ (by omega))
   ·rw[hbs] at hk
    exact (hset _ (by omega)).trans (hlow _ (by omega))
 case done =>
  intro W hi hD
  have HD:=Lib.hid hD
  clear hD
  have htk:(kn 0 L).take k=kn 0 L:=List.take_of_length_le hi.len
  rw[← htk] at hi
  clear htk
  obtain⟨R,hR⟩:∃ R,R=(kn 0 L).take k:=⟨_,rfl⟩
  rw[← hR] at hi
  have HR:=Lib.hid hR
  clear hR
  have hbx:=hi.ex
  obtain⟨ad1,c1,hbx1,ho1,hg1⟩:=hbx
  have hco:W.cell? ⟨w.heap.size+1,0,none⟩=some (.slice ad1 R.length c1):=by simp [World.cell?,hbx1]
  have hbl:=hi.below
  clear hi
  gi_wp2
  refine⟨by simp,.inl ⟨_,_,rfl,run_takeDeferred HD.out,?_⟩⟩
  have hR:=HR.out
  clear HR
  subst hR
  refine⟨_,results_tmp rfl _ _ _,ad1,c1,rfl,?_,?_⟩
  ·exact ho1.congr (by simp [World.putObj]) fun g hg=>World.putObj_heap_other (by have:=hg1 g hg;omega)
  ·exact hbl.trans ⟨rfl,rfl,rfl,by simp [World.putObj],fun k hk=>World.putObj_heap_other (by omega)⟩
 case stop =>
  rintro id W ⟨rfl,hi⟩ hD
  obtain⟨R,hR⟩:∃ R,R=(kn 0 L).take k:=⟨_,rfl⟩
  rw[← hR] at hi
  have HR:=Lib.hid hR
  clear hR
  have HD:=Lib.hid hD
  clear hD
  have hbx:=hi.ex
  obtain⟨ad1,c1,hbx1,ho1,hg1⟩:=hbx
  have hco:W.cell? ⟨w.heap.size+1,0,none⟩=some (.slice ad1 R.length c1):=by simp [World.cell?,hbx1]
  have hbl:=hi.below
  clear hi
  gi_wp2
  refine⟨by simp,.inl ⟨_,_,rfl,run_takeDeferred HD.out,?_⟩⟩
  have hR:=HR.out
  clear HR
  subst hR
  refine⟨_,results_tmp rfl _ _ _,ad1,c1,rfl,?_,?_⟩
  ·exact ho1.congr (by simp [World.putObj]) fun g hg=>World.putObj_heap_other (by have:=hg1 g hg;omega)
  ·exact hbl.trans ⟨rfl,rfl,rfl,by simp [World.putObj],fun k hk=>World.putObj_heap_other (by omega)⟩
end Go.Proofs.YtacfbiegbdlldaaGreatDoor.Tw
end
section
namespace Go.Proofs.YtacfbiegbdlldaaGreatDoor.Sim
open Go Go.RowKit Go.Deep
open Go.Proofs.YtacfbiegbdlldaaGreatDoor.Tw (WCell kn kn_len kn_all flatS first_any)
set_option maxRecDepth 100000
set_option maxHeartbeats 4000000
set_option linter.unusedVariables false
set_option linter.unusedSimpArgs false
theorem own_dsl {w:World} {S:Nat→Prop} {B k n:Nat} {v:Value} {l:List (List D)} {xs:List Value} (h:Own w B k v n xs) (hn:l.length=n) (hr:Rows w S k l xs) (hS:∀ g,B≤g→g<w.heap.size→S g):(D.sl k l).is w S v:=by
 subst hn
 simp only[D.is]
 rcases h.2 with ⟨rfl,h0⟩|⟨g,off,cap,rfl,hB,hlt,hn,hc,ht,hra⟩
 ·exact⟨none,0,xs,by rw[h0],by omega,by omega,hr,fun h=>by omega⟩
 ·exact⟨_,cap,xs,rfl,hn,hc,hr,fun _=>⟨g,off,rfl,⟨hS g hB hlt,hlt⟩,hra⟩⟩
def knS (l:List WCell):List (Int × Int):=(kn 0 l).map fun x=>((x.1:Int),x.2)
theorem rows_flatS {w:World} {S:Nat→Prop}:∀ {l:List (Nat × Int)},Rows w S 2 ((l.map fun x=>((x.1:Int),x.2)).map eS) (flatS l)
 |[]=>by simp [Rows,flatS]
 |x :: r=>by
  simp only[List.map_cons,Rows]
  refine⟨[.int .i64 x.1,.int .i64 x.2],flatS r,rfl,rfl,?_,rows_flatS⟩
  simp [eS,Cells,D.is,Value.oneCell']
theorem firstT (l:List WCell) (k:Nat) (hl:∀ y ∈ l,I64 y.v) (hlen:l.length≤32):Does Tryz.prog 135 [.d (dCells l),I k] [] (.d (dShares ((knS l).take k))) [] []:=by
 intro w hd S X us _ hm hv
 simp only[VRs,VR,I] at hv
 obtain⟨u1,r1,rfl,h1,u2,r2,rfl,h2,rfl⟩:=hv
 simp only[D.is] at h2
 obtain⟨rfl,-⟩:=h2
 have hq:=(dcells_lst (l:=l) hl h1).more (S':=Lo w.heap.size) (fun b hb=>hm.lt b hb)
 refine (first_any k l u1 w hq hlen).mono ?_
 rintro e w' ⟨ad,c,rfl,ho,hb⟩
 refine⟨_,hd,fun b=>S b∨(w.heap.size≤b∧b<w'.heap.size),rfl,⟨hb.os,hb.tape,hb.output,hb.size,fun k hk _=>hb.block k hk⟩,⟨fun i o h=>by simp [ups,fresh] at h,fun i j oi oj b _ h=>by simp [ups,fresh] at h,?_,hb.size,hm.sX⟩,?_,?_,Le.refl _ _⟩
 ·rintro b (h|h)
  ·exact Nat.lt_of_lt_of_le (hm.lt b h) hb.size
  ·exact h.2
 ·simp only[VR,dShares,knS,← List.map_take]
  exact own_dsl ho (by simp) rows_flatS fun g h3 h4=>.inr ⟨h3,h4⟩
 ·rintro b (h|h)
  ·exact .inl h
  ·exact .inr (.inl h.1)
attribute [local irreducible] Go Mean
def fillF (p:Int) (l:List WCell) (k:Nat):List Int:=trimF (intN p ((knS l).take k) ((knS l).take k).length).1
def FillOK (p:Int) (l:List WCell) (k:Nat):Prop:=∀ j,j<((knS l).take k).length→0<valF p (intN p ((knS l).take k) j).2 (((knS l).take k).getD j (0,0)).1
theorem knS_len {l:List WCell}:(knS l).length=(kn 0 l).length:=by simp [knS]
theorem kn_bound:∀ (i:Nat) (l:List WCell),∀ x ∈ kn i l,i<x.1∧x.1≤i+l.length
 |_,[],x,hx=>by simp [kn] at hx
 |i,c :: r,x,hx=>by
  have ih:=kn_bound (i+1) r
  simp only[kn] at hx
  split at hx
  ·rcases List.mem_cons.1 hx with rfl|hx
   ·simp
   ·have:=ih x hx;simp only[List.length_cons];omega
  ·have:=ih x hx;simp only[List.length_cons];omega
theorem kn_val:∀ (i:Nat) (l:List WCell),∀ x ∈ kn i l,∃ c ∈ l,c.v=x.2
 |_,[],x,hx=>by simp [kn] at hx
 |i,c :: r,x,hx=>by
  have ih:=kn_val (i+1) r
  simp only[kn] at hx
  split at hx
  ·rcases List.mem_cons.1 hx with rfl|hx
   ·exact⟨c,by simp,rfl⟩
   ·obtain⟨c',h1,h2⟩:=ih x hx;exact⟨c',List.mem_cons_of_mem _ h1,h2⟩
  ·obtain⟨c',h1,h2⟩:=ih x hx;exact⟨c',List.mem_cons_of_mem _ h1,h2⟩
theorem kn_asc:∀ (i:Nat) (l:List WCell),(kn i l).Pairwise fun x y=>x.1<y.1
 |_,[]=>by simp [kn]
 |i,c :: r=>by
  have ih:=kn_asc (i+1) r
  simp only[kn]
  split
  ·exact List.pairwise_cons.2 ⟨fun y hy=>(kn_bound (i+1) r y hy).1,ih⟩
  ·exact ih
theorem onceB_asc:∀ (l s:List Int),(∀ x ∈ s,∀ y ∈ l,x<y)→l.Pairwise (·<·)→onceB s l=true
 |[],_,_,_=>rfl
 |x :: r,s,h1,h2=>by
  rw[List.pairwise_cons] at h2
  simp only[onceB,Bool.and_eq_true,Bool.not_eq_true']
  refine⟨?_,onceB_asc r (x :: s) ?_ h2.2⟩
  ·rw[List.contains_eq_mem,decide_eq_false_iff_not]
   intro hm
   exact absurd (h1 x hm x (by simp)) (by omega)
  ·intro y hy z hz
   rcases List.mem_cons.1 hy with rfl|hy
   ·exact h2.1 z hz
   ·exact h1 y hy z (List.mem_cons_of_mem _ hz)
theorem knS_asc {l:List WCell}:(knS l).Pairwise fun x y=>x.1<y.1:=by
 unfold knS
 rw[List.pairwise_map]
 exact (kn_asc 0 l).imp fun h=>by simpa using h
theorem knS_once {l:List WCell} {k:Nat}:onceB [] (((knS l).take k).map (·.1))=true:=by
 refine onceB_asc _ _ (by simp) ?_
 rw[List.pairwise_map]
 exact knS_asc.take
theorem knS_at {p:Int} {l:List WCell} (hl:WordIn p l):((knS l).map (·.1)).all (inE p)=true∧((knS l).map (·.2)).all (inE p)=true:=by
 have hlp:=hl.lp
 constructor
 ·rw[List.all_eq_true]
  intro x hx
  simp only[knS,List.map_map,List.mem_map] at hx
  obtain⟨y,hy,rfl⟩:=hx
  have:=kn_bound 0 l y hy
  simp [inE];omega
 ·rw[List.all_eq_true]
  intro x hx
  simp only[knS,List.map_map,List.mem_map] at hx
  obtain⟨y,hy,rfl⟩:=hx
  obtain⟨c,h1,h2⟩:=kn_val 0 l y hy
  have:=hl.el c h1
  simp [inE];omega
theorem fillT (p:Int) (l:List WCell) (k:Nat) (hf:fieldB p=true) (hl:WordIn p l) (h1:1≤k) (h2:k≤(kn 0 l).length) (ho:FillOK p l k):Does Tryz.prog 117 [.ag [I p],.d (dCells l),I k] [] (.tu [.og 1000000 0,I 0]) [] [.arr 0 1 true ((fillF p l k).map eI)]:=by
 refine G86' rfl BxOK.nil fun cx hm0=>go_in 5000 ?_
 unfold A86' R86'
 have hp:=(fieldB_iff.1 hf).1
 have hp2:=(fieldB_iff.1 hf).2.1
 have e1:=cells p l hf hl
 have hkl:=kn_len 0 l
 have hll:=hl.len
 have hlp:=hl.lp
 have e2:=firstT l k (fun y hy=>by have:=hl.el y hy;constructor <;> omega) hll
 have h3:=knS_at hl
 have e3:=interpolateT p ((knS l).take k) hf (by rw[List.map_take];exact List.all_eq_true.2 fun x hx=>List.all_eq_true.1 h3.1 x (List.mem_of_mem_take hx)) (by rw[List.map_take];exact List.all_eq_true.2 fun x hx=>List.all_eq_true.1 h3.2 x (List.mem_of_mem_take hx)) (by rw[List.length_take,knS_len];omega) knS_once ho
 have q1:decide ((k:Int)<1)=false:=df (by omega)
 have q2:decide ((l.length:Int)<(k:Int))=false:=df (by omega)
 have q3:decide (((kn 0 l).length:Int)<(k:Int))=false:=df (by omega)
 have hff:trimF (intN p ((knS l).take k) ((knS l).take k).length).1=fillF p l k:=rfl
 rw[hff] at e3
 repeat' (first|simp (maxSteps:=9999999) only[↓GE,PL,PP,EE,QQ,seval,q1,q2,q3,lm]|(simp (disch:=omega) only[i6])|(apply go_brD<;>intro h)|(apply go_gsD aE<;>intro h)|(apply go_br<;>intro h)|(apply go_gs aE<;>intro h)|(apply go_call 5000 (e1) rfl rfl;iterate 4 (first|(exact CallForm.plain rfl)|exact aC))|(apply go_call 5000 (e2) rfl rfl;iterate 4 (first|(exact CallForm.plain rfl)|exact aC))|(apply go_call 5000 (e3) rfl rfl;iterate 4 (first|(exact CallForm.news rfl rfl)|exact aC))|(with_reducible apply And.intro)|exact aG|fail)
 all_goals ((first|apply ret_mk [some 41000]|apply end_mk [some 41000]);(· exact aR);(· exact aZ);all_goals exact aF)
end Go.Proofs.YtacfbiegbdlldaaGreatDoor.Sim
end
