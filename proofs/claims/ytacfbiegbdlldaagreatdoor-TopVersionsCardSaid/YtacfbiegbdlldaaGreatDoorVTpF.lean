/- What is known of a word: contracts. -/
import Derived.Test.YtacfbiegbdlldaaGreatDoorRows
import Derived.Test.YtacfbiegbdlldaaGreatDoorVRep
import Derived.Test.YtacfbiegbdlldaaGreatDoorVRangeKeep
import Derived.Test.YtacfbiegbdlldaaGreatDoorVFieldRes
import Derived.RangeFuncNested
import Derived.RangeFuncBound
import Derived.RangeFuncCalls
import Derived.RangeFuncLeaves
import Derived.Shelf.Abstract
import Derived.Shelf.RegionOpen
import Derived.WalkKit
import Derived.OwnWalk
import Derived.OwnWalkIn
import Derived.Outline
import Derived.TacticsInMore
import Derived.LoopNIn
import Derived.LoopIn
import Derived.Lib.Hide
import Derived.Test.YtacfbiegbdlldaaGreatDoorVTpS
section
namespace Go.Proofs.YtacfbiegbdlldaaGreatDoor.Tw
open Go Go.RowKit Go.Shelf
set_option linter.unusedVariables false
attribute [local go_sem] Oper.semAt_some
structure WCell where
 v:Int
 k:Bool
instance:Rep WCell where
 sz:=2
 is _ _ cs x:=cs=[.int .i64 x.v,.bool x.k]∧I64 x.v
 len:=by rintro w S cs x ⟨rfl,_⟩;rfl
 one:=by rintro w S cs x ⟨rfl,_⟩ u hu;simp at hu;rcases hu with rfl|rfl <;> rfl
 keep:=fun h _=>h
def kn:Nat→List WCell→List (Nat × Int)
 |_,[]=>[]
 |i,c :: r=>if c.k then (i+1,c.v) :: kn (i+1) r else kn (i+1) r
theorem kn_append:∀ (i:Nat) (a b:List WCell),kn i (a++b)=kn i a++kn (i+a.length) b
 |i,[],b=>by simp [kn]
 |i,c :: r,b=>by
  simp only[List.cons_append,kn,List.length_cons]
  rw[kn_append (i+1) r b,show i+1+r.length=i+(r.length+1) by omega]
  split <;> rfl
theorem kn_next {l:List WCell} {k:Nat} (h:k<l.length):kn 0 (l.take (k+1))=kn 0 (l.take k)++if l[k].k then [(k+1,l[k].v)] else []:=by
 rw[List.take_succ_eq_append_getElem h,kn_append,List.length_take,Nat.min_eq_left (by omega),Nat.zero_add]
 simp only[kn]
theorem kn_take {l:List WCell} {k:Nat}:kn 0 l=kn 0 (l.take k)++kn (l.take k).length (l.drop k):=by
 have:=kn_append 0 (l.take k) (l.drop k)
 rw[List.take_append_drop,Nat.zero_add] at this
 exact this
def encK (x:Nat × Int):Array Value:=#[.int .i64 x.1,.int .i64 x.2]
theorem known_any (v:Value) (w:World) (h1:v.oneCell'=true) :
  Calls Tryz.prog 145 #[v] w fun e w'=>e=.returned (.func (.func 148) #[] #[.pointer (some ⟨w.heap.size,0,none⟩)])∧w.alloc (.cells #[v] 158)=w':=by
 go_enter Tryz.func145,Tryz.ntmps145
 go_wp2
 go_ret
 exact⟨rfl,rfl⟩
theorem known_in (F:Fence) (n:Nat) (hf:F.fn 148) (hro:F.round=none) (hn:1≤n) (l Bu:Nat) (K S:Nat→Prop) (hBu:K Bu) (hS:∀ b,S b→K b) (v:Value) (L:List WCell) (J:List (Nat × Int)→World→Prop) (W0:World) (hK:∀ k,K k→k<W0.heap.size)
  (hbx:W0.heap[Bu]?=some (.cells #[v] 158 (0,0))) (hq:Lst W0 S v L) (hlen:L.length≤1000000000)
  (hJ:∀ pre W W',J pre W→Below W.heap.size W W'→J pre W')
  (hY:∀ pre x W,J pre W→pre.length<(kn 0 L).length→(kn 0 L).take (pre.length+1)=pre++[x]→YieldAt F (n-1) Tryz.prog l (encK x) W fun e W'=>e=.returned (.bool true)∧J (pre++[x]) W'∧KeepK K W W')
  (h0:J [] W0) :
  CallsIn F n Tryz.prog 148 #[.func (.yield l) #[] #[],.pointer (some ⟨Bu,0,none⟩)] W0 fun e W'=>(∃ v,e=.returned v)∧J (kn 0 L) W':=by
 obtain⟨aq,cq,rfl,hq1,hq2⟩:=hq.form
 have hc0:W0.cell? ⟨Bu,0,none⟩=some (.slice aq L.length cq):=by simp [World.cell?,hbx]
 have Hbx:=Lib.hid hbx
 clear hbx
 refine callsIn_of_wp Tryz.func148 rfl hf ?_ hro
 simp only[Tryz.ntmps148,List.size_toArray,List.length_cons,List.length_nil,Nat.reduceAdd,Nat.reduceSub,Array.replicate_succ,Array.replicate_zero,List.push_toArray,List.append_toArray,List.nil_append,List.cons_append]
 gi_wp2
 gi_loopw [7] (fun i wr=>∃ k:Nat,i=.int .i64 k∧k≤L.length∧J (kn 0 (L.take k)) wr∧KeepK K W0 wr) (fun i wr=>L.length-(intOf i).toNat)
 case atStart =>
  exact⟨0,rfl,Nat.zero_le _,h0,KeepK.refl _ _⟩
 case round =>
  obtain⟨k,rfl,hk,hj,hb⟩:=hrel
  by_cases hkl:k<L.length
  ·have hnext:=kn_next hkl
   have hall:=kn_take (l:=L) (k:=k+1)
   obtain⟨g,off,cs,rfl,hg,hr,hcs,hI⟩:=hq.at_ hkl
   subst hcs
   have hr2:wr.rangeAt g (off+k*2) [.int .i64 L[k].v,.bool L[k].k]:=fun i x hx=>(hb.cell (p:=⟨g,off+k*2+i,none⟩) (hS _ hg.1)).trans (hr i x hx)
   have hc1:wr.cell? ⟨g,off+k*2,none⟩=some (.int .i64 L[k].v):=hr2 0 _ rfl
   have hc2:wr.cell? ⟨g,off+k*2+1,none⟩=some (.bool L[k].k):=hr2 1 _ rfl
   have hsz:∀ k,K k→k<wr.heap.size:=fun k hk=>Nat.lt_of_lt_of_le (hK k hk) hb.size
   have hlt:(kn 0 (L.take (k+1))).length≤(kn 0 L).length:=by rw[hall,List.length_append];omega
   have htk:(kn 0 L).take (kn 0 (L.take (k+1))).length=kn 0 (L.take (k+1)):=by
    conv=>lhs;rw[hall]
    rw[List.take_append_of_le_length (Nat.le_refl _),List.take_length]
   clear hall
   generalize hck:L[k]=c at *
   obtain⟨cv,ck⟩:=c
   simp only at hnext hc1 hc2 hI
   cases ck with
   |true =>
    simp only[if_true] at hnext
    have hlen2:(kn 0 (L.take (k+1))).length=(kn 0 (L.take k)).length+1:=by rw[hnext,List.length_append];rfl
    have hj2:=hJ _ _ _ hj ((Below.refl wr.heap.size wr).alloc (Nat.le_refl _) (.cells #[.int .i64 cv,.bool true] 160))
    obtain⟨fn,tmps,assign,body,hy,hR⟩:=hY _ (k+1,cv) _ hj2 (by omega) (by rw[← hlen2,htk,hnext])
    simp only[encK] at hy
    rw[show ((k+1:Nat):Int)=(k:Int)+1 by omega] at hy
    have Hn:=Lib.hid hnext
    have Hl:=Lib.hid hlen2
    have Ht:=Lib.hid htk
    clear hnext hlen2 htk hlt hj2
    gi_wp2
    refine hR.mono ?_
    rintro e W3 ⟨rfl,hJ3,hk3⟩
    gi_wp2
    have hka:KeepK K wr (wr.alloc (.cells #[.int .i64 cv,.bool true] 160)):=(KeepK.refl K wr).alloc hsz _
    refine⟨⟨k+1,by rw[show ((k+1:Nat):Int)=(k:Int)+1 by omega],hkl,by rw[Hn.out];exact hJ3,hb.trans (hka.trans hk3)⟩,?_⟩
    simp only[intOf];omega
   |false =>
    simp only[Bool.false_eq_true,if_false,List.append_nil] at hnext
    have Hn:=Lib.hid hnext
    have Ht:=Lib.hid htk
    clear hnext htk hlt
    gi_wp2
    refine⟨by simp,?_⟩
    gi_wp2
    have hka:KeepK K wr (wr.alloc (.cells #[.int .i64 cv,.bool false] 160)):=(KeepK.refl K wr).alloc hsz _
    refine⟨⟨k+1,by rw[show ((k+1:Nat):Int)=(k:Int)+1 by omega],hkl,by rw[Hn.out];exact hJ _ _ _ hj ((Below.refl wr.heap.size wr).alloc (Nat.le_refl _) _),hb.trans hka⟩,?_⟩
    simp only[intOf];omega
  ·obtain rfl:k=L.length:=by omega
   gi_wp2
   go_end0
   refine⟨⟨_,rfl⟩,?_⟩
   have:=hj
   rwa [List.take_of_length_le (Nat.le_refl _)] at this
end Go.Proofs.YtacfbiegbdlldaaGreatDoor.Tw
end
section
namespace Go.Proofs.YtacfbiegbdlldaaGreatDoor.Tw
open Go Go.RowKit Go.Shelf
open Go.Proofs.YtacfbiegbdlldaaGreatDoor.Field
set_option linter.unusedVariables false
attribute [local go_sem] Oper.semAt_some
structure CntI (q:Int) (w:World) (s:Nat) (pre:List (Nat × Int)) (W:World):Prop where
 n:W.heap[s+1]?=some (.cells #[.int .i64 pre.length] 3 (0,0))
 p:W.heap[s]?=some (.cells #[.int .i64 q] 111 (0,0))
 r4:W.heap[w.heap.size+1]?=some (.cells #[.int .i64 0] 111 (0,0))
 r5:W.heap[w.heap.size+2]?=some (.cells #[.int .i64 0] 3 (0,0))
 r6:W.heap[w.heap.size+3]?=some (.cells #[.int .i64 0] 38 (0,0))
 below:Below w.heap.size w W
 size:s+3≤W.heap.size
theorem kn_len:∀ (i:Nat) (l:List WCell),(kn i l).length≤l.length
 |_,[]=>Nat.le_refl _
 |i,c :: r=>by
  have:=kn_len (i+1) r
  simp only[kn]
  split <;> simp only[List.length_cons] <;> omega
theorem kn_all {q:Int}:∀ {i:Nat} {l:List WCell} {y:Nat × Int},(∀ y ∈ l,0≤y.v∧y.v<q)→y ∈ kn i l→0≤y.2∧y.2<q
 |_,[],_,_,h=>by cases h
 |i,c :: r,y,hl,h=>by
  simp only[kn] at h
  split at h
  ·rcases List.mem_cons.1 h with rfl|h
   ·exact hl c List.mem_cons_self
   ·exact kn_all (fun z hz=>hl z (List.mem_cons_of_mem _ hz)) h
  ·exact kn_all (fun z hz=>hl z (List.mem_cons_of_mem _ hz)) h
theorem cells_body (l:Nat) (q y m:Int) (B4 B5 B6 s:Nat) (W:World) (u0 u1 u2 u3 u8 u10 u12 u13 u14 u15 u16 u17 u18 u19 u20 u21 u22 u23 u24 u25 u26 u27 u28 u29 u30 u31 u32:Value) (Q:Exit→Act→World→Prop) (hy:0≤y∧y<q) (hm:0≤m∧m≤1000)
  (hcn:W.cell? ⟨s+1,0,none⟩=some (.int .i64 m)) (hcp:W.cell? ⟨s,0,none⟩=some (.int .i64 q)) (hfn:W.frozen? ⟨s+1,0,none⟩=false)
  (hQ:∀ a,Q .normal a (W.setCell ⟨s+1,0,none⟩ (.int .i64 (m+1)))) :
  (Code.block 1 (Code.seq (Code.seq (Code.region 9 #[⟨some 33,.load 111 (.tmp 7),111,"code.go:34",#[],none⟩,⟨some 34,.move (.tmp 11),3,"code.go:34",#[],none⟩,⟨some 35,.call { callee:=.value (.func 45),args:=#[.tmp 33,.tmp 34],argTypes:=#[111,3] },4,"code.go:34",#[⟨0,.data⟩,⟨1,.data⟩],none⟩,⟨some 36,.unOp .not 4 (.tmp 35),4,"code.go:34",#[⟨2,.data⟩],none⟩] false)
   (Code.cond (.tmp 36) (Code.seq (Code.region 10 #[⟨none,.store 111 (.tmp 4) (.const (.int .i64 0)),0,"code.go:35",#[],none⟩,⟨none,.store 3 (.tmp 5) (.const (.int .i64 0)),0,"code.go:35",#[⟨0,.chain⟩,⟨0,.phase⟩],none⟩,⟨none,.store 38 (.tmp 6) (.const (.int .i64 9)),0,"code.go:35",#[⟨1,.chain⟩,⟨0,.phase⟩,⟨1,.phase⟩],none⟩] false) Code.ret) Code.skip))
   (Code.region 11 #[⟨some 37,.load 3 (.tmp 9),3,"code.go:37",#[],none⟩,⟨some 38,.binOp .add 3 (.tmp 37) (.const (.int .i64 1)) 3,3,"code.go:37",#[⟨0,.data⟩],none⟩,⟨none,.store 3 (.tmp 9) (.tmp 38),0,"code.go:37",#[⟨1,.data⟩,⟨0,.phase⟩,⟨1,.phase⟩],none⟩] false))).wpIn (Fence.wide.inRound l) 1 Tryz.prog Q { tmps:=#[u0,u1,u2,u3,.pointer (some ⟨B4,0,none⟩),.pointer (some ⟨B5,0,none⟩),.pointer (some ⟨B6,0,none⟩),.pointer (some ⟨s,0,none⟩),u8,.pointer (some ⟨s+1,0,none⟩),u10,.int .i64 y,u12,u13,u14,u15,u16,u17,u18,u19,u20,u21,u22,u23,u24,u25,u26,u27,u28,u29,u30,u31,u32,undef,undef,undef,undef,undef,undef,undef,undef],defers:=[] } W:=by
 have e1:=pHas_any q y W
 have hB:hasB q y=true:=by simp [hasB];omega
 rw[hB] at e1
 gi_wp2
 refine⟨trivial,(CallsIn.inRound l (callsIn_wide.2 e1)).mono ?_⟩
 rintro e w' ⟨rfl,rfl⟩
 gi_wp2
 exact hQ _
set_option maxHeartbeats 4000000 in
theorem cells_any (p:Int) (L:List WCell) (v:Value) (w:World) (hp:2≤p) (hp2:p≤65521) (hP:isP p.toNat) (hL:∀ y ∈ L,0≤y.v∧y.v<p) (hq:Lst w (Lo w.heap.size) v L) (hlen:L.length≤32) (hlp:L.length<p) :
  Calls Tryz.prog 133 #[.agg #[.int .i64 p],v] w fun e w'=>e=.returned (.tuple #[.int .i64 p,.int .i64 (kn 0 L).length,.int .i64 0])∧Below w.heap.size w w':=by
 obtain⟨aq,cq,rfl,hq1,hq2⟩:=hq.form
 refine (callsIn_wide (n:=3)).1 ?_
 refine callsIn_of_wp_marks Tryz.func133 rfl trivial ?_ rfl
 simp only[Tryz.ntmps133,List.size_toArray,List.length_cons,List.length_nil,Nat.reduceAdd,Nat.reduceSub,Array.replicate_succ,Array.replicate_zero,List.push_toArray,List.append_toArray,List.nil_append,List.cons_append]
 have hV:Valid p:=⟨hp,hp2,hP⟩
 gi_wp2
 refine⟨trivial,(callsIn_wide (n:=2)).2 ((of_any _ _).mono ?_)⟩
 intro e w' ho
 obtain⟨q,b,rfl,⟨rfl,rfl,-⟩|⟨-,-,hno⟩,hb⟩:=ho
 ·obtain⟨w0,hw0⟩:∃ w0,w0=(((w.alloc (.cells #[.int .i64 q] 28)).alloc (.cells #[.int .i64 0] 111)).alloc (.cells #[.int .i64 0] 3)).alloc (.cells #[.int .i64 0] 38):=⟨_,rfl⟩
  have hs0:w0.heap.size=w.heap.size+4:=by rw[hw0];simp
  have hbw:Below w.heap.size w w0:=by rw[hw0];exact ((((Below.refl _ w).alloc (Nat.le_refl _) _).alloc (by simp) _).alloc (by simp;omega) _).alloc (by simp;omega) _
  have h1:∀ (V:World) (o o':Obj) (k:Nat),V.heap[k]?=some o→(V.alloc o').heap[k]?=some o:=fun V o o' k h=>(Below.heap_alloc V o' k (Array.getElem?_eq_some_iff.1 h).1).trans h
  have hp0:w0.heap[w.heap.size]?=some (.cells #[.int .i64 q] 28 (0,0)):=by rw[hw0];exact h1 _ _ _ _ (h1 _ _ _ _ (h1 _ _ _ _ (World.alloc_heap_new w _)))
  have h40:w0.heap[w.heap.size+1]?=some (.cells #[.int .i64 0] 111 (0,0)):=by
   rw[hw0];refine h1 _ _ _ _ (h1 _ _ _ _ ?_)
   simpa using World.alloc_heap_new (w.alloc (.cells #[.int .i64 q] 28)) (.cells #[.int .i64 0] 111)
  have h50:w0.heap[w.heap.size+2]?=some (.cells #[.int .i64 0] 3 (0,0)):=by
   rw[hw0];refine h1 _ _ _ _ ?_
   simpa using World.alloc_heap_new ((w.alloc (.cells #[.int .i64 q] 28)).alloc (.cells #[.int .i64 0] 111)) (.cells #[.int .i64 0] 3)
  have h60:w0.heap[w.heap.size+3]?=some (.cells #[.int .i64 0] 38 (0,0)):=by
   rw[hw0]
   simpa using World.alloc_heap_new (((w.alloc (.cells #[.int .i64 q] 28)).alloc (.cells #[.int .i64 0] 111)).alloc (.cells #[.int .i64 0] 3)) (.cells #[.int .i64 0] 38)
  rw[← hw0] at hb
  have hb':Below (w.heap.size+4) w0 w':=by rw[← hs0];exact hb
  have hp1:=(hb'.block _ (by omega)).trans hp0
  have h41:=(hb'.block _ (by omega)).trans h40
  have h51:=(hb'.block _ (by omega)).trans h50
  have h61:=(hb'.block _ (by omega)).trans h60
  have hbw':Below w.heap.size w w':=hbw.trans ⟨hb'.os,hb'.tape,hb'.output,hb'.size,fun k hk=>hb'.block k (by omega)⟩
  have hsz:w.heap.size+4≤w'.heap.size:=by have:=hb'.size;omega
  clear hb hb' hp0 h40 h50 h60 hbw hw0 hs0 h1
  clear w0
  have hcp:(w'.alloc (.cells #[.int .i64 q] 111)).cell? ⟨w.heap.size,0,none⟩=some (.int .i64 q):=(World.cell?_of_block (a:=⟨w.heap.size,0,none⟩) (Below.heap_alloc w' _ _ (show w.heap.size<w'.heap.size by omega))).trans (by simp [World.cell?,hp1])
  have d1:decide ((32:Int)<(L.length:Int))=false:=decide_eq_false (by omega)
  have d2:decide (q≤(L.length:Int))=false:=decide_eq_false (by omega)
  have d3:¬ ((32:Int)<(L.length:Int)):=by omega
  have d4:¬ (q≤(L.length:Int)):=by omega
  have Hp1:=Lib.hid hp1
  have H41:=Lib.hid h41
  have H51:=Lib.hid h51
  have H61:=Lib.hid h61
  clear hp1 h41 h51 h61
  gi_wp2
  refine⟨trivial,(callsIn_wide (n:=2)).2 ((known_any _ _ rfl).mono ?_)⟩
  rintro e wk ⟨rfl,rfl⟩
  gi_wp2
  obtain⟨s,hs⟩:∃ s,s=w'.heap.size:=⟨_,rfl⟩
  obtain⟨ws,hws⟩:∃ ws,ws=((w'.alloc (.cells #[.int .i64 q] 111)).alloc (.cells #[.int .i64 0] 3)).alloc (.cells #[.slice aq L.length cq] 158):=⟨_,rfl⟩
  have hbs:ws.heap.size=s+3:=by rw[hws,hs];simp
  have hsk:Below s w' ws:=by rw[hws,hs];exact (((Below.refl _ w').alloc (Nat.le_refl _) _).alloc (by simp) _).alloc (by simp;omega) _
  have h1:∀ (V:World) (o o':Obj) (k:Nat),V.heap[k]?=some o→(V.alloc o').heap[k]?=some o:=fun V o o' k h=>(Below.heap_alloc V o' k (Array.getElem?_eq_some_iff.1 h).1).trans h
  have hkb:ws.heap[s+2]?=some (.cells #[.slice aq L.length cq] 158 (0,0)):=by
   rw[hws,hs]
   simpa using World.alloc_heap_new ((w'.alloc (.cells #[.int .i64 q] 111)).alloc (.cells #[.int .i64 0] 3)) (.cells #[.slice aq L.length cq] 158)
  have hI0:CntI q w s [] ws:=by
   refine⟨?_,?_,(hsk.block _ (by omega)).trans H41.out,(hsk.block _ (by omega)).trans H51.out,(hsk.block _ (by omega)).trans H61.out,hbw'.trans ⟨hsk.os,hsk.tape,hsk.output,hsk.size,fun k hk=>hsk.block k (by omega)⟩,by omega⟩
   ·rw[hws,hs]
    refine h1 _ _ _ _ ?_
    simpa using World.alloc_heap_new (w'.alloc (.cells #[.int .i64 q] 111)) (.cells #[.int .i64 0] 3)
   ·rw[hws,hs];exact h1 _ _ _ _ (h1 _ _ _ _ (World.alloc_heap_new w' _))
  have hsw:w.heap.size+4≤s:=by omega
  rw[← hws]
  rw[← hs]
  clear hws hs h1 hsk hcp Hp1 H41 H51 H61 hbw' hsz
  clear w'
  refine wpIn_range_keep rfl (by decide) (gf:=148) (lb:=#[.pointer (some ⟨s+2,0,none⟩)]) (by simp [go_sem]) trivial (enters_of Tryz.func148 (by kernel_rfl) rfl)
   encK (fun _=>rfl) (kn 0 L) (fun k=>k<w.heap.size∨k=s+2) ?hK (CntI q w s) ?hI ?h0 ?hIb ?hseq
   (fun y=>{ tmps:=#[.agg #[.int .i64 q],.slice aq L.length cq,.pointer (some ⟨w.heap.size,0,none⟩),undef,.pointer (some ⟨w.heap.size+1,0,none⟩),.pointer (some ⟨w.heap.size+2,0,none⟩),.pointer (some ⟨w.heap.size+3,0,none⟩),.pointer (some ⟨s,0,none⟩),.bool true,.pointer (some ⟨s+1,0,none⟩),undef,.int .i64 y.2,.tuple #[.int .i64 q,.bool true],.agg #[.int .i64 q],.tuple #[.int .i64 q,.bool true],.int .i64 q,.bool true,.bool true,.bool false,.slice aq L.length cq,.int .i64 L.length,.bool false,.bool false,.slice aq L.length cq,.int .i64 L.length,.pointer (some ⟨w.heap.size,0,none⟩),.int .i64 q,.bool false,.bool false,.slice aq L.length cq,.func (.func 148) #[] #[.pointer (some ⟨s+2,0,none⟩)],.int .i64 y.1,.int .i64 y.2,undef,undef,undef,undef,undef,undef,undef,undef],defers:=[] }) ?assign ?body ?done
  case hK =>
   intro k hk
   omega
  case hI =>
   intro pre W W' hi hb
   have hsz:=hi.size
   have hn:∀ k,k<s+3→W'.heap[k]?=W.heap[k]?:=fun k hk=>hb.block k (by omega) (by omega)
   exact⟨(hn _ (by omega)).trans hi.n,(hn _ (by omega)).trans hi.p,(hn _ (by omega)).trans hi.r4,(hn _ (by omega)).trans hi.r5,(hn _ (by omega)).trans hi.r6,hi.below.trans ⟨hb.os,hb.tape,hb.output,hb.size,fun k hk=>hn k (by omega)⟩,by have:=hb.size;omega⟩
  case h0=>exact hI0
  case hIb =>
   intro pre W W' hi hb
   have hsz:=hi.size
   exact⟨(hb.block _ (by omega)).trans hi.n,(hb.block _ (by omega)).trans hi.p,(hb.block _ (by omega)).trans hi.r4,(hb.block _ (by omega)).trans hi.r5,(hb.block _ (by omega)).trans hi.r6,hi.below.trans ⟨hb.os,hb.tape,hb.output,hb.size,fun k hk=>hb.block k (by omega)⟩,Nat.le_trans hsz hb.size⟩
  case hseq =>
   intro l J W hJb hY hj hb
   have hWs:s+3≤W.heap.size:=by have:=hb.size;omega
   refine known_in Fence.wide 2 trivial rfl (by decide) l (s+2) (fun k=>k<w.heap.size∨k=s+2) (Lo w.heap.size) (.inr rfl) (fun b hb=>.inl hb) (.slice aq L.length cq) L J W (fun k hk=>by omega) ((hb.block _ (.inr rfl)).trans hkb) ?_ (by omega) hJb hY hj
   have hw:Below w.heap.size w W:=hI0.below.trans ⟨hb.os,hb.tape,hb.output,hb.size,fun k hk=>hb.block k (.inl hk)⟩
   exact hq.below hw (Nat.le_refl _)
  case assign =>
   intro l y W K hK
   simp only[encK]
   gi_wp2
   exact hK
  case body =>
   rintro l pre y W hi hpl hpt hlt
   have hy:0≤y.2∧y.2<q:=by
    have:y ∈ (kn 0 L).take (pre.length+1):=by rw[hpt];simp
    have h2:=List.mem_of_mem_take this
    exact kn_all hL h2
   have hkl:(kn 0 L).length≤L.length:=kn_len 0 L
   have hcn:W.cell? ⟨s+1,0,none⟩=some (.int .i64 pre.length):=by simp [World.cell?,hi.n]
   have hcp:W.cell? ⟨s,0,none⟩=some (.int .i64 q):=by simp [World.cell?,hi.p]
   have hfn:W.frozen? ⟨s+1,0,none⟩=false:=by simp [World.frozen?,hi.n]
   have Hi:=Lib.hid hi
   have Hpl:=Lib.hid hpl
   clear hi hpt
   refine cells_body l q y.2 pre.length (w.heap.size+1) (w.heap.size+2) (w.heap.size+3) s W _ _ _ _ _ _ _ _ _ _ _ _ _ _ _ _ _ _ _ _ _ _ _ _ _ _ _ _ hy ⟨by omega,by omega⟩ hcn hcp hfn (fun a=>?_)
   have hi:=Hi.out
   have hsz:=hi.size
   have hset:∀ k,k ≠ s+1→(W.setCell ⟨s+1,0,none⟩ (.int .i64 ((pre.length:Int)+1))).heap[k]?=W.heap[k]?:=fun k hk=>Below.heap_setCell W ⟨s+1,0,none⟩ _ k hk
   have hss:(W.setCell ⟨s+1,0,none⟩ (.int .i64 ((pre.length:Int)+1))).heap.size=W.heap.size:=by simp [World.setCell]
   refine⟨rfl,⟨?_,(hset _ (by omega)).trans hi.p,(hset _ (by omega)).trans hi.r4,(hset _ (by omega)).trans hi.r5,(hset _ (by omega)).trans hi.r6,hi.below.trans ⟨rfl,rfl,rfl,by rw[hss];exact Nat.le_refl _,fun k hk=>hset k (by omega)⟩,by rw[hss];exact hsz⟩,⟨rfl,rfl,rfl,by rw[hss];exact Nat.le_refl _,fun k hk=>hset k (by omega)⟩,fun k hk=>hset k (by rw[hbs] at hk;omega)⟩
   simp [World.setCell,Array.getElem?_modify,hi.n]
  case done =>
   rintro W hi hD
   have hcn:W.cell? ⟨s+1,0,none⟩=some (.int .i64 (kn 0 L).length):=by simp [World.cell?,hi.n]
   have hcp:W.cell? ⟨s,0,none⟩=some (.int .i64 q):=by simp [World.cell?,hi.p]
   have hf4:W.frozen? ⟨w.heap.size+1,0,none⟩=false:=by simp [World.frozen?,hi.r4]
   have hf5:W.frozen? ⟨w.heap.size+2,0,none⟩=false:=by simp [World.frozen?,hi.r5]
   have hf6:W.frozen? ⟨w.heap.size+3,0,none⟩=false:=by simp [World.frozen?,hi.r6]
   have hc4:W.cell? ⟨w.heap.size+1,0,none⟩=some (.int .i64 0):=by simp [World.cell?,hi.r4]
   have hc5:W.cell? ⟨w.heap.size+2,0,none⟩=some (.int .i64 0):=by simp [World.cell?,hi.r5]
   have hc6:W.cell? ⟨w.heap.size+3,0,none⟩=some (.int .i64 0):=by simp [World.cell?,hi.r6]
   have hm:Tryz.prog.follows .mixedOrders=true:=by kernel_rfl
   obtain⟨W3,hW3⟩:∃ W3,W3=(((W.setCell ⟨w.heap.size+1,0,none⟩ (.int .i64 q)).setCell ⟨w.heap.size+1+1,0,none⟩ (.int .i64 (kn 0 L).length)).setCell ⟨w.heap.size+1+1+1,0,none⟩ (.int .i64 0)).drew:=⟨_,rfl⟩
   have hset:∀ k,k ≠ w.heap.size+1→k ≠ w.heap.size+2→k ≠ w.heap.size+3→W3.heap[k]?=W.heap[k]?:=fun k e4 e5 e6=>by
    rw[hW3]
    exact (Below.heap_setCell _ ⟨w.heap.size+1+1+1,0,none⟩ _ k e6).trans ((Below.heap_setCell _ ⟨w.heap.size+1+1,0,none⟩ _ k e5).trans (Below.heap_setCell _ ⟨w.heap.size+1,0,none⟩ _ k e4))
   have hD3:W3.heap[s+3]?=some (.deferred (some [])):=(hset _ (by omega) (by omega) (by omega)).trans (by rw[← hbs];exact hD)
   have hsz:=hi.size
   have hput:∀ k,k ≠ s+3→(W3.putObj (s+3) (.deferred none)).heap[k]?=W3.heap[k]?:=fun k hk=>World.putObj_heap_other hk
   have b4:W3.heap[w.heap.size+1]?=some (.cells #[.int .i64 q] 111 (0,0)):=by
    rw[hW3]
    simp [World.drew,World.setCell,Array.getElem?_modify,hi.r4]
    try (intro h;omega)
   have b5:W3.heap[w.heap.size+1+1]?=some (.cells #[.int .i64 (kn 0 L).length] 3 (0,0)):=by
    rw[hW3]
    simp [World.drew,World.setCell,Array.getElem?_modify,hi.r5]
   have b6:W3.heap[w.heap.size+1+1+1]?=some (.cells #[.int .i64 0] 38 (0,0)):=by
    rw[hW3]
    simp [World.drew,World.setCell,Array.getElem?_modify,hi.r6]
   have k4:(W3.putObj (s+3) (.deferred none)).cell? ⟨w.heap.size+1,0,none⟩=some (.int .i64 q):=by simp [World.cell?,hput (w.heap.size+1) (by omega),b4]
   have k5:(W3.putObj (s+3) (.deferred none)).cell? ⟨w.heap.size+1+1,0,none⟩=some (.int .i64 (kn 0 L).length):=by simp [World.cell?,hput (w.heap.size+1+1) (by omega),b5]
   have k6:(W3.putObj (s+3) (.deferred none)).cell? ⟨w.heap.size+1+1+1,0,none⟩=some (.int .i64 0):=by simp [World.cell?,hput (w.heap.size+1+1+1) (by omega),b6]
   have hss:W3.heap.size=W.heap.size:=by rw[hW3];simp [World.drew,World.setCell]
   have hbl:Below w.heap.size w (W3.putObj (s+3) (.deferred none)):=by
    refine hi.below.trans ⟨by rw[hW3];rfl,by rw[hW3];rfl,by rw[hW3];rfl,by simp [World.putObj,hss],fun k hk=>(hput k (by omega)).trans (hset k (by omega) (by omega) (by omega))⟩
   have Hi:=Lib.hid hi
   clear hi hset hput b4 b5 b6 hss
   rw[hW3] at hD3 hbl k4 k5 k6
   clear hW3
   gi_wp2
   gi_region_elder_o
   all_goals gi_wp2
   all_goals (refine⟨by simp,.inl ⟨_,_,rfl,run_takeDeferred hD3,?_⟩⟩)
   all_goals (refine⟨.tuple #[.int .i64 q,.int .i64 (kn 0 L).length,.int .i64 0],?_,rfl,hbl⟩)
   all_goals (simp [results,Tryz.results133,go_sem,k4,k5,k6])
 ·exact absurd hV hno
end Go.Proofs.YtacfbiegbdlldaaGreatDoor.Tw
end
section
namespace Go.Proofs.YtacfbiegbdlldaaGreatDoor.Sim
open Go Go.RowKit Go.Deep
set_option maxRecDepth 100000
set_option maxHeartbeats 4000000
set_option linter.unusedVariables false
set_option linter.unusedSimpArgs false
attribute [local irreducible] Go Mean
def divQ (p by_:Int) (rest:List Int):Int:=rest.getD (rest.length-1) 0*by_ % p
def divR (p by_:Int) (b rest:List Int):List Int:=trimF ((addAt p ((0-divQ p by_ rest+p) % p) rest b (rest.length-b.length) b.length).take (rest.length-1))
def divN (p by_:Int) (b:List Int):Nat→List Int→List Int→List Int × List Int
 |0,rest,quot=>(rest,quot)
 |f+1,rest,quot=>if b.length≤rest.length then divN p by_ b f (divR p by_ b rest) (quot.set (rest.length-b.length) (divQ p by_ rest)) else (rest,quot)
theorem divR_len {p by_:Int} {b rest:List Int} (h:1≤rest.length):(divR p by_ b rest).length+1≤rest.length:=by
 unfold divR
 rw[trimF_len]
 refine Nat.le_trans (Nat.add_le_add_right (trimN_le _ _) 1) ?_
 rw[List.length_take,addAt_len];omega
theorem trimF_in {p:Int} {l:List Int} (h:l.all (inE p)=true):(trimF l).all (inE p)=true:=by
 rw[List.all_eq_true] at h ⊢
 exact fun x hx=>h x (List.mem_of_mem_take hx)
theorem take_in {p:Int} {l:List Int} {n:Nat} (h:l.all (inE p)=true):(l.take n).all (inE p)=true:=by
 rw[List.all_eq_true] at h ⊢
 exact fun x hx=>h x (List.mem_of_mem_take hx)
theorem divR_in {p by_:Int} {b rest:List Int} (hp:1≤p) (h:rest.all (inE p)=true):(divR p by_ b rest).all (inE p)=true:=trimF_in (take_in (addAt_in hp h))
theorem divN_more {p by_:Int} {b:List Int} (hb:1≤b.length):∀ {f g:Nat} {rest quot:List Int},rest.length<f→rest.length<g→divN p by_ b f rest quot=divN p by_ b g rest quot
 |0,_,_,_,h,_=>by omega
 |_,0,_,_,_,h=>by omega
 |f+1,g+1,rest,quot,h1,h2=>by
  simp only[divN]
  split
  ·have:=divR_len (p:=p) (by_:=by_) (b:=b) (rest:=rest) (by omega)
   exact divN_more hb (by omega) (by omega)
  ·rfl
def divF (p:Int) (a b:List Int):List Int × List Int :=
 let rest:=trimF a
 let d:=trimF b
 divN p (invI p (d.getD (d.length-1) 0)) d (rest.length+1) rest (List.replicate (rest.length+1-d.length) 0)
theorem addTimesTAt (p x:Int) (L r:List Int) (e i u:Nat) (hi:i<1000000) (hp:1≤p) (hp2:p≤65521) (hx:0≤x∧x<p) (hL:L.all (inE p)=true) (hr:r.all (inE p)=true) (hl:e+r.length≤L.length) (hb:L.length≤1000000):Does Tryz.prog 48 [I p,.ot i u e,I x,.d (dInts r)] [(i,.arr u 1 true (L.map eI))] (.tu []) [(i,.arr u 1 true ((addAt p x L r e r.length).map eI))] []:=by
 have h:=(addTimesT p x L r e hp hp2 hx hL hr hl hb).nm [(900000,i,u)] (by simp [rhoOK,hi]) rfl rfl rfl (by simp [O.wfB,eI]) (by simp [O.wfB,eI]) rfl rfl rfl
 simpa [V.nms,V.nm,nmU,rl,O.addv,I] using h
theorem trimOAt (l:List Int) (i u:Nat) (hi:i<1000000) (hl:l.length≤1000000):Does Tryz.prog 142 [.og i u] [(i,.arr u 1 true (l.map eI))] (.og i (u+1)) [(i,.arr (u+1) 1 true ((trimF l).map eI))] []:=by
 have h:=(trimO l hl).nm [(900000,i,u)] (by simp [rhoOK,hi]) rfl rfl rfl (by simp [O.wfB,eI]) (by simp [O.wfB,eI]) rfl rfl rfl
 simpa [V.nms,V.nm,nmU,rl,O.addv,I,Nat.add_comm] using h
theorem divideT (p:Int) (a b:List Int) (hf:fieldB p=true) (ha:a.all (inE p)=true) (hb:b.all (inE p)=true) (ha2:a.length≤512) (hb2:b.length≤512) (hb3:1≤(trimF b).length) (hb4:0<(trimF b).getD ((trimF b).length-1) 0) :
  Does Tryz.prog 123 [.ag [I p],.d (dInts a),.d (dInts b)] [] (.tu [.og 1000000 0,.og 1000001 0,I 0]) [] [.arr 0 1 true ((trimF (divF p a b).2).map eI),.arr 0 1 true ((trimF (divF p a b).1).map eI)]:=by
 refine G91' rfl BxOK.nil fun cx hm0=>go_in 5000 ?_
 unfold A91' R91'
 have hp:=(fieldB_iff.1 hf).1
 have hp2:=(fieldB_iff.1 hf).2.1
 have e1:=openP p a b hf ha hb ha2 hb2
 have e2:=ownP a (by omega)
 have e3:=trimD b (by omega)
 have hra:=trimF_in ha
 have hda:=trimF_in hb
 have hrl:(trimF a).length≤a.length:=by rw[trimF_len];exact trimN_le _ _
 have hdl:(trimF b).length≤b.length:=by rw[trimF_len];exact trimN_le _ _
 unfold divF
 simp only
 generalize trimF a=R0 at *
 generalize trimF b=d at *
 have q1:((d.length:Int) == 0)=false:=by rw[beq_eq_false_iff_ne];omega
 have hdg:=getD_map eI [] 0 d (d.length-1) (by omega)
 have wd:IntKind.i64.wrap ((d.length:Int)-1)=((d.length-1:Nat):Int):=by rw[i6 _ (by omega)];omega
 have hdb:=all_get hda (i:=d.length-1) (by omega)
 have e4:=inverse p (d.getD (d.length-1) 0) hf ⟨hb4,hdb.2⟩
 have hbb:=invI_in (p:=p) (a:=d.getD (d.length-1) 0) hp
 generalize invI p (d.getD (d.length-1) 0)=by_ at *
 have hl1:d.length-1<d.length:=by omega
 have w1:IntKind.i64.wrap ((R0.length:Int)-(d.length:Int))=(R0.length:Int)-d.length:=i6 _ (by omega)
 have w2:IntKind.i64.wrap ((R0.length:Int)-(d.length:Int)+1)=(R0.length:Int)-d.length+1:=i6 _ (by omega)
 have w3:max (0:Int) ((R0.length:Int)-d.length+1)=((R0.length+1-d.length:Nat):Int):=by rw[Int.max_def];split <;> omega
 have hn0:R0.length+1-d.length≤513:=by omega
 repeat' (first|simp (maxSteps:=9999999) only[↓GE,PL,PP,EE,QQ,seval,q1,hdg,wd,w1,w2,w3,hl1,eI,lm,Int.toNat_natCast]|(simp (disch:=omega) only[i6])|(apply go_brD<;>intro h)|(apply go_gsD aE<;>intro h)|(apply go_br<;>intro h)|(apply go_gs aE<;>intro h)|(apply go_call 5000 (e1) rfl rfl;iterate 4 (first|(exact CallForm.plain rfl)|exact aC))|(apply go_call 5000 (e2) rfl rfl;iterate 4 (first|(exact CallForm.news rfl rfl)|exact aC))|(apply go_call 5000 (e3) rfl rfl;iterate 4 (first|(exact CallForm.plain rfl)|exact aC))|(apply go_call 5000 (e4) rfl rfl;iterate 4 (first|(exact CallForm.plain rfl)|exact aC))|(with_reducible apply And.intro)|exact aG|fail)
 refine go_loop 5000 hm0 (ι:={s:Nat × List Int × List Int // s.2.1.length≤R0.length∧s.2.1.all (inE p)=true∧s.2.2.length=R0.length+1-d.length∧divN p by_ d (s.2.1.length+1) s.2.1 s.2.2=divN p by_ d (R0.length+1) R0 (List.replicate (R0.length+1-d.length) 0)}) (fun s=>[(2,.d (dInts d)),(9,I p),(11,.og 31000 (2*s.1.1)),(12,I d.length),(13,.og 42 0),(14,I by_)]) (fun s=>[(31000,.arr (2*s.1.1) 1 true (s.1.2.1.map eI)),(42,.arr 0 1 true (s.1.2.2.map eI))]) (fun s=>s.1.2.1.length) [] ⟨(0,R0,List.replicate (R0.length+1-d.length) 0),Nat.le_refl _,hra,List.length_replicate,rfl⟩ ?_ ?_
 ·(simp only[GeS];refine⟨?_,?_,?_,?_⟩;all_goals (repeat' (first|(with_reducible exact True.intro)|(with_reducible rfl)|simp only[XC,↓reduceIte,seval]|(with_reducible apply And.intro)|(refine⟨_,rfl,?_⟩)|(simp [List.map_replicate,eI];done)|exact aS|fail)))
 ·rintro⟨⟨j,rest,quot⟩,g1,g2,g3,g4⟩
  simp only at g1 g2 g3 g4 ⊢
  by_cases hle:d.length≤rest.length
  ·have q2:decide ((d.length:Int)≤(rest.length:Int))=true:=dt (by omega)
   have v1:IntKind.i64.wrap ((rest.length:Int)-(d.length:Int))=((rest.length-d.length:Nat):Int):=by rw[i6 _ (by omega)];omega
   have v2:IntKind.i64.wrap ((rest.length:Int)-1)=((rest.length-1:Nat):Int):=by rw[i6 _ (by omega)];omega
   have hs1:=getD_map eI [] 0 rest (rest.length-1) (by omega)
   have hl2:rest.length-1<rest.length:=by omega
   have hl3:rest.length-d.length<quot.length:=by omega
   have hx:=all_get g2 hl2
   have hs2:=getD_map eI [] 0 quot (rest.length-d.length) hl3
   have f1:=fmul p (rest.getD (rest.length-1) 0) by_ (by omega) hp2 hx hbb
   have hq:rest.getD (rest.length-1) 0*by_ % p=divQ p by_ rest:=rfl
   rw[hq] at f1
   have hqb:0≤divQ p by_ rest∧divQ p by_ rest<p:=⟨Int.emod_nonneg _ (by omega),Int.emod_lt_of_pos _ (by omega)⟩
   have f2:=fsub p 0 (divQ p by_ rest) (by omega) hp2 ⟨by omega,by omega⟩ hqb
   repeat' (first|simp (maxSteps:=9999999) only[↓GE,PL,PP,EE,QQ,seval,q2,v1,v2,hs1,hs2,hl2,hl3,eI,lm,Int.toNat_natCast]|(simp (disch:=omega) only[i6])|(apply go_brD<;>intro h)|(apply go_gsD aE<;>intro h)|(apply go_br<;>intro h)|(apply go_gs aE<;>intro h)|(apply go_call 5000 (f1) rfl rfl;iterate 4 (first|(exact CallForm.plain rfl)|exact aC))|(apply go_call 5000 (f2) rfl rfl;iterate 4 (first|(exact CallForm.plain rfl)|exact aC))|(with_reducible apply And.intro)|exact aG|fail)
   generalize hy:(0-divQ p by_ rest+p) % p=y at *
   have hyb:0≤y∧y<p:=by rw[← hy];exact⟨Int.emod_nonneg _ (by omega),Int.emod_lt_of_pos _ (by omega)⟩
   have f3:=addTimesTAt p y rest d (rest.length-d.length) 31000 (2*j) (by omega) (by omega) hp2 hyb g2 hda (by omega) (by omega)
   (apply go_call 5000 f3 rfl rfl;(· exact aC);(· exact CallForm.lent ⟨⟨rfl,rfl,by decide,.inl (by decide),wfB_ints,rfl,wfB_ints,rfl,rfl⟩,trivial⟩ rfl rfl);(· exact aC);(· exact aC))
   have hal:(addAt p y rest d (rest.length-d.length) d.length).length=rest.length:=addAt_len
   have htk:List.take (rest.length-1) (List.map eI (addAt p y rest d (rest.length-d.length) d.length))=List.map eI ((addAt p y rest d (rest.length-d.length) d.length).take (rest.length-1)):=List.map_take.symm
   have hdr:divR p by_ d rest=trimF ((addAt p y rest d (rest.length-d.length) d.length).take (rest.length-1)):=by rw[divR,hy]
   have hin:((addAt p y rest d (rest.length-d.length) d.length).take (rest.length-1)).length≤1000000:=by rw[List.length_take];omega
   have f4:=trimOAt _ 31000 (2*j+1) (by omega) hin
   repeat' (first|simp (maxSteps:=9999999) only[↓GE,PL,PP,EE,QQ,seval,q2,v1,v2,hal,htk,eI,lm,Int.toNat_natCast]|(simp (disch:=omega) only[i6])|(apply go_brD<;>intro h)|(apply go_gsD aE<;>intro h)|(apply go_br<;>intro h)|(apply go_gs aE<;>intro h)|(with_reducible apply And.intro)|exact aG|fail)
   (apply go_call 5000 f4 rfl rfl;(· exact aC);(· exact CallForm.lent ⟨⟨rfl,rfl,by decide,.inl (by decide),wfB_ints,rfl,wfB_ints,rfl,rfl⟩,trivial⟩ rfl (by simp [V.wfR,V.okP,inU]));(· exact aC);(· exact aC))
   repeat' (first|simp (maxSteps:=9999999) only[↓GE,PL,PP,EE,QQ,seval,q2,v1,v2,hal,htk,eI,lm,Int.toNat_natCast]|(simp (disch:=omega) only[i6])|(apply go_brD<;>intro h)|(apply go_gsD aE<;>intro h)|(apply go_br<;>intro h)|(apply go_gs aE<;>intro h)|(with_reducible apply And.intro)|exact aG|fail)
   have hdl:=divR_len (p:=p) (by_:=by_) (b:=d) (rest:=rest) (by omega)
   have hdi:=divR_in (by_:=by_) (b:=d) (show 1≤p by omega) g2
   refine⟨⟨(j+1,divR p by_ d rest,quot.set (rest.length-d.length) (divQ p by_ rest)),by simp only;omega,hdi,by simp only[List.length_set];exact g3,?_⟩,?_,by simp only;omega⟩
   ·simp only
    rw[← g4]
    conv=>rhs;rw[divN,if_pos hle]
    exact divN_more hb3 (by omega) (by omega)
   ·(simp only[GeS];refine⟨?_,?_,?_,?_⟩;all_goals (repeat' (first|(with_reducible exact True.intro)|(with_reducible rfl)|simp only[XC,↓reduceIte,seval]|(with_reducible apply And.intro)|(refine⟨_,rfl,?_⟩)|(simp [hdr,List.map_set,eI,Nat.mul_add];done)|exact aS|fail)))
  ·have q2:decide ((d.length:Int)≤(rest.length:Int))=false:=df (by omega)
   rw[divN,if_neg hle] at g4
   rw[← g4]
   have f5:=ownP quot (by omega)
   have f6:=ownP rest (by omega)
   repeat' (first|simp (maxSteps:=9999999) only[↓GE,PL,PP,EE,QQ,seval,q2,eI,lm]|(simp (disch:=omega) only[i6])|(apply go_brD<;>intro h)|(apply go_gsD aE<;>intro h)|(apply go_br<;>intro h)|(apply go_gs aE<;>intro h)|(with_reducible apply And.intro)|exact aG|fail)
   (apply go_call 5000 f5 rfl rfl;iterate 4 (first|(exact CallForm.news rfl rfl)|exact aC))
   repeat' (first|simp (maxSteps:=9999999) only[↓GE,PL,PP,EE,QQ,seval,eI,lm]|(simp (disch:=omega) only[i6])|(apply go_brD<;>intro h)|(apply go_gsD aE<;>intro h)|(apply go_br<;>intro h)|(apply go_gs aE<;>intro h)|(with_reducible apply And.intro)|exact aG|fail)
   (apply go_call 5000 f6 rfl rfl;iterate 4 (first|(exact CallForm.news rfl rfl)|exact aC))
   repeat' (first|simp (maxSteps:=9999999) only[↓GE,PL,PP,EE,QQ,seval,eI,lm]|(simp (disch:=omega) only[i6])|(apply go_brD<;>intro h)|(apply go_gsD aE<;>intro h)|(apply go_br<;>intro h)|(apply go_gs aE<;>intro h)|(with_reducible apply And.intro)|exact aG|fail)
   ((first|apply ret_mk [some 92000,some 94000]|apply end_mk [some 92000,some 94000]);(· exact aR);(· exact aZ);all_goals exact aF)
end Go.Proofs.YtacfbiegbdlldaaGreatDoor.Sim
end
section
namespace Go.Proofs.YtacfbiegbdlldaaGreatDoor.Sim
open Go Go.RowKit Go.Deep
set_option maxRecDepth 100000
set_option maxHeartbeats 4000000
set_option linter.unusedVariables false
set_option linter.unusedSimpArgs false
attribute [local irreducible] Go Mean
def eS (x:Int × Int):List D:=[.at (.int .i64 x.1),.at (.int .i64 x.2)]
abbrev dShares (l:List (Int × Int)):D:=.sl 2 (l.map eS)
def intB (p:Int) (s:List Int × List Int) (y:Int × Int):Int:=(y.2-valF p s.1 y.1+p) % p*invI p (valF p s.2 y.1) % p
def intS (p:Int) (s:List Int × List Int) (y:Int × Int):List Int × List Int :=
 (addStep p (intB p s y) (s.1++[0]) s.2 s.2.length,timesF p s.2 [(0-y.1+p) % p,1])
def intN (p:Int) (l:List (Int × Int)):Nat→List Int × List Int
 |0=>([],[1])
 |k+1=>intS p (intN p l k) (l.getD k (0,0))
theorem intN_len {p:Int} {l:List (Int × Int)}:∀ k,(intN p l k).1.length=k∧(intN p l k).2.length=k+1
 |0=>⟨rfl,rfl⟩
 |k+1=>by
  obtain⟨h1,h2⟩:=intN_len (p:=p) (l:=l) k
  simp only[intN,intS]
  refine⟨by rw[addStep_len,List.length_append,h1];rfl,?_⟩
  rw[timesF,timesN_len,h2];rfl
theorem intN_in {p:Int} (hp:2≤p) {l:List (Int × Int)}:∀ k,(intN p l k).1.all (inE p)=true∧(intN p l k).2.all (inE p)=true
 |0=>⟨rfl,by simp [intN,inE];omega⟩
 |k+1=>by
  obtain⟨h1,h2⟩:=intN_in hp (l:=l) k
  simp only[intN,intS]
  refine⟨addStep_in (by omega) ?_,timesN_in (by omega)⟩
  rw[List.all_append,h1]
  simp [inE];omega
def onceB:List Int→List Int→Bool
 |_,[]=>true
 |s,x :: r=>!s.contains x&&onceB (x :: s) r
theorem interpolateT (p:Int) (l:List (Int × Int)) (hf:fieldB p=true) (h1:(l.map (·.1)).all (inE p)=true) (h2:(l.map (·.2)).all (inE p)=true) (hl:l.length≤512) (ho:onceB [] (l.map (·.1))=true)
  (hn:∀ k,k<l.length→0<valF p (intN p l k).2 (l.getD k (0,0)).1) :
  Does Tryz.prog 134 [.ag [I p],.d (dShares l)] [] (.tu [.og 1000000 0,I 0]) [] [.arr 0 1 true ((trimF (intN p l l.length).1).map eI)]:=by
 refine G94' rfl BxOK.nil fun cx hm0=>go_in 5000 ?_
 unfold A94' R94'
 have hp:=(fieldB_iff.1 hf).1
 have hp2:=(fieldB_iff.1 hf).2.1
 repeat' (first|simp (maxSteps:=9999999) only[↓GE,PL,PP,EE,QQ,seval,lm]|(simp (disch:=omega) only[i6])|(apply go_brD<;>intro h)|(apply go_gsD aE<;>intro h)|(apply go_br<;>intro h)|(apply go_gs aE<;>intro h)|(with_reducible apply And.intro)|exact aG|fail)
 refine go_loopz 5000 hm0 (ι:={k:Nat // k≤l.length}) (fun k=>[(2,.bp 2 0 0),(6,.og 31 k.1),(7,.og 36 k.1),(21,.d (dShares l)),(22,I l.length),(23,I k.1)]) (fun k=>[(2,.box 0 [I p]),(31,.arr k.1 1 true (((l.map (·.1)).take k.1).map eI)),(36,.arr k.1 1 true (((l.map (·.2)).take k.1).map eI))]) (fun k=>l.length-k.1) [] [31,36] ⟨0,Nat.zero_le _⟩ ?_ ?_
 ·simp only[GeZ];exact aH
 ·rintro⟨k,hk⟩
  simp only
  by_cases hkl:k<l.length
  ·have q1:decide ((k:Int)<(l.length:Int))=true:=dt (by omega)
   have w1:IntKind.i64.wrap ((k:Int)+1)=((k+1:Nat):Int):=by rw[i6 _ (by omega)];omega
   have hs:=getD_map eS [] (0,0) l k hkl
   have hm1:((l.map (·.1)).take k).length=k:=by rw[List.length_take,lm];omega
   have hm2:((l.map (·.2)).take k).length=k:=by rw[List.length_take,lm];omega
   repeat' (first|simp (maxSteps:=9999999) only[↓GE,PL,PP,EE,QQ,seval,q1,w1,hs,hkl,hm1,hm2,eS,lm]|(simp (disch:=omega) only[i6])|(apply go_brD<;>intro h)|(apply go_gsD aE<;>intro h)|(apply go_br<;>intro h)|(apply go_gs aE<;>intro h)|(with_reducible apply And.intro)|exact aG|fail)
   have hgd:∀ f:Int × Int→Int,(l.map f).take (k+1)=(l.map f).take k++[f (l.getD k (0,0))]:=fun f=>by
    rw[List.take_succ_eq_append_getElem (by rw[lm];exact hkl),List.getElem_map,List.getD_eq_getElem?_getD,List.getElem?_eq_getElem hkl];rfl
   refine⟨[],[],⟨k+1,hkl⟩,?_,by simp only;omega⟩
   simp only[GeZ];(simp only[GeS];refine⟨?_,?_,?_,?_⟩;all_goals (repeat' (first|(with_reducible exact True.intro)|(with_reducible rfl)|simp only[XC,↓reduceIte,seval]|(with_reducible apply And.intro)|(refine⟨_,rfl,?_⟩)|(simp [hgd,eI];done)|exact aS|fail)))
  ·obtain rfl:k=l.length:=by omega
   have q1:decide ((l.length:Int)<(l.length:Int))=false:=df (by omega)
   have hA:(l.map (·.1)).take l.length=l.map (·.1):=List.take_of_length_le (by rw[lm];exact Nat.le_refl _)
   have hV:(l.map (·.2)).take l.length=l.map (·.2):=List.take_of_length_le (by rw[lm];exact Nat.le_refl _)
   rw[hA,hV]
   have hgA:∀ k,k<l.length→(l.map (·.1)).getD k 0=(l.getD k (0,0)).1:=fun k hk=>by simp [List.getD_eq_getElem?_getD,hk]
   have hgV:∀ k,k<l.length→(l.map (·.2)).getD k 0=(l.getD k (0,0)).2:=fun k hk=>by simp [List.getD_eq_getElem?_getD,hk]
   have lA:(l.map (·.1)).length=l.length:=List.length_map _
   have lV:(l.map (·.2)).length=l.length:=List.length_map _
   generalize l.map (·.1)=A at *
   generalize l.map (·.2)=va at *
   have e1:=openP p A va hf h1 h2 (by omega) (by omega)
   repeat' (first|simp (maxSteps:=9999999) only[↓GE,PL,PP,EE,QQ,seval,q1,lA,lV,lm]|(simp (disch:=omega) only[i6])|(apply go_brD<;>intro h)|(apply go_gsD aE<;>intro h)|(apply go_br<;>intro h)|(apply go_gs aE<;>intro h)|(apply go_call 5000 (e1) rfl rfl;iterate 4 (first|(exact CallForm.plain rfl)|exact aC))|(with_reducible apply And.intro)|exact aG|fail)
   refine go_loopz 5000 hm0 (ι:={k:Nat // k≤l.length∧onceB (A.take k).reverse (A.drop k)=true}) (fun k=>[(2,.bp 2 0 0),(6,.d (dInts A)),(7,.d (dInts va)),(10,I p),(12,.mh 49 0),(50,.d (dInts A)),(51,I l.length),(52,I k.1)]) (fun k=>[(2,.box 0 [I p]),(49,.mp 0 (A.take k.1))]) (fun k=>l.length-k.1) [] [] ⟨0,Nat.zero_le _,ho⟩ ?_ ?_
   ·simp only[GeZ];exact aH
   ·rintro⟨k,hk,hk2⟩
    simp only
    by_cases hkl:k<l.length
    ·have q2:decide ((k:Int)<(l.length:Int))=true:=dt (by omega)
     have w1:IntKind.i64.wrap ((k:Int)+1)=((k+1:Nat):Int):=by rw[i6 _ (by omega)];omega
     have hs:=getD_map eI [] 0 A k (by omega)
     rw[drop_get 0 _ _ (by omega)] at hk2
     simp only[onceB,Bool.and_eq_true,Bool.not_eq_true'] at hk2
     have hc:(A.take k).contains (A.getD k 0)=false:=by
      rw[← hk2.1];simp
     have htk:A.take (k+1)=A.take k++[A.getD k 0]:=by
      rw[List.take_succ_eq_append_getElem (by omega),List.getD_eq_getElem?_getD,List.getElem?_eq_getElem (by omega)];rfl
     repeat' (first|simp (maxSteps:=9999999) only[↓GE,PL,PP,EE,QQ,seval,q2,w1,hs,hkl,hc,lA,eI,lm]|(simp (disch:=omega) only[i6])|(apply go_brD<;>intro h)|(apply go_gsD aE<;>intro h)|(apply go_br<;>intro h)|(apply go_gs aE<;>intro h)|(with_reducible apply And.intro)|exact aG|fail)
     refine⟨[],[],⟨k+1,hkl,by rw[htk,List.reverse_append];exact hk2.2⟩,?_,by simp only;omega⟩
     simp only[GeZ];(simp only[GeS];refine⟨?_,?_,?_,?_⟩;all_goals (repeat' (first|(with_reducible exact True.intro)|(with_reducible rfl)|simp only[XC,↓reduceIte,seval]|(with_reducible apply And.intro)|(refine⟨_,rfl,?_⟩)|(simp [htk];done)|exact aS|fail)))
    ·obtain rfl:k=l.length:=by omega
     repeat' (first|simp (maxSteps:=9999999) only[↓GE,PL,PP,EE,QQ,seval,q1]|(simp (disch:=omega) only[i6])|(apply go_brD<;>intro h)|(apply go_gsD aE<;>intro h)|(apply go_br<;>intro h)|(apply go_gs aE<;>intro h)|(with_reducible apply And.intro)|exact aG|fail)
     refine go_loopz 5000 hm0 (ι:={k:Nat // k≤l.length}) (fun k=>[(6,.d (dInts A)),(7,.d (dInts va)),(10,I p),(15,.d (dInts (intN p l k.1).1)),(16,.d (dInts (intN p l k.1).2)),(63,.d (dInts A)),(64,I l.length),(65,I k.1)]) (fun k=>[]) (fun k=>l.length-k.1) [.og 62 0] [] ⟨0,Nat.zero_le _⟩ ?_ ?_
     ·simp only[GeZ];(simp only[GeS];refine⟨?_,?_,?_,?_⟩;all_goals (repeat' (first|(with_reducible exact True.intro)|(with_reducible rfl)|simp only[XC,↓reduceIte,seval]|(with_reducible apply And.intro)|(refine⟨_,rfl,?_⟩)|(simp [intN,eI,lA];done)|exact aS|fail)))
     ·rintro⟨k,hk⟩
      simp only
      obtain⟨n1,n2⟩:=intN_len (p:=p) (l:=l) k
      obtain⟨n3,n4⟩:=intN_in hp (l:=l) k
      have hnx:intN p l (k+1)=intS p (intN p l k) (l.getD k (0,0)):=rfl
      by_cases hkl:k<l.length
      ·have q2:decide ((k:Int)<(l.length:Int))=true:=dt (by omega)
       have w1:IntKind.i64.wrap ((k:Int)+1)=((k+1:Nat):Int):=by rw[i6 _ (by omega)];omega
       have hz:=hn k hkl
       have hs:=getD_map eI [] 0 A k (by omega)
       have hs2:=getD_map eI [] 0 va k (by omega)
       have hxb:=all_get h1 (i:=k) (by omega)
       have hyb:=all_get h2 (i:=k) (by omega)
       rw[hgA k hkl] at hs hxb
       rw[hgV k hkl] at hs2 hyb
       generalize l.getD k (0,0)=y at *
       generalize intN p l k=s at *
       have hv1:=valF_in (p:=p) (x:=y.1) (l:=s.1) (by omega)
       have hv2:=valF_in (p:=p) (x:=y.1) (l:=s.2) (by omega)
       have f1:=value p y.1 s.1 (by omega) hp2 hxb n3 (by omega)
       have f2:=value p y.1 s.2 (by omega) hp2 hxb n4 (by omega)
       have f3:=fsub p y.2 (valF p s.1 y.1) (by omega) hp2 hyb hv1
       have f4:=inverse p (valF p s.2 y.1) hf ⟨hz,hv2.2⟩
       have hib:=invI_in (p:=p) (a:=valF p s.2 y.1) hp
       have f5:=fmul p ((y.2-valF p s.1 y.1+p) % p) (invI p (valF p s.2 y.1)) (by omega) hp2 ⟨Int.emod_nonneg _ (by omega),Int.emod_lt_of_pos _ (by omega)⟩ hib
       have hB:(y.2-valF p s.1 y.1+p) % p*invI p (valF p s.2 y.1) % p=intB p s y:=rfl
       rw[hB] at f5
       have hBb:0≤intB p s y∧intB p s y<p:=⟨Int.emod_nonneg _ (by omega),Int.emod_lt_of_pos _ (by omega)⟩
       repeat' (first|simp (maxSteps:=9999999) only[↓GE,PL,PP,EE,QQ,seval,q2,w1,hs,hs2,hkl,lA,lV,eI,lm]|(simp (disch:=omega) only[i6])|(apply go_brD<;>intro h)|(apply go_gsD aE<;>intro h)|(apply go_br<;>intro h)|(apply go_gs aE<;>intro h)|(with_reducible apply And.intro)|exact aG|fail)
       (apply go_call 5000 f1 rfl rfl;iterate 4 (first|(exact CallForm.plain rfl)|exact aC))
       repeat' (first|simp (maxSteps:=9999999) only[↓GE,PL,PP,EE,QQ,seval,eI,lm]|(simp (disch:=omega) only[i6])|(apply go_brD<;>intro h)|(apply go_gsD aE<;>intro h)|(apply go_br<;>intro h)|(apply go_gs aE<;>intro h)|(apply go_call 5000 (f3) rfl rfl;iterate 4 (first|(exact CallForm.plain rfl)|exact aC))|(with_reducible apply And.intro)|exact aG|fail)
       (apply go_call 5000 f2 rfl rfl;iterate 4 (first|(exact CallForm.plain rfl)|exact aC))
       repeat' (first|simp (maxSteps:=9999999) only[↓GE,PL,PP,EE,QQ,seval,n1,n2,eI,lm]|(simp (disch:=omega) only[i6])|(apply go_brD<;>intro h)|(apply go_gsD aE<;>intro h)|(apply go_br<;>intro h)|(apply go_gs aE<;>intro h)|(apply go_call 5000 (f4) rfl rfl;iterate 4 (first|(exact CallForm.plain rfl)|exact aC))|(apply go_call 5000 (f5) rfl rfl;iterate 4 (first|(exact CallForm.plain rfl)|exact aC))|(with_reducible apply And.intro)|exact aG|fail)
       have hcp:List.take ((List.replicate k [D.at (Value.int IntKind.i64 0)]).length+1) (List.map eI s.1)++List.drop k ([D.at (Value.int IntKind.i64 0)] :: List.replicate k [D.at (Value.int IntKind.i64 0)])=(s.1++[0]).map eI:=by
        rw[List.length_replicate,List.take_of_length_le (by rw[lm];omega),← List.replicate_succ,List.drop_replicate,show k+1-k=1 by omega,List.map_append];rfl
       have hin0:(s.1++[0]).all (inE p)=true:=by
        rw[List.all_append,n3]
        simp [inE];omega
       have f6:=addTimesAt p (intB p s y) (s.1++[0]) s.2 90 0 (by omega) (by omega) hp2 hBb hin0 n4 (by rw[List.length_append,n1,n2];exact Nat.le_refl _) (by omega)
       have f7:=fsub p 0 y.1 (by omega) hp2 ⟨by omega,by omega⟩ hxb
       have f8:=times p s.2 [(0-y.1+p) % p,1] (by omega) hp2 n4 (by simp [inE];exact⟨⟨Int.emod_nonneg _ (by omega),Int.emod_lt_of_pos _ (by omega)⟩,by omega⟩) (by omega) (by simp) (by omega) (by simp)
       simp only[hcp]
       (apply go_call 5000 f6 rfl rfl;(· exact aC);(· exact CallForm.lent ⟨⟨rfl,rfl,by decide,.inl (by decide),wfB_ints,rfl,wfB_ints,rfl,rfl⟩,trivial⟩ rfl rfl);(· exact aC);(· exact aC))
       repeat' (first|simp (maxSteps:=9999999) only[↓GE,PL,PP,EE,QQ,seval,n1,n2,w1,eI,lm]|(simp (disch:=omega) only[i6])|(apply go_brD<;>intro h)|(apply go_gsD aE<;>intro h)|(apply go_br<;>intro h)|(apply go_gs aE<;>intro h)|(apply go_call 5000 (f7) rfl rfl;iterate 4 (first|(exact CallForm.plain rfl)|exact aC))|(apply go_call 5000 (f8) rfl rfl;iterate 4 (first|(exact CallForm.news rfl rfl)|exact aC))|(with_reducible apply And.intro)|exact aG|fail)
       refine⟨[.og 90 0,.og 108000 0],[],⟨k+1,hkl⟩,?_,by simp only;omega⟩
       simp only[GeZ];(simp only[GeS];refine⟨?_,?_,?_,?_⟩;all_goals (repeat' (first|(with_reducible exact True.intro)|(with_reducible rfl)|simp only[XC,↓reduceIte,seval]|(with_reducible apply And.intro)|(refine⟨_,rfl,?_⟩)|(simp [hnx,intS,n2];done)|exact aS|fail)))
      ·obtain rfl:k=l.length:=by omega
       have f9:=ownP (intN p l l.length).1 (by omega)
       repeat' (first|simp (maxSteps:=9999999) only[↓GE,PL,PP,EE,QQ,seval,q1]|(simp (disch:=omega) only[i6])|(apply go_brD<;>intro h)|(apply go_gsD aE<;>intro h)|(apply go_br<;>intro h)|(apply go_gs aE<;>intro h)|(apply go_call 5000 (f9) rfl rfl;iterate 4 (first|(exact CallForm.news rfl rfl)|exact aC))|(with_reducible apply And.intro)|exact aG|fail)
       ((first|apply ret_mk [some 111000]|apply end_mk [some 111000]);(· exact aR);(· exact aZ);all_goals exact aF)
end Go.Proofs.YtacfbiegbdlldaaGreatDoor.Sim
end
section
namespace Go.Proofs.YtacfbiegbdlldaaGreatDoor.Sim
open Go Go.RowKit Go.Deep
open Go.Proofs.YtacfbiegbdlldaaGreatDoor.Tw (WCell kn kn_len kn_all cells_any)
set_option maxRecDepth 100000
set_option maxHeartbeats 4000000
set_option linter.unusedVariables false
set_option linter.unusedSimpArgs false
attribute [local irreducible] Go Mean
def eC (c:WCell):List D:=[.at (.int .i64 c.v),.at (.bool c.k)]
abbrev dCells (l:List WCell):D:=.sl 2 (l.map eC)
theorem dcells_lst {w:World} {S:Nat→Prop} {v:Value} {l:List WCell} (hq:∀ x ∈ l,I64 x.v) (h:(dCells l).is w S v):Lst w S v l :=
 sl_lst (α:=WCell) eC (fun x=>I64 x.v) (fun cs x hx hc=>by
  simp only[eC,Cells,D.is] at hc
  obtain⟨u,r,rfl,⟨rfl,-⟩,u2,r2,rfl,⟨rfl,-⟩,rfl⟩:=hc
  exact⟨rfl,hx⟩) hq h
structure WordIn (p:Int) (l:List WCell):Prop where
 el:∀ y ∈ l,0≤y.v∧y.v<p
 len:l.length≤32
 lp:(l.length:Int)<p
theorem cells (p:Int) (l:List WCell) (hf:fieldB p=true) (hl:WordIn p l):Does Tryz.prog 133 [.ag [I p],.d (dCells l)] [] (.tu [I p,I (kn 0 l).length,I 0]) [] []:=by
 have hp:=(fieldB_iff.1 hf).1
 have hp2:=(fieldB_iff.1 hf).2.1
 intro w hd S X us _ hm hv
 simp only[VRs,VR,I,D.is] at hv
 obtain⟨u,r,rfl,⟨vs,rfl,⟨u1,r1,rfl,⟨rfl,-⟩,rfl⟩,-⟩,u2,r2,rfl,h2,rfl⟩:=hv
 have hq:=(dcells_lst (l:=l) (fun y hy=>by have:=hl.el y hy;constructor <;> omega) (by simp only[D.is];exact h2)).more (S':=Lo w.heap.size) (fun b hb=>hm.lt b hb)
 refine (cells_any p l u2 w hp hp2 (isP_field hf) hl.el hq hl.len hl.lp).mono ?_
 rintro e w' ⟨rfl,hb⟩
 refine⟨_,hd,S,rfl,⟨hb.os,hb.tape,hb.output,hb.size,fun k hk _=>hb.block k hk⟩,⟨fun i o h=>by simp [ups,fresh] at h,fun i j oi oj b _ h=>by simp [ups,fresh] at h,fun b hb'=>Nat.lt_of_lt_of_le (hm.lt b hb') hb.size,hb.size,hm.sX⟩,?_,fun b h=>.inl h,Le.refl _ _⟩
 exact⟨[_,_,_],rfl,by simp [I,VRs,VR,D.is,Value.oneCell']⟩
end Go.Proofs.YtacfbiegbdlldaaGreatDoor.Sim
end
