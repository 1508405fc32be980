/- Roots, heads, paths. -/
import Derived.Test.YtacfbiegbdlldaaGreatDoorVTvR
section
namespace Go.Proofs.YtacfbiegbdlldaaGreatDoor.Sim
open Go Go.RowKit Go.Deep Go.Shelf
set_option maxRecDepth 100000
set_option maxHeartbeats 4000000
set_option linter.unusedVariables false
set_option linter.unusedSimpArgs false
attribute [local go_sem] Oper.semAt_some
theorem above_calls (l:List Int) (hl:l.length≤1024) (w:World) (S:Nat→Prop) (u:Value) (hgk:Gk w (fun _=>False)) (hS:∀ b,S b→b<w.heap.size) (hu:(dInts l).is w S u) :
  Calls Tryz.prog 68 #[u] w fun e w'=>∃ u' S',e=.returned u'∧(dInts (upF l)).is w' S' u'∧(∀ b,S' b→b<w'.heap.size)∧Below w.heap.size w w':=by
 have hm:Mem (ups M0 []) (fun _=>.bool true) w S (fun _=>False) w.heap.size :=
  ⟨fun i o h=>(by simp only[ups] at h;cases h),fun i j oi oj b _ h=>(by simp only[ups] at h;cases h),hS,Nat.le_refl _,fun b h=>h.elim⟩
 refine (aboveT l hl w _ S _ [u] hgk hm ?_).mono ?_
 ·simp only[VRs,VR]
  exact⟨u,[],rfl,hu,rfl⟩
 ·rintro e w' ⟨u',hd',S',rfl,hfr,hm',hu',_,_⟩
  refine⟨u',S',rfl,by simpa only[VR] using hu',hm'.lt,⟨hfr.os,hfr.tape,hfr.output,hfr.size,fun k hk=>hfr.block k hk fun h=>h⟩⟩
theorem root_calls:∀ (n:Nat) (l:List Int),l.length≤n→l.length≤1024→∀ (w:World) (S:Nat→Prop) (u:Value) (b:Nat),Gk w (fun _=>False)→(∀ b,S b→b<w.heap.size)→(dInts l).is w S u→b<w.heap.size→w.cell? ⟨b,0,none⟩=some (.func (.func 92) #[] #[.pointer (some ⟨b,0,none⟩)]) →
  Calls Tryz.prog 92 #[u,.pointer (some ⟨b,0,none⟩)] w fun e w'=>e=.returned (.int .i64 (rootN l.length l))∧Below w.heap.size w w':=by
 intro n
 induction n with
 |zero =>
  intro l hn hl w S u b hgk hS hu hb hc
  have h0:l=[]:=List.eq_nil_of_length_eq_zero (by omega)
  subst h0
  simp only[D.is,List.map_nil,Rows,List.length_nil] at hu
  obtain⟨a,cap,xs,rfl,_⟩:=hu
  go_enter Tryz.func92,Tryz.ntmps92
  go_wp2
  go_ret
  exact⟨rfl,Below.refl _ _⟩
 |succ n ih =>
  intro l hn hl w S u b hgk hS hu hb hc
  match l,hn,hl,hu with
  |[],hn,hl,hu =>
   simp only[D.is,List.map_nil,Rows,List.length_nil] at hu
   obtain⟨a,cap,xs,rfl,_⟩:=hu
   go_enter Tryz.func92,Tryz.ntmps92
   go_wp2
   go_ret
   exact⟨rfl,Below.refl _ _⟩
  |[x],hn,hl,hu =>
   simp only[D.is,List.map_cons,List.map_nil,List.length_cons,List.length_nil] at hu
   obtain⟨a,cap,xs,rfl,h1,h2,h3,h4⟩:=hu
   obtain⟨g,off,rfl,⟨hSg,hg⟩,hr⟩:=h4 (by omega)
   simp only[Rows,eI,List.length_cons,List.length_nil,Cells,D.is] at h3
   obtain⟨ys,zs,rfl,-,⟨v,ws,rfl,⟨rfl,-⟩,rfl⟩,rfl⟩:=h3
   have hc1:w.cell? ⟨g,off,none⟩=some (.int .i64 x):=hr 0 _ rfl
   go_enter Tryz.func92,Tryz.ntmps92
   go_wp2
   go_ret
   exact⟨rfl,Below.refl _ _⟩
  |x :: y :: r,hn,hl,hu =>
   obtain⟨a,cap,xs,hu0⟩:∃ a cap xs,u=.slice a ((x :: y :: r).map eI).length cap∧True:=by
    simp only[D.is] at hu
    obtain⟨a,cap,xs,e,_⟩:=hu
    exact⟨a,cap,xs,e,trivial⟩
   obtain⟨rfl,-⟩:=hu0
   have hlm:((x :: y :: r).map eI).length=r.length+2:=by simp
   rw[hlm] at hu ⊢
   have q0:(((r.length+2:Nat):Int) == 0)=false:=by rw[beq_eq_false_iff_ne];omega
   have q1:(((r.length+2:Nat):Int) == 1)=false:=by rw[beq_eq_false_iff_ne];omega
   have Hu:=Lib.hid hu
   have Hih:=Lib.hid ih
   clear hu ih
   go_enter Tryz.func92,Tryz.ntmps92
   go_wp2
   have hbd:Below w.heap.size w w.drew:=(Below.refl _ _).drew
   have hgd:Gk w.drew (fun _=>False):=fun g hg=>by
    obtain⟨g1,g2,g3⟩:=hgk g hg
    exact⟨g1,g2,(hbd.cell (p:=⟨g,0,none⟩) g1).trans g3⟩
   have hcd:w.drew.cell? ⟨b,0,none⟩=some (.func (.func 92) #[] #[.pointer (some ⟨b,0,none⟩)]):=(hbd.cell (p:=⟨b,0,none⟩) hb).trans hc
   have hud:(dInts (x :: y :: r)).is w.drew S (.slice a (r.length+2) cap):=D.keep (fun k hk hlt=>⟨hk,hbd.block k hlt⟩) _ _ Hu.out
   have hsd:w.drew.heap.size=w.heap.size:=rfl
   have Hgd:=Lib.hid hgd
   have Hud:=Lib.hid hud
   have Hbd:=Lib.hid hbd
   clear hgd hud hbd hgk
   refine wp_region_noPanic ?_
   refine wp_region_stage (fun w'=>w'.cell? ⟨b,0,none⟩=some (.func (.func 92) #[] #[.pointer (some ⟨b,0,none⟩)])) 3 (by kernel_rfl) hcd (fun hS1=>?_)
   refine wpStage_take (i:=0) (v:=?_) (by simp only[List.getElem?_toArray,List.getElem?_cons_succ,List.getElem?_cons_zero];rfl) (by rfl) (by kernel_rfl) (fun _ _ _ h=>h) ?_ hS1 ?_
   rotate_left 1
   ·intro w hSw;go_simp;try with_reducible rfl
   try simp only[Act.put,List.setIfInBounds_toArray,List.set_cons_zero,List.set_cons_succ]
   refine wpStage_ready (rs:=[1]) (by kernel_rfl) (by simp) ?_
   refine StageOne.cons (by simp only[List.getElem?_toArray,List.getElem?_cons_succ,List.getElem?_cons_zero];rfl) (by rfl) (fun K hK=>?_) StageOne.nil
   go_simp
   refine hK.out _ _ hS1 (fun hS1=>?_)
   clear hK K
   try simp only[Act.put,List.setIfInBounds_toArray,List.set_cons_zero,List.set_cons_succ]
   refine wpStage_ready (rs:=[2]) (by kernel_rfl) (by simp) ?_
   refine StageOne.cons (by simp only[List.getElem?_toArray,List.getElem?_cons_succ,List.getElem?_cons_zero];rfl) (by rfl) (fun K hK=>?_) StageOne.nil
   go_simp
   refine (above_calls (x :: y :: r) hl w.drew S _ Hgd.out (by rw[hsd];exact hS) Hud.out).mono ?_
   rintro e w2 ⟨u2,S2,rfl,hu2,hS2,hb2⟩
   have hc2:w2.cell? ⟨b,0,none⟩=some (.func (.func 92) #[] #[.pointer (some ⟨b,0,none⟩)]):=(hb2.cell (p:=⟨b,0,none⟩) (by rw[hsd];exact hb)).trans hcd
   refine hK.out _ _ hc2 (fun hS1=>?_)
   clear hK K
   try simp only[Act.put,List.setIfInBounds_toArray,List.set_cons_zero,List.set_cons_succ]
   have hgk2:Gk w2 (fun _=>False):=fun g hg=>by
    obtain⟨g1,g2,g3⟩:=Hgd.out g hg
    exact⟨Nat.lt_of_lt_of_le g1 hb2.size,g2,(hb2.cell (p:=⟨g,0,none⟩) g1).trans g3⟩
   have hrec:=Hih.out (upF (x :: y :: r)) (by rw[upF_len];simp only[List.length_cons] at hn ⊢;omega) (by rw[upF_len];simp only[List.length_cons] at hl ⊢;omega) w2 S2 u2 b hgk2 hS2 hu2 (Nat.lt_of_lt_of_le hb hb2.size) hc2
   have hrt:rootN (x :: y :: r).length (x :: y :: r)=rootN (upF (x :: y :: r)).length (upF (x :: y :: r)):=by
    have hul:(upF (x :: y :: r)).length=(r.length+3) / 2:=by rw[upF_len];simp
    rw[show (x :: y :: r).length=r.length+1+1 from rfl,rootN,if_pos (by simp)]
    exact rootN_any (by omega) (by omega)
   have hb02:=Hbd.out.trans hb2
   refine wpStage_ready (rs:=[3]) (by kernel_rfl) (by simp) ?_
   refine StageOne.late (by simp only[List.getElem?_toArray,List.getElem?_cons_succ,List.getElem?_cons_zero];rfl) (by rfl) (by kernel_rfl) (fun K hK=>?_) StageOne.nil
   go_simp
   refine hrec.mono ?_
   rintro e w3 ⟨rfl,hb3⟩
   refine hK.out _ _ ?_
   clear hK K
   try simp only[Act.put,List.setIfInBounds_toArray,List.set_cons_zero,List.set_cons_succ]
   refine wpStage_ready (rs:=[4]) (by kernel_rfl) (by simp) ?_
   refine StageOne.late (by simp only[List.getElem?_toArray,List.getElem?_cons_succ,List.getElem?_cons_zero];rfl) (by rfl) (by kernel_rfl) (fun K hK=>?_) StageOne.nil
   go_simp
   refine hK.out _ _ ?_
   clear hK K
   try simp only[Act.put,List.setIfInBounds_toArray,List.set_cons_zero,List.set_cons_succ]
   refine wpStage_done (by kernel_rfl) (NoPanic.normal ?_) _
   go_wp2
   go_ret
   have hrt':rootN (r.length+1+1) (x :: y :: r)=rootN (upF (x :: y :: r)).length (upF (x :: y :: r)):=hrt
   rw[hrt']
   exact⟨rfl,hb02.trans (hb3.mono (by have:=hb2.size;rw[hsd] at this;omega))⟩
theorem out_below {m:M} {hd:H} {w w':World} {S X:Nat→Prop} {B:Nat} (h:Mem m hd w S X B) (hb:Below w.heap.size w w'):Out X B m hd w S m hd w' S :=
 ⟨Mem.next (Z:=fun _=>False) h hb.size (fun b hlt _=>hb.block b hlt) (fun _ _ h=>h) (fun _ h=>h) (fun b hS=>Nat.lt_of_lt_of_le (h.lt b hS) hb.size) (Le.refl _ _) (fun i o ho=>.inl ⟨ho,rfl,fun b hl hbk=>⟨fun f=>f,(h.blk ho hl hbk).2.1⟩⟩) h.sep,Le.refl _ _,fun b hS hlt=>⟨hS,hb.block b hlt⟩,⟨hb.os,hb.tape,hb.output,hb.size,fun k hk _=>hb.block k hk⟩,fun b hb=>.inl hb⟩
theorem root1L (l:List Int) (hl:l.length≤1024) (i:Nat) (m:M) (h:m i=some (.box 0 [.cl 92 [.bp i 0 0]])):DoesL Tryz.prog 92 [.d (dInts l),.bp i 0 0] m (I (rootN l.length l)) []:=by
 intro w hd S X B vs hgk hm hv
 simp only[VRs,VR] at hv
 obtain⟨u,r1,rfl,hu,p,r2,rfl,⟨_,y,hy,_,hp⟩,rfl⟩:=hv
 rw[h] at hy
 cases hy
 obtain⟨b,hb,rfl⟩:=hp _ rfl
 have hob:=hm.obj i _ h
 simp only[O.is] at hob
 obtain⟨b',vs',e,hB,hlt,hns,hvs,_,_,hr⟩:=hob
 rw[hb] at e
 simp only[Value.pointer.injEq,Option.some.injEq,Addr.mk.injEq,and_true] at e
 obtain rfl:=e
 simp only[VRs,VR] at hvs
 obtain⟨v1,r3,rfl,⟨ws,rfl,⟨q,r4,rfl,⟨_,y2,hy2,_,hq⟩,rfl⟩⟩,rfl⟩:=hvs
 rw[h] at hy2
 cases hy2
 obtain⟨b2,hb2,rfl⟩:=hq _ rfl
 rw[hb] at hb2
 simp only[Value.pointer.injEq,Option.some.injEq,Addr.mk.injEq,and_true] at hb2
 obtain rfl:=hb2
 have hc:w.cell? ⟨b,0,none⟩=some (.func (.func 92) #[] #[.pointer (some ⟨b,0,none⟩)]):=hr 0 _ rfl
 have hgk2:Gk w (fun _=>False):=fun g hg=>by
  obtain⟨g1,g2,g3⟩:=hgk g hg
  exact⟨Nat.lt_of_lt_of_le g1 hm.base,fun h=>h,g3⟩
 refine (root_calls l.length l (Nat.le_refl _) hl w S u b hgk2 hm.lt hu hlt hc).mono ?_
 rintro e w' ⟨rfl,hb⟩
 exact⟨_,hd,S,rfl,out_below hm hb,by simp only[VR,D.is,I];exact⟨trivial,rfl⟩⟩
end Go.Proofs.YtacfbiegbdlldaaGreatDoor.Sim
end
section
namespace Go.Proofs.YtacfbiegbdlldaaGreatDoor.Sim
open Go Go.RowKit Go.Deep
set_option linter.unusedVariables false
set_option linter.unusedSimpArgs false
def sib (i:Nat):Nat:=if i % 2=0 then i+1 else i-1
theorem xor_sib {i:Nat} (h:i<16):bits .xor .i64 (i:Int) 1=((sib i:Nat):Int):=by
 have key:∀ i:Nat,i<16→bits .xor .i64 (i:Int) 1=((sib i:Nat):Int):=by decide +kernel
 exact key i h
def pathN:Nat→Nat→List Int→List Int
 |0,_,_=>[]
 |f+1,i,L=>if L.length≤1 then [] else (if sib i<L.length then [L.getD (sib i) 0] else [])++pathN f (i / 2) (upF L)
theorem pathN_any:∀ {n m i:Nat} {L:List Int},L.length≤n+1→L.length≤m+1→pathN n i L=pathN m i L
 |0,0,i,L,_,_=>rfl
 |0,m+1,i,L,h,_=>by rw[pathN,pathN,if_pos (by omega)]
 |n+1,0,i,L,_,h=>by rw[pathN,pathN,if_pos (by omega)]
 |n+1,m+1,i,L,h1,h2=>by
  rw[pathN,pathN]
  split
  ·rfl
  ·rw[pathN_any (n:=n) (m:=m) (i:=i / 2) (L:=upF L) (by rw[upF_len];omega) (by rw[upF_len];omega)]
def lenN:Nat→Nat→Nat→Nat
 |0,_,_=>0
 |f+1,i,c=>if c≤1 then 0 else (if sib i<c then 1 else 0)+lenN f (i / 2) ((c+1) / 2)
theorem lenN_any:∀ {n m i c:Nat},c≤n+1→c≤m+1→lenN n i c=lenN m i c
 |0,0,i,c,_,_=>rfl
 |0,m+1,i,c,h,_=>by rw[lenN,lenN,if_pos (by omega)]
 |n+1,0,i,c,_,h=>by rw[lenN,lenN,if_pos (by omega)]
 |n+1,m+1,i,c,h1,h2=>by
  rw[lenN,lenN]
  split
  ·rfl
  ·rw[lenN_any (n:=n) (m:=m) (i:=i / 2) (c:=(c+1) / 2) (by omega) (by omega)]
theorem pathN_len:∀ {f i:Nat} {L:List Int},(pathN f i L).length=lenN f i L.length
 |0,_,_=>rfl
 |f+1,i,L=>by
  rw[pathN,lenN]
  split
  ·rfl
  ·rw[List.length_append,pathN_len,upF_len]
   split <;> rfl
theorem lenN_le:∀ {f i c:Nat},lenN f i c≤f
 |0,_,_=>Nat.le_refl _
 |f+1,i,c=>by
  rw[lenN]
  have:=lenN_le (f:=f) (i:=i / 2) (c:=(c+1) / 2)
  split
  ·omega
  ·split <;> omega
theorem pathN_in:∀ {f i:Nat} {L:List Int},(∀ x ∈ L,0≤x∧x<2147483647)→∀ x ∈ pathN f i L,0≤x∧x<2147483647
 |0,_,_,_=>fun x hx=>by cases hx
 |f+1,i,L,h=>fun x hx=>by
  rw[pathN] at hx
  split at hx
  ·cases hx
  ·rcases List.mem_append.1 hx with hx|hx
   ·split at hx
    ·rename_i h1
     simp only[List.mem_singleton] at hx
     subst hx
     exact h _ (mem_getD 0 L _ h1)
    ·cases hx
   ·exact pathN_in (upF_in h) x hx
def leadN:Nat→Nat→Nat→Int→List Int→Int
 |0,_,_,d,_=>d
 |f+1,i,c,d,rest=>if c≤1 then d else if c≤sib i then leadN f (i / 2) ((c+1) / 2) d rest else leadN f (i / 2) ((c+1) / 2) (if i % 2=0 then nodeF d (rest.getD 0 0) else nodeF (rest.getD 0 0) d) (rest.drop 1)
theorem leadN_any:∀ {n m i c:Nat} {d:Int} {rest:List Int},c≤n+1→c≤m+1→leadN n i c d rest=leadN m i c d rest
 |0,0,i,c,d,rest,_,_=>rfl
 |0,m+1,i,c,d,rest,h,_=>by rw[leadN,leadN,if_pos (by omega)]
 |n+1,0,i,c,d,rest,_,h=>by rw[leadN,leadN,if_pos (by omega)]
 |n+1,m+1,i,c,d,rest,h1,h2=>by
  rw[leadN,leadN]
  split
  ·rfl
  ·split
   ·exact leadN_any (by omega) (by omega)
   ·exact leadN_any (by omega) (by omega)
theorem upF_get:∀ {L:List Int} {i:Nat},i<L.length→(upF L).getD (i / 2) 0=if L.length≤sib i then L.getD i 0 else if i % 2=0 then nodeF (L.getD i 0) (L.getD (sib i) 0) else nodeF (L.getD (sib i) 0) (L.getD i 0)
 |[],i,h=>by simp at h
 |[x],i,h=>by
  have:i=0:=by simpa using h
  subst this
  rw[upF_one]
  rfl
 |x :: y :: r,0,h=>by
  rw[upF_two,if_neg (by simp [sib])]
  rfl
 |x :: y :: r,1,h=>by
  rw[upF_two,if_neg (by simp [sib])]
  rfl
 |x :: y :: r,i+2,h=>by
  have ih:=upF_get (L:=r) (i:=i) (by simpa using h)
  have hs:sib (i+2)=sib i+2:=by unfold sib;split <;> (split <;> omega)
  have hm:(i+2) % 2=i % 2:=by omega
  rw[upF_two,show (i+2) / 2=i / 2+1 by omega,List.getD_cons_succ,ih,hs,hm]
  simp only[List.length_cons,List.getD_cons_succ]
  by_cases h1:r.length≤sib i
  ·rw[if_pos h1,if_pos (show r.length+1+1≤sib i+2 by omega)]
  ·rw[if_neg h1,if_neg (show ¬ r.length+1+1≤sib i+2 by omega)]
theorem lead_root:∀ {f i:Nat} {L:List Int},i<L.length→L.length≤f+1→leadN f i L.length (L.getD i 0) (pathN f i L)=rootN f L
 |0,i,L,h,h1=>by
  have:i=0:=by omega
  subst this
  rfl
 |f+1,i,L,h,h1=>by
  rw[leadN,pathN,rootN]
  by_cases h2:L.length≤1
  ·have:i=0:=by omega
   subst this
   rw[if_pos h2,if_neg (show ¬ L.length > 1 by omega)]
  ·rw[if_neg h2,if_neg h2,if_pos (show L.length > 1 by omega)]
   have hu:=upF_get h
   have hul:=upF_len (l:=L)
   have ih:=lead_root (f:=f) (i:=i / 2) (L:=upF L) (by rw[hul];omega) (by rw[hul];omega)
   rw[hul,hu] at ih
   by_cases h3:L.length≤sib i
   ·rw[if_pos h3,if_neg (show ¬ sib i<L.length by omega),List.nil_append]
    rw[if_pos h3] at ih
    exact ih
   ·rw[if_neg h3,if_pos (show sib i<L.length by omega)]
    rw[if_neg h3] at ih
    rw[← ih]
    rfl
end Go.Proofs.YtacfbiegbdlldaaGreatDoor.Sim
end
section
namespace Go.Proofs.YtacfbiegbdlldaaGreatDoor.Sim
open Go Go.RowKit Go.Deep
set_option maxRecDepth 100000
set_option maxHeartbeats 4000000
set_option linter.unusedVariables false
set_option linter.unusedSimpArgs false
attribute [local irreducible] Go Mean
theorem rootT (l:List Int) (h:DigOK l):Does Tryz.prog 66 [.d (dInts l)] [] (.tu [I (rootN l.length l),I 0]) [] []:=by
 refine G42' rfl BxOK.nil fun cx hm0=>go_in 5000 ?_
 unfold A42' R42'
 have e1:=checkD l h
 repeat' (first|simp (maxSteps:=9999999) only[↓GE,PL,PP,EE,QQ,seval,lm]|(simp (disch:=omega) only[i6])|(apply go_brD<;>intro h)|(apply go_gsD aE<;>intro h)|(apply go_br<;>intro h)|(apply go_gs aE<;>intro h)|(apply go_call 5000 (e1) rfl rfl;iterate 4 (first|(exact CallForm.plain rfl)|exact aC))|(with_reducible apply And.intro)|exact aG|fail)
 refine go_callLv (f:=92) (caps:=[.bp 5 0 0]) (zs':=[.d (dInts l)]) 5000 (root1L l h.1 5 _ rfl) rfl (by kernel_rfl) rfl ?_
 generalize rootN l.length l=z at *
 repeat' (first|simp (maxSteps:=9999999) only[↓GE,PL,PP,EE,QQ,seval]|(simp (disch:=omega) only[i6])|(apply go_brD<;>intro h)|(apply go_gsD aE<;>intro h)|(apply go_br<;>intro h)|(apply go_gs aE<;>intro h)|(with_reducible apply And.intro)|exact aG|fail)
 all_goals ((first|apply ret_mk []|apply end_mk []);(· exact aR);(· exact aZ);all_goals exact aF)
abbrev vHead (h:PHead):V:=.ag [I h.num,I h.p,I h.count,I h.width,I h.root]
def headOf (t:PTab):PHead:=⟨t.num,t.p,t.rows.length,t.width,rootN t.rows.length (t.rows.map rowF)⟩
theorem dig_rows {rows:List (List Int)} (h:rows.length≤1024):DigOK (rows.map rowF):=by
 refine⟨by rw[lm];exact h,fun x hx=>?_⟩
 obtain⟨r,_,rfl⟩:=List.mem_map.1 hx
 exact rowGo_in (by omega)
theorem theadT (t:PTab) (hl:t.rows.length≤17592186044416) (hs:Short t.rows) (h:chkT t=0):Does Tryz.prog 31 [vTab t] [] (.tu [vHead (headOf t),I 0]) [] []:=by
 refine G37' rfl BxOK.nil fun cx hm0=>go_in 5000 ?_
 unfold A37' R37'
 have e1:=tdigests t hl hs h
 have hck:=(checkT_ok h).2.1
 have e2:=rootT (t.rows.map rowF) (dig_rows (by omega))
 rw[lm] at e2
 unfold headOf
 generalize rootN t.rows.length (t.rows.map rowF)=z at *
 generalize t.rows.map rowF=DD at *
 repeat' (first|simp (maxSteps:=9999999) only[↓GE,PL,PP,EE,QQ,seval,lm]|(simp (disch:=omega) only[i6])|(apply go_brD<;>intro h)|(apply go_gsD aE<;>intro h)|(apply go_br<;>intro h)|(apply go_gs aE<;>intro h)|(apply go_call 5000 (e1) rfl rfl;iterate 4 (first|(exact CallForm.plain rfl)|exact aC))|(apply go_call 5000 (e2) rfl rfl;iterate 4 (first|(exact CallForm.plain rfl)|exact aC))|(with_reducible apply And.intro)|exact aG|fail)
 all_goals ((first|apply ret_mk []|apply end_mk []);(· exact aR);(· exact aZ);all_goals exact aF)
theorem holdsT (h:PHead) (l:List Int) (hd:DigOK l) (hc:h.count=l.length) (hr:h.root=rootN l.length l):Does Tryz.prog 32 [vHead h,.d (dInts l)] [] (I 0) [] []:=by
 refine G38' rfl BxOK.nil fun cx hm0=>go_in 5000 ?_
 unfold A38' R38'
 have e1:=rootT l hd
 obtain⟨a,b,c,d,e⟩:=h
 simp only at hc hr
 subst hc hr
 generalize rootN l.length l=z at *
 repeat' (first|simp (maxSteps:=9999999) only[↓GE,PL,PP,EE,QQ,seval,lm]|(simp (disch:=omega) only[i6])|(apply go_brD<;>intro h)|(apply go_gsD aE<;>intro h)|(apply go_br<;>intro h)|(apply go_gs aE<;>intro h)|(apply go_call 5000 (e1) rfl rfl;iterate 4 (first|(exact CallForm.plain rfl)|exact aC))|(with_reducible apply And.intro)|exact aG|fail)
 all_goals ((first|apply ret_mk []|apply end_mk []);(· exact aR);(· exact aZ);all_goals exact aF)
theorem tverify (h:PHead) (l:List Int) (ix:Nat) (row:List Int) (hd:DigOK l) (hc:h.count=l.length) (hr:h.root=rootN l.length l) (hix:ix<l.length) (hf:fieldB h.p=true) (hw:(row.length:Int)=h.width) (hw2:row.length≤64) (hin:row.all (inE h.p)=true) :
  Does Tryz.prog 34 [vHead h,.d (dInts l),I ix,.d (dInts row)] [] (I (if rowF row=l.getD ix 0 then 0 else 13)) [] []:=by
 refine G39' rfl BxOK.nil fun cx hm0=>go_in 5000 ?_
 unfold A39' R39'
 have e1:=holdsT h l hd hc hr
 have e2:=resOf h.p
 rw[hf,if_pos rfl] at e2
 have e3:=allF h.p row (by omega)
 rw[hin] at e3
 have e4:=drow row (by omega)
 have hs:=getD_map eI [] 0 l ix hix
 have q1:decide ((ix:Int)<0)=false:=df (by omega)
 have q2:decide ((ix:Int) ≥ (l.length:Int))=false:=df (by omega)
 have q2':decide ((l.length:Int)≤(ix:Int))=false:=df (by omega)
 obtain⟨a,b,c,w,e⟩:=h
 simp only at *
 generalize rowF row=x at *
 generalize l.getD ix 0=y at *
 by_cases hxy:x=y
 ·have q3:(x != y)=false:=by simp [hxy]
  rw[if_pos hxy]
  repeat' (first|simp (maxSteps:=9999999) only[↓GE,PL,PP,EE,QQ,seval,q1,q2,q2',q3,hs,hix,hw,eI,lm]|(simp (disch:=omega) only[i6])|(apply go_brD<;>intro h)|(apply go_gsD aE<;>intro h)|(apply go_br<;>intro h)|(apply go_gs aE<;>intro h)|(apply go_call 5000 (e1) rfl rfl;iterate 4 (first|(exact CallForm.plain rfl)|exact aC))|(apply go_call 5000 (e2) rfl rfl;iterate 4 (first|(exact CallForm.plain rfl)|exact aC))|(apply go_call 5000 (e3) rfl rfl;iterate 4 (first|(exact CallForm.plain rfl)|exact aC))|(apply go_call 5000 (e4) rfl rfl;iterate 4 (first|(exact CallForm.plain rfl)|exact aC))|(with_reducible apply And.intro)|exact aG|fail)
  all_goals ((first|apply ret_mk []|apply end_mk []);(· exact aR);(· exact aZ);all_goals exact aF)
 ·have q3:(x != y)=true:=by simpa using hxy
  rw[if_neg hxy]
  repeat' (first|simp (maxSteps:=9999999) only[↓GE,PL,PP,EE,QQ,seval,q1,q2,q2',q3,hs,hix,hw,eI,lm]|(simp (disch:=omega) only[i6])|(apply go_brD<;>intro h)|(apply go_gsD aE<;>intro h)|(apply go_br<;>intro h)|(apply go_gs aE<;>intro h)|(apply go_call 5000 (e1) rfl rfl;iterate 4 (first|(exact CallForm.plain rfl)|exact aC))|(apply go_call 5000 (e2) rfl rfl;iterate 4 (first|(exact CallForm.plain rfl)|exact aC))|(apply go_call 5000 (e3) rfl rfl;iterate 4 (first|(exact CallForm.plain rfl)|exact aC))|(apply go_call 5000 (e4) rfl rfl;iterate 4 (first|(exact CallForm.plain rfl)|exact aC))|(with_reducible apply And.intro)|exact aG|fail)
  all_goals ((first|apply ret_mk []|apply end_mk []);(· exact aR);(· exact aZ);all_goals exact aF)
theorem mfind (l:List Int) (ix:Nat) (h:DigOK l) (h16:l.length≤16) (hix:ix<l.length):Does Tryz.prog 35 [.d (dInts l),I ix] [] (.tu [.ag [I ix,I l.length,.d (dInts (pathN l.length ix l))],I 0]) [] []:=by
 refine G40' rfl BxOK.nil fun cx hm0=>go_in 5000 ?_
 unfold A40' R40'
 have e1:=checkD l h
 have q1:decide ((ix:Int)<0)=false:=df (by omega)
 have q2:decide ((ix:Int) ≥ (l.length:Int))=false:=df (by omega)
 have q2':decide ((l.length:Int)≤(ix:Int))=false:=df (by omega)
 obtain⟨P,hP⟩:∃ P,P=pathN l.length ix l:=⟨_,rfl⟩
 rw[← hP]
 obtain⟨n,hn⟩:∃ n,n=l.length:=⟨_,rfl⟩
 rw[← hn] at q2 q2' ⊢
 repeat' (first|simp (maxSteps:=9999999) only[↓GE,PL,PP,EE,QQ,seval,q1,q2,q2',← hn,lm]|(simp (disch:=omega) only[i6])|(apply go_brD<;>intro h)|(apply go_gsD aE<;>intro h)|(apply go_br<;>intro h)|(apply go_gs aE<;>intro h)|(apply go_call 5000 (e1) rfl rfl;iterate 4 (first|(exact CallForm.plain rfl)|exact aC))|(with_reducible apply And.intro)|exact aG|fail)
 refine go_loopz 5000 hm0 (ι:={q:Nat × List Int × List Int × Nat // q.1<q.2.1.length∧q.2.1.length≤16∧q.2.2.1.length+q.2.1.length≤17∧q.2.2.1++pathN q.2.1.length q.1 q.2.1=P}) (fun q=>[(0,.d (dInts q.1.2.1)),(4,.bp 4 0 0),(7,.bp 7 0 0),(8,I q.1.1)]) (fun q=>[(4,.box 0 [I 0,I 0,.nl 1]),(7,.box 0 [I ix,I n,.og 50 q.1.2.2.2]),(50,.arr q.1.2.2.2 1 true (q.1.2.2.1.map eI))]) (fun q=>q.1.2.1.length) [] [50] ⟨(ix,l,[],0),hix,h16,by simp only[List.length_nil];omega,by rw[hP];rfl⟩ ?_ ?_
 ·simp only[GeZ];exact aH
 rintro⟨⟨i,L,acc,v⟩,g1,g2,g3,g4⟩
 simp only at g1 g2 g3 g4 ⊢
 by_cases hL:1<L.length
 ·have r1:decide ((L.length:Int) > 1)=true:=dt (by omega)
  have r1':decide ((1:Int)<(L.length:Int))=true:=dt (by omega)
  have hx:=xor_sib (i:=i) (by omega)
  have u1:IntKind.i64.wrap ((i:Int).tdiv 2)=((i / 2:Nat):Int):=by
   rw[show ((i:Int).tdiv 2)=((i / 2:Nat):Int) from by rw[Int.tdiv_eq_ediv_of_nonneg (by omega)];omega,i6 _ (by omega)]
  have e2:=aboveT L (by omega)
  have hul:=upF_len (l:=L)
  have hpn:pathN L.length i L=(if sib i<L.length then [L.getD (sib i) 0] else [])++pathN (upF L).length (i / 2) (upF L):=by
   obtain⟨f,hf⟩:∃ f,L.length=f+1:=⟨L.length-1,by omega⟩
   conv=>lhs;rw[hf,pathN]
   rw[if_neg (by omega),pathN_any (n:=f) (m:=(upF L).length) (by omega) (by omega)]
  rw[hpn] at g4
  have hi2:i / 2<(upF L).length:=by omega
  obtain⟨i2,hi2d⟩:∃ i2,i2=i / 2:=⟨_,rfl⟩
  rw[← hi2d] at g4 u1 hi2
  obtain⟨U,hU⟩:∃ U,U=upF L:=⟨_,rfl⟩
  rw[← hU] at g4 e2 hi2 hul
  by_cases hsb:sib i<L.length
  ·have r2:decide (((sib i:Nat):Int)<(L.length:Int))=true:=dt (by omega)
   have hs:=getD_map eI [] 0 L (sib i) hsb
   rw[if_pos hsb] at g4
   generalize L.getD (sib i) 0=x at *
   generalize sib i=k at *
   have hal:acc.length≤1000:=by omega
   repeat' (first|simp (maxSteps:=9999999) only[↓GE,PL,PP,EE,QQ,seval,r1,r1',r2,hx,u1,hs,hsb,hal,eI,lm]|(simp (disch:=omega) only[i6])|(apply go_brD<;>intro h)|(apply go_gsD aE<;>intro h)|(apply go_br<;>intro h)|(apply go_gs aE<;>intro h)|(apply go_call 5000 (e2) rfl rfl;iterate 4 (first|(exact CallForm.plain rfl)|exact aC))|(with_reducible apply And.intro)|exact aG|fail)
   refine⟨[],[],⟨(i2,U,acc++[x],v+1),hi2,by simp only;omega,by simp only[List.length_append,List.length_cons,List.length_nil];omega,by simp only;rw[List.append_assoc];exact g4⟩,?_,by simp only;omega⟩
   simp only[GeZ];(simp only[GeS];refine⟨?_,?_,?_,?_⟩;all_goals (repeat' (first|(with_reducible exact True.intro)|(with_reducible rfl)|simp only[XC,↓reduceIte,seval]|(with_reducible apply And.intro)|(refine⟨_,rfl,?_⟩)|(simp [eI];done)|exact aS|fail)))
  ·have r2:decide (((sib i:Nat):Int)<(L.length:Int))=false:=df (by omega)
   rw[if_neg hsb,List.nil_append] at g4
   generalize sib i=k at *
   repeat' (first|simp (maxSteps:=9999999) only[↓GE,PL,PP,EE,QQ,seval,r1,r1',r2,hx,u1,eI,lm]|(simp (disch:=omega) only[i6])|(apply go_brD<;>intro h)|(apply go_gsD aE<;>intro h)|(apply go_br<;>intro h)|(apply go_gs aE<;>intro h)|(apply go_call 5000 (e2) rfl rfl;iterate 4 (first|(exact CallForm.plain rfl)|exact aC))|(with_reducible apply And.intro)|exact aG|fail)
   refine⟨[],[],⟨(i2,U,acc,v),hi2,by simp only;omega,by simp only;omega,g4⟩,?_,by simp only;omega⟩
   simp only[GeZ];(simp only[GeS];refine⟨?_,?_,?_,?_⟩;all_goals (repeat' (first|(with_reducible exact True.intro)|(with_reducible rfl)|simp only[XC,↓reduceIte,seval]|(with_reducible apply And.intro)|(refine⟨_,rfl,?_⟩)|(simp [eI];done)|exact aS|fail)))
 ·have r1:decide ((L.length:Int) > 1)=false:=df (by omega)
  have r1':decide ((1:Int)<(L.length:Int))=false:=df (by omega)
  have hp1:pathN L.length i L=[]:=by
   obtain⟨f,hf⟩:∃ f,L.length=f+1:=⟨L.length-1,by omega⟩
   rw[hf,pathN,if_pos (by omega)]
  rw[hp1,List.append_nil] at g4
  rw[← g4]
  repeat' (first|simp (maxSteps:=9999999) only[↓GE,PL,PP,EE,QQ,seval,r1,r1',lm]|(simp (disch:=omega) only[i6])|(apply go_brD<;>intro h)|(apply go_gsD aE<;>intro h)|(apply go_br<;>intro h)|(apply go_gs aE<;>intro h)|(with_reducible apply And.intro)|exact aG|fail)
  all_goals ((first|apply ret_mk []|apply end_mk []);(· exact aR);(· exact aZ);all_goals exact aF)
theorem mlength (c i:Nat) (hc:c≤16) (hi:i<c):Does Tryz.prog 95 [I c,I i] [] (.tu [I (lenN c i c),I 0]) [] []:=by
 refine G46' rfl BxOK.nil fun cx hm0=>go_in 5000 ?_
 unfold A46' R46'
 have q1:decide ((c:Int)<0)=false:=df (by omega)
 have q2:decide ((c:Int) > 1024)=false:=df (by omega)
 have q2':decide ((1024:Int)<(c:Int))=false:=df (by omega)
 have q3:decide ((i:Int)<0)=false:=df (by omega)
 have q4:decide ((i:Int) ≥ (c:Int))=false:=df (by omega)
 have q4':decide ((c:Int)≤(i:Int))=false:=df (by omega)
 obtain⟨N,hN⟩:∃ N,N=lenN c i c:=⟨_,rfl⟩
 rw[← hN]
 repeat' (first|simp (maxSteps:=9999999) only[↓GE,PL,PP,EE,QQ,seval,q1,q2,q2',q3,q4,q4']|(simp (disch:=omega) only[i6])|(apply go_brD<;>intro h)|(apply go_gsD aE<;>intro h)|(apply go_br<;>intro h)|(apply go_gs aE<;>intro h)|(with_reducible apply And.intro)|exact aG|fail)
 refine go_loopz 5000 hm0 (ι:={q:Nat × Nat × Nat // q.2.1<q.1∧q.1≤16∧q.2.2+q.1≤17∧q.2.2+lenN q.1 q.2.1 q.1=N}) (fun q=>[(0,I q.1.1),(1,I q.1.2.1),(6,I q.1.2.2)]) (fun q=>[]) (fun q=>q.1.1) [] [] ⟨(c,i,0),hi,hc,by simp only;omega,by rw[hN];simp⟩ ?_ ?_
 ·simp only[GeZ];exact aH
 rintro⟨⟨c,i,n⟩,g1,g2,g3,g4⟩
 simp only at g1 g2 g3 g4 ⊢
 by_cases hL:1<c
 ·have r1:decide ((c:Int) > 1)=true:=dt (by omega)
  have r1':decide ((1:Int)<(c:Int))=true:=dt (by omega)
  have hx:=xor_sib (i:=i) (by omega)
  have u1:IntKind.i64.wrap ((i:Int).tdiv 2)=((i / 2:Nat):Int):=by
   rw[show ((i:Int).tdiv 2)=((i / 2:Nat):Int) from by rw[Int.tdiv_eq_ediv_of_nonneg (by omega)];omega,i6 _ (by omega)]
  have u2:IntKind.i64.wrap ((c:Int)+1)=((c+1:Nat):Int):=by rw[i6 _ (by omega)];omega
  have u3:IntKind.i64.wrap (((c+1:Nat):Int).tdiv 2)=(((c+1) / 2:Nat):Int):=by
   rw[show (((c+1:Nat):Int).tdiv 2)=(((c+1) / 2:Nat):Int) from by rw[Int.tdiv_eq_ediv_of_nonneg (by omega)];omega,i6 _ (by omega)]
  have u4:IntKind.i64.wrap ((n:Int)+1)=((n+1:Nat):Int):=by rw[i6 _ (by omega)];omega
  have hpn:lenN c i c=(if sib i<c then 1 else 0)+lenN ((c+1) / 2) (i / 2) ((c+1) / 2):=by
   obtain⟨f,rfl⟩:∃ f,c=f+1:=⟨c-1,by omega⟩
   conv=>lhs;rw[lenN]
   rw[if_neg (by omega),lenN_any (n:=f) (m:=(f+1+1) / 2) (by omega) (by omega)]
  rw[hpn] at g4
  have k1:i / 2<(c+1) / 2:=by omega
  have k2:(c+1) / 2<c:=by omega
  generalize (c+1) / 2=c2 at *
  generalize i / 2=i2 at *
  generalize (c+1:Nat)=c1 at *
  by_cases hsb:sib i<c
  ·have r2:decide (((sib i:Nat):Int)<(c:Int))=true:=dt (by omega)
   rw[if_pos hsb] at g4
   generalize sib i=k at *
   repeat' (first|simp (maxSteps:=9999999) only[↓GE,PL,PP,EE,QQ,seval,r1,r1',r2,hx,u1,u2,u3,u4]|(simp (disch:=omega) only[i6])|(apply go_brD<;>intro h)|(apply go_gsD aE<;>intro h)|(apply go_br<;>intro h)|(apply go_gs aE<;>intro h)|(with_reducible apply And.intro)|exact aG|fail)
   refine⟨[],[],⟨(c2,i2,n+1),k1,by simp only;omega,by simp only;omega,by simp only;omega⟩,?_,k2⟩
   simp only[GeZ];exact aH
  ·have r2:decide (((sib i:Nat):Int)<(c:Int))=false:=df (by omega)
   rw[if_neg hsb] at g4
   generalize sib i=k at *
   repeat' (first|simp (maxSteps:=9999999) only[↓GE,PL,PP,EE,QQ,seval,r1,r1',r2,hx,u1,u2,u3,u4]|(simp (disch:=omega) only[i6])|(apply go_brD<;>intro h)|(apply go_gsD aE<;>intro h)|(apply go_br<;>intro h)|(apply go_gs aE<;>intro h)|(with_reducible apply And.intro)|exact aG|fail)
   refine⟨[],[],⟨(c2,i2,n),k1,by simp only;omega,by simp only;omega,by simp only;omega⟩,?_,k2⟩
   simp only[GeZ];exact aH
 ·have r1:decide ((c:Int) > 1)=false:=df (by omega)
  have r1':decide ((1:Int)<(c:Int))=false:=df (by omega)
  have hc1:c=1:=by omega
  subst hc1
  have hp1:lenN 1 i 1=0:=rfl
  rw[hp1,Nat.add_zero] at g4
  rw[← g4]
  repeat' (first|simp (maxSteps:=9999999) only[↓GE,PL,PP,EE,QQ,seval,r1,r1']|(simp (disch:=omega) only[i6])|(apply go_brD<;>intro h)|(apply go_gsD aE<;>intro h)|(apply go_br<;>intro h)|(apply go_gs aE<;>intro h)|(with_reducible apply And.intro)|exact aG|fail)
  all_goals ((first|apply ret_mk []|apply end_mk []);(· exact aR);(· exact aZ);all_goals exact aF)
end Go.Proofs.YtacfbiegbdlldaaGreatDoor.Sim
end
