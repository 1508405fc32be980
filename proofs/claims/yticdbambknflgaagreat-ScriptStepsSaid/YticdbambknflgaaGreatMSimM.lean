/- What a call does: of no program. Conditions: none. -/
import Derived.Test.YticdbambknflgaaGreatMSimKx
section
namespace Go.Proofs.YticdbambknflgaaGreat.Sim
open Go Go.RowKit Go.Deep
set_option linter.unusedVariables false
section
variable {P:Program} {X:Nat→Prop} {B:Nat} {o:Oper} {a:Act} {m m0:M} {hd:H} {w:World} {S:Nat→Prop} {v:V} {us:U} {vs:List V} {d:Nat} {u1 u2 u3:Value}
theorem op3_none (lo hi mx:Option Operand) (x:Operand):op3 [some x,lo,hi,mx]=x :: op3 [lo,hi,mx]:=rfl
theorem op3_two (lo hi:Option Operand):op3 [lo,hi]=op3 [lo,hi,none]:=by cases lo <;> cases hi <;> rfl
theorem ok_slcs (hm:Mem m hd w S X B) {t:TypeId} {x:Operand} {lo hi:Option Operand} (ho:o.op=.slice t x lo hi none) (hu:P.underlying t=some .string)
  (hv:VRs m hd w S vs ((op3 [some x,lo,hi]).map a.eval)) (hs:semSlc lo.isSome hi.isSome false 0 m vs=some (v,us)) (hp:preSlc lo.isSome hi.isSome false m vs):StepOK P X B o a m hd w S v us:=by
 rw[show op3 [some x,lo,hi]=x :: op3 [lo,hi] from rfl,op3_two,List.map_cons] at hv
 obtain⟨y,r,rfl,h1,h2⟩:=hv.invc
 unfold semSlc at hs
 split at hs
 ·rename_i s r' e
  cases e
  split at hs
  ·rename_i b hb
   simp only[if_true,Option.some.injEq,Prod.mk.injEq] at hs
   obtain⟨rfl,rfl⟩:=hs
   simp only[preSlc,hb] at hp
   obtain⟨g1,g2,g3⟩:=bnds_ok (mx:=none) h2 hb
   obtain⟨m',hr,_⟩:=bounds_run (P:=P) (w:=w) false g1 g2 g3 hp (Nat.le_refl _)
   have e1:=h1.at_
   refine StepOK.pure hm (u:=.string (s.extract (bl b) (bh b s.size))) ?_ (VR.at_mk rfl)
   simp only[Option.map_none] at hr
   simp [execOp,ho,e1,Instr.sliceAt,Instr.slice,run_underlying hu,hr]
  ·cases hs
 ·rename_i k' l r' e
  cases e
  split at hs
  ·split at hs
   ·rename_i hc;exact absurd hc.2 (Nat.lt_irrefl _)
   ·cases hs
  ·cases hs
 ·rename_i i ver r' e
  cases e
  split at hs
  ·split at hs
   ·rename_i hc;exact absurd hc.2.2 (Nat.lt_irrefl _)
   ·cases hs
  ·cases hs
 ·cases hs
theorem ok_slc (hm:Mem m hd w S X B) {t e:TypeId} {inf:TypeInfo} {x:Operand} {lo hi mx:Option Operand} (ho:o.op=.slice t x lo hi mx) (hu:P.underlying t=some (.slice e)) (hi':P.info? e=some inf)
  (hv:VRs m hd w S vs ((op3 [some x,lo,hi,mx]).map a.eval)) (hs:semSlc lo.isSome hi.isSome mx.isSome inf.size m vs=some (v,us)) (hp:preSlc lo.isSome hi.isSome mx.isSome m vs) (h0:0<inf.size):StepOK P X B o a m hd w S v us:=by
 rw[op3_none,List.map_cons] at hv
 obtain⟨y,r,rfl,h1,h2⟩:=hv.invc
 have run:∀ {b:Option Int × Option Int × Option Int} {ad:Option Addr} {len cap:Nat},bnds lo.isSome hi.isSome mx.isSome r=some b→a.eval x=.slice ad len cap→okB b len→len≤cap →
   ∃ m',(execOp a.eval o).run P w=.ok (.value (.slice (if m'=bl b then ad else ad.map (·.add (bl b*inf.size))) (bh b len-bl b) (m'-bl b))) w∧bl b≤bh b len∧bh b len≤len∧bh b len≤m'∧m'≤cap∧(isZ b=true→bl b=0∧bh b len=0∧m'=0)∧(mx=none→m'=cap)∧(lo=none→bl b=0):=by
  intro b ad len cap hb e1 hok hle
  obtain⟨g1,g2,g3⟩:=bnds_ok h2 hb
  obtain⟨m',hr,k1,k2,k3,k4,k5,k6,k7⟩:=bounds_run (P:=P) (w:=w) true g1 g2 g3 hok hle
  refine⟨m',?_,k1,k2,k3,k4,k5,fun e=>k6 (by rw[e];rfl),fun e=>k7 (by rw[e];rfl)⟩
  simp [execOp,ho,e1,Instr.sliceAt,Instr.slice,run_underlying hu,hr,sizeOf,typeInfo,hi']
 unfold semSlc at hs
 split at hs
 ·split at hs
  ·split at hs
   ·rename_i hc;omega
   ·cases hs
  ·cases hs
 ·rename_i k' l r' e
  cases e
  split at hs
  ·rename_i b hb
   split at hs
   ·rename_i hc
    obtain⟨rfl,_⟩:=hc
    simp only[preSlc,hb] at hp
    have h1':=h1
    simp only[VR,D.is] at h1'
    obtain⟨ad,cap,xs,e1,hle,_⟩:=h1'
    obtain⟨m',hr,k1,k2,k3,k4,k5,_⟩:=run hb e1 hp hle
    split at hs
    ·rename_i hz
     cases hs
     obtain⟨z1,z2,z3⟩:=k5 hz
     refine StepOK.pure hm hr ?_
     simp only[VR]
     exact⟨_,by rw[z1,z2,z3]⟩
    ·cases hs
     refine StepOK.pure hm hr ?_
     simp only[VR] at h1 ⊢
     rw[e1] at h1
     exact cut_ok h1 k1 k2 k3 k4
   ·cases hs
  ·cases hs
 ·rename_i i ver r' e
  cases e
  split at hs
  ·rename_i b v' k' mu l hb hmi
   split at hs
   ·rename_i hc
    obtain⟨rfl,rfl,_⟩:=hc
    simp only[preSlc,hb,hmi] at hp
    have e0:=og_ok h1 hmi
    obtain⟨ad,cap,hh,hle,_⟩:=arr_head hm hmi
    obtain⟨m',hr,k1,k2,k3,k4,k5,k6,k7⟩:=run hb (e0.trans hh) hp hle
    split at hs
    ·rename_i hz
     cases hs
     obtain⟨z1,z2,z3⟩:=k5 hz
     refine StepOK.pure hm hr ?_
     simp only[VR]
     exact⟨_,by rw[z1,z2,z3]⟩
    ·rename_i hlo hmx _
     cases hs
     have hl0:lo=none:=by cases lo <;> simp_all
     have hm0:mx=none:=by cases mx <;> simp_all
     have kl:=k7 hl0
     have km:=k6 hm0
     refine StepOK.cutArr hm hmi k2 fun ad' len' cap' e3 e4 e5=>?_
     rw[hh] at e3
     cases e3
     rw[hr,kl,km]
     simp only[Nat.zero_mul,Nat.sub_zero]
     have:(if cap=0 then ad else Option.map (fun x=>x.add 0) ad)=ad:=by
      split
      ·rfl
      ·cases ad <;> simp [Addr.add]
     rw[this]
    ·cases hs
     obtain⟨S1,o1⟩:=out_frz hm hmi
     refine⟨_,w,hd,S1,hr,o1,.inl ⟨_,rfl,?_⟩⟩
     have hob:=o1.mem.obj i _ (up_same _ _ _)
     simp only[O.is,Bool.false_eq_true,if_false] at hob
     rw[hh] at hob
     simp only[VR]
     exact cut_ok hob k1 k2 k3 k4
   ·cases hs
  ·cases hs
 ·cases hs
theorem rows1_take {T:Nat→Prop} {l:List (List D)} {xs:List Value} (h:Rows w T 1 l xs) (n:Nat):Rows w T 1 (l.take n) (xs.take n):=by have:=h.take n;rwa [Nat.mul_one] at this
theorem ok_cpy (hm:Mem m hd w S X B) {x y:Operand} {t tx e e':TypeId} {by_:Nat} (ho:o.op=.call { callee:=.builtin .copy,args:=#[x,y],argTypes:=#[t,tx] }) (he:elemOf' P t=some (e,1,by_)) (hx:P.underlying tx=some (.slice e'))
  (hv:VRs m hd w S vs [a.eval x,a.eval y]) (hs:semCpy 1 m vs=some (v,us)):StepOK P X B o a m hd w S v us:=by
 obtain⟨p,q,rfl,h,h'⟩:=hv.inv2
 obtain⟨inf,hu,hi,hsz,hby⟩:=elem_ok he
 unfold semCpy at hs
 split at hs
 ·rename_i i ver y' hh
  cases hh
  split at hs
  ·rename_i v' k' l ns hmi hns
   split at hs
   ·rename_i hc
    obtain⟨rfl,rfl,hnot⟩:=hc
    cases hs
    have e1:=og_ok h hmi
    have hmi':=hm.obj i _ hmi
    simp only[O.is,if_true] at hmi'
    obtain⟨xs,hrow,hoi⟩:=hmi'
    obtain⟨zs,hzrow,hsrc,ad,cap',ey,hy⟩:=news_ok hm hx h' hns
    have hsz1:(P.info? e).map (·.size)=some 1:=by rw[hi];simp [hsz]
    have hxl:=hrow.len
    have hzl:=hzrow.len
    simp only[Nat.mul_one] at hxl hzl
    have hlist:ns.take l.length++l.drop ns.length=ns.take (min ns.length l.length)++l.drop (min ns.length l.length):=by
     rcases Nat.le_total ns.length l.length with hle|hle
     ·rw[Nat.min_eq_left hle,List.take_of_length_le hle,List.take_of_length_le (Nat.le_refl _)]
     ·rw[Nat.min_eq_right hle,List.drop_of_length_le hle,List.drop_of_length_le (Nat.le_refl _)]
    rw[hlist]
    have none0:min ns.length l.length=0→StepOK P X B o a m hd w S (I (min ns.length l.length:Nat)) [(i,.arr v' 1 true (ns.take (min ns.length l.length)++l.drop (min ns.length l.length)))]:=by
     intro hn0
     obtain⟨dd,dcap,hh,_⟩:=arr_head hm hmi
     have hr:=run_copy_none (P:=P) w t tx o.type e dd ad l.length dcap ns.length cap' hu hsz1 hn0
     have hup:up m i (some (.arr v' 1 true l))=m:=by funext j;by_cases e:j=i <;> simp [up,e,hmi]
     rw[hn0]
     simp only[List.take_zero,List.drop_zero,List.nil_append]
     refine⟨.value (.int .i64 0),w,hd,S,?_,?_,.inl ⟨_,rfl,?_⟩⟩
     ·simp [execOp,ho,resolve,invoke,builtin,e1,hh,ey,hr,goInt]
     ·simp only[ups];rw[hup];exact Out.refl hm
     ·exact VR.at_mk rfl
    rcases Nat.eq_zero_or_pos (min ns.length l.length) with hn0|hn0
    ·exact none0 hn0
    ·rcases hoi with ⟨_,_,rfl⟩|⟨g,off,cap,hg,hc0,hB,hlt,hT,hn',hcm,hth,hra⟩
     ·simp at hn0
     ·obtain⟨g2,off2,rfl,hr2⟩:=hy (by omega)
      simp only[Nat.mul_one] at hth
      have hth':w.there g (off+0) (zs.take (min ns.length l.length)).length:=fun j hj=>by
       rw[List.length_take] at hj
       exact hth j (by omega)
      have htl:(zs.take (min ns.length l.length)).length=min ns.length l.length:=by rw[List.length_take];omega
      have hr:=run_copy_cells (P:=P) w t tx o.type e g off l.length cap ⟨g2,off2,none⟩ ns.length cap' (zs.take (min ns.length l.length)) hu hsz1 htl
       (fun j u hj=>by
        rw[List.getElem?_take] at hj
        split at hj
        ·rw[Addr.add_lit];exact hr2 j u hj
        ·cases hj) (fun j hj=>(hth' j hj).1) (fun j hj=>(hth' j hj).2) (fun u hu=>hzrow.one u (List.mem_of_mem_take hu))
      have hbl:blk (hd i)=some g:=by rw[hg];cases cap with|zero=>omega|succ c=>rfl
      have hll:(ns.take (min ns.length l.length)++l.drop (min ns.length l.length)).length=l.length:=by simp only[List.length_append,List.length_take,List.length_drop];omega
      have ho':=out_upd (w':=w.setCells g off (zs.take (min ns.length l.length))) hm i (.arr v' 1 true (ns.take (min ns.length l.length)++l.drop (min ns.length l.length))) (hd i) (by rw[(size_setCells _ _ _ _).1];exact Nat.le_refl _) (World.os_setCells _ _ _ _) (size_setCells _ _ _ _).2 (World.output_setCells _ _ _ _)
       (fun b hb hne=>World.heap_setCells_other _ _ _ _ hb (fun e=>hne _ hmi rfl (by rw[hbl,e])))
       (fun oo hoo=>by rw[hmi] at hoo;cases hoo;exact⟨Nat.le_refl _,fun _=>⟨rfl,rfl⟩⟩) (fun b hb _=>.inr ⟨_,hmi,rfl,hb⟩)
       (fun hl hk=>by
        simp only[O.is,if_true]
        have hrr:=range_splice (o:=0) hra hth' (by omega)
        unfold splice at hrr
        simp only[List.take_zero,List.nil_append,Nat.zero_add,Nat.add_zero,htl] at hrr
        have r2:=(Rows.keep hk _ _ _ hrow).drop (min ns.length l.length)
        rw[Nat.mul_one] at r2
        refine⟨_,(rows1_take (Rows.keep hk _ _ _ hzrow) _).append r2,.inr ⟨g,off,cap,by rw[hll];exact hg,hc0,hB,by rw[(size_setCells _ _ _ _).1];exact hlt,hT,by rw[hll];exact hn',hcm,by rw[Nat.mul_one];exact World.there_setCells hth _ _ _,hrr⟩⟩)
      rw[up_id] at ho'
      refine⟨.value (.int .i64 (min ns.length l.length:Nat)),_,hd,S,?_,ho',.inl ⟨_,rfl,VR.at_mk rfl⟩⟩
      simp [execOp,ho,resolve,invoke,builtin,e1,hg,ey,hr,goInt,htl]
   ·cases hs
  ·cases hs
 ·cases hs
theorem call_eq {c:Call} {bi:Builtin} {xs:List Operand} {ts:List TypeId} (h1:c.callee=.builtin bi) (h2:c.args.toList=xs) (h3:c.argTypes.toList=ts):c={ callee:=.builtin bi,args:=xs.toArray,argTypes:=ts.toArray }:=by
 cases c
 simp only at h1 h2 h3
 subst h1 h2 h3
 simp
theorem op_ok0 (hm:Mem m hd w S X B) {k:K} {xs:List Operand} {ts:List TypeId} (hk:opK0 P o=some (k,xs,ts)) (hv:VRs m hd w S vs (xs.map a.eval)) (hs:sem k d m vs=some (v,us)) (hp:pre k m vs):StepOK P X B o a m hd w S v us:=by
 unfold opK0 at hk
 split at hk
 ·rename_i x ho;cases hk;exact ok_mov hm (.inl ho) hv hs
 ·rename_i x ho;cases hk;exact ok_mov hm (.inr ho) hv hs
 ·rename_i c x y ho;cases hk;exact ok_pick hm ho hv hs
 ·rename_i t ho
  simp only[Option.map_eq_some_iff] at hk
  obtain⟨z,hz,hk⟩:=hk
  cases hk
  simp only[sem,Option.some.injEq,Prod.mk.injEq] at hs
  obtain⟨rfl,rfl⟩:=hs
  exact ok_alloc hm ho hz
 ·rename_i t x ho;cases hk;exact ok_box hm ho hv hs
 ·rename_i t ps ho
  split at hk
  ·rename_i f z hf hz
   split at hk
   ·rename_i os hos
    cases hk
    exact ok_build hm ho hf hz hos hv hs
   ·cases hk
  ·cases hk
 ·rename_i t n ps ho
  split at hk
  ·rename_i e k' by_ he
   split at hk
   ·rename_i z hz
    split at hk
    ·rename_i hc
     split at hk
     ·rename_i hlt
      cases hk
      unfold isLt at hlt
      split at hlt
      ·simp only[Bool.and_eq_true,beq_iff_eq] at hlt
       exact ok_blt hm ho he hz hc.1 hlt.1 hv hs
      ·cases hlt
     ·cases hk
      by_cases hz0:z=[]
      ·subst hz0
       exact absurd (zcs_ok hz) (fun h=>by
        obtain⟨i',u',g1,g2,g3,g4⟩:=h
        obtain⟨i2,g5,g6,g7,g8⟩:=elem_ok he
        rw[g6] at g1
        cases g1
        simp at g4
        omega)
      ·exact ok_bsl hm ho he hz hc.2 hc.1 hz0 hv hs
    ·cases hk
   ·cases hk
  ·cases hk
 ·rename_i t x ho
  simp only[Option.map_eq_some_iff] at hk
  obtain⟨⟨n,g⟩,hf,hk⟩:=hk
  cases hk
  exact ok_load hm ho hf hv hs
 ·rename_i t x y ho
  simp only[Option.map_eq_some_iff] at hk
  obtain⟨⟨n,g⟩,hf,hk⟩:=hk
  cases hk
  exact ok_store hm ho hf hv hs
 ·rename_i x ho;cases hk;exact ok_nck hm ho hv hs
 ·rename_i op t x y u ho
  split at hk
  ·rename_i ht;cases hk;exact ok_beq (ne:=false) hm ho ht hv hs
  ·rename_i ht;cases hk;exact ok_beq (ne:=true) hm ho ht hv hs
  ·rename_i ht;cases hk;exact ok_isn (ne:=false) hm ho ht hv hs
  ·rename_i ht;cases hk;exact ok_isn (ne:=true) hm ho ht hv hs
  ·rename_i fs ht
   split at hk
   ·rename_i hc
    simp only[Bool.and_eq_true,Bool.not_eq_true'] at hc
    cases hk
    exact ok_seq (ne:=false) hm ho ht hc.1.1 hc.1.2 hc.2 hv hs
   ·cases hk
  ·rename_i fs ht
   split at hk
   ·rename_i hc
    simp only[Bool.and_eq_true,Bool.not_eq_true'] at hc
    cases hk
    exact ok_seq (ne:=true) hm ho ht hc.1.1 hc.1.2 hc.2 hv hs
   ·cases hk
  ·cases hk
   exact ok_bin hm ho hv hs hp
 ·rename_i op t x ho;cases hk;exact ok_un hm ho hv hs
 ·rename_i s t x ho
  split at hk
  ·rename_i k' hk'
   split at hk
   ·rename_i hc
    cases hk
    exact ok_conv hm ho hk' hc hv hs
   ·cases hk
  ·cases hk
 ·rename_i f first cs ho
  split at hk
  ·rename_i hlt
   split at hk
   ·rename_i hc
    cases hk
    simp only[sem,Option.some.injEq,Prod.mk.injEq] at hs
    obtain⟨rfl,rfl⟩:=hs
    exact ok_mkf hm ho hlt (by simpa using hc) hv
   ·split at hk
    ·rename_i hc
     cases hk
     simp only[sem,Option.some.injEq,Prod.mk.injEq] at hs
     obtain⟨rfl,rfl⟩:=hs
     exact ok_mkff hm ho (by simpa using hc) hv
    ·cases hk
  ·cases hk
 ·rename_i t l c ho
  split at hk
  ·rename_i e k' by_ he
   split at hk
   ·rename_i z hz
    split at hk
    ·rename_i hc
     split at hk
     ·rename_i hbx
      cases hk
      unfold isBx at hbx
      split at hbx
      ·rename_i q' i' j'
       obtain rfl:i'=j':=by simpa using hbx
       exact ok_mkb hm ho he hz hv hs hp
      ·cases hbx
     ·cases hk
      by_cases hz0:z=[]
      ·subst hz0
       exact absurd (zcs_ok hz) (fun h=>by
        obtain⟨i',u',g1,g2,g3,g4⟩:=h
        obtain⟨i2,g5,g6,g7,g8⟩:=elem_ok he
        rw[g6] at g1
        cases g1
        simp at g4
        omega)
      ·exact ok_mks hm ho he hz hc hz0 hv hs hp
    ·cases hk
   ·cases hk
  ·cases hk
 ·rename_i t x lo hi mx ho
  split at hk
  ·rename_i hu
   split at hk
   ·rename_i hc
    have:mx=none:=by cases mx <;> simp_all
    subst this
    cases hk
    exact ok_slcs hm ho hu hv hs hp
   ·cases hk
  ·rename_i e hu
   split at hk
   ·rename_i inf hi'
    split at hk
    ·rename_i hc
     cases hk
     exact ok_slc hm ho hu hi' hv hs hp hc
    ·cases hk
   ·cases hk
  ·cases hk
 ·rename_i t x j ho
  split at hk
  ·rename_i fs hu
   split at hk
   ·rename_i f hf
    split at hk
    ·rename_i inf hi
     split at hk
     ·rename_i hc
      cases hk
      exact ok_fad hm ho hu hf hi hc hv hs
     ·cases hk
    ·cases hk
   ·cases hk
  ·cases hk
 ·rename_i t x j ho
  split at hk
  ·rename_i fs hu
   split at hk
   ·rename_i f hf
    simp only[Option.map_eq_some_iff] at hk
    obtain⟨⟨n,g⟩,hi,hk⟩:=hk
    cases hk
    exact ok_fld hm ho hu hf hi hv hs
   ·cases hk
  ·cases hk
 ·rename_i t x y ho
  split at hk
  ·rename_i e hu
   split at hk
   ·rename_i inf hi
    split at hk
    ·cases hk
     exact ok_iad hm ho hu hi hv hs hp
    ·cases hk
   ·cases hk
  ·rename_i n e hu
   split at hk
   ·rename_i inf hi
    split at hk
    ·cases hk
     exact ok_iada hm ho hu hi hv hs hp
    ·cases hk
   ·cases hk
  ·cases hk
 ·rename_i t x y ho
  split at hk
  ·rename_i hu
   cases hk
   exact ok_ixs hm ho hu hv hs hp
  ·rename_i n e hu
   split at hk
   ·rename_i k' g hi
    cases hk
    exact ok_ixa hm ho hu hi hv hs hp
   ·cases hk
  ·cases hk
 ·rename_i x j ho;cases hk;exact ok_ext hm ho hv hs
 ·rename_i c ho
  split at hk
  ·split at hk
   ·split at hk
    ·cases hk;simp [sem] at hs
    ·cases hk
   ·cases hk
  ·cases hk;simp [sem] at hs
  ·rename_i hc
   split at hk
   ·rename_i x t hxs hts
    have e:=call_eq hc hxs hts
    rw[e] at ho
    split at hk
    ·rename_i hu;cases hk;exact ok_lens hm ho hu hv hs
    ·rename_i e hu;cases hk;exact ok_len hm ho hu hv hs
    ·cases hk
   ·cases hk
  ·rename_i hc
   split at hk
   ·rename_i x y t tx hxs hts
    have e:=call_eq hc hxs hts
    rw[e] at ho
    split at hk
    ·rename_i e k' by_ e' he hx
     split at hk
     ·rename_i hz
      obtain⟨z,hz⟩:=Option.isSome_iff_exists.1 hz
      cases hk
      exact ok_app hm ho he hz hx hv hs hp
     ·cases hk
    ·cases hk
   ·cases hk
  ·rename_i hc
   split at hk
   ·rename_i x y t tx hxs hts
    have e:=call_eq hc hxs hts
    rw[e] at ho
    split at hk
    ·rename_i e k' by_ e' he hx
     split at hk
     ·rename_i hk1
      subst hk1
      cases hk
      exact ok_cpy hm ho he hx hv hs
     ·cases hk
    ·cases hk
   ·cases hk
  ·rename_i hc
   split at hk
   ·rename_i x y hxs
    have e:=call_eq hc hxs rfl
    rw[e] at ho
    cases hk
    exact ok_mn hm ho hv hs
   ·cases hk
  ·rename_i hc
   split at hk
   ·rename_i x y hxs
    have e:=call_eq hc hxs rfl
    rw[e] at ho
    cases hk
    exact ok_mx hm ho hv hs
   ·cases hk
  ·cases hk
 ·cases hk
theorem isCT_ok {z:Operand} (h:isCT z=true):z=.const (.bool true):=by
 unfold isCT at h
 split at h
 ·rfl
 ·cases h
theorem op_ok (hG:∀ g,GL.contains g=true→w.cell? ⟨g,0,none⟩=some GLV) (hm:Mem m hd w S X B) {f:List Nat} {k:K} {xs:List Operand} {ts:List TypeId} (hk:opK P f o=some (k,xs,ts)) (hv:VRs m hd w S vs (xs.map a.eval)) (hs:sem k d m vs=some (v,us)) (hp:pre k m vs):StepOK P X B o a m hd w S v us:=by
 unfold opK at hk
 split at hk
 ·rename_i r hx
  cases hk
  unfold opX at hx
  split at hx
  ·rename_i t n ps ho
   split at hx
   ·split at hx
    ·rename_i e _ he
     split at hx
     ·rename_i q hz
      split at hx
      ·rename_i hc
       cases hx
       exact ok_bslv hm ho he hz hc.2 (by simpa using hc.1) hv hs
      ·cases hx
     ·cases hx
    ·rename_i e k _ he
     split at hx
     ·rename_i hz
      split at hx
      ·rename_i hc
       cases hx
       obtain⟨rfl,hc2,hc3⟩:=hc
       exact ok_bslw hm ho he hz (by omega) (by omega) (by simpa using hc3) hv hs
      ·cases hx
     ·cases hx
    ·cases hx
   ·cases hx
  ·rename_i t x lo ho
   split at hx
   ·split at hx
    ·rename_i e hu
     split at hx
     ·rename_i inf hi
      split at hx
      ·cases hx;exact ok_tail hm ho hu hi hv hs hp
      ·cases hx
     ·cases hx
    ·cases hx
   ·cases hx
  ·rename_i t x hi mx ho
   split at hx
   ·split at hx
    ·rename_i e hu
     split at hx
     ·rename_i inf hi'
      split at hx
      ·cases hx;exact ok_cutm hm ho hu hi' hv hs hp
      ·cases hx
     ·cases hx
    ·cases hx
   ·split at hx
    ·split at hx
     ·rename_i e hu
      split at hx
      ·rename_i inf hi'
       split at hx
       ·cases hx;exact ok_fxc hm ho hu hi' hv hs hp
       ·cases hx
      ·cases hx
     ·cases hx
    ·cases hx
  ·rename_i t ho
   split at hx
   ·cases hx
    simp only[sem] at hs
    exact ok_mkm hm ho hs
   ·cases hx
  ·rename_i t x y ho
   split at hx
   ·rename_i hc;cases hx;exact ok_lkp hm ho hc hv hs
   ·cases hx
  ·rename_i t x y z ho
   split at hx
   ·rename_i hc
    simp only[Bool.and_eq_true] at hc
    cases hx
    exact ok_mup hm ho hc.1 (by rw[isCT_ok hc.2];rfl) hv hs
   ·cases hx
  ·rename_i t g ho
   split at hx
   ·rename_i hf
    cases hx
    exact ok_ldg hm hG ho hf hs
   ·cases hx
  ·rename_i t x y u ho
   split at hx
   ·rename_i fs hu
    split at hx
    ·rename_i hc;cases hx;exact ok_ifn (ne:=false) hm ho hu hc hv hs
    ·cases hx
   ·cases hx
  ·rename_i t x y u ho
   split at hx
   ·rename_i fs hu
    split at hx
    ·rename_i hc;cases hx;exact ok_ifn (ne:=true) hm ho hu hc hv hs
    ·cases hx
   ·cases hx
  ·rename_i s t x ho
   split at hx
   ·rename_i e h1 h2
    split at hx
    ·rename_i h3;cases hx;exact ok_tob hm ho h1 h2 h3 hv hs hp
    ·cases hx
   ·rename_i e h1 h2
    split at hx
    ·rename_i h3;cases hx;exact ok_tos hm ho h1 h2 h3 hv hs
    ·cases hx
   ·cases hx
  ·cases hx
 ·split at hk
  ·rename_i r h0
   cases hk
   exact op_ok0 hm h0 hv hs hp
  ·cases hk
   simp [sem] at hs
end
end Go.Proofs.YticdbambknflgaaGreat.Sim
end
section
namespace Go.Proofs.YticdbambknflgaaGreat.Sim
open Go Go.RowKit Go.Deep
set_option linter.unusedVariables false
abbrev M0:M:=fun _=>none
def fresh (as:List O):U:=as.zipIdx.map fun p=>(1000000+p.2,p.1)
def Gk (w:World) (X:Nat→Prop):Prop:=∀ g,GL.contains g=true→g<w.heap.size∧¬ X g∧w.cell? ⟨g,0,none⟩=some GLV
def Does (P:Program) (f:FuncId) (xs:List V) (bx:U) (r:V) (bx':U) (as:List O):Prop :=
 ∀ (w:World) (hd:H) (S X:Nat→Prop) (us:List Value),Gk w X→Mem (ups M0 bx) hd w S X w.heap.size→VRs (ups M0 bx) hd w S xs us →
  Calls P f us.toArray w fun e w'=>∃ u hd' S',e=.returned u∧Fr w w' X∧Mem (ups M0 (bx'++fresh as)) hd' w' S' X w.heap.size∧VR (ups M0 (bx'++fresh as)) hd' w' S' r u∧(∀ b,S' b→S b∨w.heap.size≤b∨X b)∧Le (ups M0 bx) hd (ups M0 (bx'++fresh as)) hd'
def inU:U→Nat→Bool
 |[],_=>false
 |(j,_) :: r,i=>if j=i then true else inU r i
theorem inU_mem {i:Nat}:∀ {us:U},inU us i=true→∃ o,(i,o) ∈ us
 |[],h=>by cases h
 |(j,o) :: r,h=>by
  simp only[inU] at h
  split at h
  ·rename_i e;subst e;exact⟨o,by simp⟩
  ·obtain⟨o',h'⟩:=inU_mem h;exact⟨o',by simp [h']⟩
theorem mem_inU {i:Nat} {o:O}:∀ {us:U},(i,o) ∈ us→inU us i=true
 |[],h=>by cases h
 |(j,o') :: r,h=>by
  simp only[inU]
  split
  ·rfl
  ·rename_i e
   rcases List.mem_cons.1 h with h|h
   ·cases h;exact absurd rfl e
   ·exact mem_inU h
def lentOut (bx:U):List V→List V
 |[]=>[]
 |.og i v :: l=>if inU bx i=true then lentOut bx l else .og i v :: lentOut bx l
 |x :: l=>x :: lentOut bx l
theorem lentOut_og {bx:U} {i v:Nat}:∀ {l:List V},.og i v ∈ lentOut bx l↔.og i v ∈ l∧inU bx i=false
 |[]=>by simp [lentOut]
 |x :: l=>by
  have ih:=lentOut_og (bx:=bx) (i:=i) (v:=v) (l:=l)
  cases x with
  |og j u =>
   simp only[lentOut]
   split
   ·rename_i hj
    rw[ih,List.mem_cons]
    constructor
    ·rintro⟨h1,h2⟩;exact⟨.inr h1,h2⟩
    ·rintro⟨h1|h1,h2⟩
     ·cases h1;rw[hj] at h2;cases h2
     ·exact⟨h1,h2⟩
   ·rename_i hj
    rw[List.mem_cons,List.mem_cons,ih]
    constructor
    ·rintro (h1|h1)
     ·cases h1;exact⟨.inl rfl,by simpa using hj⟩
     ·exact⟨.inr h1.1,h1.2⟩
    ·rintro⟨h1|h1,h2⟩
     ·exact .inl h1
     ·exact .inr ⟨h1,h2⟩
  |_=>simp only[lentOut,List.mem_cons,ih,reduceCtorEq,false_or]
def closed:V→Bool
 |.d _=>true
 |.nl _=>true
 |.cl _ []=>true
 |_=>false
inductive Arg (m:M) (bx:U):V→V→Prop
 |un:Arg m bx .un .un
 |ot (i v e k:Nat) (l:List (List D)) (h:m i=some (.arr v k true l)) (h2:(i,O.arr v k true l) ∈ bx):Arg m bx (.ot i v e) (.ot i v e)
 |d (x:D):Arg m bx (.d x) (.d x)
 |nl (k k':Nat):Arg m bx (.nl k) (.nl k')
 |nd (k k':Nat):Arg m bx (.nl k) (.d (.sl k' []))
 |og (i v k:Nat) (mu:Bool) (l:List (List D)) (h:m i=some (.arr v k mu l)) (hn:inU bx i=false):Arg m bx (.og i v) (.d (.sl k l))
 |ogl (i v k:Nat) (l:List (List D)) (h:m i=some (.arr v k true l)) (h2:(i,O.arr v k true l) ∈ bx):Arg m bx (.og i v) (.og i v)
 |bp (i v o:Nat) (cs:List V) (h:m i=some (.box v cs)) (h2:(i,O.box v cs) ∈ bx):Arg m bx (.bp i v o) (.bp i v o)
 |agn:Arg m bx (.ag []) (.ag [])
 |agc {x y:V} {l l':List V} (h:Arg m bx x y) (h2:Arg m bx (.ag l) (.ag l')):Arg m bx (.ag (x :: l)) (.ag (y :: l'))
 |cln (f:FuncId):Arg m bx (.cl f []) (.cl f [])
 |clc {f:FuncId} {x y:V} {l l':List V} (h:Arg m bx x y) (h2:Arg m bx (.cl f l) (.cl f l')):Arg m bx (.cl f (x :: l)) (.cl f (y :: l'))
inductive Args (m:M) (bx:U):List V→List V→Prop
 |nil:Args m bx [] []
 |cons {x y:V} {l l':List V} (h:Arg m bx x y) (h2:Args m bx l l'):Args m bx (x :: l) (y :: l')
mutual
def V.flat:V→List V
 |.ag l=>V.flats l
 |.cl _ l=>V.flats l
 |.tu l=>V.flats l
 |x=>[x]
def V.flats:List V→List V
 |[]=>[]
 |x :: l=>V.flat x++V.flats l
end
mutual
def V.ren (b:Nat) (m:M):V→V
 |.og i v=>if i<1000000 then .og i v else .og (b+(i-1000000)) (nv m (b+(i-1000000)))
 |.bp i v o=>if i<1000000 then .bp i v o else .bp (b+(i-1000000)) (nv m (b+(i-1000000))) o
 |.ag l=>.ag (V.rens b m l)
 |.tu l=>.tu (V.rens b m l)
 |x=>x
def V.rens (b:Nat) (m:M):List V→List V
 |[]=>[]
 |x :: l=>V.ren b m x :: V.rens b m l
end
mutual
def V.wfR (us:U) (n:Nat):V→Bool
 |.d _=>true
 |.nl _=>true
 |.og i v=>if i<1000000 then inU us i else decide (i<1000000+n)&&v == 0
 |.bp i v o=>if i<1000000 then inU us i else decide (i<1000000+n)&&v == 0
 |.ag l=>V.wfRs us n l
 |.tu l=>V.wfRs us n l
 |_=>false
def V.wfRs (us:U) (n:Nat):List V→Bool
 |[]=>true
 |x :: l=>V.wfR us n x&&V.wfRs us n l
end
def O.setv (v:Nat):O→O
 |.box _ cs=>.box v cs
 |.arr _ k mu l=>.arr v k mu l
 |.vec _ k cs=>.vec v k cs
 |.mp _ ks=>.mp v ks
def O.wf:O→Bool
 |.box v cs=>v == 0&&cs.all closed
 |.arr v _ mu _=>v == 0&&mu
 |_=>false
def O.wfB:O→Bool
 |.box _ cs=>cs.all closed
 |.arr _ _ _ _=>true
 |_=>false
def freshIn (b:Nat) (m:M) (as:List O):U:=as.zipIdx.map fun p=>(b+p.2,p.1.setv (nv m (b+p.2)))
section
variable {m m':M} {us:U}
theorem ups_not {i:Nat}:∀ {us:U} {m:M},(∀ x ∈ us,x.1 ≠ i)→ups m us i=m i
 |[],m,_=>rfl
 |(j,o) :: us,m,h=>by
  rw[ups,ups_not (fun x hx=>h x (by simp [hx])),up_ne]
  exact fun e=>h (j,o) (by simp) e.symm
theorem ups_mem {i:Nat} {o:O}:∀ {us:U} {m:M},(us.map (·.1)).Nodup→(i,o) ∈ us→ups m us i=some o
 |[],m,_,h=>by cases h
 |(j,o') :: us,m,hn,h=>by
  simp only[List.map_cons,List.nodup_cons] at hn
  rw[ups]
  rcases List.mem_cons.1 h with h|h
  ·cases h
   rw[ups_not,up_same]
   intro x hx e
   exact hn.1 (List.mem_map.2 ⟨x,hx,e⟩)
  ·exact ups_mem hn.2 h
theorem ups_or (i:Nat):∀ (us:U) (m:M),(ups m us i=m i∧∀ x ∈ us,x.1 ≠ i)∨∃ o,(i,o) ∈ us∧ups m us i=some o
 |[],m=>.inl ⟨rfl,by simp⟩
 |(j,o) :: us,m=>by
  rw[ups]
  rcases ups_or i us (up m j (some o)) with ⟨h1,h2⟩|⟨o',h1,h2⟩
  ·by_cases e:i=j
   ·subst e
    exact .inr ⟨o,by simp,by rw[h1,up_same]⟩
   ·refine .inl ⟨by rw[h1,up_ne _ _ e],fun x hx=>?_⟩
    rcases List.mem_cons.1 hx with rfl|hx
    ·exact fun h=>e h.symm
    ·exact h2 x hx
  ·exact .inr ⟨o',by simp [h1],h2⟩
theorem mem_fresh {as:List O} {i:Nat} {o:O} (h:(i,o) ∈ fresh as):∃ j,i=1000000+j∧as[j]?=some o:=by
 unfold fresh at h
 obtain⟨⟨o',j⟩,h1,h2⟩:=List.mem_map.1 h
 cases h2
 exact⟨j,rfl,by simpa using List.mk_mem_zipIdx_iff_getElem?.1 h1⟩
theorem fresh_mem {as:List O} {j:Nat} {o:O} (h:as[j]?=some o):(1000000+j,o) ∈ fresh as:=List.mem_map.2 ⟨(o,j),List.mk_mem_zipIdx_iff_getElem?.2 (by simpa using h),rfl⟩
theorem mem_freshIn {as:List O} {b i:Nat} {o:O} (h:(i,o) ∈ freshIn b m as):∃ j o',i=b+j∧as[j]?=some o'∧o=o'.setv (nv m i):=by
 unfold freshIn at h
 obtain⟨⟨o',j⟩,h1,h2⟩:=List.mem_map.1 h
 cases h2
 exact⟨j,o',rfl,by simpa using List.mk_mem_zipIdx_iff_getElem?.1 h1,rfl⟩
theorem freshIn_mem {as:List O} {b j:Nat} {o:O} (h:as[j]?=some o):(b+j,o.setv (nv m (b+j))) ∈ freshIn b m as:=List.mem_map.2 ⟨(o,j),List.mk_mem_zipIdx_iff_getElem?.2 (by simpa using h),rfl⟩
theorem nodup_freshIn {as:List O} {b:Nat}:((freshIn b m as).map (·.1)).Nodup:=by
 unfold freshIn
 rw[List.map_map]
 have:((fun x:Nat × O=>x.1) ∘ fun p:O × Nat=>(b+p.2,p.1.setv (nv m (b+p.2))))=(fun p:O × Nat=>b+p.2):=rfl
 rw[this,show (fun p:O × Nat=>b+p.2)=(fun j=>b+j) ∘ Prod.snd from rfl,← List.map_map,List.zipIdx_map_snd]
 exact List.pairwise_map.2 ((List.nodup_range' (s:=0) (n:=as.length)).imp fun h e=>h (by omega))
theorem nodup_fresh {as:List O}:((fresh as).map (·.1)).Nodup:=by
 unfold fresh
 rw[List.map_map]
 have:((fun x:Nat × O=>x.1) ∘ fun p:O × Nat=>(1000000+p.2,p.1))=(fun j=>1000000+j) ∘ Prod.snd:=rfl
 rw[this,← List.map_map,List.zipIdx_map_snd]
 exact List.pairwise_map.2 ((List.nodup_range' (s:=0) (n:=as.length)).imp fun h e=>h (by omega))
end
section
variable {m m1:M} {hd:H} {w:World} {S S1 X:Nat→Prop} {B:Nat} {bx:U}
theorem closed_ok {m2:M} {hd2:H} {w2:World} {S2:Nat→Prop} (hk:∀ b,S b→b<w.heap.size→S2 b∧w2.heap[b]?=w.heap[b]?):∀ {cs:List V} {vs:List Value},cs.all closed=true→VRs m hd w S cs vs→VRs m2 hd2 w2 S2 cs vs
 |[],vs,_,h=>by simp only[VRs] at h ⊢;exact h
 |x :: cs,vs,hc,h=>by
  simp only[List.all_cons,Bool.and_eq_true] at hc
  simp only[VRs] at h ⊢
  obtain⟨u,r,e,h1,h2⟩:=h
  refine⟨u,r,e,?_,closed_ok hk hc.2 h2⟩
  cases x with
  |d y=>simp only[VR] at h1 ⊢;exact D.keep hk _ _ h1
  |nl k=>simp only[VR] at h1 ⊢;exact h1
  |cl f l =>
   cases l with
   |nil=>simp only[VR,VRs] at h1 ⊢;exact h1
   |cons y l=>exact absurd hc.1 (by simp [closed])
  |_=>exact absurd hc.1 (by simp [closed])
theorem arg_ok (hm1:Mem m1 hd w S1 X B) {x y:V} (h:Arg m bx x y):∀ {u:Value},VR m1 hd w S1 x u→(∀ i v k mu l,.og i v ∈ x.flat→inU bx i=false→m i=some (.arr v k mu l)→m1 i=some (.arr v k false l))→(∀ x ∈ bx,m1 x.1=some x.2)→(bx.map (·.1)).Nodup→VR (ups M0 bx) hd w S1 y u:=by
 induction h with
 |d x=>intro u h _ _ _;simp only[VR] at h ⊢;exact h
 |nl k k'=>intro u h _ _ _;simp only[VR] at h ⊢;exact h
 |nd k k' =>
  intro u h _ _ _
  simp only[VR] at h ⊢
  subst h
  simp only[D.is]
  exact⟨none,0,[],rfl,Nat.le_refl _,Nat.zero_le _,by simp [Rows],fun h=>absurd h (by simp)⟩
 |un=>intro u h _ _ _;simp only[VR]
 |ot i v e k l hi hbx =>
  intro u h _ hb hn
  have h1:=hb _ hbx
  simp only[VR] at h ⊢
  obtain⟨h0,y,hy,hv,h⟩:=h
  simp only at h1
  rw[h1] at hy
  cases hy
  exact⟨h0,_,ups_mem hn hbx,hv,h⟩
 |ogl i v k l hi hbx =>
  intro u h _ hb hn
  have h1:=hb _ hbx
  simp only[VR] at h ⊢
  obtain⟨h0,y,hy,hv,h⟩:=h
  simp only at h1
  rw[h1] at hy
  cases hy
  exact⟨h0,_,ups_mem hn hbx,hv,h⟩
 |og i v k mu l hi hno =>
  intro u h hf _ _
  have h1:=hf i v k mu l (by simp [V.flat]) hno hi
  have h2:=hm1.obj i _ h1
  simp only[O.is,Bool.false_eq_true,if_false] at h2
  simp only[VR] at h ⊢
  obtain⟨_,y,hy,_,h⟩:=h
  rw[h1] at hy
  cases hy
  rw[h _ _ _ rfl]
  exact h2
 |bp i v o cs hi hbx =>
  intro u h _ hb hn
  have h1:=hb _ hbx
  simp only[VR] at h ⊢
  obtain⟨h0,y,hy,hv,h⟩:=h
  simp only at h1
  rw[h1] at hy
  cases hy
  exact⟨h0,_,ups_mem hn hbx,hv,h⟩
 |agn=>intro u h _ _ _;simp only[VR] at h ⊢;obtain⟨vs,e,h1,h2⟩:=h;simp only[VRs] at h1;subst h1;exact⟨[],e,by simp [VRs],h2⟩
 |agc h1 h2 ih1 ih2 =>
  intro u h hf hb hn
  simp only[VR,VRs] at h
  obtain⟨vs,e,⟨v0,r,rfl,g1,g2⟩,g3⟩:=h
  have k1:=ih1 g1 (fun i v k mu l hm hn' hi=>hf i v k mu l (by simp only[V.flat,V.flats,List.mem_append];exact .inl hm) hn' hi) hb hn
  have k2:=ih2 (u:=.agg r.toArray) (by simp only[VR];exact⟨r,rfl,g2,fun y hy=>g3 y (by simp [hy])⟩) (fun i v k mu l hm hn' hi=>hf i v k mu l (by simp only[V.flat,V.flats,List.mem_append] at hm ⊢;exact .inr hm) hn' hi) hb hn
  simp only[VR] at k2
  obtain⟨r',e',k3,_⟩:=k2
  have er:r'=r:=by injection e' with e';exact (List.toArray_inj e').symm
  subst er
  simp only[VR,VRs]
  exact⟨_,e,⟨v0,_,rfl,k1,k3⟩,g3⟩
 |cln f=>intro u h _ _ _;simp only[VR] at h ⊢;obtain⟨vs,e,h1⟩:=h;simp only[VRs] at h1;subst h1;exact⟨[],e,by simp [VRs]⟩
 |clc h1 h2 ih1 ih2 =>
  rename_i f x y l l'
  intro u h hf hb hn
  simp only[VR,VRs] at h
  obtain⟨vs,e,⟨v0,r,rfl,g1,g2⟩⟩:=h
  have k1:=ih1 g1 (fun i v k mu l hm hn' hi=>hf i v k mu l (by simp only[V.flat,V.flats,List.mem_append];exact .inl hm) hn' hi) hb hn
  have k2:=ih2 (u:=mkCl f r) (by simp only[VR];exact⟨r,rfl,g2⟩) (fun i v k mu l hm hn' hi=>hf i v k mu l (by simp only[V.flat,V.flats,List.mem_append] at hm ⊢;exact .inr hm) hn' hi) hb hn
  simp only[VR] at k2
  obtain⟨r',e',k3⟩:=k2
  have er:r'=r:=(mkCl_inj e').symm
  subst er
  simp only[VR,VRs]
  exact⟨_,e,⟨v0,_,rfl,k1,k3⟩⟩
theorem args_ok (hm1:Mem m1 hd w S1 X B) {xs ys:List V} (h:Args m bx xs ys):∀ {us:List Value},VRs m1 hd w S1 xs us→(∀ i v k mu l,.og i v ∈ V.flats xs→inU bx i=false→m i=some (.arr v k mu l)→m1 i=some (.arr v k false l))→(∀ x ∈ bx,m1 x.1=some x.2)→(bx.map (·.1)).Nodup→VRs (ups M0 bx) hd w S1 ys us:=by
 induction h with
 |nil=>intro us h _ _ _;simp only[VRs] at h ⊢;exact h
 |cons h1 h2 ih =>
  intro us h hf hb hn
  simp only[VRs] at h ⊢
  obtain⟨u,r,e,g1,g2⟩:=h
  exact⟨u,r,e,arg_ok hm1 h1 g1 (fun i v k mu l hm hn' hi=>hf i v k mu l (by simp only[V.flats,List.mem_append];exact .inl hm) hn' hi) hb hn,ih g2 (fun i v k mu l hm hn' hi=>hf i v k mu l (by simp only[V.flats,List.mem_append];exact .inr hm) hn' hi) hb hn⟩
end
section
variable {os m2:M} {hd' hd2:H} {w':World} {S' S2:Nat→Prop} {b n:Nat} {m:M} {bx:U}
mutual
theorem ren_ok (hS:∀ k,S' k→S2 k) (hold:∀ i,inU bx i=true→i<1000000→m2 i=os i∧hd2 i=hd' i) (hnew:∀ j,j<n→∃ o,os (1000000+j)=some o∧o.ver=0∧m2 (b+j)=some (o.setv (nv m (b+j)))∧hd2 (b+j)=hd' (1000000+j)):∀ (r:V) (u:Value),r.wfR bx n=true→VR os hd' w' S' r u→VR m2 hd2 w' S2 (r.ren b m) u
 |.d x,u,_,h=>by simp only[V.ren,VR] at h ⊢;exact D.keep (fun b hb _=>⟨hS b hb,rfl⟩) _ _ h
 |.nl k,u,_,h=>by simp only[V.ren,VR] at h ⊢;exact h
 |.og i v,u,hr,h=>by
  simp only[V.wfR] at hr
  by_cases hi:i<1000000
  ·rw[if_pos hi] at hr
   obtain⟨e1,e2⟩:=hold i hr hi
   simp only[V.ren,if_pos hi]
   simp only[VR] at h ⊢
   rw[e1,e2]
   exact h
  rw[if_neg hi] at hr
  simp only[V.ren,if_neg hi]
  simp only[Bool.and_eq_true,decide_eq_true_eq,beq_iff_eq] at hr
  obtain⟨h2,rfl⟩:=hr
  have h1:1000000≤i:=by omega
  obtain⟨o,k1,k2,k3,k4⟩:=hnew (i-1000000) (by omega)
  rw[show 1000000+(i-1000000)=i by omega] at k1 k4
  simp only[VR] at h ⊢
  obtain⟨h0,y,hy,_,h⟩:=h
  rw[k1] at hy
  cases hy
  refine⟨h0,_,k3,by cases o <;> simp [O.setv,O.ver],fun k mu l e=>?_⟩
  cases o with
  |box v' cs=>simp [O.setv] at e
  |vec v' kk cs=>simp [O.setv] at e
  |mp v' cs=>simp [O.setv] at e
  |arr v' k' mu' l' =>
   simp only[O.ver] at k2
   subst k2
   rw[k4]
   exact h k' mu' l' rfl
 |.bp i v q,u,hr,h=>by
  simp only[V.wfR] at hr
  by_cases hi:i<1000000
  ·rw[if_pos hi] at hr
   obtain⟨e1,e2⟩:=hold i hr hi
   simp only[V.ren,if_pos hi]
   simp only[VR] at h ⊢
   rw[e1,e2]
   exact h
  rw[if_neg hi] at hr
  simp only[V.ren,if_neg hi]
  simp only[Bool.and_eq_true,decide_eq_true_eq,beq_iff_eq] at hr
  obtain⟨h2,rfl⟩:=hr
  have h1:1000000≤i:=by omega
  obtain⟨o,k1,k2,k3,k4⟩:=hnew (i-1000000) (by omega)
  rw[show 1000000+(i-1000000)=i by omega] at k1 k4
  simp only[VR] at h ⊢
  obtain⟨h0,y,hy,_,h⟩:=h
  rw[k1] at hy
  cases hy
  refine⟨h0,_,k3,by cases o <;> simp [O.setv,O.ver],fun cs e=>?_⟩
  cases o with
  |arr v' k' mu' l'=>simp [O.setv] at e
  |vec v' kk cs=>simp [O.setv] at e
  |mp v' cs=>simp [O.setv] at e
  |box v' cs' =>
   simp only[O.ver] at k2
   subst k2
   rw[k4]
   exact h cs' rfl
 |.ag l,u,hr,h=>by
  simp only[V.ren,VR] at h ⊢
  obtain⟨vs,e,h1,h2⟩:=h
  exact⟨vs,e,rens_ok hS hold hnew l vs (by simpa only[V.wfR] using hr) h1,h2⟩
 |.tu l,u,hr,h=>by
  simp only[V.ren,VR] at h ⊢
  obtain⟨vs,e,h1⟩:=h
  exact⟨vs,e,rens_ok hS hold hnew l vs (by simpa only[V.wfR] using hr) h1⟩
 |.un,u,hr,h=>by simp [V.wfR] at hr
 |.z0,u,hr,h=>by simp [V.wfR] at hr
 |.ub,u,hr,h=>by simp [V.wfR] at hr
 |.ep _ _ _ _,u,hr,h=>by simp [V.wfR] at hr
 |.fp _ _,u,hr,h=>by simp [V.wfR] at hr
 |.cl _ _,u,hr,h=>by simp [V.wfR] at hr
 |.vg _ _,u,hr,h=>by simp [V.wfR] at hr
 |.vp _ _ _,u,hr,h=>by simp [V.wfR] at hr
 |.ot _ _ _,u,hr,h=>by simp [V.wfR] at hr
 |.mh _ _,u,hr,h=>by simp [V.wfR] at hr
 |.fx _ _,u,hr,h=>by simp [V.wfR] at hr
theorem rens_ok (hS:∀ k,S' k→S2 k) (hold:∀ i,inU bx i=true→i<1000000→m2 i=os i∧hd2 i=hd' i) (hnew:∀ j,j<n→∃ o,os (1000000+j)=some o∧o.ver=0∧m2 (b+j)=some (o.setv (nv m (b+j)))∧hd2 (b+j)=hd' (1000000+j)):∀ (r:List V) (us:List Value),V.wfRs bx n r=true→VRs os hd' w' S' r us→VRs m2 hd2 w' S2 (V.rens b m r) us
 |[],us,_,h=>by simp only[V.rens,VRs] at h ⊢;exact h
 |x :: l,us,hr,h=>by
  simp only[V.wfRs,Bool.and_eq_true] at hr
  simp only[V.rens,VRs] at h ⊢
  obtain⟨u,r,e,h1,h2⟩:=h
  exact⟨u,r,e,ren_ok hS hold hnew x u hr.1 h1,rens_ok hS hold hnew l r hr.2 h2⟩
end
end
end Go.Proofs.YticdbambknflgaaGreat.Sim
end
