/- Operations that are looked at in their own way: of no program. Conditions: none. -/
import Derived.Test.YticdbambknflgaaGreatMSimK
import Derived.Carry
import Derived.Test.YticdbambknflgaaGreatMBytes
namespace Go.Proofs.YticdbambknflgaaGreat.Sim
open Go Go.RowKit Go.Deep
set_option linter.unusedVariables false
section
variable {P:Program} {X:Nat→Prop} {B:Nat} {o:Oper} {a:Act} {m m0:M} {hd:H} {w:World} {S:Nat→Prop} {v:V} {us:U} {vs:List V} {d:Nat} {u1 u2 u3:Value}
theorem ok_bslv (hm:Mem m hd w S X B) {t e:TypeId} {n by_ q:Nat} {ps:Array (Nat × Operand)} (ho:o.op=.buildSlice t n ps) (he:elemOf' P t=some (e,1,by_)) (hz:zcs P e=some [.nl q]) (hnk:n≤1000) (hps:ps.toList.map (·.1)=List.range n)
  (hv:VRs m hd w S vs ((ps.toList.map (·.2)).map a.eval)) (hs:semBslv n d m vs=some (v,us)):StepOK P X B o a m hd w S v us:=by
 simp only[semBslv] at hs
 split at hs
 ·rename_i hc
  cases hs
  obtain⟨hone,hrun⟩:=run_blt (P:=P) (w:=w) ho he hz (by omega) hps hv hc
  generalize hxs:(ps.toList.map (·.2)).map a.eval=xs at hone hrun hv
  have hl:=hv.len
  have hn:=hc.2
  have ho':=out_upd (w':=w.alloc (.cells xs.toArray e)) hm d (.vec (nv m d) 1 vs) (.slice (some ⟨w.heap.size,0,none⟩) n n) (by simp) rfl rfl rfl (fun b hb _=>Below.heap_alloc w _ b hb)
   (fun oo hoo=>⟨by simp [nv,hoo,O.ver],fun e=>by simp [nv,hoo,O.ver] at e⟩) (fun b hb _=>.inl (by cases n <;> simp [Sim.blk] at hb;omega))
   (fun hle hk=>by
    simp only[O.is]
    refine⟨xs,VRs.keep hle hk _ _ hv,hone,?_⟩
    rcases Nat.eq_zero_or_pos n with h0|h0
    ·exact .inl ⟨_,by rw[h0],by omega⟩
    ·refine .inr ⟨w.heap.size,0,n,n,rfl,h0,.inl hm.base,by simp,fun hb=>by have:=hm.lt _ hb;omega,Nat.le_refl _,by unfold maxLen;omega,fun j hj=>?_,range_new w xs e,by omega⟩
     rw[Nat.zero_add,World.cell?_alloc_new,World.frozen?_alloc_new]
     exact⟨by rw[Nat.mul_one] at hj;simp [hl,hn,hj],rfl⟩)
  refine⟨_,_,_,S,hrun,ho',.inl ⟨_,rfl,?_⟩⟩
  simp only[VR,ups]
  exact⟨rfl,_,up_same _ _ _,Nat.le_refl _,fun _ cs' _=>(up_same _ _ _).symm⟩
 ·cases hs
theorem ok_bslw (hm:Mem m hd w S X B) {t e:TypeId} {k by_:Nat} {z:List V} {ps:Array (Nat × Operand)} (ho:o.op=.buildSlice t 1 ps) (he:elemOf' P t=some (e,k,by_)) (hz:zcs P e=some z) (hk0:0<k) (hk9:k≤1000) (hps:ps.toList.map (·.1)=[0])
  (hv:VRs m hd w S vs ((ps.toList.map (·.2)).map a.eval)) (hs:semBslw k d m vs=some (v,us)):StepOK P X B o a m hd w S v us:=by
 unfold semBslw at hs
 split at hs
 ·rename_i x
  split at hs
  ·rename_i hc
   cases hs
   obtain⟨inf,hu,hi,hsz,hby⟩:=elem_ok he
   obtain⟨inf',zu,hi',hzero,hzok,hzl⟩:=zcs_ok hz
   rw[hi] at hi'
   cases hi'
   obtain⟨p,hp⟩:∃ p,ps.toList=[p]:=by
    match h:ps.toList with
    |[]=>rw[h] at hps;cases hps
    |[p]=>exact⟨p,rfl⟩
    |p :: q :: r=>rw[h] at hps;simp at hps
   obtain⟨pi,px⟩:=p
   have hpi:pi=0:=by rw[hp] at hps;simpa using hps
   subst hpi
   rw[hp] at hv
   simp only[List.map_cons,List.map_nil,VRs] at hv
   obtain⟨u,r,he1,hx,hr0⟩:=hv
   obtain⟨rfl,rfl⟩:=List.cons.inj he1
   have hgood:=hx.good hc.1
   have hcl:(a.eval px).cells.toList.length=k:=by have:=hgood.1.len;omega
   have hzul:zu.cells.size=k:=by
    have:=(zD_ok (w:=w) (S:=S) hzok).len
    simp [zD,hzl,hsz] at this
    exact this
   have hpa:ps=#[(0,px)]:=by apply Array.ext';simpa using hp
   have hzc:zu.cells.toList.length=k:=by simpa using hzul
   have hml:=made_list zu.cells.toList (by omega) 1
   rw[Array.toArray_toList,hzc] at hml
   have hk1:¬ (1*k=0):=by omega
   have hmade:((Array.range (1*k)).map fun j=>zu.cells[j % zu.cells.size]!)=zu.cells:=by
    apply Array.ext'
    refine Eq.trans ?_ (hml.trans (by simp))
    rfl
   have hfold:=fold_splice (c:=(a.eval px).cells.toList) (xs:=zu.cells.toList) (off:=0*k) (by omega)
   rw[Array.toArray_toList,Array.toArray_toList] at hfold
   have hsp:splice zu.cells.toList (0*k) (a.eval px).cells.toList=(a.eval px).cells.toList:=by
    unfold splice
    rw[Nat.zero_mul,List.take_zero,Nat.zero_add,List.drop_of_length_le (by omega)]
    simp
   rw[hsp] at hfold
   have hcs:(a.eval px).cells.size=k:=by simpa using hcl
   have hfill:Instr.fill (fun i=>some (i*k,k)) zu.cells (#[(0,px)].map fun (p:Nat × Operand)=>(p.1,a.eval p.2)).toList=some (a.eval px).cells:=by
    have h3:((a.eval px).cells.zipIdx.foldl (fun (cs:Array Value) (p:Value × Nat)=>cs.setIfInBounds (0*k+p.2) p.1) zu.cells)=(a.eval px).cells:=Array.ext' hfold
    simp only[List.map_toArray,List.map_cons,List.map_nil,Instr.fill]
    rw[if_neg (by simp;omega),h3]
   have hrun:(execOp a.eval o).run P w=.ok (.value (.slice (some ⟨w.heap.size,0,none⟩) 1 1)) (w.alloc (.cells (a.eval px).cells.toList.toArray e)):=by
    rw[Array.toArray_toList]
    have hbig:¬ (1*k > 2 ^ 24):=by omega
    simp only[execOp,ho,Instr.buildSlice,Sem.run_bind,run_underlying hu,Result.andThen_ok,sizeOf,typeInfo,run_program,hi,Sem.run_pure,hsz,hbig,if_false]
    simp only[hk1,if_false,zeroValue,typeInfo,Sem.run_bind,run_program,hi,hzero,Sem.run_pure,Result.andThen_ok] at hmade ⊢
    rw[hmade,hpa,hfill]
    simp [newRow]
   have ho':=out_upd (w':=w.alloc (.cells (a.eval px).cells.toList.toArray e)) hm d (.vec (nv m d) k x.cells) (.slice (some ⟨w.heap.size,0,none⟩) 1 1) (by simp) rfl rfl rfl (fun b hb _=>Below.heap_alloc w _ b hb)
    (fun oo hoo=>⟨by simp [nv,hoo,O.ver],fun e=>by simp [nv,hoo,O.ver] at e⟩) (fun b hb _=>.inl (by simp [Sim.blk] at hb;omega))
    (fun hle hk=>by
     simp only[O.is]
     refine⟨(a.eval px).cells.toList,VRs.keep hle hk _ _ hgood.1,hgood.2,?_⟩
     refine .inr ⟨w.heap.size,0,1,1,rfl,by omega,.inl hm.base,by simp,fun hb=>by have:=hm.lt _ hb;omega,Nat.le_refl _,by unfold maxLen;omega,fun j hj=>?_,range_new w _ e,by rw[hc.2,Nat.one_mul]⟩
     rw[Nat.zero_add,World.cell?_alloc_new,World.frozen?_alloc_new]
     exact⟨by simp at hcl ⊢;omega,rfl⟩)
   refine⟨_,_,_,S,hrun,ho',.inl ⟨_,rfl,?_⟩⟩
   simp only[VR,ups]
   exact⟨rfl,_,up_same _ _ _,Nat.le_refl _,fun _ cs' _=>(up_same _ _ _).symm⟩
  ·cases hs
 ·cases hs
theorem ok_tail (hm:Mem m hd w S X B) {t e:TypeId} {inf:TypeInfo} {x lo:Operand} (ho:o.op=.slice t x (some lo) none none) (hu:P.underlying t=some (.slice e)) (hi':P.info? e=some inf)
  (hv:VRs m hd w S vs [a.eval x,a.eval lo]) (hs:semTail inf.size m vs=some (v,us)) (hp:preTail m vs):StepOK P X B o a m hd w S v us:=by
 obtain⟨p,q,rfl,h,h'⟩:=hv.inv2
 unfold semTail at hs
 split at hs
 ·rename_i i ver kk n hh
  cases hh
  split at hs
  ·rename_i v' k' l hmi
   split at hs
   ·rename_i hc
    obtain⟨rfl,rfl⟩:=hc
    cases hs
    simp only[preTail,hmi] at hp
    have e2:=h'.at_
    have e1:=og_ok h hmi
    obtain⟨ad,cap,hh,hle,_,had,_⟩:=arr_head hm hmi
    obtain⟨g,off,rfl⟩:=had (by omega)
    obtain⟨m',hr,k1,k2,k3,k4,k5,k6,k7⟩:=bounds_run (P:=P) (w:=w) (lo:=some (a.eval lo)) (hi:=none) (mx:=none) (b:=(some n,none,none)) true (by rw[e2];constructor) .none .none (by simp only[okB];omega) hle
    have km:=k6 rfl
    subst km
    simp only[bl,bh,Option.getD_some] at hr
    refine StepOK.pure hm (u:=.slice (some ⟨g,off+n.toNat*inf.size,none⟩) (l.length-n.toNat) (m'-n.toNat)) ?_ ?_
    ·have hne:¬ m'=n.toNat:=by omega
     simp [execOp,ho,e1,hh,Instr.sliceAt,Instr.slice,run_underlying hu,hr,sizeOf,typeInfo,hi',hne,Addr.add_mid]
    ·simp only[VR]
     exact⟨rfl,_,hmi,Nat.le_refl _,fun k mu l' e=>by cases e;exact⟨g,off,l.length,m',hh,by omega,rfl⟩⟩
   ·cases hs
  ·cases hs
 ·cases hs
theorem ok_fxc (hm:Mem m hd w S X B) {t e:TypeId} {inf:TypeInfo} {x hi mx:Operand} (ho:o.op=.slice t x none (some hi) (some mx)) (hu:P.underlying t=some (.slice e)) (hi':P.info? e=some inf)
  (hv:VRs m hd w S vs [a.eval x,a.eval hi,a.eval mx]) (hs:semFxc inf.size vs=some (v,us)) (hp:preFxc vs):StepOK P X B o a m hd w S v us:=by
 obtain⟨p,q,r,rfl,h,h',h''⟩:=hv.inv3
 unfold semFxc at hs
 split at hs
 ·rename_i k' l kk n kk' n' hh
  cases hh
  split at hs
  ·rename_i hc
   subst hc
   cases hs
   simp only[preFxc] at hp
   obtain⟨hp0,rfl,hp1⟩:=hp
   have e2:=h'.at_
   have e3:=h''.at_
   simp only[VR] at h
   have hdl:=h
   simp only[D.is] at h
   obtain⟨ad,cap,xs,e1,hle,hcm,hrow,hra⟩:=h
   have hr:=cut_run (P:=P) (w:=w) (k:=kk) (k':=kk') hp0 rfl hp1 hle
   have hadd:Option.map (fun x=>x.add 0) ad=ad:=by
    cases ad <;> simp [Addr.add]
   have hrun:(execOp a.eval o).run P w=.ok (.value (.slice ad n.toNat n.toNat)) w:=by
    simp [execOp,ho,e1,e2,e3,Instr.sliceAt,Instr.slice,run_underlying hu,hr,sizeOf,typeInfo,hi',hadd]
   have hlen:(l.take n.toNat).length=n.toNat:=by rw[List.length_take];omega
   refine StepOK.pure hm (u:=.slice ad n.toNat n.toNat) hrun ?_
   simp only[VR,D.is]
   rw[hlen]
   refine⟨⟨ad,n.toNat,xs.take (n.toNat*inf.size),rfl,Nat.le_refl _,by omega,hrow.take n.toNat,fun h0=>?_⟩,ad,rfl⟩
   obtain⟨g,off,h1,h2,h3⟩:=hra (by omega)
   refine⟨g,off,h1,h2,fun j u hu=>h3 j u ?_⟩
   rw[List.getElem?_take] at hu
   split at hu
   ·exact hu
   ·cases hu
  ·cases hs
 ·cases hs
theorem ok_cutm (hm:Mem m hd w S X B) {t e:TypeId} {inf:TypeInfo} {x hi mx:Operand} (ho:o.op=.slice t x none (some hi) (some mx)) (hu:P.underlying t=some (.slice e)) (hi':P.info? e=some inf)
  (hv:VRs m hd w S vs [a.eval x,a.eval hi,a.eval mx]) (hs:semCutm inf.size m vs=some (v,us)) (hp:preCutm m vs):StepOK P X B o a m hd w S v us:=by
 obtain⟨p,q,r,rfl,h,h',h''⟩:=hv.inv3
 unfold semCutm at hs
 split at hs
 ·rename_i i ver kk n kk' n' hh
  cases hh
  split at hs
  ·rename_i v' k' l hmi
   split at hs
   ·rename_i hc
    obtain⟨rfl,rfl⟩:=hc
    cases hs
    simp only[preCutm,hmi] at hp
    have e2:=h'.at_
    have e3:=h''.at_
    have e1:=og_ok h hmi
    obtain⟨ad,cap,hh,hle,_,had,_⟩:=arr_head hm hmi
    obtain⟨m',hr,k1,k2,k3,k4,k5,k6,k7⟩:=bounds_run (P:=P) (w:=w) (lo:=none) (hi:=some (a.eval hi)) (mx:=some (a.eval mx)) (b:=(none,some n,some n')) true .none (by rw[e2];constructor) (by rw[e3];constructor) (by simp only[okB];omega) hle
    simp only[bl,bh,Option.getD_none,Int.toNat_zero] at hr k1 k2 k3
    have hadd:(if m'=0 then ad else Option.map (fun x=>x.add (0*inf.size)) ad)=ad:=by
     split
     ·rfl
     ·cases ad <;> simp [Addr.add]
    have hrun:(execOp a.eval o).run P w=.ok (.value (.slice ad n.toNat m')) w:=by
     have:=hadd
     simp only[Nat.zero_mul] at this
     simp [execOp,ho,e1,hh,Instr.sliceAt,Instr.slice,run_underlying hu,hr,sizeOf,typeInfo,hi',this]
    have hoi:=hm.obj i _ hmi
    simp only[O.is,if_true] at hoi
    obtain⟨xs,hrow,hoi⟩:=hoi
    have harr:Arr w B X S inf.size (.slice ad n.toNat m') (l.take n.toNat):=by
     rcases Nat.eq_zero_or_pos m' with h0|h0
     ·have hn0:n.toNat=0:=by omega
      rw[hn0,h0]
      exact⟨[],by simp [Rows],.inl ⟨ad,rfl,by simp⟩⟩
     ·rcases hoi with ⟨ad',hg,rfl⟩|⟨g,off,cap',hg,hc0,hB,hlt,hT,hn',hcm,hth,hra⟩
      ·rw[hh] at hg
       cases hg
       omega
      ·rw[hh] at hg
       cases hg
       have hmk:m'*inf.size≤cap*inf.size:=Nat.mul_le_mul_right _ k4
       exact⟨_,Rows.take n.toNat hrow,.inr ⟨g,off,m',by rw[List.length_take,Nat.min_eq_left k2],h0,hB,hlt,hT,by rw[List.length_take];omega,by omega,fun j hj=>hth j (by omega),fun j u hu=>hra j u (by
        rw[List.getElem?_take] at hu
        split at hu
        ·exact hu
        ·cases hu)⟩⟩
    have ho':=out_upd (w':=w) hm i (.arr (v'+1) inf.size true (l.take n.toNat)) (.slice ad n.toNat m') (Nat.le_refl _) rfl rfl rfl (fun b hb hne=>rfl)
     (fun oo hoo=>by rw[hmi] at hoo;cases hoo;exact⟨Nat.le_succ _,fun e=>by simp [O.ver] at e⟩) (fun b hb _=>.inr ⟨_,hmi,rfl,by rw[hh];cases ad <;> cases m' <;> cases cap <;> simp_all [blk]⟩)
     (fun hl hk=>by simp only[O.is,if_true];exact harr)
    refine⟨_,w,up hd i (.slice ad n.toNat m'),S,hrun,ho',.inl ⟨_,rfl,?_⟩⟩
    simp only[VR,ups]
    exact⟨rfl,_,up_same _ _ _,Nat.le_refl _,fun k' mu' l' e=>by rw[up_same]⟩
   ·cases hs
  ·cases hs
 ·cases hs
/-! ### Maps from numbers to truths -/
theorem isMap_ok {t:TypeId} (h:isMap P t=true):∃ kt et i,P.underlying t=some (.map kt et)∧P.underlying kt=some (.int .i64)∧P.info? et=some i∧i.zero=some (.bool false):=by
 unfold isMap at h
 split at h
 ·rename_i kt et h1
  simp only[Bool.and_eq_true] at h
  obtain⟨h2,h3⟩:=h
  split at h2
  ·rename_i h4
   split at h3
   ·rename_i i h5
    split at h3
    ·rename_i h6;exact⟨kt,et,i,h1,h4,h5,h6⟩
    ·cases h3
   ·cases h3
  ·cases h2
 ·cases h
theorem ok_mkm (hm:Mem m hd w S X B) {t:TypeId} (ho:o.op=.makeMap t none) (hs:semMkm d m vs=some (v,us)):StepOK P X B o a m hd w S v us:=by
 unfold semMkm at hs
 split at hs
 ·cases hs
  have hrun:(execOp a.eval o).run P w=.ok (.value (.map (some w.heap.size))) (w.alloc (.map #[] 0)):=by
   simp [execOp,ho,run_makeMap]
  have ho':=out_upd (w':=w.alloc (.map #[] 0)) hm d (.mp (nv m d) []) (.map (some w.heap.size)) (by simp) rfl rfl rfl (fun b hb _=>Below.heap_alloc w _ b hb)
   (fun oo hoo=>⟨by simp [nv,hoo,O.ver],fun e=>by simp [nv,hoo,O.ver] at e⟩) (fun b hb _=>.inl (by simp [Sim.blk] at hb;omega))
   (fun hle hk=>by
    simp only[O.is]
    exact⟨w.heap.size,#[],0,rfl,.inl hm.base,by simp,fun hb=>by have:=hm.lt _ hb;omega,by show (w.heap.push _)[w.heap.size]?=_;simp,rfl⟩)
  refine⟨_,_,_,S,hrun,ho',.inl ⟨_,rfl,?_⟩⟩
  simp only[VR,ups]
  exact⟨rfl,_,up_same _ _ _,Nat.le_refl _,fun cs' _=>(up_same _ _ _).symm⟩
 ·cases hs
theorem mh_ok {i ver:Nat} {ks:List Int} {u:Value} (h:VR m hd w S (.mh i ver) u) (hi:m i=some (.mp ver ks)):u=hd i:=by
 simp only[VR] at h
 obtain⟨_,y,hy,_,h⟩:=h
 rw[hi] at hy;cases hy
 exact h ks rfl
theorem findNow_ok (n:Int):∀ {es:List MapEntry} {ks:List Int} (i:Nat),es.map (fun e=>(e.key,e.val))=(ks.map fun n=>(.int .i64 n,.bool true))→Instr.findNow (.int .i64) (.int .i64 n) es i=some (if n ∈ ks then some (i+ks.idxOf n,.bool true) else none)
 |[],[],i,_=>by simp [Instr.findNow]
 |[],_ :: _,i,h=>by simp at h
 |_ :: _,[],i,h=>by simp at h
 |e :: es,k :: ks,i,h=>by
  simp only[List.map_cons,List.cons.injEq,Prod.mk.injEq] at h
  obtain⟨⟨h1,h2⟩,h3⟩:=h
  have ih:=findNow_ok n (i+1) h3
  unfold Instr.findNow
  rw[h1]
  by_cases e:n=k
  ·subst e
   simp [Instr.sameNow,h2]
  ·have e':(n == k)=false:=by simpa using e
   have e2:¬ k=n:=fun h=>e h.symm
   simp only[Instr.sameNow,if_true,e',ih]
   by_cases hn:n ∈ ks
   ·rw[if_pos hn,if_pos (List.mem_cons_of_mem _ hn),List.idxOf_cons,show (k == n)=false by simpa using e2]
    simp only[cond_false]
    rw[show i+1+List.idxOf n ks=i+(List.idxOf n ks+1) by omega]
   ·rw[if_neg hn,if_neg (by simp [e,hn])]
theorem checkKey_run {kt:TypeId} (hk:P.underlying kt=some (.int .i64)) (b:Bool) (n:Int) (f:Nat):(Instr.checkKey b (f+1) kt (.int .i64 n)).run P w=.ok () w:=by
 simp [Instr.checkKey,run_underlying hk]
theorem findKey_run {kt:TypeId} (hk:P.underlying kt=some (.int .i64)) (n:Int) {es:List MapEntry} {ks:List Int} (h:es.map (fun e=>(e.key,e.val))=(ks.map fun n=>(.int .i64 n,.bool true))):(Instr.findKey kt (.int .i64 n) es).run P w=.ok (if n ∈ ks then some (0+ks.idxOf n,.bool true) else none) w:=by
 simp only[Instr.findKey,Sem.run_bind,run_underlying hk,Result.andThen_ok,findNow_ok n 0 h,Sem.run_pure]
theorem getObj_run {r:Nat} {es:Array MapEntry} {c:Nat} (h:w.heap[r]?=some (.map es c)):(getObj r).run P w=.ok (.map es c) w:=by
 simp [getObj,Sem.run,h]
theorem ok_lkp (hm:Mem m hd w S X B) {t:TypeId} {x y:Operand} (ho:o.op=.lookup t x y false) (ht:isMap P t=true) (hv:VRs m hd w S vs [a.eval x,a.eval y]) (hs:semLkp m vs=some (v,us)):StepOK P X B o a m hd w S v us:=by
 obtain⟨p,q,rfl,h,h'⟩:=hv.inv2
 obtain⟨kt,et,inf,h1,h2,h3,h4⟩:=isMap_ok ht
 unfold semLkp at hs
 split at hs
 ·rename_i i ver n hh
  cases hh
  split at hs
  ·rename_i v' ks hmi
   split at hs
   ·rename_i hc
    subst hc
    cases hs
    have e1:=mh_ok h hmi
    have e2:=h'.at_
    have hob:=hm.obj i _ hmi
    simp only[O.is] at hob
    obtain⟨b,es,c,e3,_,_,_,e4,e5⟩:=hob
    refine StepOK.pure hm (u:=.bool (ks.contains n)) ?_ (VR.at_mk rfl)
    have hck:=checkKey_run (P:=P) (w:=w) h2 es.isEmpty n 9999
    have hfk:=findKey_run (P:=P) (w:=w) h2 n e5
    by_cases hn:n ∈ ks
    ·rw[if_pos hn] at hfk
     simp [execOp,ho,e1,e3,e2,Instr.lookup,run_underlying h1,getObj_run e4,hck,hfk,hn]
    ·rw[if_neg hn] at hfk
     simp [execOp,ho,e1,e3,e2,Instr.lookup,run_underlying h1,getObj_run e4,hck,hfk,hn,zeroValue,typeInfo,h3,h4]
   ·cases hs
  ·cases hs
 ·cases hs
theorem ok_mup (hm:Mem m hd w S X B) {t:TypeId} {x y z:Operand} (ho:o.op=.mapUpdate t x y z) (ht:isMap P t=true) (hz:a.eval z=.bool true) (hv:VRs m hd w S vs [a.eval x,a.eval y]) (hs:semMup m vs=some (v,us)):StepOK P X B o a m hd w S v us:=by
 obtain⟨p,q,rfl,h,h'⟩:=hv.inv2
 obtain⟨kt,et,inf,h1,h2,h3,h4⟩:=isMap_ok ht
 unfold semMup at hs
 split at hs
 ·rename_i i ver n hh
  cases hh
  split at hs
  ·rename_i v' ks hmi
   split at hs
   ·rename_i hc
    obtain⟨rfl,hn⟩:=hc
    cases hs
    have e1:=mh_ok h hmi
    have e2:=h'.at_
    have hob:=hm.obj i _ hmi
    simp only[O.is] at hob
    obtain⟨b,es,c,e3,g1,g2,g3,e4,e5⟩:=hob
    have hck:=checkKey_run (P:=P) (w:=w) h2 false n 9999
    have hfk:=findKey_run (P:=P) (w:=w) h2 n e5
    have hn':¬ n ∈ ks:=by simpa using hn
    rw[if_neg hn'] at hfk
    have hrun:(execOp a.eval o).run P w=.ok .skip { w with heap:=w.heap.setIfInBounds b (.map (es.push { key:=.int .i64 n,val:=.bool true,born:=c }) (c+1)) }:=by
     simp only[execOp,ho,e1,e3,e2,hz,Instr.mapUpdate,Sem.run_bind,run_underlying h1,Result.andThen_ok,getObj_run e4,hck,hfk]
     simp [setObj,Sem.run,e4]
    have ho':=out_upd (w':={ w with heap:=w.heap.setIfInBounds b (.map (es.push { key:=.int .i64 n,val:=.bool true,born:=c }) (c+1)) }) hm i (.mp v' (ks++[n])) (hd i) (by simp) rfl rfl rfl (fun k hk hne=>by
      have:k ≠ b:=fun e=>hne _ hmi rfl (by rw[e3,e];rfl)
      simp [Ne.symm this])
     (fun oo hoo=>by rw[hmi] at hoo;cases hoo;exact⟨Nat.le_refl _,fun _=>⟨rfl,rfl⟩⟩) (fun k hk _=>.inr ⟨_,hmi,rfl,hk⟩)
     (fun hl hk=>by
      simp only[O.is]
      exact⟨b,es.push { key:=.int .i64 n,val:=.bool true,born:=c },c+1,e3,g1,by simpa using g2,g3,by simp [g2],by simp [e5]⟩)
    rw[up_id] at ho'
    exact⟨_,_,hd,S,hrun,ho',.inr ⟨rfl,rfl⟩⟩
   ·cases hs
  ·cases hs
 ·cases hs
theorem ok_ldg (hm:Mem m hd w S X B) {t:TypeId} {g:Nat} (hG:∀ g,GL.contains g=true→w.cell? ⟨g,0,none⟩=some GLV) (ho:o.op=.load t (.global g)) (hf:form P t=some (1,false)) (hs:semLdg g vs=some (v,us)):StepOK P X B o a m hd w S v us:=by
 unfold semLdg at hs
 split at hs
 ·split at hs
  ·rename_i hc
   cases hs
   have hu:=hG g hc
   have hr:=run_load_range (P:=P) (w:=w) hf (b:=g) (q:=0) (cs:=[GLV]) (fun j y hj=>by
    cases j with
    |zero=>simp only[List.getElem?_cons_zero,Option.some.injEq] at hj;subst hj;exact hu
    |succ j=>simp at hj) rfl
   refine StepOK.pure hm (u:=GLV) ?_ (by simp only[VR,D.is];exact⟨trivial,GLV_one⟩)
   have e:a.eval (.global g)=.pointer (some ⟨g,0,none⟩):=rfl
   simp [execOp,ho,e,hr]
  ·cases hs
 ·cases hs
theorem ok_ifn (hm:Mem m hd w S X B) {ne:Bool} {t t':TypeId} {fs:Array (String × TypeId)} {x y:Operand} (ho:o.op=.binOp (if ne then .neq else .eql) t x y t') (ht:P.underlying t=some (.interface fs)) (hy:isCN y=true) (hv:VRs m hd w S vs [a.eval x,a.eval y]) (hs:semIfn ne vs=some (v,us)):StepOK P X B o a m hd w S v us:=by
 obtain⟨p,q,rfl,h,h'⟩:=hv.inv2
 have hy':y=.const .nilIface:=by
  unfold isCN at hy
  split at hy
  ·rfl
  ·cases hy
 subst hy'
 unfold semIfn at hs
 split at hs
 ·rename_i hh
  cases hh
  have e1:=h.at_
  have e2:a.eval (.const .nilIface)=.nilIface:=rfl
  have he:(Op.equalIn Op.maxDepth t .nilIface .nilIface).run P w=.ok true w:=by
   show (Op.equalIn (9999+1) t .nilIface .nilIface).run P w=.ok true w
   unfold Op.equalIn
   simp [run_underlying ht]
  cases ne
  ·cases hs
   refine StepOK.pure hm (u:=.bool true) ?_ (VR.at_mk rfl)
   simp [execOp,ho,e1,e2,eqGuard,binOp,Op.equal,he]
  ·cases hs
   refine StepOK.pure hm (u:=.bool false) ?_ (VR.at_mk rfl)
   simp [execOp,ho,e1,e2,eqGuard,binOp,Op.equal,he]
 ·cases hs
theorem rows_by:∀ l:List UInt8,Rows w S 1 (l.map byU) (l.map bv)
 |[]=>by simp [Rows]
 |b :: l=>by
  simp only[List.map_cons,Rows]
  refine⟨[bv b],l.map bv,rfl,rfl,?_,rows_by l⟩
  simp only[byU,Cells,D.is]
  exact⟨_,_,rfl,⟨rfl,rfl⟩,rfl⟩
theorem rows_by_inv:∀ {l:List UInt8} {xs:List Value},Rows w S 1 (l.map byU) xs→xs=l.map bv
 |[],xs,h=>by simpa [Rows] using h
 |b :: l,xs,h=>by
  simp only[List.map_cons,Rows] at h
  obtain⟨a,r,rfl,_,hc,hr⟩:=h
  rw[rows_by_inv hr]
  simp only[byU,Cells,D.is] at hc
  obtain⟨x,r',rfl,⟨rfl,_⟩,rfl⟩:=hc
  rfl
theorem run_str {l:List UInt8} {u:Value} {ad:Option Addr} {cap:Nat} (src e dst:TypeId) (hs:P.underlying src=some (.slice e)) (he:P.underlying e=some (.int .u8)) (hd:P.underlying dst=some .string)
  (hu:u=.slice ad l.length cap) (hr:0<l.length→∃ g off,ad=some ⟨g,off,none⟩∧w.rangeAt g off (l.map bv)):(convert src dst u).run P w=.ok (.string ⟨l.toArray⟩) w:=by
 subst hu
 rcases Nat.eq_zero_or_pos l.length with h0|h0
 ·have hx:l=[]:=List.eq_nil_of_length_eq_zero h0
  subst hx
  cases ad with
  |none=>exact run_convert_bytes_nil w src e hs he 0 cap dst hd
  |some a =>
   rw[List.length_nil,run_convert_bytes_string w src dst e _ 0 cap hs he hd,run_bytesToString w a 0 cap [] (by have:=run_loadCells_list (P:=P) w a [] (fun j v hj=>by simp at hj);simpa using this)]
   rfl
 ·obtain⟨g,off,rfl,hr'⟩:=hr h0
  have:=run_convert_bytes_arg (P:=P) w src e hs he g off l.length cap (l.map fun x=>(x.toNat:Int)) (by simp) (fun i hi=>by
   have hx:(l.map bv)[i]?=some (bv l[i]):=by simp [hi]
   rw[hr' i _ hx]
   simp [List.getD,hi,bv]) dst hd
  rw[this]
  have e1:strOfNums (l.map fun x=>(x.toNat:Int))=⟨l.toArray⟩:=by
   unfold strOfNums
   congr 1
   simp [Function.comp_def]
  rw[e1]
theorem ok_tob (hm:Mem m hd w S X B) {t s e:TypeId} {x:Operand} (ho:o.op=.convert s t x) (hs':P.underlying s=some .string) (ht:P.underlying t=some (.slice e)) (he:P.underlying e=some (.int .u8))
  (hv:VRs m hd w S vs [a.eval x]) (hs:semTob d m vs=some (v,us)) (hp:preTob vs):StepOK P X B o a m hd w S v us:=by
 obtain⟨p,rfl,h⟩:=hv.inv1
 unfold semTob at hs
 split at hs
 ·rename_i s0 hh
  cases hh
  cases hs
  simp only[preTob] at hp
  have e1:=h.at_
  have hs0:s0=⟨s0.data.toList.toArray⟩:=by cases s0;simp
  generalize s0.data.toList=l at *
  subst hs0
  have hrun:=Lib.run_convert_string_bytes (P:=P) w s t e ⟨l.toArray⟩ hs' ht he
  have hown:=own_bytes (w:=w) (e:=e) (s:=l) (by unfold maxLen;omega)
  obtain⟨_,hown⟩:=hown
  have hsz:(⟨l.toArray⟩:ByteArray).size=l.length:=rfl
  rw[hsz] at hrun
  generalize hcap:grownCap w l.length 0 e=cap at *
  have ho':=out_upd (w':=Lib.bytesWorld w e ⟨l.toArray⟩) hm d (.arr (nv m d) 1 true (l.map byU)) (.slice (some ⟨w.heap.size,0,none⟩) l.length cap) (by rw[Lib.bytesWorld_size];omega) rfl rfl rfl (fun b hb _=>Lib.bytesWorld_at_old w e _ b hb)
   (fun oo hoo=>⟨by simp [nv,hoo,O.ver],fun e=>by simp [nv,hoo,O.ver] at e⟩) (fun b hb _=>.inl (by cases cap <;> simp [Sim.blk] at hb;omega))
   (fun hle hk=>by
    simp only[O.is,if_true]
    refine⟨l.map bv,rows_by l,?_⟩
    rcases hown with ⟨h1,_⟩|⟨g,off,cap',h1,h2,h3,h4,h5,h6,h7⟩
    ·cases h1
    ·cases h1
     rcases Nat.eq_zero_or_pos cap with h0|h0
     ·subst h0
      have:l=[]:=List.eq_nil_of_length_eq_zero (by omega)
      subst this
      exact .inl ⟨_,rfl,rfl⟩
     ·exact .inr ⟨_,_,_,by rw[List.length_map],h0,.inl hm.base,h3,fun hb=>by have:=hm.lt _ hb;omega,by rw[List.length_map];exact h4,h5,h6,h7⟩)
  have hr:(execOp a.eval o).run P w=.ok (.value (.slice (some ⟨w.heap.size,0,none⟩) l.length cap)) (Lib.bytesWorld w e ⟨l.toArray⟩):=by simp [execOp,ho,e1,hrun]
  refine⟨_,_,_,S,hr,ho',.inl ⟨_,rfl,?_⟩⟩
  simp only[VR,ups]
  refine⟨rfl,_,up_same _ _ _,Nat.le_refl _,fun k' mu' l' e=>by rw[up_same]⟩
 ·cases hs
theorem ok_tos (hm:Mem m hd w S X B) {t s e:TypeId} {x:Operand} (ho:o.op=.convert s t x) (hs':P.underlying s=some (.slice e)) (ht:P.underlying t=some .string) (he:P.underlying e=some (.int .u8))
  (hv:VRs m hd w S vs [a.eval x]) (hs:semTos m vs=some (v,us)):StepOK P X B o a m hd w S v us:=by
 obtain⟨p,rfl,h⟩:=hv.inv1
 simp only[semTos] at hs
 split at hs
 ·rename_i ns hns
  split at hs
  ·rename_i l hl
   cases hs
   have:=unBy_ok hl
   subst this
   obtain⟨xs,hrow,_,ad,cap,hu,hr⟩:=news_ok hm hs' h hns
   have:=rows_by_inv hrow
   subst this
   refine StepOK.pure hm (u:=.string ⟨l.toArray⟩) ?_ ?_
   ·simp [execOp,ho,run_str s e t hs' he ht (by simpa using hu) (fun h0=>hr (by simpa using h0))]
   ·exact VR.at_mk rfl
  ·cases hs
 ·cases hs
end
end Go.Proofs.YticdbambknflgaaGreat.Sim
