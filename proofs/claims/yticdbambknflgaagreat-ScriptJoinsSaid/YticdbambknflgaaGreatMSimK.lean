/- Composite slices, parts of slices, copies: of no program. Conditions: none. -/
import Derived.Test.YticdbambknflgaaGreatMSimI
section
namespace Go.Proofs.YticdbambknflgaaGreat.Sim
open Go Go.RowKit Go.Deep
set_option linter.unusedVariables false
section
variable {P:Program} {X:Nat→Prop} {B:Nat} {o:Oper} {a:Act} {m m0:M} {hd:H} {w:World} {S:Nat→Prop} {v:V} {us:U} {vs:List V} {d:Nat} {u1 u2 u3:Value}
theorem ok_fad (hm:Mem m hd w S X B) {t:TypeId} {fs:Array Field} {j:Nat} {f:Field} {inf:TypeInfo} {x:Operand} (ho:o.op=.fieldAddr t x j) (hu:P.underlying t=some (.struct fs)) (hf:fs[j]?=some f) (hi:P.info? f.type=some inf) (h0:0<inf.size)
  (hv:VRs m hd w S vs [a.eval x]) (hs:semFad f.offset m vs=some (v,us)):StepOK P X B o a m hd w S v us:=by
 obtain⟨y,rfl,h⟩:=hv.inv1
 have key:∀ g q,a.eval x=.pointer (some ⟨g,q,none⟩)→(execOp a.eval o).run P w=.ok (.value (.pointer (some ⟨g,q+f.offset,none⟩))) w:=by
  intro g q e
  have hsz:¬ inf.size=0:=by omega
  simp [execOp,ho,e,Instr.fieldAt,run_underlying hu,hf,Instr.sureAddr,fieldPlace,sizeOf,typeInfo,hi,hsz,Addr.add_mid]
 unfold semFad at hs
 split at hs
 ·rename_i i ver q e
  cases e
  split at hs
  ·rename_i hc
   cases hs
   obtain⟨b,e1,e⟩:=curB_ok h hc
   obtain⟨cs,hcs⟩:=curB_get hc
   exact StepOK.pure hm (key _ _ e) (bp_mk hcs e1)
  ·cases hs
 ·rename_i i ver e' q e
  cases e
  split at hs
  ·rename_i hc
   cases hs
   obtain⟨k,mu,l,g,off,n,cap,e1,e2,e⟩:=curA_ep h hc
   have:=ep_mk (w:=w) (S:=S) (e:=e') (q:=q+f.offset) e1 e2
   rw[← Nat.add_assoc] at this
   exact StepOK.pure hm (key _ _ e) this
  ·cases hs
 ·rename_i cs q e
  cases e
  cases hs
  simp only[VR] at h
  obtain⟨g,off,xs,e,h1,h2,h3⟩:=h
  refine StepOK.pure hm (key _ _ e) ?_
  simp only[VR]
  exact⟨g,off,xs,by rw[Nat.add_assoc],h1,h2,h3⟩
 ·rename_i i ver e' e
  cases e
  split at hs
  ·rename_i hc
   cases hs
   unfold curV at hc
   split at hc
   ·rename_i v' k cs hmi
    obtain rfl:v'=ver:=by simpa using hc
    obtain⟨g,off,n,cap,e1,e2⟩:=vp_ok h hmi
    refine StepOK.pure hm (key _ _ e2) ?_
    simp only[VR]
    exact⟨rfl,_,hmi,Nat.le_refl _,fun _ _ _=>⟨g,off,n,cap,e1,by rw[Nat.add_assoc]⟩⟩
   ·cases hc
  ·cases hs
 ·cases hs
theorem run_part_range {t:TypeId} {n:Nat} {g:Bool} (h:form P t=some (n,g)) {cs:List Value} {off:Nat} (hle:off+n≤cs.length) :
  (part t cs.toArray off).run P w=.ok (if g then .agg ((cs.drop off).take n).toArray else ((cs.drop off).take n).headD undef) w:=by
 obtain⟨i,dd,h1,h2,h3,h4,h5⟩:=form_ok h
 cases g with
 |true =>
  have hagg:(isAgg t).run P w=.ok true w:=by
   unfold isAgg
   rw[Sem.run_bind,run_underlying h2 w]
   cases dd <;> simp_all
  simp [part,hagg,sizeOf,typeInfo,h1,h3]
 |false =>
  have hl:=h5 rfl
  have hagg:(isAgg t).run P w=.ok false w:=by
   unfold isAgg
   rw[Sem.run_bind,run_underlying h2 w]
   cases dd <;> simp_all
  have hlt:off<cs.length:=by omega
  have e:((cs.drop off).take n).headD undef=cs[off]:=by
   rw[hl,List.drop_eq_getElem_cons hlt]
   rfl
  have e2:(part t cs.toArray off).run P w=.ok cs[off] w:=by simp [part,hagg,hlt]
  rw[e2,e]
  rfl
theorem ok_fld (hm:Mem m hd w S X B) {t:TypeId} {fs:Array Field} {j n:Nat} {g:Bool} {f:Field} {x:Operand} (ho:o.op=.field t x j) (hu:P.underlying t=some (.struct fs)) (hf:fs[j]?=some f) (hi:form P f.type=some (n,g))
  (hv:VRs m hd w S vs [a.eval x]) (hs:semFld f.offset n g vs=some (v,us)):StepOK P X B o a m hd w S v us:=by
 obtain⟨y,rfl,h⟩:=hv.inv1
 unfold semFld at hs
 split at hs
 ·rename_i l e
  cases e
  split at hs
  ·rename_i hle
   cases hs
   simp only[VR] at h
   obtain⟨xs,e,h1,h2⟩:=h
   have hl:=h1.len
   refine StepOK.pure hm ?_ (VRs.mk ((h1.drop f.offset).take n) (n:=n) (by simp;omega) (fun y hy=>h2 y (List.mem_of_mem_drop (List.mem_of_mem_take hy))) (form_ok hi).choose_spec.choose_spec.2.2.2.2)
   simp [execOp,ho,e,Instr.field,run_underlying hu,hf,asAgg,run_part_range hi (cs:=xs) (off:=f.offset) (by omega)]
  ·cases hs
 ·cases hs
theorem ok_ixa (hm:Mem m hd w S X B) {t e:TypeId} {c k:Nat} {g:Bool} {x y:Operand} (ho:o.op=.index t x y) (hu:P.underlying t=some (.array c e)) (hi:form P e=some (k,g))
  (hv:VRs m hd w S vs [a.eval x,a.eval y]) (hs:semIxa c k g vs=some (v,us)) (hp:preIxa c vs):StepOK P X B o a m hd w S v us:=by
 obtain⟨p,q,rfl,h,h'⟩:=hv.inv2
 unfold semIxa at hs
 split at hs
 ·rename_i l kk n hh
  cases hh
  split at hs
  ·rename_i hle
   cases hs
   simp only[preIxa] at hp
   have e2:=h'.at_
   simp only[VR] at h
   obtain⟨xs,e1,h1,h2⟩:=h
   have hl:=h1.len
   obtain⟨i,dd,g1,g2,g3,g4,g5⟩:=form_ok hi
   have hmul:(n.toNat+1)*k≤c*k:=Nat.mul_le_mul_right _ hp.2
   rw[Nat.add_mul,Nat.one_mul] at hmul
   refine StepOK.pure hm ?_ (VRs.mk ((h1.drop (n.toNat*k)).take k) (n:=k) (by simp;omega) (fun y hy=>h2 y (List.mem_of_mem_drop (List.mem_of_mem_take hy))) g5)
   have hb:0≤n∧n<c:=by omega
   simp [execOp,ho,e1,e2,Instr.index,asIntOf,run_underlying hu,hb,sizeOf,typeInfo,g1,g3,run_part_range hi (cs:=xs) (off:=n.toNat*k) (by omega)]
  ·cases hs
 ·cases hs
theorem ok_iad (hm:Mem m hd w S X B) {t e:TypeId} {inf:TypeInfo} {x y:Operand} (ho:o.op=.indexAddr t x y) (hu:P.underlying t=some (.slice e)) (hi:P.info? e=some inf)
  (hv:VRs m hd w S vs [a.eval x,a.eval y]) (hs:semIad inf.size m vs=some (v,us)) (hp:preIad inf.size m vs):StepOK P X B o a m hd w S v us:=by
 obtain⟨p,q,rfl,h,h'⟩:=hv.inv2
 have key:∀ g off len cap kk (n:Int),a.eval x=.slice (some ⟨g,off,none⟩) len cap→a.eval y=.int kk n→0≤n→n.toNat<len→(execOp a.eval o).run P w=.ok (.value (.pointer (some ⟨g,off+n.toNat*inf.size,none⟩))) w:=by
  intro g off len cap kk n e1 e2 h0 hlt
  have hb:0≤n∧n<len:=by omega
  simp [execOp,ho,e1,e2,Instr.indexAt,asIntOf,run_underlying hu,hb,sizeOf,typeInfo,hi,Addr.add_mid]
 unfold semIad at hs
 split at hs
 ·rename_i k l kk n hh
  cases hh
  split at hs
  ·rename_i hk
   subst hk
   cases hs
   simp only[preIad] at hp
   have e2:=h'.at_
   simp only[VR,D.is] at h
   obtain⟨ad,cap,xs,e1,hle,hcap,hrow,hr⟩:=h
   obtain⟨g,off,rfl,hS,hra⟩:=hr (by omega)
   obtain⟨hl,cs,hcs,hsub⟩:=hrow.get hp.2
   refine StepOK.pure hm (key _ _ _ _ _ _ e1 e2 hp.1 hp.2) ?_
   simp only[VR]
   exact⟨g,off+n.toNat*inf.size,cs,by simp,hS,fun j u hu=>by have:=hra _ u (hsub j u hu);rwa [← Nat.add_assoc] at this,hcs⟩
  ·cases hs
 ·rename_i i ver kk n hh
  cases hh
  cases hs
  simp only[preIad] at hp
  split at hp
  ·rename_i v' k mu l hmi
   obtain⟨rfl,rfl,h0,hlt⟩:=hp
   have e2:=h'.at_
   have e1:=og_ok h hmi
   obtain⟨ad,cap,hh,hle,hcap,had,_⟩:=arr_head hm hmi
   obtain⟨g,off,rfl⟩:=had (by omega)
   refine StepOK.pure hm (key _ _ _ _ _ _ (e1.trans hh) e2 h0 hlt) ?_
   have:=ep_mk (w:=w) (S:=S) (e:=n.toNat) (q:=0) hmi hh
   simpa using this
  ·exact hp.elim
 ·rename_i i ver e' o' kk n hh
  cases hh
  split at hs
  ·rename_i hc
   obtain⟨hc,hk⟩:=hc
   cases hs
   simp only[preIad] at hp
   have e2:=h'.at_
   obtain⟨b,e1,e⟩:=curB_ep h hc
   obtain⟨cs,hcs⟩:=curB_get hc
   refine StepOK.pure hm (key _ _ _ _ _ _ e e2 hp.1 hp.2) ?_
   have:=bp_mk (w:=w) (S:=S) (q:=n.toNat) hcs e1
   rw[hk]
   simpa using this
  ·cases hs
 ·rename_i i ver kk n hh
  cases hh
  simp only[preIad] at hp
  split at hp
  ·rename_i v' kk' cs hmi
   obtain⟨rfl,rfl,h0,hlt⟩:=hp
   have e2:=h'.at_
   have e1:=vg_ok h hmi
   have hob:=hm.obj i _ hmi
   simp only[O.is] at hob
   obtain⟨vs',hvs,_,⟨_,_,h00⟩|⟨g,off,cap,nn,hh,_,_,_,_,_,_,_,_,hcn⟩⟩:=hob
   ·omega
   ·have hlt2:n.toNat<nn:=by
     rw[hcn] at hlt
     exact Nat.lt_of_mul_lt_mul_right hlt
    have hfin:StepOK P X B o a m hd w S (.vp i v' (n.toNat*inf.size)) []:=by
     refine StepOK.pure hm (key _ _ _ _ _ _ (e1.trans hh) e2 h0 hlt2) ?_
     simp only[VR]
     exact⟨rfl,_,hmi,Nat.le_refl _,fun _ cs' _=>⟨g,off,_,cap,hh,rfl⟩⟩
    split at hs
    ·rename_i hk
     cases hs
     rw[hk,Nat.mul_one] at hfin
     exact hfin
    ·cases hs
     exact hfin
  ·exact hp.elim
 ·rename_i i ver e' kk n hh
  cases hh
  cases hs
  simp only[preIad] at hp
  split at hp
  ·rename_i v' k mu l hmi
   obtain⟨rfl,rfl,h0,hlt⟩:=hp
   have e2:=h'.at_
   obtain⟨_,y,hy,_,h⟩:=(by simpa only[VR] using h:(a.eval x).oneCell'=true∧∃ y,m i=some y∧v'≤y.ver∧∀ k mu l,y=.arr v' k mu l→∃ g off n cap,hd i=.slice (some ⟨g,off,none⟩) n cap∧e'<n∧a.eval x=.slice (some ⟨g,off+e'*k,none⟩) (n-e') (cap-e'))
   rw[hmi] at hy
   cases hy
   obtain⟨g,off,len,cap,hh,h1,h2⟩:=h _ _ _ rfl
   obtain⟨ad,cap',hh',hle,hcap,had,_⟩:=arr_head hm hmi
   rw[hh] at hh'
   cases hh'
   refine StepOK.pure hm (key _ _ _ _ _ _ h2 e2 h0 (by omega)) ?_
   have:=ep_mk (w:=w) (S:=S) (e:=e'+n.toNat) (q:=0) hmi hh
   rw[Nat.add_zero,Nat.add_mul,← Nat.add_assoc] at this
   exact this
  ·exact hp.elim
 ·cases hs
theorem ok_iada (hm:Mem m hd w S X B) {t e:TypeId} {c:Nat} {inf:TypeInfo} {x y:Operand} (ho:o.op=.indexAddr t x y) (hu:P.underlying t=some (.array c e)) (hi:P.info? e=some inf)
  (hv:VRs m hd w S vs [a.eval x,a.eval y]) (hs:semIada c inf.size m vs=some (v,us)) (hp:preIada c vs):StepOK P X B o a m hd w S v us:=by
 obtain⟨p,q,rfl,h,h'⟩:=hv.inv2
 unfold semIada at hs
 split at hs
 ·rename_i i ver q kk n hh
  cases hh
  split at hs
  ·rename_i hc
   cases hs
   simp only[preIada] at hp
   have e2:=h'.at_
   obtain⟨b,e1,e⟩:=curB_ok h hc
   obtain⟨cs,hcs⟩:=curB_get hc
   have hb:0≤n∧n<c:=by omega
   refine StepOK.pure hm (u:=.pointer (some ⟨b,q+n.toNat*inf.size,none⟩)) ?_ (bp_mk hcs e1)
   simp [execOp,ho,e,e2,Instr.indexAt,asIntOf,run_underlying hu,hb,sizeOf,typeInfo,hi,Addr.add_mid,Instr.sureAddr]
  ·cases hs
 ·cases hs
theorem ok_ixs (hm:Mem m hd w S X B) {t:TypeId} {x y:Operand} (ho:o.op=.index t x y) (hu:P.underlying t=some .string)
  (hv:VRs m hd w S vs [a.eval x,a.eval y]) (hs:semIxs vs=some (v,us)) (hp:preIxs vs):StepOK P X B o a m hd w S v us:=by
 obtain⟨p,q,rfl,h,h'⟩:=hv.inv2
 unfold semIxs at hs
 split at hs
 ·rename_i s kk n hh
  cases hh
  cases hs
  simp only[preIxs] at hp
  have e1:=h.at_
  have e2:=h'.at_
  have hlt:n.toNat<s.size:=by have:=hp.2;simp at this;exact this
  refine StepOK.pure hm (u:=.int .u8 ((s.data.toList.getD n.toNat 0).toNat:Int)) ?_ (VR.at_mk rfl)
  have hg:s[n.toNat]?=some (s.data.toList.getD n.toNat 0):=by
   rw[getElem?_pos s n.toNat hlt]
   congr 1
   rw[List.getD_eq_getElem?_getD,List.getElem?_eq_getElem hp.2]
   rfl
  simp [execOp,ho,e1,e2,Instr.index,asIntOf,run_underlying hu,hp.1,hg]
 ·cases hs
theorem ok_ext (hm:Mem m hd w S X B) {j:Nat} {x:Operand} (ho:o.op=.extract x j) (hv:VRs m hd w S vs [a.eval x]) (hs:semExt j vs=some (v,us)):StepOK P X B o a m hd w S v us:=by
 obtain⟨y,rfl,h⟩:=hv.inv1
 unfold semExt at hs
 split at hs
 ·rename_i l e
  cases e
  split at hs
  ·rename_i hlt
   cases hs
   simp only[VR] at h
   obtain⟨xs,e,h1⟩:=h
   obtain⟨u,h2,h3⟩:=h1.get j (l.getD j .un) (by rw[List.getD_eq_getElem?_getD,List.getElem?_eq_getElem hlt];rfl)
   exact StepOK.pure hm (u:=u) (by simp [execOp,ho,e,Instr.extract,h2]) h3
  ·cases hs
 ·cases hs
theorem ok_len (hm:Mem m hd w S X B) {x:Operand} {t e:TypeId} (ho:o.op=.call { callee:=.builtin .len,args:=#[x],argTypes:=#[t] }) (hu:P.underlying t=some (.slice e)) (hv:VRs m hd w S vs [a.eval x]) (hs:semLen m vs=some (v,us)):StepOK P X B o a m hd w S v us:=by
 obtain⟨y,rfl,h⟩:=hv.inv1
 have key:∀ ad (n c:Nat),a.eval x=.slice ad n c→StepOK P X B o a m hd w S (I n) []:=fun ad n c e =>
  StepOK.pure hm (u:=.int .i64 n) (by simp [execOp,ho,e,resolve,invoke,builtin,Builtin.len_,run_underlying hu,goInt]) (VR.at_mk rfl)
 unfold semLen at hs
 split at hs
 ·rename_i k l e
  cases e
  cases hs
  simp only[VR,D.is] at h
  obtain⟨ad,cap,xs,e1,_⟩:=h
  exact key _ _ _ e1
 ·rename_i k e
  cases e
  cases hs
  simp only[VR] at h
  exact key _ _ _ h
 ·rename_i i ver e
  cases e
  split at hs
  ·rename_i v' k mu l hmi
   split at hs
   ·rename_i hv
    subst hv
    cases hs
    obtain⟨ad,cap,hh,_⟩:=arr_head hm hmi
    exact key _ _ _ ((og_ok h hmi).trans hh)
   ·cases hs
  ·cases hs
 ·rename_i i ver e' o' e
  cases e
  split at hs
  ·rename_i hc
   cases hs
   obtain⟨b,e1,e⟩:=curB_ep h hc
   exact key _ _ _ e
  ·cases hs
 ·rename_i i ver e
  cases e
  split at hs
  ·rename_i v' kk cs hmi
   split at hs
   ·rename_i hv
    subst hv
    have hob:=hm.obj i _ hmi
    simp only[O.is] at hob
    obtain⟨vs',hvs,_,⟨a',hh,h00⟩|⟨g,off,cap,nn,hh,_,_,_,_,_,_,_,_,hcn⟩⟩:=hob
    ·have h1:=key _ _ _ ((vg_ok h hmi).trans hh)
     split at hs
     ·cases hs;rw[h00];exact h1
     ·split at hs
      ·cases hs;rw[h00,Nat.zero_div];exact h1
      ·cases hs
    ·have h1:=key _ _ _ ((vg_ok h hmi).trans hh)
     split at hs
     ·rename_i hk;cases hs;rw[hcn,hk,Nat.mul_one];exact h1
     ·split at hs
      ·rename_i hk;cases hs;rw[hcn,Nat.mul_div_cancel _ hk];exact h1
      ·cases hs
   ·cases hs
  ·cases hs
 ·rename_i i ver e' e
  cases e
  split at hs
  ·rename_i v' k mu l hmi
   split at hs
   ·rename_i hv
    subst hv
    cases hs
    obtain⟨_,y,hy,_,h⟩:=(by simpa only[VR] using h:(a.eval x).oneCell'=true∧∃ y,m i=some y∧v'≤y.ver∧∀ k mu l,y=.arr v' k mu l→∃ g off n cap,hd i=.slice (some ⟨g,off,none⟩) n cap∧e'<n∧a.eval x=.slice (some ⟨g,off+e'*k,none⟩) (n-e') (cap-e'))
    rw[hmi] at hy
    cases hy
    obtain⟨g,off,len,cap,hh,h1,h2⟩:=h _ _ _ rfl
    obtain⟨ad,cap',hh',hle,hcap,had,_⟩:=arr_head hm hmi
    rw[hh] at hh'
    cases hh'
    exact key _ _ _ h2
   ·cases hs
  ·cases hs
 ·cases hs
theorem ok_lens (hm:Mem m hd w S X B) {x:Operand} {t:TypeId} (ho:o.op=.call { callee:=.builtin .len,args:=#[x],argTypes:=#[t] }) (hu:P.underlying t=some .string) (hv:VRs m hd w S vs [a.eval x]) (hs:semLens vs=some (v,us)):StepOK P X B o a m hd w S v us:=by
 obtain⟨y,rfl,h⟩:=hv.inv1
 unfold semLens at hs
 split at hs
 ·rename_i s e
  cases e
  cases hs
  have e1:=h.at_
  exact StepOK.pure hm (u:=.int .i64 s.size) (by simp [execOp,ho,e1,resolve,invoke,builtin,Builtin.len_,run_underlying hu,goInt]) (VR.at_mk rfl)
 ·cases hs
theorem news_ok (hm:Mem m hd w S X B) {k:Nat} {y:V} {u:Value} {ns:List (List D)} {tx e':TypeId} (hk:P.underlying tx=some (.slice e')) (h:VR m hd w S y u) (hn:news k m y=some ns):∃ xs,Rows w S k ns xs∧Src P k tx u ns.length xs w∧∃ ad cap,u=.slice ad ns.length cap∧(0<ns.length→∃ g off,ad=some ⟨g,off,none⟩∧w.rangeAt g off xs):=by
 have key:∀ {ad cap xs} {l:List (List D)} {T:Nat→Prop},u=.slice ad l.length cap→Rows w T k l xs→(∀ b,T b→S b)→(0<l.length→∃ g off,ad=some ⟨g,off,none⟩∧w.rangeAt g off xs)→∃ xs,Rows w S k l xs∧Src P k tx u l.length xs w∧∃ ad cap,u=.slice ad l.length cap∧(0<l.length→∃ g off,ad=some ⟨g,off,none⟩∧w.rangeAt g off xs):=by
  intro ad cap xs l T e hrow hTS hr
  refine⟨xs,Rows.keep (fun b hb _=>⟨hTS b hb,rfl⟩) _ _ _ hrow,?_,ad,cap,e,hr⟩
  subst e
  rcases Nat.eq_zero_or_pos l.length with h0|h0
  ·have hl:l=[]:=List.eq_nil_of_length_eq_zero h0
   subst hl
   simp only[Rows] at hrow
   subst hrow
   cases ad with
   |none=>exact Src.ofNil w hk cap
   |some ad=>exact Src.ofSlice w hk ad 0 cap [] (by simp) (fun j u hu=>by simp at hu) (by simp)
  ·obtain⟨g,off,rfl,hr'⟩:=hr h0
   exact Src.ofSlice w hk _ _ cap xs hrow.len (fun j u hu=>by rw[Addr.add_lit];exact hr' j u hu) hrow.one
 unfold news at hn
 split at hn
 ·rename_i k' l
  split at hn
  ·rename_i hk
   subst hk
   cases hn
   simp only[VR,D.is] at h
   obtain⟨ad,cap,xs,e1,_,_,hrow,hr⟩:=h
   exact key e1 hrow (fun _ h=>h) fun h0=>let ⟨g,off,e,_,hr'⟩:=hr h0;⟨g,off,e,hr'⟩
  ·cases hn
 ·cases hn
  simp only[VR] at h
  exact key (xs:=[]) (T:=S) h (by simp [Rows]) (fun _ h=>h) (by simp)
 ·rename_i i ver
  split at hn
  ·rename_i v' k' mu l hmi
   split at hn
   ·rename_i hc
    obtain⟨rfl,rfl⟩:=hc
    cases hn
    obtain⟨ad,cap,hh,_,_,_,xs,T,hrow,hr,hTS⟩:=arr_head hm hmi
    exact key ((og_ok h hmi).trans hh) hrow hTS hr
   ·cases hn
  ·cases hn
 ·cases hn
theorem dall_ok:∀ {cs:List V} {ds:List D} {us:List Value},VRs m hd w S cs us→dall cs=some ds→Cells w S ds us
 |[],ds,us,h,hd=>by
  simp only[dall,Option.some.injEq] at hd
  subst hd
  simp only[VRs] at h
  subst h
  simp [Cells]
 |x :: r,ds,us,h,hd=>by
  simp only[VRs] at h
  obtain⟨u,r',rfl,h1,h2⟩:=h
  cases x <;> simp only[dall] at hd <;> try (cases hd;done)
  split at hd
  ·rename_i ds' hds
   cases hd
   simp only[VR] at h1
   simp only[Cells]
   exact⟨u,r',rfl,h1,dall_ok h2 hds⟩
  ·cases hd
theorem rows_lone:∀ {ds:List D} {us:List Value},Cells w S ds us→Rows w S 1 (ds.map fun x=>[x]) us
 |[],us,h=>by simp only[Cells] at h;subst h;simp [Rows]
 |d :: ds,us,h=>by
  simp only[Cells] at h
  obtain⟨x,r,rfl,h1,h2⟩:=h
  simp only[List.map_cons,Rows]
  exact⟨[x],r,rfl,rfl,by simp only[Cells];exact⟨x,[],rfl,h1,rfl⟩,rows_lone h2⟩
def chunkD (k:Nat):Nat→List Value→List (List D)
 |0,_=>[]
 |n+1,xs=>(xs.take k).map (fun u=>D.at u) :: chunkD k n (xs.drop k)
theorem chunkD_len {k:Nat}:∀ {n:Nat} {xs:List Value},(chunkD k n xs).length=n
 |0,_=>rfl
 |n+1,xs=>by simp [chunkD,chunkD_len]
theorem cells_at:∀ {xs:List Value},(∀ u ∈ xs,u.oneCell'=true)→Cells w S (xs.map fun u=>D.at u) xs
 |[],_=>by simp [Cells]
 |u :: xs,h=>by
  simp only[List.map_cons,Cells]
  exact⟨u,xs,rfl,by simp only[D.is];exact⟨trivial,h u (by simp)⟩,cells_at fun v hv=>h v (by simp [hv])⟩
theorem cells_at_inv:∀ {xs ys:List Value},Cells w S (xs.map fun u=>D.at u) ys→ys=xs
 |[],ys,h=>by simpa [Cells] using h
 |u :: xs,ys,h=>by
  simp only[List.map_cons,Cells,D.is] at h
  obtain⟨a,r,rfl,⟨rfl,_⟩,h2⟩:=h
  rw[cells_at_inv h2]
theorem rows_chunk {k:Nat}:∀ {n:Nat} {xs:List Value},xs.length=n*k→(∀ u ∈ xs,u.oneCell'=true)→Rows w S k (chunkD k n xs) xs
 |0,xs,h,_=>by simp only[chunkD,Rows];exact List.eq_nil_of_length_eq_zero (by omega)
 |n+1,xs,h,h1=>by
  have hn:(n+1)*k=n*k+k:=by rw[Nat.add_mul,Nat.one_mul]
  simp only[chunkD,Rows]
  exact⟨xs.take k,xs.drop k,(List.take_append_drop _ _).symm,by rw[List.length_map,List.length_take];omega,cells_at fun u hu=>h1 u (List.mem_of_mem_take hu),rows_chunk (by rw[List.length_drop];omega) fun u hu=>h1 u (List.mem_of_mem_drop hu)⟩
theorem rows_chunk_inv {k:Nat}:∀ {n:Nat} {xs ys:List Value},xs.length=n*k→Rows w S k (chunkD k n xs) ys→ys=xs
 |0,xs,ys,h,hr=>by
  simp only[chunkD,Rows] at hr
  rw[hr,List.eq_nil_of_length_eq_zero (show xs.length=0 by omega)]
 |n+1,xs,ys,h,hr=>by
  have hn:(n+1)*k=n*k+k:=by rw[Nat.add_mul,Nat.one_mul]
  simp only[chunkD,Rows] at hr
  obtain⟨a,r,rfl,_,h1,h2⟩:=hr
  rw[cells_at_inv h1,rows_chunk_inv (by rw[List.length_drop];omega) h2,List.take_append_drop]
theorem chunkD_app {k:Nat}:∀ {n n':Nat} {xs ys:List Value},xs.length=n*k→chunkD k (n+n') (xs++ys)=chunkD k n xs++chunkD k n' ys
 |0,n',xs,ys,h=>by
  obtain rfl:xs=[]:=List.eq_nil_of_length_eq_zero (by omega)
  simp [chunkD]
 |n+1,n',xs,ys,h=>by
  have hn:(n+1)*k=n*k+k:=by rw[Nat.add_mul,Nat.one_mul]
  rw[show n+1+n'=(n+n')+1 by omega]
  simp only[chunkD,List.cons_append]
  rw[List.take_append_of_le_length (by omega),List.drop_append_of_le_length (by omega),chunkD_app (by rw[List.length_drop];omega)]
theorem arrV_arr {T:Nat→Prop} {k:Nat} {u:Value} {c:Nat} {xs:List Value} (h:ArrV w B X T k u c xs) (hn:xs.length=c) (hk:0<k) (h1:∀ u ∈ xs,u.oneCell'=true):∃ n,c=n*k∧Arr w B X T k u (chunkD k n xs):=by
 rcases h with ⟨a,e,h0⟩|⟨g,off,cap,n,e,h0,h2,h3,h4,h5,h6,h7,h8,h9⟩
 ·subst h0
  exact⟨0,by omega,xs,by simp only[chunkD,Rows];exact List.eq_nil_of_length_eq_zero hn,.inl ⟨a,e,rfl⟩⟩
 ·exact⟨n,h9,xs,rows_chunk (hn.trans h9) h1,.inr ⟨g,off,cap,by rw[chunkD_len];exact e,h0,h2,h3,h4,by rw[chunkD_len];exact h5,h6,h7,h8⟩⟩
theorem arr_arrV {T:Nat→Prop} {k n:Nat} {u:Value} {xs:List Value} (hl:xs.length=n*k) (h:Arr w B X T k u (chunkD k n xs)):ArrV w B X T k u xs.length xs:=by
 obtain⟨ys,hr,h⟩:=h
 have:=rows_chunk_inv hl hr
 subst this
 rcases h with ⟨a,e,h0⟩|⟨g,off,cap,e,h0,h1,h2,h3,h4,h5,h6,h7⟩
 ·have hn:n=0:=by have:=congrArg List.length h0;rwa [chunkD_len] at this
  exact .inl ⟨a,e,by rw[hl,hn,Nat.zero_mul]⟩
 ·rw[chunkD_len] at e h4
  exact .inr ⟨g,off,cap,n,e,h0,h1,h2,h3,h4,h5,h6,h7,hl⟩
theorem arrV_src (hm:Mem m hd w S X B) {j u' k:Nat} {cs:List V} {y:Value} {tx e':TypeId} (hx:P.underlying tx=some (.slice e')) (hj:m j=some (.vec u' k cs)) (h:y=hd j) (hk:0<k):∃ xs n,cs.length=n*k∧VRs m hd w S cs xs∧(∀ u ∈ xs,u.oneCell'=true)∧Src P k tx y n xs w:=by
 have hob:=hm.obj j _ hj
 simp only[O.is] at hob
 obtain⟨xs,hvs,hone,hob⟩:=hob
 have hl:=hvs.len
 subst h
 rcases hob with ⟨a,e,h0⟩|⟨g,off,cap,n,e,h0,h1,h2,h3,h4,h5,h6,h7,h8⟩
 ·refine⟨xs,0,by omega,hvs,hone,?_⟩
  rw[e]
  have:xs=[]:=List.eq_nil_of_length_eq_zero (hl.trans h0)
  subst this
  cases a with
  |none=>exact Src.ofNil w hx 0
  |some a=>exact Src.ofSlice w hx a 0 0 [] (by simp) (fun j u hu=>by simp at hu) (by simp)
 ·refine⟨xs,n,h8,hvs,hone,?_⟩
  rw[e]
  exact Src.ofSlice w hx _ _ cap xs (hl.trans h8) (fun j u hu=>by rw[Addr.add_lit];exact h7 j u hu) hone
theorem cells_vd:∀ {c:List D} {a:List Value},Cells w S c a→VRs m hd w S (c.map V.d) a∧a.length=c.length
 |[],a,h=>by
  simp only[Cells] at h
  subst h
  exact⟨by simp only[List.map_nil,VRs],rfl⟩
 |d :: c,a,h=>by
  simp only[Cells] at h
  obtain⟨x,r,rfl,h1,h2⟩:=h
  obtain⟨h3,h4⟩:=cells_vd h2
  refine⟨?_,by simp [h4]⟩
  simp only[List.map_cons,VRs]
  exact⟨x,r,rfl,by simp only[VR];exact h1,h3⟩
theorem rows_vd {k:Nat}:∀ {l:List (List D)} {a:List Value},Rows w S k l a→VRs m hd w S (l.flatten.map V.d) a∧(l.flatten.map V.d).length=l.length*k
 |[],a,h=>by
  simp only[Rows] at h
  subst h
  exact⟨by simp only[List.flatten_nil,List.map_nil,VRs],by simp⟩
 |c :: l,a,h=>by
  simp only[Rows] at h
  obtain⟨x,r,rfl,hc,h1,h2⟩:=h
  obtain⟨h3,h4⟩:=rows_vd h2
  rw[List.flatten_cons,List.map_append]
  refine⟨VRs.append (cells_vd h1).1 h3,?_⟩
  rw[List.length_append,List.length_map,hc,h4,List.length_cons,Nat.add_mul,Nat.one_mul]
  omega
theorem StepOK.appVec (hm:Mem m hd w S X B) {i ver k n':Nat} {cs cs':List V} {xs':List Value} {x:Value} {t tx:TypeId} (hi:m i=some (.vec ver k cs)) (e:TypeId) (inf:TypeInfo) (z:Value) (bytes:Nat) (ht:P.underlying t=some (.slice e)) (hinf:P.info? e=some inf) (hz:inf.zero=some z) (hsize:inf.size=k) (hby:inf.bytes=bytes) (hzs:z.cells.size=k)
  (hr:∀ v' w',(Builtin.append_ #[t,tx] o.type #[hd i,x]).run P w=.ok v' w'→(execOp a.eval o).run P w=.ok (.value v') w') (hk:0<k) (hn':cs'.length=n'*k)
  (hs:Src P k tx x n' xs' w) (hx':VRs m hd w S cs' xs') (h1:∀ u ∈ xs',u.oneCell'=true) (h63:cs.length+cs'.length≤140737488355328) (hbytes:(cs.length+cs'.length)*bytes≤140737488355328) :
  StepOK P X B o a m hd w S (.vg i (ver+1)) [(i,.vec (ver+1) k (cs++cs'))]:=by
 have hoi:=hm.obj i _ hi
 simp only[O.is] at hoi
 obtain⟨xs,hvs,hone,hoi⟩:=hoi
 have hl:=hvs.len
 have hl':=hx'.len
 obtain⟨n,hn,harr⟩:=arrV_arr hoi hl hk hone
 have b1:n≤cs.length:=by rw[hn];exact Nat.le_mul_of_pos_right _ hk
 have b2:n'≤cs'.length:=by rw[hn'];exact Nat.le_mul_of_pos_right _ hk
 have b3:(n+n')*bytes≤(cs.length+cs'.length)*bytes:=Nat.mul_le_mul_right _ (by omega)
 obtain⟨v',w',r1,r2,r3,r4⟩:=run_append_arr (P:=P) t tx o.type e inf z bytes ht hinf hz hsize hby hzs harr hm.base hm.lt x xs' (ns:=chunkD k n' xs') (by rw[chunkD_len];exact hs) (rows_chunk (hl'.trans hn') h1) (by rw[chunkD_len,chunkD_len];omega) (by rw[chunkD_len,chunkD_len];omega)
 rw[← chunkD_app (by omega)] at r2
 have hlen:(xs++xs').length=(cs++cs').length:=by simp [hl,hl']
 have r2:=arr_arrV (by rw[hlen,List.length_append,hn,hn',Nat.add_mul]) r2
 have ho:=out_upd (w':=w') hm i (.vec (ver+1) k (cs++cs')) v' r3.size r3.os r3.tape r3.output (fun b hb hne=>r3.block b hb (fun e=>hne _ hi rfl e.symm))
  (fun oo hoo=>by rw[hi] at hoo;cases hoo;exact⟨Nat.le_succ _,fun e=>by simp [O.ver] at e⟩) (fun b hb _=>(r4 b hb).elim (fun e=>.inr ⟨_,hi,rfl,e⟩) (fun e=>.inl (by omega)))
  (fun hl2 hk=>by
   simp only[O.is]
   exact⟨xs++xs',VRs.append (VRs.keep hl2 hk _ _ hvs) (VRs.keep hl2 hk _ _ hx'),fun u hu=>(List.mem_append.1 hu).elim (hone u) (h1 u),by rw[← hlen];exact r2⟩)
 refine⟨_,w',up hd i v',S,hr _ _ r1,ho,.inl ⟨_,rfl,?_⟩⟩
 simp only[VR,ups]
 refine⟨?_,_,up_same _ _ _,Nat.le_refl _,fun _ cs' e=>by rw[up_same]⟩
 rcases r2 with ⟨a,rfl,_⟩|⟨g,off,cap,_,rfl,_⟩ <;> rfl
theorem StepOK.appVecNil (hm:Mem m hd w S X B) {d k n':Nat} {cs':List V} {xs':List Value} {x:Value} {ad:Option Addr} {t tx:TypeId} (e:TypeId) (inf:TypeInfo) (z:Value) (bytes:Nat) (ht:P.underlying t=some (.slice e)) (hinf:P.info? e=some inf) (hz:inf.zero=some z) (hsize:inf.size=k) (hby:inf.bytes=bytes) (hzs:z.cells.size=k)
  (hr:∀ v' w',(Builtin.append_ #[t,tx] o.type #[.slice ad 0 0,x]).run P w=.ok v' w'→(execOp a.eval o).run P w=.ok (.value v') w') (hk:0<k) (hn':cs'.length=n'*k)
  (hs:Src P k tx x n' xs' w) (hx':VRs m hd w S cs' xs') (h1:∀ u ∈ xs',u.oneCell'=true) (h63:cs'.length≤140737488355328) (hbytes:cs'.length*bytes≤140737488355328) :
  StepOK P X B o a m hd w S (.vg d (nv m d)) [(d,.vec (nv m d) k cs')]:=by
 have h0:Arr w B X S k (.slice ad 0 0) []:=⟨[],by simp [Rows],.inl ⟨ad,rfl,rfl⟩⟩
 have hb0:blk (.slice ad 0 0)=none:=by cases ad <;> rfl
 have hl':=hx'.len
 have b2:n'≤cs'.length:=by rw[hn'];exact Nat.le_mul_of_pos_right _ hk
 have b3:n'*bytes≤cs'.length*bytes:=Nat.mul_le_mul_right _ b2
 obtain⟨v',w',r1,r2,r3,r4⟩:=run_append_arr (P:=P) t tx o.type e inf z bytes ht hinf hz hsize hby hzs h0 hm.base hm.lt x xs' (ns:=chunkD k n' xs') (by rw[chunkD_len];exact hs) (rows_chunk (hl'.trans hn') h1) (by rw[chunkD_len,List.length_nil];omega) (by rw[chunkD_len,List.length_nil,Nat.zero_add];omega)
 rw[hb0] at r3 r4
 have r2:=arr_arrV (xs:=xs') (hl'.trans hn') (by simpa using r2)
 have ho:=out_upd (w':=w') hm d (.vec (nv m d) k cs') v' r3.size r3.os r3.tape r3.output (fun b hb hne=>r3.block b hb (fun e=>by cases e))
  (fun oo hoo=>⟨by simp [nv,hoo,O.ver],fun e=>by simp [nv,hoo,O.ver] at e⟩) (fun b hb _=>(r4 b hb).elim (fun e=>by cases e) (fun e=>.inl (by omega)))
  (fun hl2 hk=>by
   simp only[O.is]
   exact⟨xs',VRs.keep hl2 hk _ _ hx',h1,by rw[← hl'];exact r2⟩)
 refine⟨_,w',up hd d v',S,hr _ _ r1,ho,.inl ⟨_,rfl,?_⟩⟩
 simp only[VR,ups]
 refine⟨?_,_,up_same _ _ _,Nat.le_refl _,fun _ cs' e=>by rw[up_same]⟩
 rcases r2 with ⟨a,rfl,_⟩|⟨g,off,cap,_,rfl,_⟩ <;> rfl
theorem ok_app (hm:Mem m hd w S X B) {x y:Operand} {t tx e e':TypeId} {k by_:Nat} {z:List V} (ho:o.op=.call { callee:=.builtin .append,args:=#[x,y],argTypes:=#[t,tx] }) (he:elemOf' P t=some (e,k,by_)) (hz:zcs P e=some z) (hx:P.underlying tx=some (.slice e'))
  (hv:VRs m hd w S vs [a.eval x,a.eval y]) (hs:semApp k d m vs=some (v,us)) (hp:preApp k by_ m vs):StepOK P X B o a m hd w S v us:=by
 obtain⟨p,q,rfl,h,h'⟩:=hv.inv2
 obtain⟨inf,hu,hi,hsz,hby⟩:=elem_ok he
 obtain⟨inf',zu,hi',hzero,hzok,hzl⟩:=zcs_ok hz
 rw[hi] at hi'
 cases hi'
 have hzs:zu.cells.size=k:=by have:=(zD_ok (w:=w) (S:=S) hzok).len;simp [zD,hzl,hsz] at this;exact this
 have run:∀ u v' w',a.eval x=u→(Builtin.append_ #[t,tx] o.type #[u,a.eval y]).run P w=.ok v' w'→(execOp a.eval o).run P w=.ok (.value v') w':=by
  intro u v' w' e1 hr
  simp [execOp,ho,resolve,invoke,builtin,e1,hr]
 unfold semApp at hs
 split at hs
 ·rename_i i ver y' hh
  cases hh
  split at hs
  ·rename_i v' k' l ns hmi hns
   split at hs
   ·rename_i hc
    obtain⟨rfl,rfl,hnot⟩:=hc
    cases hs
    simp only[preApp,hmi,hns] at hp
    obtain⟨xs,hrow,hsrc,_⟩:=news_ok hm hx h' hns
    exact StepOK.appArr hm hmi e inf zu by_ hu hi hzero hsz hby hzs (fun v' w' hr=>run _ _ _ (og_ok h hmi) hr) hsrc hrow hp.2 hp.1
   ·cases hs
  ·cases hs
 ·rename_i k0 j0 u0 hh
  cases hh
  split at hs
  ·rename_i u' kk cs' hj
   split at hs
   ·rename_i hc
    obtain⟨rfl,hk1,hk0⟩:=hc
    subst hk1
    cases hs
    simp only[preApp,hj] at hp
    obtain⟨xs,n',hn',hvs,hone,hsrc⟩:=arrV_src (P:=P) hm hx hj (vg_ok h' hj) hk0
    simp only[VR] at h
    exact StepOK.appVecNil hm e inf zu by_ hu hi hzero hsz hby hzs (fun v' w' hr=>run _ _ _ h hr) hk0 hn' hsrc hvs hone hp.2 hp.1
   ·cases hs
  ·cases hs
 ·rename_i k0 y' hne hh
  cases hh
  split at hs
  ·rename_i ns hns
   cases hs
   have hp:ns.length*by_≤140737488355328∧ns.length≤140737488355328:=by
    cases q <;> first|(simpa only[preApp,hns] using hp)|exact absurd rfl (hne _ _)
   obtain⟨xs,hrow,hsrc,_⟩:=news_ok hm hx h' hns
   simp only[VR] at h
   exact StepOK.appNil hm e inf zu by_ hu hi hzero hsz hby hzs (fun v' w' hr=>run _ _ _ h hr) hsrc hrow hp.2 hp.1
  ·cases hs
 ·rename_i y' hh
  cases hh
  split at hs
  ·rename_i ns hns
   cases hs
   simp only[preApp,hns] at hp
   obtain⟨xs,hrow,hsrc,_⟩:=news_ok hm hx h' hns
   simp only[VR] at h
   obtain⟨ad,h⟩:=h
   exact StepOK.appNil hm e inf zu by_ hu hi hzero hsz hby hzs (fun v' w' hr=>run _ _ _ h hr) hsrc hrow hp.2 hp.1
  ·cases hs
 ·rename_i i' ver e' o' y' hh
  cases hh
  split at hs
  ·rename_i v' cs ns hmi hns
   split at hs
   ·rename_i ds hds
    split at hs
    ·rename_i hc
     obtain⟨rfl,rfl,rfl,hn0⟩:=hc
     cases hs
     simp only[preApp,hns] at hp
     obtain⟨xs,hrow,hsrc,_⟩:=news_ok hm hx h' hns
     obtain⟨b,g1,g2⟩:=curB_ep h (by simp [curB,hmi])
     have hob:=hm.obj _ _ hmi
     simp only[O.is] at hob
     obtain⟨b',us',e2,_,_,_,hvs,_,_,hra⟩:=hob
     rw[g1] at e2
     cases e2
     have hcells:=dall_ok hvs hds
     have hdl:ds.length=cs.length:=by rw[← hcells.len,hvs.len]
     have hrows:=rows_lone hcells
     have hml:(ds.map fun x=>[x]).length=cs.length:=by rw[List.length_map,hdl]
     rw[← hml] at g2
     exact StepOK.appFull hm e inf zu by_ hu hi hzero hsz hby hzs (fun v' w' hr=>run _ _ _ g2 hr) hrows hra hsrc hrow hn0 (by rw[hml];exact hp.2) (by rw[hml];exact hp.1)
    ·cases hs
   ·cases hs
  ·cases hs
 ·rename_i i' ver j' u' hh
  cases hh
  split at hs
  ·rename_i v' kk cs u'' kk' cs' hmi hmj
   split at hs
   ·rename_i hc
    obtain⟨rfl,rfl,hne,rfl,rfl,hk0⟩:=hc
    cases hs
    simp only[preApp,hmi,hmj] at hp
    obtain⟨xs,n',hn',hvs,hone,hsrc⟩:=arrV_src (P:=P) hm hx hmj (vg_ok h' hmj) hk0
    exact StepOK.appVec hm hmi e inf zu by_ hu hi hzero hsz hby hzs (fun v' w' hr=>run _ _ _ (vg_ok h hmi) hr) hk0 hn' hsrc hvs hone hp.2 hp.1
   ·cases hs
  ·cases hs
 ·rename_i i' ver k' l hh
  cases hh
  split at hs
  ·rename_i v' kk cs hmi
   split at hs
   ·rename_i hc
    obtain⟨rfl,rfl,rfl,hk0⟩:=hc
    cases hs
    simp only[preApp,hmi] at hp
    obtain⟨xs,hrow,hsrc,_⟩:=news_ok hm hx h' (show news k' m (.d (.sl k' l))=some l by simp [news])
    exact StepOK.appVec hm hmi e inf zu by_ hu hi hzero hsz hby hzs (fun v' w' hr=>run _ _ _ (vg_ok h hmi) hr) hk0 (rows_vd (m:=m) (hd:=hd) hrow).2 hsrc (rows_vd hrow).1 hrow.one hp.2 hp.1
   ·cases hs
  ·cases hs
 ·rename_i k' l y' hh
  cases hh
  simp only[VR] at h
  obtain⟨hdl,ad,e1⟩:=h
  split at hs
  ·rename_i hns
   split at hs
   ·rename_i hc
    subst hc
    cases hs
    obtain⟨xs,hrow,hsrc,_⟩:=news_ok hm hx h' hns
    have hxs:xs=[]:=by simpa [Rows] using hrow
    subst hxs
    have hr:=run_append_nothing (P:=P) w t tx o.type e inf hu hi ad l.length l.length (Nat.le_refl _) (a.eval y) (by rw[hsz];exact hsrc)
    exact StepOK.pure hm (u:=.slice ad l.length l.length) (run _ _ _ e1 hr) (by simp only[VR];rw[← e1];exact hdl)
   ·cases hs
  ·rename_i c ns hns
   split at hs
   ·rename_i hc
    subst hc
    cases hs
    simp only[preApp,hns] at hp
    obtain⟨xs,hrow,hsrc,_⟩:=news_ok hm hx h' hns
    simp only[D.is] at hdl
    obtain⟨ad',cap',ys,e2,hle,hcm,hrows,hra⟩:=hdl
    rw[e1] at e2
    cases e2
    cases l with
    |nil =>
     have hys:ys=[]:=by simpa [Rows] using hrows
     exact StepOK.appNil hm e inf zu by_ hu hi hzero hsz hby hzs (fun v' w' hr=>run _ _ _ e1 hr) hsrc hrow (by simpa using hp.2) (by simpa using hp.1)
    |cons c0 l0 =>
     obtain⟨g,off,rfl,_,hra⟩:=hra (by simp)
     exact StepOK.appFull hm e inf zu by_ hu hi hzero hsz hby hzs (fun v' w' hr=>run _ _ _ e1 hr) hrows hra hsrc hrow (by simp) hp.2 hp.1
   ·cases hs
  ·cases hs
 ·cases hs
theorem ok_mn (hm:Mem m hd w S X B) {x y:Operand} {ts:Array TypeId} (ho:o.op=.call { callee:=.builtin .min,args:=#[x,y],argTypes:=ts }) (hv:VRs m hd w S vs [a.eval x,a.eval y]) (hs:semMn vs=some (v,us)):StepOK P X B o a m hd w S v us:=by
 obtain⟨p,q,rfl,h,h'⟩:=hv.inv2
 unfold semMn at hs
 split at hs
 ·rename_i k c k' e hh
  cases hh
  cases hs
  have e1:=h.at_
  have e2:=h'.at_
  refine StepOK.pure hm (u:=.int k (min c e)) ?_ (VR.at_mk rfl)
  have:(if e<c then e else c)=min c e:=by omega
  simp [execOp,ho,e1,e2,resolve,invoke,builtin,Builtin.min_,Builtin.min2,this]
 ·cases hs
theorem ok_mx (hm:Mem m hd w S X B) {x y:Operand} {ts:Array TypeId} (ho:o.op=.call { callee:=.builtin .max,args:=#[x,y],argTypes:=ts }) (hv:VRs m hd w S vs [a.eval x,a.eval y]) (hs:semMx vs=some (v,us)):StepOK P X B o a m hd w S v us:=by
 obtain⟨p,q,rfl,h,h'⟩:=hv.inv2
 unfold semMx at hs
 split at hs
 ·rename_i k c k' e hh
  cases hh
  cases hs
  have e1:=h.at_
  have e2:=h'.at_
  refine StepOK.pure hm (u:=.int k (max c e)) ?_ (VR.at_mk rfl)
  have:(if e > c then e else c)=max c e:=by omega
  simp [execOp,ho,e1,e2,resolve,invoke,builtin,Builtin.max_,Builtin.max2,this]
 ·cases hs
end
end Go.Proofs.YticdbambknflgaaGreat.Sim
end
section
namespace Go.Proofs.YticdbambknflgaaGreat.Sim
open Go Go.RowKit Go.Deep
set_option linter.unusedVariables false
set_option linter.unusedSimpArgs false
section
variable {P:Program} {X:Nat→Prop} {B:Nat} {o:Oper} {a:Act} {m m0:M} {hd:H} {w:World} {S:Nat→Prop} {v:V} {us:U} {vs:List V} {d:Nat} {u1 u2 u3:Value}
theorem splice_full {α:Type} {l c:List α} (h:c.length=l.length):splice l 0 c=c:=by
 unfold splice
 rw[List.take_zero,List.nil_append,List.drop_of_length_le (by omega),List.append_nil]
theorem fillD_ok {m1:M} {S1:Nat→Prop} (hS:∀ b,S b→S1 b) (hm1:Mem m1 hd w S1 X B) {k:Nat}:∀ {ps:List (Nat × Value)} {vs:List V} {l l':List (List D)} {zs:List Value},
  Rows w S1 k l zs→VRs m hd w S vs (ps.map (·.2))→fillD m k l ((ps.map (·.1)).zip vs)=some l'→(∀ x ∈ vs,∀ i v k mu l',.og i v ∈ x.cells→m i=some (.arr v k mu l')→m1 i=some (.arr v k false l')) →
  ∃ zs',Instr.fill (fun i=>some (i*k,k)) zs.toArray ps=some zs'∧Rows w S1 k l' zs'.toList∧l'.length=l.length
 |[],vs,l,l',zs,hz,hv,hf,_=>by
  have:=hv.inv0
  subst this
  simp only[List.map_nil,List.zip_nil_left,fillD,Option.some.injEq] at hf
  subst hf
  exact⟨zs.toArray,rfl,by simpa using hz,rfl⟩
 |(j,u) :: ps,vs,l,l',zs,hz,hv,hf,hfr=>by
  obtain⟨x,vs',rfl,h2,h3⟩:=VRs.invc hv
  simp only[List.map_cons,List.zip_cons_cons] at hf
  unfold fillD at hf
  split at hf
  ·rename_i c hc
   split at hf
   ·rename_i hcond
    obtain⟨g1,g2,g3⟩:=hcond
    have hgood:=h2.good g1
    have hcells:=dcells_ok hS hm1 hgood.1 hc (fun i v k mu l' hmem hi=>hfr x (by simp) i v k mu l' hmem hi)
    have hcl:=hcells.len
    have hzl:=hz.len
    have hle:(j+1)*k≤l.length*k:=Nat.mul_le_mul_right _ g3
    rw[Nat.add_mul,Nat.one_mul] at hle
    have hul:u.cells.size=k:=by simp at hcl;omega
    have hput:=Rows.put hcells (o:=0) (by omega) hz g3
    rw[splice_full (by rw[(hz.get g3).1,g2]),Nat.add_zero] at hput
    have hfold:=fold_splice (c:=u.cells.toList) (xs:=zs) (off:=j*k) (by simp;omega)
    have e:(u.cells.zipIdx.foldl (fun (cs:Array Value) (p:Value × Nat)=>cs.setIfInBounds (j*k+p.2) p.1) zs.toArray)=(splice zs (j*k) u.cells.toList).toArray:=by
     apply Array.ext'
     simpa using hfold
    obtain⟨zs',r1,r2,r3⟩:=fillD_ok hS hm1 hput h3 hf (fun x hx=>hfr x (by simp [hx]))
    refine⟨zs',?_,r2,by rw[r3,List.length_set]⟩
    simp only[Instr.fill]
    rw[if_neg (by simp;omega),e]
    exact r1
   ·cases hf
  ·cases hf
theorem ok_bsl (hm:Mem m hd w S X B) {t e:TypeId} {n k by_:Nat} {ps:Array (Nat × Operand)} {z:List V} (ho:o.op=.buildSlice t n ps) (he:elemOf' P t=some (e,k,by_)) (hz:zcs P e=some z) (hk0:0<k) (hnk:n*k≤1000) (hz0:z ≠ [])
  (hv:VRs m hd w S vs ((ps.toList.map (·.2)).map a.eval)) (hs:semBsl k z n (ps.toList.map (·.1)) d m vs=some (v,us)):StepOK P X B o a m hd w S v us:=by
 obtain⟨inf,hu,hi,hsz,hby⟩:=elem_ok he
 obtain⟨inf',zu,hi',hzero,hzok,hzl⟩:=zcs_ok hz
 rw[hi] at hi'
 cases hi'
 obtain⟨y0,r0,rfl⟩:∃ y0 r0,z=y0 :: r0:=by cases z with|nil=>exact absurd rfl hz0|cons y0 r0=>exact⟨y0,r0,rfl⟩
 simp only[semBsl] at hs
 split at hs
 ·rename_i l hl
  cases hs
  obtain⟨S1,o1⟩:=out_frzs hm (vs.flatMap V.cells)
  have hSS:∀ b,S b→S1 b:=fun b hb=>(o1.keep b hb (hm.lt b hb)).1
  have hzd:=zD_ok (w:=w) (S:=S1) hzok
  have hzdl:(zD (y0 :: r0)).length=k:=by rw[← hsz,← hzl];simp [zD]
  have hcells:zu.cells.toList.length=k:=by have:=hzd.len;omega
  obtain⟨zs',r1,r2,r3⟩:=fillD_ok hSS o1.mem (ps:=ps.toList.map fun (i,x)=>(i,a.eval x)) (rows_rep hzd hzdl n) (by simpa [Function.comp_def] using hv) (by simpa [Function.comp_def] using hl)
   (fun x hx i v k mu l' hmem hi=>ups_frz_get hi _ _ (List.mem_flatMap.2 ⟨x,hx,hmem⟩))
  have hll:l.length=n:=by rw[r3];simp
  have hnn:n≤n*k:=Nat.le_mul_of_pos_right _ hk0
  have hml:=made_list zu.cells.toList (by omega) n
  rw[Array.toArray_toList,hcells] at hml
  have hmade:((Array.range (n*k)).map fun j=>(if n*k=0 then (#[]:Array Value) else zu.cells)[j % (if n*k=0 then (#[]:Array Value) else zu.cells).size]!)=((List.replicate n zu.cells.toList).flatten).toArray:=by
   rw[← hml]
   apply Array.ext'
   split
   ·rename_i h0
    rw[h0]
    simp [madeCells]
   ·rfl
  have hfill:Instr.fill (fun i=>some (i*k,k)) ((List.replicate n zu.cells.toList).flatten).toArray (ps.map fun (i,x)=>(i,a.eval x)).toList=some zs':=by simpa using r1
  have hrun:(execOp a.eval o).run P w=.ok (.value (.slice (some ⟨w.heap.size,0,none⟩) n n)) (w.alloc (.cells zs'.toList.toArray e)):=by
   rw[Array.toArray_toList]
   have hbig:¬ (n*k > 2 ^ 24):=by omega
   simp only[execOp,ho,Instr.buildSlice,Sem.run_bind,run_underlying hu,Result.andThen_ok,sizeOf,typeInfo,run_program,hi,Sem.run_pure,hsz,hbig,if_false]
   by_cases h0:n*k=0
   ·simp only[h0,if_true,Sem.run_bind,Sem.run_pure,Result.andThen_ok] at hmade ⊢
    rw[hmade,hfill]
    simp [newRow]
   ·simp only[h0,if_false,zeroValue,typeInfo,Sem.run_bind,run_program,hi,hzero,Sem.run_pure,Result.andThen_ok] at hmade ⊢
    rw[hmade,hfill]
    simp [newRow]
  have hzl':=r2.len
  exact StepOK.newArr o1 rfl (frz_ver m _ d) hrun hll.symm (by unfold maxLen;omega) r2 (by rw[hzl',hll])
 ·cases hs
theorem fill1:∀ (us:List Value) (j:Nat) (zs:List Value),zs.length=j+us.length→(∀ u ∈ us,u.cells=#[u])→Instr.fill (fun i=>some (i*1,1)) zs.toArray ((List.range' j us.length).zip us)=some (zs.take j++us).toArray
 |[],j,zs,h,_=>by simp [Instr.fill,List.take_of_length_le (show zs.length≤j by simp at h;omega)]
 |u :: us,j,zs,h,h1=>by
  have hu:=h1 u (by simp)
  simp only[List.length_cons,List.range'_succ,List.zip_cons_cons,Instr.fill,hu]
  rw[if_neg (by simp only[List.length_cons] at h;simp;omega)]
  have e:((#[u]:Array Value).zipIdx.foldl (fun (cs:Array Value) (p:Value × Nat)=>cs.setIfInBounds (j*1+p.2) p.1) zs.toArray)=(zs.set j u).toArray:=by simp
  rw[e,fill1 us (j+1) (zs.set j u) (by rw[List.length_set,h,List.length_cons];omega) (fun x hx=>h1 x (by simp [hx]))]
  congr 2
  rw[List.take_succ_eq_append_getElem (by rw[List.length_set,h,List.length_cons];omega),List.take_set_of_le (Nat.le_refl _)]
  simp
theorem lone_one:∀ {vs:List V} {us:List Value},VRs m hd w S vs us→vs.all V.lone=true→∀ u ∈ us,u.oneCell'=true∧u.cells=#[u]
 |[],us,h,_,u,hu=>by simp only[VRs] at h;subst h;cases hu
 |x :: r,us,h,hl,u,hu=>by
  simp only[VRs] at h
  obtain⟨u0,r0,rfl,h1,h2⟩:=h
  simp only[List.all_cons,Bool.and_eq_true] at hl
  rcases List.mem_cons.1 hu with rfl|hu
  ·have h3:u.oneCell'=true:=by
    cases x <;> simp only[V.lone,Bool.false_eq_true] at hl <;> try (exact absurd hl.1 id)
    ·simp only[VR] at h1;exact D.one h1
    ·simp only[VR] at h1;subst h1;rfl
    ·simp only[VR] at h1;exact h1.1
   exact⟨h3,by cases u <;> simp_all [Value.oneCell',Value.cells]⟩
  ·exact lone_one h2 hl.2 u hu
theorem run_blt {t e:TypeId} {n by_ q:Nat} {ps:Array (Nat × Operand)} (ho:o.op=.buildSlice t n ps) (he:elemOf' P t=some (e,1,by_)) (hz:zcs P e=some [.nl q]) (hnk:n*1≤1000) (hps:ps.toList.map (·.1)=List.range n)
  (hv:VRs m hd w S vs ((ps.toList.map (·.2)).map a.eval)) (hc:vs.all V.lone=true∧vs.length=n):(∀ u ∈ (ps.toList.map (·.2)).map a.eval,u.oneCell'=true)∧(execOp a.eval o).run P w=.ok (.value (.slice (some ⟨w.heap.size,0,none⟩) n n)) (w.alloc (.cells ((ps.toList.map (·.2)).map a.eval).toArray e)):=by
 obtain⟨inf,hu,hi,hsz,hby⟩:=elem_ok he
 obtain⟨inf',zu,hi',hzero,hzok,hzl⟩:=zcs_ok hz
 rw[hi] at hi'
 cases hi'
 have hone:=lone_one hv hc.1
 have hcl:zu.cells.toList=[.slice none 0 0]:=zOks_nl hzok
 have hzu:zu.cells=#[.slice none 0 0]:=by apply Array.ext';simpa using hcl
 have hul:((ps.toList.map (·.2)).map a.eval).length=n:=by have g1:=hv.len;have g2:=hc.2;omega
 have hfill:=fill1 ((ps.toList.map (·.2)).map a.eval) 0 (List.replicate n (.slice none 0 0)) (by simp [hul];simpa using hul.symm) (fun u hu=>(hone u hu).2)
 have hzip:(ps.map fun (i,x)=>(i,a.eval x)).toList=(List.range' 0 ((ps.toList.map (·.2)).map a.eval).length).zip ((ps.toList.map (·.2)).map a.eval):=by
  have key:∀ l:List (Nat × Operand),(l.map fun (i,x)=>(i,a.eval x))=(l.map (·.1)).zip ((l.map (·.2)).map a.eval):=fun l=>by
   induction l with
   |nil=>rfl
   |cons p l ih=>simp only[List.map_cons,List.zip_cons_cons,ih]
  rw[hul,← List.range_eq_range',← hps,Array.toList_map]
  exact key _
 rw[← hzip] at hfill
 have hmade:((Array.range n).map fun j=>(if n=0 then (#[]:Array Value) else zu.cells)[j % (if n=0 then (#[]:Array Value) else zu.cells).size]!)=(List.replicate n (.slice none 0 0)).toArray:=by
  rw[hzu]
  apply Array.ext'
  by_cases h0:n=0
  ·subst h0;simp
  ·simp only[h0,if_false,Array.toList_map,Array.toList_range,List.toList_toArray]
   rw[List.eq_replicate_iff]
   refine⟨by simp,fun b hb=>?_⟩
   obtain⟨j,_,rfl⟩:=List.mem_map.1 hb
   simp [Nat.mod_one]
 have hrun:(execOp a.eval o).run P w=.ok (.value (.slice (some ⟨w.heap.size,0,none⟩) n n)) (w.alloc (.cells ((ps.toList.map (·.2)).map a.eval).toArray e)):=by
  have hbig:¬ (n*1 > 2 ^ 24):=by omega
  simp only[execOp,ho,Instr.buildSlice,Sem.run_bind,run_underlying hu,Result.andThen_ok,sizeOf,typeInfo,run_program,hi,Sem.run_pure,hsz,hbig,if_false]
  by_cases h0:n=0
  ·simp only[h0,Nat.zero_mul,if_true,Sem.run_bind,Sem.run_pure,Result.andThen_ok] at hmade hfill ⊢
   rw[hmade,hfill]
   simp [newRow]
  ·have h1:¬ (n*1=0):=by omega
   simp only[h0,h1,if_false,Nat.mul_one,zeroValue,typeInfo,Sem.run_bind,run_program,hi,hzero,Sem.run_pure,Result.andThen_ok] at hmade hfill ⊢
   rw[hmade,hfill]
   simp [newRow]
 exact⟨fun u hu=>(hone u hu).1,hrun⟩
theorem ok_blt (hm:Mem m hd w S X B) {t e:TypeId} {n by_ q:Nat} {ps:Array (Nat × Operand)} (ho:o.op=.buildSlice t n ps) (he:elemOf' P t=some (e,1,by_)) (hz:zcs P e=some [.nl q]) (hnk:n*1≤1000) (hps:ps.toList.map (·.1)=List.range n)
  (hv:VRs m hd w S vs ((ps.toList.map (·.2)).map a.eval)) (hs:semBsl 1 [] n (List.range n) d m vs=some (v,us)):StepOK P X B o a m hd w S v us:=by
 simp only[semBsl] at hs
 split at hs
 ·rename_i hc
  cases hs
  obtain⟨hone,hrun⟩:=run_blt (P:=P) (w:=w) ho he hz hnk hps hv hc
  exact StepOK.newBoxS hm (o:=o) (a:=a) (P:=P) (d:=d) (n:=n) (xs:=(ps.toList.map (·.2)).map a.eval) (t:=e) hrun hv hone
 ·cases hs
/-! ### Parts of slices -/
theorem cut_ok {ad:Option Addr} {k n cap lo h mx:Nat} {l:List (List D)} (hd':(D.sl k l).is w S (.slice ad n cap)) (h1:lo≤h) (h2:h≤l.length) (h3:h≤mx) (h4:mx≤cap) :
  (D.sl k ((l.take h).drop lo)).is w S (.slice (if mx=lo then ad else ad.map (·.add (lo*k))) (h-lo) (mx-lo)):=by
 simp only[D.is] at hd' ⊢
 obtain⟨a',cap',xs,e,g1,g2,g3,g4⟩:=hd'
 cases e
 have hl:((l.take h).drop lo).length=h-lo:=by rw[List.length_drop,List.length_take];omega
 refine⟨_,mx-lo,_,by rw[hl],by omega,by omega,Rows.drop lo (Rows.take h g3),fun h0=>?_⟩
 obtain⟨g,off,rfl,hS,hr⟩:=g4 (by omega)
 refine⟨g,off+lo*k,?_,hS,fun j u hu=>?_⟩
 ·rw[if_neg (by omega)]
  simp [Addr.add_mid]
 ·rw[List.getElem?_drop,List.getElem?_take] at hu
  split at hu
  ·have:=hr _ u hu
   rwa [← Nat.add_assoc] at this
  ·cases hu
theorem bnd_ok {x:V} {u:Value} {n:Int} (h:VR m hd w S x u) (hb:bnd x=some n):∃ kk,u=.int kk n:=by
 unfold bnd at hb
 split at hb
 ·rename_i kk n'
  cases hb
  exact⟨kk,h.at_⟩
 ·cases hb
inductive BV:Option Value→Option Int→Prop
 |none:BV none none
 |some (k:IntKind) (n:Int):BV (some (.int k n)) (some n)
theorem bnds_ok {lo hi mx:Option Operand} {r:List V} {b:Option Int × Option Int × Option Int} (hv:VRs m hd w S r ((op3 [lo,hi,mx]).map a.eval)) (hb:bnds lo.isSome hi.isSome mx.isSome r=some b) :
  BV (lo.map a.eval) b.1∧BV (hi.map a.eval) b.2.1∧BV (mx.map a.eval) b.2.2:=by
 cases lo <;> cases hi <;> cases mx <;> simp only[op3,List.map_cons,List.map_nil,Option.isSome,bnds] at hv hb <;> try (cases hb;done)
 ·obtain⟨x,rfl,h1⟩:=hv.inv1
  simp only[Option.map_eq_some_iff] at hb
  obtain⟨n,h2,rfl⟩:=hb
  obtain⟨k,e⟩:=bnd_ok h1 h2
  simp only[Option.map,e]
  exact⟨.none,.some _ _,.none⟩
 ·obtain⟨x,y,rfl,h1,h2⟩:=hv.inv2
  simp only at hb
  split at hb
  ·rename_i n c h3 h4
   cases hb
   obtain⟨k,e⟩:=bnd_ok h1 h3
   obtain⟨k',e'⟩:=bnd_ok h2 h4
   simp only[Option.map,e,e']
   exact⟨.none,.some _ _,.some _ _⟩
  ·cases hb
 ·obtain⟨x,rfl,h1⟩:=hv.inv1
  simp only[Option.map_eq_some_iff] at hb
  obtain⟨n,h2,rfl⟩:=hb
  obtain⟨k,e⟩:=bnd_ok h1 h2
  simp only[Option.map,e]
  exact⟨.some _ _,.none,.none⟩
 ·obtain⟨x,y,rfl,h1,h2⟩:=hv.inv2
  simp only at hb
  split at hb
  ·rename_i n c h3 h4
   cases hb
   obtain⟨k,e⟩:=bnd_ok h1 h3
   obtain⟨k',e'⟩:=bnd_ok h2 h4
   simp only[Option.map,e,e']
   exact⟨.some _ _,.some _ _,.none⟩
  ·cases hb
 ·obtain⟨x,y,z,rfl,h1,h2,h3⟩:=hv.inv3
  simp only at hb
  split at hb
  ·rename_i n c q h4 h5 h6
   cases hb
   obtain⟨k,e⟩:=bnd_ok h1 h4
   obtain⟨k',e'⟩:=bnd_ok h2 h5
   obtain⟨k'',e''⟩:=bnd_ok h3 h6
   simp only[Option.map,e,e',e'']
   exact⟨.some _ _,.some _ _,.some _ _⟩
  ·cases hb
theorem sb_ok {k:IntKind} {i:Int} {y:Nat} {c:BoundsCode} (h:0≤i∧i≤y):(Instr.sliceBound (.int k i) y c).run P w=.ok i.toNat w:=by
 simp [Instr.sliceBound,asIntOf,h]
theorem bounds_run {lo hi mx:Option Value} {b:Option Int × Option Int × Option Int} {len cap:Nat} (is:Bool) (h1:BV lo b.1) (h2:BV hi b.2.1) (h3:BV mx b.2.2) (hok:okB b len) (hc:len≤cap) :
  ∃ m',(Instr.sliceBounds is len cap lo hi mx).run P w=.ok (bl b,bh b len,m') w∧bl b≤bh b len∧bh b len≤len∧bh b len≤m'∧m'≤cap∧(isZ b=true→bl b=0∧bh b len=0∧m'=0)∧(mx=none→m'=cap)∧(lo=none→bl b=0):=by
 obtain⟨x,y,z⟩:=b
 simp only at h1 h2 h3
 cases h1 <;> cases h2 <;> cases h3 <;> simp only[okB] at hok
 ·rename_i k y
  refine⟨cap,?_,?_⟩
  ·have e:(0:Int)≤y∧y≤cap:=by omega
   simp [Instr.sliceBounds,sb_ok e,bl,bh]
  ·simp [bl,bh,isZ];omega
 ·rename_i k y k' z
  refine⟨z.toNat,?_,?_⟩
  ·have e:(0:Int)≤z∧z≤cap:=by omega
   have e2:(0:Int)≤y∧y≤z.toNat:=by omega
   simp [Instr.sliceBounds,sb_ok e,sb_ok e2,bl,bh]
  ·simp [bl,bh,isZ];omega
 ·rename_i k x
  refine⟨cap,?_,?_⟩
  ·have e:(0:Int)≤x∧x≤len:=by omega
   simp [Instr.sliceBounds,sb_ok e,bl,bh]
  ·simp [bl,bh,isZ];omega
 ·rename_i k x k' y
  refine⟨cap,?_,?_⟩
  ·have e:(0:Int)≤y∧y≤cap:=by omega
   have e2:(0:Int)≤x∧x≤y.toNat:=by omega
   simp [Instr.sliceBounds,sb_ok e,sb_ok e2,bl,bh]
  ·simp [bl,bh,isZ];omega
 ·rename_i k x k' y k'' z
  refine⟨z.toNat,?_,?_⟩
  ·have e:(0:Int)≤z∧z≤cap:=by omega
   have e2:(0:Int)≤y∧y≤z.toNat:=by omega
   have e3:(0:Int)≤x∧x≤y.toNat:=by omega
   simp [Instr.sliceBounds,sb_ok e,sb_ok e2,sb_ok e3,bl,bh]
  ·simp [bl,bh,isZ];omega
theorem cut_run {k k':IntKind} {y z:Int} {len cap:Nat} (h0:0≤y) (h1:y=z) (h2:y≤(len:Int)) (hc:len≤cap):(Instr.sliceBounds true len cap none (some (.int k y)) (some (.int k' z))).run P w=.ok (0,y.toNat,y.toNat) w:=by
 subst h1
 have e:(0:Int)≤y∧y≤cap:=by omega
 have e2:(0:Int)≤y∧y≤y.toNat:=by omega
 simp [Instr.sliceBounds,sb_ok e,sb_ok e2]
end
end Go.Proofs.YticdbambknflgaaGreat.Sim
end
