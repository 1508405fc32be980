/- What is shown by itself, of lengths: of no program. Conditions: none. -/
import Derived.Test.YticdbambknflgaaGreatMSimGo
import Derived.Test.YticdbambknflgaaGreatMSimEn
import Derived.Test.YticdbambknflgaaGreatMSimZ
section
namespace Go.Proofs.YticdbambknflgaaGreat.Sim
open Go Go.RowKit Go.Deep
set_option linter.unusedVariables false
def RetEE (rs:List RV) (bx:U) (Qs:V→U→Prop):Exit→St→Prop
 |.normal,s=>∃ r bx',Qs r bx'∧bx'.map (·.1)=bx.map (·.1)∧RetOK s rs r bx' []
 |.ret,s=>∃ r bx',Qs r bx'∧bx'.map (·.1)=bx.map (·.1)∧RetOK s rs r bx' []
 |_,_=>False
theorem doesE_of {P:Program} {f:FuncId} {fn:Func} {code:Code} {N:NF} {ac:AC} {rs:List RV} {xs:List V} {bx:U} {Qs:V→U→Prop} (hf:P.funcs[f]?=some fn) (hb:fn.body=some code) (hn:fn.ntmps=N.n) (hc:compile P N code=some ac) (hr:rvsOf P fn.results.toList=some rs) (hxs:xs.length≤N.n) (hbx:(bx.map (·.1)).Nodup)
  (h:∀ cx:Cx,cx.N=N→cx.m0=ups M0 bx→Awp P cx ac (RetEE rs bx Qs) ⟨tl (idx 0 xs),ups M0 bx⟩):DoesE P f xs bx Qs:=by
 intro w hd S X us hgk hm hv
 have hul:=hv.len
 let cx:Cx:={ w0:=w,X:=X,S0:=S,N:=N,m0:=ups M0 bx,hd0:=hd,gk:=hgk }
 refine calls_of_wp hf hb ?_
 have hR:Rel cx ⟨tl (idx 0 xs),ups M0 bx⟩ { tmps:=us.toArray++Array.replicate (fn.ntmps-us.toArray.size) undef,defers:=[] } w:=by
  refine⟨hd,S,hm,fun t=>?_,Fr.refl _ _,rfl,by simp [hn];show us.length+(N.n-us.length)=N.n;omega,fun b hb=>.inl hb,Le.refl _ _⟩
  simp only
  rw[tl_idx 0]
  simp only[Nat.zero_le,Nat.zero_add,true_and,Nat.sub_zero]
  split
  ·rename_i ht
   have hx:xs[t]?=some (xs.getD t .un):=by rw[List.getD_eq_getElem?_getD,List.getElem?_eq_getElem ht];rfl
   obtain⟨u,h1,h2⟩:=hv.get t _ hx
   have:(us.toArray++Array.replicate (fn.ntmps-us.toArray.size) undef).getD t undef=u:=by
    rw[Array.getD_eq_getD_getElem?,Array.getElem?_append_left (by simp;omega)]
    simp [h1]
   rw[this]
   exact h2
  ·simp only[VR]
 refine wp_mono (h cx rfl rfl code hc _ _ hR) ?_
 rintro e a' w' ⟨s',hq,hR'⟩
 have fin:(∃ r bx',Qs r bx'∧bx'.map (·.1)=bx.map (·.1)∧RetOK s' rs r bx' [])→a'.defers=[]∧∃ v,(results fn a'.tmps).run P w'=.ok v w'∧∃ r bx',Qs r bx'∧∃ u hd' S',Ending.returned v=.returned u∧Fr w w' X∧Mem (ups M0 (bx'++fresh [])) hd' w' S' X w.heap.size∧VR (ups M0 (bx'++fresh [])) hd' w' S' r u∧(∀ b,S' b→S b∨w.heap.size≤b∨X b)∧Le (ups M0 bx) hd (ups M0 (bx'++fresh [])) hd':=by
  rintro⟨r,bx',hq,hnm,r',ids,h1,h2,h3,h4,h5⟩
  obtain⟨hd1,S1,hm1,hv1,hfr,hdef,hsz,hsub,hle⟩:=hR'
  obtain⟨u,hu1,hu2⟩:=resV_ok hm1 hv1 hr h1
  refine⟨hdef,u,hu1,r,bx',hq,u,?_⟩
  have hnm':(bx'.map (·.1)).Nodup:=by rw[hnm];exact hbx
  obtain⟨hd',S',g1,g2,g3,g4⟩:=ret_ok hm1 hu2 hsub hle (fun x hx=>by
   have:x.1 ∈ bx'.map (·.1):=by rw[hnm];exact List.mem_map.2 ⟨x,hx,rfl⟩
   obtain⟨y,hy,e⟩:=List.mem_map.1 this
   exact⟨y.2,by rw[← e];exact hy⟩) hnm' h2 h3 h4 h5
  exact⟨hd',S',rfl,hfr,g1,g2,g3,g4⟩
 cases e with
 |normal=>exact fin hq
 |ret=>exact fin hq
 |_=>exact hq.elim
mutual
def outV (m:M) (bx:U):V→Option V
 |.d x=>some (.d x)
 |.nl k=>some (.d (.sl k []))
 |.og i v=>match inU bx i with
  |true=>if i<1000000 then some (.og i v) else none
  |false=>match m i with
   |some (.arr v' k mu l)=>if v'=v then some (.d (.sl k l)) else none
   |_=>none
 |.bp i v o=>if i<1000000∧inU bx i=true then some (.bp i v o) else none
 |.ag l=>(outVs m bx l).map .ag
 |.tu l=>(outVs m bx l).map .tu
 |_=>none
def outVs (m:M) (bx:U):List V→Option (List V)
 |[]=>some []
 |x :: l=>match outV m bx x,outVs m bx l with
  |some y,some ys=>some (y :: ys)
  |_,_=>none
end
mutual
theorem outV_ok {m:M} {bx:U}:∀ (x y:V),outV m bx x=some y→exF m bx [] x y
 |.d x,y,h=>by simp only[outV,Option.some.injEq] at h;subst h;simp only[exF]
 |.nl k,y,h=>by simp only[outV,Option.some.injEq] at h;subst h;simp only[exF];exact⟨_,rfl⟩
 |.og i v,y,h=>by
  simp only[outV] at h
  split at h
  ·rename_i hi
   split at h
   ·rename_i hl
    cases h
    simp [exF,hl,hi]
   ·cases h
  ·rename_i hi
   split at h
   ·rename_i v' k mu l hm
    split at h
    ·rename_i e
     subst e
     cases h
     simp only[exF]
     exact⟨rfl,hi,k,mu,l,hm,rfl⟩
    ·cases h
   ·cases h
 |.bp i v o,y,h=>by
  simp only[outV] at h
  split at h
  ·rename_i hl
   cases h
   simp [exF,hl.1,hl.2]
  ·cases h
 |.ag l,y,h=>by
  simp only[outV,Option.map_eq_some_iff] at h
  obtain⟨l',h1,rfl⟩:=h
  simp only[exF]
  exact outVs_ok l l' h1
 |.tu l,y,h=>by
  simp only[outV,Option.map_eq_some_iff] at h
  obtain⟨l',h1,rfl⟩:=h
  simp only[exF]
  exact outVs_ok l l' h1
 |.un,y,h|.z0,y,h|.ub,y,h|.ep _ _ _ _,y,h|.fp _ _,y,h|.cl _ _,y,h|.vg _ _,y,h|.vp _ _ _,y,h|.ot _ _ _,y,h|.mh _ _,y,h|.fx _ _,y,h=>by simp [outV] at h
theorem outVs_ok {m:M} {bx:U}:∀ (l l':List V),outVs m bx l=some l'→exFs m bx [] l l'
 |[],l',h=>by simp only[outVs,Option.some.injEq] at h;subst h;simp only[exFs]
 |x :: l,l',h=>by
  simp only[outVs] at h
  split at h
  ·rename_i y ys h1 h2
   cases h
   simp only[exFs]
   exact⟨outV_ok x y h1,outVs_ok l ys h2⟩
  ·cases h
end
section
variable {P:Program} {cx:Cx} {Q:Exit→St→Prop}
theorem retE_mk {T:Nat→V} {m:M} {rs:List RV} {bx:U} {Qs:V→U→Prop} {r' r:V} (bx':U) (h:resV ⟨T,m⟩ rs=some r') (h1:outV m bx' r'=some r) (h2:bx'.map (·.1)=bx.map (·.1)) (h3:bxF m [] bx') (hq:Qs r bx'):RetEE rs bx Qs .ret ⟨T,m⟩ :=
 ⟨r,bx',hq,h2,⟨r',[],h,outV_ok _ _ h1,trivial,by simp,h3⟩⟩
theorem endE_mk {T:Nat→V} {m:M} {rs:List RV} {bx:U} {Qs:V→U→Prop} {r' r:V} (bx':U) (h:resV ⟨T,m⟩ rs=some r') (h1:outV m bx' r'=some r) (h2:bx'.map (·.1)=bx.map (·.1)) (h3:bxF m [] bx') (hq:Qs r bx'):RetEE rs bx Qs .normal ⟨T,m⟩ :=
 ⟨r,bx',hq,h2,⟨r',[],h,outV_ok _ _ h1,trivial,by simp,h3⟩⟩
theorem go_callE {o:AO} {f:FuncId} {d:Nat} {l:List AO} {r:List Fm} {T:Nat→V} {m:M} {zs ys:List V} {bx:U} {Qs:V→U→Prop} {us:U} (n:Nat) (hD:DoesE P f ys bx Qs) (hk:o.k=.call f) (hd:o.dst.getD 0=d) (hg:o.guard=none) (hA:argFs m bx zs ys) (hI:CallForm m (1000*(d+2)) bx (.tu []) bx [])
  (hu:frz m (lentOut bx (V.flats zs))=us) (h:∀ q bx',Qs q bx'→CallForm m (1000*(d+2)) bx q bx' []∧Go P cx Q n (.res o zs (some (q.ren (1000*(d+2)) m,us++bx'))) (.ops l none :: r) T m):Mean P cx Q (.op false o zs) (.ops l none :: r) T m:=by
 intro l' dr' r' hr hp
 cases hr
 refine .inr (.inl ⟨rfl,hg,?_⟩)
 subst hd
 simp only[StepE,hk]
 refine⟨ys,bx,Qs,hD,hI,(ags_of zs ys hA).2.2,fun q bx' hq=>?_⟩
 obtain⟨h1,h2⟩:=h q bx' hq
 refine⟨h1,?_⟩
 obtain⟨v',us',h3,h4⟩:=go_mean n _ _ _ _ h2 _ _ _ rfl
 cases h3
 rw[hu,show freshIn (1000*(o.dst.getD 0+2)) m []=[] from rfl,List.append_nil]
 exact h4
theorem go_callP {o:AO} {f:FuncId} {l:List AO} {r:List Fm} {T:Nat→V} {m:M} {zs ys:List V} {Qs:V→Prop} {us:U} (n:Nat) (hD:DoesP P f ys Qs) (hk:o.k=.call f) (hg:o.guard=none) (hA:argFs m [] zs ys)
  (hu:frz m (V.flats zs)=us) (h:∀ q,Qs q→q.wfR [] 0=true∧Go P cx Q n (.res o zs (some (q,us))) (.ops l none :: r) T m):Mean P cx Q (.op false o zs) (.ops l none :: r) T m:=by
 refine go_callE (us:=us) n hD.2 hk rfl hg hA (CallForm.plain rfl) (by rw[lentOut_nil];exact hu) ?_
 rintro q bx' ⟨hq,rfl⟩
 obtain⟨h1,h2⟩:=h q hq
 refine⟨CallForm.plain h1,?_⟩
 rw[ren_self q h1,List.append_nil]
 exact h2
theorem go_callPD {o:AO} {f:FuncId} {l all:List AO} {acc:List Ent} {r:List Fm} {T:Nat→V} {m:M} {zs ys:List V} {Qs:V→Prop} {us:U} (n:Nat) (hD:DoesP P f ys Qs) (hk:o.k=.call f) (hg:o.guard=none) (hA:argFs m [] zs ys)
  (hu:frz m (V.flats zs)=us) (he:eOK all acc.length=true) (hw:∀ q,Qs q→q.wfR [] 0=true) (h:∀ q,Qs q→Go P cx Q n (.res o zs (some (q,us))) (.ops l (some (all,acc,false)) :: r) T m):Mean P cx Q (.op false o zs) (.ops l (some (all,acc,true)) :: r) T m:=by
 intro l' dr' r' hr hp
 cases hr
 refine .inr (.inr ⟨all,acc,Qs,us,rfl,hg,he,?_,fun q hq=>?_⟩)
 ·simp only[StepP,hk]
  exact⟨ys,hD,(ags_of zs ys hA).2.2,hw,hu.symm⟩
 ·obtain⟨v',us',h3,h4⟩:=go_mean n _ _ _ _ (h q hq) _ _ _ rfl
  cases h3
  exact h4
theorem retP_mk {T:Nat→V} {m:M} {rs:List RV} {Qs:V→Prop} {r' r:V} (h:resV ⟨T,m⟩ rs=some r') (h1:outV m [] r'=some r) (hq:Qs r):RetEE rs [] (fun r bx'=>Qs r∧bx'=[]) .ret ⟨T,m⟩:=retE_mk [] h h1 rfl trivial ⟨hq,rfl⟩
theorem endP_mk {T:Nat→V} {m:M} {rs:List RV} {Qs:V→Prop} {r' r:V} (h:resV ⟨T,m⟩ rs=some r') (h1:outV m [] r'=some r) (hq:Qs r):RetEE rs [] (fun r bx'=>Qs r∧bx'=[]) .normal ⟨T,m⟩:=endE_mk [] h h1 rfl trivial ⟨hq,rfl⟩
end
end Go.Proofs.YticdbambknflgaaGreat.Sim
end
section
namespace Go.Proofs.YticdbambknflgaaGreat.Sim
open Go Go.RowKit Go.Deep
set_option linter.unusedVariables false
def bxOut (m:M):List Nat→Option U
 |[]=>some []
 |i :: r=>match m i,bxOut m r with
  |some o,some l=>some ((i,o) :: l)
  |_,_=>none
theorem bxOut_names {m:M}:∀ {l:List Nat} {bx:U},bxOut m l=some bx→bx.map (·.1)=l
 |[],bx,h=>by simp only[bxOut,Option.some.injEq] at h;subst h;rfl
 |i :: r,bx,h=>by
  simp only[bxOut] at h
  split at h
  ·rename_i o l h1 h2
   cases h
   simp only[List.map_cons,bxOut_names h2]
  ·cases h
section
variable {T:Nat→V} {m:M} {rs:List RV} {bx bx':U} {Qs:V→U→Prop} {r' r:V}
theorem retA_mk (h:resV ⟨T,m⟩ rs=some r') (hb:bxOut m (bx.map (·.1))=some bx') (h1:outV m bx' r'=some r) (h3:bxF m [] bx') (hq:Qs r bx'):RetEE rs bx Qs .ret ⟨T,m⟩:=retE_mk bx' h h1 (bxOut_names hb) h3 hq
theorem endA_mk (h:resV ⟨T,m⟩ rs=some r') (hb:bxOut m (bx.map (·.1))=some bx') (h1:outV m bx' r'=some r) (h3:bxF m [] bx') (hq:Qs r bx'):RetEE rs bx Qs .normal ⟨T,m⟩:=endE_mk bx' h h1 (bxOut_names hb) h3 hq
end
theorem OV:type_of% (And.intro (@outV.eq_1) (And.intro (@outV.eq_2) (And.intro (@outV.eq_3) (And.intro (@outV.eq_4) (And.intro (@outV.eq_5) (And.intro (@outV.eq_6) (And.intro (@outVs.eq_1) (And.intro (@outVs.eq_2) (And.intro (@bxOut.eq_1) (And.intro (@bxOut.eq_2) (And.intro (@List.map_cons.{0,0}) (And.intro (@List.map_nil.{0,0}) (And.intro (@Option.map_some.{0,0}) (@Option.map_none.{0,0})))))))))))))) :=
 And.intro (@outV.eq_1) (And.intro (@outV.eq_2) (And.intro (@outV.eq_3) (And.intro (@outV.eq_4) (And.intro (@outV.eq_5) (And.intro (@outV.eq_6) (And.intro (@outVs.eq_1) (And.intro (@outVs.eq_2) (And.intro (@bxOut.eq_1) (And.intro (@bxOut.eq_2) (And.intro (@List.map_cons.{0,0}) (And.intro (@List.map_nil.{0,0}) (And.intro (@Option.map_some.{0,0}) (@Option.map_none.{0,0})))))))))))))
theorem aO {p:Prop} (h:p:=by ((try simp only[OV,CC,LL,EE,QQ,seval]) <;> rfl)):p:=h
abbrev CT (P:Program) (fn:Func) (slots:List Nat):Option AC:=compile P ⟨fn.ntmps,slots⟩ (fn.body.getD .skip)
end Go.Proofs.YticdbambknflgaaGreat.Sim
end
section
namespace Go.Proofs.YticdbambknflgaaGreat.Sim
open Go Go.RowKit Go.Deep
theorem aI {p:Prop} (h:p:=by first|trivial|omega|((try simp only[List.length_append,List.length_cons,List.length_nil,List.length_set,List.length_map,List.length_take,List.length_drop,List.length_replicate,true_and,and_true,List.take_zero,List.not_mem_nil]);(repeat' (first|trivial|omega|assumption|(with_reducible apply And.intro)|(simp;done))))):p:=h
theorem aQ {p:Prop} (h:p:=by (try intros);(repeat' (first|trivial|assumption|omega|(with_reducible apply And.intro)|(simp_all;done)|(simp_all;omega)))):p:=h
end Go.Proofs.YticdbambknflgaaGreat.Sim
end
