/- What an operation looks at: of no program. Conditions: none. -/
import Derived.Test.YticdbambknflgaaGreatMSimS
section
namespace Go.Proofs.YticdbambknflgaaGreat.Sim
open Go Go.RowKit Go.Deep
set_option linter.unusedVariables false
def idx:Nat→List V→List (Nat × V)
 |_,[]=>[]
 |k,x :: l=>(k,x) :: idx (k+1) l
section
variable {P:Program} {m:M} {hd:H} {w:World} {S X:Nat→Prop} {B:Nat}
theorem tl_idx (n:Nat):∀ (l:List V) (k t:Nat),tl (idx k l) t=if k≤t∧t<k+l.length then l.getD (t-k) .un else .un
 |[],k,t=>by simp [idx,tl]
 |x :: l,k,t=>by
  simp only[idx,tl,up]
  by_cases e:t=k
  ·subst e
   simp
  ·rw[if_neg e,tl_idx n l (k+1) t]
   by_cases h:k+1≤t∧t<k+1+l.length
   ·rw[if_pos h,if_pos (by simp;omega),show t-k=(t-(k+1))+1 by omega]
    rfl
   ·rw[if_neg h,if_neg (by simp;omega)]
theorem res1_ok (hm:Mem m hd w S X B) {T:Nat→V} {tmps:Array Value} (hv:∀ t,VR m hd w S (T t) (tmps.getD t undef)) {x:ResultVar} {rv:RV} (h:rvOf P x=some rv) {v:V} (hs:res1 ⟨T,m⟩ rv=some v) :
  ∃ u,(match x with|.tmp t=>pure (tmps.getD t undef)|.cell a t=>do loadVar t (← asAddr (tmps.getD a undef)):Sem Value).run P w=.ok u w∧VR m hd w S v u:=by
 cases x with
 |tmp t =>
  simp only[rvOf,Option.some.injEq] at h
  subst h
  simp only[res1,Option.some.injEq] at hs
  subst hs
  exact⟨_,rfl,hv t⟩
 |cell t ty =>
  simp only[rvOf,Option.map_eq_some_iff] at h
  obtain⟨⟨n,g⟩,hf,rfl⟩:=h
  simp only[res1] at hs
  split at hs
  ·rename_i i ver q hT
   have h1:=hv t
   rw[hT] at h1
   split at hs
   ·rename_i v' cs hi
    split at hs
    ·rename_i hc
     obtain⟨rfl,hc⟩:=hc
     cases hs
     simp only[VR] at h1
     obtain⟨_,y,hy,_,h1⟩:=h1
     rw[hi] at hy
     cases hy
     obtain⟨b,e1,e2⟩:=h1 cs rfl
     have hob:=hm.obj i _ hi
     simp only[O.is] at hob
     obtain⟨b',xs,e3,_,_,_,hx,hone,_,hra⟩:=hob
     rw[e1] at e3
     cases e3
     have hxl:=hx.len
     have hra':=range_sub hra q n
     rw[Nat.zero_add] at hra'
     have hrun:=run_load_range (P:=P) hf hra' (by simp;omega)
     refine⟨_,?_,((hx.drop q).take n).mk (n:=n) (by simp;omega) (fun y hy=>hone y (List.mem_of_mem_drop (List.mem_of_mem_take hy))) (form_ok hf).choose_spec.choose_spec.2.2.2.2⟩
     simp only[Instr.loadAt,Instr.sureAddr,Sem.run_bind,Sem.run_pure,Result.andThen_ok] at hrun
     simp only[e2,asAddr,Sem.run_bind,Sem.run_pure,Result.andThen_ok]
     exact hrun
    ·cases hs
   ·cases hs
  ·cases hs
theorem ress_ok (hm:Mem m hd w S X B) {T:Nat→V} {tmps:Array Value} (hv:∀ t,VR m hd w S (T t) (tmps.getD t undef)):∀ {xs:List ResultVar} {rs:List RV},rvsOf P xs=some rs→∀ {vs:List V},ress ⟨T,m⟩ rs=some vs →
  ∃ us:List Value,(xs.mapM fun x=>(match x with|.tmp t=>pure (tmps.getD t undef)|.cell a t=>do loadVar t (← asAddr (tmps.getD a undef)):Sem Value)).run P w=.ok us w∧VRs m hd w S vs us
 |[],rs,h,vs,hs=>by
  simp only[rvsOf,Option.some.injEq] at h
  subst h
  simp only[ress,Option.some.injEq] at hs
  subst hs
  exact⟨[],by simp,by simp [VRs]⟩
 |x :: xs,rs,h,vs,hs=>by
  unfold rvsOf at h
  split at h
  ·rename_i y ys h1 h2
   cases h
   unfold ress at hs
   split at hs
   ·rename_i v vs' h3 h4
    cases hs
    obtain⟨u,r1,r2⟩:=res1_ok hm hv h1 h3
    obtain⟨us,r3,r4⟩:=ress_ok hm hv h2 h4
    refine⟨u :: us,?_,u,us,rfl,r2,r4⟩
    rw[List.mapM_cons]
    simp only[Sem.run_bind,r1,r3,Result.andThen_ok,Sem.run_pure]
   ·cases hs
  ·cases h
theorem resV_ok (hm:Mem m hd w S X B) {T:Nat→V} {tmps:Array Value} (hv:∀ t,VR m hd w S (T t) (tmps.getD t undef)) {fn:Func} {rs:List RV} (h:rvsOf P fn.results.toList=some rs) {v:V} (hs:resV ⟨T,m⟩ rs=some v):∃ u,(results fn tmps).run P w=.ok u w∧VR m hd w S v u:=by
 have key:∀ {vs:List V},ress ⟨T,m⟩ rs=some vs→∃ us:List Value,(results fn tmps).run P w=.ok (if h:us.toArray.size=1 then us.toArray[0] else .tuple us.toArray) w∧VRs m hd w S vs us:=by
  intro vs hvs
  obtain⟨us,r1,r2⟩:=ress_ok hm hv h hvs
  refine⟨us,?_,r2⟩
  unfold results
  rw[Sem.run_bind,Array.mapM_eq_mapM_toList,Sem.run_map]
  erw [r1]
  simp only[Result.andThen_ok,Sem.run_pure]
 unfold resV at hs
 split at hs
 ·rename_i x hx
  cases hs
  obtain⟨us,r1,r2⟩:=key hx
  obtain⟨u,r,rfl,h1,h2⟩:=r2
  simp only[VRs] at h2
  subst h2
  exact⟨u,by rw[r1];simp,h1⟩
 ·rename_i l hne hl
  cases hs
  obtain⟨us,r1,r2⟩:=key hl
  have hlen:=r2.len
  have:¬ us.toArray.size=1:=by
   intro e
   have:l.length=1:=by simpa [hlen] using e
   match l,this with
   |[x],_=>exact hne x rfl
  refine⟨.tuple us.toArray,by rw[r1,dif_neg this],?_⟩
  simp only[VR]
  exact⟨us,rfl,r2⟩
 ·cases hs
end
structure BxOK (bx bx':U):Prop where
 names:bx'.map (·.1)=bx.map (·.1)
 nd:(bx.map (·.1)).Nodup
theorem BxOK.nil:BxOK [] []:=⟨rfl,by simp⟩
theorem does_of {P:Program} {f:FuncId} {fn:Func} {code:Code} {N:NF} {ac:AC} {rs:List RV} {xs:List V} {bx bx':U} {r:V} {as:List O} (hf:P.funcs[f]?=some fn) (hb:fn.body=some code) (hn:fn.ntmps=N.n) (hc:compile P N code=some ac) (hr:rvsOf P fn.results.toList=some rs) (hxs:xs.length≤N.n) (hbx:BxOK bx bx')
  (h:∀ cx:Cx,cx.N=N→cx.m0=ups M0 bx→Awp P cx ac (RetE rs r bx' as) ⟨tl (idx 0 xs),ups M0 bx⟩):Does P f xs bx r bx' as:=by
 intro w hd S X us hgk hm hv
 have hul:=hv.len
 let cx:Cx:={ w0:=w,X:=X,S0:=S,N:=N,m0:=ups M0 bx,hd0:=hd,gk:=hgk }
 refine calls_of_wp hf hb ?_
 have hR:Rel cx ⟨tl (idx 0 xs),ups M0 bx⟩ { tmps:=us.toArray++Array.replicate (fn.ntmps-us.toArray.size) undef,defers:=[] } w:=by
  refine⟨hd,S,hm,fun t=>?_,Fr.refl _ _,rfl,by simp [hn];show us.length+(N.n-us.length)=N.n;omega,fun b hb=>.inl hb,Le.refl _ _⟩
  simp only
  rw[tl_idx 0]
  simp only[Nat.zero_le,Nat.zero_add,true_and,Nat.sub_zero]
  split
  ·rename_i ht
   have hx:xs[t]?=some (xs.getD t .un):=by rw[List.getD_eq_getElem?_getD,List.getElem?_eq_getElem ht];rfl
   obtain⟨u,h1,h2⟩:=hv.get t _ hx
   have:(us.toArray++Array.replicate (fn.ntmps-us.toArray.size) undef).getD t undef=u:=by
    rw[Array.getD_eq_getD_getElem?,Array.getElem?_append_left (by simp;omega)]
    simp [h1]
   rw[this]
   exact h2
  ·simp only[VR]
 refine wp_mono (h cx rfl rfl code hc _ _ hR) ?_
 rintro e a' w' ⟨s',hq,hR'⟩
 have fin:RetOK s' rs r bx' as→a'.defers=[]∧∃ v,(results fn a'.tmps).run P w'=.ok v w'∧∃ u hd' S',Ending.returned v=.returned u∧Fr w w' X∧Mem (ups M0 (bx'++fresh as)) hd' w' S' X w.heap.size∧VR (ups M0 (bx'++fresh as)) hd' w' S' r u∧(∀ b,S' b→S b∨w.heap.size≤b∨X b)∧Le (ups M0 bx) hd (ups M0 (bx'++fresh as)) hd':=by
  rintro⟨r',ids,h1,h2,h3,h4,h5⟩
  obtain⟨hd1,S1,hm1,hv1,hfr,hdef,hsz,hsub,hle⟩:=hR'
  obtain⟨u,hu1,hu2⟩:=resV_ok hm1 hv1 hr h1
  refine⟨hdef,u,hu1,u,?_⟩
  have hnm:(bx'.map (·.1)).Nodup:=by rw[hbx.names];exact hbx.nd
  obtain⟨hd',S',g1,g2,g3,g4⟩:=ret_ok hm1 hu2 hsub hle (fun x hx=>by
   have:x.1 ∈ bx'.map (·.1):=by rw[hbx.names];exact List.mem_map.2 ⟨x,hx,rfl⟩
   obtain⟨y,hy,e⟩:=List.mem_map.1 this
   exact⟨y.2,by rw[← e];exact hy⟩) hnm h2 h3 h4 h5
  exact⟨hd',S',rfl,hfr,g1,g2,g3,g4⟩
 cases e with
 |normal=>exact fin hq
 |ret=>exact fin hq
 |_=>exact hq.elim
end Go.Proofs.YticdbambknflgaaGreat.Sim
end
section
namespace Go.Proofs.YticdbambknflgaaGreat.Sim
open Go Go.RowKit Go.Deep
set_option linter.unusedVariables false
abbrev ci (n:Int):AV:=.c (I n)
abbrev cb (b:Bool):AV:=.c (B b)
def K.plain:K→Bool
 |.call _=>false
 |.callv=>false
 |_=>true
mutual
def argF (m:M) (bx:U):V→V→Prop
 |.d x,.d y=>x=y
 |.nl _,.nl _=>True
 |.nl _,.d y=>∃ k,y=.sl k []
 |.og i v,.d y=>inU bx i=false∧∃ k mu l,m i=some (.arr v k mu l)∧y=.sl k l
 |.og i v,.og j u=>i=j∧v=u∧∃ k l,m i=some (.arr v k true l)∧(i,O.arr v k true l) ∈ bx
 |.bp i v o,.bp j u q=>i=j∧v=u∧o=q∧∃ cs,m i=some (.box v cs)∧(i,O.box v cs) ∈ bx
 |.ag l,.ag l'=>argFs m bx l l'
 |.cl f l,.cl g l'=>f=g∧argFs m bx l l'
 |.un,.un=>True
 |.ot i v e,.ot j u e'=>i=j∧v=u∧e=e'∧∃ k l,m i=some (.arr v k true l)∧(i,O.arr v k true l) ∈ bx
 |_,_=>False
def argFs (m:M) (bx:U):List V→List V→Prop
 |[],[]=>True
 |x :: l,y :: l'=>argF m bx x y∧argFs m bx l l'
 |_,_=>False
end
mutual
theorem arg_of {m:M} {bx:U}:∀ (x y:V),argF m bx x y→Arg m bx x y
 |.d x,y,h=>by
  cases y with
  |d y=>simp only[argF] at h;subst h;exact .d x
  |_=>simp [argF] at h
 |.nl k,y,h=>by
  cases y with
  |d y=>simp only[argF] at h;obtain⟨k',rfl⟩:=h;exact .nd k k'
  |nl k'=>exact .nl k k'
  |_=>simp [argF] at h
 |.og i v,y,h=>by
  cases y with
  |d y=>simp only[argF] at h;obtain⟨hn,k,mu,l,h1,rfl⟩:=h;exact .og i v k mu l h1 hn
  |og j u=>simp only[argF] at h;obtain⟨rfl,rfl,k,l,h1,h2⟩:=h;exact .ogl _ _ k l h1 h2
  |_=>simp [argF] at h
 |.bp i v o,y,h=>by
  cases y with
  |bp j u q=>simp only[argF] at h;obtain⟨rfl,rfl,rfl,cs,h1,h2⟩:=h;exact .bp _ _ _ cs h1 h2
  |_=>simp [argF] at h
 |.ag l,y,h=>by
  cases y with
  |ag l'=>exact (ags_of l l' (by simpa only[argF] using h)).1
  |_=>simp [argF] at h
 |.cl f l,y,h=>by
  cases y with
  |cl g l'=>simp only[argF] at h;obtain⟨rfl,h⟩:=h;exact (ags_of l l' h).2.1 f
  |_=>simp [argF] at h
 |.un,y,h=>by
  cases y with
  |un=>exact .un
  |_=>simp [argF] at h
 |.ot i v e,y,h=>by
  cases y with
  |ot j u e'=>simp only[argF] at h;obtain⟨rfl,rfl,rfl,k,l,h1,h2⟩:=h;exact .ot _ _ _ k l h1 h2
  |_=>simp [argF] at h
 |.vg _ _,y,h=>by simp [argF] at h
 |.vp _ _ _,y,h=>by simp [argF] at h
 |.mh _ _,y,h=>by simp [argF] at h
 |.fx _ _,y,h=>by simp [argF] at h
 |.z0,y,h=>by simp [argF] at h
 |.ub,y,h=>by simp [argF] at h
 |.ep _ _ _ _,y,h=>by simp [argF] at h
 |.fp _ _,y,h=>by simp [argF] at h
 |.tu _,y,h=>by simp [argF] at h
theorem ags_of {m:M} {bx:U}:∀ (l l':List V),argFs m bx l l'→Arg m bx (.ag l) (.ag l')∧(∀ f,Arg m bx (.cl f l) (.cl f l'))∧Args m bx l l'
 |[],[],_=>⟨.agn,fun f=>.cln f,.nil⟩
 |x :: l,y :: l',h=>by
  simp only[argFs] at h
  have h1:=arg_of x y h.1
  have h2:=ags_of l l' h.2
  exact⟨.agc h1 h2.1,fun f=>.clc h1 (h2.2.1 f),.cons h1 h2.2.2⟩
 |[],_ :: _,h=>by simp [argFs] at h
 |_ :: _,[],h=>by simp [argFs] at h
end
section
variable {P:Program} {cx:Cx} {T:Nat→V} {m m':M} {K0:St→Prop} {d:Nat} {k:K} {xs:List AV} {af:List Nat} {r:List AO} {v:V} {us:U} {j t:Nat} {b c:Bool}
theorem stepA_plain (hk:k.plain=true) {d:Nat} {ys:List V} {m:M} (h:sem k d m ys=some (v,us)) (hp:pre k m ys):StepA P k d ys m v us:=by
 unfold StepA
 split
 ·cases hk
 ·cases hk
 ·exact⟨h,hp⟩
theorem up_self {x:V} (h:T t=x):up T t x=T:=by rw[← h];exact up_id T t
theorem CallForm.plain {m:M} {b:Nat} {q:V} (h:q.wfR [] 0=true):CallForm m b [] q [] []:=⟨rfl,rfl,by simp,by simp,by simp,by simp,rfl,h⟩
theorem CallForm.news {m:M} {b:Nat} {q:V} {as:List O} (h:as.all O.wf=true) (h2:q.wfR [] as.length=true):CallForm m b [] q [] as:=⟨rfl,rfl,by simp,by simp,by simp,by simp,h,h2⟩
end
theorem ret_mk {T:Nat→V} {m:M} {rs:List RV} {r' r:V} {bx':U} {as:List O} (ids:List (Option Nat)) (h:resV ⟨T,m⟩ rs=some r') (h1:exF m bx' ids r' r) (h2:asF m ids as) (h3:(ids.filterMap id).Nodup) (h4:bxF m ids bx'):RetE rs r bx' as .ret ⟨T,m⟩:=⟨r',ids,h,h1,h2,h3,h4⟩
theorem end_mk {T:Nat→V} {m:M} {rs:List RV} {r' r:V} {bx':U} {as:List O} (ids:List (Option Nat)) (h:resV ⟨T,m⟩ rs=some r') (h1:exF m bx' ids r' r) (h2:asF m ids as) (h3:(ids.filterMap id).Nodup) (h4:bxF m ids bx'):RetE rs r bx' as .normal ⟨T,m⟩:=⟨r',ids,h,h1,h2,h3,h4⟩
end Go.Proofs.YticdbambknflgaaGreat.Sim
end
section
namespace Go.Proofs.YticdbambknflgaaGreat.Sim
open Go Go.RowKit Go.Deep
set_option linter.unusedVariables false
mutual
def V.ids:V→List Nat
 |.og i _=>[i]
 |.bp i _ _=>[i]
 |.ep i _ _ _=>[i]
 |.vg i _=>[i]
 |.vp i _ _=>[i]
 |.ot i _ _=>[i]
 |.mh i _=>[i]
 |.cl _ l=>V.idss l
 |.ag l=>V.idss l
 |.tu l=>V.idss l
 |_=>[]
def V.idss:List V→List Nat
 |[]=>[]
 |x :: l=>x.ids++V.idss l
end
section
variable {m m':M}
theorem idss_append (l l':List V):V.idss (l++l')=V.idss l++V.idss l':=by
 induction l with
 |nil=>rfl
 |cons x l ih=>simp [V.idss,ih]
theorem ids_cells (x:V):∀ i ∈ V.idss x.cells,i ∈ x.ids:=by
 intro i hi
 cases x <;> simp_all [V.cells,V.ids,V.idss]
theorem dcells_congr:∀ {l:List V},(∀ i ∈ V.idss l,m' i=m i)→dcells m' l=dcells m l
 |[],_=>rfl
 |x :: l,h=>by
  simp only[V.idss,List.mem_append] at h
  have ih:=dcells_congr (l:=l) fun i hi=>h i (.inr hi)
  have h0:dcell m' x=dcell m x:=by
   unfold dcell
   split
   ·rfl
   ·rfl
   ·rename_i i v
    rw[h i (.inl (by simp [V.ids]))]
   ·rfl
  simp only[dcells,ih,h0]
theorem frz_congr:∀ {l:List V},(∀ i ∈ V.idss l,m' i=m i)→frz m' l=frz m l
 |[],_=>rfl
 |x :: l,h=>by
  simp only[V.idss,List.mem_append] at h
  have ih:=frz_congr (l:=l) fun i hi=>h i (.inr hi)
  cases x <;> simp only[frz,ih]
  rename_i i v
  rw[h i (.inl (by simp [V.ids]))]
theorem fillD_congr {k:Nat}:∀ {ps:List (Nat × V)} {l:List (List D)},(∀ p ∈ ps,∀ i ∈ p.2.ids,m' i=m i)→fillD m' k l ps=fillD m k l ps
 |[],l,_=>rfl
 |(j,x) :: ps,l,h=>by
  have h0:dcells m' x.cells=dcells m x.cells:=dcells_congr fun i hi=>h (j,x) (by simp) i (ids_cells x i hi)
  unfold fillD
  rw[h0]
  split
  ·split
   ·exact fillD_congr fun p hp=>h p (by simp [hp])
   ·rfl
  ·rfl
theorem nv_congr' {d:Nat} (h:m' d=m d):nv m' d=nv m d:=by unfold nv;rw[h]
theorem mem_idss {x:V} {l:List V} (h:x ∈ l) {i:Nat} (hi:i ∈ x.ids):i ∈ V.idss l:=by
 induction l with
 |nil=>cases h
 |cons y l ih =>
  simp only[V.idss,List.mem_append]
  rcases List.mem_cons.1 h with rfl|h
  ·exact .inl hi
  ·exact .inr (ih h)
theorem news_congr {k:Nat} {y:V} (h:∀ i ∈ y.ids,m' i=m i):news k m' y=news k m y:=by
 unfold news
 split
 ·rfl
 ·rfl
 ·rename_i i v;rw[h i (by simp [V.ids])]
 ·rfl
theorem curB_congr {i v:Nat} (h:m' i=m i):curB m' i v=curB m i v:=by unfold curB;rw[h]
theorem curV_congr {i v:Nat} (h:m' i=m i):curV m' i v=curV m i v:=by unfold curV;rw[h]
theorem curA_congr {i v:Nat} (h:m' i=m i):curA m' i v=curA m i v:=by unfold curA;rw[h]
theorem sem_congr {k:K} {d:Nat} {xs:List V} (h:∀ i ∈ V.idss xs,m' i=m i) (hd:m' d=m d):sem k d m' xs=sem k d m xs:=by
 have hn:=nv_congr' hd
 cases k <;> simp only[sem]
 case alloc z=>rw[hn]
 case box =>
  unfold semBox
  split
  ·rw[hn]
  ·rfl
 case bsl k z n fs =>
  unfold semBsl
  cases z with
  |nil=>simp only[hn]
  |cons y0 r0 =>
  have h0:fillD m' k (List.replicate n (zD (y0 :: r0))) (fs.zip xs)=fillD m k (List.replicate n (zD (y0 :: r0))) (fs.zip xs):=fillD_congr fun p hp i hi=>h i (mem_idss (List.of_mem_zip hp).2 hi)
  have h1:frz m' (xs.flatMap V.cells)=frz m (xs.flatMap V.cells):=frz_congr fun i hi=>by
   have:∀ (xs:List V),i ∈ V.idss (xs.flatMap V.cells)→i ∈ V.idss xs:=by
    intro xs
    induction xs with
    |nil=>intro h;simpa using h
    |cons x xs ih =>
     intro h
     rw[List.flatMap_cons,idss_append] at h
     simp only[V.idss,List.mem_append]
     rcases List.mem_append.1 h with h|h
     ·exact .inl (ids_cells x i h)
     ·exact .inr (ih h)
   exact h i (this xs hi)
  dsimp only
  rw[h0,h1,hn]
 case load n g =>
  unfold semLoad
  split
  ·rename_i i v o;rw[h i (by simp [V.idss,V.ids])]
  ·rfl
  ·rename_i i v e o;rw[h i (by simp [V.idss,V.ids])]
  ·rename_i i v e;rw[h i (by simp [V.idss,V.ids])]
  ·rfl
 case store n =>
  unfold semStore
  split
  ·rename_i i v o x;rw[h i (by simp [V.idss,V.ids])]
  ·rename_i i v e o x
   rw[h i (by simp [V.idss,V.ids]),dcells_congr (l:=x.cells) fun j hj=>h j (by simp only[V.idss,List.append_nil,List.mem_append];exact .inr (ids_cells x j hj)),frz_congr (l:=x.cells) fun j hj=>h j (by simp only[V.idss,List.append_nil,List.mem_append];exact .inr (ids_cells x j hj))]
  ·rename_i i v e x;rw[h i (by simp [V.idss,V.ids])]
  ·rfl
 case nck =>
  unfold semNck
  split
  ·rename_i i v o;rw[curB_congr (h i (by simp [V.idss,V.ids]))]
  ·rename_i i v e o;rw[curA_congr (h i (by simp [V.idss,V.ids]))]
  ·rfl
  ·rfl
 case isn ne =>
  unfold semIsn
  split
  ·rfl
  ·rfl
  ·rename_i i v k;rw[h i (by simp [V.idss,V.ids])]
  ·rfl
 case mks k z b =>
  unfold semMks
  split
  ·rw[hn]
  ·rfl
 case iad k =>
  unfold semIad
  split
  ·rfl
  ·rfl
  ·rename_i i v e o kk n;rw[curB_congr (h i (by simp [V.idss,V.ids]))]
  ·rfl
  ·rfl
  ·rfl
 case slc lo hi mx k =>
  unfold semSlc
  split
  ·rfl
  ·rfl
  ·rename_i i v r;rw[h i (by simp [V.idss,V.ids])]
  ·rfl
 case fad o =>
  unfold semFad
  split
  ·rename_i i v o;rw[curB_congr (h i (by simp [V.idss,V.ids]))]
  ·rename_i i v e o;rw[curA_congr (h i (by simp [V.idss,V.ids]))]
  ·rfl
  ·rename_i i v e;rw[curV_congr (h i (by simp [V.idss,V.ids]))]
  ·rfl
 case iada c k =>
  unfold semIada
  split
  ·rename_i i v o kk n;rw[curB_congr (h i (by simp [V.idss,V.ids]))]
  ·rfl
 case len =>
  unfold semLen
  split
  ·rfl
  ·rfl
  ·rename_i i v;rw[h i (by simp [V.idss,V.ids])]
  ·rename_i i v e o;rw[curB_congr (h i (by simp [V.idss,V.ids]))]
  ·rename_i i v;rw[h i (by simp [V.idss,V.ids])]
  ·rename_i i v e;rw[h i (by simp [V.idss,V.ids])]
  ·rfl
 case app k b =>
  unfold semApp
  split
  ·rename_i i v y;rw[h i (by simp [V.idss,V.ids]),news_congr (y:=y) fun j hj=>h j (by simp [V.idss,hj])]
  ·rename_i k' j u;rw[h j (by simp [V.idss,V.ids]),hn]
  ·rename_i k' y hne;rw[news_congr (y:=y) fun j hj=>h j (by simp [V.idss,V.ids,hj]),hn]
  ·rename_i y;rw[news_congr (y:=y) fun j hj=>h j (by simp [V.idss,V.ids,hj]),hn]
  ·rename_i i v e o y;rw[h i (by simp [V.idss,V.ids]),news_congr (y:=y) fun j hj=>h j (by simp [V.idss,hj]),hn]
  ·rename_i i v j u;rw[h i (by simp [V.idss,V.ids]),h j (by simp [V.idss,V.ids])]
  ·rename_i i v k' l;rw[h i (by simp [V.idss,V.ids])]
  ·rename_i k' l y;rw[news_congr (y:=y) fun j hj=>h j (by simp [V.idss,V.ids,hj]),hn]
  ·rfl
 case bslv n =>
  unfold semBslv
  rw[hn]
 case bslw k =>
  unfold semBslw
  rw[hn]
 case tail k =>
  unfold semTail
  split
  ·rename_i i v kk n;rw[h i (by simp [V.idss,V.ids])]
  ·rfl
 case cutm k =>
  unfold semCutm
  split
  ·rename_i i v kk n kk' n';rw[h i (by simp [V.idss,V.ids])]
  ·rfl
 case mkm =>
  unfold semMkm
  split
  ·rw[hn]
  ·rfl
 case tob =>
  unfold semTob
  split
  ·rw[hn]
  ·rfl
 case tos =>
  unfold semTos
  split
  ·rw[news_congr fun i hi=>h i (by simpa [V.idss] using hi)]
  ·rfl
 case lkp =>
  unfold semLkp
  split
  ·rename_i i v n;rw[h i (by simp [V.idss,V.ids])]
  ·rfl
 case mup =>
  unfold semMup
  split
  ·rename_i i v n;rw[h i (by simp [V.idss,V.ids])]
  ·rfl
 case cpy k =>
  unfold semCpy
  split
  ·rename_i i v y;rw[h i (by simp [V.idss,V.ids]),news_congr (y:=y) fun j hj=>h j (by simp [V.idss,hj])]
  ·rfl
theorem pre_congr {k:K} {xs:List V} (h:∀ i ∈ V.idss xs,m' i=m i):pre k m' xs=pre k m xs:=by
 cases k <;> simp only[pre]
 case slc lo hi mx k =>
  unfold preSlc
  split
  ·rfl
  ·rfl
  ·rename_i i v r;rw[h i (by simp [V.idss,V.ids])]
  ·rfl
 case iad k =>
  unfold preIad
  split
  ·rfl
  ·rename_i i v kk n;rw[h i (by simp [V.idss,V.ids])]
  ·rfl
  ·rename_i i v kk n;rw[h i (by simp [V.idss,V.ids])]
  ·rename_i i v e kk n;rw[h i (by simp [V.idss,V.ids])]
  ·rfl
 case tail k =>
  unfold preTail
  split
  ·rename_i i v kk n;rw[h i (by simp [V.idss,V.ids])]
  ·rfl
 case cutm k =>
  unfold preCutm
  split
  ·rename_i i v kk n kk' n';rw[h i (by simp [V.idss,V.ids])]
  ·rfl
 case app k b =>
  unfold preApp
  split
  ·rename_i i v y;rw[h i (by simp [V.idss,V.ids]),news_congr (y:=y) fun j hj=>h j (by simp [V.idss,hj])]
  ·rename_i i v e o y;rw[news_congr (y:=y) fun j hj=>h j (by simp [V.idss,hj])]
  ·rename_i i v j u;rw[h i (by simp [V.idss,V.ids]),h j (by simp [V.idss,V.ids])]
  ·rename_i i v k' l;rw[h i (by simp [V.idss,V.ids])]
  ·rename_i k' l y;rw[news_congr (y:=y) fun j hj=>h j (by simp [V.idss,V.ids,hj])]
  ·rename_i k' j u;rw[h j (by simp [V.idss,V.ids])]
  ·rename_i x y _ _ _ _ _ _;rw[news_congr (y:=y) fun j hj=>h j (by simp [V.idss,hj])]
  ·rfl
theorem arg_congr {bx:U} {x y:V} (h:Arg m bx x y):(∀ i ∈ x.ids,m' i=m i)→Arg m' bx x y:=by
 induction h with
 |d x=>intro _;exact .d x
 |nl k k'=>intro _;exact .nl k k'
 |nd k k'=>intro _;exact .nd k k'
 |un=>intro _;exact .un
 |ot i v e k l hi h2=>intro h;exact .ot i v e k l (by rw[h i (by simp [V.ids])];exact hi) h2
 |og i v k mu l hi hn=>intro h;exact .og i v k mu l (by rw[h i (by simp [V.ids])];exact hi) hn
 |ogl i v k l hi h2=>intro h;exact .ogl i v k l (by rw[h i (by simp [V.ids])];exact hi) h2
 |bp i v o cs hi h2=>intro h;exact .bp i v o cs (by rw[h i (by simp [V.ids])];exact hi) h2
 |agn=>intro _;exact .agn
 |agc h1 h2 ih1 ih2=>intro h;exact .agc (ih1 fun i hi=>h i (by simp only[V.ids,V.idss,List.mem_append];exact .inl hi)) (ih2 fun i hi=>h i (by simp only[V.ids,V.idss,List.mem_append] at hi ⊢;exact .inr hi))
 |cln f=>intro _;exact .cln f
 |clc h1 h2 ih1 ih2=>intro h;exact .clc (ih1 fun i hi=>h i (by simp only[V.ids,V.idss,List.mem_append];exact .inl hi)) (ih2 fun i hi=>h i (by simp only[V.ids,V.idss,List.mem_append] at hi ⊢;exact .inr hi))
theorem args_congr {bx:U} {xs ys:List V} (h:Args m bx xs ys):(∀ i ∈ V.idss xs,m' i=m i)→Args m' bx xs ys:=by
 induction h with
 |nil=>intro _;exact .nil
 |cons h1 h2 ih=>intro h;exact .cons (arg_congr h1 fun i hi=>h i (by simp only[V.idss,List.mem_append];exact .inl hi)) (ih fun i hi=>h i (by simp only[V.idss,List.mem_append];exact .inr hi))
mutual
theorem flat_ids:∀ (x:V) (i:Nat),i ∈ V.idss x.flat→i ∈ x.ids
 |.ag l,i,h=>by simp only[V.flat] at h;simp only[V.ids];exact flats_ids l i h
 |.cl _ l,i,h=>by simp only[V.flat] at h;simp only[V.ids];exact flats_ids l i h
 |.tu l,i,h=>by simp only[V.flat] at h;simp only[V.ids];exact flats_ids l i h
 |.un,i,h|.d _,i,h|.nl _,i,h|.z0,i,h|.ub,i,h|.og _ _,i,h|.bp _ _ _,i,h|.ep _ _ _ _,i,h|.fp _ _,i,h|.vg _ _,i,h|.vp _ _ _,i,h|.ot _ _ _,i,h|.mh _ _,i,h|.fx _ _,i,h=>by simpa [V.flat,V.idss] using h
theorem flats_ids:∀ (l:List V) (i:Nat),i ∈ V.idss (V.flats l)→i ∈ V.idss l
 |[],i,h=>by simpa [V.flats] using h
 |x :: l,i,h=>by
  simp only[V.flats,idss_append,List.mem_append] at h
  simp only[V.idss,List.mem_append]
  exact h.imp (flat_ids x i) (flats_ids l i)
end
mutual
theorem ren_congr {us:U} {b n:Nat} (h:∀ j,j<n→m' (b+j)=m (b+j)):∀ (r:V),r.wfR us n=true→r.ren b m'=r.ren b m
 |.og i v,hr=>by
  simp only[V.wfR] at hr
  by_cases hi:i<1000000
  ·simp only[V.ren,if_pos hi]
  rw[if_neg hi] at hr
  simp only[Bool.and_eq_true,decide_eq_true_eq] at hr
  simp only[V.ren,nv_congr' (h (i-1000000) (by omega))]
 |.bp i v o,hr=>by
  simp only[V.wfR] at hr
  by_cases hi:i<1000000
  ·simp only[V.ren,if_pos hi]
  rw[if_neg hi] at hr
  simp only[Bool.and_eq_true,decide_eq_true_eq] at hr
  simp only[V.ren,nv_congr' (h (i-1000000) (by omega))]
 |.ag l,hr=>by simp only[V.ren];rw[rens_congr h l (by simpa only[V.wfR] using hr)]
 |.tu l,hr=>by simp only[V.ren];rw[rens_congr h l (by simpa only[V.wfR] using hr)]
 |.un,_|.d _,_|.nl _,_|.z0,_|.ub,_|.ep _ _ _ _,_|.fp _ _,_|.cl _ _,_|.vg _ _,_|.vp _ _ _,_|.ot _ _ _,_|.mh _ _,_|.fx _ _,_=>by simp only[V.ren]
theorem rens_congr {us:U} {b n:Nat} (h:∀ j,j<n→m' (b+j)=m (b+j)):∀ (r:List V),V.wfRs us n r=true→V.rens b m' r=V.rens b m r
 |[],_=>rfl
 |x :: l,hr=>by
  simp only[V.wfRs,Bool.and_eq_true] at hr
  simp only[V.rens,ren_congr h x hr.1,rens_congr h l hr.2]
end
theorem freshIn_congr {b:Nat} {as:List O} (h:∀ j,j<as.length→m' (b+j)=m (b+j)):freshIn b m' as=freshIn b m as:=by
 unfold freshIn
 apply List.map_congr_left
 rintro⟨o,j⟩ hj
 have:=List.mk_mem_zipIdx_iff_getElem?.1 hj
 have hlt:j<as.length:=(List.getElem?_eq_some_iff.1 this).1
 simp only[nv_congr' (h j hlt)]
theorem lentOut_ids {bx:U} {i:Nat}:∀ {l:List V},i ∈ V.idss (lentOut bx l)→i ∈ V.idss l
 |[],h=>by simpa [lentOut] using h
 |x :: l,h=>by
  have ih:=lentOut_ids (bx:=bx) (i:=i) (l:=l)
  cases x with
  |og j u =>
   simp only[lentOut] at h
   simp only[V.idss,List.mem_append]
   split at h
   ·exact .inr (ih h)
   ·simp only[V.idss,List.mem_append] at h;exact h.imp id ih
  |_=>simp only[lentOut,V.idss,List.mem_append] at h ⊢;exact h.imp id ih
theorem call_congr {P:Program} {f:FuncId} {xs:List V} {d:Nat} {v:V} {us:U} (hc:CallR P f xs m d v us) (h:∀ i ∈ V.idss xs,m' i=m i) (hu:∀ x ∈ us,m' x.1=m x.1):CallR P f xs m' d v us:=by
 rcases hc with ⟨ys,bx,r,bx',as,hD,hF,hA,rfl,rfl⟩|⟨ys,bx,r,bx',hD,hF,hA,hr1,hr2,hr3,rfl,rfl⟩
 rotate_left
 ·have hbox:∀ x ∈ bx,m' x.1=m x.1:=fun x hx=>by
   obtain⟨o,ho⟩:=hF.find' (i:=x.1) (o0:=x.2) hx
   exact hu (x.1,o) (by simp only[List.mem_append];exact .inl ho)
  exact .inr ⟨ys,bx,r,bx',hD,⟨hF.names,hF.kinds,hF.nd,hF.low,fun x hx=>⟨(hF.box x hx).1,by rw[hbox x hx];exact (hF.box x hx).2⟩,hF.box',hF.wf,hF.res⟩,args_congr hA h,hr1,hr2,hr3,(ren_congr (n:=([]:List O).length) (fun j hj=>by simp at hj) r hF.res).symm,by rw[freshIn_congr (as:=[]) (fun j hj=>by simp at hj)]⟩
 have hnew:∀ j,j<as.length→m' (1000*(d+2)+j)=m (1000*(d+2)+j):=fun j hj =>
  hu (_,(as[j]).setv (nv m (1000*(d+2)+j))) (by
   simp only[List.mem_append]
   exact .inr (.inr (freshIn_mem (List.getElem?_eq_getElem hj))))
 have hbox:∀ x ∈ bx,m' x.1=m x.1:=fun x hx=>by
  obtain⟨o,ho⟩:=hF.find' (i:=x.1) (o0:=x.2) hx
  exact hu (x.1,o) (by simp only[List.mem_append];exact .inr (.inl ho))
 refine .inl ⟨ys,bx,r,bx',as,hD,⟨hF.names,hF.kinds,hF.nd,hF.low,fun x hx=>⟨(hF.box x hx).1,by rw[hbox x hx];exact (hF.box x hx).2⟩,hF.box',hF.wf,hF.res⟩,args_congr hA h,(ren_congr hnew r hF.res).symm,?_⟩
 rw[frz_congr fun i hi=>h i (flats_ids xs i (lentOut_ids hi)),freshIn_congr hnew]
def looks:K→Bool
 |.mov=>false
 |.pick=>false
 |.box=>false
 |.build _ _=>false
 |.bin _=>false
 |.beq _=>false
 |.seq _ _=>false
 |.un _=>false
 |.conv _=>false
 |.mkf _=>false
 |.fld _ _ _=>false
 |.ixs=>false
 |.ixa _ _ _=>false
 |.ext _=>false
 |.lens=>false
 |.mn=>false
 |.mx=>false
 |_=>true
theorem sem_congr' {k:K} {d:Nat} {xs:List V} (h:looks k=true→∀ i ∈ V.idss xs,m' i=m i) (hd:m' d=m d):sem k d m' xs=sem k d m xs:=by
 by_cases hk:looks k=true
 ·exact sem_congr (h hk) hd
 ·cases k <;> simp only[looks,not_true_eq_false] at hk <;> simp only[sem]
  unfold semBox
  rw[nv_congr' hd]
theorem pre_congr' {k:K} {xs:List V} (h:looks k=true→∀ i ∈ V.idss xs,m' i=m i):pre k m' xs=pre k m xs:=by
 by_cases hk:looks k=true
 ·exact pre_congr (h hk)
 ·cases k <;> simp only[looks,not_true_eq_false] at hk <;> simp only[pre]
theorem stepA_congr {P:Program} {k:K} {d:Nat} {xs:List V} {v:V} {us:U} (hs:StepA P k d xs m v us) (h:looks k=true→∀ i ∈ V.idss xs,m' i=m i) (hd:m' d=m d) (hu:∀ x ∈ us,m' x.1=m x.1):StepA P k d xs m' v us:=by
 unfold StepA at hs ⊢
 split at hs
 ·exact call_congr hs (h rfl) hu
 ·obtain⟨f,caps,ys,e,⟨hfn,hc⟩|⟨g,hg,hfn,hc⟩⟩:=hs
  ·refine⟨f,caps,ys,e,.inl ⟨hfn,call_congr hc (fun i hi=>h rfl i ?_) hu⟩⟩
   subst e
   simp only[V.idss,V.ids,idss_append,List.mem_append] at hi ⊢
   exact hi.symm
  ·refine⟨f,caps,ys,e,.inr ⟨g,hg,hfn,call_congr hc (fun i hi=>h rfl i ?_) hu⟩⟩
   subst e
   simp only[V.idss,V.ids,idss_append,List.mem_append] at hi ⊢
   exact hi
 ·exact⟨by rw[sem_congr' h hd];exact hs.1,by rw[pre_congr' h];exact hs.2⟩
end
end Go.Proofs.YticdbambknflgaaGreat.Sim
end
