/- A call with what pointers and slices lead to, under the caller's names: of no program. Conditions: none. -/
import Derived.Test.YtacfbiegbdlldaaGreatDoorVSimV
section
namespace Go.Proofs.YtacfbiegbdlldaaGreatDoor.Sim
open Go Go.RowKit Go.Deep
set_option linter.unusedVariables false
structure Ent where
 o:AO
 v:V
 us:U
 xs:List V
def Ent.wr (e:Ent):List Nat:=e.us.map (·.1)
def Ent.deps (e:Ent):List Nat:=(if looks e.o.k=true then V.idss e.xs else [])++e.wr++[e.o.dst.getD 0]
def usesA:List AV→List Nat
 |[]=>[]
 |.t n :: r=>n :: usesA r
 |.c _ :: r=>usesA r
def AO.uses (o:AO):List Nat:=usesA o.xs++(match o.guard with
 |some (_,t,_)=>[t]
 |none=>[])
def noneIn (d:Option Nat) (l:List Nat):Bool:=match d with
 |some d=>!l.contains d
 |none=>true
def apart (l r:List Nat):Bool:=l.all fun i=>!r.contains i
def indep (e f:Ent):Bool:=noneIn e.o.dst f.o.uses&&noneIn f.o.dst e.o.uses&&noneIn e.o.dst f.o.dst.toList&&apart e.wr f.deps&&apart f.wr e.deps
def ancL:List AO→List (List Nat)→List (List Nat)
 |[],acc=>acc
 |o :: r,acc=>ancL r (acc++[o.after++o.after.flatMap fun j=>acc.getD j []])
def indepAll (anc:List (List Nat)) (L:List Ent):Nat→List Ent→Bool
 |_,[]=>true
 |j,f :: r=>((L.take j).zipIdx.all fun p=>(anc.getD j []).contains p.2||indep p.1 f)&&indepAll anc L (j+1) r
def wfAfter:Nat→List AO→Bool
 |_,[]=>true
 |i,o :: r=>o.after.all (fun j=>decide (j<i))&&wfAfter (i+1) r
def OpR (P:Program) (s:St) (e:Ent):Prop:=match e.o.guard with
 |none=>e.xs=e.o.xs.map (ev s.T)∧StepA P e.o.k (e.o.dst.getD 0) e.xs s.m e.v e.us
 |some (_,t,b)=>∃ c,gv (s.T t)=some c∧((c=some b∧e.xs=e.o.xs.map (ev s.T)∧StepA P e.o.k (e.o.dst.getD 0) e.xs s.m e.v e.us)∨(c ≠ some b∧e.v=.tu []∧e.us=[]∧e.xs=[]))
def putE (s:St) (e:Ent):St:=s.put e.o.dst e.v e.us
def TextR (P:Program):List Ent→St→St→Prop
 |[],s,s'=>s'=s
 |e :: r,s,s'=>OpR P s e∧TextR P r (putE s e) s'
def runE (p:Nat→Bool):Nat→List Ent→St→St
 |_,[],s=>s
 |k,e :: r,s=>runE p (k+1) r (if p k=true then putE s e else s)
section
variable {P:Program} {p q:Nat→Bool}
theorem ups_hit {i:Nat}:∀ {us:U} {m m2:M},i ∈ us.map (·.1)→ups m us i=ups m2 us i
 |[],_,_,h=>by simp at h
 |(j,o) :: us,m,m2,h=>by
  by_cases hi:i ∈ us.map (·.1)
  ·rw[ups,ups];exact ups_hit hi
  ·have hno:∀ x ∈ us,x.1 ≠ i:=fun x hx e=>hi (List.mem_map.2 ⟨x,hx,e⟩)
   have:i=j:=by
    simp only[List.map_cons,List.mem_cons] at h
    exact h.resolve_right hi
   subst this
   rw[ups,ups,ups_not hno,ups_not hno,up_same,up_same]
theorem ups_miss {i:Nat} {us:U} {m:M} (h:i ∉ us.map (·.1)):ups m us i=m i:=ups_not fun x hx e=>h (List.mem_map.2 ⟨x,hx,e⟩)
theorem putE_T (s:St) (e:Ent) (t:Nat):(putE s e).T t=if e.o.dst=some t then e.v else s.T t:=by
 unfold putE St.put
 cases h:e.o.dst with
 |none=>simp
 |some d =>
  simp only[up,Option.some.injEq]
  by_cases e':t=d
  ·subst e';simp
  ·rw[if_neg e',if_neg fun h=>e' h.symm]
theorem putE_m (s:St) (e:Ent):(putE s e).m=ups s.m e.us:=rfl
theorem runE_T {t:Nat}:∀ {L:List Ent} {k:Nat} {s s2:St},(∀ j e,L[j]?=some e→e.o.dst=some t→p (k+j)=q (k+j))→s.T t=s2.T t→(runE p k L s).T t=(runE q k L s2).T t
 |[],k,s,s2,_,h=>h
 |e :: r,k,s,s2,hp,h=>by
  simp only[runE]
  refine runE_T (fun j f hj hd=>?_) ?_
  ·have:=hp (j+1) f (by simpa using hj) hd
   rwa [show k+(j+1)=k+1+j by omega] at this
  ·by_cases hd:e.o.dst=some t
   ·have hpq:=hp 0 e rfl hd
    simp only[Nat.add_zero] at hpq
    rw[hpq]
    split
    ·rw[putE_T,putE_T,if_pos hd,if_pos hd]
    ·exact h
   ·split <;> split <;> simp only[putE_T,if_neg hd,h]
theorem runE_m {i:Nat}:∀ {L:List Ent} {k:Nat} {s s2:St},(∀ j e,L[j]?=some e→i ∈ e.wr→p (k+j)=q (k+j))→s.m i=s2.m i→(runE p k L s).m i=(runE q k L s2).m i
 |[],k,s,s2,_,h=>h
 |e :: r,k,s,s2,hp,h=>by
  simp only[runE]
  refine runE_m (fun j f hj hd=>?_) ?_
  ·have:=hp (j+1) f (by simpa using hj) hd
   rwa [show k+(j+1)=k+1+j by omega] at this
  ·by_cases hd:i ∈ e.wr
   ·have hpq:=hp 0 e rfl hd
    simp only[Nat.add_zero] at hpq
    rw[hpq]
    split
    ·rw[putE_m,putE_m];exact ups_hit hd
    ·exact h
   ·split <;> split <;> simp only[putE_m,ups_miss (show i ∉ e.us.map (·.1) from hd),h]
theorem runE_none:∀ {L:List Ent} {k:Nat} {s:St},(∀ j,k≤j→p j=false)→runE p k L s=s
 |[],_,_,_=>rfl
 |e :: r,k,s,h=>by
  simp only[runE]
  rw[h k (Nat.le_refl _)]
  exact runE_none fun j hj=>h j (by omega)
theorem runE_congr:∀ {L:List Ent} {k:Nat} {s:St},(∀ j,k≤j→p j=q j)→runE p k L s=runE q k L s
 |[],_,_,_=>rfl
 |e :: r,k,s,h=>by
  simp only[runE]
  rw[h k (Nat.le_refl _)]
  exact runE_congr fun j hj=>h j (by omega)
theorem textR_get:∀ {L:List Ent} {k:Nat} {s s':St},TextR P L s s'→∀ (i:Nat) (e:Ent),L[i]?=some e→OpR P (runE (fun j=>decide (j<k+i)) k L s) e
 |[],k,s,s',_,i,e,h=>by simp at h
 |f :: r,k,s,s',ht,0,e,h=>by
  simp only[List.getElem?_cons_zero,Option.some.injEq] at h
  subst h
  rw[runE_none (fun j hj=>by simp;omega)]
  exact ht.1
 |f :: r,k,s,s',ht,i+1,e,h=>by
  simp only[runE]
  rw[if_pos (by simp)]
  have:=textR_get (k:=k+1) ht.2 i e (by simpa using h)
  rwa [show (fun j=>decide (j<k+(i+1)))=(fun j=>decide (j<k+1+i)) from funext fun j=>by congr 1;apply propext;omega]
theorem textR_end:∀ {L:List Ent} {k:Nat} {s s':St},TextR P L s s'→(∀ j,k≤j→j<k+L.length→p j=true)→runE p k L s=s'
 |[],k,s,s',h,_=>by simp only[TextR] at h;simp only[runE];exact h.symm
 |f :: r,k,s,s',h,hp=>by
  simp only[runE]
  rw[if_pos (hp k (Nat.le_refl _) (by simp))]
  exact textR_end h.2 fun j h1 h2=>hp j (by omega) (by simp;omega)
theorem put_comm {s:St} {e f:Ent} (hd:noneIn e.o.dst f.o.dst.toList=true) (hw:∀ i ∈ e.wr,i ∉ f.wr):putE (putE s e) f=putE (putE s f) e:=by
 have h1:(putE (putE s e) f).T=(putE (putE s f) e).T:=by
  funext t
  simp only[putE_T]
  by_cases h1:f.o.dst=some t
  ·by_cases h2:e.o.dst=some t
   ·exfalso
    unfold noneIn at hd
    rw[h2,h1] at hd
    simp at hd
   ·rw[if_pos h1,if_neg h2,if_pos h1]
  ·rw[if_neg h1,if_neg h1]
 have h2:(putE (putE s e) f).m=(putE (putE s f) e).m:=by
  funext i
  simp only[putE_m]
  by_cases h1:i ∈ f.us.map (·.1)
  ·rw[ups_hit (m2:=s.m) h1,ups_miss (us:=e.us) (fun h=>hw i h h1)]
  ·rw[ups_miss h1]
   by_cases h2:i ∈ e.us.map (·.1)
   ·exact ups_hit h2
   ·rw[ups_miss h2,ups_miss h2,ups_miss h1]
 cases h:putE (putE s e) f
 cases h':putE (putE s f) e
 rw[h,h'] at h1 h2
 simp only at h1 h2
 subst h1
 subst h2
 rfl
theorem runE_put {e:Ent}:∀ {L:List Ent} {k:Nat} {s:St},(∀ j f,L[j]?=some f→p (k+j)=true→noneIn e.o.dst f.o.dst.toList=true∧∀ i ∈ e.wr,i ∉ f.wr)→runE p k L (putE s e)=putE (runE p k L s) e
 |[],k,s,_=>rfl
 |f :: r,k,s,h=>by
  simp only[runE]
  have ih:=fun s=>runE_put (L:=r) (k:=k+1) (s:=s) fun j g hj hp=>h (j+1) g (by simpa using hj) (by rwa [show k+(j+1)=k+1+j by omega])
  split
  ·rename_i hk
   obtain⟨h1,h2⟩:=h 0 f rfl hk
   rw[put_comm h1 h2]
   exact ih _
  ·exact ih _
theorem runE_insert {e:Ent}:∀ {L:List Ent} {k i:Nat} {s:St},L[i]?=some e→p (k+i)=false→(∀ j f,L[j]?=some f→i<j→p (k+j)=true→noneIn e.o.dst f.o.dst.toList=true∧∀ i ∈ e.wr,i ∉ f.wr) →
  runE (fun j=>if j=k+i then true else p j) k L s=putE (runE p k L s) e
 |[],k,i,s,h,_,_=>by simp at h
 |f :: r,k,0,s,h,hp,hi=>by
  simp only[List.getElem?_cons_zero,Option.some.injEq] at h
  subst h
  simp only[runE,Nat.add_zero,if_true]
  simp only[Nat.add_zero] at hp
  rw[hp]
  rw[runE_congr (q:=p) (fun j hj=>by rw[if_neg (by omega)])]
  simp only[Bool.false_eq_true,if_false]
  exact runE_put fun j g hj hpj=>hi (j+1) g (by simpa using hj) (by omega) (by rwa [show k+(j+1)=k+1+j by omega])
 |f :: r,k,i+1,s,h,hp,hi=>by
  simp only[runE]
  have hk:(if k=k+(i+1) then true else p k)=p k:=if_neg (by omega)
  simp only[hk]
  have ih:=fun s=>runE_insert (L:=r) (k:=k+1) (i:=i) (s:=s) (by simpa using h) (by rwa [show k+1+i=k+(i+1) by omega]) fun j g hj hij hpj=>hi (j+1) g (by simpa using hj) (by omega) (by rwa [show k+(j+1)=k+1+j by omega])
  rw[show (fun j=>if j=k+(i+1) then true else p j)=(fun j=>if j=k+1+i then true else p j) from funext fun j=>by rw[show k+(i+1)=k+1+i by omega]]
  exact ih _
theorem ancL_ok:∀ {ops:List AO} {acc:List (List Nat)},(∀ j o,ops[j]?=some o→p (acc.length+j)=true→∀ a ∈ o.after,p a=true)→(∀ j a,a ∈ acc.getD j []→p j=true→p a=true)→∀ j a,a ∈ (ancL ops acc).getD j []→p j=true→p a=true
 |[],acc,_,h,j,a,ha,hp=>h j a ha hp
 |o :: r,acc,hc,h,j,a,ha,hp=>by
  simp only[ancL] at ha
  refine ancL_ok (ops:=r) (fun j' o' hj' hp'=>?_) (fun j' a' ha' hp'=>?_) j a ha hp
  ·rw[List.length_append,List.length_singleton] at hp'
   exact hc (j'+1) o' (by simpa using hj') (by rwa [show acc.length+(j'+1)=acc.length+1+j' by omega])
  ·rw[List.getD_eq_getElem?_getD] at ha'
   rcases Nat.lt_trichotomy j' acc.length with hlt|heq|hgt
   ·rw[List.getElem?_append_left hlt] at ha'
    exact h j' a' (by rw[List.getD_eq_getElem?_getD];exact ha') hp'
   ·subst heq
    rw[List.getElem?_append_right (Nat.le_refl _),Nat.sub_self] at ha'
    simp only[List.getElem?_cons_zero,Option.getD_some,List.mem_append,List.mem_flatMap] at ha'
    have hc0:=hc 0 o rfl (by simpa using hp')
    rcases ha' with ha'|⟨b,hb,ha'⟩
    ·exact hc0 a' ha'
    ·exact h b a' ha' (hc0 b hb)
   ·rw[List.getElem?_eq_none (by simp;omega)] at ha'
    simp at ha'
theorem indepAll_get {anc:List (List Nat)} {L:List Ent}:∀ {r:List Ent} {k:Nat},indepAll anc L k r=true→∀ j f,r[j]?=some f→∀ i e,i<k+j→L[i]?=some e→(anc.getD (k+j) []).contains i=true∨indep e f=true
 |[],k,_,j,f,h,_,_,_,_=>by simp at h
 |g :: r,k,h,0,f,hf,i,e,hij,hi=>by
  simp only[List.getElem?_cons_zero,Option.some.injEq] at hf
  subst hf
  simp only[indepAll,Bool.and_eq_true] at h
  have hil:i<L.length:=(List.getElem?_eq_some_iff.1 hi).1
  have:=List.all_eq_true.1 h.1 (e,i) (List.mk_mem_zipIdx_iff_getElem?.2 (by rw[List.getElem?_take,if_pos (by omega)];simpa using hi))
  simpa using this
 |g :: r,k,h,j+1,f,hf,i,e,hij,hi=>by
  simp only[indepAll,Bool.and_eq_true] at h
  have:=indepAll_get h.2 j f (by simpa using hf) i e (by omega) hi
  rwa [show k+1+j=k+(j+1) by omega] at this
theorem wfAfter_get:∀ {r:List AO} {k:Nat},wfAfter k r=true→∀ j o,r[j]?=some o→∀ a ∈ o.after,a<k+j
 |[],k,_,j,o,h=>by simp at h
 |g :: r,k,h,0,o,ho=>by
  simp only[List.getElem?_cons_zero,Option.some.injEq] at ho
  subst ho
  simp only[wfAfter,Bool.and_eq_true] at h
  intro a ha
  have:=List.all_eq_true.1 h.1 a ha
  simpa using this
 |g :: r,k,h,j+1,o,ho=>by
  simp only[wfAfter,Bool.and_eq_true] at h
  intro a ha
  have:=wfAfter_get h.2 j o (by simpa using ho) a ha
  omega
theorem opAs_get {N:NF} {ops:Array Oper}:∀ {l:List Oper} {aos:List AO},opAs P N ops l=some aos→aos.length=l.length∧∀ (i:Nat) (o:Oper),l[i]?=some o→∃ ao,aos[i]?=some ao∧opA P N ops o=some ao
 |[],aos,h=>by
  simp only[opAs,Option.some.injEq] at h
  subst h
  exact⟨rfl,fun i o h=>by simp at h⟩
 |o :: l,aos,h=>by
  unfold opAs at h
  split at h
  ·rename_i ao aos' h1 h2
   cases h
   obtain⟨h3,h4⟩:=opAs_get h2
   refine⟨by simp [h3],fun i o' hi=>?_⟩
   cases i with
   |zero=>simp at hi;subst hi;exact⟨ao,rfl,h1⟩
   |succ i=>simpa using h4 i o' (by simpa using hi)
  ·cases h
section
variable {cx:Cx} {a:Act} {w:World}
theorem uses_congr {T T':Nat→V}:∀ {xs:List AV},(∀ t ∈ usesA xs,T' t=T t)→xs.map (ev T')=xs.map (ev T)
 |[],_=>rfl
 |.t n :: r,h=>by
  simp only[usesA,List.mem_cons] at h
  simp only[List.map_cons,ev,h n (.inl rfl),uses_congr (xs:=r) fun t ht=>h t (.inr ht)]
 |.c x :: r,h=>by
  simp only[usesA] at h
  simp only[List.map_cons,ev,uses_congr (xs:=r) h]
theorem opR_congr {s s':St} {e:Ent} (h:OpR P s e) (hT:∀ t ∈ e.o.uses,s'.T t=s.T t) (hm:∀ i ∈ e.deps,s'.m i=s.m i):OpR P s' e:=by
 have hxs:e.o.xs.map (ev s'.T)=e.o.xs.map (ev s.T):=uses_congr fun t ht=>hT t (by simp only[AO.uses,List.mem_append];exact .inl ht)
 have hstep:StepA P e.o.k (e.o.dst.getD 0) e.xs s.m e.v e.us→StepA P e.o.k (e.o.dst.getD 0) e.xs s'.m e.v e.us:=fun hs =>
  stepA_congr hs (fun hk i hi=>hm i (by simp only[Ent.deps,if_pos hk,List.mem_append];exact .inl (.inl hi))) (hm _ (by simp [Ent.deps])) (fun x hx=>hm x.1 (by simp only[Ent.deps,List.mem_append];exact .inl (.inr (List.mem_map.2 ⟨x,hx,rfl⟩))))
 unfold OpR at h ⊢
 split
 ·rename_i hg
  rw[hg] at h
  exact⟨by rw[hxs];exact h.1,hstep h.2⟩
 ·rename_i j t b hg
  rw[hg] at h
  obtain⟨c,h1,h2⟩:=h
  refine⟨c,by rw[hT t (by simp [AO.uses,hg])];exact h1,h2.imp (fun⟨e1,e2,e3⟩=>⟨e1,by rw[hxs];exact e2,hstep e3⟩) id⟩
theorem mem_apart {l r:List Nat} (h:Sim.apart l r=true) {i:Nat} (h1:i ∈ l):i ∉ r:=by
 have:=List.all_eq_true.1 h i h1
 simpa using this
theorem noneIn_ok {d:Option Nat} {l:List Nat} (h:noneIn d l=true) {t:Nat} (hd:d=some t):t ∉ l:=by
 subst hd
 simpa [noneIn] using h
theorem draw_ok {N:NF} {ops:Array Oper} {aos:List AO} {L:List Ent} {s s':St} {Q:Exit→Act→World→Prop} (hN:cx.N=N) (hops:opAs P N ops ops.toList=some aos) (hL:L.map (·.o)=aos) (hT:TextR P L s s') (hw:wfAfter 0 aos=true) (hi:indepAll (ancL aos []) L 0 L=true)
  (hQ:∀ a w,Rel cx s' a w→Q .normal a w):∀ (fuel:Nat) (listed:Array Bool) (a:Act) (w:World),listed.size=ops.size→(listed.toList.filter (! ·)).length=fuel→(∀ j o,aos[j]?=some o→listed.getD j false=true→∀ b ∈ o.after,listed.getD b false=true) →
   Rel cx (runE (fun j=>listed.getD j false) 0 L s) a w→wpAny P .any ops Q fuel listed a w:=by
 obtain⟨hlen,hget⟩:=opAs_get hops
 have hLl:L.length=aos.length:=by rw[← hL,List.length_map]
 have hLo:∀ {i:Nat} {ao:AO},aos[i]?=some ao→∃ e,L[i]?=some e∧e.o=ao:=fun {i ao} h=>by
  rw[← hL,List.getElem?_map] at h
  cases he:L[i]? with
  |none=>rw[he] at h;cases h
  |some e=>rw[he] at h;cases h;exact⟨e,rfl,rfl⟩
 have hgd:∀ (listed:Array Bool) (j:Nat),listed.size=ops.size→j<ops.size→listed.getD j true=listed.getD j false:=fun listed j h1 h2=>by
  simp [Array.getElem?_eq_getElem (show j<listed.size by omega)]
 have hall:∀ (listed:Array Bool),listed.size=ops.size→Region.ready .any ops listed=[]→∀ j,j<ops.size→listed.getD j false=true:=by
  intro listed hsz hr j
  induction j using Nat.strongRecOn with
  |_ j ih =>
   intro hj
   cases hlj:listed.getD j false with
   |true=>rfl
   |false =>
    exfalso
    obtain⟨ao,h1,h2⟩:=hget j ops[j] (by simp [hj])
    have:j ∈ Region.ready .any ops listed:=mem_ready.2 ⟨by rw[hgd listed j hsz hj];exact hlj,ops[j],by simp [hj],fun e he hb=>by
     have hlt:e.on<j:=by
      have:=wfAfter_get hw j ao h1 e.on (by
       obtain⟨_,_,_,_,_,_,haf,_⟩:=opA_ok h2
       rw[haf]
       unfold befores
       refine List.mem_filterMap.2 ⟨e,by simpa using he,by rw[if_pos hb]⟩)
      omega
     exact ih e.on hlt (by omega)⟩
    rw[hr] at this
    cases this
 have hdone:∀ (listed:Array Bool) (a:Act) (w:World),listed.size=ops.size→Region.ready .any ops listed=[]→Rel cx (runE (fun j=>listed.getD j false) 0 L s) a w→Q .normal a w:=by
  intro listed a w hsz hr hR
  rw[textR_end hT (fun j _ hj=>hall listed hsz hr j (by rw[hLl,hlen] at hj;simpa using hj))] at hR
  exact hQ a w hR
 intro fuel
 induction fuel with
 |zero =>
  intro listed a w hsz hc hcl hR
  have hnil:Region.ready .any ops listed=[]:=by
   cases hr:Region.ready .any ops listed with
   |nil=>rfl
   |cons i r =>
    exfalso
    have hm:i ∈ Region.ready .any ops listed:=by rw[hr];simp
    obtain⟨h0,o,ho,_⟩:=mem_ready.1 hm
    have hlt:i<listed.size:=by rw[hsz];exact (Array.getElem?_eq_some_iff.1 ho).1
    have hf:listed[i]=false:=by simpa [hlt] using h0
    have:false ∈ listed.toList.filter (! ·):=List.mem_filter.2 ⟨by rw[← hf];exact Array.getElem_mem_toList hlt,rfl⟩
    rw[List.eq_nil_of_length_eq_zero hc] at this
    cases this
  exact⟨hnil,hdone listed a w hsz hnil hR⟩
 |succ fuel ih =>
  intro listed a w hsz hc hcl hR
  refine⟨fun hnil=>hdone listed a w hsz hnil hR,fun i hi'=>?_⟩
  obtain⟨h0,o,ho,hbef⟩:=mem_ready.1 hi'
  have hio:i<ops.size:=(Array.getElem?_eq_some_iff.1 ho).1
  have hlt:i<listed.size:=by rw[hsz];exact hio
  have hil:listed.getD i false=false:=by rw[← hgd listed i hsz hio];exact h0
  obtain⟨ao,hao,hA⟩:=hget i o (by simpa using ho)
  obtain⟨e,he,heo⟩:=hLo hao
  obtain⟨xs,ts,_,_,g3,g4,g5,g6⟩:=opA_ok hA
  have haft:∀ b ∈ ao.after,listed.getD b false=true:=by
   intro b hb
   rw[g5] at hb
   unfold befores at hb
   obtain⟨ed,h1,h2⟩:=List.mem_filterMap.1 hb
   split at h2
   ·rename_i hbind
    cases h2
    exact hbef ed (by simpa using h1) hbind
   ·cases h2
  have hanc:∀ j b,b ∈ (ancL aos []).getD j []→listed.getD j false=true→listed.getD b false=true:=fun j b=>ancL_ok (p:=fun j=>listed.getD j false) (fun j o hj hp=>hcl j o hj (by simpa using hp)) (fun j b h _=>by simp at h) j b
  have hpair:∀ j f,L[j]?=some f→(j<i→listed.getD j false=false→indep f e=true)∧(i<j→listed.getD j false=true→indep e f=true):=by
   intro j f hf
   constructor
   ·intro hji hlj
    rcases indepAll_get hi i e he j f (by omega) hf with h|h
    ·exfalso
     have hcl':∀ j' o',aos[j']?=some o'→(if j'=i then true else listed.getD j' false)=true→∀ b ∈ o'.after,(if b=i then true else listed.getD b false)=true:=by
      intro j' o' hj' hp b hb
      by_cases e':j'=i
      ·subst e'
       rw[hao] at hj'
       cases hj'
       split
       ·rfl
       ·exact haft b hb
      ·rw[if_neg e'] at hp
       split
       ·rfl
       ·exact hcl j' o' hj' hp b hb
     have:=ancL_ok (p:=fun j=>if j=i then true else listed.getD j false) (ops:=aos) (acc:=[]) (fun j o hj hp=>hcl' j o hj (by simpa using hp)) (fun j b h _=>by simp at h) i j (by simpa using h) (by simp)
     rw[if_neg (by omega)] at this
     rw[hlj] at this
     cases this
    ·exact h
   ·intro hij hlj
    rcases indepAll_get hi j f hf i e (by omega) he with h|h
    ·exfalso
     have:=hanc j i (by simpa using h) hlj
     rw[hil] at this
     cases this
    ·exact h
  have hop:=textR_get (k:=0) hT i e he
  have hX:OpR P (runE (fun j=>listed.getD j false) 0 L s) e:=by
   refine opR_congr hop (fun t ht=>runE_T (fun j f hf hd=>?_) rfl) (fun id hid=>runE_m (fun j f hf hd=>?_) rfl)
   ·simp only[Nat.zero_add]
    obtain⟨p1,p2⟩:=hpair j f hf
    rcases Nat.lt_trichotomy j i with h|h|h
    ·cases hlj:listed.getD j false with
     |true=>simp [h]
     |false =>
      have:=p1 h hlj
      simp only[indep,Bool.and_eq_true] at this
      exact absurd ht (noneIn_ok this.1.1.1.1 hd)
    ·subst h;rw[hil];simp
    ·cases hlj:listed.getD j false with
     |false=>simp;omega
     |true =>
      have:=p2 h hlj
      simp only[indep,Bool.and_eq_true] at this
      exact absurd ht (noneIn_ok this.1.1.1.2 hd)
   ·simp only[Nat.zero_add]
    obtain⟨p1,p2⟩:=hpair j f hf
    rcases Nat.lt_trichotomy j i with h|h|h
    ·cases hlj:listed.getD j false with
     |true=>simp [h]
     |false =>
      have:=p1 h hlj
      simp only[indep,Bool.and_eq_true] at this
      exact absurd hid (mem_apart this.1.2 hd)
    ·subst h;rw[hil];simp
    ·cases hlj:listed.getD j false with
     |false=>simp;omega
     |true =>
      have:=p2 h hlj
      simp only[indep,Bool.and_eq_true] at this
      exact absurd hid (mem_apart this.2 hd)
  have hsz':(listed.setIfInBounds i true).size=ops.size:=by simpa using hsz
  have hgi:∀ j,(listed.setIfInBounds i true).getD j false=if j=i then true else listed.getD j false:=by
   intro j
   by_cases e':j=i
   ·subst e';rw[if_pos rfl];simp [hlt]
   ·rw[if_neg e',getD_set_ne false (Ne.symm e')]
  have hrun:runE (fun j=>(listed.setIfInBounds i true).getD j false) 0 L s=putE (runE (fun j=>listed.getD j false) 0 L s) e:=by
   have h1:(fun j=>(listed.setIfInBounds i true).getD j false)=(fun j=>if j=0+i then true else listed.getD j false):=funext fun j=>by rw[hgi j,Nat.zero_add]
   rw[h1]
   refine runE_insert (p:=fun j=>listed.getD j false) he (by simpa using hil) fun j f hf hij hlj=>?_
   have:=(hpair j f hf).2 hij (by simpa using hlj)
   simp only[indep,Bool.and_eq_true] at this
   exact⟨this.1.1.2,fun id h1 h2=>mem_apart this.1.2 h1 (by simp only[Ent.deps,List.mem_append];exact .inl (.inr h2))⟩
  have hnext:∀ a' w',Rel cx (putE (runE (fun j=>listed.getD j false) 0 L s) e) a' w'→wpAny P .any ops Q fuel (listed.setIfInBounds i true) a' w':=by
   intro a' w' hR'
   refine ih _ a' w' hsz' ?_ (fun j o' hj hp b hb=>?_) (by rw[hrun];exact hR')
   ·have hf:listed[i]=false:=by simpa [hlt] using hil
    have h1:listed.toList=listed.toList.take i++(false :: listed.toList.drop (i+1)):=by
     rw[← hf,← Array.getElem_toList hlt,← List.drop_eq_getElem_cons (by simpa using hlt),List.take_append_drop]
    have h2:(listed.setIfInBounds i true).toList=listed.toList.take i++(true :: listed.toList.drop (i+1)):=by
     rw[Array.toList_setIfInBounds,List.set_eq_take_append_cons_drop,if_pos (by simpa using hlt)]
    rw[h1] at hc
    rw[h2]
    simp only[List.filter_append,List.filter_cons,Bool.not_false,Bool.not_true,if_true,Bool.false_eq_true,if_false,List.length_append,List.length_cons] at hc ⊢
    omega
   ·rw[hgi] at hp ⊢
    by_cases e':j=i
    ·subst e'
     rw[hao] at hj
     cases hj
     split
     ·rfl
     ·exact haft b hb
    ·rw[if_neg e'] at hp
     split
     ·rfl
     ·exact hcl j o' hj hp b hb
  unfold wpOp
  rw[ho]
  simp only
  have hd:∀ d,o.dst=some d→d<cx.N.n:=by rw[hN];exact g4
  subst heo
  unfold OpR at hX
  cases hg:o.guard with
  |none =>
   rw[hg] at g6
   simp only at g6
   rw[g6] at hX
   obtain⟨hx1,hx2⟩:=hX
   rw[if_pos (by simp [Region.wanted,hg])]
   rw[hx1] at hx2
   exact .inl (step_ok hN hA hR hx2 fun a' w' h=>hnext a' w' h)
  |some pr =>
   obtain⟨j,b⟩:=pr
   rw[hg] at g6
   obtain⟨t,h6,h7⟩:=g6
   rw[h7] at hX
   obtain⟨c,hc1,hc2⟩:=hX
   have hy:=yields_ok hR h6 hc1
   rcases hc2 with ⟨hcb,hx1,hx2⟩|⟨hcb,hx1,hx2,hx3⟩
   ·rw[if_pos (by simp [Region.wanted,hg,hy,hcb])]
    rw[hx1] at hx2
    exact .inl (step_ok hN hA hR hx2 fun a' w' h=>hnext a' w' h)
   ·rw[if_neg (by simp [Region.wanted,hg,hy,hcb])]
    have:=hR.skip hd
    rw[← g3] at this
    refine hnext _ _ ?_
    unfold putE
    rw[hx1,hx2]
    rw[g3] at this ⊢
    exact this
end
end
end Go.Proofs.YtacfbiegbdlldaaGreatDoor.Sim
end
section
namespace Go.Proofs.YtacfbiegbdlldaaGreatDoor.Sim
open Go Go.RowKit Go.Deep
set_option linter.unusedVariables false
def awpDs (P:Program):List AO→List Ent→St→(List Ent→St→Prop)→Prop
 |[],acc,s,K=>K acc.reverse s
 |o :: r,acc,s,K=>∃ v us xs,OpR P s ⟨o,v,us,xs⟩∧awpDs P r (⟨o,v,us,xs⟩ :: acc) (s.put o.dst v us) K
section
variable {P:Program} {cx:Cx}
theorem awpDs_ok {K:List Ent→St→Prop}:∀ {ops:List AO} {acc:List Ent} {s:St},awpDs P ops acc s K→∃ L s',L.map (·.o)=ops∧TextR P L s s'∧K (acc.reverse++L) s'
 |[],acc,s,h=>⟨[],s,rfl,rfl,by simpa [awpDs] using h⟩
 |o :: r,acc,s,h=>by
  obtain⟨v,us,xs,h1,h2⟩:=h
  obtain⟨L,s',h3,h4,h5⟩:=awpDs_ok h2
  exact⟨⟨o,v,us,xs⟩ :: L,s',by simp [h3],⟨h1,h4⟩,by simpa using h5⟩
theorem Awp.regionD {ops:List AO} {Q:Exit→St→Prop} {s:St} (hm:P.follows .mixedOrders=true) (hw:wfAfter 0 ops=true) (h:awpDs P ops [] s fun L s'=>indepAll (ancL ops []) L 0 L=true∧Q .normal s'):Awp P cx (.region ops true) Q s:=by
 intro code hc a w hR
 cases code <;> try (simp [compile] at hc;done)
 case region id ops' draw =>
  unfold compile at hc
  split at hc
  ·cases hc
  simp only[Option.map_eq_some_iff] at hc
  obtain⟨l,h1,h2⟩:=hc
  cases h2
  obtain⟨L,s',h3,h4,h5,h6⟩:=awpDs_ok h
  refine wp_region_any hm ?_
  refine draw_ok (cx:=cx) (Q:=fun e a' w'=>∃ s',Q e s'∧Rel cx s' a' w') rfl h1 h3 h4 hw (by simpa using h5) (fun a w hR=>⟨s',h6,hR⟩) _ _ _ _ (by simp) (by simp) (fun j o _ hp=>by simp [Array.getElem?_replicate] at hp;split at hp <;> simp at hp) ?_
  rw[runE_none fun j _=>by simp [Array.getElem?_replicate];split <;> simp]
  exact hR.drew
 all_goals ((try unfold compile at hc);first|(split at hc <;> (first|(cases hc;done)|(simp at hc;done)))|(simp at hc;done))
end
section
variable {P:Program} {cx:Cx} {T:Nat→V} {m:M} {K0:List Ent→St→Prop} {acc:List Ent} {d:Nat} {k:K} {xs:List AV} {af:List Nat} {r:List AO} {v:V} {us:U} {j t:Nat} {b c:Bool}
end
end Go.Proofs.YtacfbiegbdlldaaGreatDoor.Sim
end
section
namespace Go.Proofs.YtacfbiegbdlldaaGreatDoor.Sim
open Go Go.RowKit Go.Deep
set_option linter.unusedVariables false
def rl:List (Nat × Nat × Nat)→Nat→Nat × Nat
 |[],j=>(j,0)
 |(c,i,v) :: ρ,j=>if j=c then (i,v) else rl ρ j
mutual
def V.nm (ρ:List (Nat × Nat × Nat)):V→V
 |.bp j u o=>.bp (rl ρ j).1 (u+(rl ρ j).2) o
 |.og j u=>.og (rl ρ j).1 (u+(rl ρ j).2)
 |.ag l=>.ag (V.nms ρ l)
 |.cl f l=>.cl f (V.nms ρ l)
 |.tu l=>.tu (V.nms ρ l)
 |.ot j u e=>.ot (rl ρ j).1 (u+(rl ρ j).2) e
 |x=>x
def V.nms (ρ:List (Nat × Nat × Nat)):List V→List V
 |[]=>[]
 |x :: l=>V.nm ρ x :: V.nms ρ l
end
def O.addv (v:Nat) (o:O):O:=match o with
 |.box u cs=>.box (u+v) cs
 |.arr u k mu l=>.arr (u+v) k mu l
 |.vec u k cs=>.vec (u+v) k cs
 |.mp u ks=>.mp (u+v) ks
def nmU (ρ:List (Nat × Nat × Nat)):U→U
 |[]=>[]
 |(j,o) :: r=>((rl ρ j).1,o.addv (rl ρ j).2) :: nmU ρ r
mutual
def V.okP (us:U) (n:Nat):V→Bool
 |.d _=>true
 |.nl _=>true
 |.bp j _ _=>inU us j||(decide (1000000≤j)&&decide (j<1000000+n))
 |.og j _=>inU us j||(decide (1000000≤j)&&decide (j<1000000+n))
 |.ag l=>V.okPs us n l
 |.cl _ l=>V.okPs us n l
 |.tu l=>V.okPs us n l
 |.un=>true
 |.ot j _ _=>inU us j||(decide (1000000≤j)&&decide (j<1000000+n))
 |_=>false
def V.okPs (us:U) (n:Nat):List V→Bool
 |[]=>true
 |x :: l=>V.okP us n x&&V.okPs us n l
end
theorem addv_ver (o:O) (v:Nat):(o.addv v).ver=o.ver+v:=by cases o <;> rfl
theorem addv_kind (o:O) (v:Nat):(o.addv v).kind=o.kind:=by cases o <;> rfl
theorem addv_wfB (o:O) (v:Nat):(o.addv v).wfB=o.wfB:=by cases o <;> rfl
section
variable {m m2:M} {hd hd2:H} {w:World} {S X:Nat→Prop} {B:Nat} {g:Nat→Nat} {δ:Nat→Nat}
theorem mem_ren (h:Mem m hd w S X B) (hob:∀ i o,m2 i=some o→∃ o0,m (g i)=some o0∧hd2 i=hd (g i)∧o0.wfB=true∧∃ u,o=o0.setv u) (hinj:∀ i i' o o',m2 i=some o→m2 i'=some o'→g i=g i'→i=i'):Mem m2 hd2 w S X B:=by
 refine⟨fun i o hi=>?_,fun i j oi oj b hne hi hj li lj bi bj=>?_,h.lt,h.base,h.sX⟩
 ·obtain⟨o0,h1,h2,h3,u,rfl⟩:=hob i o hi
  have ho:=h.obj _ _ h1
  rw[h2]
  cases o0 with
  |box v cs =>
   simp only[O.wfB] at h3
   simp only[O.is,O.setv] at ho ⊢
   obtain⟨b,vs,e,q1,q2,q3,q4,q5⟩:=ho
   exact⟨b,vs,e,q1,q2,q3,closed_ok (fun _ h _=>⟨h,rfl⟩) h3 q4,q5⟩
  |arr v k mu l =>
   simp only[O.is,O.setv] at ho ⊢
   exact ho
  |vec v kk cs=>simp [O.wfB] at h3
  |mp v ks=>simp [O.wfB] at h3
 ·obtain⟨o1,h1,h2,_,u,rfl⟩:=hob i oi hi
  obtain⟨o2,k1,k2,_,u',rfl⟩:=hob j oj hj
  rw[setv_live] at li lj
  rw[h2] at bi
  rw[k2] at bj
  exact h.sep _ _ o1 o2 b (fun e=>hne (hinj i j _ _ hi hj e)) h1 k1 li lj bi bj
end
section
variable {ρ:List (Nat × Nat × Nat)} {m m2:M} {hd hd2:H} {w:World} {S:Nat→Prop} {us:U} {n:Nat}
mutual
theorem nm_in (hob:∀ j,(inU us j||(decide (1000000≤j)&&decide (j<1000000+n)))=true→∃ o,m2 j=some o∧m (rl ρ j).1=some (o.addv (rl ρ j).2)∧hd2 j=hd (rl ρ j).1):∀ (x:V) (u:Value),x.okP us n=true→(VR m hd w S (x.nm ρ) u↔VR m2 hd2 w S x u)
 |.d x,u,_=>by simp only[V.nm,VR]
 |.nl k,u,_=>by simp only[V.nm,VR]
 |.bp j u' q,u,hx=>by
  simp only[V.okP] at hx
  obtain⟨o,h1,h2,h3⟩:=hob j hx
  simp only[V.nm,VR]
  constructor
  ·rintro⟨h0,y,hy,hv,h⟩
   rw[h2] at hy
   cases hy
   refine⟨h0,o,h1,by rw[addv_ver] at hv;omega,fun cs e=>?_⟩
   subst e
   rw[h3]
   exact h cs rfl
  ·rintro⟨h0,y,hy,hv,h⟩
   rw[h1] at hy
   cases hy
   refine⟨h0,_,h2,by rw[addv_ver];omega,fun cs e=>?_⟩
   cases o with
   |arr v k mu l=>simp [O.addv] at e
   |vec v kk cs'=>simp [O.addv] at e
   |mp v ks'=>simp [O.addv] at e
   |box v cs' =>
    simp only[O.addv,O.box.injEq] at e
    obtain⟨e1,rfl⟩:=e
    obtain rfl:v=u':=by omega
    rw[← h3]
    exact h cs' rfl
 |.og j u',u,hx=>by
  simp only[V.okP] at hx
  obtain⟨o,h1,h2,h3⟩:=hob j hx
  simp only[V.nm,VR]
  constructor
  ·rintro⟨h0,y,hy,hv,h⟩
   rw[h2] at hy
   cases hy
   refine⟨h0,o,h1,by rw[addv_ver] at hv;omega,fun k mu l e=>?_⟩
   subst e
   rw[h3]
   exact h k mu l rfl
  ·rintro⟨h0,y,hy,hv,h⟩
   rw[h1] at hy
   cases hy
   refine⟨h0,_,h2,by rw[addv_ver];omega,fun k mu l e=>?_⟩
   cases o with
   |box v cs=>simp [O.addv] at e
   |vec v kk cs'=>simp [O.addv] at e
   |mp v ks'=>simp [O.addv] at e
   |arr v k' mu' l' =>
    simp only[O.addv,O.arr.injEq] at e
    obtain⟨e1,rfl,rfl,rfl⟩:=e
    obtain rfl:v=u':=by omega
    rw[← h3]
    exact h k' mu' l' rfl
 |.ot j u' q,u,hx=>by
  simp only[V.okP] at hx
  obtain⟨o,h1,h2,h3⟩:=hob j hx
  simp only[V.nm,VR]
  constructor
  ·rintro⟨h0,y,hy,hv,h⟩
   rw[h2] at hy
   cases hy
   refine⟨h0,o,h1,by rw[addv_ver] at hv;omega,fun k mu l e=>?_⟩
   subst e
   rw[h3]
   exact h k mu l rfl
  ·rintro⟨h0,y,hy,hv,h⟩
   rw[h1] at hy
   cases hy
   refine⟨h0,_,h2,by rw[addv_ver];omega,fun k mu l e=>?_⟩
   cases o with
   |box v cs=>simp [O.addv] at e
   |vec v kk cs'=>simp [O.addv] at e
   |mp v ks'=>simp [O.addv] at e
   |arr v k' mu' l' =>
    simp only[O.addv,O.arr.injEq] at e
    obtain⟨e1,rfl,rfl,rfl⟩:=e
    obtain rfl:v=u':=by omega
    rw[← h3]
    exact h k' mu' l' rfl
 |.ag l,u,hx=>by
  simp only[V.okP] at hx
  have:=nms_in hob l
  simp only[V.nm,VR]
  exact⟨fun⟨vs,e,h1,h2⟩=>⟨vs,e,(this vs hx).1 h1,h2⟩,fun⟨vs,e,h1,h2⟩=>⟨vs,e,(this vs hx).2 h1,h2⟩⟩
 |.cl f l,u,hx=>by
  simp only[V.okP] at hx
  have:=nms_in hob l
  simp only[V.nm,VR]
  exact⟨fun⟨vs,e,h1⟩=>⟨vs,e,(this vs hx).1 h1⟩,fun⟨vs,e,h1⟩=>⟨vs,e,(this vs hx).2 h1⟩⟩
 |.tu l,u,hx=>by
  simp only[V.okP] at hx
  have:=nms_in hob l
  simp only[V.nm,VR]
  exact⟨fun⟨vs,e,h1⟩=>⟨vs,e,(this vs hx).1 h1⟩,fun⟨vs,e,h1⟩=>⟨vs,e,(this vs hx).2 h1⟩⟩
 |.un,u,hx=>by simp only[V.nm,VR]
 |.z0,u,hx|.ub,u,hx|.ep _ _ _ _,u,hx|.fp _ _,u,hx|.vg _ _,u,hx|.vp _ _ _,u,hx|.mh _ _,u,hx|.fx _ _,u,hx=>by simp [V.okP] at hx
theorem nms_in (hob:∀ j,(inU us j||(decide (1000000≤j)&&decide (j<1000000+n)))=true→∃ o,m2 j=some o∧m (rl ρ j).1=some (o.addv (rl ρ j).2)∧hd2 j=hd (rl ρ j).1):∀ (l:List V) (vs:List Value),V.okPs us n l=true→(VRs m hd w S (V.nms ρ l) vs↔VRs m2 hd2 w S l vs)
 |[],vs,_=>by simp only[V.nms,VRs]
 |x :: l,vs,hx=>by
  simp only[V.okPs,Bool.and_eq_true] at hx
  simp only[V.nms,VRs]
  constructor
  ·rintro⟨u,r,e,h1,h2⟩
   exact⟨u,r,e,(nm_in hob x u hx.1).1 h1,(nms_in hob l r hx.2).1 h2⟩
  ·rintro⟨u,r,e,h1,h2⟩
   exact⟨u,r,e,(nm_in hob x u hx.1).2 h1,(nms_in hob l r hx.2).2 h2⟩
end
end
theorem nmU_mem {ρ:List (Nat × Nat × Nat)} {i:Nat} {o:O}:∀ {us:U},(i,o) ∈ nmU ρ us↔∃ j o0,(j,o0) ∈ us∧i=(rl ρ j).1∧o=o0.addv (rl ρ j).2
 |[]=>by simp [nmU]
 |(j,o0) :: r=>by
  simp only[nmU,List.mem_cons,nmU_mem (us:=r)]
  constructor
  ·rintro (h|⟨j',o',h1,h2,h3⟩)
   ·cases h;exact⟨j,o0,.inl rfl,rfl,rfl⟩
   ·exact⟨j',o',.inr h1,h2,h3⟩
  ·rintro⟨j',o',h|h,h2,h3⟩
   ·cases h;exact .inl (by rw[h2,h3])
   ·exact .inr ⟨j',o',h,h2,h3⟩
theorem nmU_names {ρ:List (Nat × Nat × Nat)}:∀ {us:U},(nmU ρ us).map (·.1)=us.map fun x=>(rl ρ x.1).1
 |[]=>rfl
 |(j,o) :: r=>by simp only[nmU,List.map_cons,nmU_names]
def lowU:U→Bool
 |[]=>true
 |(j,_) :: r=>decide (j<1000000)&&lowU r
theorem lowU_ok:∀ {us:U},lowU us=true→∀ x ∈ us,x.1<1000000
 |[],_,x,hx=>by cases hx
 |(j,o) :: r,h,x,hx=>by
  simp only[lowU,Bool.and_eq_true,decide_eq_true_eq] at h
  rcases List.mem_cons.1 hx with rfl|hx
  ·exact h.1
  ·exact lowU_ok h.2 x hx
def freeOf (ρ:List (Nat × Nat × Nat)) (i:Nat):U→Bool
 |[]=>true
 |(j,_) :: r=>decide ((rl ρ j).1 ≠ i)&&freeOf ρ i r
def apartU (ρ:List (Nat × Nat × Nat)):U→Bool
 |[]=>true
 |(j,_) :: r=>freeOf ρ (rl ρ j).1 r&&apartU ρ r
theorem freeOf_ok {ρ:List (Nat × Nat × Nat)} {i:Nat}:∀ {us:U},freeOf ρ i us=true→∀ x ∈ us,(rl ρ x.1).1 ≠ i
 |[],_,x,hx=>by cases hx
 |(j,o) :: r,h,x,hx=>by
  simp only[freeOf,Bool.and_eq_true,decide_eq_true_eq] at h
  rcases List.mem_cons.1 hx with rfl|hx
  ·exact h.1
  ·exact freeOf_ok h.2 x hx
theorem apartU_ok {ρ:List (Nat × Nat × Nat)}:∀ {us:U},apartU ρ us=true→((us.map fun x=>(rl ρ x.1).1).Nodup)
 |[],_=>by simp
 |(j,o) :: r,h=>by
  simp only[apartU,Bool.and_eq_true] at h
  simp only[List.map_cons,List.nodup_cons]
  refine⟨fun hm=>?_,apartU_ok h.2⟩
  obtain⟨x,hx,e⟩:=List.mem_map.1 hm
  exact freeOf_ok h.1 x hx e
def rhoOK:List (Nat × Nat × Nat)→Bool
 |[]=>true
 |(c,i,_) :: r=>decide (c<1000000)&&decide (i<1000000)&&rhoOK r
theorem rl_new {j:Nat} (hj:1000000≤j):∀ {ρ:List (Nat × Nat × Nat)},rhoOK ρ=true→rl ρ j=(j,0)
 |[],_=>rfl
 |(c,i,v) :: r,h=>by
  simp only[rhoOK,Bool.and_eq_true,decide_eq_true_eq] at h
  rw[rl,if_neg (by omega),rl_new hj h.2]
theorem rl_low {j:Nat} (hj:j<1000000):∀ {ρ:List (Nat × Nat × Nat)},rhoOK ρ=true→(rl ρ j).1<1000000
 |[],_=>hj
 |(c,i,v) :: r,h=>by
  simp only[rhoOK,Bool.and_eq_true,decide_eq_true_eq] at h
  rw[rl]
  split
  ·exact h.1.2
  ·exact rl_low hj h.2
theorem Does.nm {P:Program} {f:FuncId} {xs:List V} {bx bx':U} {r:V} {as:List O} (h:Does P f xs bx r bx' as) (ρ:List (Nat × Nat × Nat)) (hρ:rhoOK ρ=true) (hlow:lowU bx=true) (hap:apartU ρ bx=true) (hnames:bx'.map (·.1)=bx.map (·.1)) (hwf:bx.all (fun x=>x.2.wfB)=true) (hwf':bx'.all (fun x=>x.2.wfB)=true) (hx:V.okPs bx 0 xs=true) (has:as.all O.wf=true) (hr:r.okP bx' as.length=true) :
  Does P f (V.nms ρ xs) (nmU ρ bx) (r.nm ρ) (nmU ρ bx') as:=by
 intro w hd S X us hgk hm hv
 have hlow':∀ x ∈ bx',x.1<1000000:=fun x hx=>by
  have:x.1 ∈ bx.map (·.1):=by rw[← hnames];exact List.mem_map.2 ⟨x,hx,rfl⟩
  obtain⟨y,hy,e⟩:=List.mem_map.1 this
  rw[← e]
  exact lowU_ok hlow y hy
 have hndR:((nmU ρ bx).map (·.1)).Nodup:=by rw[nmU_names];exact apartU_ok hap
 have hmapR:bx'.map (fun x=>(rl ρ x.1).1)=bx.map (fun x=>(rl ρ x.1).1):=by
  have:=congrArg (List.map fun j=>(rl ρ j).1) hnames
  simpa [List.map_map,Function.comp_def] using this
 have hndR':((nmU ρ bx').map (·.1)).Nodup:=by rw[nmU_names,hmapR];exact apartU_ok hap
 have hnd:(bx.map (·.1)).Nodup:=List.pairwise_map.2 ((List.pairwise_map.1 (apartU_ok hap)).imp fun h e=>h (by rw[e]))
 have hnd':(bx'.map (·.1)).Nodup:=by rw[hnames];exact hnd
 have hinj:∀ {x y:Nat × O},x ∈ bx→y ∈ bx→(rl ρ x.1).1=(rl ρ y.1).1→x.1=y.1:=by
  intro x y hx hy e
  have h1:=apartU_ok hap
  have:∀ {l:U},(l.map fun x=>(rl ρ x.1).1).Nodup→x ∈ l→y ∈ l→x.1=y.1:=by
   intro l
   induction l with
   |nil=>intro _ h;cases h
   |cons z l ih =>
    intro hn hx hy
    simp only[List.map_cons,List.nodup_cons] at hn
    rcases List.mem_cons.1 hx with rfl|hx2
    ·rcases List.mem_cons.1 hy with rfl|hy2
     ·rfl
     ·exact absurd (List.mem_map.2 ⟨y,hy2,e.symm⟩) hn.1
    ·rcases List.mem_cons.1 hy with rfl|hy2
     ·exact absurd (List.mem_map.2 ⟨x,hx2,e⟩) hn.1
     ·exact ih hn.2 hx2 hy2
  exact this h1 hx hy
 have hname:∀ {x:Nat × O},x ∈ bx'→∃ o,(x.1,o) ∈ bx:=fun {x} hx=>by
  have:x.1 ∈ bx.map (·.1):=by rw[← hnames];exact List.mem_map.2 ⟨x,hx,rfl⟩
  obtain⟨y,hy,e⟩:=List.mem_map.1 this
  exact⟨y.2,by rw[← e];exact hy⟩
 let hdc:H:=fun j=>hd (rl ρ j).1
 have hget:∀ {i o},ups M0 bx i=some o→(i,o) ∈ bx:=fun {i o} h=>by
  rcases ups_or i bx M0 with ⟨h1,_⟩|⟨o',h1,h2⟩
  ·rw[h1] at h;cases h
  ·rw[h2] at h;cases h;exact h1
 have hreal:∀ {j o},(j,o) ∈ bx→ups M0 (nmU ρ bx) (rl ρ j).1=some (o.addv (rl ρ j).2):=fun h=>ups_mem hndR (nmU_mem.2 ⟨_,_,h,rfl,rfl⟩)
 have hwfm:∀ {x},x ∈ bx→x.2.wfB=true:=fun hx=>by simpa using List.all_eq_true.1 hwf _ hx
 have hwfm':∀ {x},x ∈ bx'→x.2.wfB=true:=fun hx=>by simpa using List.all_eq_true.1 hwf' _ hx
 have setadd:∀ (o:O) (v:Nat),o=(o.addv v).setv o.ver:=fun o v=>by cases o <;> rfl
 have addset:∀ (o:O) (v:Nat),o.addv v=o.setv (o.ver+v):=fun o v=>by cases o <;> rfl
 have hm1:Mem (ups M0 bx) hdc w S X w.heap.size:=mem_ren (g:=fun j=>(rl ρ j).1) hm (fun j o hj=>⟨_,hreal (hget hj),rfl,by rw[addv_wfB];exact hwfm (hget hj),_,setadd o _⟩) (fun i i' o o' hi hi' e=>hinj (hget hi) (hget hi') e)
 have hv1:VRs (ups M0 bx) hdc w S xs us:=(nms_in (fun j hj=>by
  simp only[Nat.add_zero,Bool.or_eq_true,Bool.and_eq_true,decide_eq_true_eq] at hj
  rcases hj with hj|hj
  ·obtain⟨o,ho⟩:=inU_mem hj
   exact⟨o,ups_mem hnd ho,hreal ho,rfl⟩
  ·omega) xs us hx).1 hv
 refine (h w hdc S X us hgk hm1 hv1).mono ?_
 rintro e w' ⟨u,hd',S',rfl,hfr,hmem,hvr,hsub,hle⟩
 have hos:∀ {j:Nat} {o:O},as[j]?=some o→ups M0 (bx'++fresh as) (1000000+j)=some o:=fun h=>by rw[ups_append];exact ups_mem nodup_fresh (fresh_mem h)
 have hob:∀ {x},x ∈ bx'→ups M0 (bx'++fresh as) x.1=some x.2:=fun {x} hx=>by
  rw[ups_append,ups_not]
  ·exact ups_mem hnd' hx
  ·rintro⟨i',o2⟩ hx2 e2
   obtain⟨j',e',_⟩:=mem_fresh hx2
   have:=hlow' x hx
   simp only at e2
   omega
 have hos2:∀ {j:Nat} {o:O},as[j]?=some o→ups M0 (nmU ρ bx'++fresh as) (1000000+j)=some o:=fun h=>by rw[ups_append];exact ups_mem nodup_fresh (fresh_mem h)
 have hob2:∀ {x},x ∈ bx'→ups M0 (nmU ρ bx'++fresh as) (rl ρ x.1).1=some (x.2.addv (rl ρ x.1).2):=fun {x} hx=>by
  rw[ups_append,ups_not]
  ·exact ups_mem hndR' (nmU_mem.2 ⟨_,_,hx,rfl,rfl⟩)
  ·rintro⟨i',o2⟩ hx2 e2
   obtain⟨j',e',_⟩:=mem_fresh hx2
   have:=rl_low (hlow' x hx) hρ
   simp only at e2
   omega
 have hcs:∀ i o,ups M0 (nmU ρ bx'++fresh as) i=some o→(∃ x ∈ bx',i=(rl ρ x.1).1∧o=x.2.addv (rl ρ x.1).2)∨∃ q,i=1000000+q∧as[q]?=some o:=by
  intro i o hi
  rcases ups_or i (nmU ρ bx'++fresh as) M0 with ⟨h1,_⟩|⟨o',h1,h2⟩
  ·rw[h1] at hi;cases hi
  ·rw[h2] at hi
   cases hi
   rcases List.mem_append.1 h1 with h1|h1
   ·obtain⟨j,o0,q1,q2,q3⟩:=nmU_mem.1 h1
    exact .inl ⟨_,q1,q2,q3⟩
   ·exact .inr (mem_fresh h1)
 let gb:Nat→Nat:=fun i=>match bx'.find? fun x=>(rl ρ x.1).1 == i with
  |some x=>x.1
  |none=>i
 have hgb:∀ {x},x ∈ bx'→gb (rl ρ x.1).1=x.1:=fun {x} hx=>by
  simp only[gb]
  cases hf:bx'.find? (fun y=>(rl ρ y.1).1 == (rl ρ x.1).1) with
  |none =>
   have:=List.find?_eq_none.1 hf x hx
   simp at this
  |some y =>
   have h1:=List.mem_of_find?_eq_some hf
   have h2:=List.find?_some hf
   simp only[beq_iff_eq] at h2
   obtain⟨o1,k1⟩:=hname h1
   obtain⟨o2,k2⟩:=hname hx
   have:=hinj k1 k2 h2
   exact this
 have hgn:∀ q,gb (1000000+q)=1000000+q:=fun q=>by
  simp only[gb]
  rw[List.find?_eq_none.2]
  intro x hx
  have:=rl_low (hlow' x hx) hρ
  simp only[beq_iff_eq]
  omega
 have hwfa:∀ {j:Nat} {o:O},as[j]?=some o→o.wf=true:=fun h=>List.all_eq_true.1 has _ (List.mem_of_getElem? h)
 refine⟨u,fun i=>hd' (gb i),S',rfl,hfr,mem_ren (g:=gb) hmem (fun i o hi=>?_) (fun i i' o o' hi hi' e=>?_),(nm_in (fun j hj=>?_) r u hr).2 hvr,hsub,⟨fun i o hi=>?_⟩⟩
 ·rcases hcs i o hi with ⟨x,hx,rfl,rfl⟩|⟨q,rfl,hq⟩
  ·exact⟨x.2,by rw[hgb hx];exact hob hx,rfl,hwfm' hx,_,addset _ _⟩
  ·exact⟨o,by rw[hgn];exact hos hq,rfl,(wf_wfB (hwfa hq)).1,o.ver,(setv_self o).symm⟩
 ·rcases hcs i o hi with ⟨x,hx,rfl,rfl⟩|⟨q,rfl,hq⟩
  ·rw[hgb hx] at e
   rcases hcs i' o' hi' with ⟨y,hy,rfl,rfl⟩|⟨q',rfl,hq'⟩
   ·rw[hgb hy] at e;rw[e]
   ·rw[hgn] at e;have:=hlow' x hx;omega
  ·rw[hgn] at e
   rcases hcs i' o' hi' with ⟨y,hy,rfl,rfl⟩|⟨q',rfl,hq'⟩
   ·rw[hgb hy] at e;have:=hlow' y hy;omega
   ·rw[hgn] at e;exact e
 ·simp only[Bool.or_eq_true,Bool.and_eq_true,decide_eq_true_eq] at hj
  rcases hj with hj|hj
  ·obtain⟨o,ho⟩:=inU_mem hj
   exact⟨o,hob ho,hob2 ho,by rw[hgb ho]⟩
  ·have hq:j-1000000<as.length:=by omega
   have e1:=hos (List.getElem?_eq_getElem hq)
   have e2:=hos2 (List.getElem?_eq_getElem hq)
   rw[show 1000000+(j-1000000)=j by omega] at e1 e2
   rw[rl_new hj.1 hρ]
   refine⟨_,e1,?_,by have:=hgn (j-1000000);rw[show 1000000+(j-1000000)=j by omega] at this;rw[this]⟩
   simp only
   rw[e2]
   cases as[j-1000000] <;> rfl
 ·have hmi:(i,o) ∈ nmU ρ bx:=by
   rcases ups_or i (nmU ρ bx) M0 with ⟨h1,_⟩|⟨o',h1,h2⟩
   ·rw[h1] at hi;cases hi
   ·rw[h2] at hi;cases hi;exact h1
  obtain⟨j,o0,q1,rfl,rfl⟩:=nmU_mem.1 hmi
  obtain⟨o1,k1,k2,k3⟩:=hle.le j o0 (ups_mem hnd q1)
  have hjx:∃ o,(j,o) ∈ bx':=by
   have:j ∈ bx'.map (·.1):=by rw[hnames];exact List.mem_map.2 ⟨_,q1,rfl⟩
   obtain⟨y,hy,e⟩:=List.mem_map.1 this
   exact⟨y.2,by rw[← e];exact hy⟩
  obtain⟨o2,hx2⟩:=hjx
  have:=hob hx2
  simp only at this
  rw[this] at k1
  cases k1
  refine⟨_,hob2 hx2,by simp only[addv_ver];omega,fun e=>?_⟩
  simp only[addv_ver] at e
  obtain⟨g1,g2⟩:=k3 (by omega)
  exact⟨by rw[hgb hx2];exact g1,by rw[addv_kind,addv_kind];exact g2⟩
mutual
theorem nm_same {ρ:List (Nat × Nat × Nat)} (hρ:rhoOK ρ=true) {n:Nat}:∀ (r:V),r.okP [] n=true→r.nm ρ=r
 |.d _,_|.nl _,_=>by simp only[V.nm]
 |.bp j u o,h=>by
  simp only[V.okP,inU,Bool.false_or,Bool.and_eq_true,decide_eq_true_eq] at h
  simp only[V.nm,rl_new h.1 hρ,Nat.add_zero]
 |.og j u,h=>by
  simp only[V.okP,inU,Bool.false_or,Bool.and_eq_true,decide_eq_true_eq] at h
  simp only[V.nm,rl_new h.1 hρ,Nat.add_zero]
 |.ag l,h=>by simp only[V.nm];rw[nms_same hρ l (by simpa only[V.okP] using h)]
 |.cl f l,h=>by simp only[V.nm];rw[nms_same hρ l (by simpa only[V.okP] using h)]
 |.tu l,h=>by simp only[V.nm];rw[nms_same hρ l (by simpa only[V.okP] using h)]
 |.ot j u e,h=>by
  simp only[V.okP,inU,Bool.false_or,Bool.and_eq_true,decide_eq_true_eq] at h
  simp only[V.nm,rl_new h.1 hρ,Nat.add_zero]
 |.un,_=>by simp only[V.nm]
 |.z0,h|.ub,h|.ep _ _ _ _,h|.fp _ _,h=>by simp [V.okP] at h
theorem nms_same {ρ:List (Nat × Nat × Nat)} (hρ:rhoOK ρ=true) {n:Nat}:∀ (l:List V),V.okPs [] n l=true→V.nms ρ l=l
 |[],_=>rfl
 |x :: l,h=>by
  simp only[V.okPs,Bool.and_eq_true] at h
  simp only[V.nms,nm_same hρ x h.1,nms_same hρ l h.2]
end
mutual
theorem okP_nil {us:U} {n:Nat}:∀ (r:V),r.okP [] n=true→r.okP us n=true
 |.d _,_|.nl _,_=>rfl
 |.bp j u o,h=>by
  simp only[V.okP,inU,Bool.false_or] at h ⊢
  rw[h,Bool.or_true]
 |.og j u,h=>by
  simp only[V.okP,inU,Bool.false_or] at h ⊢
  rw[h,Bool.or_true]
 |.ag l,h=>by simp only[V.okP] at h ⊢;exact okPs_nil l h
 |.cl f l,h=>by simp only[V.okP] at h ⊢;exact okPs_nil l h
 |.tu l,h=>by simp only[V.okP] at h ⊢;exact okPs_nil l h
 |.ot j u e,h=>by
  simp only[V.okP,inU,Bool.false_or] at h ⊢
  rw[h,Bool.or_true]
 |.un,_=>rfl
 |.z0,h|.ub,h|.ep _ _ _ _,h|.fp _ _,h=>by simp [V.okP] at h
theorem okPs_nil {us:U} {n:Nat}:∀ (l:List V),V.okPs [] n l=true→V.okPs us n l=true
 |[],_=>rfl
 |x :: l,h=>by
  simp only[V.okPs,Bool.and_eq_true] at h ⊢
  exact⟨okP_nil x h.1,okPs_nil l h.2⟩
end
theorem Does.nm1 {P:Program} {f:FuncId} {xs:List V} {cs cs':List V} {r:V} {as:List O} (h:Does P f xs [(900000,.box 0 cs)] r [(900000,.box 0 cs')] as) (i v:Nat) (hi:i<1000000) (hx:V.okPs [(900000,.box 0 cs)] 0 xs=true) (hc:cs.all closed=true) (hc':cs'.all closed=true) (has:as.all O.wf=true) (hr:r.okP [] as.length=true) :
  Does P f (V.nms [(900000,i,v)] xs) [(i,.box v cs)] r [(i,.box v cs')] as:=by
 have hρ:rhoOK [(900000,i,v)]=true:=by simp [rhoOK,hi]
 have:=h.nm [(900000,i,v)] hρ (by simp [lowU]) (by simp [apartU,freeOf]) rfl (by simpa [O.wfB] using hc) (by simpa [O.wfB] using hc') hx has (okP_nil r hr)
 rw[nm_same hρ r hr] at this
 simpa only[nmU,rl,if_true,O.addv,Nat.zero_add] using this
end Go.Proofs.YtacfbiegbdlldaaGreatDoor.Sim
end
