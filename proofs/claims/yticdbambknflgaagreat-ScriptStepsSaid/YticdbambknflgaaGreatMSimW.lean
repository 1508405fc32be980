/- A region that draws its order: of no program. Conditions: none. -/
import Derived.Test.YticdbambknflgaaGreatMSimV
namespace Go.Proofs.YticdbambknflgaaGreat.Sim
open Go Go.RowKit Go.Deep
set_option linter.unusedVariables false
structure Ent where
 o:AO
 v:V
 us:U
 xs:List V
def Ent.wr (e:Ent):List Nat:=e.us.map (·.1)
def Ent.deps (e:Ent):List Nat:=(if looks e.o.k=true then V.idss e.xs else [])++e.wr++[e.o.dst.getD 0]
def usesA:List AV→List Nat
 |[]=>[]
 |.t n :: r=>n :: usesA r
 |.c _ :: r=>usesA r
def AO.uses (o:AO):List Nat:=usesA o.xs++(match o.guard with
 |some (_,t,_)=>[t]
 |none=>[])
def noneIn (d:Option Nat) (l:List Nat):Bool:=match d with
 |some d=>!l.contains d
 |none=>true
def apart (l r:List Nat):Bool:=l.all fun i=>!r.contains i
def indep (e f:Ent):Bool:=noneIn e.o.dst f.o.uses&&noneIn f.o.dst e.o.uses&&noneIn e.o.dst f.o.dst.toList&&apart e.wr f.deps&&apart f.wr e.deps
def ancL:List AO→List (List Nat)→List (List Nat)
 |[],acc=>acc
 |o :: r,acc=>ancL r (acc++[o.after++o.after.flatMap fun j=>acc.getD j []])
def indepAll (anc:List (List Nat)) (L:List Ent):Nat→List Ent→Bool
 |_,[]=>true
 |j,f :: r=>((L.take j).zipIdx.all fun p=>(anc.getD j []).contains p.2||indep p.1 f)&&indepAll anc L (j+1) r
def wfAfter:Nat→List AO→Bool
 |_,[]=>true
 |i,o :: r=>o.after.all (fun j=>decide (j<i))&&wfAfter (i+1) r
def OpR (P:Program) (s:St) (e:Ent):Prop:=match e.o.guard with
 |none=>e.xs=e.o.xs.map (ev s.T)∧StepA P e.o.k (e.o.dst.getD 0) e.xs s.m e.v e.us
 |some (_,t,b)=>∃ c,gv (s.T t)=some c∧((c=some b∧e.xs=e.o.xs.map (ev s.T)∧StepA P e.o.k (e.o.dst.getD 0) e.xs s.m e.v e.us)∨(c ≠ some b∧e.v=.tu []∧e.us=[]∧e.xs=[]))
def putE (s:St) (e:Ent):St:=s.put e.o.dst e.v e.us
def TextR (P:Program):List Ent→St→St→Prop
 |[],s,s'=>s'=s
 |e :: r,s,s'=>OpR P s e∧TextR P r (putE s e) s'
def runE (p:Nat→Bool):Nat→List Ent→St→St
 |_,[],s=>s
 |k,e :: r,s=>runE p (k+1) r (if p k=true then putE s e else s)
section
variable {P:Program} {p q:Nat→Bool}
theorem ups_hit {i:Nat}:∀ {us:U} {m m2:M},i ∈ us.map (·.1)→ups m us i=ups m2 us i
 |[],_,_,h=>by simp at h
 |(j,o) :: us,m,m2,h=>by
  by_cases hi:i ∈ us.map (·.1)
  ·rw[ups,ups];exact ups_hit hi
  ·have hno:∀ x ∈ us,x.1 ≠ i:=fun x hx e=>hi (List.mem_map.2 ⟨x,hx,e⟩)
   have:i=j:=by
    simp only[List.map_cons,List.mem_cons] at h
    exact h.resolve_right hi
   subst this
   rw[ups,ups,ups_not hno,ups_not hno,up_same,up_same]
theorem ups_miss {i:Nat} {us:U} {m:M} (h:i ∉ us.map (·.1)):ups m us i=m i:=ups_not fun x hx e=>h (List.mem_map.2 ⟨x,hx,e⟩)
theorem putE_T (s:St) (e:Ent) (t:Nat):(putE s e).T t=if e.o.dst=some t then e.v else s.T t:=by
 unfold putE St.put
 cases h:e.o.dst with
 |none=>simp
 |some d =>
  simp only[up,Option.some.injEq]
  by_cases e':t=d
  ·subst e';simp
  ·rw[if_neg e',if_neg fun h=>e' h.symm]
theorem putE_m (s:St) (e:Ent):(putE s e).m=ups s.m e.us:=rfl
theorem runE_T {t:Nat}:∀ {L:List Ent} {k:Nat} {s s2:St},(∀ j e,L[j]?=some e→e.o.dst=some t→p (k+j)=q (k+j))→s.T t=s2.T t→(runE p k L s).T t=(runE q k L s2).T t
 |[],k,s,s2,_,h=>h
 |e :: r,k,s,s2,hp,h=>by
  simp only[runE]
  refine runE_T (fun j f hj hd=>?_) ?_
  ·have:=hp (j+1) f (by simpa using hj) hd
   rwa [show k+(j+1)=k+1+j by omega] at this
  ·by_cases hd:e.o.dst=some t
   ·have hpq:=hp 0 e rfl hd
    simp only[Nat.add_zero] at hpq
    rw[hpq]
    split
    ·rw[putE_T,putE_T,if_pos hd,if_pos hd]
    ·exact h
   ·split <;> split <;> simp only[putE_T,if_neg hd,h]
theorem runE_m {i:Nat}:∀ {L:List Ent} {k:Nat} {s s2:St},(∀ j e,L[j]?=some e→i ∈ e.wr→p (k+j)=q (k+j))→s.m i=s2.m i→(runE p k L s).m i=(runE q k L s2).m i
 |[],k,s,s2,_,h=>h
 |e :: r,k,s,s2,hp,h=>by
  simp only[runE]
  refine runE_m (fun j f hj hd=>?_) ?_
  ·have:=hp (j+1) f (by simpa using hj) hd
   rwa [show k+(j+1)=k+1+j by omega] at this
  ·by_cases hd:i ∈ e.wr
   ·have hpq:=hp 0 e rfl hd
    simp only[Nat.add_zero] at hpq
    rw[hpq]
    split
    ·rw[putE_m,putE_m];exact ups_hit hd
    ·exact h
   ·split <;> split <;> simp only[putE_m,ups_miss (show i ∉ e.us.map (·.1) from hd),h]
theorem runE_none:∀ {L:List Ent} {k:Nat} {s:St},(∀ j,k≤j→p j=false)→runE p k L s=s
 |[],_,_,_=>rfl
 |e :: r,k,s,h=>by
  simp only[runE]
  rw[h k (Nat.le_refl _)]
  exact runE_none fun j hj=>h j (by omega)
theorem runE_congr:∀ {L:List Ent} {k:Nat} {s:St},(∀ j,k≤j→p j=q j)→runE p k L s=runE q k L s
 |[],_,_,_=>rfl
 |e :: r,k,s,h=>by
  simp only[runE]
  rw[h k (Nat.le_refl _)]
  exact runE_congr fun j hj=>h j (by omega)
theorem textR_get:∀ {L:List Ent} {k:Nat} {s s':St},TextR P L s s'→∀ (i:Nat) (e:Ent),L[i]?=some e→OpR P (runE (fun j=>decide (j<k+i)) k L s) e
 |[],k,s,s',_,i,e,h=>by simp at h
 |f :: r,k,s,s',ht,0,e,h=>by
  simp only[List.getElem?_cons_zero,Option.some.injEq] at h
  subst h
  rw[runE_none (fun j hj=>by simp;omega)]
  exact ht.1
 |f :: r,k,s,s',ht,i+1,e,h=>by
  simp only[runE]
  rw[if_pos (by simp)]
  have:=textR_get (k:=k+1) ht.2 i e (by simpa using h)
  rwa [show (fun j=>decide (j<k+(i+1)))=(fun j=>decide (j<k+1+i)) from funext fun j=>by congr 1;apply propext;omega]
theorem textR_end:∀ {L:List Ent} {k:Nat} {s s':St},TextR P L s s'→(∀ j,k≤j→j<k+L.length→p j=true)→runE p k L s=s'
 |[],k,s,s',h,_=>by simp only[TextR] at h;simp only[runE];exact h.symm
 |f :: r,k,s,s',h,hp=>by
  simp only[runE]
  rw[if_pos (hp k (Nat.le_refl _) (by simp))]
  exact textR_end h.2 fun j h1 h2=>hp j (by omega) (by simp;omega)
theorem put_comm {s:St} {e f:Ent} (hd:noneIn e.o.dst f.o.dst.toList=true) (hw:∀ i ∈ e.wr,i ∉ f.wr):putE (putE s e) f=putE (putE s f) e:=by
 have h1:(putE (putE s e) f).T=(putE (putE s f) e).T:=by
  funext t
  simp only[putE_T]
  by_cases h1:f.o.dst=some t
  ·by_cases h2:e.o.dst=some t
   ·exfalso
    unfold noneIn at hd
    rw[h2,h1] at hd
    simp at hd
   ·rw[if_pos h1,if_neg h2,if_pos h1]
  ·rw[if_neg h1,if_neg h1]
 have h2:(putE (putE s e) f).m=(putE (putE s f) e).m:=by
  funext i
  simp only[putE_m]
  by_cases h1:i ∈ f.us.map (·.1)
  ·rw[ups_hit (m2:=s.m) h1,ups_miss (us:=e.us) (fun h=>hw i h h1)]
  ·rw[ups_miss h1]
   by_cases h2:i ∈ e.us.map (·.1)
   ·exact ups_hit h2
   ·rw[ups_miss h2,ups_miss h2,ups_miss h1]
 cases h:putE (putE s e) f
 cases h':putE (putE s f) e
 rw[h,h'] at h1 h2
 simp only at h1 h2
 subst h1
 subst h2
 rfl
theorem runE_put {e:Ent}:∀ {L:List Ent} {k:Nat} {s:St},(∀ j f,L[j]?=some f→p (k+j)=true→noneIn e.o.dst f.o.dst.toList=true∧∀ i ∈ e.wr,i ∉ f.wr)→runE p k L (putE s e)=putE (runE p k L s) e
 |[],k,s,_=>rfl
 |f :: r,k,s,h=>by
  simp only[runE]
  have ih:=fun s=>runE_put (L:=r) (k:=k+1) (s:=s) fun j g hj hp=>h (j+1) g (by simpa using hj) (by rwa [show k+(j+1)=k+1+j by omega])
  split
  ·rename_i hk
   obtain⟨h1,h2⟩:=h 0 f rfl hk
   rw[put_comm h1 h2]
   exact ih _
  ·exact ih _
theorem runE_insert {e:Ent}:∀ {L:List Ent} {k i:Nat} {s:St},L[i]?=some e→p (k+i)=false→(∀ j f,L[j]?=some f→i<j→p (k+j)=true→noneIn e.o.dst f.o.dst.toList=true∧∀ i ∈ e.wr,i ∉ f.wr) →
  runE (fun j=>if j=k+i then true else p j) k L s=putE (runE p k L s) e
 |[],k,i,s,h,_,_=>by simp at h
 |f :: r,k,0,s,h,hp,hi=>by
  simp only[List.getElem?_cons_zero,Option.some.injEq] at h
  subst h
  simp only[runE,Nat.add_zero,if_true]
  simp only[Nat.add_zero] at hp
  rw[hp]
  rw[runE_congr (q:=p) (fun j hj=>by rw[if_neg (by omega)])]
  simp only[Bool.false_eq_true,if_false]
  exact runE_put fun j g hj hpj=>hi (j+1) g (by simpa using hj) (by omega) (by rwa [show k+(j+1)=k+1+j by omega])
 |f :: r,k,i+1,s,h,hp,hi=>by
  simp only[runE]
  have hk:(if k=k+(i+1) then true else p k)=p k:=if_neg (by omega)
  simp only[hk]
  have ih:=fun s=>runE_insert (L:=r) (k:=k+1) (i:=i) (s:=s) (by simpa using h) (by rwa [show k+1+i=k+(i+1) by omega]) fun j g hj hij hpj=>hi (j+1) g (by simpa using hj) (by omega) (by rwa [show k+(j+1)=k+1+j by omega])
  rw[show (fun j=>if j=k+(i+1) then true else p j)=(fun j=>if j=k+1+i then true else p j) from funext fun j=>by rw[show k+(i+1)=k+1+i by omega]]
  exact ih _
theorem ancL_ok:∀ {ops:List AO} {acc:List (List Nat)},(∀ j o,ops[j]?=some o→p (acc.length+j)=true→∀ a ∈ o.after,p a=true)→(∀ j a,a ∈ acc.getD j []→p j=true→p a=true)→∀ j a,a ∈ (ancL ops acc).getD j []→p j=true→p a=true
 |[],acc,_,h,j,a,ha,hp=>h j a ha hp
 |o :: r,acc,hc,h,j,a,ha,hp=>by
  simp only[ancL] at ha
  refine ancL_ok (ops:=r) (fun j' o' hj' hp'=>?_) (fun j' a' ha' hp'=>?_) j a ha hp
  ·rw[List.length_append,List.length_singleton] at hp'
   exact hc (j'+1) o' (by simpa using hj') (by rwa [show acc.length+(j'+1)=acc.length+1+j' by omega])
  ·rw[List.getD_eq_getElem?_getD] at ha'
   rcases Nat.lt_trichotomy j' acc.length with hlt|heq|hgt
   ·rw[List.getElem?_append_left hlt] at ha'
    exact h j' a' (by rw[List.getD_eq_getElem?_getD];exact ha') hp'
   ·subst heq
    rw[List.getElem?_append_right (Nat.le_refl _),Nat.sub_self] at ha'
    simp only[List.getElem?_cons_zero,Option.getD_some,List.mem_append,List.mem_flatMap] at ha'
    have hc0:=hc 0 o rfl (by simpa using hp')
    rcases ha' with ha'|⟨b,hb,ha'⟩
    ·exact hc0 a' ha'
    ·exact h b a' ha' (hc0 b hb)
   ·rw[List.getElem?_eq_none (by simp;omega)] at ha'
    simp at ha'
theorem indepAll_get {anc:List (List Nat)} {L:List Ent}:∀ {r:List Ent} {k:Nat},indepAll anc L k r=true→∀ j f,r[j]?=some f→∀ i e,i<k+j→L[i]?=some e→(anc.getD (k+j) []).contains i=true∨indep e f=true
 |[],k,_,j,f,h,_,_,_,_=>by simp at h
 |g :: r,k,h,0,f,hf,i,e,hij,hi=>by
  simp only[List.getElem?_cons_zero,Option.some.injEq] at hf
  subst hf
  simp only[indepAll,Bool.and_eq_true] at h
  have hil:i<L.length:=(List.getElem?_eq_some_iff.1 hi).1
  have:=List.all_eq_true.1 h.1 (e,i) (List.mk_mem_zipIdx_iff_getElem?.2 (by rw[List.getElem?_take,if_pos (by omega)];simpa using hi))
  simpa using this
 |g :: r,k,h,j+1,f,hf,i,e,hij,hi=>by
  simp only[indepAll,Bool.and_eq_true] at h
  have:=indepAll_get h.2 j f (by simpa using hf) i e (by omega) hi
  rwa [show k+1+j=k+(j+1) by omega] at this
theorem wfAfter_get:∀ {r:List AO} {k:Nat},wfAfter k r=true→∀ j o,r[j]?=some o→∀ a ∈ o.after,a<k+j
 |[],k,_,j,o,h=>by simp at h
 |g :: r,k,h,0,o,ho=>by
  simp only[List.getElem?_cons_zero,Option.some.injEq] at ho
  subst ho
  simp only[wfAfter,Bool.and_eq_true] at h
  intro a ha
  have:=List.all_eq_true.1 h.1 a ha
  simpa using this
 |g :: r,k,h,j+1,o,ho=>by
  simp only[wfAfter,Bool.and_eq_true] at h
  intro a ha
  have:=wfAfter_get h.2 j o (by simpa using ho) a ha
  omega
theorem opAs_get {N:NF} {ops:Array Oper}:∀ {l:List Oper} {aos:List AO},opAs P N true ops l=some aos→aos.length=l.length∧∀ (i:Nat) (o:Oper),l[i]?=some o→∃ ao,aos[i]?=some ao∧opA P N true ops o=some ao
 |[],aos,h=>by
  simp only[opAs,Option.some.injEq] at h
  subst h
  exact⟨rfl,fun i o h=>by simp at h⟩
 |o :: l,aos,h=>by
  unfold opAs at h
  split at h
  ·rename_i ao aos' h1 h2
   cases h
   obtain⟨h3,h4⟩:=opAs_get h2
   refine⟨by simp [h3],fun i o' hi=>?_⟩
   cases i with
   |zero=>simp at hi;subst hi;exact⟨ao,rfl,h1⟩
   |succ i=>simpa using h4 i o' (by simpa using hi)
  ·cases h
section
variable {cx:Cx} {a:Act} {w:World}
theorem uses_congr {T T':Nat→V}:∀ {xs:List AV},(∀ t ∈ usesA xs,T' t=T t)→xs.map (ev T')=xs.map (ev T)
 |[],_=>rfl
 |.t n :: r,h=>by
  simp only[usesA,List.mem_cons] at h
  simp only[List.map_cons,ev,h n (.inl rfl),uses_congr (xs:=r) fun t ht=>h t (.inr ht)]
 |.c x :: r,h=>by
  simp only[usesA] at h
  simp only[List.map_cons,ev,uses_congr (xs:=r) h]
theorem opR_congr {s s':St} {e:Ent} (h:OpR P s e) (hT:∀ t ∈ e.o.uses,s'.T t=s.T t) (hm:∀ i ∈ e.deps,s'.m i=s.m i):OpR P s' e:=by
 have hxs:e.o.xs.map (ev s'.T)=e.o.xs.map (ev s.T):=uses_congr fun t ht=>hT t (by simp only[AO.uses,List.mem_append];exact .inl ht)
 have hstep:StepA P e.o.k (e.o.dst.getD 0) e.xs s.m e.v e.us→StepA P e.o.k (e.o.dst.getD 0) e.xs s'.m e.v e.us:=fun hs =>
  stepA_congr hs (fun hk i hi=>hm i (by simp only[Ent.deps,if_pos hk,List.mem_append];exact .inl (.inl hi))) (hm _ (by simp [Ent.deps])) (fun x hx=>hm x.1 (by simp only[Ent.deps,List.mem_append];exact .inl (.inr (List.mem_map.2 ⟨x,hx,rfl⟩))))
 unfold OpR at h ⊢
 split
 ·rename_i hg
  rw[hg] at h
  exact⟨by rw[hxs];exact h.1,hstep h.2⟩
 ·rename_i j t b hg
  rw[hg] at h
  obtain⟨c,h1,h2⟩:=h
  refine⟨c,by rw[hT t (by simp [AO.uses,hg])];exact h1,h2.imp (fun⟨e1,e2,e3⟩=>⟨e1,by rw[hxs];exact e2,hstep e3⟩) id⟩
theorem mem_apart {l r:List Nat} (h:Sim.apart l r=true) {i:Nat} (h1:i ∈ l):i ∉ r:=by
 have:=List.all_eq_true.1 h i h1
 simpa using this
theorem noneIn_ok {d:Option Nat} {l:List Nat} (h:noneIn d l=true) {t:Nat} (hd:d=some t):t ∉ l:=by
 subst hd
 simpa [noneIn] using h
theorem runE_full:∀ {L:List Ent} {k:Nat} {s:St},(∀ j,k≤j→j<k+L.length→p j=true)→runE p k L s=runE (fun _=>true) k L s
 |[],k,s,_=>rfl
 |f :: r,k,s,hp=>by
  simp only[runE]
  rw[if_pos (hp k (Nat.le_refl _) (by simp)),if_pos trivial]
  exact runE_full fun j h1 h2=>hp j (by omega) (by simp;omega)
theorem textR_run:∀ {L:List Ent} {k:Nat} {s s':St},TextR P L s s'→runE (fun _=>true) k L s=s':=fun h=>textR_end h fun _ _ _=>rfl
theorem dr_get {listed:Array Bool} {i:Nat} (hlt:i<listed.size) (j:Nat):(listed.setIfInBounds i true).getD j false=if j=i then true else listed.getD j false:=by
 by_cases e':j=i
 ·subst e';rw[if_pos rfl];simp [hlt]
 ·rw[if_neg e',getD_set_ne false (Ne.symm e')]
theorem dr_count {listed:Array Bool} {i fuel:Nat} (hlt:i<listed.size) (hil:listed.getD i false=false) (hc:(listed.toList.filter (! ·)).length=fuel+1):((listed.setIfInBounds i true).toList.filter (! ·)).length=fuel:=by
 have hf:listed[i]=false:=by simpa [hlt] using hil
 have h1:listed.toList=listed.toList.take i++(false :: listed.toList.drop (i+1)):=by
  rw[← hf,← Array.getElem_toList hlt,← List.drop_eq_getElem_cons (by simpa using hlt),List.take_append_drop]
 have h2:(listed.setIfInBounds i true).toList=listed.toList.take i++(true :: listed.toList.drop (i+1)):=by
  rw[Array.toList_setIfInBounds,List.set_eq_take_append_cons_drop,if_pos (by simpa using hlt)]
 rw[h1] at hc
 rw[h2]
 simp only[List.filter_append,List.filter_cons,Bool.not_false,Bool.not_true,if_true,Bool.false_eq_true,if_false,List.length_append,List.length_cons] at hc ⊢
 omega
def ClosedL (aos:List AO) (listed:Array Bool):Prop:=∀ j o,aos[j]?=some o→listed.getD j false=true→∀ b ∈ o.after,listed.getD b false=true
theorem dr_closed {aos:List AO} {listed:Array Bool} {i:Nat} {ao:AO} (hlt:i<listed.size) (hao:aos[i]?=some ao) (haft:∀ b ∈ ao.after,listed.getD b false=true) (hcl:ClosedL aos listed):ClosedL aos (listed.setIfInBounds i true):=by
 intro j o' hj hp b hb
 rw[dr_get hlt] at hp ⊢
 by_cases e':j=i
 ·subst e'
  rw[hao] at hj
  cases hj
  split
  ·rfl
  ·exact haft b hb
 ·rw[if_neg e'] at hp
  split
  ·rfl
  ·exact hcl j o' hj hp b hb
theorem dr_anc {aos:List AO} {listed:Array Bool} (hcl:ClosedL aos listed):∀ j b,b ∈ (ancL aos []).getD j []→listed.getD j false=true→listed.getD b false=true:=fun j b=>ancL_ok (p:=fun j=>listed.getD j false) (fun j o hj hp=>hcl j o hj (by simpa using hp)) (fun j b h _=>by simp at h) j b
theorem dr_loc {aos:List AO} {L:List Ent} {s:St} {listed:Array Bool} {i:Nat} {e:Ent} (hL:L.map (·.o)=aos) (hi:indepAll (ancL aos []) L 0 L=true) (he:L[i]?=some e) (hlt:i<listed.size) (hil:listed.getD i false=false) (hcl:ClosedL aos listed) (haft:∀ b ∈ e.o.after,listed.getD b false=true) :
  (∀ t ∈ e.o.uses,(runE (fun j=>listed.getD j false) 0 L s).T t=(runE (fun j=>decide (j<0+i)) 0 L s).T t)∧(∀ id ∈ e.deps,(runE (fun j=>listed.getD j false) 0 L s).m id=(runE (fun j=>decide (j<0+i)) 0 L s).m id)∧runE (fun j=>(listed.setIfInBounds i true).getD j false) 0 L s=putE (runE (fun j=>listed.getD j false) 0 L s) e:=by
 have hao:aos[i]?=some e.o:=by rw[← hL,List.getElem?_map,he];rfl
 have hpair:∀ j f,L[j]?=some f→(j<i→listed.getD j false=false→indep f e=true)∧(i<j→listed.getD j false=true→indep e f=true):=by
  intro j f hf
  constructor
  ·intro hji hlj
   rcases indepAll_get hi i e he j f (by omega) hf with h|h
   ·exfalso
    have:=dr_anc (dr_closed hlt hao haft hcl) i j (by simpa using h) (by rw[dr_get hlt,if_pos rfl])
    rw[dr_get hlt,if_neg (by omega)] at this
    rw[hlj] at this
    cases this
   ·exact h
  ·intro hij hlj
   rcases indepAll_get hi j f hf i e (by omega) he with h|h
   ·exfalso
    have:=dr_anc hcl j i (by simpa using h) hlj
    rw[hil] at this
    cases this
   ·exact h
 refine⟨fun t ht=>runE_T (fun j f hf hd=>?_) rfl,fun id hid=>runE_m (fun j f hf hd=>?_) rfl,?_⟩
 ·simp only[Nat.zero_add]
  obtain⟨p1,p2⟩:=hpair j f hf
  rcases Nat.lt_trichotomy j i with h|h|h
  ·cases hlj:listed.getD j false with
   |true=>simp [h]
   |false =>
    have:=p1 h hlj
    simp only[indep,Bool.and_eq_true] at this
    exact absurd ht (noneIn_ok this.1.1.1.1 hd)
  ·subst h;rw[hil];simp
  ·cases hlj:listed.getD j false with
   |false=>simp;omega
   |true =>
    have:=p2 h hlj
    simp only[indep,Bool.and_eq_true] at this
    exact absurd ht (noneIn_ok this.1.1.1.2 hd)
 ·simp only[Nat.zero_add]
  obtain⟨p1,p2⟩:=hpair j f hf
  rcases Nat.lt_trichotomy j i with h|h|h
  ·cases hlj:listed.getD j false with
   |true=>simp [h]
   |false =>
    have:=p1 h hlj
    simp only[indep,Bool.and_eq_true] at this
    exact absurd hid (mem_apart this.1.2 hd)
  ·subst h;rw[hil];simp
  ·cases hlj:listed.getD j false with
   |false=>simp;omega
   |true =>
    have:=p2 h hlj
    simp only[indep,Bool.and_eq_true] at this
    exact absurd hid (mem_apart this.2 hd)
 ·have h1:(fun j=>(listed.setIfInBounds i true).getD j false)=(fun j=>if j=0+i then true else listed.getD j false):=funext fun j=>by rw[dr_get hlt j,Nat.zero_add]
  rw[h1]
  refine runE_insert (p:=fun j=>listed.getD j false) he (by simpa using hil) fun j f hf hij hlj=>?_
  have:=(hpair j f hf).2 hij (by simpa using hlj)
  simp only[indep,Bool.and_eq_true] at this
  exact⟨this.1.1.2,fun id h1 h2=>mem_apart this.1.2 h1 (by simp only[Ent.deps,List.mem_append];exact .inl (.inr h2))⟩
theorem dr_all {N:NF} {ops:Array Oper} {aos:List AO} (hops:opAs P N true ops ops.toList=some aos) (hw:wfAfter 0 aos=true) {listed:Array Bool} (hsz:listed.size=ops.size) (hr:Region.ready .any ops listed=[]):∀ j,j<ops.size→listed.getD j false=true:=by
 obtain⟨hlen,hget⟩:=opAs_get hops
 intro j
 induction j using Nat.strongRecOn with
 |_ j ih =>
  intro hj
  cases hlj:listed.getD j false with
  |true=>rfl
  |false =>
   exfalso
   obtain⟨ao,h1,h2⟩:=hget j ops[j] (by simp [hj])
   have:j ∈ Region.ready .any ops listed:=mem_ready.2 ⟨by simp only[Array.getD_eq_getD_getElem?,Array.getElem?_eq_getElem (show j<listed.size by omega),Option.getD_some] at hlj ⊢;exact hlj,ops[j],by simp [hj],fun e he hb=>by
    have hlt:e.on<j:=by
     have:=wfAfter_get hw j ao h1 e.on (by
      obtain⟨_,_,_,_,_,_,haf,_⟩:=opA_ok h2
      rw[haf]
      simp only[befores]
      refine List.mem_filterMap.2 ⟨e,by simpa using he,by rw[if_pos hb]⟩)
     omega
    exact ih e.on hlt (by omega)⟩
   rw[hr] at this
   cases this
theorem dr_none {ops:Array Oper} {listed:Array Bool} (hsz:listed.size=ops.size) (hc:(listed.toList.filter (! ·)).length=0):Region.ready .any ops listed=[]:=by
 cases hr:Region.ready .any ops listed with
 |nil=>rfl
 |cons i r =>
  exfalso
  have hm:i ∈ Region.ready .any ops listed:=by rw[hr];simp
  obtain⟨h0,o,ho,_⟩:=mem_ready.1 hm
  have hlt:i<listed.size:=by rw[hsz];exact (Array.getElem?_eq_some_iff.1 ho).1
  have hf:listed[i]=false:=by simpa [hlt] using h0
  have:false ∈ listed.toList.filter (! ·):=List.mem_filter.2 ⟨by rw[← hf];exact Array.getElem_mem_toList hlt,rfl⟩
  rw[List.eq_nil_of_length_eq_zero hc] at this
  cases this
theorem dr_ready {N:NF} {ops:Array Oper} {aos:List AO} (hops:opAs P N true ops ops.toList=some aos) {listed:Array Bool} (hsz:listed.size=ops.size) {i:Nat} (hi':i ∈ Region.ready .any ops listed):∃ o ao,ops[i]?=some o∧i<listed.size∧listed.getD i false=false∧aos[i]?=some ao∧opA P N true ops o=some ao∧∀ b ∈ ao.after,listed.getD b false=true:=by
 obtain⟨hlen,hget⟩:=opAs_get hops
 obtain⟨h0,o,ho,hbef⟩:=mem_ready.1 hi'
 have hio:i<ops.size:=(Array.getElem?_eq_some_iff.1 ho).1
 have hlt:i<listed.size:=by rw[hsz];exact hio
 obtain⟨ao,hao,hA⟩:=hget i o (by simpa using ho)
 obtain⟨xs,ts,_,_,g3,g4,g5,g6⟩:=opA_ok hA
 refine⟨o,ao,ho,hlt,by simp only[Array.getD_eq_getD_getElem?,Array.getElem?_eq_getElem hlt,Option.getD_some] at h0 ⊢;exact h0,hao,hA,?_⟩
 intro b hb
 rw[g5] at hb
 simp only[befores] at hb
 obtain⟨ed,h1,h2⟩:=List.mem_filterMap.1 hb
 split at h2
 ·rename_i hbind
  cases h2
  exact hbef ed (by simpa using h1) hbind
 ·cases h2
theorem dr_step {N:NF} {ops:Array Oper} {Q:Exit→Act→World→Prop} (hN:cx.N=N) {s:St} {e:Ent} {o:Oper} {i fuel:Nat} {listed:Array Bool} (ho:ops[i]?=some o) (hA:opA P N true ops o=some e.o) (hX:OpR P s e) (hR:Rel cx s a w)
  (hnext:∀ a' w',Rel cx (putE s e) a' w'→wpAny P .any ops Q fuel (listed.setIfInBounds i true) a' w'):wpOp P ops Q i (wpAny P .any ops Q fuel (listed.setIfInBounds i true)) a w:=by
 obtain⟨xs,ts,_,_,g3,g4,g5,g6⟩:=opA_ok hA
 unfold wpOp
 rw[ho]
 simp only
 have hd:∀ d,o.dst=some d→d<cx.N.n:=by rw[hN];exact g4
 unfold OpR at hX
 cases hg:o.guard with
 |none =>
  rw[hg] at g6
  simp only at g6
  rw[g6] at hX
  obtain⟨hx1,hx2⟩:=hX
  rw[if_pos (by simp [Region.wanted,hg])]
  rw[hx1] at hx2
  exact .inl (step_ok hN hA hR hx2 fun a' w' h=>hnext a' w' h)
 |some pr =>
  obtain⟨j,b⟩:=pr
  rw[hg] at g6
  obtain⟨t,h6,h7⟩:=g6
  rw[h7] at hX
  obtain⟨c,hc1,hc2⟩:=hX
  have hy:=yields_ok hR h6 hc1
  rcases hc2 with ⟨hcb,hx1,hx2⟩|⟨hcb,hx1,hx2,hx3⟩
  ·rw[if_pos (by simp [Region.wanted,hg,hy,hcb])]
   rw[hx1] at hx2
   exact .inl (step_ok hN hA hR hx2 fun a' w' h=>hnext a' w' h)
  ·rw[if_neg (by simp [Region.wanted,hg,hy,hcb])]
   have:=hR.skip hd
   rw[← g3] at this
   refine hnext _ _ ?_
   unfold putE
   rw[hx1,hx2]
   rw[g3] at this ⊢
   exact this
theorem draw_okc {N:NF} {ops:Array Oper} {aos:List AO} {L:List Ent} {s s':St} {Q:Exit→Act→World→Prop} (hN:cx.N=N) (hops:opAs P N true ops ops.toList=some aos) (hL:L.map (·.o)=aos) (c:Nat) (hOp:∀ i e,i ≠ c→L[i]?=some e→OpR P (runE (fun j=>decide (j<0+i)) 0 L s) e) (hend:runE (fun _=>true) 0 L s=s') (hw:wfAfter 0 aos=true) (hi:indepAll (ancL aos []) L 0 L=true)
  (hQ:∀ a w,Rel cx s' a w→Q .normal a w):∀ (fuel:Nat) (listed:Array Bool) (a:Act) (w:World),listed.size=ops.size→(listed.toList.filter (! ·)).length=fuel→ClosedL aos listed→(c<ops.size→listed.getD c false=true) →
   Rel cx (runE (fun j=>listed.getD j false) 0 L s) a w→wpAny P .any ops Q fuel listed a w:=by
 obtain⟨hlen,hget⟩:=opAs_get hops
 have hLl:L.length=aos.length:=by rw[← hL,List.length_map]
 have hLo:∀ {i:Nat} {ao:AO},aos[i]?=some ao→∃ e,L[i]?=some e∧e.o=ao:=fun {i ao} h=>by
  rw[← hL,List.getElem?_map] at h
  cases he:L[i]? with
  |none=>rw[he] at h;cases h
  |some e=>rw[he] at h;cases h;exact⟨e,rfl,rfl⟩
 have hdone:∀ (listed:Array Bool) (a:Act) (w:World),listed.size=ops.size→Region.ready .any ops listed=[]→Rel cx (runE (fun j=>listed.getD j false) 0 L s) a w→Q .normal a w:=by
  intro listed a w hsz hr hR
  rw[runE_full (fun j _ hj=>dr_all hops hw hsz hr j (by rw[hLl,hlen] at hj;simpa using hj)),hend] at hR
  exact hQ a w hR
 intro fuel
 induction fuel with
 |zero =>
  intro listed a w hsz hc hcl hlc hR
  have hnil:=dr_none hsz hc
  exact⟨hnil,hdone listed a w hsz hnil hR⟩
 |succ fuel ih =>
  intro listed a w hsz hc hcl hlc hR
  refine⟨fun hnil=>hdone listed a w hsz hnil hR,fun i hi'=>?_⟩
  obtain⟨o,ao,ho,hlt,hil,hao,hA,haft⟩:=dr_ready hops hsz hi'
  obtain⟨e,he,rfl⟩:=hLo hao
  have hic:i ≠ c:=by
   rintro rfl
   rw[hlc (by rw[← hsz];exact hlt)] at hil
   cases hil
  obtain⟨k1,k2,k3⟩:=dr_loc (s:=s) hL hi he hlt hil hcl haft
  refine dr_step hN ho hA (opR_congr (hOp i e hic he) k1 k2) hR fun a' w' hR'=>?_
  refine ih _ a' w' (by simpa using hsz) (dr_count hlt hil hc) (dr_closed hlt hao haft hcl) (fun h=>?_) (by rw[k3];exact hR')
  rw[dr_get hlt]
  split
  ·rfl
  ·exact hlc h
theorem draw_ok {N:NF} {ops:Array Oper} {aos:List AO} {L:List Ent} {s s':St} {Q:Exit→Act→World→Prop} (hN:cx.N=N) (hops:opAs P N true ops ops.toList=some aos) (hL:L.map (·.o)=aos) (hT:TextR P L s s') (hw:wfAfter 0 aos=true) (hi:indepAll (ancL aos []) L 0 L=true)
  (hQ:∀ a w,Rel cx s' a w→Q .normal a w):∀ (fuel:Nat) (listed:Array Bool) (a:Act) (w:World),listed.size=ops.size→(listed.toList.filter (! ·)).length=fuel→ClosedL aos listed →
   Rel cx (runE (fun j=>listed.getD j false) 0 L s) a w→wpAny P .any ops Q fuel listed a w:=fun fuel listed a w h1 h2 h3 h4 =>
 draw_okc hN hops hL ops.size (fun i e _ he=>textR_get hT i e he) (textR_run hT) hw hi hQ fuel listed a w h1 h2 h3 (fun h=>absurd h (Nat.lt_irrefl _)) h4
/-! ### With one call that may come to several results -/
def StepP (P:Program) (k:K) (xs:List V) (m:M) (Qs:V→Prop) (us:U):Prop:=match k with
 |.call f=>∃ ys,DoesP P f ys Qs∧Args m [] xs ys∧(∀ q,Qs q→q.wfR [] 0=true)∧us=frz m (V.flats xs)
 |_=>False
theorem stepP_congr {k:K} {xs:List V} {m m':M} {Qs:V→Prop} {us:U} (h:StepP P k xs m Qs us) (hm:∀ i ∈ V.idss xs,m' i=m i):StepP P k xs m' Qs us:=by
 unfold StepP at h ⊢
 split at h
 ·obtain⟨ys,h1,h2,h3,h4⟩:=h
  exact⟨ys,h1,args_congr h2 hm,h3,by rw[h4];exact (frz_congr fun i hi=>hm i (flats_ids xs i hi)).symm⟩
 ·cases h
theorem stepP_E {k:K} {d:Nat} {xs:List V} {m:M} {Qs:V→Prop} {us:U} (h:StepP P k xs m Qs us) {R:V→U→Prop} (hR:∀ q,Qs q→R q us):StepE P k d xs m R:=by
 unfold StepP at h
 split at h
 ·obtain⟨ys,h1,h2,h3,h4⟩:=h
  simp only[StepE]
  refine⟨ys,[],_,h1.2,CallForm.plain rfl,h2,?_⟩
  rintro r bx' ⟨hq,rfl⟩
  refine⟨CallForm.plain (h3 r hq),?_⟩
  rw[ren_self r (h3 r hq),lentOut_nil]
  show R r (frz m (V.flats xs)++([]++[]))
  rw[List.append_nil,List.append_nil,← h4]
  exact hR r hq
 ·cases h
theorem stepP_call {k:K} {xs:List V} {m:M} {Qs:V→Prop} {us:U} (h:StepP P k xs m Qs us):looks k=true∧k.plain=false∧∃ q,Qs q:=by
 unfold StepP at h
 split at h
 ·exact⟨rfl,rfl,h.choose_spec.1.1⟩
 ·cases h
def eOK (all:List AO) (c:Nat):Bool:=all.zipIdx.all fun p=>decide (p.2≤c)||((ancL all []).getD p.2 []).contains c||(p.1.k.plain&&((ancL all []).getD p.2 []).all fun i=>!((ancL all []).getD i []).contains c)
theorem eOK_get {all:List AO} {c:Nat} (h:eOK all c=true) {j:Nat} {o:AO} (hj:all[j]?=some o) (hlt:c<j) (hn:((ancL all []).getD j []).contains c=false):o.k.plain=true∧∀ i,((ancL all []).getD j []).contains i=true→((ancL all []).getD i []).contains c=false:=by
 have:=List.all_eq_true.1 h (o,j) (List.mk_mem_zipIdx_iff_getElem?.2 (by simpa using hj))
 simp only[hn,Bool.or_false,Bool.or_eq_true,decide_eq_true_eq,Bool.and_eq_true] at this
 rcases this with h|⟨h1,h2⟩
 ·omega
 ·refine⟨h1,fun i hi=>?_⟩
  have:=List.all_eq_true.1 h2 i (by simpa using hi)
  simpa using this
theorem opR_det {s s':St} {e e':Ent} (ho:e'.o=e.o) (hk:e.o.k.plain=true) (h:OpR P s e) (h':OpR P s' e') (hT:∀ t ∈ e.o.uses,s'.T t=s.T t) (hm:e'.xs=e.xs→∀ i ∈ (if looks e.o.k=true then V.idss e.xs else [])++[e.o.dst.getD 0],s'.m i=s.m i):e'=e:=by
 obtain⟨o,v,us,xs⟩:=e
 obtain⟨o',v',us',xs'⟩:=e'
 simp only at ho hk
 subst ho
 have hxs:o'.xs.map (ev s'.T)=o'.xs.map (ev s.T):=uses_congr fun t ht=>hT t (by simp only[AO.uses,List.mem_append];exact .inl ht)
 have hdet:∀ {v v':V} {us us':U} {ys:List V},StepA P o'.k (o'.dst.getD 0) ys s.m v us→StepA P o'.k (o'.dst.getD 0) ys s'.m v' us'→(looks o'.k=true→∀ i ∈ V.idss ys,s'.m i=s.m i)→s'.m (o'.dst.getD 0)=s.m (o'.dst.getD 0)→v'=v∧us'=us:=fun h1 h2 h3 h4=>by
  unfold StepA at h1 h2
  split at h1
  ·rename_i hf;simp [hf,K.plain] at hk
  ·rename_i hf;simp [hf,K.plain] at hk
  ·split at h2
   ·rename_i hf;simp [hf,K.plain] at hk
   ·rename_i hf;simp [hf,K.plain] at hk
   ·have e1:=h1.1
    have e2:=h2.1
    rw[sem_congr' h3 h4,e1] at e2
    cases e2
    exact⟨rfl,rfl⟩
 unfold OpR at h h'
 simp only at h h' hm hT
 split at h
 ·rename_i hg
  rw[hg] at h'
  simp only at h'
  obtain⟨h0,h⟩:=h
  obtain⟨h0',h'⟩:=h'
  rw[hxs,← h0] at h0'
  subst h0'
  have hm':=hm rfl
  obtain⟨rfl,rfl⟩:=hdet h h' (fun hl i hi=>hm' i (by rw[if_pos hl];simp [hi])) (hm' _ (by simp))
  rfl
 ·rename_i j t b hg
  rw[hg] at h'
  simp only at h'
  obtain⟨c,h1,h2⟩:=h
  obtain⟨c',h1',h2'⟩:=h'
  rw[hT t (by simp [AO.uses,hg]),h1] at h1'
  cases h1'
  rcases h2 with ⟨e1,h0,h⟩|⟨e1,rfl,rfl,rfl⟩
  ·rcases h2' with ⟨e1',h0',h'⟩|⟨e1',_,_,_⟩
   ·rw[hxs,← h0] at h0'
    subst h0'
    have hm':=hm rfl
    obtain⟨rfl,rfl⟩:=hdet h h' (fun hl i hi=>hm' i (by rw[if_pos hl];simp [hi])) (hm' _ (by simp))
    rfl
   ·exact absurd e1 e1'
  ·rcases h2' with ⟨e1',_,_⟩|⟨e1',rfl,rfl,rfl⟩
   ·exact absurd e1' e1
   ·rfl
theorem runE_same:∀ {L L':List Ent} {k:Nat} {s:St},L.length=L'.length→(∀ i,p (k+i)=true→L[i]?=L'[i]?)→runE p k L s=runE p k L' s
 |[],[],_,_,_,_=>rfl
 |[],_ :: _,_,_,h,_=>by simp at h
 |_ :: _,[],_,_,h,_=>by simp at h
 |e :: r,e' :: r',k,s,hl,h=>by
  simp only[runE]
  have ih:=fun s=>runE_same (L:=r) (L':=r') (k:=k+1) (s:=s) (by simpa using hl) fun i hp=>by
   have:=h (i+1) (by rwa [show k+(i+1)=k+1+i by omega])
   simpa using this
  split
  ·rename_i hk
   have:=h 0 (by simpa using hk)
   simp only[List.getElem?_cons_zero,Option.some.injEq] at this
   rw[this]
   exact ih _
  ·exact ih _
theorem ents_same {aos:List AO} {L L':List Ent} {s:St} {c:Nat} (hL:L.map (·.o)=aos) (hL':L'.map (·.o)=aos) (hi:indepAll (ancL aos []) L 0 L=true) (hi':indepAll (ancL aos []) L' 0 L'=true) (hOp:∀ i e,i ≠ c→L[i]?=some e→OpR P (runE (fun j=>decide (j<0+i)) 0 L s) e) (hOp':∀ i e,i ≠ c→L'[i]?=some e→OpR P (runE (fun j=>decide (j<0+i)) 0 L' s) e)
  (hlow:∀ j,j<c→L[j]?=L'[j]?) (he:eOK aos c=true):∀ j,j ≠ c→((ancL aos []).getD j []).contains c=false→L[j]?=L'[j]?:=by
 have hll:L.length=L'.length:=by rw[← List.length_map (f:=fun e:Ent=>e.o) (as:=L),hL,← hL',List.length_map]
 intro j
 induction j using Nat.strongRecOn with
 |_ j ih =>
  intro hjc hn
  rcases Nat.lt_or_ge j c with h|h
  ·exact hlow j h
  have hcj:c<j:=by omega
  cases hj:L[j]? with
  |none=>rw[List.getElem?_eq_none];have:=List.getElem?_eq_none_iff.1 hj;omega
  |some e =>
   have hjl:j<L.length:=(List.getElem?_eq_some_iff.1 hj).1
   obtain⟨e',hj'⟩:∃ e',L'[j]?=some e':=⟨L'[j]'(by omega),List.getElem?_eq_getElem _⟩
   rw[hj']
   have hao:aos[j]?=some e.o:=by rw[← hL,List.getElem?_map,hj];rfl
   have hao':aos[j]?=some e'.o:=by rw[← hL',List.getElem?_map,hj'];rfl
   have ho:e'.o=e.o:=by rw[hao] at hao';exact (Option.some.inj hao').symm
   obtain⟨hpl,han⟩:=eOK_get he hao hcj hn
   let dn:Nat→Bool:=fun i=>decide (i=c)||((ancL aos []).getD i []).contains c
   have ind:∀ {M:List Ent} {g:Ent},indepAll (ancL aos []) M 0 M=true→M[j]?=some g→∀ i f,i<j→M[i]?=some f→dn i=true→indep f g=true:=fun {M g} hM hg i f hij hf hd=>by
    rcases indepAll_get hM j g hg i f (by omega) hf with hh|hh
    ·exfalso
     simp only[Nat.zero_add] at hh
     simp only[dn,Bool.or_eq_true,decide_eq_true_eq] at hd
     rcases hd with hd|hd
     ·rw[hd,hn] at hh;cases hh
     ·rw[han i hh] at hd;cases hd
    ·exact hh
   have hst:∀ {M:List Ent} {g:Ent},indepAll (ancL aos []) M 0 M=true→M[j]?=some g→(∀ t ∈ g.o.uses,(runE (fun i=>decide (i<0+j)) 0 M s).T t=(runE (fun i=>decide (i<0+j)&&!dn i) 0 M s).T t)∧∀ id ∈ g.deps,(runE (fun i=>decide (i<0+j)) 0 M s).m id=(runE (fun i=>decide (i<0+j)&&!dn i) 0 M s).m id:=fun {M g} hM hg=>by
    refine⟨fun t ht=>runE_T (fun i f hf hd=>?_) rfl,fun id hid=>runE_m (fun i f hf hd=>?_) rfl⟩
    ·simp only[Nat.zero_add]
     by_cases hij:i<j
     ·cases hdn:dn i with
      |false=>simp
      |true =>
       have:=ind hM hg i f hij hf hdn
       simp only[indep,Bool.and_eq_true] at this
       exact absurd ht (noneIn_ok this.1.1.1.1 hd)
     ·simp [hij]
    ·simp only[Nat.zero_add]
     by_cases hij:i<j
     ·cases hdn:dn i with
      |false=>simp
      |true =>
       have:=ind hM hg i f hij hf hdn
       simp only[indep,Bool.and_eq_true] at this
       exact absurd hid (mem_apart this.1.2 hd)
     ·simp [hij]
   have hmask:runE (fun i=>decide (i<0+j)&&!dn i) 0 L s=runE (fun i=>decide (i<0+j)&&!dn i) 0 L' s:=runE_same hll fun i hp=>by
    simp only[Nat.zero_add,Bool.and_eq_true,decide_eq_true_eq,Bool.not_eq_true',dn,Bool.or_eq_false_iff,decide_eq_false_iff_not] at hp
    exact ih i hp.1 hp.2.1 hp.2.2
   obtain⟨a1,a2⟩:=hst hi hj
   obtain⟨b1,b2⟩:=hst hi' hj'
   rw[opR_det ho hpl (hOp j e hjc hj) (hOp' j e' hjc hj') (fun t ht=>by rw[a1 t ht,b1 t (by rw[ho];exact ht),hmask]) (fun hxs id hid=>by
    rw[a2 id (by
     simp only[Ent.deps,List.mem_append,List.mem_singleton] at hid ⊢
     exact hid.elim (fun h=>.inl (.inl h)) .inr),b2 id (by
     simp only[Ent.deps,List.mem_append,List.mem_singleton,ho,hxs] at hid ⊢
     exact hid.elim (fun h=>.inl (.inl h)) .inr),hmask])]
theorem draw_okE {N:NF} {ops:Array Oper} {aos:List AO} {s:St} {Q:Exit→Act→World→Prop} (hN:cx.N=N) (hops:opAs P N true ops ops.toList=some aos) (hw:wfAfter 0 aos=true) {c:Nat} (he:eOK aos c=true) {oc:AO} (hg:oc.guard=none) {Qs:V→Prop} {us:U} {xs:List V} (L:V→List Ent) (s':V→St)
  (hL:∀ q,Qs q→(L q).map (·.o)=aos) (hi:∀ q,Qs q→indepAll (ancL aos []) (L q) 0 (L q)=true) (hOp:∀ q,Qs q→∀ i e,i ≠ c→(L q)[i]?=some e→OpR P (runE (fun j=>decide (j<0+i)) 0 (L q) s) e) (hend:∀ q,Qs q→runE (fun _=>true) 0 (L q) s=s' q)
  (hce:∀ q,Qs q→(L q)[c]?=some ⟨oc,q,us,xs⟩) (hlow:∀ q q',Qs q→Qs q'→∀ j,j<c→(L q)[j]?=(L q')[j]?) (hxs:∀ q,Qs q→xs=oc.xs.map (ev (runE (fun j=>decide (j<0+c)) 0 (L q) s).T)) (hst:∀ q,Qs q→StepP P oc.k xs (runE (fun j=>decide (j<0+c)) 0 (L q) s).m Qs us)
  (hQ:∀ q,Qs q→∀ a w,Rel cx (s' q) a w→Q .normal a w) (q0:V) (hq0:Qs q0):∀ (fuel:Nat) (listed:Array Bool) (a:Act) (w:World),listed.size=ops.size→(listed.toList.filter (! ·)).length=fuel→ClosedL aos listed→listed.getD c false=false →
   Rel cx (runE (fun j=>listed.getD j false) 0 (L q0) s) a w→wpAny P .any ops Q fuel listed a w:=by
 obtain⟨hlen,hget⟩:=opAs_get hops
 have hcl:c<ops.size:=by
  have h1:=(List.getElem?_eq_some_iff.1 (hce q0 hq0)).1
  rw[← List.length_map (f:=fun e:Ent=>e.o),hL q0 hq0,hlen] at h1
  simpa using h1
 have hLo:∀ {i:Nat} {ao:AO},aos[i]?=some ao→∃ e,(L q0)[i]?=some e∧e.o=ao:=fun {i ao} h=>by
  rw[← hL q0 hq0,List.getElem?_map] at h
  cases he:(L q0)[i]? with
  |none=>rw[he] at h;cases h
  |some e=>rw[he] at h;cases h;exact⟨e,rfl,rfl⟩
 intro fuel
 induction fuel with
 |zero =>
  intro listed a w hsz hc hcl' hlc hR
  exfalso
  have:=dr_all hops hw hsz (dr_none hsz hc) c hcl
  rw[hlc] at this
  cases this
 |succ fuel ih =>
  intro listed a w hsz hc hclo hlc hR
  refine⟨fun hnil=>?_,fun i hi'=>?_⟩
  ·exfalso
   have:=dr_all hops hw hsz hnil c hcl
   rw[hlc] at this
   cases this
  obtain⟨o,ao,ho,hlt,hil,hao,hA,haft⟩:=dr_ready hops hsz hi'
  obtain⟨e,hee,rfl⟩:=hLo hao
  obtain⟨k1,k2,k3⟩:=dr_loc (s:=s) (hL q0 hq0) (hi q0 hq0) hee hlt hil hclo haft
  by_cases hic:i=c
  ·
   subst hic
   rw[hce q0 hq0] at hee
   cases hee
   simp only at hA haft k1 k2 k3 hao
   obtain⟨xs',ts,_,_,g3,g4,g5,g6⟩:=opA_ok hA
   have hgo:o.guard=none:=by
    cases hgo:o.guard with
    |none=>rfl
    |some pr =>
     obtain⟨j,b⟩:=pr
     rw[hgo] at g6
     obtain⟨t,_,h7⟩:=g6
     rw[h7] at hg
     cases hg
   have hx2:oc.xs.map (ev (runE (fun j=>listed.getD j false) 0 (L q0) s).T)=xs:=by
    rw[hxs q0 hq0]
    exact uses_congr fun t ht=>k1 t (by simp only[AO.uses,List.mem_append];exact .inl ht)
   have hs2:=stepP_congr (m':=(runE (fun j=>listed.getD j false) 0 (L q0) s).m) (hst q0 hq0) fun id hid=>k2 id (by
    simp only[Ent.deps,List.mem_append]
    exact .inl (.inl (by rw[if_pos (stepP_call (hst q0 hq0)).1];exact hid)))
   unfold wpOp
   rw[ho]
   simp only
   rw[if_pos (by simp [Region.wanted,hgo])]
   refine .inl (step_okE hN hA hR (R:=fun v us'=>Qs v∧us'=us) (by rw[hx2];exact stepP_E hs2 fun q hq=>⟨hq,rfl⟩) ?_)
   rintro q us' ⟨hq,rfl⟩ a' w' hR'
   have hsame:=ents_same (hL q0 hq0) (hL q hq) (hi q0 hq0) (hi q hq) (hOp q0 hq0) (hOp q hq) (hlow q0 q hq0 hq) he
   have hll:(L q0).length=(L q).length:=by rw[← List.length_map (f:=fun e:Ent=>e.o) (as:=L q0),hL q0 hq0,← hL q hq,List.length_map]
   have hrun:runE (fun j=>listed.getD j false) 0 (L q0) s=runE (fun j=>listed.getD j false) 0 (L q) s:=runE_same hll fun j hj=>by
    rw[Nat.zero_add] at hj
    refine hsame j (fun h=>?_) ?_
    ·subst h;rw[hlc] at hj;cases hj
    ·cases hcc:((ancL aos []).getD j []).contains i with
     |false=>rfl
     |true =>
      have:=dr_anc hclo j i (by simpa using hcc) hj
      rw[hlc] at this
      cases this
   obtain⟨_,_,k4⟩:=dr_loc (s:=s) (hL q hq) (hi q hq) (hce q hq) hlt hil hclo haft
   rw[hrun] at hR'
   refine draw_okc hN hops (hL q hq) i (hOp q hq) (hend q hq) hw (hi q hq) (hQ q hq) fuel _ a' w' (by simpa using hsz) (dr_count hlt hil hc) (dr_closed hlt hao haft hclo) (fun _=>by rw[dr_get hlt,if_pos rfl]) (by rw[k4];exact hR')
  ·refine dr_step hN ho hA (opR_congr (hOp q0 hq0 i e hic hee) k1 k2) hR fun a' w' hR'=>?_
   refine ih _ a' w' (by simpa using hsz) (dr_count hlt hil hc) (dr_closed hlt hao haft hclo) ?_ (by rw[k3];exact hR')
   rw[dr_get hlt,if_neg (fun h=>hic h.symm)]
   exact hlc
end
end
end Go.Proofs.YticdbambknflgaaGreat.Sim
