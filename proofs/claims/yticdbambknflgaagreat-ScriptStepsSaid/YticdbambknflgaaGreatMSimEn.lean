/- A call that may come to several results, under the caller's names: of no program. Conditions: none. -/
import Derived.Test.YticdbambknflgaaGreatMSimY
namespace Go.Proofs.YticdbambknflgaaGreat.Sim
open Go Go.RowKit Go.Deep
set_option linter.unusedVariables false
theorem DoesE.nm {P:Program} {f:FuncId} {xs:List V} {bx:U} {Qs:V→U→Prop} (h:DoesE P f xs bx Qs) (ρ:List (Nat × Nat × Nat)) (hρ:rhoOK ρ=true) (hlow:lowU bx=true) (hap:apartU ρ bx=true) (hwf:bx.all (fun x=>x.2.wfB)=true) (hx:V.okPs bx 0 xs=true) (hQ:∀ r bx',Qs r bx'→bx'.map (·.1)=bx.map (·.1)∧bx'.all (fun x=>x.2.wfB)=true∧r.okP bx' 0=true) :
  DoesE P f (V.nms ρ xs) (nmU ρ bx) (fun r bx'=>∃ r0 b0,Qs r0 b0∧r=r0.nm ρ∧bx'=nmU ρ b0):=by
 intro w hd S X us hgk hm hv
 have hndR:((nmU ρ bx).map (·.1)).Nodup:=by rw[nmU_names];exact apartU_ok hap
 have hnd:(bx.map (·.1)).Nodup:=List.pairwise_map.2 ((List.pairwise_map.1 (apartU_ok hap)).imp fun h e=>h (by rw[e]))
 have hinj:∀ {x y:Nat × O},x ∈ bx→y ∈ bx→(rl ρ x.1).1=(rl ρ y.1).1→x.1=y.1:=by
  intro x y hx hy e
  have h1:=apartU_ok hap
  have:∀ {l:U},(l.map fun x=>(rl ρ x.1).1).Nodup→x ∈ l→y ∈ l→x.1=y.1:=by
   intro l
   induction l with
   |nil=>intro _ h;cases h
   |cons z l ih =>
    intro hn hx hy
    simp only[List.map_cons,List.nodup_cons] at hn
    rcases List.mem_cons.1 hx with rfl|hx2
    ·rcases List.mem_cons.1 hy with rfl|hy2
     ·rfl
     ·exact absurd (List.mem_map.2 ⟨y,hy2,e.symm⟩) hn.1
    ·rcases List.mem_cons.1 hy with rfl|hy2
     ·exact absurd (List.mem_map.2 ⟨x,hx2,e⟩) hn.1
     ·exact ih hn.2 hx2 hy2
  exact this h1 hx hy
 let hdc:H:=fun j=>hd (rl ρ j).1
 have hget:∀ {i o},ups M0 bx i=some o→(i,o) ∈ bx:=fun {i o} h=>by
  rcases ups_or i bx M0 with ⟨h1,_⟩|⟨o',h1,h2⟩
  ·rw[h1] at h;cases h
  ·rw[h2] at h;cases h;exact h1
 have hreal:∀ {j o},(j,o) ∈ bx→ups M0 (nmU ρ bx) (rl ρ j).1=some (o.addv (rl ρ j).2):=fun h=>ups_mem hndR (nmU_mem.2 ⟨_,_,h,rfl,rfl⟩)
 have hwfm:∀ {x},x ∈ bx→x.2.wfB=true:=fun hx=>by simpa using List.all_eq_true.1 hwf _ hx
 have setadd:∀ (o:O) (v:Nat),o=(o.addv v).setv o.ver:=fun o v=>by cases o <;> rfl
 have addset:∀ (o:O) (v:Nat),o.addv v=o.setv (o.ver+v):=fun o v=>by cases o <;> rfl
 have hm1:Mem (ups M0 bx) hdc w S X w.heap.size:=mem_ren (g:=fun j=>(rl ρ j).1) hm (fun j o hj=>⟨_,hreal (hget hj),rfl,by rw[addv_wfB];exact hwfm (hget hj),_,setadd o _⟩) (fun i i' o o' hi hi' e=>hinj (hget hi) (hget hi') e)
 have hv1:VRs (ups M0 bx) hdc w S xs us:=(nms_in (fun j hj=>by
  simp only[Nat.add_zero,Bool.or_eq_true,Bool.and_eq_true,decide_eq_true_eq] at hj
  rcases hj with hj|hj
  ·obtain⟨o,ho⟩:=inU_mem hj
   exact⟨o,ups_mem hnd ho,hreal ho,rfl⟩
  ·omega) xs us hx).1 hv
 refine (h w hdc S X us hgk hm1 hv1).mono ?_
 rintro e w' ⟨r,bx',hq,u,hd',S',rfl,hfr,hmem,hvr,hsub,hle⟩
 obtain⟨hnames,hwf',hr⟩:=hQ r bx' hq
 obtain⟨as,has0⟩:∃ as:List O,as=[]:=⟨[],rfl⟩
 have has:as.all O.wf=true:=by rw[has0];rfl
 have hr:r.okP bx' as.length=true:=by rw[has0];exact hr
 rw[← has0] at hmem hvr hle
 have hlow':∀ x ∈ bx',x.1<1000000:=fun x hx=>by
  have:x.1 ∈ bx.map (·.1):=by rw[← hnames];exact List.mem_map.2 ⟨x,hx,rfl⟩
  obtain⟨y,hy,e⟩:=List.mem_map.1 this
  rw[← e]
  exact lowU_ok hlow y hy
 have hmapR:bx'.map (fun x=>(rl ρ x.1).1)=bx.map (fun x=>(rl ρ x.1).1):=by
  have:=congrArg (List.map fun j=>(rl ρ j).1) hnames
  simpa [List.map_map,Function.comp_def] using this
 have hndR':((nmU ρ bx').map (·.1)).Nodup:=by rw[nmU_names,hmapR];exact apartU_ok hap
 have hnd':(bx'.map (·.1)).Nodup:=by rw[hnames];exact hnd
 have hname:∀ {x:Nat × O},x ∈ bx'→∃ o,(x.1,o) ∈ bx:=fun {x} hx=>by
  have:x.1 ∈ bx.map (·.1):=by rw[← hnames];exact List.mem_map.2 ⟨x,hx,rfl⟩
  obtain⟨y,hy,e⟩:=List.mem_map.1 this
  exact⟨y.2,by rw[← e];exact hy⟩
 have hwfm':∀ {x},x ∈ bx'→x.2.wfB=true:=fun hx=>by simpa using List.all_eq_true.1 hwf' _ hx
 have hos:∀ {j:Nat} {o:O},as[j]?=some o→ups M0 (bx'++fresh as) (1000000+j)=some o:=fun h=>by rw[ups_append];exact ups_mem nodup_fresh (fresh_mem h)
 have hob:∀ {x},x ∈ bx'→ups M0 (bx'++fresh as) x.1=some x.2:=fun {x} hx=>by
  rw[ups_append,ups_not]
  ·exact ups_mem hnd' hx
  ·rintro⟨i',o2⟩ hx2 e2
   obtain⟨j',e',_⟩:=mem_fresh hx2
   have:=hlow' x hx
   simp only at e2
   omega
 have hos2:∀ {j:Nat} {o:O},as[j]?=some o→ups M0 (nmU ρ bx'++fresh as) (1000000+j)=some o:=fun h=>by rw[ups_append];exact ups_mem nodup_fresh (fresh_mem h)
 have hob2:∀ {x},x ∈ bx'→ups M0 (nmU ρ bx'++fresh as) (rl ρ x.1).1=some (x.2.addv (rl ρ x.1).2):=fun {x} hx=>by
  rw[ups_append,ups_not]
  ·exact ups_mem hndR' (nmU_mem.2 ⟨_,_,hx,rfl,rfl⟩)
  ·rintro⟨i',o2⟩ hx2 e2
   obtain⟨j',e',_⟩:=mem_fresh hx2
   have:=rl_low (hlow' x hx) hρ
   simp only at e2
   omega
 have hcs:∀ i o,ups M0 (nmU ρ bx'++fresh as) i=some o→(∃ x ∈ bx',i=(rl ρ x.1).1∧o=x.2.addv (rl ρ x.1).2)∨∃ q,i=1000000+q∧as[q]?=some o:=by
  intro i o hi
  rcases ups_or i (nmU ρ bx'++fresh as) M0 with ⟨h1,_⟩|⟨o',h1,h2⟩
  ·rw[h1] at hi;cases hi
  ·rw[h2] at hi
   cases hi
   rcases List.mem_append.1 h1 with h1|h1
   ·obtain⟨j,o0,q1,q2,q3⟩:=nmU_mem.1 h1
    exact .inl ⟨_,q1,q2,q3⟩
   ·exact .inr (mem_fresh h1)
 let gb:Nat→Nat:=fun i=>match bx'.find? fun x=>(rl ρ x.1).1 == i with
  |some x=>x.1
  |none=>i
 have hgb:∀ {x},x ∈ bx'→gb (rl ρ x.1).1=x.1:=fun {x} hx=>by
  simp only[gb]
  cases hf:bx'.find? (fun y=>(rl ρ y.1).1 == (rl ρ x.1).1) with
  |none =>
   have:=List.find?_eq_none.1 hf x hx
   simp at this
  |some y =>
   have h1:=List.mem_of_find?_eq_some hf
   have h2:=List.find?_some hf
   simp only[beq_iff_eq] at h2
   obtain⟨o1,k1⟩:=hname h1
   obtain⟨o2,k2⟩:=hname hx
   have:=hinj k1 k2 h2
   exact this
 have hgn:∀ q,gb (1000000+q)=1000000+q:=fun q=>by
  simp only[gb]
  rw[List.find?_eq_none.2]
  intro x hx
  have:=rl_low (hlow' x hx) hρ
  simp only[beq_iff_eq]
  omega
 have hwfa:∀ {j:Nat} {o:O},as[j]?=some o→o.wf=true:=fun h=>List.all_eq_true.1 has _ (List.mem_of_getElem? h)
 refine⟨_,_,⟨r,bx',hq,rfl,rfl⟩,?_⟩
 rw[← has0]
 refine⟨u,fun i=>hd' (gb i),S',rfl,hfr,mem_ren (g:=gb) hmem (fun i o hi=>?_) (fun i i' o o' hi hi' e=>?_),(nm_in (fun j hj=>?_) r u hr).2 hvr,hsub,⟨fun i o hi=>?_⟩⟩
 ·rcases hcs i o hi with ⟨x,hx,rfl,rfl⟩|⟨q,rfl,hq⟩
  ·exact⟨x.2,by rw[hgb hx];exact hob hx,rfl,hwfm' hx,_,addset _ _⟩
  ·exact⟨o,by rw[hgn];exact hos hq,rfl,(wf_wfB (hwfa hq)).1,o.ver,(setv_self o).symm⟩
 ·rcases hcs i o hi with ⟨x,hx,rfl,rfl⟩|⟨q,rfl,hq⟩
  ·rw[hgb hx] at e
   rcases hcs i' o' hi' with ⟨y,hy,rfl,rfl⟩|⟨q',rfl,hq'⟩
   ·rw[hgb hy] at e;rw[e]
   ·rw[hgn] at e;have:=hlow' x hx;omega
  ·rw[hgn] at e
   rcases hcs i' o' hi' with ⟨y,hy,rfl,rfl⟩|⟨q',rfl,hq'⟩
   ·rw[hgb hy] at e;have:=hlow' y hy;omega
   ·rw[hgn] at e;exact e
 ·simp only[Bool.or_eq_true,Bool.and_eq_true,decide_eq_true_eq] at hj
  rcases hj with hj|hj
  ·obtain⟨o,ho⟩:=inU_mem hj
   exact⟨o,hob ho,hob2 ho,by rw[hgb ho]⟩
  ·have hq:j-1000000<as.length:=by omega
   have e1:=hos (List.getElem?_eq_getElem hq)
   have e2:=hos2 (List.getElem?_eq_getElem hq)
   rw[show 1000000+(j-1000000)=j by omega] at e1 e2
   rw[rl_new hj.1 hρ]
   refine⟨_,e1,?_,by have:=hgn (j-1000000);rw[show 1000000+(j-1000000)=j by omega] at this;rw[this]⟩
   simp only
   rw[e2]
   cases as[j-1000000] <;> rfl
 ·have hmi:(i,o) ∈ nmU ρ bx:=by
   rcases ups_or i (nmU ρ bx) M0 with ⟨h1,_⟩|⟨o',h1,h2⟩
   ·rw[h1] at hi;cases hi
   ·rw[h2] at hi;cases hi;exact h1
  obtain⟨j,o0,q1,rfl,rfl⟩:=nmU_mem.1 hmi
  obtain⟨o1,k1,k2,k3⟩:=hle.le j o0 (ups_mem hnd q1)
  have hjx:∃ o,(j,o) ∈ bx':=by
   have:j ∈ bx'.map (·.1):=by rw[hnames];exact List.mem_map.2 ⟨_,q1,rfl⟩
   obtain⟨y,hy,e⟩:=List.mem_map.1 this
   exact⟨y.2,by rw[← e];exact hy⟩
  obtain⟨o2,hx2⟩:=hjx
  have:=hob hx2
  simp only at this
  rw[this] at k1
  cases k1
  refine⟨_,hob2 hx2,by simp only[addv_ver];omega,fun e=>?_⟩
  simp only[addv_ver] at e
  obtain⟨g1,g2⟩:=k3 (by omega)
  exact⟨by rw[hgb hx2];exact g1,by rw[addv_kind,addv_kind];exact g2⟩
end Go.Proofs.YticdbambknflgaaGreat.Sim
