/- An array of slices of the call's own becomes data at the end: of no program. Conditions: none. -/
import Derived.Test.YticdbambknflgaaGreatMSimZ
namespace Go.Proofs.YticdbambknflgaaGreat.Sim
open Go Go.RowKit Go.Deep
set_option linter.unusedVariables false
section
variable {m:M} {hd:H} {w:World} {S X:Nat→Prop} {B:Nat}
theorem rows1:∀ {ds:List D} {us:List Value},Cells w S ds us→Rows w S 1 (ds.map fun d=>[d]) us
 |[],us,h=>by simp only[Cells] at h;subst h;simp [Rows]
 |d :: ds,us,h=>by
  simp only[Cells] at h
  obtain⟨x,r,rfl,h1,h2⟩:=h
  simp only[List.map_cons,Rows]
  exact⟨[x],r,rfl,rfl,by simp only[Cells];exact⟨x,[],rfl,h1,rfl⟩,rows1 h2⟩
theorem out_seal (h:Mem m hd w S X B) {i v b:Nat} {cs:List V} {ds:List D} {vs:List Value} (hi:m i=some (.box v cs)) (hb:hd i=.pointer (some ⟨b,0,none⟩)) (hc:Cells w S ds vs) (hr:w.rangeAt b 0 vs) (hn:ds.length≤maxLen) :
  ∃ S',Out X B m hd w S (up m i (some (.arr (v+1) 1 false (ds.map fun d=>[d])))) (up hd i (.slice (some ⟨b,0,none⟩) ds.length ds.length)) w S'∧(D.sl 1 (ds.map fun d=>[d])).is w S' (.slice (some ⟨b,0,none⟩) ds.length ds.length):=by
 have hblk:=h.blk hi rfl (b:=b) (by rw[hb];rfl)
 let S':Nat→Prop:=fun x=>S x∨x=b
 have hD:(D.sl 1 (ds.map fun d=>[d])).is w S' (.slice (some ⟨b,0,none⟩) ds.length ds.length):=by
  simp only[D.is]
  exact⟨_,_,vs,by rw[List.length_map],by rw[List.length_map];exact Nat.le_refl _,hn,Rows.keep (fun x hx _=>⟨.inl hx,rfl⟩) _ _ _ (rows1 hc),fun _=>⟨b,0,rfl,⟨.inr rfl,hblk.1⟩,hr⟩⟩
 have hle:Le m hd (up m i (some (.arr (v+1) 1 false (ds.map fun d=>[d])))) (up hd i (.slice (some ⟨b,0,none⟩) ds.length ds.length)):=⟨fun j oj hj=>by
  by_cases e:j=i
  ·subst e
   rw[hi] at hj
   cases hj
   exact⟨_,up_same _ _ _,by simp [O.ver],fun e=>by simp [O.ver] at e⟩
  ·exact⟨oj,by rw[up_ne _ _ e];exact hj,Nat.le_refl _,fun _=>⟨by rw[up_ne _ _ e],rfl⟩⟩⟩
 refine⟨S',⟨?_,hle,fun b hb _=>⟨.inl hb,rfl⟩,Fr.refl _ _,fun x hx=>hx.elim .inl fun e=>by subst e;exact .inr hblk.2.2.symm⟩,hD⟩
 refine Mem.next (Z:=fun _=>False) h (Nat.le_refl _) (fun _ _ _=>rfl) (fun _ _ h=>h) (fun b hb=>.inl hb) (fun x hx=>hx.elim (h.lt x) fun e=>by subst e;exact hblk.1) hle (fun j oj hj=>?_) (fun j k' oj ok x hjk hj hk lj lk bj bk=>?_)
 ·by_cases e:j=i
  ·subst e
   rw[up_same] at hj
   cases hj
   refine .inr ?_
   simp only[O.is,Bool.false_eq_true,if_false,up_same]
   exact hD
  ·rw[up_ne _ _ e] at hj
   refine .inl ⟨hj,up_ne _ _ e,fun x hl hx=>⟨fun h=>h,?_⟩⟩
   rintro (h1|h1)
   ·exact (h.blk hj hl hx).2.1 h1
   ·subst h1
    exact h.sep j i oj _ x e hj hi hl rfl hx (by rw[hb];rfl)
 ·by_cases e:j=i
  ·subst e;rw[up_same] at hj;cases hj;cases lj
  ·by_cases e':k'=i
   ·subst e';rw[up_same] at hk;cases hk;cases lk
   ·rw[up_ne _ _ e] at hj bj
    rw[up_ne _ _ e'] at hk bk
    exact h.sep j k' oj ok x hjk hj hk lj lk bj bk
end
section
variable {P:Program} {cx:Cx} {Q:Exit→St→Prop} {s:St} {a:Act} {w:World}
def SealS (s s2:St):Prop:=∃ t i v n q cs ds,s.T t=.ep i v n q∧s.m i=some (.box v cs)∧n=cs.length∧cs.length≤maxLen∧dcells s.m cs=some ds∧ups s.m (frz s.m cs) i=some (.box v cs)∧s2=⟨up s.T t (.d (.sl 1 (ds.map fun d=>[d]))),up (ups s.m (frz s.m cs)) i (some (.arr (v+1) 1 false (ds.map fun d=>[d])))⟩
theorem Rel.seal {s2:St} (h:Rel cx s a w) (hs:SealS s s2):Rel cx s2 a w:=by
 obtain⟨t,i,v,n,q,cs,ds,hT,hi,hn,hmx,hd,hi2,rfl⟩:=hs
 obtain⟨hd1,S,hm,hv,hfr,hdef,hsz,hsub,hle⟩:=h
 have hob:=hm.obj i _ hi
 simp only[O.is] at hob
 obtain⟨b,vs,e,_,_,_,hvs,_,_,hr⟩:=hob
 obtain⟨S1,o1⟩:=out_frzs hm cs
 have hc:=dcells_ok (fun b hb=>((o1.keep b hb (hm.lt b hb)).1)) o1.mem hvs hd (fun i v k mu l' hmem hi=>ups_frz_get hi _ _ hmem)
 have hcl:ds.length=cs.length:=by rw[← hc.len,hvs.len]
 obtain⟨S2,o2,hD⟩:=out_seal o1.mem hi2 e hc hr (by omega)
 refine⟨_,S2,o2.mem,fun t'=>?_,hfr,hdef,hsz,fun b hb=>?_,hle.trans (o1.le.trans o2.le)⟩
 ·simp only
  by_cases e':t'=t
  ·subst e'
   rw[up_same]
   have:=hv t'
   rw[hT] at this
   simp only[VR] at this ⊢
   obtain⟨_,y,hy,_,_,h3⟩:=this
   rw[hi] at hy
   cases hy
   obtain⟨b',g1,g2⟩:=h3 cs rfl
   rw[e] at g1
   cases g1
   rw[g2,hn,← hcl]
   exact hD
  ·rw[up_ne _ _ e']
   exact o2.vr (o1.vr (hv t'))
 ·rcases o2.more b hb with h1|h1
  ·exact (o1.more b h1).elim (hsub b) .inr
  ·exact .inr h1
theorem Awp.seal {c:AC} (h:Awp P cx c (fun e s=>∃ s2,SealS s s2∧Q e s2) s):Awp P cx c Q s:=by
 intro code hc a w hR b k cs
 obtain⟨e,a',w',⟨s',⟨s2,h1,h2⟩,hR'⟩,harr⟩:=h code hc a w hR b k cs
 exact⟨e,a',w',⟨s2,h2,hR'.seal h1⟩,harr⟩
theorem seal_mk (t i:Nat) {v n q:Nat} {cs:List V} {ds:List D} {e:Exit} (h1:s.T t=.ep i v n q) (h2:s.m i=some (.box v cs)) (h3:n=cs.length) (h4:cs.length≤maxLen) (h5:dcells s.m cs=some ds) (h6:ups s.m (frz s.m cs) i=some (.box v cs))
  (h:Q e ⟨up s.T t (.d (.sl 1 (ds.map fun d=>[d]))),up (ups s.m (frz s.m cs)) i (some (.arr (v+1) 1 false (ds.map fun d=>[d])))⟩):∃ s2,SealS s s2∧Q e s2 :=
 ⟨_,⟨t,i,v,n,q,cs,ds,h1,h2,h3,h4,h5,h6,rfl⟩,h⟩
theorem Awp.mayseal {c:AC} (h:Awp P cx c (fun e s=>Q e s∨∃ s2,SealS s s2∧Q e s2) s):Awp P cx c Q s:=by
 intro code hc a w hR b k cs
 obtain⟨e,a',w',⟨s',h1|⟨s2,h1,h2⟩,hR'⟩,harr⟩:=h code hc a w hR b k cs
 ·exact⟨e,a',w',⟨s',h1,hR'⟩,harr⟩
 ·exact⟨e,a',w',⟨s2,h2,hR'.seal h1⟩,harr⟩
end
end Go.Proofs.YticdbambknflgaaGreat.Sim
