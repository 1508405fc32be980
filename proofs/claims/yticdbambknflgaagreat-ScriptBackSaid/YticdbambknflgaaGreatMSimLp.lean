/- A loop at whose head what was written is data: of no program. Conditions: none. -/
import Derived.Test.YticdbambknflgaaGreatMSimGo
namespace Go.Proofs.YticdbambknflgaaGreat.Sim
open Go Go.RowKit Go.Deep
set_option linter.unusedVariables false
section
variable {P:Program} {cx:Cx} {Q:Exit→St→Prop} {s:St} {a:Act} {w:World}
theorem Rel.frz (h:Rel cx s a w) (l:List V):Rel cx ⟨s.T,ups s.m (frz s.m l)⟩ a w:=by
 obtain⟨hd,S,hm,hv,hfr,hdef,hsz,hsub,hle⟩:=h
 obtain⟨S',o⟩:=out_frzs hm l
 exact⟨hd,S',o.mem,fun t=>o.vr (hv t),hfr,hdef,hsz,fun b hb=>(o.more b hb).elim (hsub b) .inr,hle.trans o.le⟩
def GeZ (s:St) (fz:List V) (ad:List Nat) (T0:List (Nat × V)) (ml bx:U):Prop:=GeS ⟨s.T,ups s.m (frz s.m fz)⟩ ad T0 ml bx
theorem Awp.loopZ {ι:Type} {x:AC} {bx:U} (hx:cx.m0=ups M0 bx) (T0:ι→List (Nat × V)) (ml:ι→U) (μ:ι→Nat) (fz:List V) (ad:List Nat) (i0:ι) (h0:GeZ s fz ad (T0 i0) (ml i0) bx)
  (hr:∀ i,Awp P cx x (thenE (fun s'=>∃ fz ad i',GeZ s' fz ad (T0 i') (ml i') bx∧μ i'<μ i) Q) ⟨tl (T0 i),ups M0 (ml i)⟩):Awp P cx (.loop x) Q s:=by
 intro code hc a0 w0 hR0
 refine Awp.weaken (s:=⟨s.T,ups s.m (Sim.frz s.m fz)⟩) (bx:=bx) ad (T0 i0) (ml i0) hx ?_ h0.1 h0.2.1 h0.2.2.1 h0.2.2.2 code hc a0 w0 (hR0.frz fz)
 clear hR0 a0 w0 hc code
 intro code hc a w hR
 cases code <;> try (simp [compile] at hc;done)
 case loop c1 =>
  simp only[compile,Option.map_eq_some_iff] at hc
  obtain⟨x',h1,h2⟩:=hc
  cases h2
  intro b k cs
  have key:∀ n i a w,μ i=n→Rel cx ⟨tl (T0 i),ups M0 (ml i)⟩ a w→∃ e a' w',(∃ s',Q e s'∧Rel cx s' a' w')∧Arrives P (lone (b.at a (.code c1 :: .inLoop c1 :: k)) cs w) b k cs e a' w':=by
   intro n
   induction n using Nat.strongRecOn with
   |_ n ih =>
    intro i a w hn hR
    obtain⟨e,a₁,w₁,⟨s₁,hq,hR₁⟩,harr⟩:=hr i c1 h1 a w hR b (.inLoop c1 :: k) cs
    cases e with
    |normal =>
     obtain⟨fz',ad',i',hg,hlt⟩:=hq
     obtain⟨e₂,a₂,w₂,hq₂,harr₂⟩:=ih (μ i') (hn ▸ hlt) i' a₁ w₁ rfl ((hR₁.frz fz').weaken ad' _ _ bx hx hg.1 hg.2.1 hg.2.2.1 hg.2.2.2)
     exact⟨e₂,a₂,w₂,hq₂,.of_steps (Steps.trans harr (.one step_inLoop)) harr₂⟩
    |exit id=>exact⟨_,a₁,w₁,⟨s₁,hq,hR₁⟩,.pass (x:=.inLoop c1) rfl (fun _ _=>.inl (by simp)) harr⟩
    |goto l=>exact⟨_,a₁,w₁,⟨s₁,hq,hR₁⟩,.pass (x:=.inLoop c1) rfl (fun _ _=>.inl (by simp)) harr⟩
    |ret=>exact⟨_,a₁,w₁,⟨s₁,hq,hR₁⟩,.pass (x:=.inLoop c1) rfl (fun _ _=>.inl (by simp)) harr⟩
    |panic ch=>exact⟨_,a₁,w₁,⟨s₁,hq,hR₁⟩,.pass (x:=.inLoop c1) rfl (fun _ _=>.inl (by simp)) harr⟩
    |outgrown=>exact⟨_,a₁,w₁,⟨s₁,hq,hR₁⟩,.pass (x:=.inLoop c1) rfl (fun _ _=>.inl (by simp)) harr⟩
  obtain⟨e,a',w',hq,harr⟩:=key _ i0 a w rfl hR
  exact⟨e,a',w',hq,.of_steps (.one step_loop) harr⟩
 all_goals ((try unfold compile at hc);first|(split at hc <;> (first|(cases hc;done)|(simp at hc;done)))|(simp at hc;done))
theorem go_loopz {ι:Type} {x:AC} {bx:U} {r:List Fm} {T:Nat→V} {m:M} (n:Nat) (hx:cx.m0=ups M0 bx) (T0:ι→List (Nat × V)) (ml:ι→U) (μ:ι→Nat) (fz:List V) (ad:List Nat) (i0:ι) (h0:GeZ ⟨T,m⟩ fz ad (T0 i0) (ml i0) bx)
  (hr:∀ i,Go P cx Q n (.ex .normal) (.run x :: .lp (fun s'=>∃ fz ad i',GeZ s' fz ad (T0 i') (ml i') bx∧μ i'<μ i) :: r) (tl (T0 i)) (ups M0 (ml i))):Awp P cx (.loop x) (stk P cx Q r) ⟨T,m⟩ :=
 Awp.loopZ hx T0 ml μ fz ad i0 h0 fun i=>go_mean n _ _ _ _ (hr i)
end
end Go.Proofs.YticdbambknflgaaGreat.Sim
