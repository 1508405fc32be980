/- Loops whose way out is walked apart; a state that says less, in the middle of a walk: of no program. Conditions: none. -/
import Derived.Test.YtacfbiegbdlldaaGreatDoorVSimRn
import Derived.Test.YtacfbiegbdlldaaGreatDoorVSimJn
namespace Go.Proofs.YtacfbiegbdlldaaGreatDoor.Sim
open Go Go.RowKit Go.Deep
set_option linter.unusedVariables false
section
variable {P:Program} {cx:Cx} {Q:Exit→St→Prop}
theorem go_loopq {ι:Type} {x:AC} {bx:U} {K:Exit→St→Prop} {T:Nat→V} {m:M} (n:Nat) (hx:cx.m0=ups M0 bx) (T0:ι→List (Nat × V)) (ml:ι→U) (μ:ι→Nat) (fz:List V) (ad:List Nat) (i0:ι) (h0:GeZ ⟨T,m⟩ fz ad (T0 i0) (ml i0) bx)
  (hr:∀ i,Go P cx K n (.ex .normal) [.run x,.lp (fun s'=>∃ fz ad i',GeZ s' fz ad (T0 i') (ml i') bx∧μ i'<μ i)] (tl (T0 i)) (ups M0 (ml i))):Awp P cx (.loop x) K ⟨T,m⟩ :=
 go_loopz (Q:=K) (r:=[]) n hx T0 ml μ fz ad i0 h0 hr
theorem go_blkMeet {c:AC} {r:List Fm} {id:Nat} {bx:U} {T:Nat→V} {m:M} (n:Nat) (hx:cx.m0=ups M0 bx) (fz:List V) (ad:List Nat) (T0:List (Nat × V)) (ml:U) (hg:GeZ ⟨T,m⟩ fz ad T0 ml bx) (h:Go P cx Q n (.ex .normal) (.run c :: r) (tl T0) (ups M0 ml)):stk P cx Q (.blk id :: .run c :: r) (.exit id) ⟨T,m⟩:=by
 have h1:Awp P cx c (stk P cx Q r) ⟨tl T0,ups M0 ml⟩:=go_mean n _ _ _ _ h
 have h2:=awp_meet hx fz ad T0 ml hg h1
 simpa only[stk,blockE,thenE,if_true] using h2
theorem go_runWk {c:AC} {r:List Fm} {T T0:Nat→V} {m m0:M} (n:Nat) (hw:Wk cx ⟨T,m⟩ ⟨T0,m0⟩) (h:Go P cx Q n (.ex .normal) (.run c :: r) T0 m0):Awp P cx c (stk P cx Q r) ⟨T,m⟩ :=
 Awp.wk hw (go_mean n _ _ _ _ h:Awp P cx c (stk P cx Q r) ⟨T0,m0⟩)
end
end Go.Proofs.YtacfbiegbdlldaaGreatDoor.Sim
