/- Ways that meet: of no program. Conditions: none. -/
import Derived.Test.YtacfbiegbdlldaaGreatDoorVSimZ
namespace Go.Proofs.YtacfbiegbdlldaaGreatDoor.Sim
open Go Go.RowKit Go.Deep
set_option linter.unusedVariables false
theorem join_on {α:Type} {C F:α→Prop} {G:Prop} (h:(∀ a,C a→F a)→G) (k:∀ a,C a→F a):G:=h k
theorem awp_meet {P:Program} {cx:Cx} {c:AC} {Q:Exit→St→Prop} {bx:U} {T:Nat→V} {m:M} (hx:cx.m0=ups M0 bx) (fz:List V) (ad:List Nat) (T0:List (Nat × V)) (ml:U) (hg:GeZ ⟨T,m⟩ fz ad T0 ml bx) (h:Awp P cx c Q ⟨tl T0,ups M0 ml⟩):Awp P cx c Q ⟨T,m⟩:=by
 intro code hc a w hR
 exact Awp.weaken (s:=⟨T,ups m (frz m fz)⟩) (bx:=bx) ad T0 ml hx h hg.1 hg.2.1 hg.2.2.1 hg.2.2.2 code hc a w (hR.frz fz)
end Go.Proofs.YtacfbiegbdlldaaGreatDoor.Sim
