/- A list with a single 1. -/
import Derived.Test.YtacfbiegbdlldaaGreatDoorVTpJ
namespace Go.Proofs.YtacfbiegbdlldaaGreatDoor.Sim
open Go Go.RowKit Go.Deep
set_option maxRecDepth 100000
set_option maxHeartbeats 4000000
set_option linter.unusedVariables false
set_option linter.unusedSimpArgs false
attribute [local irreducible] Go Mean
end Go.Proofs.YtacfbiegbdlldaaGreatDoor.Sim
