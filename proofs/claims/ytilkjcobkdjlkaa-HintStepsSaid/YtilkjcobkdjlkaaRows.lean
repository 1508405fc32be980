/-
  No cell of these rows narrows 'for every input' (looked for: loops, veiled, ifaces, maps, wideKeys, modest, calm, conditions, laid).
  DERIVED. THE GIVEN ROWS OF THIS SEAT. 9 by the template 'for every input the law returns true; each argument reads behind the call as it read before'; 0 by the template 'total and deterministic' (their statements: YtilkjcobkdjlkaaTotals.lean).
  GIVEN WITH THE SEED: the statements are not yours to turn. If you find one false, say at which input.
  Laid BY PROGRAM, IN A SANDBOX (cutbox-rows.mjs): the forced cells as the released guide's own fill.sh prints them over the translation f722e7938878f328… (all of the seat's roots in one cut). By AI agents, Wed Nov 11 2026. No macro, syntax, notation, axiom, sorry.
-/
import Derived.Test.YtilkjcobkdjlkaaChecked
import GoSem.Claim
import GoSem.ClaimJoined
import GoSem.ClaimMapViews
import Derived.JoinedTies
import Derived.KernelRfl
namespace Go.Proofs.Ytilkjcobkdjlkaa
/- THE CELL 'sum', in the pinned program and in every row, IS THE sha256 OF THE DUMP (.gsa) THAT YtilkjcobkdjlkaaProg.lean LOADS. Nothing in Lean hashes anything: it is a label: what it is worth is what the hold of that sum in a sandbox is worth. -/
noncomputable def Try.pinned : Pinned := { name := "ytilkjcobkdjlkaa", sum := "f722e7938878f3285b801c4c720b8e581a8c092b882f181760aec1618c302e66", checked := Try.checked }
namespace Rows
def none {H : Type} : Left H := { results := [], args := [] }

/-- 'privatefetchlaw38.HintRecovers': WHATEVER THE INPUT: true; the input reads as it did. -/
def hintRecoversSpec : ChangeSpec := { name := "hintRecovers", fn := fun _ => fun
  | [d] => { results := [.lit (.bool true)], args := [d] }
  | _ => none }
def hintRecoversRow : OpenClaim := { program := "ytilkjcobkdjlkaa", sum := "f722e7938878f3285b801c4c720b8e581a8c092b882f181760aec1618c302e66", func := "privatefetch/privatefetchlaw38.HintRecovers", spec := "hintRecovers", unfollowed := true, recurses := true, apart := false }
def HintRecoversSaid : Prop := hintRecoversRow.holds Try.pinned (OpenSpec.ofChange hintRecoversSpec)

/-- ITS FALSE NEIGHBOUR: 'it returns false'. Refute it at one input. -/
def hintRecoversWrong : ChangeSpec := { name := "hintRecovers", fn := fun _ => fun
  | [d] => { results := [.lit (.bool false)], args := [d] }
  | _ => none }
def HintRecoversWrongFalsely : Prop := hintRecoversRow.holds Try.pinned (OpenSpec.ofChange hintRecoversWrong)

/-- 'privatefetchlaw38.HintAdds': WHATEVER THE INPUT: true; the input reads as it did. -/
def hintAddsSpec : ChangeSpec := { name := "hintAdds", fn := fun _ => fun
  | [d] => { results := [.lit (.bool true)], args := [d] }
  | _ => none }
def hintAddsRow : OpenClaim := { program := "ytilkjcobkdjlkaa", sum := "f722e7938878f3285b801c4c720b8e581a8c092b882f181760aec1618c302e66", func := "privatefetch/privatefetchlaw38.HintAdds", spec := "hintAdds", unfollowed := true, recurses := true, apart := false }
def HintAddsSaid : Prop := hintAddsRow.holds Try.pinned (OpenSpec.ofChange hintAddsSpec)

/-- ITS FALSE NEIGHBOUR: 'it returns false'. Refute it at one input. -/
def hintAddsWrong : ChangeSpec := { name := "hintAdds", fn := fun _ => fun
  | [d] => { results := [.lit (.bool false)], args := [d] }
  | _ => none }
def HintAddsWrongFalsely : Prop := hintAddsRow.holds Try.pinned (OpenSpec.ofChange hintAddsWrong)

/-- 'privatefetchlaw37.UpdateFull': WHATEVER THE INPUT: true; the input reads as it did. -/
def updateFullSpec : ChangeSpec := { name := "updateFull", fn := fun _ => fun
  | [d] => { results := [.lit (.bool true)], args := [d] }
  | _ => none }
def updateFullRow : OpenClaim := { program := "ytilkjcobkdjlkaa", sum := "f722e7938878f3285b801c4c720b8e581a8c092b882f181760aec1618c302e66", func := "privatefetch/privatefetchlaw37.UpdateFull", spec := "updateFull", unfollowed := true, recurses := true, apart := false }
def UpdateFullSaid : Prop := updateFullRow.holds Try.pinned (OpenSpec.ofChange updateFullSpec)

/-- ITS FALSE NEIGHBOUR: 'it returns false'. Refute it at one input. -/
def updateFullWrong : ChangeSpec := { name := "updateFull", fn := fun _ => fun
  | [d] => { results := [.lit (.bool false)], args := [d] }
  | _ => none }
def UpdateFullWrongFalsely : Prop := updateFullRow.holds Try.pinned (OpenSpec.ofChange updateFullWrong)

/-- 'privatefetchlaw37.UpdateKeeps': WHATEVER THE INPUT: true; the input reads as it did. -/
def updateKeepsSpec : ChangeSpec := { name := "updateKeeps", fn := fun _ => fun
  | [d] => { results := [.lit (.bool true)], args := [d] }
  | _ => none }
def updateKeepsRow : OpenClaim := { program := "ytilkjcobkdjlkaa", sum := "f722e7938878f3285b801c4c720b8e581a8c092b882f181760aec1618c302e66", func := "privatefetch/privatefetchlaw37.UpdateKeeps", spec := "updateKeeps", unfollowed := true, recurses := true, apart := false }
def UpdateKeepsSaid : Prop := updateKeepsRow.holds Try.pinned (OpenSpec.ofChange updateKeepsSpec)

/-- ITS FALSE NEIGHBOUR: 'it returns false'. Refute it at one input. -/
def updateKeepsWrong : ChangeSpec := { name := "updateKeeps", fn := fun _ => fun
  | [d] => { results := [.lit (.bool false)], args := [d] }
  | _ => none }
def UpdateKeepsWrongFalsely : Prop := updateKeepsRow.holds Try.pinned (OpenSpec.ofChange updateKeepsWrong)

/-- 'privatefetchlaw37.UpdateJoins': WHATEVER THE INPUT: true; the input reads as it did. -/
def updateJoinsSpec : ChangeSpec := { name := "updateJoins", fn := fun _ => fun
  | [d] => { results := [.lit (.bool true)], args := [d] }
  | _ => none }
def updateJoinsRow : OpenClaim := { program := "ytilkjcobkdjlkaa", sum := "f722e7938878f3285b801c4c720b8e581a8c092b882f181760aec1618c302e66", func := "privatefetch/privatefetchlaw37.UpdateJoins", spec := "updateJoins", unfollowed := true, recurses := true, apart := false }
def UpdateJoinsSaid : Prop := updateJoinsRow.holds Try.pinned (OpenSpec.ofChange updateJoinsSpec)

/-- ITS FALSE NEIGHBOUR: 'it returns false'. Refute it at one input. -/
def updateJoinsWrong : ChangeSpec := { name := "updateJoins", fn := fun _ => fun
  | [d] => { results := [.lit (.bool false)], args := [d] }
  | _ => none }
def UpdateJoinsWrongFalsely : Prop := updateJoinsRow.holds Try.pinned (OpenSpec.ofChange updateJoinsWrong)

/-- 'privatefetchlaw37.UpdateDigests': WHATEVER THE INPUT: true; the input reads as it did. -/
def updateDigestsSpec : ChangeSpec := { name := "updateDigests", fn := fun _ => fun
  | [d] => { results := [.lit (.bool true)], args := [d] }
  | _ => none }
def updateDigestsRow : OpenClaim := { program := "ytilkjcobkdjlkaa", sum := "f722e7938878f3285b801c4c720b8e581a8c092b882f181760aec1618c302e66", func := "privatefetch/privatefetchlaw37.UpdateDigests", spec := "updateDigests", unfollowed := true, recurses := true, apart := false }
def UpdateDigestsSaid : Prop := updateDigestsRow.holds Try.pinned (OpenSpec.ofChange updateDigestsSpec)

/-- ITS FALSE NEIGHBOUR: 'it returns false'. Refute it at one input. -/
def updateDigestsWrong : ChangeSpec := { name := "updateDigests", fn := fun _ => fun
  | [d] => { results := [.lit (.bool false)], args := [d] }
  | _ => none }
def UpdateDigestsWrongFalsely : Prop := updateDigestsRow.holds Try.pinned (OpenSpec.ofChange updateDigestsWrong)

/-- 'privatefetchlaw37.UpdateSteps': WHATEVER THE INPUT: true; the input reads as it did. -/
def updateStepsSpec : ChangeSpec := { name := "updateSteps", fn := fun _ => fun
  | [d1, d2, d3, d4, d5, d6] => { results := [.lit (.bool true)], args := [d1, d2, d3, d4, d5, d6] }
  | _ => none }
def updateStepsRow : OpenClaim := { program := "ytilkjcobkdjlkaa", sum := "f722e7938878f3285b801c4c720b8e581a8c092b882f181760aec1618c302e66", func := "privatefetch/privatefetchlaw37.UpdateSteps", spec := "updateSteps", unfollowed := true, recurses := true, apart := false }
def UpdateStepsSaid : Prop := updateStepsRow.holds Try.pinned (OpenSpec.ofChange updateStepsSpec)

/-- ITS FALSE NEIGHBOUR: 'it returns false'. Refute it at one input. -/
def updateStepsWrong : ChangeSpec := { name := "updateSteps", fn := fun _ => fun
  | [d1, d2, d3, d4, d5, d6] => { results := [.lit (.bool false)], args := [d1, d2, d3, d4, d5, d6] }
  | _ => none }
def UpdateStepsWrongFalsely : Prop := updateStepsRow.holds Try.pinned (OpenSpec.ofChange updateStepsWrong)

/-- 'privatefetchlaw38.HintFollows': WHATEVER THE INPUT: true; the input reads as it did. -/
def hintFollowsSpec : ChangeSpec := { name := "hintFollows", fn := fun _ => fun
  | [d] => { results := [.lit (.bool true)], args := [d] }
  | _ => none }
def hintFollowsRow : OpenClaim := { program := "ytilkjcobkdjlkaa", sum := "f722e7938878f3285b801c4c720b8e581a8c092b882f181760aec1618c302e66", func := "privatefetch/privatefetchlaw38.HintFollows", spec := "hintFollows", unfollowed := true, recurses := true, apart := false }
def HintFollowsSaid : Prop := hintFollowsRow.holds Try.pinned (OpenSpec.ofChange hintFollowsSpec)

/-- ITS FALSE NEIGHBOUR: 'it returns false'. Refute it at one input. -/
def hintFollowsWrong : ChangeSpec := { name := "hintFollows", fn := fun _ => fun
  | [d] => { results := [.lit (.bool false)], args := [d] }
  | _ => none }
def HintFollowsWrongFalsely : Prop := hintFollowsRow.holds Try.pinned (OpenSpec.ofChange hintFollowsWrong)

/-- 'privatefetchlaw38.HintSteps': WHATEVER THE INPUT: true; the input reads as it did. -/
def hintStepsSpec : ChangeSpec := { name := "hintSteps", fn := fun _ => fun
  | [d1, d2, d3, d4, d5, d6, d7] => { results := [.lit (.bool true)], args := [d1, d2, d3, d4, d5, d6, d7] }
  | _ => none }
def hintStepsRow : OpenClaim := { program := "ytilkjcobkdjlkaa", sum := "f722e7938878f3285b801c4c720b8e581a8c092b882f181760aec1618c302e66", func := "privatefetch/privatefetchlaw38.HintSteps", spec := "hintSteps", unfollowed := true, recurses := true, apart := false }
def HintStepsSaid : Prop := hintStepsRow.holds Try.pinned (OpenSpec.ofChange hintStepsSpec)

/-- ITS FALSE NEIGHBOUR: 'it returns false'. Refute it at one input. -/
def hintStepsWrong : ChangeSpec := { name := "hintSteps", fn := fun _ => fun
  | [d1, d2, d3, d4, d5, d6, d7] => { results := [.lit (.bool false)], args := [d1, d2, d3, d4, d5, d6, d7] }
  | _ => none }
def HintStepsWrongFalsely : Prop := hintStepsRow.holds Try.pinned (OpenSpec.ofChange hintStepsWrong)

/- THE SECOND FORM. 'bulk': how many values and letters a reading holds, each counted each time it is reached (what is shared counts as often as it is met; a slice's spare places count too). A statement '..UptoSaid' is the law's where the arguments, and the package variables that the reading takes, are together of bulk at most 1048576: NARROWER than '..Said'. Prove '..Said' where nothing that the law and all that it calls make is longer than what came in: it says more and counts as full. Else prove '..UptoSaid'. A law counts once. -/
mutual
def uptoBulk {H : Type} : DataW H → Nat
  | .lit (.string bytes) => bytes.length + 1
  | .lit _ => 1
  | .nil => 1
  | .ptr d => uptoBulk d + 1
  | .slice elems spare => uptoBulkAll elems + uptoBulkAll spare + 1
  | .agg parts => uptoBulkAll parts + 1
  | .iface _ d => uptoBulk d + 1
  | .map entries => uptoBulkEntries entries + 1
  | .held _ => 1
def uptoBulkAll {H : Type} : List (DataW H) → Nat
  | [] => 0
  | d :: r => uptoBulk d + uptoBulkAll r
def uptoBulkEntries {H : Type} : List (Lit × DataW H) → Nat
  | [] => 0
  | x :: r => uptoBulkEntry x + uptoBulkEntries r
def uptoBulkEntry {H : Type} : Lit × DataW H → Nat
  | (.string bytes, d) => bytes.length + uptoBulk d + 1
  | (_, d) => uptoBulk d + 1
 end
def uptoSmall : (H : Type) → List (DataW H) → Bool := fun _ ds => decide (uptoBulkAll ds ≤ 1048576)
def OpenSpec.upto (s : _root_.Go.ChangeSpec) : _root_.Go.OpenSpec := { _root_.Go.OpenSpec.ofChange s with cond := some uptoSmall }

/-- 'privatefetchlaw38.HintRecovers', WHERE WHAT IT READS IS OF BULK AT MOST 1048576: true; the input reads as it did. -/
def hintRecoversUptoRow : OpenClaim := { program := "ytilkjcobkdjlkaa", sum := "f722e7938878f3285b801c4c720b8e581a8c092b882f181760aec1618c302e66", func := "privatefetch/privatefetchlaw38.HintRecovers", spec := "hintRecovers", unfollowed := true, recurses := true, apart := false, narrowed := true }
def HintRecoversUptoSaid : Prop := hintRecoversUptoRow.holds Try.pinned (OpenSpec.upto hintRecoversSpec)

/-- 'privatefetchlaw38.HintAdds', WHERE WHAT IT READS IS OF BULK AT MOST 1048576: true; the input reads as it did. -/
def hintAddsUptoRow : OpenClaim := { program := "ytilkjcobkdjlkaa", sum := "f722e7938878f3285b801c4c720b8e581a8c092b882f181760aec1618c302e66", func := "privatefetch/privatefetchlaw38.HintAdds", spec := "hintAdds", unfollowed := true, recurses := true, apart := false, narrowed := true }
def HintAddsUptoSaid : Prop := hintAddsUptoRow.holds Try.pinned (OpenSpec.upto hintAddsSpec)

/-- 'privatefetchlaw37.UpdateFull', WHERE WHAT IT READS IS OF BULK AT MOST 1048576: true; the input reads as it did. -/
def updateFullUptoRow : OpenClaim := { program := "ytilkjcobkdjlkaa", sum := "f722e7938878f3285b801c4c720b8e581a8c092b882f181760aec1618c302e66", func := "privatefetch/privatefetchlaw37.UpdateFull", spec := "updateFull", unfollowed := true, recurses := true, apart := false, narrowed := true }
def UpdateFullUptoSaid : Prop := updateFullUptoRow.holds Try.pinned (OpenSpec.upto updateFullSpec)

/-- 'privatefetchlaw37.UpdateKeeps', WHERE WHAT IT READS IS OF BULK AT MOST 1048576: true; the input reads as it did. -/
def updateKeepsUptoRow : OpenClaim := { program := "ytilkjcobkdjlkaa", sum := "f722e7938878f3285b801c4c720b8e581a8c092b882f181760aec1618c302e66", func := "privatefetch/privatefetchlaw37.UpdateKeeps", spec := "updateKeeps", unfollowed := true, recurses := true, apart := false, narrowed := true }
def UpdateKeepsUptoSaid : Prop := updateKeepsUptoRow.holds Try.pinned (OpenSpec.upto updateKeepsSpec)

/-- 'privatefetchlaw37.UpdateJoins', WHERE WHAT IT READS IS OF BULK AT MOST 1048576: true; the input reads as it did. -/
def updateJoinsUptoRow : OpenClaim := { program := "ytilkjcobkdjlkaa", sum := "f722e7938878f3285b801c4c720b8e581a8c092b882f181760aec1618c302e66", func := "privatefetch/privatefetchlaw37.UpdateJoins", spec := "updateJoins", unfollowed := true, recurses := true, apart := false, narrowed := true }
def UpdateJoinsUptoSaid : Prop := updateJoinsUptoRow.holds Try.pinned (OpenSpec.upto updateJoinsSpec)

/-- 'privatefetchlaw37.UpdateDigests', WHERE WHAT IT READS IS OF BULK AT MOST 1048576: true; the input reads as it did. -/
def updateDigestsUptoRow : OpenClaim := { program := "ytilkjcobkdjlkaa", sum := "f722e7938878f3285b801c4c720b8e581a8c092b882f181760aec1618c302e66", func := "privatefetch/privatefetchlaw37.UpdateDigests", spec := "updateDigests", unfollowed := true, recurses := true, apart := false, narrowed := true }
def UpdateDigestsUptoSaid : Prop := updateDigestsUptoRow.holds Try.pinned (OpenSpec.upto updateDigestsSpec)

/-- 'privatefetchlaw37.UpdateSteps', WHERE WHAT IT READS IS OF BULK AT MOST 1048576: true; the input reads as it did. -/
def updateStepsUptoRow : OpenClaim := { program := "ytilkjcobkdjlkaa", sum := "f722e7938878f3285b801c4c720b8e581a8c092b882f181760aec1618c302e66", func := "privatefetch/privatefetchlaw37.UpdateSteps", spec := "updateSteps", unfollowed := true, recurses := true, apart := false, narrowed := true }
def UpdateStepsUptoSaid : Prop := updateStepsUptoRow.holds Try.pinned (OpenSpec.upto updateStepsSpec)

/-- 'privatefetchlaw38.HintFollows', WHERE WHAT IT READS IS OF BULK AT MOST 1048576: true; the input reads as it did. -/
def hintFollowsUptoRow : OpenClaim := { program := "ytilkjcobkdjlkaa", sum := "f722e7938878f3285b801c4c720b8e581a8c092b882f181760aec1618c302e66", func := "privatefetch/privatefetchlaw38.HintFollows", spec := "hintFollows", unfollowed := true, recurses := true, apart := false, narrowed := true }
def HintFollowsUptoSaid : Prop := hintFollowsUptoRow.holds Try.pinned (OpenSpec.upto hintFollowsSpec)

/-- 'privatefetchlaw38.HintSteps', WHERE WHAT IT READS IS OF BULK AT MOST 1048576: true; the input reads as it did. -/
def hintStepsUptoRow : OpenClaim := { program := "ytilkjcobkdjlkaa", sum := "f722e7938878f3285b801c4c720b8e581a8c092b882f181760aec1618c302e66", func := "privatefetch/privatefetchlaw38.HintSteps", spec := "hintSteps", unfollowed := true, recurses := true, apart := false, narrowed := true }
def HintStepsUptoSaid : Prop := hintStepsUptoRow.holds Try.pinned (OpenSpec.upto hintStepsSpec)

end Rows
end Go.Proofs.Ytilkjcobkdjlkaa
