/-
  No cell of these rows narrows 'for every input' (looked for: loops, veiled, ifaces, maps, wideKeys, modest, calm, conditions, laid).
  DERIVED. THE GIVEN ROWS OF THIS SEAT. 5 by the template 'for every input the law returns true; each argument reads behind the call as it read before'; 0 by the template 'total and deterministic' (their statements: YtpliidhbfjjofaaTotals.lean).
  GIVEN WITH THE SEED: the statements are not yours to turn. If you find one false, say at which input.
  Laid BY PROGRAM, IN A SANDBOX (cutbox-rows.mjs): the forced cells as the released guide's own fill.sh prints them over the translation 0b64f91713c67283… (all of the seat's roots in one cut). By AI agents, Wed Nov 11 2026. No macro, syntax, notation, axiom, sorry.
-/
import Derived.Test.YtpliidhbfjjofaaChecked
import GoSem.Claim
import GoSem.ClaimJoined
import GoSem.ClaimMapViews
import Derived.JoinedTies
import Derived.KernelRfl
namespace Go.Proofs.Ytpliidhbfjjofaa
/- THE CELL 'sum', in the pinned program and in every row, IS THE sha256 OF THE DUMP (.gsa) THAT YtpliidhbfjjofaaProg.lean LOADS. Nothing in Lean hashes anything: it is a label: what it is worth is what the hold of that sum in a sandbox is worth. -/
noncomputable def Try.pinned : Pinned := { name := "ytpliidhbfjjofaa", sum := "0b64f91713c67283c4641574911aa0bccfe62741bd0a43f51e12483b8edb76a6", checked := Try.checked }
namespace Rows
def none {H : Type} : Left H := { results := [], args := [] }

/-- 'privatefetchlaw15.ChangeLeads': WHATEVER THE INPUT: true; the input reads as it did. -/
def changeLeadsSpec : ChangeSpec := { name := "changeLeads", fn := fun _ => fun
  | [d] => { results := [.lit (.bool true)], args := [d] }
  | _ => none }
def changeLeadsRow : OpenClaim := { program := "ytpliidhbfjjofaa", sum := "0b64f91713c67283c4641574911aa0bccfe62741bd0a43f51e12483b8edb76a6", func := "privatefetch/privatefetchlaw15.ChangeLeads", spec := "changeLeads", unfollowed := true, recurses := true, apart := false }
def ChangeLeadsSaid : Prop := changeLeadsRow.holds Try.pinned (OpenSpec.ofChange changeLeadsSpec)

/-- ITS FALSE NEIGHBOUR: 'it returns false'. Refute it at one input. -/
def changeLeadsWrong : ChangeSpec := { name := "changeLeads", fn := fun _ => fun
  | [d] => { results := [.lit (.bool false)], args := [d] }
  | _ => none }
def ChangeLeadsWrongFalsely : Prop := changeLeadsRow.holds Try.pinned (OpenSpec.ofChange changeLeadsWrong)

/-- 'privatefetchlaw15.ChangeSame': WHATEVER THE INPUT: true; the input reads as it did. -/
def changeSameSpec : ChangeSpec := { name := "changeSame", fn := fun _ => fun
  | [d] => { results := [.lit (.bool true)], args := [d] }
  | _ => none }
def changeSameRow : OpenClaim := { program := "ytpliidhbfjjofaa", sum := "0b64f91713c67283c4641574911aa0bccfe62741bd0a43f51e12483b8edb76a6", func := "privatefetch/privatefetchlaw15.ChangeSame", spec := "changeSame", unfollowed := true, recurses := true, apart := false }
def ChangeSameSaid : Prop := changeSameRow.holds Try.pinned (OpenSpec.ofChange changeSameSpec)

/-- ITS FALSE NEIGHBOUR: 'it returns false'. Refute it at one input. -/
def changeSameWrong : ChangeSpec := { name := "changeSame", fn := fun _ => fun
  | [d] => { results := [.lit (.bool false)], args := [d] }
  | _ => none }
def ChangeSameWrongFalsely : Prop := changeSameRow.holds Try.pinned (OpenSpec.ofChange changeSameWrong)

/-- 'privatefetchlaw15.ChangeDigests': WHATEVER THE INPUT: true; the input reads as it did. -/
def changeDigestsSpec : ChangeSpec := { name := "changeDigests", fn := fun _ => fun
  | [d] => { results := [.lit (.bool true)], args := [d] }
  | _ => none }
def changeDigestsRow : OpenClaim := { program := "ytpliidhbfjjofaa", sum := "0b64f91713c67283c4641574911aa0bccfe62741bd0a43f51e12483b8edb76a6", func := "privatefetch/privatefetchlaw15.ChangeDigests", spec := "changeDigests", unfollowed := true, recurses := true, apart := false }
def ChangeDigestsSaid : Prop := changeDigestsRow.holds Try.pinned (OpenSpec.ofChange changeDigestsSpec)

/-- ITS FALSE NEIGHBOUR: 'it returns false'. Refute it at one input. -/
def changeDigestsWrong : ChangeSpec := { name := "changeDigests", fn := fun _ => fun
  | [d] => { results := [.lit (.bool false)], args := [d] }
  | _ => none }
def ChangeDigestsWrongFalsely : Prop := changeDigestsRow.holds Try.pinned (OpenSpec.ofChange changeDigestsWrong)

/-- 'privatefetchlaw15.ChangeJoins': WHATEVER THE INPUT: true; the input reads as it did. -/
def changeJoinsSpec : ChangeSpec := { name := "changeJoins", fn := fun _ => fun
  | [d] => { results := [.lit (.bool true)], args := [d] }
  | _ => none }
def changeJoinsRow : OpenClaim := { program := "ytpliidhbfjjofaa", sum := "0b64f91713c67283c4641574911aa0bccfe62741bd0a43f51e12483b8edb76a6", func := "privatefetch/privatefetchlaw15.ChangeJoins", spec := "changeJoins", unfollowed := true, recurses := true, apart := false }
def ChangeJoinsSaid : Prop := changeJoinsRow.holds Try.pinned (OpenSpec.ofChange changeJoinsSpec)

/-- ITS FALSE NEIGHBOUR: 'it returns false'. Refute it at one input. -/
def changeJoinsWrong : ChangeSpec := { name := "changeJoins", fn := fun _ => fun
  | [d] => { results := [.lit (.bool false)], args := [d] }
  | _ => none }
def ChangeJoinsWrongFalsely : Prop := changeJoinsRow.holds Try.pinned (OpenSpec.ofChange changeJoinsWrong)

/-- 'privatefetchlaw15.ChangeDoes': WHATEVER THE INPUT: true; the input reads as it did. -/
def changeDoesSpec : ChangeSpec := { name := "changeDoes", fn := fun _ => fun
  | [d1, d2, d3, d4, d5] => { results := [.lit (.bool true)], args := [d1, d2, d3, d4, d5] }
  | _ => none }
def changeDoesRow : OpenClaim := { program := "ytpliidhbfjjofaa", sum := "0b64f91713c67283c4641574911aa0bccfe62741bd0a43f51e12483b8edb76a6", func := "privatefetch/privatefetchlaw15.ChangeDoes", spec := "changeDoes", unfollowed := true, recurses := true, apart := false }
def ChangeDoesSaid : Prop := changeDoesRow.holds Try.pinned (OpenSpec.ofChange changeDoesSpec)

/-- ITS FALSE NEIGHBOUR: 'it returns false'. Refute it at one input. -/
def changeDoesWrong : ChangeSpec := { name := "changeDoes", fn := fun _ => fun
  | [d1, d2, d3, d4, d5] => { results := [.lit (.bool false)], args := [d1, d2, d3, d4, d5] }
  | _ => none }
def ChangeDoesWrongFalsely : Prop := changeDoesRow.holds Try.pinned (OpenSpec.ofChange changeDoesWrong)

/- THE SECOND FORM. 'bulk': how many values and letters a reading holds, each counted each time it is reached (what is shared counts as often as it is met; a slice's spare places count too). A statement '..UptoSaid' is the law's where the arguments, and the package variables that the reading takes, are together of bulk at most 1048576: NARROWER than '..Said'. Prove '..Said' where nothing that the law and all that it calls make is longer than what came in: it says more and counts as full. Else prove '..UptoSaid'. A law counts once. -/
mutual
def uptoBulk {H : Type} : DataW H → Nat
  | .lit (.string bytes) => bytes.length + 1
  | .lit _ => 1
  | .nil => 1
  | .ptr d => uptoBulk d + 1
  | .slice elems spare => uptoBulkAll elems + uptoBulkAll spare + 1
  | .agg parts => uptoBulkAll parts + 1
  | .iface _ d => uptoBulk d + 1
  | .map entries => uptoBulkEntries entries + 1
  | .held _ => 1
def uptoBulkAll {H : Type} : List (DataW H) → Nat
  | [] => 0
  | d :: r => uptoBulk d + uptoBulkAll r
def uptoBulkEntries {H : Type} : List (Lit × DataW H) → Nat
  | [] => 0
  | x :: r => uptoBulkEntry x + uptoBulkEntries r
def uptoBulkEntry {H : Type} : Lit × DataW H → Nat
  | (.string bytes, d) => bytes.length + uptoBulk d + 1
  | (_, d) => uptoBulk d + 1
 end
def uptoSmall : (H : Type) → List (DataW H) → Bool := fun _ ds => decide (uptoBulkAll ds ≤ 1048576)
def OpenSpec.upto (s : _root_.Go.ChangeSpec) : _root_.Go.OpenSpec := { _root_.Go.OpenSpec.ofChange s with cond := some uptoSmall }

/-- 'privatefetchlaw15.ChangeLeads', WHERE WHAT IT READS IS OF BULK AT MOST 1048576: true; the input reads as it did. -/
def changeLeadsUptoRow : OpenClaim := { program := "ytpliidhbfjjofaa", sum := "0b64f91713c67283c4641574911aa0bccfe62741bd0a43f51e12483b8edb76a6", func := "privatefetch/privatefetchlaw15.ChangeLeads", spec := "changeLeads", unfollowed := true, recurses := true, apart := false, narrowed := true }
def ChangeLeadsUptoSaid : Prop := changeLeadsUptoRow.holds Try.pinned (OpenSpec.upto changeLeadsSpec)

/-- 'privatefetchlaw15.ChangeSame', WHERE WHAT IT READS IS OF BULK AT MOST 1048576: true; the input reads as it did. -/
def changeSameUptoRow : OpenClaim := { program := "ytpliidhbfjjofaa", sum := "0b64f91713c67283c4641574911aa0bccfe62741bd0a43f51e12483b8edb76a6", func := "privatefetch/privatefetchlaw15.ChangeSame", spec := "changeSame", unfollowed := true, recurses := true, apart := false, narrowed := true }
def ChangeSameUptoSaid : Prop := changeSameUptoRow.holds Try.pinned (OpenSpec.upto changeSameSpec)

/-- 'privatefetchlaw15.ChangeDigests', WHERE WHAT IT READS IS OF BULK AT MOST 1048576: true; the input reads as it did. -/
def changeDigestsUptoRow : OpenClaim := { program := "ytpliidhbfjjofaa", sum := "0b64f91713c67283c4641574911aa0bccfe62741bd0a43f51e12483b8edb76a6", func := "privatefetch/privatefetchlaw15.ChangeDigests", spec := "changeDigests", unfollowed := true, recurses := true, apart := false, narrowed := true }
def ChangeDigestsUptoSaid : Prop := changeDigestsUptoRow.holds Try.pinned (OpenSpec.upto changeDigestsSpec)

/-- 'privatefetchlaw15.ChangeJoins', WHERE WHAT IT READS IS OF BULK AT MOST 1048576: true; the input reads as it did. -/
def changeJoinsUptoRow : OpenClaim := { program := "ytpliidhbfjjofaa", sum := "0b64f91713c67283c4641574911aa0bccfe62741bd0a43f51e12483b8edb76a6", func := "privatefetch/privatefetchlaw15.ChangeJoins", spec := "changeJoins", unfollowed := true, recurses := true, apart := false, narrowed := true }
def ChangeJoinsUptoSaid : Prop := changeJoinsUptoRow.holds Try.pinned (OpenSpec.upto changeJoinsSpec)

/-- 'privatefetchlaw15.ChangeDoes', WHERE WHAT IT READS IS OF BULK AT MOST 1048576: true; the input reads as it did. -/
def changeDoesUptoRow : OpenClaim := { program := "ytpliidhbfjjofaa", sum := "0b64f91713c67283c4641574911aa0bccfe62741bd0a43f51e12483b8edb76a6", func := "privatefetch/privatefetchlaw15.ChangeDoes", spec := "changeDoes", unfollowed := true, recurses := true, apart := false, narrowed := true }
def ChangeDoesUptoSaid : Prop := changeDoesUptoRow.holds Try.pinned (OpenSpec.upto changeDoesSpec)

end Rows
end Go.Proofs.Ytpliidhbfjjofaa
