/-
  NARROWER THAN 'FOR EVERY INPUT', by the rows' own cells (each row's printed sentence says how): TopEvidence: laid · TopVersions: laid.
  DERIVED. THE GIVEN ROWS OF THIS SEAT. 2 by the template 'for every input the law returns true; each argument reads behind the call as it read before'; 0 by the template 'total and deterministic' (their statements: YtacfbiegbdlldaaGreatDoorTotals.lean).
  GIVEN WITH THE SEED: the statements are not yours to turn. If you find one false, say at which input.
  Laid BY PROGRAM, IN A SANDBOX (cutbox-rows.mjs): the forced cells as the released guide's own fill.sh prints them over the translation a5c3aa6686461e44… (all of the seat's roots in one cut). By AI agents, Wed Nov 11 2026. No macro, syntax, notation, axiom, sorry.
-/
import Derived.Test.YtacfbiegbdlldaaGreatDoorChecked
import GoSem.Claim
import GoSem.ClaimJoined
import GoSem.ClaimMapViews
import Derived.JoinedTies
import Derived.KernelRfl
namespace Go.Proofs.YtacfbiegbdlldaaGreatDoor
/- THE CELL 'sum', in the pinned program and in every row, IS THE sha256 OF THE DUMP (.gsa) THAT YtacfbiegbdlldaaGreatDoorProg.lean LOADS. Nothing in Lean hashes anything: it is a label: what it is worth is what the hold of that sum in a sandbox is worth. -/
noncomputable def Tryz.pinned : Pinned := { name := "ytacfbiegbdlldaagreatdoor", sum := "a5c3aa6686461e44c0ca34874a7f8f7a8ef71b3346450b561efd942b81b9ea51", checked := Tryz.checked }
namespace Rows
def none {H : Type} : Left H := { results := [], args := [] }

/- WHAT THE LISTED PACKAGE-LEVEL VARIABLES READ AS WHEN THE CALL BEGINS. Each datum BY PROGRAM (the guide's laid-datum.mjs) off the statement by which the dump's own 'gosem.cut.vars' lays the variable. In a bare row this is a premise. The card (YtacfbiegbdlldaaGreatDoorCards.lean) ties it to the program's text. -/
def laid_privatefetch_unique_errWrong {H : Type} : DataW H := .iface "privatefetch/unique.failure" (.agg [.lit (.int .i64 12)])

/-- 'privatefetchtop.TopEvidence': WHATEVER THE INPUT: true; the input reads as it did. -/
def topEvidenceSpec : ChangeSpec := { name := "topEvidence", fn := fun _ => fun
  | [d1, d2] => { results := [.lit (.bool true)], args := [d1, d2] }
  | _ => none }
def topEvidenceRow : OpenClaim := { program := "ytacfbiegbdlldaagreatdoor", sum := "a5c3aa6686461e44c0ca34874a7f8f7a8ef71b3346450b561efd942b81b9ea51", func := "privatefetch/privatefetchtop.TopEvidence", spec := "topEvidence", inPlace := ["internal/reflectlite.TypeOf"], unfollowed := true, recurses := true, named := ["privatefetch/unique.errWrong"], apart := false, laid := [("privatefetch/unique.errWrong", laid_privatefetch_unique_errWrong)] }
def TopEvidenceSaid : Prop := topEvidenceRow.holds Tryz.pinned (OpenSpec.ofChange topEvidenceSpec)

/-- ITS FALSE NEIGHBOUR: 'it returns false'. Refute it at one input. -/
def topEvidenceWrong : ChangeSpec := { name := "topEvidence", fn := fun _ => fun
  | [d1, d2] => { results := [.lit (.bool false)], args := [d1, d2] }
  | _ => none }
def TopEvidenceWrongFalsely : Prop := topEvidenceRow.holds Tryz.pinned (OpenSpec.ofChange topEvidenceWrong)

/-- 'privatefetchtop.TopVersions': WHATEVER THE INPUT: true; the input reads as it did. -/
def topVersionsSpec : ChangeSpec := { name := "topVersions", fn := fun _ => fun
  | [d1, d2] => { results := [.lit (.bool true)], args := [d1, d2] }
  | _ => none }
def topVersionsRow : OpenClaim := { program := "ytacfbiegbdlldaagreatdoor", sum := "a5c3aa6686461e44c0ca34874a7f8f7a8ef71b3346450b561efd942b81b9ea51", func := "privatefetch/privatefetchtop.TopVersions", spec := "topVersions", inPlace := ["internal/reflectlite.TypeOf"], unfollowed := true, recurses := true, named := ["privatefetch/unique.errWrong"], apart := false, laid := [("privatefetch/unique.errWrong", laid_privatefetch_unique_errWrong)] }
def TopVersionsSaid : Prop := topVersionsRow.holds Tryz.pinned (OpenSpec.ofChange topVersionsSpec)

/-- ITS FALSE NEIGHBOUR: 'it returns false'. Refute it at one input. -/
def topVersionsWrong : ChangeSpec := { name := "topVersions", fn := fun _ => fun
  | [d1, d2] => { results := [.lit (.bool false)], args := [d1, d2] }
  | _ => none }
def TopVersionsWrongFalsely : Prop := topVersionsRow.holds Tryz.pinned (OpenSpec.ofChange topVersionsWrong)

/- THE SECOND FORM. 'bulk': how many values and letters a reading holds, each counted each time it is reached (what is shared counts as often as it is met; a slice's spare places count too). A statement '..UptoSaid' is the law's where the arguments, and the package variables that the reading takes, are together of bulk at most 1048576: NARROWER than '..Said'. Prove '..Said' where nothing that the law and all that it calls make is longer than what came in: it says more and counts as full. Else prove '..UptoSaid'. A law counts once. -/
mutual
def uptoBulk {H : Type} : DataW H → Nat
  | .lit (.string bytes) => bytes.length + 1
  | .lit _ => 1
  | .nil => 1
  | .ptr d => uptoBulk d + 1
  | .slice elems spare => uptoBulkAll elems + uptoBulkAll spare + 1
  | .agg parts => uptoBulkAll parts + 1
  | .iface _ d => uptoBulk d + 1
  | .map entries => uptoBulkEntries entries + 1
  | .held _ => 1
def uptoBulkAll {H : Type} : List (DataW H) → Nat
  | [] => 0
  | d :: r => uptoBulk d + uptoBulkAll r
def uptoBulkEntries {H : Type} : List (Lit × DataW H) → Nat
  | [] => 0
  | x :: r => uptoBulkEntry x + uptoBulkEntries r
def uptoBulkEntry {H : Type} : Lit × DataW H → Nat
  | (.string bytes, d) => bytes.length + uptoBulk d + 1
  | (_, d) => uptoBulk d + 1
 end
def uptoSmall : (H : Type) → List (DataW H) → Bool := fun _ ds => decide (uptoBulkAll ds ≤ 1048576)
def OpenSpec.upto (s : _root_.Go.ChangeSpec) : _root_.Go.OpenSpec := { _root_.Go.OpenSpec.ofChange s with cond := some uptoSmall }

/-- 'privatefetchtop.TopEvidence', WHERE WHAT IT READS IS OF BULK AT MOST 1048576: true; the input reads as it did. -/
def topEvidenceUptoRow : OpenClaim := { program := "ytacfbiegbdlldaagreatdoor", sum := "a5c3aa6686461e44c0ca34874a7f8f7a8ef71b3346450b561efd942b81b9ea51", func := "privatefetch/privatefetchtop.TopEvidence", spec := "topEvidence", inPlace := ["internal/reflectlite.TypeOf"], unfollowed := true, recurses := true, named := ["privatefetch/unique.errWrong"], apart := false, laid := [("privatefetch/unique.errWrong", laid_privatefetch_unique_errWrong)], narrowed := true }
def TopEvidenceUptoSaid : Prop := topEvidenceUptoRow.holds Tryz.pinned (OpenSpec.upto topEvidenceSpec)

/-- 'privatefetchtop.TopVersions', WHERE WHAT IT READS IS OF BULK AT MOST 1048576: true; the input reads as it did. -/
def topVersionsUptoRow : OpenClaim := { program := "ytacfbiegbdlldaagreatdoor", sum := "a5c3aa6686461e44c0ca34874a7f8f7a8ef71b3346450b561efd942b81b9ea51", func := "privatefetch/privatefetchtop.TopVersions", spec := "topVersions", inPlace := ["internal/reflectlite.TypeOf"], unfollowed := true, recurses := true, named := ["privatefetch/unique.errWrong"], apart := false, laid := [("privatefetch/unique.errWrong", laid_privatefetch_unique_errWrong)], narrowed := true }
def TopVersionsUptoSaid : Prop := topVersionsUptoRow.holds Tryz.pinned (OpenSpec.upto topVersionsSpec)

end Rows
end Go.Proofs.YtacfbiegbdlldaaGreatDoor
