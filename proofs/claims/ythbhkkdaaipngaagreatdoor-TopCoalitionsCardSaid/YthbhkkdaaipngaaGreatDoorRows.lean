/-
  NARROWER THAN 'FOR EVERY INPUT', by the rows' own cells (each row's printed sentence says how): TopSequences: laid · TopCoalitions: laid.
  DERIVED. THE GIVEN ROWS OF THIS SEAT. 2 by the template 'for every input the law returns true; each argument reads behind the call as it read before'; 0 by the template 'total and deterministic' (their statements: YthbhkkdaaipngaaGreatDoorTotals.lean).
  GIVEN WITH THE SEED: the statements are not yours to turn. If you find one false, say at which input.
  Laid BY PROGRAM, IN A SANDBOX (cutbox-rows.mjs): the forced cells as the released guide's own fill.sh prints them over the translation a64a8244cc1dc87f… (all of the seat's roots in one cut). By AI agents, Wed Nov 11 2026. No macro, syntax, notation, axiom, sorry.
-/
import Derived.Test.YthbhkkdaaipngaaGreatDoorChecked
import GoSem.Claim
import GoSem.ClaimJoined
import GoSem.ClaimMapViews
import Derived.JoinedTies
import Derived.KernelRfl
namespace Go.Proofs.YthbhkkdaaipngaaGreatDoor
/- THE CELL 'sum', in the pinned program and in every row, IS THE sha256 OF THE DUMP (.gsa) THAT YthbhkkdaaipngaaGreatDoorProg.lean LOADS. Nothing in Lean hashes anything: it is a label: what it is worth is what the hold of that sum in a sandbox is worth. -/
noncomputable def Tryz.pinned : Pinned := { name := "ythbhkkdaaipngaagreatdoor", sum := "a64a8244cc1dc87f61753438c2d917886e01e51e36c48c1cb925d2376d3f2d45", checked := Tryz.checked }
namespace Rows
def none {H : Type} : Left H := { results := [], args := [] }

/- WHAT THE LISTED PACKAGE-LEVEL VARIABLES READ AS WHEN THE CALL BEGINS. Each datum BY PROGRAM (the guide's laid-datum.mjs) off the statement by which the dump's own 'gosem.cut.vars' lays the variable. In a bare row this is a premise. The card (YthbhkkdaaipngaaGreatDoorCards.lean) ties it to the program's text. -/
def laid_privatefetch_unique_errWrong {H : Type} : DataW H := .iface "privatefetch/unique.failure" (.agg [.lit (.int .i64 12)])

/-- 'privatefetchtop.TopSequences': WHATEVER THE INPUT: true; the input reads as it did. -/
def topSequencesSpec : ChangeSpec := { name := "topSequences", fn := fun _ => fun
  | [d1, d2, d3, d4, d5] => { results := [.lit (.bool true)], args := [d1, d2, d3, d4, d5] }
  | _ => none }
def topSequencesRow : OpenClaim := { program := "ythbhkkdaaipngaagreatdoor", sum := "a64a8244cc1dc87f61753438c2d917886e01e51e36c48c1cb925d2376d3f2d45", func := "privatefetch/privatefetchtop.TopSequences", spec := "topSequences", inPlace := ["internal/reflectlite.TypeOf"], unfollowed := true, recurses := true, named := ["privatefetch/unique.errWrong"], apart := false, laid := [("privatefetch/unique.errWrong", laid_privatefetch_unique_errWrong)] }
def TopSequencesSaid : Prop := topSequencesRow.holds Tryz.pinned (OpenSpec.ofChange topSequencesSpec)

/-- ITS FALSE NEIGHBOUR: 'it returns false'. Refute it at one input. -/
def topSequencesWrong : ChangeSpec := { name := "topSequences", fn := fun _ => fun
  | [d1, d2, d3, d4, d5] => { results := [.lit (.bool false)], args := [d1, d2, d3, d4, d5] }
  | _ => none }
def TopSequencesWrongFalsely : Prop := topSequencesRow.holds Tryz.pinned (OpenSpec.ofChange topSequencesWrong)

/-- 'privatefetchtop.TopCoalitions': WHATEVER THE INPUT: true; the input reads as it did. -/
def topCoalitionsSpec : ChangeSpec := { name := "topCoalitions", fn := fun _ => fun
  | [d1, d2, d3] => { results := [.lit (.bool true)], args := [d1, d2, d3] }
  | _ => none }
def topCoalitionsRow : OpenClaim := { program := "ythbhkkdaaipngaagreatdoor", sum := "a64a8244cc1dc87f61753438c2d917886e01e51e36c48c1cb925d2376d3f2d45", func := "privatefetch/privatefetchtop.TopCoalitions", spec := "topCoalitions", inPlace := ["internal/reflectlite.TypeOf"], unfollowed := true, recurses := true, named := ["privatefetch/unique.errWrong"], apart := false, laid := [("privatefetch/unique.errWrong", laid_privatefetch_unique_errWrong)] }
def TopCoalitionsSaid : Prop := topCoalitionsRow.holds Tryz.pinned (OpenSpec.ofChange topCoalitionsSpec)

/-- ITS FALSE NEIGHBOUR: 'it returns false'. Refute it at one input. -/
def topCoalitionsWrong : ChangeSpec := { name := "topCoalitions", fn := fun _ => fun
  | [d1, d2, d3] => { results := [.lit (.bool false)], args := [d1, d2, d3] }
  | _ => none }
def TopCoalitionsWrongFalsely : Prop := topCoalitionsRow.holds Tryz.pinned (OpenSpec.ofChange topCoalitionsWrong)

/- THE SECOND FORM. 'bulk': how many values and letters a reading holds, each counted each time it is reached (what is shared counts as often as it is met; a slice's spare places count too). A statement '..UptoSaid' is the law's where the arguments, and the package variables that the reading takes, are together of bulk at most 1048576: NARROWER than '..Said'. Prove '..Said' where nothing that the law and all that it calls make is longer than what came in: it says more and counts as full. Else prove '..UptoSaid'. A law counts once. -/
mutual
def uptoBulk {H : Type} : DataW H → Nat
  | .lit (.string bytes) => bytes.length + 1
  | .lit _ => 1
  | .nil => 1
  | .ptr d => uptoBulk d + 1
  | .slice elems spare => uptoBulkAll elems + uptoBulkAll spare + 1
  | .agg parts => uptoBulkAll parts + 1
  | .iface _ d => uptoBulk d + 1
  | .map entries => uptoBulkEntries entries + 1
  | .held _ => 1
def uptoBulkAll {H : Type} : List (DataW H) → Nat
  | [] => 0
  | d :: r => uptoBulk d + uptoBulkAll r
def uptoBulkEntries {H : Type} : List (Lit × DataW H) → Nat
  | [] => 0
  | x :: r => uptoBulkEntry x + uptoBulkEntries r
def uptoBulkEntry {H : Type} : Lit × DataW H → Nat
  | (.string bytes, d) => bytes.length + uptoBulk d + 1
  | (_, d) => uptoBulk d + 1
 end
def uptoSmall : (H : Type) → List (DataW H) → Bool := fun _ ds => decide (uptoBulkAll ds ≤ 1048576)
def OpenSpec.upto (s : _root_.Go.ChangeSpec) : _root_.Go.OpenSpec := { _root_.Go.OpenSpec.ofChange s with cond := some uptoSmall }

/-- 'privatefetchtop.TopSequences', WHERE WHAT IT READS IS OF BULK AT MOST 1048576: true; the input reads as it did. -/
def topSequencesUptoRow : OpenClaim := { program := "ythbhkkdaaipngaagreatdoor", sum := "a64a8244cc1dc87f61753438c2d917886e01e51e36c48c1cb925d2376d3f2d45", func := "privatefetch/privatefetchtop.TopSequences", spec := "topSequences", inPlace := ["internal/reflectlite.TypeOf"], unfollowed := true, recurses := true, named := ["privatefetch/unique.errWrong"], apart := false, laid := [("privatefetch/unique.errWrong", laid_privatefetch_unique_errWrong)], narrowed := true }
def TopSequencesUptoSaid : Prop := topSequencesUptoRow.holds Tryz.pinned (OpenSpec.upto topSequencesSpec)

/-- 'privatefetchtop.TopCoalitions', WHERE WHAT IT READS IS OF BULK AT MOST 1048576: true; the input reads as it did. -/
def topCoalitionsUptoRow : OpenClaim := { program := "ythbhkkdaaipngaagreatdoor", sum := "a64a8244cc1dc87f61753438c2d917886e01e51e36c48c1cb925d2376d3f2d45", func := "privatefetch/privatefetchtop.TopCoalitions", spec := "topCoalitions", inPlace := ["internal/reflectlite.TypeOf"], unfollowed := true, recurses := true, named := ["privatefetch/unique.errWrong"], apart := false, laid := [("privatefetch/unique.errWrong", laid_privatefetch_unique_errWrong)], narrowed := true }
def TopCoalitionsUptoSaid : Prop := topCoalitionsUptoRow.holds Tryz.pinned (OpenSpec.upto topCoalitionsSpec)

end Rows
end Go.Proofs.YthbhkkdaaipngaaGreatDoor
