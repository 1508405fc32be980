/-
  No cell of these rows narrows 'for every input' (looked for: loops, veiled, ifaces, maps, wideKeys, modest, calm, conditions, laid).
  DERIVED. THE GIVEN ROWS OF THIS SEAT. 5 by the template 'for every input the law returns true; each argument reads behind the call as it read before'; 0 by the template 'total and deterministic' (their statements: YtihhncejiahdcacTotals.lean).
  GIVEN WITH THE SEED: the statements are not yours to turn. If you find one false, say at which input.
  Laid BY PROGRAM, IN A SANDBOX (cutbox-rows.mjs): the forced cells as the released guide's own fill.sh prints them over the translation faeb710dd9f97415… (all of the seat's roots in one cut). By AI agents, Wed Nov 11 2026. No macro, syntax, notation, axiom, sorry.
-/
import Derived.Test.YtihhncejiahdcacChecked
import GoSem.Claim
import GoSem.ClaimJoined
import GoSem.ClaimMapViews
import Derived.JoinedTies
import Derived.KernelRfl
namespace Go.Proofs.Ytihhncejiahdcac
/- THE CELL 'sum', in the pinned program and in every row, IS THE sha256 OF THE DUMP (.gsa) THAT YtihhncejiahdcacProg.lean LOADS. Nothing in Lean hashes anything: it is a label: what it is worth is what the hold of that sum in a sandbox is worth. -/
noncomputable def Try.pinned : Pinned := { name := "ytihhncejiahdcac", sum := "faeb710dd9f974150506cd421b6ed0367f7ece77e51c7e7206c88ee5f0a49251", checked := Try.checked }
namespace Rows
def none {H : Type} : Left H := { results := [], args := [] }

/-- 'privatefetchlaw03.FieldPrimes': WHATEVER THE INPUT: true; the input reads as it did. -/
def fieldPrimesSpec : ChangeSpec := { name := "fieldPrimes", fn := fun _ => fun
  | [d] => { results := [.lit (.bool true)], args := [d] }
  | _ => none }
def fieldPrimesRow : OpenClaim := { program := "ytihhncejiahdcac", sum := "faeb710dd9f974150506cd421b6ed0367f7ece77e51c7e7206c88ee5f0a49251", func := "privatefetch/privatefetchlaw03.FieldPrimes", spec := "fieldPrimes", unfollowed := true, recurses := true, apart := false }
def FieldPrimesSaid : Prop := fieldPrimesRow.holds Try.pinned (OpenSpec.ofChange fieldPrimesSpec)

/-- ITS FALSE NEIGHBOUR: 'it returns false'. Refute it at one input. -/
def fieldPrimesWrong : ChangeSpec := { name := "fieldPrimes", fn := fun _ => fun
  | [d] => { results := [.lit (.bool false)], args := [d] }
  | _ => none }
def FieldPrimesWrongFalsely : Prop := fieldPrimesRow.holds Try.pinned (OpenSpec.ofChange fieldPrimesWrong)

/-- 'privatefetchlaw03.FieldPowers': WHATEVER THE INPUT: true; the input reads as it did. -/
def fieldPowersSpec : ChangeSpec := { name := "fieldPowers", fn := fun _ => fun
  | [d1, d2, d3] => { results := [.lit (.bool true)], args := [d1, d2, d3] }
  | _ => none }
def fieldPowersRow : OpenClaim := { program := "ytihhncejiahdcac", sum := "faeb710dd9f974150506cd421b6ed0367f7ece77e51c7e7206c88ee5f0a49251", func := "privatefetch/privatefetchlaw03.FieldPowers", spec := "fieldPowers", unfollowed := true, recurses := true, apart := false }
def FieldPowersSaid : Prop := fieldPowersRow.holds Try.pinned (OpenSpec.ofChange fieldPowersSpec)

/-- ITS FALSE NEIGHBOUR: 'it returns false'. Refute it at one input. -/
def fieldPowersWrong : ChangeSpec := { name := "fieldPowers", fn := fun _ => fun
  | [d1, d2, d3] => { results := [.lit (.bool false)], args := [d1, d2, d3] }
  | _ => none }
def FieldPowersWrongFalsely : Prop := fieldPowersRow.holds Try.pinned (OpenSpec.ofChange fieldPowersWrong)

/-- 'privatefetchlaw03.FieldLaws': WHATEVER THE INPUT: true; the input reads as it did. -/
def fieldLawsSpec : ChangeSpec := { name := "fieldLaws", fn := fun _ => fun
  | [d] => { results := [.lit (.bool true)], args := [d] }
  | _ => none }
def fieldLawsRow : OpenClaim := { program := "ytihhncejiahdcac", sum := "faeb710dd9f974150506cd421b6ed0367f7ece77e51c7e7206c88ee5f0a49251", func := "privatefetch/privatefetchlaw03.FieldLaws", spec := "fieldLaws", unfollowed := true, recurses := true, apart := false }
def FieldLawsSaid : Prop := fieldLawsRow.holds Try.pinned (OpenSpec.ofChange fieldLawsSpec)

/-- ITS FALSE NEIGHBOUR: 'it returns false'. Refute it at one input. -/
def fieldLawsWrong : ChangeSpec := { name := "fieldLaws", fn := fun _ => fun
  | [d] => { results := [.lit (.bool false)], args := [d] }
  | _ => none }
def FieldLawsWrongFalsely : Prop := fieldLawsRow.holds Try.pinned (OpenSpec.ofChange fieldLawsWrong)

/-- 'privatefetchlaw03.FieldDoes': WHATEVER THE INPUT: true; the input reads as it did. -/
def fieldDoesSpec : ChangeSpec := { name := "fieldDoes", fn := fun _ => fun
  | [d1, d2, d3, d4, d5, d6] => { results := [.lit (.bool true)], args := [d1, d2, d3, d4, d5, d6] }
  | _ => none }
def fieldDoesRow : OpenClaim := { program := "ytihhncejiahdcac", sum := "faeb710dd9f974150506cd421b6ed0367f7ece77e51c7e7206c88ee5f0a49251", func := "privatefetch/privatefetchlaw03.FieldDoes", spec := "fieldDoes", unfollowed := true, recurses := true, apart := false }
def FieldDoesSaid : Prop := fieldDoesRow.holds Try.pinned (OpenSpec.ofChange fieldDoesSpec)

/-- ITS FALSE NEIGHBOUR: 'it returns false'. Refute it at one input. -/
def fieldDoesWrong : ChangeSpec := { name := "fieldDoes", fn := fun _ => fun
  | [d1, d2, d3, d4, d5, d6] => { results := [.lit (.bool false)], args := [d1, d2, d3, d4, d5, d6] }
  | _ => none }
def FieldDoesWrongFalsely : Prop := fieldDoesRow.holds Try.pinned (OpenSpec.ofChange fieldDoesWrong)

/-- 'privatefetchlaw03.FieldReduces': WHATEVER THE INPUT: true; the input reads as it did. -/
def fieldReducesSpec : ChangeSpec := { name := "fieldReduces", fn := fun _ => fun
  | [d1, d2, d3] => { results := [.lit (.bool true)], args := [d1, d2, d3] }
  | _ => none }
def fieldReducesRow : OpenClaim := { program := "ytihhncejiahdcac", sum := "faeb710dd9f974150506cd421b6ed0367f7ece77e51c7e7206c88ee5f0a49251", func := "privatefetch/privatefetchlaw03.FieldReduces", spec := "fieldReduces", unfollowed := true, recurses := true, apart := false }
def FieldReducesSaid : Prop := fieldReducesRow.holds Try.pinned (OpenSpec.ofChange fieldReducesSpec)

/-- ITS FALSE NEIGHBOUR: 'it returns false'. Refute it at one input. -/
def fieldReducesWrong : ChangeSpec := { name := "fieldReduces", fn := fun _ => fun
  | [d1, d2, d3] => { results := [.lit (.bool false)], args := [d1, d2, d3] }
  | _ => none }
def FieldReducesWrongFalsely : Prop := fieldReducesRow.holds Try.pinned (OpenSpec.ofChange fieldReducesWrong)

/- THE SECOND FORM. 'bulk': how many values and letters a reading holds, each counted each time it is reached (what is shared counts as often as it is met; a slice's spare places count too). A statement '..UptoSaid' is the law's where the arguments, and the package variables that the reading takes, are together of bulk at most 1048576: NARROWER than '..Said'. Prove '..Said' where nothing that the law and all that it calls make is longer than what came in: it says more and counts as full. Else prove '..UptoSaid'. A law counts once. -/
mutual
def uptoBulk {H : Type} : DataW H → Nat
  | .lit (.string bytes) => bytes.length + 1
  | .lit _ => 1
  | .nil => 1
  | .ptr d => uptoBulk d + 1
  | .slice elems spare => uptoBulkAll elems + uptoBulkAll spare + 1
  | .agg parts => uptoBulkAll parts + 1
  | .iface _ d => uptoBulk d + 1
  | .map entries => uptoBulkEntries entries + 1
  | .held _ => 1
def uptoBulkAll {H : Type} : List (DataW H) → Nat
  | [] => 0
  | d :: r => uptoBulk d + uptoBulkAll r
def uptoBulkEntries {H : Type} : List (Lit × DataW H) → Nat
  | [] => 0
  | x :: r => uptoBulkEntry x + uptoBulkEntries r
def uptoBulkEntry {H : Type} : Lit × DataW H → Nat
  | (.string bytes, d) => bytes.length + uptoBulk d + 1
  | (_, d) => uptoBulk d + 1
 end
def uptoSmall : (H : Type) → List (DataW H) → Bool := fun _ ds => decide (uptoBulkAll ds ≤ 1048576)
def OpenSpec.upto (s : _root_.Go.ChangeSpec) : _root_.Go.OpenSpec := { _root_.Go.OpenSpec.ofChange s with cond := some uptoSmall }

/-- 'privatefetchlaw03.FieldPrimes', WHERE WHAT IT READS IS OF BULK AT MOST 1048576: true; the input reads as it did. -/
def fieldPrimesUptoRow : OpenClaim := { program := "ytihhncejiahdcac", sum := "faeb710dd9f974150506cd421b6ed0367f7ece77e51c7e7206c88ee5f0a49251", func := "privatefetch/privatefetchlaw03.FieldPrimes", spec := "fieldPrimes", unfollowed := true, recurses := true, apart := false, narrowed := true }
def FieldPrimesUptoSaid : Prop := fieldPrimesUptoRow.holds Try.pinned (OpenSpec.upto fieldPrimesSpec)

/-- 'privatefetchlaw03.FieldPowers', WHERE WHAT IT READS IS OF BULK AT MOST 1048576: true; the input reads as it did. -/
def fieldPowersUptoRow : OpenClaim := { program := "ytihhncejiahdcac", sum := "faeb710dd9f974150506cd421b6ed0367f7ece77e51c7e7206c88ee5f0a49251", func := "privatefetch/privatefetchlaw03.FieldPowers", spec := "fieldPowers", unfollowed := true, recurses := true, apart := false, narrowed := true }
def FieldPowersUptoSaid : Prop := fieldPowersUptoRow.holds Try.pinned (OpenSpec.upto fieldPowersSpec)

/-- 'privatefetchlaw03.FieldLaws', WHERE WHAT IT READS IS OF BULK AT MOST 1048576: true; the input reads as it did. -/
def fieldLawsUptoRow : OpenClaim := { program := "ytihhncejiahdcac", sum := "faeb710dd9f974150506cd421b6ed0367f7ece77e51c7e7206c88ee5f0a49251", func := "privatefetch/privatefetchlaw03.FieldLaws", spec := "fieldLaws", unfollowed := true, recurses := true, apart := false, narrowed := true }
def FieldLawsUptoSaid : Prop := fieldLawsUptoRow.holds Try.pinned (OpenSpec.upto fieldLawsSpec)

/-- 'privatefetchlaw03.FieldDoes', WHERE WHAT IT READS IS OF BULK AT MOST 1048576: true; the input reads as it did. -/
def fieldDoesUptoRow : OpenClaim := { program := "ytihhncejiahdcac", sum := "faeb710dd9f974150506cd421b6ed0367f7ece77e51c7e7206c88ee5f0a49251", func := "privatefetch/privatefetchlaw03.FieldDoes", spec := "fieldDoes", unfollowed := true, recurses := true, apart := false, narrowed := true }
def FieldDoesUptoSaid : Prop := fieldDoesUptoRow.holds Try.pinned (OpenSpec.upto fieldDoesSpec)

/-- 'privatefetchlaw03.FieldReduces', WHERE WHAT IT READS IS OF BULK AT MOST 1048576: true; the input reads as it did. -/
def fieldReducesUptoRow : OpenClaim := { program := "ytihhncejiahdcac", sum := "faeb710dd9f974150506cd421b6ed0367f7ece77e51c7e7206c88ee5f0a49251", func := "privatefetch/privatefetchlaw03.FieldReduces", spec := "fieldReduces", unfollowed := true, recurses := true, apart := false, narrowed := true }
def FieldReducesUptoSaid : Prop := fieldReducesUptoRow.holds Try.pinned (OpenSpec.upto fieldReducesSpec)

end Rows
end Go.Proofs.Ytihhncejiahdcac
