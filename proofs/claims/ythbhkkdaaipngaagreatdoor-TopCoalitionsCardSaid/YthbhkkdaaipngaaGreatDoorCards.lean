/-
  DERIVED. GIVEN WITH THE SEED: THE CARDS: each row of YthbhkkdaaipngaaGreatDoorRows.lean that lists a variable, with what it lists TIED to the program's text (the seventh form; the later family's looks); each row that meets fmt, with fmt's text TOLD by the authors' own Lean function (tested against real Go, not proved from fmt's source: count such statements apart). THE CARD IS WHAT COUNTS. Prove the row's statement (the work); the ties are given (YthbhkkdaaipngaaGreatDoorTie.lean); close each card by the builder's one call (the guide's Derived/Test/ToyasCard.lean, 'card_holds'). Laid BY PROGRAM, IN A SANDBOX (cutbox-door.mjs). By AI agents, Wed Nov 11 2026. No macro, syntax, notation, axiom, sorry.
-/
import Derived.Test.YthbhkkdaaipngaaGreatDoorRows
import GoSem.ClaimSeven
namespace Go.Proofs.YthbhkkdaaipngaaGreatDoor
namespace Rows

/-- THE TIED CARD OF 'privatefetchtop.TopSequences'. -/
def topSequencesCard : Claim7 := { stood := { row := topSequencesRow, standIns := [], harness := (true, "088f7c1eb232f65ffe6555484fd1dd0f8d0da0418b61cd7c84d5bb369eeeface"), looks := true }, kinds := [], alts := [], laidByText := true, laidKinds := [.wider], laidTests := true, laidLooks := .later }
def TopSequencesCardSaid : Prop := Claim7.holds Tryz.pinned (.plain (OpenSpec.ofChange topSequencesSpec)) topSequencesCard

/-- THE TIED CARD OF 'privatefetchtop.TopCoalitions'. -/
def topCoalitionsCard : Claim7 := { stood := { row := topCoalitionsRow, standIns := [], harness := (true, "088f7c1eb232f65ffe6555484fd1dd0f8d0da0418b61cd7c84d5bb369eeeface"), looks := true }, kinds := [], alts := [], laidByText := true, laidKinds := [.wider], laidTests := true, laidLooks := .later }
def TopCoalitionsCardSaid : Prop := Claim7.holds Tryz.pinned (.plain (OpenSpec.ofChange topCoalitionsSpec)) topCoalitionsCard

/-- THE SECOND FORM's CARD OF 'privatefetchtop.TopSequences'. -/
def topSequencesUptoCard : Claim7 := { stood := { row := topSequencesUptoRow, standIns := [], harness := (true, "088f7c1eb232f65ffe6555484fd1dd0f8d0da0418b61cd7c84d5bb369eeeface"), looks := true }, kinds := [], alts := [], laidByText := true, laidKinds := [.wider], laidTests := true, laidLooks := .later }
def TopSequencesUptoCardSaid : Prop := Claim7.holds Tryz.pinned (.plain (OpenSpec.upto topSequencesSpec)) topSequencesUptoCard

/-- THE SECOND FORM's CARD OF 'privatefetchtop.TopCoalitions'. -/
def topCoalitionsUptoCard : Claim7 := { stood := { row := topCoalitionsUptoRow, standIns := [], harness := (true, "088f7c1eb232f65ffe6555484fd1dd0f8d0da0418b61cd7c84d5bb369eeeface"), looks := true }, kinds := [], alts := [], laidByText := true, laidKinds := [.wider], laidTests := true, laidLooks := .later }
def TopCoalitionsUptoCardSaid : Prop := Claim7.holds Tryz.pinned (.plain (OpenSpec.upto topCoalitionsSpec)) topCoalitionsUptoCard
end Rows
end Go.Proofs.YthbhkkdaaipngaaGreatDoor
