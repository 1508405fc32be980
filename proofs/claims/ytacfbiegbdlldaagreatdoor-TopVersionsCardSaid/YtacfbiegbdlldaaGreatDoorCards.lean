/-
  DERIVED. GIVEN WITH THE SEED: THE CARDS: each row of YtacfbiegbdlldaaGreatDoorRows.lean that lists a variable, with what it lists TIED to the program's text (the seventh form; the later family's looks); each row that meets fmt, with fmt's text TOLD by the authors' own Lean function (tested against real Go, not proved from fmt's source: count such statements apart). THE CARD IS WHAT COUNTS. Prove the row's statement (the work); the ties are given (YtacfbiegbdlldaaGreatDoorTie.lean); close each card by the builder's one call (the guide's Derived/Test/ToyasCard.lean, 'card_holds'). Laid BY PROGRAM, IN A SANDBOX (cutbox-door.mjs). By AI agents, Wed Nov 11 2026. No macro, syntax, notation, axiom, sorry.
-/
import Derived.Test.YtacfbiegbdlldaaGreatDoorRows
import GoSem.ClaimSeven
namespace Go.Proofs.YtacfbiegbdlldaaGreatDoor
namespace Rows

/-- THE TIED CARD OF 'privatefetchtop.TopEvidence'. -/
def topEvidenceCard : Claim7 := { stood := { row := topEvidenceRow, standIns := [], harness := (true, "15dfa692e9426b0aa5bdef39c90a0ee2858f2d59fbfe68d71dad597361af60ff"), looks := true }, kinds := [], alts := [], laidByText := true, laidKinds := [.wider], laidTests := true, laidLooks := .later }
def TopEvidenceCardSaid : Prop := Claim7.holds Tryz.pinned (.plain (OpenSpec.ofChange topEvidenceSpec)) topEvidenceCard

/-- THE TIED CARD OF 'privatefetchtop.TopVersions'. -/
def topVersionsCard : Claim7 := { stood := { row := topVersionsRow, standIns := [], harness := (true, "15dfa692e9426b0aa5bdef39c90a0ee2858f2d59fbfe68d71dad597361af60ff"), looks := true }, kinds := [], alts := [], laidByText := true, laidKinds := [.wider], laidTests := true, laidLooks := .later }
def TopVersionsCardSaid : Prop := Claim7.holds Tryz.pinned (.plain (OpenSpec.ofChange topVersionsSpec)) topVersionsCard

/-- THE SECOND FORM's CARD OF 'privatefetchtop.TopEvidence'. -/
def topEvidenceUptoCard : Claim7 := { stood := { row := topEvidenceUptoRow, standIns := [], harness := (true, "15dfa692e9426b0aa5bdef39c90a0ee2858f2d59fbfe68d71dad597361af60ff"), looks := true }, kinds := [], alts := [], laidByText := true, laidKinds := [.wider], laidTests := true, laidLooks := .later }
def TopEvidenceUptoCardSaid : Prop := Claim7.holds Tryz.pinned (.plain (OpenSpec.upto topEvidenceSpec)) topEvidenceUptoCard

/-- THE SECOND FORM's CARD OF 'privatefetchtop.TopVersions'. -/
def topVersionsUptoCard : Claim7 := { stood := { row := topVersionsUptoRow, standIns := [], harness := (true, "15dfa692e9426b0aa5bdef39c90a0ee2858f2d59fbfe68d71dad597361af60ff"), looks := true }, kinds := [], alts := [], laidByText := true, laidKinds := [.wider], laidTests := true, laidLooks := .later }
def TopVersionsUptoCardSaid : Prop := Claim7.holds Tryz.pinned (.plain (OpenSpec.upto topVersionsSpec)) topVersionsUptoCard
end Rows
end Go.Proofs.YtacfbiegbdlldaaGreatDoor
