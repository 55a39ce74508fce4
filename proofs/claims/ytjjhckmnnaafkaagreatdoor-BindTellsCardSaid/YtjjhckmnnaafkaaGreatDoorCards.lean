/-
  DERIVED. GIVEN WITH THE SEED: THE CARDS: each row of YtjjhckmnnaafkaaGreatDoorRows.lean that lists a variable, with what it lists TIED to the program's text (the seventh form; the later family's looks); each row that meets fmt, with fmt's text TOLD by the authors' own Lean function (tested against real Go, not proved from fmt's source: count such statements apart). THE CARD IS WHAT COUNTS. Prove the row's statement (the work); the ties are given (YtjjhckmnnaafkaaGreatDoorTie.lean); close each card by the builder's one call (the guide's Derived/Test/ToyasCard.lean, 'card_holds'). Laid BY PROGRAM, IN A SANDBOX (cutbox-door.mjs). By AI agents, Wed Nov 11 2026. No macro, syntax, notation, axiom, sorry.
-/
import Derived.Test.YtjjhckmnnaafkaaGreatDoorRows
import GoSem.ClaimSeven
namespace Go.Proofs.YtjjhckmnnaafkaaGreatDoor
namespace Rows

/-- THE TIED CARD OF 'tipstafflaw16.BindTells'. -/
def bindTellsCard : Claim7 := { stood := { row := bindTellsRow, standIns := [], harness := (true, "51ec2346d58cbcc272f8d78104a87b7e34ae6c7f9a2bf9a67c7fa26d61557d50"), looks := true }, kinds := [], alts := [], laidByText := true, laidKinds := [.listed, .data], laidTests := true, laidLooks := .later }
def BindTellsCardSaid : Prop := Claim7.holds Tryz.pinned (.plain (OpenSpec.ofChange bindTellsSpec)) bindTellsCard

/-- THE SECOND FORM's CARD OF 'tipstafflaw16.BindTells'. -/
def bindTellsUptoCard : Claim7 := { stood := { row := bindTellsUptoRow, standIns := [], harness := (true, "51ec2346d58cbcc272f8d78104a87b7e34ae6c7f9a2bf9a67c7fa26d61557d50"), looks := true }, kinds := [], alts := [], laidByText := true, laidKinds := [.listed, .data], laidTests := true, laidLooks := .later }
def BindTellsUptoCardSaid : Prop := Claim7.holds Tryz.pinned (.plain (OpenSpec.upto bindTellsSpec)) bindTellsUptoCard
end Rows
end Go.Proofs.YtjjhckmnnaafkaaGreatDoor
