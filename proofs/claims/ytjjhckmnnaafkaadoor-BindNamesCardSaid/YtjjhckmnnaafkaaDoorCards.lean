/-
  DERIVED. GIVEN WITH THE SEED: THE CARDS: each row of YtjjhckmnnaafkaaDoorRows.lean that lists a variable, with what it lists TIED to the program's text (the seventh form; the later family's looks); each row that meets fmt, with fmt's text TOLD by the authors' own Lean function (tested against real Go, not proved from fmt's source: count such statements apart). THE CARD IS WHAT COUNTS. Prove the row's statement (the work); the ties are given (YtjjhckmnnaafkaaDoorTie.lean); close each card by the builder's one call (the guide's Derived/Test/ToyasCard.lean, 'card_holds'). Laid BY PROGRAM, IN A SANDBOX (cutbox-door.mjs). By AI agents, Wed Nov 11 2026. No macro, syntax, notation, axiom, sorry.
-/
import Derived.Test.YtjjhckmnnaafkaaDoorRows
import GoSem.ClaimSeven
namespace Go.Proofs.YtjjhckmnnaafkaaDoor
namespace Rows

/-- THE TIED CARD OF 'tipstafflaw16.BindNames'. -/
def bindNamesCard : Claim7 := { stood := { row := bindNamesRow, standIns := [], harness := (true, "821c0b2216257cd42171242f21e6ea1f277b245569fac1461c7a8013129b7b58"), looks := true }, kinds := [], alts := [], laidByText := true, laidKinds := [.listed, .data], laidTests := true, laidLooks := .later }
def BindNamesCardSaid : Prop := Claim7.holds Tryd.pinned (.plain (OpenSpec.ofChange bindNamesSpec)) bindNamesCard

/-- THE SECOND FORM's CARD OF 'tipstafflaw16.BindNames'. -/
def bindNamesUptoCard : Claim7 := { stood := { row := bindNamesUptoRow, standIns := [], harness := (true, "821c0b2216257cd42171242f21e6ea1f277b245569fac1461c7a8013129b7b58"), looks := true }, kinds := [], alts := [], laidByText := true, laidKinds := [.listed, .data], laidTests := true, laidLooks := .later }
def BindNamesUptoCardSaid : Prop := Claim7.holds Tryd.pinned (.plain (OpenSpec.upto bindNamesSpec)) bindNamesUptoCard
end Rows
end Go.Proofs.YtjjhckmnnaafkaaDoor
