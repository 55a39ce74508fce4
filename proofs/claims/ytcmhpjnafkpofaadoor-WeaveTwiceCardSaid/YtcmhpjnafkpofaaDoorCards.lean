/-
  DERIVED. GIVEN WITH THE SEED: THE CARDS: each row of YtcmhpjnafkpofaaDoorRows.lean that lists a variable, with what it lists TIED to the program's text (the seventh form; the later family's looks); each row that meets fmt, with fmt's text TOLD by the authors' own Lean function (tested against real Go, not proved from fmt's source: count such statements apart). THE CARD IS WHAT COUNTS. Prove the row's statement (the work); the ties are given (YtcmhpjnafkpofaaDoorTie.lean); close each card by the builder's one call (the guide's Derived/Test/ToyasCard.lean, 'card_holds'). Laid BY PROGRAM, IN A SANDBOX (cutbox-door.mjs). By AI agents, Wed Nov 11 2026. No macro, syntax, notation, axiom, sorry.
-/
import Derived.Test.YtcmhpjnafkpofaaDoorRows
import GoSem.ClaimSeven
namespace Go.Proofs.YtcmhpjnafkpofaaDoor
namespace Rows

/-- THE TIED CARD OF 'tipstafflaw8.FilesTell'. -/
def filesTellCard : Claim7 := { stood := { row := filesTellRow, standIns := [], harness := (true, "7a781bacf296a677135826131913912d249ffe1c4161fe8d91b42dec0a7421bf"), looks := false }, kinds := [], alts := [], laidByText := true, laidKinds := [.data, .pinned], laidTests := true, laidLooks := .later }
def FilesTellCardSaid : Prop := Claim7.holds Tryd.pinned (.plain (OpenSpec.ofChange filesTellSpec)) filesTellCard

/-- THE TIED CARD OF 'tipstafflaw8.FilesClean'. -/
def filesCleanCard : Claim7 := { stood := { row := filesCleanRow, standIns := [], harness := (true, "7a781bacf296a677135826131913912d249ffe1c4161fe8d91b42dec0a7421bf"), looks := false }, kinds := [], alts := [], laidByText := true, laidKinds := [.data, .pinned], laidTests := true, laidLooks := .later }
def FilesCleanCardSaid : Prop := Claim7.holds Tryd.pinned (.plain (OpenSpec.ofChange filesCleanSpec)) filesCleanCard

/-- THE TIED CARD OF 'tipstafflaw10.WeaveTells'. -/
def weaveTellsCard : Claim7 := { stood := { row := weaveTellsRow, standIns := [], harness := (true, "7a781bacf296a677135826131913912d249ffe1c4161fe8d91b42dec0a7421bf"), looks := false }, kinds := [], alts := [], laidByText := true, laidKinds := [.data, .pinned], laidTests := true, laidLooks := .later }
def WeaveTellsCardSaid : Prop := Claim7.holds Tryd.pinned (.plain (OpenSpec.ofChange weaveTellsSpec)) weaveTellsCard

/-- THE TIED CARD OF 'tipstafflaw10.WeaveInline'. -/
def weaveInlineCard : Claim7 := { stood := { row := weaveInlineRow, standIns := [], harness := (true, "7a781bacf296a677135826131913912d249ffe1c4161fe8d91b42dec0a7421bf"), looks := false }, kinds := [], alts := [], laidByText := true, laidKinds := [.data, .pinned], laidTests := true, laidLooks := .later }
def WeaveInlineCardSaid : Prop := Claim7.holds Tryd.pinned (.plain (OpenSpec.ofChange weaveInlineSpec)) weaveInlineCard

/-- THE TIED CARD OF 'tipstafflaw10.WeaveDeep'. -/
def weaveDeepCard : Claim7 := { stood := { row := weaveDeepRow, standIns := [], harness := (true, "7a781bacf296a677135826131913912d249ffe1c4161fe8d91b42dec0a7421bf"), looks := false }, kinds := [], alts := [], laidByText := true, laidKinds := [.data, .pinned], laidTests := true, laidLooks := .later }
def WeaveDeepCardSaid : Prop := Claim7.holds Tryd.pinned (.plain (OpenSpec.ofChange weaveDeepSpec)) weaveDeepCard

/-- THE TIED CARD OF 'tipstafflaw10.WeaveTwice'. -/
def weaveTwiceCard : Claim7 := { stood := { row := weaveTwiceRow, standIns := [], harness := (true, "7a781bacf296a677135826131913912d249ffe1c4161fe8d91b42dec0a7421bf"), looks := false }, kinds := [], alts := [], laidByText := true, laidKinds := [.data, .pinned], laidTests := true, laidLooks := .later }
def WeaveTwiceCardSaid : Prop := Claim7.holds Tryd.pinned (.plain (OpenSpec.ofChange weaveTwiceSpec)) weaveTwiceCard

/-- THE SECOND FORM's CARD OF 'tipstafflaw8.FilesTell'. -/
def filesTellUptoCard : Claim7 := { stood := { row := filesTellUptoRow, standIns := [], harness := (true, "7a781bacf296a677135826131913912d249ffe1c4161fe8d91b42dec0a7421bf"), looks := false }, kinds := [], alts := [], laidByText := true, laidKinds := [.data, .pinned], laidTests := true, laidLooks := .later }
def FilesTellUptoCardSaid : Prop := Claim7.holds Tryd.pinned (.plain (OpenSpec.upto filesTellSpec)) filesTellUptoCard

/-- THE SECOND FORM's CARD OF 'tipstafflaw8.FilesClean'. -/
def filesCleanUptoCard : Claim7 := { stood := { row := filesCleanUptoRow, standIns := [], harness := (true, "7a781bacf296a677135826131913912d249ffe1c4161fe8d91b42dec0a7421bf"), looks := false }, kinds := [], alts := [], laidByText := true, laidKinds := [.data, .pinned], laidTests := true, laidLooks := .later }
def FilesCleanUptoCardSaid : Prop := Claim7.holds Tryd.pinned (.plain (OpenSpec.upto filesCleanSpec)) filesCleanUptoCard

/-- THE SECOND FORM's CARD OF 'tipstafflaw10.WeaveTells'. -/
def weaveTellsUptoCard : Claim7 := { stood := { row := weaveTellsUptoRow, standIns := [], harness := (true, "7a781bacf296a677135826131913912d249ffe1c4161fe8d91b42dec0a7421bf"), looks := false }, kinds := [], alts := [], laidByText := true, laidKinds := [.data, .pinned], laidTests := true, laidLooks := .later }
def WeaveTellsUptoCardSaid : Prop := Claim7.holds Tryd.pinned (.plain (OpenSpec.upto weaveTellsSpec)) weaveTellsUptoCard

/-- THE SECOND FORM's CARD OF 'tipstafflaw10.WeaveInline'. -/
def weaveInlineUptoCard : Claim7 := { stood := { row := weaveInlineUptoRow, standIns := [], harness := (true, "7a781bacf296a677135826131913912d249ffe1c4161fe8d91b42dec0a7421bf"), looks := false }, kinds := [], alts := [], laidByText := true, laidKinds := [.data, .pinned], laidTests := true, laidLooks := .later }
def WeaveInlineUptoCardSaid : Prop := Claim7.holds Tryd.pinned (.plain (OpenSpec.upto weaveInlineSpec)) weaveInlineUptoCard

/-- THE SECOND FORM's CARD OF 'tipstafflaw10.WeaveDeep'. -/
def weaveDeepUptoCard : Claim7 := { stood := { row := weaveDeepUptoRow, standIns := [], harness := (true, "7a781bacf296a677135826131913912d249ffe1c4161fe8d91b42dec0a7421bf"), looks := false }, kinds := [], alts := [], laidByText := true, laidKinds := [.data, .pinned], laidTests := true, laidLooks := .later }
def WeaveDeepUptoCardSaid : Prop := Claim7.holds Tryd.pinned (.plain (OpenSpec.upto weaveDeepSpec)) weaveDeepUptoCard

/-- THE SECOND FORM's CARD OF 'tipstafflaw10.WeaveTwice'. -/
def weaveTwiceUptoCard : Claim7 := { stood := { row := weaveTwiceUptoRow, standIns := [], harness := (true, "7a781bacf296a677135826131913912d249ffe1c4161fe8d91b42dec0a7421bf"), looks := false }, kinds := [], alts := [], laidByText := true, laidKinds := [.data, .pinned], laidTests := true, laidLooks := .later }
def WeaveTwiceUptoCardSaid : Prop := Claim7.holds Tryd.pinned (.plain (OpenSpec.upto weaveTwiceSpec)) weaveTwiceUptoCard
end Rows
end Go.Proofs.YtcmhpjnafkpofaaDoor
