/-
  DERIVED. GIVEN WITH THE SEED: THE CARDS: each row of YtgcacmjgimhemaaDoorRows.lean that lists a variable, with what it lists TIED to the program's text (the seventh form; the later family's looks); each row that meets fmt, with fmt's text TOLD by the authors' own Lean function (tested against real Go, not proved from fmt's source: count such statements apart). THE CARD IS WHAT COUNTS. Prove the row's statement (the work); the ties are given (YtgcacmjgimhemaaDoorTie.lean); close each card by the builder's one call (the guide's Derived/Test/ToyasCard.lean, 'card_holds'). Laid BY PROGRAM, IN A SANDBOX (cutbox-door.mjs). By AI agents, Wed Nov 11 2026. No macro, syntax, notation, axiom, sorry.
-/
import Derived.Test.YtgcacmjgimhemaaDoorRows
import GoSem.ClaimSeven
namespace Go.Proofs.YtgcacmjgimhemaaDoor
namespace Rows

/-- THE TIED CARD OF 'tipstafflaw7.CallsAll'. -/
def callsAllCard : Claim7 := { stood := { row := callsAllRow, standIns := [], harness := (true, "4efef2cb0fe491cbf94cd491bc42d95ea661ccbb5b667cc17e84bd1c2328858c"), looks := false }, kinds := [], alts := [], laidByText := true, laidKinds := [.listed, .data], laidTests := true, laidLooks := .later }
def CallsAllCardSaid : Prop := Claim7.holds Tryd.pinned (.plain (OpenSpec.ofChange callsAllSpec)) callsAllCard

/-- THE TIED CARD OF 'tipstafflaw7.CallsTell'. -/
def callsTellCard : Claim7 := { stood := { row := callsTellRow, standIns := [], harness := (true, "4efef2cb0fe491cbf94cd491bc42d95ea661ccbb5b667cc17e84bd1c2328858c"), looks := false }, kinds := [], alts := [], laidByText := true, laidKinds := [.listed, .data], laidTests := true, laidLooks := .later }
def CallsTellCardSaid : Prop := Claim7.holds Tryd.pinned (.plain (OpenSpec.ofChange callsTellSpec)) callsTellCard

/-- THE TIED CARD OF 'tipstafflaw7.CallsValues'. -/
def callsValuesCard : Claim7 := { stood := { row := callsValuesRow, standIns := [], harness := (true, "4efef2cb0fe491cbf94cd491bc42d95ea661ccbb5b667cc17e84bd1c2328858c"), looks := false }, kinds := [], alts := [], laidByText := true, laidKinds := [.listed, .data], laidTests := true, laidLooks := .later }
def CallsValuesCardSaid : Prop := Claim7.holds Tryd.pinned (.plain (OpenSpec.ofChange callsValuesSpec)) callsValuesCard

/-- THE TIED CARD OF 'tipstafflaw8.FilesTell'. -/
def filesTellCard : Claim7 := { stood := { row := filesTellRow, standIns := [], harness := (true, "4efef2cb0fe491cbf94cd491bc42d95ea661ccbb5b667cc17e84bd1c2328858c"), looks := false }, kinds := [], alts := [], laidByText := true, laidKinds := [.data, .pinned], laidTests := true, laidLooks := .later }
def FilesTellCardSaid : Prop := Claim7.holds Tryd.pinned (.plain (OpenSpec.ofChange filesTellSpec)) filesTellCard

/-- THE TIED CARD OF 'tipstafflaw8.FilesClean'. -/
def filesCleanCard : Claim7 := { stood := { row := filesCleanRow, standIns := [], harness := (true, "4efef2cb0fe491cbf94cd491bc42d95ea661ccbb5b667cc17e84bd1c2328858c"), looks := false }, kinds := [], alts := [], laidByText := true, laidKinds := [.data, .pinned], laidTests := true, laidLooks := .later }
def FilesCleanCardSaid : Prop := Claim7.holds Tryd.pinned (.plain (OpenSpec.ofChange filesCleanSpec)) filesCleanCard

/-- THE TIED CARD OF 'tipstafflaw10.WeaveDeep'. -/
def weaveDeepCard : Claim7 := { stood := { row := weaveDeepRow, standIns := [], harness := (true, "4efef2cb0fe491cbf94cd491bc42d95ea661ccbb5b667cc17e84bd1c2328858c"), looks := false }, kinds := [], alts := [], laidByText := true, laidKinds := [.data, .pinned], laidTests := true, laidLooks := .later }
def WeaveDeepCardSaid : Prop := Claim7.holds Tryd.pinned (.plain (OpenSpec.ofChange weaveDeepSpec)) weaveDeepCard

/-- THE SECOND FORM's CARD OF 'tipstafflaw7.CallsAll'. -/
def callsAllUptoCard : Claim7 := { stood := { row := callsAllUptoRow, standIns := [], harness := (true, "4efef2cb0fe491cbf94cd491bc42d95ea661ccbb5b667cc17e84bd1c2328858c"), looks := false }, kinds := [], alts := [], laidByText := true, laidKinds := [.listed, .data], laidTests := true, laidLooks := .later }
def CallsAllUptoCardSaid : Prop := Claim7.holds Tryd.pinned (.plain (OpenSpec.upto callsAllSpec)) callsAllUptoCard

/-- THE SECOND FORM's CARD OF 'tipstafflaw7.CallsTell'. -/
def callsTellUptoCard : Claim7 := { stood := { row := callsTellUptoRow, standIns := [], harness := (true, "4efef2cb0fe491cbf94cd491bc42d95ea661ccbb5b667cc17e84bd1c2328858c"), looks := false }, kinds := [], alts := [], laidByText := true, laidKinds := [.listed, .data], laidTests := true, laidLooks := .later }
def CallsTellUptoCardSaid : Prop := Claim7.holds Tryd.pinned (.plain (OpenSpec.upto callsTellSpec)) callsTellUptoCard

/-- THE SECOND FORM's CARD OF 'tipstafflaw7.CallsValues'. -/
def callsValuesUptoCard : Claim7 := { stood := { row := callsValuesUptoRow, standIns := [], harness := (true, "4efef2cb0fe491cbf94cd491bc42d95ea661ccbb5b667cc17e84bd1c2328858c"), looks := false }, kinds := [], alts := [], laidByText := true, laidKinds := [.listed, .data], laidTests := true, laidLooks := .later }
def CallsValuesUptoCardSaid : Prop := Claim7.holds Tryd.pinned (.plain (OpenSpec.upto callsValuesSpec)) callsValuesUptoCard

/-- THE SECOND FORM's CARD OF 'tipstafflaw8.FilesTell'. -/
def filesTellUptoCard : Claim7 := { stood := { row := filesTellUptoRow, standIns := [], harness := (true, "4efef2cb0fe491cbf94cd491bc42d95ea661ccbb5b667cc17e84bd1c2328858c"), looks := false }, kinds := [], alts := [], laidByText := true, laidKinds := [.data, .pinned], laidTests := true, laidLooks := .later }
def FilesTellUptoCardSaid : Prop := Claim7.holds Tryd.pinned (.plain (OpenSpec.upto filesTellSpec)) filesTellUptoCard

/-- THE SECOND FORM's CARD OF 'tipstafflaw8.FilesClean'. -/
def filesCleanUptoCard : Claim7 := { stood := { row := filesCleanUptoRow, standIns := [], harness := (true, "4efef2cb0fe491cbf94cd491bc42d95ea661ccbb5b667cc17e84bd1c2328858c"), looks := false }, kinds := [], alts := [], laidByText := true, laidKinds := [.data, .pinned], laidTests := true, laidLooks := .later }
def FilesCleanUptoCardSaid : Prop := Claim7.holds Tryd.pinned (.plain (OpenSpec.upto filesCleanSpec)) filesCleanUptoCard

/-- THE SECOND FORM's CARD OF 'tipstafflaw10.WeaveDeep'. -/
def weaveDeepUptoCard : Claim7 := { stood := { row := weaveDeepUptoRow, standIns := [], harness := (true, "4efef2cb0fe491cbf94cd491bc42d95ea661ccbb5b667cc17e84bd1c2328858c"), looks := false }, kinds := [], alts := [], laidByText := true, laidKinds := [.data, .pinned], laidTests := true, laidLooks := .later }
def WeaveDeepUptoCardSaid : Prop := Claim7.holds Tryd.pinned (.plain (OpenSpec.upto weaveDeepSpec)) weaveDeepUptoCard
end Rows
end Go.Proofs.YtgcacmjgimhemaaDoor
