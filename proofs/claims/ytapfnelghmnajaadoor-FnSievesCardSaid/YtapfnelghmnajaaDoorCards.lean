/-
  DERIVED. GIVEN WITH THE SEED: THE CARDS: each row of YtapfnelghmnajaaDoorRows.lean that lists a variable, with what it lists TIED to the program's text (the seventh form; the later family's looks); each row that meets fmt, with fmt's text TOLD by the authors' own Lean function (tested against real Go, not proved from fmt's source: count such statements apart). THE CARD IS WHAT COUNTS. Prove the row's statement (the work); the ties are given (YtapfnelghmnajaaDoorTie.lean); close each card by the builder's one call (the guide's Derived/Test/ToyasCard.lean, 'card_holds'). Laid BY PROGRAM, IN A SANDBOX (cutbox-door.mjs). By AI agents, Wed Nov 11 2026. No macro, syntax, notation, axiom, sorry.
-/
import Derived.Test.YtapfnelghmnajaaDoorRows
import GoSem.ClaimSeven
namespace Go.Proofs.YtapfnelghmnajaaDoor
namespace Rows

/-- THE TIED CARD OF 'laws.FnExactSampleText'. -/
def fnExactSampleTextCard : Claim7 := { stood := { row := fnExactSampleTextRow, standIns := [], harness := (true, "a1f2d372cd60ee4ed2f9712207a1a8300d33bfdf77b99e0c71c33f53686fe58a"), looks := false }, kinds := [], alts := [], laidByText := true, laidKinds := [.data, .data, .data], laidTests := true, laidLooks := .later }
def FnExactSampleTextCardSaid : Prop := Claim7.holds Tryd.pinned (.plain (OpenSpec.ofChange fnExactSampleTextSpec)) fnExactSampleTextCard

/-- THE TIED CARD OF 'laws.FnSieves'. -/
def fnSievesCard : Claim7 := { stood := { row := fnSievesRow, standIns := [], harness := (true, "a1f2d372cd60ee4ed2f9712207a1a8300d33bfdf77b99e0c71c33f53686fe58a"), looks := false }, kinds := [], alts := [], laidByText := true, laidKinds := [.data, .data, .data], laidTests := true, laidLooks := .later }
def FnSievesCardSaid : Prop := Claim7.holds Tryd.pinned (.plain (OpenSpec.ofChange fnSievesSpec)) fnSievesCard

/-- THE SECOND FORM's CARD OF 'laws.FnExactSampleText'. -/
def fnExactSampleTextUptoCard : Claim7 := { stood := { row := fnExactSampleTextUptoRow, standIns := [], harness := (true, "a1f2d372cd60ee4ed2f9712207a1a8300d33bfdf77b99e0c71c33f53686fe58a"), looks := false }, kinds := [], alts := [], laidByText := true, laidKinds := [.data, .data, .data], laidTests := true, laidLooks := .later }
def FnExactSampleTextUptoCardSaid : Prop := Claim7.holds Tryd.pinned (.plain (OpenSpec.upto fnExactSampleTextSpec)) fnExactSampleTextUptoCard

/-- THE SECOND FORM's CARD OF 'laws.FnSieves'. -/
def fnSievesUptoCard : Claim7 := { stood := { row := fnSievesUptoRow, standIns := [], harness := (true, "a1f2d372cd60ee4ed2f9712207a1a8300d33bfdf77b99e0c71c33f53686fe58a"), looks := false }, kinds := [], alts := [], laidByText := true, laidKinds := [.data, .data, .data], laidTests := true, laidLooks := .later }
def FnSievesUptoCardSaid : Prop := Claim7.holds Tryd.pinned (.plain (OpenSpec.upto fnSievesSpec)) fnSievesUptoCard
end Rows
end Go.Proofs.YtapfnelghmnajaaDoor
