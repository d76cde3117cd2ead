/-
  DERIVED. GIVEN WITH THE SEED: THE CARDS: each row of YtjpoaiiminofdaaDoorRows.lean that lists a variable, with what it lists TIED to the program's text (the seventh form; the later family's looks); each row that meets fmt, with fmt's text TOLD by the authors' own Lean function (tested against real Go, not proved from fmt's source: count such statements apart). THE CARD IS WHAT COUNTS. Prove the row's statement (the work); the ties are given (YtjpoaiiminofdaaDoorTie.lean); close each card by the builder's one call (the guide's Derived/Test/ToyasCard.lean, 'card_holds'). Laid BY PROGRAM, IN A SANDBOX (cutbox-door.mjs). By AI agents, Wed Nov 11 2026. No macro, syntax, notation, axiom, sorry.
-/
import Derived.Test.YtjpoaiiminofdaaDoorRows
import GoSem.ClaimSeven
namespace Go.Proofs.YtjpoaiiminofdaaDoor
namespace Rows

/-- THE TIED CARD OF 'laws.FnExactBitternText'. -/
def fnExactBitternTextCard : Claim7 := { stood := { row := fnExactBitternTextRow, standIns := [], harness := (true, "17072b97069c14443f5c4754d12662eb612d55d0317cd466fd8468f00221b215"), looks := false }, kinds := [], alts := [], laidByText := true, laidKinds := [.data, .data, .data], laidTests := true, laidLooks := .later }
def FnExactBitternTextCardSaid : Prop := Claim7.holds Tryd.pinned (.plain (OpenSpec.ofChange fnExactBitternTextSpec)) fnExactBitternTextCard

/-- THE SECOND FORM's CARD OF 'laws.FnExactBitternText'. -/
def fnExactBitternTextUptoCard : Claim7 := { stood := { row := fnExactBitternTextUptoRow, standIns := [], harness := (true, "17072b97069c14443f5c4754d12662eb612d55d0317cd466fd8468f00221b215"), looks := false }, kinds := [], alts := [], laidByText := true, laidKinds := [.data, .data, .data], laidTests := true, laidLooks := .later }
def FnExactBitternTextUptoCardSaid : Prop := Claim7.holds Tryd.pinned (.plain (OpenSpec.upto fnExactBitternTextSpec)) fnExactBitternTextUptoCard
end Rows
end Go.Proofs.YtjpoaiiminofdaaDoor
