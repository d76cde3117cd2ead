/-
  No cell of these rows narrows 'for every input' (looked for: loops, veiled, ifaces, maps, wideKeys, modest, calm, conditions, laid).
  DERIVED. THE GIVEN ROWS OF THIS SEAT. 11 by the template 'for every input the law returns true; each argument reads behind the call as it read before'; 0 by the template 'total and deterministic' (their statements: YtapfnelghmnajaaTotals.lean).
  GIVEN WITH THE SEED: the statements are not yours to turn. If you find one false, say at which input.
  Laid BY PROGRAM, IN A SANDBOX (cutbox-rows.mjs): the forced cells as the released guide's own fill.sh prints them over the translation 9403465824ee4d97… (all of the seat's roots in one cut). By AI agents, Wed Nov 11 2026. No macro, syntax, notation, axiom, sorry.
-/
import Derived.Test.YtapfnelghmnajaaChecked
import GoSem.Claim
import GoSem.ClaimJoined
import GoSem.ClaimMapViews
import Derived.JoinedTies
import Derived.KernelRfl
namespace Go.Proofs.Ytapfnelghmnajaa
/- THE CELL 'sum', in the pinned program and in every row, IS THE sha256 OF THE DUMP (.gsa) THAT YtapfnelghmnajaaProg.lean LOADS. Nothing in Lean hashes anything: it is a label: what it is worth is what the hold of that sum in a sandbox is worth. -/
noncomputable def Try.pinned : Pinned := { name := "ytapfnelghmnajaa", sum := "9403465824ee4d97f49200cc2a5bfd23863ca52c0fc07631ca9b6a4d53acf349", checked := Try.checked }
namespace Rows
def none {H : Type} : Left H := { results := [], args := [] }

/-- 'laws.FnExactIsSet': WHATEVER THE INPUT: true; the input reads as it did. -/
def fnExactIsSetSpec : ChangeSpec := { name := "fnExactIsSet", fn := fun _ => fun
  | [d] => { results := [.lit (.bool true)], args := [d] }
  | _ => none }
def fnExactIsSetRow : OpenClaim := { program := "ytapfnelghmnajaa", sum := "9403465824ee4d97f49200cc2a5bfd23863ca52c0fc07631ca9b6a4d53acf349", func := "loop.example/g01019/laws.FnExactIsSet", spec := "fnExactIsSet", apart := false }
def FnExactIsSetSaid : Prop := fnExactIsSetRow.holds Try.pinned (OpenSpec.ofChange fnExactIsSetSpec)

/-- ITS FALSE NEIGHBOUR: 'it returns false'. Refute it at one input. -/
def fnExactIsSetWrong : ChangeSpec := { name := "fnExactIsSet", fn := fun _ => fun
  | [d] => { results := [.lit (.bool false)], args := [d] }
  | _ => none }
def FnExactIsSetWrongFalsely : Prop := fnExactIsSetRow.holds Try.pinned (OpenSpec.ofChange fnExactIsSetWrong)

/-- 'laws.FnExactIsSample': WHATEVER THE INPUT: true; the input reads as it did. -/
def fnExactIsSampleSpec : ChangeSpec := { name := "fnExactIsSample", fn := fun _ => fun
  | [d] => { results := [.lit (.bool true)], args := [d] }
  | _ => none }
def fnExactIsSampleRow : OpenClaim := { program := "ytapfnelghmnajaa", sum := "9403465824ee4d97f49200cc2a5bfd23863ca52c0fc07631ca9b6a4d53acf349", func := "loop.example/g01019/laws.FnExactIsSample", spec := "fnExactIsSample", apart := false }
def FnExactIsSampleSaid : Prop := fnExactIsSampleRow.holds Try.pinned (OpenSpec.ofChange fnExactIsSampleSpec)

/-- ITS FALSE NEIGHBOUR: 'it returns false'. Refute it at one input. -/
def fnExactIsSampleWrong : ChangeSpec := { name := "fnExactIsSample", fn := fun _ => fun
  | [d] => { results := [.lit (.bool false)], args := [d] }
  | _ => none }
def FnExactIsSampleWrongFalsely : Prop := fnExactIsSampleRow.holds Try.pinned (OpenSpec.ofChange fnExactIsSampleWrong)

/-- 'laws.FnExactMedianSize': WHATEVER THE INPUT: true; the input reads as it did. -/
def fnExactMedianSizeSpec : ChangeSpec := { name := "fnExactMedianSize", fn := fun _ => fun
  | [d] => { results := [.lit (.bool true)], args := [d] }
  | _ => none }
def fnExactMedianSizeRow : OpenClaim := { program := "ytapfnelghmnajaa", sum := "9403465824ee4d97f49200cc2a5bfd23863ca52c0fc07631ca9b6a4d53acf349", func := "loop.example/g01019/laws.FnExactMedianSize", spec := "fnExactMedianSize", apart := false }
def FnExactMedianSizeSaid : Prop := fnExactMedianSizeRow.holds Try.pinned (OpenSpec.ofChange fnExactMedianSizeSpec)

/-- ITS FALSE NEIGHBOUR: 'it returns false'. Refute it at one input. -/
def fnExactMedianSizeWrong : ChangeSpec := { name := "fnExactMedianSize", fn := fun _ => fun
  | [d] => { results := [.lit (.bool false)], args := [d] }
  | _ => none }
def FnExactMedianSizeWrongFalsely : Prop := fnExactMedianSizeRow.holds Try.pinned (OpenSpec.ofChange fnExactMedianSizeWrong)

/-- 'laws.FnExactSieveFor': WHATEVER THE INPUT: true; the input reads as it did. -/
def fnExactSieveForSpec : ChangeSpec := { name := "fnExactSieveFor", fn := fun _ => fun
  | [d1, d2] => { results := [.lit (.bool true)], args := [d1, d2] }
  | _ => none }
def fnExactSieveForRow : OpenClaim := { program := "ytapfnelghmnajaa", sum := "9403465824ee4d97f49200cc2a5bfd23863ca52c0fc07631ca9b6a4d53acf349", func := "loop.example/g01019/laws.FnExactSieveFor", spec := "fnExactSieveFor", apart := false }
def FnExactSieveForSaid : Prop := fnExactSieveForRow.holds Try.pinned (OpenSpec.ofChange fnExactSieveForSpec)

/-- ITS FALSE NEIGHBOUR: 'it returns false'. Refute it at one input. -/
def fnExactSieveForWrong : ChangeSpec := { name := "fnExactSieveFor", fn := fun _ => fun
  | [d1, d2] => { results := [.lit (.bool false)], args := [d1, d2] }
  | _ => none }
def FnExactSieveForWrongFalsely : Prop := fnExactSieveForRow.holds Try.pinned (OpenSpec.ofChange fnExactSieveForWrong)

/-- 'laws.FnExactFractions': WHATEVER THE INPUT: true; the input reads as it did. -/
def fnExactFractionsSpec : ChangeSpec := { name := "fnExactFractions", fn := fun _ => fun
  | [d1, d2] => { results := [.lit (.bool true)], args := [d1, d2] }
  | _ => none }
def fnExactFractionsRow : OpenClaim := { program := "ytapfnelghmnajaa", sum := "9403465824ee4d97f49200cc2a5bfd23863ca52c0fc07631ca9b6a4d53acf349", func := "loop.example/g01019/laws.FnExactFractions", spec := "fnExactFractions", apart := false }
def FnExactFractionsSaid : Prop := fnExactFractionsRow.holds Try.pinned (OpenSpec.ofChange fnExactFractionsSpec)

/-- ITS FALSE NEIGHBOUR: 'it returns false'. Refute it at one input. -/
def fnExactFractionsWrong : ChangeSpec := { name := "fnExactFractions", fn := fun _ => fun
  | [d1, d2] => { results := [.lit (.bool false)], args := [d1, d2] }
  | _ => none }
def FnExactFractionsWrongFalsely : Prop := fnExactFractionsRow.holds Try.pinned (OpenSpec.ofChange fnExactFractionsWrong)

/-- 'laws.FnExactGradeOf': WHATEVER THE INPUT: true; the input reads as it did. -/
def fnExactGradeOfSpec : ChangeSpec := { name := "fnExactGradeOf", fn := fun _ => fun
  | [d1, d2] => { results := [.lit (.bool true)], args := [d1, d2] }
  | _ => none }
def fnExactGradeOfRow : OpenClaim := { program := "ytapfnelghmnajaa", sum := "9403465824ee4d97f49200cc2a5bfd23863ca52c0fc07631ca9b6a4d53acf349", func := "loop.example/g01019/laws.FnExactGradeOf", spec := "fnExactGradeOf", apart := false }
def FnExactGradeOfSaid : Prop := fnExactGradeOfRow.holds Try.pinned (OpenSpec.ofChange fnExactGradeOfSpec)

/-- ITS FALSE NEIGHBOUR: 'it returns false'. Refute it at one input. -/
def fnExactGradeOfWrong : ChangeSpec := { name := "fnExactGradeOf", fn := fun _ => fun
  | [d1, d2] => { results := [.lit (.bool false)], args := [d1, d2] }
  | _ => none }
def FnExactGradeOfWrongFalsely : Prop := fnExactGradeOfRow.holds Try.pinned (OpenSpec.ofChange fnExactGradeOfWrong)

/-- 'laws.FnExactWithoutSieve': WHATEVER THE INPUT: true; the input reads as it did. -/
def fnExactWithoutSieveSpec : ChangeSpec := { name := "fnExactWithoutSieve", fn := fun _ => fun
  | [d1, d2, d3] => { results := [.lit (.bool true)], args := [d1, d2, d3] }
  | _ => none }
def fnExactWithoutSieveRow : OpenClaim := { program := "ytapfnelghmnajaa", sum := "9403465824ee4d97f49200cc2a5bfd23863ca52c0fc07631ca9b6a4d53acf349", func := "loop.example/g01019/laws.FnExactWithoutSieve", spec := "fnExactWithoutSieve", apart := false }
def FnExactWithoutSieveSaid : Prop := fnExactWithoutSieveRow.holds Try.pinned (OpenSpec.ofChange fnExactWithoutSieveSpec)

/-- ITS FALSE NEIGHBOUR: 'it returns false'. Refute it at one input. -/
def fnExactWithoutSieveWrong : ChangeSpec := { name := "fnExactWithoutSieve", fn := fun _ => fun
  | [d1, d2, d3] => { results := [.lit (.bool false)], args := [d1, d2, d3] }
  | _ => none }
def FnExactWithoutSieveWrongFalsely : Prop := fnExactWithoutSieveRow.holds Try.pinned (OpenSpec.ofChange fnExactWithoutSieveWrong)

/-- 'laws.FnExactFewestSieves': WHATEVER THE INPUT: true; the input reads as it did. -/
def fnExactFewestSievesSpec : ChangeSpec := { name := "fnExactFewestSieves", fn := fun _ => fun
  | [d1, d2] => { results := [.lit (.bool true)], args := [d1, d2] }
  | _ => none }
def fnExactFewestSievesRow : OpenClaim := { program := "ytapfnelghmnajaa", sum := "9403465824ee4d97f49200cc2a5bfd23863ca52c0fc07631ca9b6a4d53acf349", func := "loop.example/g01019/laws.FnExactFewestSieves", spec := "fnExactFewestSieves", unfollowed := true, recurses := true, apart := false }
def FnExactFewestSievesSaid : Prop := fnExactFewestSievesRow.holds Try.pinned (OpenSpec.ofChange fnExactFewestSievesSpec)

/-- ITS FALSE NEIGHBOUR: 'it returns false'. Refute it at one input. -/
def fnExactFewestSievesWrong : ChangeSpec := { name := "fnExactFewestSieves", fn := fun _ => fun
  | [d1, d2] => { results := [.lit (.bool false)], args := [d1, d2] }
  | _ => none }
def FnExactFewestSievesWrongFalsely : Prop := fnExactFewestSievesRow.holds Try.pinned (OpenSpec.ofChange fnExactFewestSievesWrong)

/-- 'laws.FnExactBrokenGrains': WHATEVER THE INPUT: true; the input reads as it did. -/
def fnExactBrokenGrainsSpec : ChangeSpec := { name := "fnExactBrokenGrains", fn := fun _ => fun
  | [d1, d2] => { results := [.lit (.bool true)], args := [d1, d2] }
  | _ => none }
def fnExactBrokenGrainsRow : OpenClaim := { program := "ytapfnelghmnajaa", sum := "9403465824ee4d97f49200cc2a5bfd23863ca52c0fc07631ca9b6a4d53acf349", func := "loop.example/g01019/laws.FnExactBrokenGrains", spec := "fnExactBrokenGrains", recurses := true, apart := false }
def FnExactBrokenGrainsSaid : Prop := fnExactBrokenGrainsRow.holds Try.pinned (OpenSpec.ofChange fnExactBrokenGrainsSpec)

/-- ITS FALSE NEIGHBOUR: 'it returns false'. Refute it at one input. -/
def fnExactBrokenGrainsWrong : ChangeSpec := { name := "fnExactBrokenGrains", fn := fun _ => fun
  | [d1, d2] => { results := [.lit (.bool false)], args := [d1, d2] }
  | _ => none }
def FnExactBrokenGrainsWrongFalsely : Prop := fnExactBrokenGrainsRow.holds Try.pinned (OpenSpec.ofChange fnExactBrokenGrainsWrong)

/-- 'laws.FnExactJoinSamples': WHATEVER THE INPUT: true; the input reads as it did. -/
def fnExactJoinSamplesSpec : ChangeSpec := { name := "fnExactJoinSamples", fn := fun _ => fun
  | [d1, d2] => { results := [.lit (.bool true)], args := [d1, d2] }
  | _ => none }
def fnExactJoinSamplesRow : OpenClaim := { program := "ytapfnelghmnajaa", sum := "9403465824ee4d97f49200cc2a5bfd23863ca52c0fc07631ca9b6a4d53acf349", func := "loop.example/g01019/laws.FnExactJoinSamples", spec := "fnExactJoinSamples", recurses := true, apart := false }
def FnExactJoinSamplesSaid : Prop := fnExactJoinSamplesRow.holds Try.pinned (OpenSpec.ofChange fnExactJoinSamplesSpec)

/-- ITS FALSE NEIGHBOUR: 'it returns false'. Refute it at one input. -/
def fnExactJoinSamplesWrong : ChangeSpec := { name := "fnExactJoinSamples", fn := fun _ => fun
  | [d1, d2] => { results := [.lit (.bool false)], args := [d1, d2] }
  | _ => none }
def FnExactJoinSamplesWrongFalsely : Prop := fnExactJoinSamplesRow.holds Try.pinned (OpenSpec.ofChange fnExactJoinSamplesWrong)

/-- 'laws.FnGrains': WHATEVER THE INPUT: true; the input reads as it did. -/
def fnGrainsSpec : ChangeSpec := { name := "fnGrains", fn := fun _ => fun
  | [d] => { results := [.lit (.bool true)], args := [d] }
  | _ => none }
def fnGrainsRow : OpenClaim := { program := "ytapfnelghmnajaa", sum := "9403465824ee4d97f49200cc2a5bfd23863ca52c0fc07631ca9b6a4d53acf349", func := "loop.example/g01019/laws.FnGrains", spec := "fnGrains", recurses := true, apart := false }
def FnGrainsSaid : Prop := fnGrainsRow.holds Try.pinned (OpenSpec.ofChange fnGrainsSpec)

/-- ITS FALSE NEIGHBOUR: 'it returns false'. Refute it at one input. -/
def fnGrainsWrong : ChangeSpec := { name := "fnGrains", fn := fun _ => fun
  | [d] => { results := [.lit (.bool false)], args := [d] }
  | _ => none }
def FnGrainsWrongFalsely : Prop := fnGrainsRow.holds Try.pinned (OpenSpec.ofChange fnGrainsWrong)

/- THE SECOND FORM. 'bulk': how many values and letters a reading holds, each counted each time it is reached (what is shared counts as often as it is met; a slice's spare places count too). A statement '..UptoSaid' is the law's where the arguments, and the package variables that the reading takes, are together of bulk at most 1048576: NARROWER than '..Said'. Prove '..Said' where nothing that the law and all that it calls make is longer than what came in: it says more and counts as full. Else prove '..UptoSaid'. A law counts once. -/
mutual
def uptoBulk {H : Type} : DataW H → Nat
  | .lit (.string bytes) => bytes.length + 1
  | .lit _ => 1
  | .nil => 1
  | .ptr d => uptoBulk d + 1
  | .slice elems spare => uptoBulkAll elems + uptoBulkAll spare + 1
  | .agg parts => uptoBulkAll parts + 1
  | .iface _ d => uptoBulk d + 1
  | .map entries => uptoBulkEntries entries + 1
  | .held _ => 1
def uptoBulkAll {H : Type} : List (DataW H) → Nat
  | [] => 0
  | d :: r => uptoBulk d + uptoBulkAll r
def uptoBulkEntries {H : Type} : List (Lit × DataW H) → Nat
  | [] => 0
  | x :: r => uptoBulkEntry x + uptoBulkEntries r
def uptoBulkEntry {H : Type} : Lit × DataW H → Nat
  | (.string bytes, d) => bytes.length + uptoBulk d + 1
  | (_, d) => uptoBulk d + 1
 end
def uptoSmall : (H : Type) → List (DataW H) → Bool := fun _ ds => decide (uptoBulkAll ds ≤ 1048576)
def OpenSpec.upto (s : _root_.Go.ChangeSpec) : _root_.Go.OpenSpec := { _root_.Go.OpenSpec.ofChange s with cond := some uptoSmall }

/-- 'laws.FnExactIsSet', WHERE WHAT IT READS IS OF BULK AT MOST 1048576: true; the input reads as it did. -/
def fnExactIsSetUptoRow : OpenClaim := { program := "ytapfnelghmnajaa", sum := "9403465824ee4d97f49200cc2a5bfd23863ca52c0fc07631ca9b6a4d53acf349", func := "loop.example/g01019/laws.FnExactIsSet", spec := "fnExactIsSet", apart := false, narrowed := true }
def FnExactIsSetUptoSaid : Prop := fnExactIsSetUptoRow.holds Try.pinned (OpenSpec.upto fnExactIsSetSpec)

/-- 'laws.FnExactIsSample', WHERE WHAT IT READS IS OF BULK AT MOST 1048576: true; the input reads as it did. -/
def fnExactIsSampleUptoRow : OpenClaim := { program := "ytapfnelghmnajaa", sum := "9403465824ee4d97f49200cc2a5bfd23863ca52c0fc07631ca9b6a4d53acf349", func := "loop.example/g01019/laws.FnExactIsSample", spec := "fnExactIsSample", apart := false, narrowed := true }
def FnExactIsSampleUptoSaid : Prop := fnExactIsSampleUptoRow.holds Try.pinned (OpenSpec.upto fnExactIsSampleSpec)

/-- 'laws.FnExactMedianSize', WHERE WHAT IT READS IS OF BULK AT MOST 1048576: true; the input reads as it did. -/
def fnExactMedianSizeUptoRow : OpenClaim := { program := "ytapfnelghmnajaa", sum := "9403465824ee4d97f49200cc2a5bfd23863ca52c0fc07631ca9b6a4d53acf349", func := "loop.example/g01019/laws.FnExactMedianSize", spec := "fnExactMedianSize", apart := false, narrowed := true }
def FnExactMedianSizeUptoSaid : Prop := fnExactMedianSizeUptoRow.holds Try.pinned (OpenSpec.upto fnExactMedianSizeSpec)

/-- 'laws.FnExactSieveFor', WHERE WHAT IT READS IS OF BULK AT MOST 1048576: true; the input reads as it did. -/
def fnExactSieveForUptoRow : OpenClaim := { program := "ytapfnelghmnajaa", sum := "9403465824ee4d97f49200cc2a5bfd23863ca52c0fc07631ca9b6a4d53acf349", func := "loop.example/g01019/laws.FnExactSieveFor", spec := "fnExactSieveFor", apart := false, narrowed := true }
def FnExactSieveForUptoSaid : Prop := fnExactSieveForUptoRow.holds Try.pinned (OpenSpec.upto fnExactSieveForSpec)

/-- 'laws.FnExactFractions', WHERE WHAT IT READS IS OF BULK AT MOST 1048576: true; the input reads as it did. -/
def fnExactFractionsUptoRow : OpenClaim := { program := "ytapfnelghmnajaa", sum := "9403465824ee4d97f49200cc2a5bfd23863ca52c0fc07631ca9b6a4d53acf349", func := "loop.example/g01019/laws.FnExactFractions", spec := "fnExactFractions", apart := false, narrowed := true }
def FnExactFractionsUptoSaid : Prop := fnExactFractionsUptoRow.holds Try.pinned (OpenSpec.upto fnExactFractionsSpec)

/-- 'laws.FnExactGradeOf', WHERE WHAT IT READS IS OF BULK AT MOST 1048576: true; the input reads as it did. -/
def fnExactGradeOfUptoRow : OpenClaim := { program := "ytapfnelghmnajaa", sum := "9403465824ee4d97f49200cc2a5bfd23863ca52c0fc07631ca9b6a4d53acf349", func := "loop.example/g01019/laws.FnExactGradeOf", spec := "fnExactGradeOf", apart := false, narrowed := true }
def FnExactGradeOfUptoSaid : Prop := fnExactGradeOfUptoRow.holds Try.pinned (OpenSpec.upto fnExactGradeOfSpec)

/-- 'laws.FnExactWithoutSieve', WHERE WHAT IT READS IS OF BULK AT MOST 1048576: true; the input reads as it did. -/
def fnExactWithoutSieveUptoRow : OpenClaim := { program := "ytapfnelghmnajaa", sum := "9403465824ee4d97f49200cc2a5bfd23863ca52c0fc07631ca9b6a4d53acf349", func := "loop.example/g01019/laws.FnExactWithoutSieve", spec := "fnExactWithoutSieve", apart := false, narrowed := true }
def FnExactWithoutSieveUptoSaid : Prop := fnExactWithoutSieveUptoRow.holds Try.pinned (OpenSpec.upto fnExactWithoutSieveSpec)

/-- 'laws.FnExactFewestSieves', WHERE WHAT IT READS IS OF BULK AT MOST 1048576: true; the input reads as it did. -/
def fnExactFewestSievesUptoRow : OpenClaim := { program := "ytapfnelghmnajaa", sum := "9403465824ee4d97f49200cc2a5bfd23863ca52c0fc07631ca9b6a4d53acf349", func := "loop.example/g01019/laws.FnExactFewestSieves", spec := "fnExactFewestSieves", unfollowed := true, recurses := true, apart := false, narrowed := true }
def FnExactFewestSievesUptoSaid : Prop := fnExactFewestSievesUptoRow.holds Try.pinned (OpenSpec.upto fnExactFewestSievesSpec)

/-- 'laws.FnExactBrokenGrains', WHERE WHAT IT READS IS OF BULK AT MOST 1048576: true; the input reads as it did. -/
def fnExactBrokenGrainsUptoRow : OpenClaim := { program := "ytapfnelghmnajaa", sum := "9403465824ee4d97f49200cc2a5bfd23863ca52c0fc07631ca9b6a4d53acf349", func := "loop.example/g01019/laws.FnExactBrokenGrains", spec := "fnExactBrokenGrains", recurses := true, apart := false, narrowed := true }
def FnExactBrokenGrainsUptoSaid : Prop := fnExactBrokenGrainsUptoRow.holds Try.pinned (OpenSpec.upto fnExactBrokenGrainsSpec)

/-- 'laws.FnExactJoinSamples', WHERE WHAT IT READS IS OF BULK AT MOST 1048576: true; the input reads as it did. -/
def fnExactJoinSamplesUptoRow : OpenClaim := { program := "ytapfnelghmnajaa", sum := "9403465824ee4d97f49200cc2a5bfd23863ca52c0fc07631ca9b6a4d53acf349", func := "loop.example/g01019/laws.FnExactJoinSamples", spec := "fnExactJoinSamples", recurses := true, apart := false, narrowed := true }
def FnExactJoinSamplesUptoSaid : Prop := fnExactJoinSamplesUptoRow.holds Try.pinned (OpenSpec.upto fnExactJoinSamplesSpec)

/-- 'laws.FnGrains', WHERE WHAT IT READS IS OF BULK AT MOST 1048576: true; the input reads as it did. -/
def fnGrainsUptoRow : OpenClaim := { program := "ytapfnelghmnajaa", sum := "9403465824ee4d97f49200cc2a5bfd23863ca52c0fc07631ca9b6a4d53acf349", func := "loop.example/g01019/laws.FnGrains", spec := "fnGrains", recurses := true, apart := false, narrowed := true }
def FnGrainsUptoSaid : Prop := fnGrainsUptoRow.holds Try.pinned (OpenSpec.upto fnGrainsSpec)

end Rows
end Go.Proofs.Ytapfnelghmnajaa
