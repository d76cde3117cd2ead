/-
  No cell of these rows narrows 'for every input' (looked for: loops, veiled, ifaces, maps, wideKeys, modest, calm, conditions, laid).
  DERIVED. THE GIVEN ROWS OF THIS SEAT. 6 by the template 'for every input the law returns true; each argument reads behind the call as it read before'; 0 by the template 'total and deterministic' (their statements: YtjpoaiiminofdaaTotals.lean).
  GIVEN WITH THE SEED: the statements are not yours to turn. If you find one false, say at which input.
  Laid BY PROGRAM, IN A SANDBOX (cutbox-rows.mjs): the forced cells as the released guide's own fill.sh prints them over the translation b27540c040f6b13b… (all of the seat's roots in one cut). By AI agents, Wed Nov 11 2026. No macro, syntax, notation, axiom, sorry.
-/
import Derived.Test.YtjpoaiiminofdaaChecked
import GoSem.Claim
import GoSem.ClaimJoined
import GoSem.ClaimMapViews
import Derived.JoinedTies
import Derived.KernelRfl
namespace Go.Proofs.Ytjpoaiiminofdaa
/- THE CELL 'sum', in the pinned program and in every row, IS THE sha256 OF THE DUMP (.gsa) THAT YtjpoaiiminofdaaProg.lean LOADS. Nothing in Lean hashes anything: it is a label: what it is worth is what the hold of that sum in a sandbox is worth. -/
noncomputable def Try.pinned : Pinned := { name := "ytjpoaiiminofdaa", sum := "b27540c040f6b13bc91ef45588ec6f02f5c8f975d065f41e49a2a95c1be43f82", checked := Try.checked }
namespace Rows
def none {H : Type} : Left H := { results := [], args := [] }

/-- 'laws.FnExactAreBitterns': WHATEVER THE INPUT: true; the input reads as it did. -/
def fnExactAreBitternsSpec : ChangeSpec := { name := "fnExactAreBitterns", fn := fun _ => fun
  | [d] => { results := [.lit (.bool true)], args := [d] }
  | _ => none }
def fnExactAreBitternsRow : OpenClaim := { program := "ytjpoaiiminofdaa", sum := "b27540c040f6b13bc91ef45588ec6f02f5c8f975d065f41e49a2a95c1be43f82", func := "loop.example/g01019/laws.FnExactAreBitterns", spec := "fnExactAreBitterns", apart := false }
def FnExactAreBitternsSaid : Prop := fnExactAreBitternsRow.holds Try.pinned (OpenSpec.ofChange fnExactAreBitternsSpec)

/-- ITS FALSE NEIGHBOUR: 'it returns false'. Refute it at one input. -/
def fnExactAreBitternsWrong : ChangeSpec := { name := "fnExactAreBitterns", fn := fun _ => fun
  | [d] => { results := [.lit (.bool false)], args := [d] }
  | _ => none }
def FnExactAreBitternsWrongFalsely : Prop := fnExactAreBitternsRow.holds Try.pinned (OpenSpec.ofChange fnExactAreBitternsWrong)

/-- 'laws.FnExactBitterestCask': WHATEVER THE INPUT: true; the input reads as it did. -/
def fnExactBitterestCaskSpec : ChangeSpec := { name := "fnExactBitterestCask", fn := fun _ => fun
  | [d] => { results := [.lit (.bool true)], args := [d] }
  | _ => none }
def fnExactBitterestCaskRow : OpenClaim := { program := "ytjpoaiiminofdaa", sum := "b27540c040f6b13bc91ef45588ec6f02f5c8f975d065f41e49a2a95c1be43f82", func := "loop.example/g01019/laws.FnExactBitterestCask", spec := "fnExactBitterestCask", apart := false }
def FnExactBitterestCaskSaid : Prop := fnExactBitterestCaskRow.holds Try.pinned (OpenSpec.ofChange fnExactBitterestCaskSpec)

/-- ITS FALSE NEIGHBOUR: 'it returns false'. Refute it at one input. -/
def fnExactBitterestCaskWrong : ChangeSpec := { name := "fnExactBitterestCask", fn := fun _ => fun
  | [d] => { results := [.lit (.bool false)], args := [d] }
  | _ => none }
def FnExactBitterestCaskWrongFalsely : Prop := fnExactBitterestCaskRow.holds Try.pinned (OpenSpec.ofChange fnExactBitterestCaskWrong)

/-- 'laws.FnExactBitterGrams': WHATEVER THE INPUT: true; the input reads as it did. -/
def fnExactBitterGramsSpec : ChangeSpec := { name := "fnExactBitterGrams", fn := fun _ => fun
  | [d] => { results := [.lit (.bool true)], args := [d] }
  | _ => none }
def fnExactBitterGramsRow : OpenClaim := { program := "ytjpoaiiminofdaa", sum := "b27540c040f6b13bc91ef45588ec6f02f5c8f975d065f41e49a2a95c1be43f82", func := "loop.example/g01019/laws.FnExactBitterGrams", spec := "fnExactBitterGrams", apart := false }
def FnExactBitterGramsSaid : Prop := fnExactBitterGramsRow.holds Try.pinned (OpenSpec.ofChange fnExactBitterGramsSpec)

/-- ITS FALSE NEIGHBOUR: 'it returns false'. Refute it at one input. -/
def fnExactBitterGramsWrong : ChangeSpec := { name := "fnExactBitterGrams", fn := fun _ => fun
  | [d] => { results := [.lit (.bool false)], args := [d] }
  | _ => none }
def FnExactBitterGramsWrongFalsely : Prop := fnExactBitterGramsRow.holds Try.pinned (OpenSpec.ofChange fnExactBitterGramsWrong)

/-- 'laws.FnExactMeanBitter': WHATEVER THE INPUT: true; the input reads as it did. -/
def fnExactMeanBitterSpec : ChangeSpec := { name := "fnExactMeanBitter", fn := fun _ => fun
  | [d] => { results := [.lit (.bool true)], args := [d] }
  | _ => none }
def fnExactMeanBitterRow : OpenClaim := { program := "ytjpoaiiminofdaa", sum := "b27540c040f6b13bc91ef45588ec6f02f5c8f975d065f41e49a2a95c1be43f82", func := "loop.example/g01019/laws.FnExactMeanBitter", spec := "fnExactMeanBitter", apart := false }
def FnExactMeanBitterSaid : Prop := fnExactMeanBitterRow.holds Try.pinned (OpenSpec.ofChange fnExactMeanBitterSpec)

/-- ITS FALSE NEIGHBOUR: 'it returns false'. Refute it at one input. -/
def fnExactMeanBitterWrong : ChangeSpec := { name := "fnExactMeanBitter", fn := fun _ => fun
  | [d] => { results := [.lit (.bool false)], args := [d] }
  | _ => none }
def FnExactMeanBitterWrongFalsely : Prop := fnExactMeanBitterRow.holds Try.pinned (OpenSpec.ofChange fnExactMeanBitterWrong)

/-- 'laws.FnExactPourCask': WHATEVER THE INPUT: true; the input reads as it did. -/
def fnExactPourCaskSpec : ChangeSpec := { name := "fnExactPourCask", fn := fun _ => fun
  | [d1, d2, d3] => { results := [.lit (.bool true)], args := [d1, d2, d3] }
  | _ => none }
def fnExactPourCaskRow : OpenClaim := { program := "ytjpoaiiminofdaa", sum := "b27540c040f6b13bc91ef45588ec6f02f5c8f975d065f41e49a2a95c1be43f82", func := "loop.example/g01019/laws.FnExactPourCask", spec := "fnExactPourCask", unfollowed := true, recurses := true, apart := false }
def FnExactPourCaskSaid : Prop := fnExactPourCaskRow.holds Try.pinned (OpenSpec.ofChange fnExactPourCaskSpec)

/-- ITS FALSE NEIGHBOUR: 'it returns false'. Refute it at one input. -/
def fnExactPourCaskWrong : ChangeSpec := { name := "fnExactPourCask", fn := fun _ => fun
  | [d1, d2, d3] => { results := [.lit (.bool false)], args := [d1, d2, d3] }
  | _ => none }
def FnExactPourCaskWrongFalsely : Prop := fnExactPourCaskRow.holds Try.pinned (OpenSpec.ofChange fnExactPourCaskWrong)

/-- 'laws.FnExactMostWith': WHATEVER THE INPUT: true; the input reads as it did. -/
def fnExactMostWithSpec : ChangeSpec := { name := "fnExactMostWith", fn := fun _ => fun
  | [d1, d2] => { results := [.lit (.bool true)], args := [d1, d2] }
  | _ => none }
def fnExactMostWithRow : OpenClaim := { program := "ytjpoaiiminofdaa", sum := "b27540c040f6b13bc91ef45588ec6f02f5c8f975d065f41e49a2a95c1be43f82", func := "loop.example/g01019/laws.FnExactMostWith", spec := "fnExactMostWith", unfollowed := true, recurses := true, apart := false }
def FnExactMostWithSaid : Prop := fnExactMostWithRow.holds Try.pinned (OpenSpec.ofChange fnExactMostWithSpec)

/-- ITS FALSE NEIGHBOUR: 'it returns false'. Refute it at one input. -/
def fnExactMostWithWrong : ChangeSpec := { name := "fnExactMostWith", fn := fun _ => fun
  | [d1, d2] => { results := [.lit (.bool false)], args := [d1, d2] }
  | _ => none }
def FnExactMostWithWrongFalsely : Prop := fnExactMostWithRow.holds Try.pinned (OpenSpec.ofChange fnExactMostWithWrong)

/- THE SECOND FORM. 'bulk': how many values and letters a reading holds, each counted each time it is reached (what is shared counts as often as it is met; a slice's spare places count too). A statement '..UptoSaid' is the law's where the arguments, and the package variables that the reading takes, are together of bulk at most 1048576: NARROWER than '..Said'. Prove '..Said' where nothing that the law and all that it calls make is longer than what came in: it says more and counts as full. Else prove '..UptoSaid'. A law counts once. -/
mutual
def uptoBulk {H : Type} : DataW H → Nat
  | .lit (.string bytes) => bytes.length + 1
  | .lit _ => 1
  | .nil => 1
  | .ptr d => uptoBulk d + 1
  | .slice elems spare => uptoBulkAll elems + uptoBulkAll spare + 1
  | .agg parts => uptoBulkAll parts + 1
  | .iface _ d => uptoBulk d + 1
  | .map entries => uptoBulkEntries entries + 1
  | .held _ => 1
def uptoBulkAll {H : Type} : List (DataW H) → Nat
  | [] => 0
  | d :: r => uptoBulk d + uptoBulkAll r
def uptoBulkEntries {H : Type} : List (Lit × DataW H) → Nat
  | [] => 0
  | x :: r => uptoBulkEntry x + uptoBulkEntries r
def uptoBulkEntry {H : Type} : Lit × DataW H → Nat
  | (.string bytes, d) => bytes.length + uptoBulk d + 1
  | (_, d) => uptoBulk d + 1
 end
def uptoSmall : (H : Type) → List (DataW H) → Bool := fun _ ds => decide (uptoBulkAll ds ≤ 1048576)
def OpenSpec.upto (s : _root_.Go.ChangeSpec) : _root_.Go.OpenSpec := { _root_.Go.OpenSpec.ofChange s with cond := some uptoSmall }

/-- 'laws.FnExactAreBitterns', WHERE WHAT IT READS IS OF BULK AT MOST 1048576: true; the input reads as it did. -/
def fnExactAreBitternsUptoRow : OpenClaim := { program := "ytjpoaiiminofdaa", sum := "b27540c040f6b13bc91ef45588ec6f02f5c8f975d065f41e49a2a95c1be43f82", func := "loop.example/g01019/laws.FnExactAreBitterns", spec := "fnExactAreBitterns", apart := false, narrowed := true }
def FnExactAreBitternsUptoSaid : Prop := fnExactAreBitternsUptoRow.holds Try.pinned (OpenSpec.upto fnExactAreBitternsSpec)

/-- 'laws.FnExactBitterestCask', WHERE WHAT IT READS IS OF BULK AT MOST 1048576: true; the input reads as it did. -/
def fnExactBitterestCaskUptoRow : OpenClaim := { program := "ytjpoaiiminofdaa", sum := "b27540c040f6b13bc91ef45588ec6f02f5c8f975d065f41e49a2a95c1be43f82", func := "loop.example/g01019/laws.FnExactBitterestCask", spec := "fnExactBitterestCask", apart := false, narrowed := true }
def FnExactBitterestCaskUptoSaid : Prop := fnExactBitterestCaskUptoRow.holds Try.pinned (OpenSpec.upto fnExactBitterestCaskSpec)

/-- 'laws.FnExactBitterGrams', WHERE WHAT IT READS IS OF BULK AT MOST 1048576: true; the input reads as it did. -/
def fnExactBitterGramsUptoRow : OpenClaim := { program := "ytjpoaiiminofdaa", sum := "b27540c040f6b13bc91ef45588ec6f02f5c8f975d065f41e49a2a95c1be43f82", func := "loop.example/g01019/laws.FnExactBitterGrams", spec := "fnExactBitterGrams", apart := false, narrowed := true }
def FnExactBitterGramsUptoSaid : Prop := fnExactBitterGramsUptoRow.holds Try.pinned (OpenSpec.upto fnExactBitterGramsSpec)

/-- 'laws.FnExactMeanBitter', WHERE WHAT IT READS IS OF BULK AT MOST 1048576: true; the input reads as it did. -/
def fnExactMeanBitterUptoRow : OpenClaim := { program := "ytjpoaiiminofdaa", sum := "b27540c040f6b13bc91ef45588ec6f02f5c8f975d065f41e49a2a95c1be43f82", func := "loop.example/g01019/laws.FnExactMeanBitter", spec := "fnExactMeanBitter", apart := false, narrowed := true }
def FnExactMeanBitterUptoSaid : Prop := fnExactMeanBitterUptoRow.holds Try.pinned (OpenSpec.upto fnExactMeanBitterSpec)

/-- 'laws.FnExactPourCask', WHERE WHAT IT READS IS OF BULK AT MOST 1048576: true; the input reads as it did. -/
def fnExactPourCaskUptoRow : OpenClaim := { program := "ytjpoaiiminofdaa", sum := "b27540c040f6b13bc91ef45588ec6f02f5c8f975d065f41e49a2a95c1be43f82", func := "loop.example/g01019/laws.FnExactPourCask", spec := "fnExactPourCask", unfollowed := true, recurses := true, apart := false, narrowed := true }
def FnExactPourCaskUptoSaid : Prop := fnExactPourCaskUptoRow.holds Try.pinned (OpenSpec.upto fnExactPourCaskSpec)

/-- 'laws.FnExactMostWith', WHERE WHAT IT READS IS OF BULK AT MOST 1048576: true; the input reads as it did. -/
def fnExactMostWithUptoRow : OpenClaim := { program := "ytjpoaiiminofdaa", sum := "b27540c040f6b13bc91ef45588ec6f02f5c8f975d065f41e49a2a95c1be43f82", func := "loop.example/g01019/laws.FnExactMostWith", spec := "fnExactMostWith", unfollowed := true, recurses := true, apart := false, narrowed := true }
def FnExactMostWithUptoSaid : Prop := fnExactMostWithUptoRow.holds Try.pinned (OpenSpec.upto fnExactMostWithSpec)

end Rows
end Go.Proofs.Ytjpoaiiminofdaa
