/-
  Is a list a ladder: the word.
-/
import Derived.Test.YthhjbdhglaombaaScalar
import Derived.Test.YthhjbdhglaombaaChain
import Derived.WalkKit
import Derived.WalkSpells
import Derived.WalkLawsBesides
import Derived.Lib.Hide
import Derived.Deep.QuietTactic
import Derived.BigQuiet
import Derived.StillTailTactics
namespace Go.Proofs.Ythhjbdhglaombaa
open Go.RowKit

def rung1 (x : Int × Int) : Bool := decide (0 ≤ x.1 ∧ x.1 ≤ x.2 ∧ x.2 ≤ 1000)
def rung2 (p x : Int × Int) : Bool := decide (p.1 ≤ x.1 ∧ p.2 ≤ x.2)
def ladB (L : List (Int × Int)) : Bool := chain rung1 rung2 L && inB L.length 1 8
theorem ladB_bad {L : List (Int × Int)} (h : chain rung1 rung2 L = false) : ladB L = false := by rw [ladB, h]; rfl
theorem ladB_ok {L : List (Int × Int)} (h : chain rung1 rung2 L = true) : ladB L = inB L.length 1 8 := by rw [ladB, h]; rfl

end Go.Proofs.Ythhjbdhglaombaa
