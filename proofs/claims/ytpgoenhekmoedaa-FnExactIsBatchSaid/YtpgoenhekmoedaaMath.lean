/-
  Plain mathematics: the Bool tests and integer functions that the contracts of this seat speak of. No program in sight.
-/
import Derived.RowKit
import Derived.Says
import Derived.IntWalk
namespace Go.Proofs.Ytpgoenhekmoedaa
open Go.RowKit

/-- a ≤ x ≤ b. -/
def inB (x a b : Int) : Bool := decide (a ≤ x) && decide (x ≤ b)
theorem inB_iff {x a b : Int} : inB x a b = true ↔ a ≤ x ∧ x ≤ b := by simp [inB]
theorem inB_false {x a b : Int} (h : ¬ (a ≤ x ∧ x ≤ b)) : inB x a b = false := by
  rw [Bool.eq_false_iff]; intro h'; exact h (inB_iff.1 h')
theorem inB_true {x a b : Int} (h : a ≤ x ∧ x ≤ b) : inB x a b = true := inB_iff.2 h
theorem ret_bool {a b : Bool} (h : a = b) : Ending.returned (.bool a) = .returned (.bool b) := by rw [h]
theorem ret_int {k : IntKind} {a b : Int} (h : a = b) : Ending.returned (.int k a) = .returned (.int k b) := by rw [h]

end Go.Proofs.Ytpgoenhekmoedaa
