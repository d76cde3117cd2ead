/-
  Plain mathematics: the Bool tests and integer functions that the contracts of this seat speak of. No program in sight.
-/
import Derived.RowKit
import Derived.Says
import Derived.IntWalk
namespace Go.Proofs.YtapfnelghmnajaaDoor
open Go.RowKit

/-- a ≤ x ≤ b. -/
def inB (x a b : Int) : Bool := decide (a ≤ x) && decide (x ≤ b)
theorem inB_iff {x a b : Int} : inB x a b = true ↔ a ≤ x ∧ x ≤ b := by simp [inB]
theorem inB_false {x a b : Int} (h : ¬ (a ≤ x ∧ x ≤ b)) : inB x a b = false := by
  rw [Bool.eq_false_iff]; intro h'; exact h (inB_iff.1 h')
theorem inB_true {x a b : Int} (h : a ≤ x ∧ x ≤ b) : inB x a b = true := inB_iff.2 h
theorem ret_bool {a b : Bool} (h : a = b) : Ending.returned (.bool a) = .returned (.bool b) := by rw [h]
theorem ret_int {k : IntKind} {a b : Int} (h : a = b) : Ending.returned (.int k a) = .returned (.int k b) := by rw [h]

def eq2 (a b x y : Int) : Bool := decide (a = x) && decide (b = y)
theorem eq2_refl (a b : Int) : eq2 a b a b = true := by simp [eq2]
def eq3 (a b c x y z : Int) : Bool := decide (a = x) && decide (b = y) && decide (c = z)
theorem eq3_refl (a b c : Int) : eq3 a b c a b c = true := by simp [eq3]
theorem neI (n : Int) : (n != n) = false := by simp
theorem neB (n : Bool) : (n != n) = false := by simp

/-- The greatest common divisor, behind a name of its own. -/
def gI (a b : Int) : Int := (Int.gcd a b : Int)

end Go.Proofs.YtapfnelghmnajaaDoor
