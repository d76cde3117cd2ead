/-
  Contracts of the small functions on integers.
-/
import Derived.Test.YtapfnelghmnajaaDoorRows
import Derived.Test.YtapfnelghmnajaaDoorMath
import Derived.Test.YtapfnelghmnajaaDoorBase
import Derived.Test.YtapfnelghmnajaaDoorRegion
import Derived.WalkKit
import Derived.WalkSpells
import Derived.WalkLawsBesides
import Derived.Lib.Hide
import Derived.Deep.QuietTactic
import Derived.BigQuiet
import Derived.StillTailTactics
namespace Go.Proofs.YtapfnelghmnajaaDoor
open Go.RowKit

theorem mixed : Tryd.prog.follows .mixedOrders = true := by kernel_rfl

set_option maxHeartbeats 400000 in
theorem within_any (x a b : Int) (w : World) :
    Calls Tryd.prog 38 #[.int .i64 x, .int .i64 a, .int .i64 b] w fun e w' => e = .returned (.bool (inB x a b)) ∧ w = w' := by
  by_cases h1 : a ≤ x <;> by_cases h2 : x ≤ b
  all_goals
    have hh : inB x a b = (decide (a ≤ x) && decide (x ≤ b)) := rfl
    simp only [h1, h2] at hh
    have H := Lib.hid hh; clear hh
    go_enter Tryd.func38, Tryd.ntmps38
    go_wp2
    go_ret
    exact ⟨by rw [H.out]; simp, rfl⟩
set_option maxHeartbeats 400000 in
theorem l1In_any (x a b : Int) (w : World) :
    Calls Tryd.prog 41 #[.int .i64 x, .int .i64 a, .int .i64 b] w fun e w' => e = .returned (.bool (inB x a b)) ∧ w = w' := by
  by_cases h1 : a ≤ x <;> by_cases h2 : x ≤ b
  all_goals
    have hh : inB x a b = (decide (a ≤ x) && decide (x ≤ b)) := rfl
    simp only [h1, h2] at hh
    have H := Lib.hid hh; clear hh
    go_enter Tryd.func41, Tryd.ntmps41
    go_wp2
    go_ret
    exact ⟨by rw [H.out]; simp, rfl⟩
end Go.Proofs.YtapfnelghmnajaaDoor
