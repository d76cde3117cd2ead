/-
  The law FnExactIsBatch returns true for every batch: the program's IsBatch and the reference's compute the same test. No condition.
-/
import Derived.Test.YtpgoenhekmoedaaBatch
import Derived.Test.YtpgoenhekmoedaaOpen
namespace Go.Proofs.Ytpgoenhekmoedaa
open Go.ChangeShapes Go.WideShapes Go.ChangeAt Go.RowKit

set_option maxHeartbeats 400000 in
theorem walk_IsBatch (a b c : Int) (_h : InI a ∧ InI b ∧ InI c) (w : World) :
    Calls Try.prog 3 #[.agg #[.int .i64 a, .int .i64 b, .int .i64 c]] w fun e w' => e = .returned (.bool true) ∧ Below w.heap.size w w' := by
  have hn : (isBatch a b c != isBatch a b c) = false := by simp
  go_enter Try.func3, Try.ntmps3
  go_wp2_with fail
  refine (toBatch_any _ _ _ _).mono ?_; rintro e w1 ⟨rfl, hb1⟩
  have z1 := hb1.size
  try simp at z1
  obtain ⟨c1_0, f1_0⟩ := bblk hb1 (g := w.heap.size) (by (try simp) <;> omega)
  go_wp2_with fail
  refine (SIsBatch_any _ _ _ _).mono ?_; rintro e w2 ⟨rfl, hb2⟩
  have z2 := hb2.size
  try simp at z2
  obtain ⟨c2_0, f2_0⟩ := bblk hb2 (g := w.heap.size) (by (try simp) <;> omega)
  go_wp2_with fail
  refine (toBatch_any _ _ _ _).mono ?_; rintro e w3 ⟨rfl, hb3⟩
  have z3 := hb3.size
  try simp at z3
  go_wp2_with fail
  refine (IsBatch_any _ _ _ _).mono ?_; rintro e w4 ⟨rfl, hb4⟩
  have z4 := hb4.size
  try simp at z4
  go_wp2
  go_ret
  exact ⟨rfl, by (repeat (first | exact Below.refl _ _ | refine Below.drew ?_ | refine below_drewN ?_ _ | (refine Below.alloc ?_ (by (try simp) <;> omega) _) | (refine Below.setCell ?_ (by (try simp) <;> omega) _) | (refine Below.trans ?_ (Below.mono (by assumption) (by (try simp) <;> omega)))))⟩


end Go.Proofs.Ytpgoenhekmoedaa
