/-
  The law on EvenLadder, walked.
-/
import Derived.Test.YthhjbdhglaombaaEven2
namespace Go.Proofs.Ythhjbdhglaombaa
open Go.RowKit

theorem evenL_len (n low high : Int) : (evenL n low high).length ≤ 8 := by
  unfold evenL
  split
  · rename_i h
    simp [evenB, inB] at h
    rw [tab_len]; omega
  · simp

set_option maxHeartbeats 2000000 in
theorem walk_EvenLadder (n : Int) (_hn : InI n) (low : Int) (_hl : InI low) (high : Int) (_hh : InI high) (w : World) :
    Calls Try.prog 4 #[.int .i64 n, .int .i64 low, .int .i64 high] w fun e w' => e = .returned (.bool true) ∧ Below w.heap.size w w' := by
  clear _hn _hl _hh
  have C1 := Lib.hid (fun w => SEvenLadder_any n low high w)
  have C2 := Lib.hid (fun w => EvenLadder_any n low high w)
  have hm := evenL_len n low high
  generalize evenL n low high = L at *
  generalize evenB n low high = u at *
  have hm1 : (L.length : Int) ≤ 1048576 := by omega
  have hm2 : (L.length : Int) ≤ 9223372036854775807 := by omega
  have hm3 : (0 : Int) ≤ (L.length : Int) := by omega
  have E1 := Lib.hid (eqL_refl L)
  have nb := neB u
  have nm := neI (1 + 2 * (L.length : Int))
  go_enter Try.func4, Try.ntmps4
  go_wp2_with fail
  refine (C1.out _).mono ?_; rintro e w1 ⟨A0, c0, rfl, o0, hb1⟩
  have z1 := hb1.size
  go_wp2_with fail
  refine (C2.out _).mono ?_; rintro e w2 ⟨A1, c1, rfl, o1, hb2⟩
  have z2 := hb2.size
  have s2 := o0.sl.below hb2
  go_wp2_with fail
  refine (eqRungS_any _ _ _ _ _ _ _ o1.sl (s2.mono z2) hm2).mono ?_; rintro e w3 ⟨rfl, hb3⟩
  rw [E1.out]
  have z3 := hb3.size
  have s3 := s2.below (hb3.mono z2)
  have o3 := o1.next hb3
  go_wp2_with fail
  refine (markRungS_any _ _ _ _ _ _ o3 hm1 (by omega) (by omega)).mono ?_; rintro e w4 ⟨rfl, o4, oo4, on4⟩
  have hb4 : Below w1.heap.size w3 w4 := o3.onlyBelow oo4 on4
  have z4 := oo4.size
  have s4 := s3.below hb4
  clear oo4 on4
  go_wp2_with fail
  refine (heldRungS_any _ _ _ _ _ o4.sl hm1 (by omega) (by omega)).mono ?_; rintro e w5 ⟨rfl, rfl⟩
  go_wp2_with fail
  refine (C2.out _).mono ?_; rintro e w6 ⟨A6, c6, rfl, o6, hb6⟩
  have z6 := hb6.size
  have s6 := s4.below (hb6.mono (by omega))
  have o7 := o4.next hb6
  go_wp2_with fail
  refine (eqRungS_any _ _ _ _ _ _ _ o6.sl (s6.mono (by omega)) hm2).mono ?_; rintro e w7 ⟨rfl, hb7⟩
  rw [E1.out]
  have z7 := hb7.size
  have o8 := o7.next hb7
  go_wp2_with fail
  refine (heldRungS_any _ _ _ _ _ o8.sl hm1 (by omega) (by omega)).mono ?_; rintro e w8 ⟨rfl, rfl⟩
  go_wp2
  go_ret
  have t3 : Below w.heap.size w w3 := hb1.trans ((hb2.mono z1).trans (hb3.mono (by omega)))
  have t6 : Below w.heap.size w w6 := t3.trans ((hb4.mono (by omega)).trans (hb6.mono (by omega)))
  exact ⟨rfl, t6.trans (hb7.mono (by omega))⟩
end Go.Proofs.Ythhjbdhglaombaa
