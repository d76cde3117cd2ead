/-
  The law on IsLadder, walked.
-/
import Derived.Test.YthhjbdhglaombaaLad1
import Derived.Test.YthhjbdhglaombaaLad2
import Derived.Test.YthhjbdhglaombaaHRung
import Derived.Test.YthhjbdhglaombaaOpenSl
namespace Go.Proofs.Ythhjbdhglaombaa
open Go.RowKit

set_option maxHeartbeats 400000 in
theorem SIsLadder_any (A : Option Addr) (c : Nat) (L : List (Int × Int)) (w : World) (hr : SlR f2 2 w w.heap.size A L) (hm : (L.length : Int) ≤ 9223372036854775807) :
    Calls Try.prog 15 #[.slice A L.length c] w fun e w' => e = .returned (.bool (ladB L)) ∧ Below w.heap.size w w' := by
  go_enter Try.func15, Try.ntmps15
  go_wp2_with fail
  refine (l13Good_any _ _ _ _ hr hm).mono ?_; rintro e w1 ⟨rfl, hb1⟩
  have z1 := hb1.size
  try simp at z1
  go_wp2
  go_ret
  exact ⟨rfl, by (repeat (first | exact Below.refl _ _ | refine Below.drew ?_ | refine below_drewN ?_ _ | (refine Below.alloc ?_ (by (try simp) <;> omega) _) | (refine Below.setCell ?_ (by (try simp) <;> omega) _) | (refine Below.trans ?_ (Below.mono (by assumption) (by (try simp) <;> omega)))))⟩

set_option maxHeartbeats 1000000 in
theorem walk_IsLadder (A : Option Addr) (c : Nat) (L : List (Int × Int)) (hn : (L.length : Int) ≤ 9223372036854775807) (_hI : ∀ x ∈ L, InI2 x) (w : World) (hr : SlR f2 2 w w.heap.size A L) :
    Calls Try.prog 3 #[.slice A L.length c] w fun e w' => e = .returned (.bool true) ∧ Below w.heap.size w w' := by
  clear _hI
  by_cases hs : (1048576 : Int) - L.length < 0
  · have Hv := Lib.hid (show szV 1048576 L.length = -1 from if_pos hs)
    go_enter Try.func3, Try.ntmps3
    go_wp2_with fail
    refine (szRungS_any _ _ _ _ _ hn (by omega) (by omega)).mono ?_; rintro e w' ⟨rfl, rfl⟩
    rw [Hv.out]
    go_wp2
    go_ret
    exact ⟨rfl, by (repeat (first | exact Below.refl _ _ | refine Below.drew ?_ | refine below_drewN ?_ _ | (refine Below.alloc ?_ (by (try simp) <;> omega) _) | (refine Below.setCell ?_ (by (try simp) <;> omega) _) | (refine Below.trans ?_ (Below.mono (by assumption) (by (try simp) <;> omega)))))⟩
  have Hv := Lib.hid (show szV 1048576 L.length = 1048576 - L.length from if_neg hs)
  have hm : (L.length : Int) ≤ 1048576 := by omega
  have E1 := Lib.hid (eqL_refl L)
  have nb := neB (ladB L)
  go_enter Try.func3, Try.ntmps3
  go_wp2_with fail
  refine (szRungS_any _ _ _ _ _ hn (by omega) (by omega)).mono ?_; rintro e w' ⟨rfl, rfl⟩
  rw [Hv.out]
  go_wp2_with fail
  refine (toRungS_any _ _ _ _ hr hm).mono ?_; rintro e w1 ⟨A1, c1, rfl, o1, hb1⟩
  have z1 := hb1.size
  have s1 := hr.next hb1
  go_wp2_with fail
  refine (SIsLadder_any _ _ _ _ o1.sl hn).mono ?_; rintro e w2 ⟨rfl, hb2⟩
  have z2 := hb2.size
  have s2 := s1.next hb2
  go_wp2_with fail
  refine (toRungS_any _ _ _ _ s2 hm).mono ?_; rintro e w3 ⟨A3, c3, rfl, o3, hb3⟩
  have z3 := hb3.size
  have s3 := s2.next hb3
  go_wp2_with fail
  refine (IsLadder_any _ _ _ _ o3.sl hn).mono ?_; rintro e w4 ⟨rfl, hb4⟩
  have z4 := hb4.size
  have s4 := s3.next hb4
  have x4 := o3.sl.next hb4
  go_wp2_with fail
  refine (toRungS_any _ _ _ _ s4 hm).mono ?_; rintro e w5 ⟨A5, c5, rfl, o5, hb5⟩
  have z5 := hb5.size
  have x5 := x4.next hb5
  go_wp2_with fail
  refine (eqRungS_any _ _ _ _ _ _ _ x5 o5.sl hn).mono ?_; rintro e w6 ⟨rfl, hb6⟩
  rw [E1.out]
  have z6 := hb6.size
  go_wp2
  go_ret
  exact ⟨rfl, by (repeat (first | exact Below.refl _ _ | refine Below.drew ?_ | refine below_drewN ?_ _ | (refine Below.alloc ?_ (by (try simp) <;> omega) _) | (refine Below.setCell ?_ (by (try simp) <;> omega) _) | (refine Below.trans ?_ (Below.mono (by assumption) (by (try simp) <;> omega)))))⟩
end Go.Proofs.Ythhjbdhglaombaa
