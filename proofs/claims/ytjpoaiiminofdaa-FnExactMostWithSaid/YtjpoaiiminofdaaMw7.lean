/-
  The law on MostWith, walked.
-/
import Derived.Test.YtjpoaiiminofdaaMw6
import Derived.Test.YtjpoaiiminofdaaHBittern
import Derived.Test.YtjpoaiiminofdaaPred
import Derived.WalkKit
import Derived.WalkSpells
import Derived.WalkLawsBesides
import Derived.Lib.Hide
import Derived.Deep.QuietTactic
import Derived.BigQuiet
import Derived.StillTailTactics
namespace Go.Proofs.Ytjpoaiiminofdaa
open Go.RowKit

set_option maxHeartbeats 8000000 in
theorem walk_MostWith (A0 : Option Addr) (c0 : Nat) (L : List (Int × Int × Int)) (hn0 : (L.length : Int) ≤ 9223372036854775807) (_hI0 : ∀ x ∈ L, InI3 x) (i : Int) (_hI1 : InI i) (w : World) (hr0 : SlR f3 3 w w.heap.size A0 L) :
    Calls Try.prog 8 #[.slice A0 L.length c0, .int .i64 i] w fun e w' => e = .returned (.bool true) ∧ Below w.heap.size w w' := by
  by_cases hs0 : (1048576 : Int) - L.length < 0
  · have Hv0 := Lib.hid (show szV (1048576) L.length = -1 from if_pos hs0)
    clear _hI0 _hI1
    go_enter Try.func8, Try.ntmps8
    go_wp2_with fail
    refine (szBitternS_any _ _ _ _ _ hn0 (by omega) (by omega)).mono ?_; rintro e w' ⟨rfl, rfl⟩
    rw [Hv0.out]
    go_wp2
    go_ret
    exact ⟨rfl, by (repeat (first | exact Below.refl _ _ | refine Below.drew ?_ | refine below_drewN ?_ _ | (refine Below.alloc ?_ (by (try simp) <;> omega) _) | (refine Below.setCell ?_ (by (try simp) <;> omega) _) | (refine Below.trans ?_ (Below.mono (by assumption) (by (try simp) <;> omega)))))⟩
  have Hv0 := Lib.hid (show szV (1048576) L.length = 1048576 - L.length from if_neg hs0)
  have hm0 : (L.length : Int) ≤ 1048576 := by omega
  have C1 := Lib.hid (fun A0 c0 w h0 => SMostWith_any A0 c0 L i w h0 hm0 _hI0)
  have C2 := Lib.hid (fun A0 c0 w h0 => MostWith_any A0 c0 L i w h0 hm0 _hI0)
  clear _hI0 _hI1
  generalize mwN L i = r0 at *
  generalize mwB L i = r1 at *
  have nb0 := neI r0
  have nb1 := neB r1
  have hl0 : (0 : Int) ≤ (L.length : Int) := by omega
  have E0 := Lib.hid (eqL_refl L)
  go_enter Try.func8, Try.ntmps8
  go_wp2_with fail
  have hW := Below.refl w.heap.size w
  have zW : w.heap.size ≤ w.heap.size := Nat.le_refl _
  have hw0 := hr0
  refine (szBitternS_any _ _ _ _ _ hn0 (by omega) (by omega)).mono ?_; rintro e w' ⟨rfl, rfl⟩
  rw [Hv0.out]
  go_wp2_with fail
  refine (toBitternS_any _ _ _ _ hw0 hm0).mono ?_; rintro e w1 ⟨B1, d1, rfl, x1, hb1⟩
  have z1 := hb1.size
  have ta_1 := hb1
  go_wp2_with fail
  refine (C1.out _ _ _ (x1).sl).mono ?_; rintro e w2 ⟨rfl, hb2⟩
  have z2 := hb2.size
  have ta_2 := ta_1.trans (hb2.mono (by omega))
  go_wp2_with fail
  refine (toBitternS_any _ _ _ _ ((hw0.below ta_2).mono (by omega)) hm0).mono ?_; rintro e w3 ⟨B3, d3, rfl, x3, hb3⟩
  have z3 := hb3.size
  have ta_3 := ta_2.trans (hb3.mono (by omega))
  have y3 := x3.sl
  go_wp2_with fail
  refine (C2.out _ _ _ (x3).sl).mono ?_; rintro e w4 ⟨rfl, hb4⟩
  have z4 := hb4.size
  have ta_4 := ta_3.trans (hb4.mono (by omega))
  have tx0_4 := hb4
  go_wp2_with fail
  refine (toBitternS_any _ _ _ _ ((hw0.below ta_4).mono (by omega)) hm0).mono ?_; rintro e w5 ⟨B5, d5, rfl, x5, hb5⟩
  have z5 := hb5.size
  have ta_5 := ta_4.trans (hb5.mono (by omega))
  have tx0_5 := tx0_4.trans (hb5.mono (by omega))
  go_wp2_with fail
  refine (eqBitternS_any _ _ _ _ _ _ _ ((x3.next tx0_5)).sl (x5).sl hn0).mono ?_; rintro e w6 ⟨rfl, hb6⟩
  rw [E0.out]
  have z6 := hb6.size
  have ta_6 := ta_5.trans (hb6.mono (by omega))
  have tx0_6 := tx0_5.trans (hb6.mono (by omega))
  have tn_6 := hb6
  go_wp2
  go_ret
  exact ⟨rfl, hW.trans (ta_6.mono (by omega))⟩
end Go.Proofs.Ytjpoaiiminofdaa
