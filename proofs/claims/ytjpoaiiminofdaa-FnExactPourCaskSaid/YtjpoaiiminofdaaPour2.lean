/-
  The law on PourCask, walked.
-/
import Derived.Test.YtjpoaiiminofdaaPour1
import Derived.Test.YtjpoaiiminofdaaHBittern
import Derived.Test.YtjpoaiiminofdaaPred
import Derived.WalkKit
import Derived.WalkSpells
import Derived.WalkLawsBesides
import Derived.Lib.Hide
import Derived.Deep.QuietTactic
import Derived.BigQuiet
import Derived.StillTailTactics
namespace Go.Proofs.Ytjpoaiiminofdaa
open Go.RowKit


set_option maxHeartbeats 8000000 in
theorem walk_PourCask (A0 : Option Addr) (c0 : Nat) (L : List (Int × Int × Int)) (hn0 : (L.length : Int) ≤ 9223372036854775807) (_hI0 : ∀ x ∈ L, InI3 x) (i : Int) (_hI1 : InI i) (k : Int) (_hI2 : InI k) (w : World) (hr0 : SlR f3 3 w w.heap.size A0 L) :
    Calls Try.prog 7 #[.slice A0 L.length c0, .int .i64 i, .int .i64 k] w fun e w' => e = .returned (.bool true) ∧ Below w.heap.size w w' := by
  by_cases hs0 : (1048576 : Int) - L.length < 0
  · have Hv0 := Lib.hid (show szV (1048576) L.length = -1 from if_pos hs0)
    clear _hI0 _hI1 _hI2
    go_enter Try.func7, Try.ntmps7
    go_wp2_with fail
    refine (szBitternS_any _ _ _ _ _ hn0 (by omega) (by omega)).mono ?_; rintro e w' ⟨rfl, rfl⟩
    rw [Hv0.out]
    go_wp2
    go_ret
    exact ⟨rfl, by (repeat (first | exact Below.refl _ _ | refine Below.drew ?_ | refine below_drewN ?_ _ | (refine Below.alloc ?_ (by (try simp) <;> omega) _) | (refine Below.setCell ?_ (by (try simp) <;> omega) _) | (refine Below.trans ?_ (Below.mono (by assumption) (by (try simp) <;> omega)))))⟩
  have Hv0 := Lib.hid (show szV (1048576) L.length = 1048576 - L.length from if_neg hs0)
  have hm0 : (L.length : Int) ≤ 1048576 := by omega
  have C1 := Lib.hid (fun A0 c0 w h0 => SPourCask_any A0 c0 L i k w h0 hm0 _hI0)
  have C2 := Lib.hid (fun A0 c0 w h0 => PourCask_any A0 c0 L i k w h0 hm0 _hI0)
  clear _hI0 _hI1 _hI2
  have hRl := pcL_len L i k
  generalize pcL L i k = R at *
  generalize pcU L i k = r1 at *
  have nb1 := neB r1
  have hR1 : (R.length : Int) ≤ 1048576 := by omega
  have hR2 : (R.length : Int) ≤ 9223372036854775807 := by omega
  have hR3 : (0 : Int) ≤ (R.length : Int) := by omega
  have ER := Lib.hid (eqL_refl R)
  have nm := neI (1 + 3 * (R.length : Int))
  have nm' := neI (1 + (R.length : Int))
  have hl0 : (0 : Int) ≤ (L.length : Int) := by omega
  have E0 := Lib.hid (eqL_refl L)
  go_enter Try.func7, Try.ntmps7
  go_wp2_with fail
  have hW := Below.refl w.heap.size w
  have zW : w.heap.size ≤ w.heap.size := Nat.le_refl _
  have hw0 := hr0
  refine (szBitternS_any _ _ _ _ _ hn0 (by omega) (by omega)).mono ?_; rintro e w' ⟨rfl, rfl⟩
  rw [Hv0.out]
  go_wp2_with fail
  refine (toBitternS_any _ _ _ _ hw0 hm0).mono ?_; rintro e w1 ⟨B1, d1, rfl, x1, hb1⟩
  have z1 := hb1.size
  have ta_1 := hb1
  go_wp2_with fail
  refine (C1.out _ _ _ (x1).sl).mono ?_; rintro e w2 ⟨P2, p2, rfl, o2, hb2⟩
  have z2 := hb2.size
  have ta_2 := ta_1.trans (hb2.mono (by omega))
  go_wp2_with fail
  refine (toBitternS_any _ _ _ _ ((hw0.below ta_2).mono (by omega)) hm0).mono ?_; rintro e w3 ⟨B3, d3, rfl, x3, hb3⟩
  have z3 := hb3.size
  have ta_3 := ta_2.trans (hb3.mono (by omega))
  have tr_3 := hb3
  have y3 := x3.sl
  go_wp2_with fail
  refine (C2.out _ _ _ (x3).sl).mono ?_; rintro e w4 ⟨P4, p4, rfl, o4, hb4⟩
  have z4 := hb4.size
  have ta_4 := ta_3.trans (hb4.mono (by omega))
  have tr_4 := tr_3.trans (hb4.mono (by omega))
  have tx0_4 := hb4
  have y4 := o4.sl
  go_wp2_with fail
  refine (eqBitternS_any _ _ _ _ _ _ _ (o4).sl ((o2.next tr_4)).sl hR2).mono ?_; rintro e w5 ⟨rfl, hb5⟩
  rw [ER.out]
  have z5 := hb5.size
  have ta_5 := ta_4.trans (hb5.mono (by omega))
  have tr_5 := tr_4.trans (hb5.mono (by omega))
  have tx0_5 := tx0_4.trans (hb5.mono (by omega))
  have tg_5 := hb5
  go_wp2_with fail
  refine (toBitternS_any _ _ _ _ ((hw0.below ta_5).mono (by omega)) hm0).mono ?_; rintro e w6 ⟨B6, d6, rfl, x6, hb6⟩
  have z6 := hb6.size
  have ta_6 := ta_5.trans (hb6.mono (by omega))
  have tr_6 := tr_5.trans (hb6.mono (by omega))
  have tx0_6 := tx0_5.trans (hb6.mono (by omega))
  have tg_6 := tg_5.trans (hb6.mono (by omega))
  go_wp2_with fail
  refine (eqBitternS_any _ _ _ _ _ _ _ ((x3.next tx0_6)).sl (x6).sl hn0).mono ?_; rintro e w7 ⟨rfl, hb7⟩
  rw [E0.out]
  have z7 := hb7.size
  have ta_7 := ta_6.trans (hb7.mono (by omega))
  have tr_7 := tr_6.trans (hb7.mono (by omega))
  have tx0_7 := tx0_6.trans (hb7.mono (by omega))
  have tg_7 := tg_6.trans (hb7.mono (by omega))
  have tn_7 := hb7
  have mm8 := (x3.next tx0_7)
  go_wp2_with fail
  refine (markBitternS_any _ _ _ _ _ _ mm8 hm0 (by omega) (by omega)).mono ?_; rintro e w8 ⟨rfl, m8, oo8, on8⟩
  have hb8 : Below w2.heap.size w7 w8 := mm8.onlyBelow oo8 on8
  have z8 := oo8.size
  have ta_8 := ta_7.trans (hb8.mono (by omega))
  have tr_8 := tr_7.trans (hb8.mono (by omega))
  have eg_8 := ((o4.next tg_7)).keep oo8 on8 (y3.mono (by omega))
  clear oo8 on8
  go_wp2_with fail
  refine (eqBitternS_any _ _ _ _ _ _ _ (eg_8).sl ((o2.next tr_8)).sl hR2).mono ?_; rintro e w9 ⟨rfl, hb9⟩
  rw [ER.out]
  have z9 := hb9.size
  have ta_9 := ta_8.trans (hb9.mono (by omega))
  have tr_9 := tr_8.trans (hb9.mono (by omega))
  have tg_9 := hb9
  have mm10 := (eg_8.next tg_9)
  go_wp2_with fail
  refine (markBitternS_any _ _ _ _ _ _ mm10 hR1 (by omega) (by omega)).mono ?_; rintro e w10 ⟨rfl, m10, oo10, on10⟩
  have hb10 : Below w3.heap.size w9 w10 := mm10.onlyBelow oo10 on10
  have z10 := oo10.size
  have ta_10 := ta_9.trans (hb10.mono (by omega))
  have tr_10 := tr_9.trans (hb10.mono (by omega))
  clear oo10 on10
  go_wp2_with fail
  refine (heldBitternS_any _ _ _ _ _ (m10).sl hR1 (by omega) (by omega)).mono ?_; rintro e w' ⟨rfl, rfl⟩
  go_wp2_with fail
  refine (toBitternS_any _ _ _ _ ((hw0.below ta_10).mono (by omega)) hm0).mono ?_; rintro e w11 ⟨B11, d11, rfl, x11, hb11⟩
  have z11 := hb11.size
  have ta_11 := ta_10.trans (hb11.mono (by omega))
  have tr_11 := tr_10.trans (hb11.mono (by omega))
  have tg_11 := hb11
  go_wp2_with fail
  refine (C2.out _ _ _ (x11).sl).mono ?_; rintro e w12 ⟨P12, p12, rfl, o12, hb12⟩
  have z12 := hb12.size
  have ta_12 := ta_11.trans (hb12.mono (by omega))
  have tr_12 := tr_11.trans (hb12.mono (by omega))
  have tg_12 := tg_11.trans (hb12.mono (by omega))
  go_wp2_with fail
  refine (eqBitternS_any _ _ _ _ _ _ _ (o12).sl ((o2.next tr_12)).sl hR2).mono ?_; rintro e w13 ⟨rfl, hb13⟩
  rw [ER.out]
  have z13 := hb13.size
  have ta_13 := ta_12.trans (hb13.mono (by omega))
  have tr_13 := tr_12.trans (hb13.mono (by omega))
  have tg_13 := tg_12.trans (hb13.mono (by omega))
  have th_13 := hb13
  go_wp2_with fail
  refine (heldBitternS_any _ _ _ _ _ ((m10.next tg_13)).sl hR1 (by omega) (by omega)).mono ?_; rintro e w' ⟨rfl, rfl⟩
  go_wp2
  go_ret
  exact ⟨rfl, hW.trans (ta_13.mono (by omega))⟩
end Go.Proofs.Ytjpoaiiminofdaa
