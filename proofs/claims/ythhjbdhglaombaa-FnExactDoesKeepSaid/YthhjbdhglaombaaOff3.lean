/-
  The laws on OffRungs and DoesKeep, walked.
-/
import Derived.Test.YthhjbdhglaombaaOff2
import Derived.WalkKit
import Derived.WalkSpells
import Derived.WalkLawsBesides
import Derived.Lib.Hide
import Derived.Deep.QuietTactic
import Derived.BigQuiet
import Derived.StillTailTactics
namespace Go.Proofs.Ythhjbdhglaombaa
open Go.RowKit

set_option maxHeartbeats 8000000 in
theorem walk_OffRungs (A0 : Option Addr) (c0 : Nat) (a : List (Int × Int)) (hn0 : (a.length : Int) ≤ 9223372036854775807) (_hI0 : ∀ x ∈ a, InI2 x) (A1 : Option Addr) (c1 : Nat) (b : List (Int × Int × Int)) (hn1 : (b.length : Int) ≤ 9223372036854775807) (_hI1 : ∀ x ∈ b, InI3 x) (w : World) (hr0 : SlR f2 2 w w.heap.size A0 a) (hr1 : SlR f3 3 w w.heap.size A1 b) :
    Calls Try.prog 11 #[.slice A0 a.length c0, .slice A1 b.length c1] w fun e w' => e = .returned (.bool true) ∧ Below w.heap.size w w' := by
  by_cases hs0 : (1048576 : Int) - a.length < 0
  · have Hv0 := Lib.hid (show szV (1048576) a.length = -1 from if_pos hs0)
    clear _hI0 _hI1
    go_enter Try.func11, Try.ntmps11
    go_wp2_with fail
    refine (szRungS_any _ _ _ _ _ hn0 (by omega) (by omega)).mono ?_; rintro e w' ⟨rfl, rfl⟩
    rw [Hv0.out]
    go_wp2
    go_ret
    exact ⟨rfl, by (repeat (first | exact Below.refl _ _ | refine Below.drew ?_ | refine below_drewN ?_ _ | (refine Below.alloc ?_ (by (try simp) <;> omega) _) | (refine Below.setCell ?_ (by (try simp) <;> omega) _) | (refine Below.trans ?_ (Below.mono (by assumption) (by (try simp) <;> omega)))))⟩
  have Hv0 := Lib.hid (show szV (1048576) a.length = 1048576 - a.length from if_neg hs0)
  have hm0 : (a.length : Int) ≤ 1048576 := by omega
  by_cases hs1 : (1048576 - a.length : Int) - b.length < 0
  · have Hv1 := Lib.hid (show szV (1048576 - a.length) b.length = -1 from if_pos hs1)
    clear _hI0 _hI1
    go_enter Try.func11, Try.ntmps11
    go_wp2_with fail
    refine (szRungS_any _ _ _ _ _ hn0 (by omega) (by omega)).mono ?_; rintro e w' ⟨rfl, rfl⟩
    rw [Hv0.out]
    go_wp2_with fail
    refine (szBasinS_any _ _ _ _ _ hn1 (by omega) (by omega)).mono ?_; rintro e w' ⟨rfl, rfl⟩
    rw [Hv1.out]
    go_wp2
    go_ret
    exact ⟨rfl, by (repeat (first | exact Below.refl _ _ | refine Below.drew ?_ | refine below_drewN ?_ _ | (refine Below.alloc ?_ (by (try simp) <;> omega) _) | (refine Below.setCell ?_ (by (try simp) <;> omega) _) | (refine Below.trans ?_ (Below.mono (by assumption) (by (try simp) <;> omega)))))⟩
  have Hv1 := Lib.hid (show szV (1048576 - a.length) b.length = 1048576 - a.length - b.length from if_neg hs1)
  have hm1 : (b.length : Int) ≤ 1048576 := by omega
  have C1 := Lib.hid (fun A0 c0 A1 c1 w h0 h1 => SOffRungs_any A0 c0 a A1 c1 b w h0 hm0 h1 hm1)
  have C2 := Lib.hid (fun A0 c0 A1 c1 w h0 h1 => OffRungs_any A0 c0 a A1 c1 b w h0 hm0 h1 hm1)
  have hl := offR_len a b
  clear _hI0 _hI1
  generalize offR a b = R at *
  generalize matB a b = r1 at *
  have nb1 := neB r1
  have hR1 : (R.length : Int) ≤ 1048576 := by omega
  have hR2 : (R.length : Int) ≤ 9223372036854775807 := by omega
  have hR3 : (0 : Int) ≤ (R.length : Int) := by omega
  have ER := Lib.hid (eqL_refl R)
  have nm := neI (1 + 1 * (R.length : Int))
  have nm' := neI (1 + (R.length : Int))
  have hl0 : (0 : Int) ≤ (a.length : Int) := by omega
  have E0 := Lib.hid (eqL_refl a)
  have hl1 : (0 : Int) ≤ (b.length : Int) := by omega
  have E1 := Lib.hid (eqL_refl b)
  go_enter Try.func11, Try.ntmps11
  go_wp2_with fail
  have hW := Below.refl w.heap.size w
  have zW : w.heap.size ≤ w.heap.size := Nat.le_refl _
  have hw0 := hr0
  have hw1 := hr1
  refine (szRungS_any _ _ _ _ _ hn0 (by omega) (by omega)).mono ?_; rintro e w' ⟨rfl, rfl⟩
  rw [Hv0.out]
  go_wp2_with fail
  refine (szBasinS_any _ _ _ _ _ hn1 (by omega) (by omega)).mono ?_; rintro e w' ⟨rfl, rfl⟩
  rw [Hv1.out]
  go_wp2_with fail
  refine (toRungS_any _ _ _ _ hw0 hm0).mono ?_; rintro e w1 ⟨B1, d1, rfl, x1, hb1⟩
  have z1 := hb1.size
  have ta_1 := hb1
  go_wp2_with fail
  refine (toBasinS_any _ _ _ _ ((hw1.below ta_1).mono (by omega)) hm1).mono ?_; rintro e w2 ⟨B2, d2, rfl, x2, hb2⟩
  have z2 := hb2.size
  have ta_2 := ta_1.trans (hb2.mono (by omega))
  have tn0_2 := hb2
  go_wp2_with fail
  refine (C1.out _ _ _ _ _ ((x1.next tn0_2)).sl (x2).sl).mono ?_; rintro e w3 ⟨P3, p3, rfl, o3, hb3⟩
  have z3 := hb3.size
  have ta_3 := ta_2.trans (hb3.mono (by omega))
  go_wp2_with fail
  refine (toRungS_any _ _ _ _ ((hw0.below ta_3).mono (by omega)) hm0).mono ?_; rintro e w4 ⟨B4, d4, rfl, x4, hb4⟩
  have z4 := hb4.size
  have ta_4 := ta_3.trans (hb4.mono (by omega))
  have tr_4 := hb4
  have y4 := x4.sl
  go_wp2_with fail
  refine (toBasinS_any _ _ _ _ ((hw1.below ta_4).mono (by omega)) hm1).mono ?_; rintro e w5 ⟨B5, d5, rfl, x5, hb5⟩
  have z5 := hb5.size
  have ta_5 := ta_4.trans (hb5.mono (by omega))
  have tr_5 := tr_4.trans (hb5.mono (by omega))
  have tx0_5 := hb5
  have y5 := x5.sl
  go_wp2_with fail
  refine (C2.out _ _ _ _ _ ((x4.next tx0_5)).sl (x5).sl).mono ?_; rintro e w6 ⟨P6, p6, rfl, o6, hb6⟩
  have z6 := hb6.size
  have ta_6 := ta_5.trans (hb6.mono (by omega))
  have tr_6 := tr_5.trans (hb6.mono (by omega))
  have tx0_6 := tx0_5.trans (hb6.mono (by omega))
  have tx1_6 := hb6
  have y6 := o6.sl
  go_wp2_with fail
  refine (eqIntS_any _ _ _ _ _ _ _ (o6).sl ((o3.next tr_6)).sl hR2).mono ?_; rintro e w7 ⟨rfl, hb7⟩
  rw [ER.out]
  have z7 := hb7.size
  have ta_7 := ta_6.trans (hb7.mono (by omega))
  have tr_7 := tr_6.trans (hb7.mono (by omega))
  have tx0_7 := tx0_6.trans (hb7.mono (by omega))
  have tx1_7 := tx1_6.trans (hb7.mono (by omega))
  have tg_7 := hb7
  go_wp2_with fail
  refine (toRungS_any _ _ _ _ ((hw0.below ta_7).mono (by omega)) hm0).mono ?_; rintro e w8 ⟨B8, d8, rfl, x8, hb8⟩
  have z8 := hb8.size
  have ta_8 := ta_7.trans (hb8.mono (by omega))
  have tr_8 := tr_7.trans (hb8.mono (by omega))
  have tx0_8 := tx0_7.trans (hb8.mono (by omega))
  have tx1_8 := tx1_7.trans (hb8.mono (by omega))
  have tg_8 := tg_7.trans (hb8.mono (by omega))
  go_wp2_with fail
  refine (eqRungS_any _ _ _ _ _ _ _ ((x4.next tx0_8)).sl (x8).sl hn0).mono ?_; rintro e w9 ⟨rfl, hb9⟩
  rw [E0.out]
  have z9 := hb9.size
  have ta_9 := ta_8.trans (hb9.mono (by omega))
  have tr_9 := tr_8.trans (hb9.mono (by omega))
  have tx0_9 := tx0_8.trans (hb9.mono (by omega))
  have tx1_9 := tx1_8.trans (hb9.mono (by omega))
  have tg_9 := tg_8.trans (hb9.mono (by omega))
  have tn_9 := hb9
  go_wp2_with fail
  refine (toBasinS_any _ _ _ _ ((hw1.below ta_9).mono (by omega)) hm1).mono ?_; rintro e w10 ⟨B10, d10, rfl, x10, hb10⟩
  have z10 := hb10.size
  have ta_10 := ta_9.trans (hb10.mono (by omega))
  have tr_10 := tr_9.trans (hb10.mono (by omega))
  have tx0_10 := tx0_9.trans (hb10.mono (by omega))
  have tx1_10 := tx1_9.trans (hb10.mono (by omega))
  have tg_10 := tg_9.trans (hb10.mono (by omega))
  go_wp2_with fail
  refine (eqBasinS_any _ _ _ _ _ _ _ ((x5.next tx1_10)).sl (x10).sl hn1).mono ?_; rintro e w11 ⟨rfl, hb11⟩
  rw [E1.out]
  have z11 := hb11.size
  have ta_11 := ta_10.trans (hb11.mono (by omega))
  have tr_11 := tr_10.trans (hb11.mono (by omega))
  have tx0_11 := tx0_10.trans (hb11.mono (by omega))
  have tx1_11 := tx1_10.trans (hb11.mono (by omega))
  have tg_11 := tg_10.trans (hb11.mono (by omega))
  have tn_11 := hb11
  have mm12 := (x4.next tx0_11)
  go_wp2_with fail
  refine (markRungS_any _ _ _ _ _ _ mm12 hm0 (by omega) (by omega)).mono ?_; rintro e w12 ⟨rfl, m12, oo12, on12⟩
  have hb12 : Below w3.heap.size w11 w12 := mm12.onlyBelow oo12 on12
  have z12 := oo12.size
  have ta_12 := ta_11.trans (hb12.mono (by omega))
  have tr_12 := tr_11.trans (hb12.mono (by omega))
  have ex1_12 := ((x5.next tx1_11)).keep oo12 on12 (y4.mono (by omega))
  have eg_12 := ((o6.next tg_11)).keep oo12 on12 (y4.mono (by omega))
  clear oo12 on12
  have mm13 := ex1_12
  go_wp2_with fail
  refine (markBasinS_any _ _ _ _ _ _ mm13 hm1 (by omega) (by omega)).mono ?_; rintro e w13 ⟨rfl, m13, oo13, on13⟩
  have hb13 : Below w4.heap.size w12 w13 := mm13.onlyBelow oo13 on13
  have z13 := oo13.size
  have ta_13 := ta_12.trans (hb13.mono (by omega))
  have tr_13 := tr_12.trans (hb13.mono (by omega))
  have eg_13 := (eg_12).keep oo13 on13 (y5.mono (by omega))
  clear oo13 on13
  go_wp2_with fail
  refine (eqIntS_any _ _ _ _ _ _ _ (eg_13).sl ((o3.next tr_13)).sl hR2).mono ?_; rintro e w14 ⟨rfl, hb14⟩
  rw [ER.out]
  have z14 := hb14.size
  have ta_14 := ta_13.trans (hb14.mono (by omega))
  have tr_14 := tr_13.trans (hb14.mono (by omega))
  have tg_14 := hb14
  have mm15 := (eg_13.next tg_14)
  go_wp2_with fail
  refine (markIntS_any _ _ _ _ _ _ mm15 hR1 (by omega) (by omega)).mono ?_; rintro e w15 ⟨rfl, m15, oo15, on15⟩
  have hb15 : Below w5.heap.size w14 w15 := mm15.onlyBelow oo15 on15
  have z15 := oo15.size
  have ta_15 := ta_14.trans (hb15.mono (by omega))
  have tr_15 := tr_14.trans (hb15.mono (by omega))
  clear oo15 on15
  go_wp2_with fail
  refine (heldIntS_any _ _ _ _ _ (m15).sl hR1 (by omega) (by omega)).mono ?_; rintro e w' ⟨rfl, rfl⟩
  go_wp2_with fail
  refine (toRungS_any _ _ _ _ ((hw0.below ta_15).mono (by omega)) hm0).mono ?_; rintro e w16 ⟨B16, d16, rfl, x16, hb16⟩
  have z16 := hb16.size
  have ta_16 := ta_15.trans (hb16.mono (by omega))
  have tr_16 := tr_15.trans (hb16.mono (by omega))
  have tg_16 := hb16
  go_wp2_with fail
  refine (toBasinS_any _ _ _ _ ((hw1.below ta_16).mono (by omega)) hm1).mono ?_; rintro e w17 ⟨B17, d17, rfl, x17, hb17⟩
  have z17 := hb17.size
  have ta_17 := ta_16.trans (hb17.mono (by omega))
  have tr_17 := tr_16.trans (hb17.mono (by omega))
  have tg_17 := tg_16.trans (hb17.mono (by omega))
  have tn0_17 := hb17
  go_wp2_with fail
  refine (C2.out _ _ _ _ _ ((x16.next tn0_17)).sl (x17).sl).mono ?_; rintro e w18 ⟨P18, p18, rfl, o18, hb18⟩
  have z18 := hb18.size
  have ta_18 := ta_17.trans (hb18.mono (by omega))
  have tr_18 := tr_17.trans (hb18.mono (by omega))
  have tg_18 := tg_17.trans (hb18.mono (by omega))
  go_wp2_with fail
  refine (eqIntS_any _ _ _ _ _ _ _ (o18).sl ((o3.next tr_18)).sl hR2).mono ?_; rintro e w19 ⟨rfl, hb19⟩
  rw [ER.out]
  have z19 := hb19.size
  have ta_19 := ta_18.trans (hb19.mono (by omega))
  have tr_19 := tr_18.trans (hb19.mono (by omega))
  have tg_19 := tg_18.trans (hb19.mono (by omega))
  have th_19 := hb19
  go_wp2_with fail
  refine (heldIntS_any _ _ _ _ _ ((m15.next tg_19)).sl hR1 (by omega) (by omega)).mono ?_; rintro e w' ⟨rfl, rfl⟩
  go_wp2
  go_ret
  exact ⟨rfl, hW.trans (ta_19.mono (by omega))⟩

set_option maxHeartbeats 8000000 in
theorem walk_DoesKeep (A0 : Option Addr) (c0 : Nat) (a : List (Int × Int)) (hn0 : (a.length : Int) ≤ 9223372036854775807) (_hI0 : ∀ x ∈ a, InI2 x) (A1 : Option Addr) (c1 : Nat) (b : List (Int × Int × Int)) (hn1 : (b.length : Int) ≤ 9223372036854775807) (_hI1 : ∀ x ∈ b, InI3 x) (w : World) (hr0 : SlR f2 2 w w.heap.size A0 a) (hr1 : SlR f3 3 w w.heap.size A1 b) :
    Calls Try.prog 10 #[.slice A0 a.length c0, .slice A1 b.length c1] w fun e w' => e = .returned (.bool true) ∧ Below w.heap.size w w' := by
  by_cases hs0 : (1048576 : Int) - a.length < 0
  · have Hv0 := Lib.hid (show szV (1048576) a.length = -1 from if_pos hs0)
    clear _hI0 _hI1
    go_enter Try.func10, Try.ntmps10
    go_wp2_with fail
    refine (szRungS_any _ _ _ _ _ hn0 (by omega) (by omega)).mono ?_; rintro e w' ⟨rfl, rfl⟩
    rw [Hv0.out]
    go_wp2
    go_ret
    exact ⟨rfl, by (repeat (first | exact Below.refl _ _ | refine Below.drew ?_ | refine below_drewN ?_ _ | (refine Below.alloc ?_ (by (try simp) <;> omega) _) | (refine Below.setCell ?_ (by (try simp) <;> omega) _) | (refine Below.trans ?_ (Below.mono (by assumption) (by (try simp) <;> omega)))))⟩
  have Hv0 := Lib.hid (show szV (1048576) a.length = 1048576 - a.length from if_neg hs0)
  have hm0 : (a.length : Int) ≤ 1048576 := by omega
  by_cases hs1 : (1048576 - a.length : Int) - b.length < 0
  · have Hv1 := Lib.hid (show szV (1048576 - a.length) b.length = -1 from if_pos hs1)
    clear _hI0 _hI1
    go_enter Try.func10, Try.ntmps10
    go_wp2_with fail
    refine (szRungS_any _ _ _ _ _ hn0 (by omega) (by omega)).mono ?_; rintro e w' ⟨rfl, rfl⟩
    rw [Hv0.out]
    go_wp2_with fail
    refine (szBasinS_any _ _ _ _ _ hn1 (by omega) (by omega)).mono ?_; rintro e w' ⟨rfl, rfl⟩
    rw [Hv1.out]
    go_wp2
    go_ret
    exact ⟨rfl, by (repeat (first | exact Below.refl _ _ | refine Below.drew ?_ | refine below_drewN ?_ _ | (refine Below.alloc ?_ (by (try simp) <;> omega) _) | (refine Below.setCell ?_ (by (try simp) <;> omega) _) | (refine Below.trans ?_ (Below.mono (by assumption) (by (try simp) <;> omega)))))⟩
  have Hv1 := Lib.hid (show szV (1048576 - a.length) b.length = 1048576 - a.length - b.length from if_neg hs1)
  have hm1 : (b.length : Int) ≤ 1048576 := by omega
  have C1 := Lib.hid (fun A0 c0 A1 c1 w h0 h1 => SDoesKeep_any A0 c0 a A1 c1 b w h0 hm0 h1 hm1)
  have C2 := Lib.hid (fun A0 c0 A1 c1 w h0 h1 => DoesKeep_any A0 c0 a A1 c1 b w h0 hm0 h1 hm1)
  clear _hI0 _hI1
  generalize keepB a b = r0 at *
  generalize matB a b = r1 at *
  have nb0 := neB r0
  have nb1 := neB r1
  have hl0 : (0 : Int) ≤ (a.length : Int) := by omega
  have E0 := Lib.hid (eqL_refl a)
  have hl1 : (0 : Int) ≤ (b.length : Int) := by omega
  have E1 := Lib.hid (eqL_refl b)
  go_enter Try.func10, Try.ntmps10
  go_wp2_with fail
  have hW := Below.refl w.heap.size w
  have zW : w.heap.size ≤ w.heap.size := Nat.le_refl _
  have hw0 := hr0
  have hw1 := hr1
  refine (szRungS_any _ _ _ _ _ hn0 (by omega) (by omega)).mono ?_; rintro e w' ⟨rfl, rfl⟩
  rw [Hv0.out]
  go_wp2_with fail
  refine (szBasinS_any _ _ _ _ _ hn1 (by omega) (by omega)).mono ?_; rintro e w' ⟨rfl, rfl⟩
  rw [Hv1.out]
  go_wp2_with fail
  refine (toRungS_any _ _ _ _ hw0 hm0).mono ?_; rintro e w1 ⟨B1, d1, rfl, x1, hb1⟩
  have z1 := hb1.size
  have ta_1 := hb1
  go_wp2_with fail
  refine (toBasinS_any _ _ _ _ ((hw1.below ta_1).mono (by omega)) hm1).mono ?_; rintro e w2 ⟨B2, d2, rfl, x2, hb2⟩
  have z2 := hb2.size
  have ta_2 := ta_1.trans (hb2.mono (by omega))
  have tn0_2 := hb2
  go_wp2_with fail
  refine (C1.out _ _ _ _ _ ((x1.next tn0_2)).sl (x2).sl).mono ?_; rintro e w3 ⟨rfl, hb3⟩
  have z3 := hb3.size
  have ta_3 := ta_2.trans (hb3.mono (by omega))
  go_wp2_with fail
  refine (toRungS_any _ _ _ _ ((hw0.below ta_3).mono (by omega)) hm0).mono ?_; rintro e w4 ⟨B4, d4, rfl, x4, hb4⟩
  have z4 := hb4.size
  have ta_4 := ta_3.trans (hb4.mono (by omega))
  have y4 := x4.sl
  go_wp2_with fail
  refine (toBasinS_any _ _ _ _ ((hw1.below ta_4).mono (by omega)) hm1).mono ?_; rintro e w5 ⟨B5, d5, rfl, x5, hb5⟩
  have z5 := hb5.size
  have ta_5 := ta_4.trans (hb5.mono (by omega))
  have tx0_5 := hb5
  have y5 := x5.sl
  go_wp2_with fail
  refine (C2.out _ _ _ _ _ ((x4.next tx0_5)).sl (x5).sl).mono ?_; rintro e w6 ⟨rfl, hb6⟩
  have z6 := hb6.size
  have ta_6 := ta_5.trans (hb6.mono (by omega))
  have tx0_6 := tx0_5.trans (hb6.mono (by omega))
  have tx1_6 := hb6
  go_wp2_with fail
  refine (toRungS_any _ _ _ _ ((hw0.below ta_6).mono (by omega)) hm0).mono ?_; rintro e w7 ⟨B7, d7, rfl, x7, hb7⟩
  have z7 := hb7.size
  have ta_7 := ta_6.trans (hb7.mono (by omega))
  have tx0_7 := tx0_6.trans (hb7.mono (by omega))
  have tx1_7 := tx1_6.trans (hb7.mono (by omega))
  go_wp2_with fail
  refine (eqRungS_any _ _ _ _ _ _ _ ((x4.next tx0_7)).sl (x7).sl hn0).mono ?_; rintro e w8 ⟨rfl, hb8⟩
  rw [E0.out]
  have z8 := hb8.size
  have ta_8 := ta_7.trans (hb8.mono (by omega))
  have tx0_8 := tx0_7.trans (hb8.mono (by omega))
  have tx1_8 := tx1_7.trans (hb8.mono (by omega))
  have tn_8 := hb8
  go_wp2_with fail
  refine (toBasinS_any _ _ _ _ ((hw1.below ta_8).mono (by omega)) hm1).mono ?_; rintro e w9 ⟨B9, d9, rfl, x9, hb9⟩
  have z9 := hb9.size
  have ta_9 := ta_8.trans (hb9.mono (by omega))
  have tx0_9 := tx0_8.trans (hb9.mono (by omega))
  have tx1_9 := tx1_8.trans (hb9.mono (by omega))
  go_wp2_with fail
  refine (eqBasinS_any _ _ _ _ _ _ _ ((x5.next tx1_9)).sl (x9).sl hn1).mono ?_; rintro e w10 ⟨rfl, hb10⟩
  rw [E1.out]
  have z10 := hb10.size
  have ta_10 := ta_9.trans (hb10.mono (by omega))
  have tx0_10 := tx0_9.trans (hb10.mono (by omega))
  have tx1_10 := tx1_9.trans (hb10.mono (by omega))
  have tn_10 := hb10
  go_wp2
  go_ret
  exact ⟨rfl, hW.trans (ta_10.mono (by omega))⟩
end Go.Proofs.Ythhjbdhglaombaa
