/-
  The law on BrokenGrains, walked.
-/
import Derived.Test.YtapfnelghmnajaaBrk2
import Derived.WalkKit
import Derived.WalkSpells
import Derived.WalkLawsBesides
import Derived.Lib.Hide
import Derived.Deep.QuietTactic
import Derived.BigQuiet
import Derived.StillTailTactics
namespace Go.Proofs.Ytapfnelghmnajaa
open Go.RowKit

set_option maxHeartbeats 8000000 in
theorem walk_BrokenGrains (A0 : Option Addr) (c0 : Nat) (L : List Int) (hn0 : (L.length : Int) ≤ 9223372036854775807) (_hI0 : ∀ x ∈ L, InI1 x) (z : Int) (_hI1 : InI z) (w : World) (hr0 : SlR f1 1 w w.heap.size A0 L) :
    Calls Try.prog 11 #[.agg #[.slice A0 L.length c0], .int .i64 z] w fun e w' => e = .returned (.bool true) ∧ Below w.heap.size w w' := by
  by_cases hs0 : (1048576 : Int) - L.length < 0
  · have Hv0 := Lib.hid (show szV (1048576) L.length = -1 from if_pos hs0)
    clear _hI0 _hI1
    go_enter Try.func11, Try.ntmps11
    go_wp2_with fail
    refine (szSample_any _ _ _ _ _ hn0 (by omega) (by omega)).mono ?_; rintro e ws0 ⟨rfl, hbs0⟩
    have zs0 := hbs0.size
    try simp at zs0
    rw [Hv0.out]
    go_wp2
    go_ret
    exact ⟨rfl, by (repeat (first | exact Below.refl _ _ | refine Below.drew ?_ | refine below_drewN ?_ _ | (refine Below.alloc ?_ (by (try simp) <;> omega) _) | (refine Below.setCell ?_ (by (try simp) <;> omega) _) | (refine Below.trans ?_ (Below.mono (by assumption) (by (try simp) <;> omega)))))⟩
  have Hv0 := Lib.hid (show szV (1048576) L.length = 1048576 - L.length from if_neg hs0)
  have hm0 : (L.length : Int) ≤ 1048576 := by omega
  have C1 := Lib.hid (fun A0 c0 w h0 => SBrokenGrains_any A0 c0 L z w h0 hm0)
  have C2 := Lib.hid (fun A0 c0 w h0 => BrokenGrains_any A0 c0 L z w h0 hm0)
  have hl := brkR_len L z
  clear _hI0 _hI1
  generalize brkR L z = R at *
  generalize brkU L z = r1 at *
  have nb1 := neB r1
  have hR1 : (R.length : Int) ≤ 1048576 := by omega
  have hR2 : (R.length : Int) ≤ 9223372036854775807 := by omega
  have hR3 : (0 : Int) ≤ (R.length : Int) := by omega
  have ER := Lib.hid (eqL_refl R)
  have nm := neI (1 + 1 * (R.length : Int))
  have nm' := neI (1 + (R.length : Int))
  have hl0 : (0 : Int) ≤ (L.length : Int) := by omega
  have E0 := Lib.hid (eqL_refl L)
  go_enter Try.func11, Try.ntmps11
  go_wp2_with fail
  have hW : Below w.heap.size w (w.alloc (.cells #[.slice A0 L.length c0] 27 (0, 0))) := by (repeat (first | exact Below.refl _ _ | refine Below.drew ?_ | refine below_drewN ?_ _ | (refine Below.alloc ?_ (by (try simp) <;> omega) _) | (refine Below.setCell ?_ (by (try simp) <;> omega) _) | (refine Below.trans ?_ (Below.mono (by assumption) (by (try simp) <;> omega)))))
  have zW : w.heap.size + 1 ≤ (w.alloc (.cells #[.slice A0 L.length c0] 27 (0, 0))).heap.size := by simp
  have hw0 := (hr0.below hW).mono (show w.heap.size ≤ (w.alloc (.cells #[.slice A0 L.length c0] 27 (0, 0))).heap.size by omega)
  have k0_0 : (w.alloc (.cells #[.slice A0 L.length c0] 27 (0, 0))).cell? ⟨w.heap.size, 0, none⟩ = some (.slice A0 L.length c0) := by simp
  generalize (w.alloc (.cells #[.slice A0 L.length c0] 27 (0, 0))) = W0 at *
  refine (szSample_any _ _ _ _ _ hn0 (by omega) (by omega)).mono ?_; rintro e w1 ⟨rfl, hb1⟩
  have z1 := hb1.size
  have ta_1 := hb1
  have kk0_0 := ((bblk ta_1 (g := w.heap.size) (by omega)).1 0).trans k0_0
  rw [Hv0.out]
  have kk0_0 := ((bblk ta_1 (g := w.heap.size) (by omega)).1 0).trans k0_0
  go_wp2_with fail
  refine (toSample_any _ _ _ _ ((hw0.below ta_1).mono (by omega)) hm0).mono ?_; rintro e w2 ⟨B2, d2, rfl, x2, hb2⟩
  have z2 := hb2.size
  have ta_2 := ta_1.trans (hb2.mono (by omega))
  go_wp2_with fail
  refine (C1.out _ _ _ (x2).sl).mono ?_; rintro e w3 ⟨P3, p3, rfl, o3, hb3⟩
  have z3 := hb3.size
  have ta_3 := ta_2.trans (hb3.mono (by omega))
  have kk0_0 := ((bblk ta_3 (g := w.heap.size) (by omega)).1 0).trans k0_0
  have hnb3_0 := (show w.heap.size < w3.heap.size by omega)
  go_wp2_with fail
  have hb4 : Below w3.heap.size w3 (w3.alloc (.cells #[.slice P3 R.length p3] 30 (0, 0))) := by (repeat (first | exact Below.refl _ _ | refine Below.drew ?_ | refine below_drewN ?_ _ | (refine Below.alloc ?_ (by (try simp) <;> omega) _) | (refine Below.setCell ?_ (by (try simp) <;> omega) _) | (refine Below.trans ?_ (Below.mono (by assumption) (by (try simp) <;> omega)))))
  have z4 := hb4.size
  have zz4 : w3.heap.size < (w3.alloc (.cells #[.slice P3 R.length p3] 30 (0, 0))).heap.size := by simp
  have q4 : (w3.alloc (.cells #[.slice P3 R.length p3] 30 (0, 0))).cell? ⟨w3.heap.size, 0, none⟩ = some (.slice P3 R.length p3) := by simp
  generalize (w3.alloc (.cells #[.slice P3 R.length p3] 30 (0, 0))) = w4 at *
  have ta_4 := ta_3.trans (hb4.mono (by omega))
  have tr_4 := hb4
  have kk0_0 := ((bblk ta_4 (g := w.heap.size) (by omega)).1 0).trans k0_0
  have kk_br := q4
  refine (toSample_any _ _ _ _ ((hw0.below ta_4).mono (by omega)) hm0).mono ?_; rintro e w5 ⟨B5, d5, rfl, x5, hb5⟩
  have z5 := hb5.size
  have ta_5 := ta_4.trans (hb5.mono (by omega))
  have tr_5 := tr_4.trans (hb5.mono (by omega))
  have tbr_5 := hb5
  have y5 := x5.sl
  have kk0_0 := ((bblk ta_5 (g := w.heap.size) (by omega)).1 0).trans k0_0
  have kk_br := ((bblk tbr_5 (g := w3.heap.size) (by omega)).1 0).trans q4
  have hnb5_0 := (show w.heap.size < w5.heap.size by omega)
  have hnx5_br := (show w3.heap.size < w5.heap.size by omega)
  go_wp2_with fail
  have hb6 : Below w5.heap.size w5 (w5.alloc (.cells #[.slice B5 L.length d5] 30 (0, 0))) := by (repeat (first | exact Below.refl _ _ | refine Below.drew ?_ | refine below_drewN ?_ _ | (refine Below.alloc ?_ (by (try simp) <;> omega) _) | (refine Below.setCell ?_ (by (try simp) <;> omega) _) | (refine Below.trans ?_ (Below.mono (by assumption) (by (try simp) <;> omega)))))
  have z6 := hb6.size
  have zz6 : w5.heap.size < (w5.alloc (.cells #[.slice B5 L.length d5] 30 (0, 0))).heap.size := by simp
  have q6 : (w5.alloc (.cells #[.slice B5 L.length d5] 30 (0, 0))).cell? ⟨w5.heap.size, 0, none⟩ = some (.slice B5 L.length d5) := by simp
  generalize (w5.alloc (.cells #[.slice B5 L.length d5] 30 (0, 0))) = w6 at *
  have ta_6 := ta_5.trans (hb6.mono (by omega))
  have tr_6 := tr_5.trans (hb6.mono (by omega))
  have tbr_6 := tbr_5.trans (hb6.mono (by omega))
  have tx0_6 := hb6
  have kk0_0 := ((bblk ta_6 (g := w.heap.size) (by omega)).1 0).trans k0_0
  have kk_br := ((bblk tbr_6 (g := w3.heap.size) (by omega)).1 0).trans q4
  have kk_bx0 := q6
  refine (C2.out _ _ _ ((x5.next tx0_6)).sl).mono ?_; rintro e w7 ⟨P7, p7, rfl, o7, hb7⟩
  have z7 := hb7.size
  have ta_7 := ta_6.trans (hb7.mono (by omega))
  have tr_7 := tr_6.trans (hb7.mono (by omega))
  have tbr_7 := tbr_6.trans (hb7.mono (by omega))
  have tx0_7 := tx0_6.trans (hb7.mono (by omega))
  have tbx0_7 := hb7
  have y7 := o7.sl
  have kk0_0 := ((bblk ta_7 (g := w.heap.size) (by omega)).1 0).trans k0_0
  have kk_br := ((bblk tbr_7 (g := w3.heap.size) (by omega)).1 0).trans q4
  have kk_bx0 := ((bblk tbx0_7 (g := w5.heap.size) (by omega)).1 0).trans q6
  have hnb7_0 := (show w.heap.size < w7.heap.size by omega)
  have hnx7_br := (show w3.heap.size < w7.heap.size by omega)
  have hnx7_bx0 := (show w5.heap.size < w7.heap.size by omega)
  go_wp2_with fail
  have hb8 : Below w7.heap.size w7 (w7.alloc (.cells #[.slice P7 R.length p7] 30 (0, 0))) := by (repeat (first | exact Below.refl _ _ | refine Below.drew ?_ | refine below_drewN ?_ _ | (refine Below.alloc ?_ (by (try simp) <;> omega) _) | (refine Below.setCell ?_ (by (try simp) <;> omega) _) | (refine Below.trans ?_ (Below.mono (by assumption) (by (try simp) <;> omega)))))
  have z8 := hb8.size
  have zz8 : w7.heap.size < (w7.alloc (.cells #[.slice P7 R.length p7] 30 (0, 0))).heap.size := by simp
  have q8 : (w7.alloc (.cells #[.slice P7 R.length p7] 30 (0, 0))).cell? ⟨w7.heap.size, 0, none⟩ = some (.slice P7 R.length p7) := by simp
  generalize (w7.alloc (.cells #[.slice P7 R.length p7] 30 (0, 0))) = w8 at *
  have ta_8 := ta_7.trans (hb8.mono (by omega))
  have tr_8 := tr_7.trans (hb8.mono (by omega))
  have tbr_8 := tbr_7.trans (hb8.mono (by omega))
  have tx0_8 := tx0_7.trans (hb8.mono (by omega))
  have tbx0_8 := tbx0_7.trans (hb8.mono (by omega))
  have tg_8 := hb8
  have kk0_0 := ((bblk ta_8 (g := w.heap.size) (by omega)).1 0).trans k0_0
  have kk_br := ((bblk tbr_8 (g := w3.heap.size) (by omega)).1 0).trans q4
  have kk_bx0 := ((bblk tbx0_8 (g := w5.heap.size) (by omega)).1 0).trans q6
  have kk_bg := q8
  refine (eqSample_any _ _ _ _ _ _ _ ((o7.next tg_8)).sl ((o3.next tr_8)).sl hR2).mono ?_; rintro e w9 ⟨rfl, hb9⟩
  rw [ER.out]
  have z9 := hb9.size
  have ta_9 := ta_8.trans (hb9.mono (by omega))
  have tr_9 := tr_8.trans (hb9.mono (by omega))
  have tbr_9 := tbr_8.trans (hb9.mono (by omega))
  have tx0_9 := tx0_8.trans (hb9.mono (by omega))
  have tbx0_9 := tbx0_8.trans (hb9.mono (by omega))
  have tg_9 := tg_8.trans (hb9.mono (by omega))
  have tbg_9 := hb9
  have kk0_0 := ((bblk ta_9 (g := w.heap.size) (by omega)).1 0).trans k0_0
  have kk_br := ((bblk tbr_9 (g := w3.heap.size) (by omega)).1 0).trans q4
  have kk_bx0 := ((bblk tbx0_9 (g := w5.heap.size) (by omega)).1 0).trans q6
  have kk_bg := ((bblk tbg_9 (g := w7.heap.size) (by omega)).1 0).trans q8
  go_wp2_with fail
  have xs := ((x5.next tx0_9)).sl
  have bs0 : SlR f1 1 w9 w9.heap.size A0 L := ((hw0.below ta_9).mono (by omega))
  refine wp_region_grow [.val (.agg #[.slice B5 L.length d5]), .val (.agg #[.slice A0 L.length c0]), .pred (SmV L), .val (.bool true), .val (.bool false)] mixed (by kernel_rfl) ?_
  refine SeqG.valStep (fun wv hbv hpv => ?_) ?_
  · have e1 := ((bblk hbv (g := w5.heap.size) (by omega)).1 0).trans kk_bx0
    go_wp2_with fail
    exact post_val (Below.refl _ _)
  simp only [Act.put, List.setIfInBounds_toArray, List.set_cons_zero, List.set_cons_succ]
  refine SeqG.valStep (fun wv hbv hpv => ?_) ?_
  · have e1 := ((bblk hbv (g := w.heap.size) (by omega)).1 0).trans kk0_0
    go_wp2_with fail
    exact post_val (Below.refl _ _)
  simp only [Act.put, List.setIfInBounds_toArray, List.set_cons_zero, List.set_cons_succ]
  refine SeqG.predStep SmV.next (fun wv hbv hpv => ?_) (fun v0 => ?_)
  · go_wp2_with fail
    refine (toSample_any _ _ _ _ (bs0.next hbv) hm0).mono ?_; rintro e w1 ⟨B1, d1, rfl, q1, hb1⟩
    go_wp2_with fail
    exact post_pred _ hb1 ⟨_, _, rfl, q1.sl⟩
  simp only [Act.put, List.setIfInBounds_toArray, List.set_cons_zero, List.set_cons_succ]
  refine SeqG.valStep (fun wv hbv hpv => ?_) ?_
  · obtain ⟨B0, d0, rfl, s0⟩ := hpv _ (.head _) (by kernel_rfl)
    clear hpv
    go_wp2_with fail
    refine (eqSample_any _ _ _ _ _ _ _ (xs.next hbv) s0 hn0).mono ?_; rintro e w2 ⟨rfl, hb2⟩
    rw [E0.out]
    go_wp2_with fail
    exact post_val hb2
  simp only [Act.put, List.setIfInBounds_toArray, List.set_cons_zero, List.set_cons_succ]
  refine SeqG.valStep (fun wv hbv hpv => ?_) ?_
  · skip
    go_wp2_with fail
    exact post_val (Below.refl _ _)
  simp only [Act.put, List.setIfInBounds_toArray, List.set_cons_zero, List.set_cons_succ]
  refine SeqG.done fun w10 hb10 hpv => ?_
  clear hpv xs bs0
  have z10 := hb10.size
  have ta_10 := ta_9.trans (hb10.mono (by omega))
  have tr_10 := tr_9.trans (hb10.mono (by omega))
  have tbr_10 := tbr_9.trans (hb10.mono (by omega))
  have tx0_10 := tx0_9.trans (hb10.mono (by omega))
  have tbx0_10 := tbx0_9.trans (hb10.mono (by omega))
  have tg_10 := tg_9.trans (hb10.mono (by omega))
  have tbg_10 := tbg_9.trans (hb10.mono (by omega))
  go_wp2_with fail
  refine NoPan.normal ?_
  have mm11 := (x5.next tx0_10)
  have kk0_0 := ((bblk ta_10 (g := w.heap.size) (by omega)).1 0).trans k0_0
  have kk_br := ((bblk tbr_10 (g := w3.heap.size) (by omega)).1 0).trans q4
  have kk_bx0 := ((bblk tbx0_10 (g := w5.heap.size) (by omega)).1 0).trans q6
  have kk_bg := ((bblk tbg_10 (g := w7.heap.size) (by omega)).1 0).trans q8
  go_wp2_with fail
  refine (markSample_any _ _ _ _ _ _ mm11 hm0 (by omega) (by omega)).mono ?_; rintro e w12 ⟨rfl, m12, w11, hb11, oo12, on12⟩
  have z11 := hb11.size
  have ta_11 := ta_10.trans (hb11.mono (by omega))
  have tr_11 := tr_10.trans (hb11.mono (by omega))
  have tbr_11 := tbr_10.trans (hb11.mono (by omega))
  have tx0_11 := tx0_10.trans (hb11.mono (by omega))
  have tbx0_11 := tbx0_10.trans (hb11.mono (by omega))
  have tg_11 := tg_10.trans (hb11.mono (by omega))
  have tbg_11 := tbg_10.trans (hb11.mono (by omega))
  have mn11 := mm11.next hb11
  have hb12 : Below w4.heap.size w11 w12 := mn11.onlyBelow oo12 on12
  have z12 := oo12.size
  have ta_12 := ta_11.trans (hb12.mono (by omega))
  have tr_12 := tr_11.trans (hb12.mono (by omega))
  have tbr_12 := tbr_11.trans (hb12.mono (by omega))
  have eg_12 := ((o7.next tg_11)).keep oo12 on12 (y5.mono (by omega))
  have ebg_12 := cell_keep (p := ⟨w7.heap.size, 0, none⟩) oo12 on12 y5 (by (try simp only []); omega) (((bblk tbg_11 (g := w7.heap.size) (by omega)).1 0).trans q8)
  clear oo12 on12
  have kk0_0 := ((bblk ta_12 (g := w.heap.size) (by omega)).1 0).trans k0_0
  have kk_br := ((bblk tbr_12 (g := w3.heap.size) (by omega)).1 0).trans q4
  have kk_bg := ebg_12
  go_wp2_with fail
  refine (eqSample_any _ _ _ _ _ _ _ (eg_12).sl ((o3.next tr_12)).sl hR2).mono ?_; rintro e w13 ⟨rfl, hb13⟩
  rw [ER.out]
  have z13 := hb13.size
  have ta_13 := ta_12.trans (hb13.mono (by omega))
  have tr_13 := tr_12.trans (hb13.mono (by omega))
  have tbr_13 := tbr_12.trans (hb13.mono (by omega))
  have tg_13 := hb13
  have tbg_13 := hb13
  have mm14 := (eg_12.next tg_13)
  have kk0_0 := ((bblk ta_13 (g := w.heap.size) (by omega)).1 0).trans k0_0
  have kk_br := ((bblk tbr_13 (g := w3.heap.size) (by omega)).1 0).trans q4
  have kk_bg := ((bblk tbg_13 (g := w7.heap.size) (by omega)).1 0).trans ebg_12
  go_wp2_with fail
  refine (markSample_any _ _ _ _ _ _ mm14 hR1 (by omega) (by omega)).mono ?_; rintro e w15 ⟨rfl, m15, w14, hb14, oo15, on15⟩
  have z14 := hb14.size
  have ta_14 := ta_13.trans (hb14.mono (by omega))
  have tr_14 := tr_13.trans (hb14.mono (by omega))
  have tbr_14 := tbr_13.trans (hb14.mono (by omega))
  have tg_14 := tg_13.trans (hb14.mono (by omega))
  have tbg_14 := tbg_13.trans (hb14.mono (by omega))
  have mn14 := mm14.next hb14
  have hb15 : Below w6.heap.size w14 w15 := mn14.onlyBelow oo15 on15
  have z15 := oo15.size
  have ta_15 := ta_14.trans (hb15.mono (by omega))
  have tr_15 := tr_14.trans (hb15.mono (by omega))
  have tbr_15 := tbr_14.trans (hb15.mono (by omega))
  have ebg_15 := cell_keep (p := ⟨w7.heap.size, 0, none⟩) oo15 on15 y7 (by (try simp only []); omega) (((bblk tbg_14 (g := w7.heap.size) (by omega)).1 0).trans ebg_12)
  clear oo15 on15
  have kk0_0 := ((bblk ta_15 (g := w.heap.size) (by omega)).1 0).trans k0_0
  have kk_br := ((bblk tbr_15 (g := w3.heap.size) (by omega)).1 0).trans q4
  have kk_bg := ebg_15
  go_wp2_with fail
  refine (heldSample_any _ _ _ _ _ (m15).sl hR1 (by omega) (by omega)).mono ?_; rintro e w16 ⟨rfl, hb16⟩
  have z16 := hb16.size
  have ta_16 := ta_15.trans (hb16.mono (by omega))
  have tr_16 := tr_15.trans (hb16.mono (by omega))
  have tbr_16 := tbr_15.trans (hb16.mono (by omega))
  have tg_16 := hb16
  have tbg_16 := hb16
  have kk0_0 := ((bblk ta_16 (g := w.heap.size) (by omega)).1 0).trans k0_0
  have kk_br := ((bblk tbr_16 (g := w3.heap.size) (by omega)).1 0).trans q4
  have kk_bg := ((bblk tbg_16 (g := w7.heap.size) (by omega)).1 0).trans ebg_15
  go_wp2_with fail
  refine (toSample_any _ _ _ _ ((hw0.below ta_16).mono (by omega)) hm0).mono ?_; rintro e w17 ⟨B17, d17, rfl, x17, hb17⟩
  have z17 := hb17.size
  have ta_17 := ta_16.trans (hb17.mono (by omega))
  have tr_17 := tr_16.trans (hb17.mono (by omega))
  have tbr_17 := tbr_16.trans (hb17.mono (by omega))
  have tg_17 := tg_16.trans (hb17.mono (by omega))
  have tbg_17 := tbg_16.trans (hb17.mono (by omega))
  go_wp2_with fail
  refine (C2.out _ _ _ (x17).sl).mono ?_; rintro e w18 ⟨P18, p18, rfl, o18, hb18⟩
  have z18 := hb18.size
  have ta_18 := ta_17.trans (hb18.mono (by omega))
  have tr_18 := tr_17.trans (hb18.mono (by omega))
  have tbr_18 := tbr_17.trans (hb18.mono (by omega))
  have tg_18 := tg_17.trans (hb18.mono (by omega))
  have tbg_18 := tbg_17.trans (hb18.mono (by omega))
  have kk0_0 := ((bblk ta_18 (g := w.heap.size) (by omega)).1 0).trans k0_0
  have kk_br := ((bblk tbr_18 (g := w3.heap.size) (by omega)).1 0).trans q4
  have kk_bg := ((bblk tbg_18 (g := w7.heap.size) (by omega)).1 0).trans ebg_15
  have hnb18_0 := (show w.heap.size < w18.heap.size by omega)
  have hnx18_br := (show w3.heap.size < w18.heap.size by omega)
  have hnx18_bg := (show w7.heap.size < w18.heap.size by omega)
  go_wp2_with fail
  have hb19 : Below w18.heap.size w18 (w18.alloc (.cells #[.slice P18 R.length p18] 30 (0, 0))) := by (repeat (first | exact Below.refl _ _ | refine Below.drew ?_ | refine below_drewN ?_ _ | (refine Below.alloc ?_ (by (try simp) <;> omega) _) | (refine Below.setCell ?_ (by (try simp) <;> omega) _) | (refine Below.trans ?_ (Below.mono (by assumption) (by (try simp) <;> omega)))))
  have z19 := hb19.size
  have zz19 : w18.heap.size < (w18.alloc (.cells #[.slice P18 R.length p18] 30 (0, 0))).heap.size := by simp
  have q19 : (w18.alloc (.cells #[.slice P18 R.length p18] 30 (0, 0))).cell? ⟨w18.heap.size, 0, none⟩ = some (.slice P18 R.length p18) := by simp
  generalize (w18.alloc (.cells #[.slice P18 R.length p18] 30 (0, 0))) = w19 at *
  have ta_19 := ta_18.trans (hb19.mono (by omega))
  have tr_19 := tr_18.trans (hb19.mono (by omega))
  have tbr_19 := tbr_18.trans (hb19.mono (by omega))
  have tg_19 := tg_18.trans (hb19.mono (by omega))
  have tbg_19 := tbg_18.trans (hb19.mono (by omega))
  have th_19 := hb19
  have kk0_0 := ((bblk ta_19 (g := w.heap.size) (by omega)).1 0).trans k0_0
  have kk_br := ((bblk tbr_19 (g := w3.heap.size) (by omega)).1 0).trans q4
  have kk_bg := ((bblk tbg_19 (g := w7.heap.size) (by omega)).1 0).trans ebg_15
  have kk_bh := q19
  refine (eqSample_any _ _ _ _ _ _ _ ((o18.next th_19)).sl ((o3.next tr_19)).sl hR2).mono ?_; rintro e w20 ⟨rfl, hb20⟩
  rw [ER.out]
  have z20 := hb20.size
  have ta_20 := ta_19.trans (hb20.mono (by omega))
  have tr_20 := tr_19.trans (hb20.mono (by omega))
  have tbr_20 := tbr_19.trans (hb20.mono (by omega))
  have tg_20 := tg_19.trans (hb20.mono (by omega))
  have tbg_20 := tbg_19.trans (hb20.mono (by omega))
  have th_20 := th_19.trans (hb20.mono (by omega))
  have tbh_20 := hb20
  have kk0_0 := ((bblk ta_20 (g := w.heap.size) (by omega)).1 0).trans k0_0
  have kk_br := ((bblk tbr_20 (g := w3.heap.size) (by omega)).1 0).trans q4
  have kk_bg := ((bblk tbg_20 (g := w7.heap.size) (by omega)).1 0).trans ebg_15
  have kk_bh := ((bblk tbh_20 (g := w18.heap.size) (by omega)).1 0).trans q19
  go_wp2_with fail
  refine (heldSample_any _ _ _ _ _ ((m15.next tg_20)).sl hR1 (by omega) (by omega)).mono ?_; rintro e w21 ⟨rfl, hb21⟩
  have z21 := hb21.size
  have ta_21 := ta_20.trans (hb21.mono (by omega))
  have tr_21 := tr_20.trans (hb21.mono (by omega))
  have tbr_21 := tbr_20.trans (hb21.mono (by omega))
  have tg_21 := tg_20.trans (hb21.mono (by omega))
  have tbg_21 := tbg_20.trans (hb21.mono (by omega))
  have th_21 := th_20.trans (hb21.mono (by omega))
  have tbh_21 := tbh_20.trans (hb21.mono (by omega))
  go_wp2
  go_ret
  exact ⟨rfl, hW.trans (ta_21.mono (by omega))⟩
end Go.Proofs.Ytapfnelghmnajaa
