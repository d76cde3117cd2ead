/-
  The law on AddTrip, walked.
-/
import Derived.Test.YtfcmfadkkfkidaaAdd2
import Derived.Test.YtfcmfadkkfkidaaHTrip
import Derived.Test.YtfcmfadkkfkidaaHTripC
import Derived.Test.YtfcmfadkkfkidaaPred
import Derived.WalkKit
import Derived.WalkSpells
import Derived.WalkLawsBesides
import Derived.Lib.Hide
import Derived.Deep.QuietTactic
import Derived.BigQuiet
import Derived.StillTailTactics
namespace Go.Proofs.Ytfcmfadkkfkidaa
open Go.RowKit

theorem AddTrip_w (A : Option Addr) (c : Nat) (L : List T5) (a b d e g : Int) (w : World) (hr : SlR f5 5 w w.heap.size A L) (hm : (L.length : Int) ≤ 1048576) (hI : ∀ x ∈ L, InI5 x) (ht : InI a ∧ InI b ∧ InI d ∧ InI e ∧ InI g) (_hc : L.length ≤ c ∧ ∃ x, A = some x) :
    Calls Try.prog 47 #[.slice A L.length c, tripV a b d e g] w (NewSl2 f5 5 25 w (addL L (a, b, d, e, g)) (addU L (a, b, d, e, g))) := AddTrip_any A c L (a, b, d, e, g) w hr hm hI ht
theorem SAddTrip_w (A : Option Addr) (c : Nat) (L : List T5) (a b d e g : Int) (w : World) (hr : SlR f5 5 w w.heap.size A L) (hm : (L.length : Int) ≤ 1048576) (hI : ∀ x ∈ L, InI5 x) (ht : InI a ∧ InI b ∧ InI d ∧ InI e ∧ InI g) (hc : L.length ≤ c ∧ ∃ x, A = some x) :
    Calls Try.prog 46 #[.slice A L.length c, tripV a b d e g] w (NewSl2 f5 5 25 w (addL L (a, b, d, e, g)) (addU L (a, b, d, e, g))) := SAddTrip_any A c L (a, b, d, e, g) w hr hm hI ht hc

set_option maxHeartbeats 8000000 in
theorem walk_AddTrip (A0 : Option Addr) (c0 : Nat) (L : List (Int × Int × Int × Int × Int)) (hn0 : (L.length : Int) ≤ 9223372036854775807) (_hI0 : ∀ x ∈ L, InI5 x) (a b c d g : Int) (_hI1 : InI a ∧ InI b ∧ InI c ∧ InI d ∧ InI g) (w : World) (hr0 : SlR f5 5 w w.heap.size A0 L) :
    Calls Try.prog 12 #[.slice A0 L.length c0, .agg #[.int .i64 a, .int .i64 b, .int .i64 c, .int .i64 d, .int .i64 g]] w fun e w' => e = .returned (.bool true) ∧ Below w.heap.size w w' := by
  by_cases hs0 : (1048576 : Int) - L.length < 0
  · have Hv0 := Lib.hid (show szV (1048576) L.length = -1 from if_pos hs0)
    clear _hI0 _hI1
    go_enter Try.func12, Try.ntmps12
    go_wp2_with fail
    refine (szTripS_any _ _ _ _ _ hn0 (by omega) (by omega)).mono ?_; rintro e w' ⟨rfl, rfl⟩
    rw [Hv0.out]
    go_wp2
    go_ret
    exact ⟨rfl, by (repeat (first | exact Below.refl _ _ | refine Below.drew ?_ | refine below_drewN ?_ _ | (refine Below.alloc ?_ (by (try simp) <;> omega) _) | (refine Below.setCell ?_ (by (try simp) <;> omega) _) | (refine Below.trans ?_ (Below.mono (by assumption) (by (try simp) <;> omega)))))⟩
  have Hv0 := Lib.hid (show szV (1048576) L.length = 1048576 - L.length from if_neg hs0)
  have hm0 : (L.length : Int) ≤ 1048576 := by omega
  have C1 := Lib.hid (fun A0 c0 w h0 hc0 => SAddTrip_w A0 c0 L a b c d g w h0 hm0 _hI0 _hI1 hc0)
  have C2 := Lib.hid (fun A0 c0 w h0 hc0 => AddTrip_w A0 c0 L a b c d g w h0 hm0 _hI0 _hI1 hc0)
  clear _hI0 _hI1
  have hRl := addL_le L (a, b, c, d, g)
  generalize addL L (a, b, c, d, g) = R at *
  generalize addU L (a, b, c, d, g) = r1 at *
  have nb1 := neB r1
  have hR1 : (R.length : Int) ≤ 1048576 := by omega
  have hR2 : (R.length : Int) ≤ 9223372036854775807 := by omega
  have hR3 : (0 : Int) ≤ (R.length : Int) := by omega
  have ER := Lib.hid (eqL_refl R)
  have nm := neI (1 + 5 * (R.length : Int))
  have nm' := neI (1 + (R.length : Int))
  have hl0 : (0 : Int) ≤ (L.length : Int) := by omega
  have E0 := Lib.hid (eqL_refl L)
  go_enter Try.func12, Try.ntmps12
  go_wp2_with fail
  have hW : Below w.heap.size w (w.alloc (.cells #[.int .i64 a, .int .i64 b, .int .i64 c, .int .i64 d, .int .i64 g] 23 (0, 0))) := by (repeat (first | exact Below.refl _ _ | refine Below.drew ?_ | refine below_drewN ?_ _ | (refine Below.alloc ?_ (by (try simp) <;> omega) _) | (refine Below.setCell ?_ (by (try simp) <;> omega) _) | (refine Below.trans ?_ (Below.mono (by assumption) (by (try simp) <;> omega)))))
  have zW : w.heap.size + 1 ≤ (w.alloc (.cells #[.int .i64 a, .int .i64 b, .int .i64 c, .int .i64 d, .int .i64 g] 23 (0, 0))).heap.size := by simp
  have hw0 := (hr0.below hW).mono (show w.heap.size ≤ (w.alloc (.cells #[.int .i64 a, .int .i64 b, .int .i64 c, .int .i64 d, .int .i64 g] 23 (0, 0))).heap.size by omega)
  have k1_0 : (w.alloc (.cells #[.int .i64 a, .int .i64 b, .int .i64 c, .int .i64 d, .int .i64 g] 23 (0, 0))).cell? ⟨w.heap.size, 0, none⟩ = some (.int .i64 a) := by simp
  have k1_1 : (w.alloc (.cells #[.int .i64 a, .int .i64 b, .int .i64 c, .int .i64 d, .int .i64 g] 23 (0, 0))).cell? ⟨w.heap.size, 1, none⟩ = some (.int .i64 b) := by simp
  have k1_2 : (w.alloc (.cells #[.int .i64 a, .int .i64 b, .int .i64 c, .int .i64 d, .int .i64 g] 23 (0, 0))).cell? ⟨w.heap.size, 2, none⟩ = some (.int .i64 c) := by simp
  have k1_3 : (w.alloc (.cells #[.int .i64 a, .int .i64 b, .int .i64 c, .int .i64 d, .int .i64 g] 23 (0, 0))).cell? ⟨w.heap.size, 3, none⟩ = some (.int .i64 d) := by simp
  have k1_4 : (w.alloc (.cells #[.int .i64 a, .int .i64 b, .int .i64 c, .int .i64 d, .int .i64 g] 23 (0, 0))).cell? ⟨w.heap.size, 4, none⟩ = some (.int .i64 g) := by simp
  generalize (w.alloc (.cells #[.int .i64 a, .int .i64 b, .int .i64 c, .int .i64 d, .int .i64 g] 23 (0, 0))) = W0 at *
  refine (szTripS_any _ _ _ _ _ hn0 (by omega) (by omega)).mono ?_; rintro e w' ⟨rfl, rfl⟩
  rw [Hv0.out]
  go_wp2_with fail
  refine wp_region_grow [.fix (.slice A0 L.length c0), .pred (SlVC f5 5 L), .val (.agg #[.int .i64 a, .int .i64 b, .int .i64 c, .int .i64 d, .int .i64 g]), .val (.agg #[.int .i64 a, .int .i64 b, .int .i64 c, .int .i64 d, .int .i64 g]), .pred (TuV f5 5 R r1), .pred (TuV f5 5 R r1), .pred (SlV f5 5 R), .val (.bool r1), .pred (SlV f5 5 R), .val (.bool r1)] mixed (by kernel_rfl) ?_
  refine SeqG.fixStep (.inl ⟨rfl, fun _ => rfl⟩) ?_
  simp only [Act.put, List.setIfInBounds_toArray, List.set_cons_zero, List.set_cons_succ]
  refine SeqG.predStep SlVC.next (fun wv hbv hpv => ?_) (fun v0 => ?_)
  · go_wp2_with fail
    refine (toTripSc_any _ _ _ _ (SlR.next hw0 hbv) hm0).mono ?_; rintro e w1 ⟨B1, d1, rfl, q1, hb1, hcp⟩
    have HCP := Lib.hid hcp
    clear hcp
    go_wp2_with fail
    exact post_pred _ hb1 ⟨_, _, rfl, q1.sl, HCP.out⟩
  simp only [Act.put, List.setIfInBounds_toArray, List.set_cons_zero, List.set_cons_succ]
  refine SeqG.valStep (fun wv hbv hpv => ?_) ?_
  · have e1_0 := ((bblk hbv (g := w.heap.size) (by omega)).1 0).trans k1_0; have e1_1 := ((bblk hbv (g := w.heap.size) (by omega)).1 1).trans k1_1; have e1_2 := ((bblk hbv (g := w.heap.size) (by omega)).1 2).trans k1_2; have e1_3 := ((bblk hbv (g := w.heap.size) (by omega)).1 3).trans k1_3; have e1_4 := ((bblk hbv (g := w.heap.size) (by omega)).1 4).trans k1_4
    go_wp2_with fail
    exact post_val (Below.refl _ _)
  simp only [Act.put, List.setIfInBounds_toArray, List.set_cons_zero, List.set_cons_succ]
  refine SeqG.valStep (fun wv hbv hpv => ?_) ?_
  · go_wp2_with fail
    refine (toTrip_any _ _ _ _ _ _).mono ?_; rintro e w' ⟨he, hb⟩; subst he
    go_wp2_with fail
    exact post_val hb
  simp only [Act.put, List.setIfInBounds_toArray, List.set_cons_zero, List.set_cons_succ]
  refine SeqG.predStep TuV.next (fun wv hbv hpv => ?_) (fun v1 => ?_)
  · obtain ⟨B0, d0, rfl, s0, hcq0⟩ := hpv _ (.head _) (by kernel_rfl)
    have HCQ0 := Lib.hid hcq0
    clear hcq0
    clear hpv
    go_wp2_with fail
    refine (C1.out _ _ _ s0 HCQ0.out).mono ?_; rintro e w2 ⟨B9, d9, rfl, o2, hb2⟩
    go_wp2_with fail
    exact post_pred _ hb2 ⟨_, _, rfl, o2.sl⟩
  simp only [Act.put, List.setIfInBounds_toArray, List.set_cons_zero, List.set_cons_succ]
  refine SeqG.predStep TuV.next (fun wv hbv hpv => ?_) (fun v2 => ?_)
  · have h1 := hpv _ (.head _) (by kernel_rfl)
    clear hpv
    go_wp2_with fail
    exact post_pred _ (Below.refl _ _) h1
  simp only [Act.put, List.setIfInBounds_toArray, List.set_cons_zero, List.set_cons_succ]
  refine SeqG.predStep SlV.next (fun wv hbv hpv => ?_) (fun v3 => ?_)
  · obtain ⟨B1, d1, rfl, s1⟩ := hpv _ (.head _) (by kernel_rfl)
    clear hpv
    go_wp2_with fail
    exact post_pred _ (Below.refl _ _) ⟨_, _, rfl, s1⟩
  simp only [Act.put, List.setIfInBounds_toArray, List.set_cons_zero, List.set_cons_succ]
  refine SeqG.valStep (fun wv hbv hpv => ?_) ?_
  · obtain ⟨B1, d1, rfl, s1⟩ := hpv _ (.tail _ (.head _)) (by kernel_rfl)
    clear hpv
    go_wp2_with fail
    exact post_val (Below.refl _ _)
  simp only [Act.put, List.setIfInBounds_toArray, List.set_cons_zero, List.set_cons_succ]
  refine SeqG.predStep SlV.next (fun wv hbv hpv => ?_) (fun v4 => ?_)
  · obtain ⟨B1, d1, rfl, s1⟩ := hpv _ (.head _) (by kernel_rfl)
    clear hpv
    go_wp2_with fail
    exact post_pred _ (Below.refl _ _) ⟨_, _, rfl, s1⟩
  simp only [Act.put, List.setIfInBounds_toArray, List.set_cons_zero, List.set_cons_succ]
  refine SeqG.valStep (fun wv hbv hpv => ?_) ?_
  · skip
    go_wp2_with fail
    exact post_val (Below.refl _ _)
  simp only [Act.put, List.setIfInBounds_toArray, List.set_cons_zero, List.set_cons_succ]
  refine SeqG.done fun w1 hb1 hpv => ?_
  obtain ⟨P1, p1, rfl, o1⟩ := hpv _ (.head _)
  clear hpv
  have z1 := hb1.size
  have ta_1 := hb1
  go_wp2_with fail
  refine NoPan.normal ?_
  have kk1_0 := ((bblk ta_1 (g := w.heap.size) (by omega)).1 0).trans k1_0
  have kk1_1 := ((bblk ta_1 (g := w.heap.size) (by omega)).1 1).trans k1_1
  have kk1_2 := ((bblk ta_1 (g := w.heap.size) (by omega)).1 2).trans k1_2
  have kk1_3 := ((bblk ta_1 (g := w.heap.size) (by omega)).1 3).trans k1_3
  have kk1_4 := ((bblk ta_1 (g := w.heap.size) (by omega)).1 4).trans k1_4
  go_wp2_with fail
  refine (toTripSc_any _ _ _ _ ((hw0.below ta_1).mono (by omega)) hm0).mono ?_; rintro e w2 ⟨B2, d2, rfl, x2, hb2, hcap2⟩
  have HC2 := Lib.hid hcap2
  clear hcap2
  have z2 := hb2.size
  have ta_2 := ta_1.trans (hb2.mono (by omega))
  have tr_2 := hb2
  have y2 := x2.sl
  have kk1_0 := ((bblk ta_2 (g := w.heap.size) (by omega)).1 0).trans k1_0
  have kk1_1 := ((bblk ta_2 (g := w.heap.size) (by omega)).1 1).trans k1_1
  have kk1_2 := ((bblk ta_2 (g := w.heap.size) (by omega)).1 2).trans k1_2
  have kk1_3 := ((bblk ta_2 (g := w.heap.size) (by omega)).1 3).trans k1_3
  have kk1_4 := ((bblk ta_2 (g := w.heap.size) (by omega)).1 4).trans k1_4
  go_wp2_with fail
  refine (toTrip_any _ _ _ _ _ _).mono ?_; rintro e w3 ⟨rfl, hb3⟩
  have z3 := hb3.size
  have ta_3 := ta_2.trans (hb3.mono (by omega))
  have tr_3 := tr_2.trans (hb3.mono (by omega))
  have tx0_3 := hb3
  have kk1_0 := ((bblk ta_3 (g := w.heap.size) (by omega)).1 0).trans k1_0
  have kk1_1 := ((bblk ta_3 (g := w.heap.size) (by omega)).1 1).trans k1_1
  have kk1_2 := ((bblk ta_3 (g := w.heap.size) (by omega)).1 2).trans k1_2
  have kk1_3 := ((bblk ta_3 (g := w.heap.size) (by omega)).1 3).trans k1_3
  have kk1_4 := ((bblk ta_3 (g := w.heap.size) (by omega)).1 4).trans k1_4
  go_wp2_with fail
  refine (C2.out _ _ _ ((x2.next tx0_3)).sl HC2.out).mono ?_; rintro e w4 ⟨P4, p4, rfl, o4, hb4⟩
  have z4 := hb4.size
  have ta_4 := ta_3.trans (hb4.mono (by omega))
  have tr_4 := tr_3.trans (hb4.mono (by omega))
  have tx0_4 := tx0_3.trans (hb4.mono (by omega))
  have y4 := o4.sl
  have kk1_0 := ((bblk ta_4 (g := w.heap.size) (by omega)).1 0).trans k1_0
  have kk1_1 := ((bblk ta_4 (g := w.heap.size) (by omega)).1 1).trans k1_1
  have kk1_2 := ((bblk ta_4 (g := w.heap.size) (by omega)).1 2).trans k1_2
  have kk1_3 := ((bblk ta_4 (g := w.heap.size) (by omega)).1 3).trans k1_3
  have kk1_4 := ((bblk ta_4 (g := w.heap.size) (by omega)).1 4).trans k1_4
  go_wp2_with fail
  refine (eqTripS_any _ _ _ _ _ _ _ (o4).sl ((o1.below tr_4).mono (by omega)) hR2).mono ?_; rintro e w5 ⟨rfl, hb5⟩
  rw [ER.out]
  have z5 := hb5.size
  have ta_5 := ta_4.trans (hb5.mono (by omega))
  have tr_5 := tr_4.trans (hb5.mono (by omega))
  have tx0_5 := tx0_4.trans (hb5.mono (by omega))
  have tg_5 := hb5
  have kk1_0 := ((bblk ta_5 (g := w.heap.size) (by omega)).1 0).trans k1_0
  have kk1_1 := ((bblk ta_5 (g := w.heap.size) (by omega)).1 1).trans k1_1
  have kk1_2 := ((bblk ta_5 (g := w.heap.size) (by omega)).1 2).trans k1_2
  have kk1_3 := ((bblk ta_5 (g := w.heap.size) (by omega)).1 3).trans k1_3
  have kk1_4 := ((bblk ta_5 (g := w.heap.size) (by omega)).1 4).trans k1_4
  go_wp2_with fail
  refine (toTripSc_any _ _ _ _ ((hw0.below ta_5).mono (by omega)) hm0).mono ?_; rintro e w6 ⟨B6, d6, rfl, x6, hb6, hcap6⟩
  have HC6 := Lib.hid hcap6
  clear hcap6
  have z6 := hb6.size
  have ta_6 := ta_5.trans (hb6.mono (by omega))
  have tr_6 := tr_5.trans (hb6.mono (by omega))
  have tx0_6 := tx0_5.trans (hb6.mono (by omega))
  have tg_6 := tg_5.trans (hb6.mono (by omega))
  have kk1_0 := ((bblk ta_6 (g := w.heap.size) (by omega)).1 0).trans k1_0
  have kk1_1 := ((bblk ta_6 (g := w.heap.size) (by omega)).1 1).trans k1_1
  have kk1_2 := ((bblk ta_6 (g := w.heap.size) (by omega)).1 2).trans k1_2
  have kk1_3 := ((bblk ta_6 (g := w.heap.size) (by omega)).1 3).trans k1_3
  have kk1_4 := ((bblk ta_6 (g := w.heap.size) (by omega)).1 4).trans k1_4
  go_wp2_with fail
  refine (eqTripS_any _ _ _ _ _ _ _ ((x2.next tx0_6)).sl (x6).sl hn0).mono ?_; rintro e w7 ⟨rfl, hb7⟩
  rw [E0.out]
  have z7 := hb7.size
  have ta_7 := ta_6.trans (hb7.mono (by omega))
  have tr_7 := tr_6.trans (hb7.mono (by omega))
  have tx0_7 := tx0_6.trans (hb7.mono (by omega))
  have tg_7 := tg_6.trans (hb7.mono (by omega))
  have tn_7 := hb7
  have mm8 := (x2.next tx0_7)
  have kk1_0 := ((bblk ta_7 (g := w.heap.size) (by omega)).1 0).trans k1_0
  have kk1_1 := ((bblk ta_7 (g := w.heap.size) (by omega)).1 1).trans k1_1
  have kk1_2 := ((bblk ta_7 (g := w.heap.size) (by omega)).1 2).trans k1_2
  have kk1_3 := ((bblk ta_7 (g := w.heap.size) (by omega)).1 3).trans k1_3
  have kk1_4 := ((bblk ta_7 (g := w.heap.size) (by omega)).1 4).trans k1_4
  go_wp2_with fail
  refine (markTripS_any _ _ _ _ _ _ mm8 hm0 (by omega) (by omega)).mono ?_; rintro e w8 ⟨rfl, m8, oo8, on8⟩
  have hb8 : Below w1.heap.size w7 w8 := mm8.onlyBelow oo8 on8
  have z8 := oo8.size
  have ta_8 := ta_7.trans (hb8.mono (by omega))
  have tr_8 := tr_7.trans (hb8.mono (by omega))
  have eg_8 := ((o4.next tg_7)).keep oo8 on8 (y2.mono (by omega))
  clear oo8 on8
  have kk1_0 := ((bblk ta_8 (g := w.heap.size) (by omega)).1 0).trans k1_0
  have kk1_1 := ((bblk ta_8 (g := w.heap.size) (by omega)).1 1).trans k1_1
  have kk1_2 := ((bblk ta_8 (g := w.heap.size) (by omega)).1 2).trans k1_2
  have kk1_3 := ((bblk ta_8 (g := w.heap.size) (by omega)).1 3).trans k1_3
  have kk1_4 := ((bblk ta_8 (g := w.heap.size) (by omega)).1 4).trans k1_4
  go_wp2_with fail
  refine (eqTripS_any _ _ _ _ _ _ _ (eg_8).sl ((o1.below tr_8).mono (by omega)) hR2).mono ?_; rintro e w9 ⟨rfl, hb9⟩
  rw [ER.out]
  have z9 := hb9.size
  have ta_9 := ta_8.trans (hb9.mono (by omega))
  have tr_9 := tr_8.trans (hb9.mono (by omega))
  have tg_9 := hb9
  have mm10 := (eg_8.next tg_9)
  have kk1_0 := ((bblk ta_9 (g := w.heap.size) (by omega)).1 0).trans k1_0
  have kk1_1 := ((bblk ta_9 (g := w.heap.size) (by omega)).1 1).trans k1_1
  have kk1_2 := ((bblk ta_9 (g := w.heap.size) (by omega)).1 2).trans k1_2
  have kk1_3 := ((bblk ta_9 (g := w.heap.size) (by omega)).1 3).trans k1_3
  have kk1_4 := ((bblk ta_9 (g := w.heap.size) (by omega)).1 4).trans k1_4
  go_wp2_with fail
  refine (markTripS_any _ _ _ _ _ _ mm10 hR1 (by omega) (by omega)).mono ?_; rintro e w10 ⟨rfl, m10, oo10, on10⟩
  have hb10 : Below w3.heap.size w9 w10 := mm10.onlyBelow oo10 on10
  have z10 := oo10.size
  have ta_10 := ta_9.trans (hb10.mono (by omega))
  have tr_10 := tr_9.trans (hb10.mono (by omega))
  clear oo10 on10
  have kk1_0 := ((bblk ta_10 (g := w.heap.size) (by omega)).1 0).trans k1_0
  have kk1_1 := ((bblk ta_10 (g := w.heap.size) (by omega)).1 1).trans k1_1
  have kk1_2 := ((bblk ta_10 (g := w.heap.size) (by omega)).1 2).trans k1_2
  have kk1_3 := ((bblk ta_10 (g := w.heap.size) (by omega)).1 3).trans k1_3
  have kk1_4 := ((bblk ta_10 (g := w.heap.size) (by omega)).1 4).trans k1_4
  go_wp2_with fail
  refine (heldTripS_any _ _ _ _ _ (m10).sl hR1 (by omega) (by omega)).mono ?_; rintro e w' ⟨rfl, rfl⟩
  have kk1_0 := ((bblk ta_10 (g := w.heap.size) (by omega)).1 0).trans k1_0
  have kk1_1 := ((bblk ta_10 (g := w.heap.size) (by omega)).1 1).trans k1_1
  have kk1_2 := ((bblk ta_10 (g := w.heap.size) (by omega)).1 2).trans k1_2
  have kk1_3 := ((bblk ta_10 (g := w.heap.size) (by omega)).1 3).trans k1_3
  have kk1_4 := ((bblk ta_10 (g := w.heap.size) (by omega)).1 4).trans k1_4
  go_wp2_with fail
  refine wp_region_grow [.fix (.slice A0 L.length c0), .pred (SlVC f5 5 L), .val (.agg #[.int .i64 a, .int .i64 b, .int .i64 c, .int .i64 d, .int .i64 g]), .val (.agg #[.int .i64 a, .int .i64 b, .int .i64 c, .int .i64 d, .int .i64 g]), .pred (TuV f5 5 R r1), .pred (TuV f5 5 R r1), .pred (SlV f5 5 R), .val (.bool r1), .pred (SlV f5 5 R), .val (.bool r1)] mixed (by kernel_rfl) ?_
  refine SeqG.fixStep (.inl ⟨rfl, fun _ => rfl⟩) ?_
  simp only [Act.put, List.setIfInBounds_toArray, List.set_cons_zero, List.set_cons_succ]
  refine SeqG.predStep SlVC.next (fun wv hbv hpv => ?_) (fun v0 => ?_)
  · go_wp2_with fail
    refine (toTripSc_any _ _ _ _ (SlR.next ((hw0.below ta_10).mono (by omega)) hbv) hm0).mono ?_; rintro e w1 ⟨B1, d1, rfl, q1, hb1, hcp⟩
    have HCP := Lib.hid hcp
    clear hcp
    go_wp2_with fail
    exact post_pred _ hb1 ⟨_, _, rfl, q1.sl, HCP.out⟩
  simp only [Act.put, List.setIfInBounds_toArray, List.set_cons_zero, List.set_cons_succ]
  refine SeqG.valStep (fun wv hbv hpv => ?_) ?_
  · have e1_0 := ((bblk hbv (g := w.heap.size) (by omega)).1 0).trans kk1_0; have e1_1 := ((bblk hbv (g := w.heap.size) (by omega)).1 1).trans kk1_1; have e1_2 := ((bblk hbv (g := w.heap.size) (by omega)).1 2).trans kk1_2; have e1_3 := ((bblk hbv (g := w.heap.size) (by omega)).1 3).trans kk1_3; have e1_4 := ((bblk hbv (g := w.heap.size) (by omega)).1 4).trans kk1_4
    go_wp2_with fail
    exact post_val (Below.refl _ _)
  simp only [Act.put, List.setIfInBounds_toArray, List.set_cons_zero, List.set_cons_succ]
  refine SeqG.valStep (fun wv hbv hpv => ?_) ?_
  · go_wp2_with fail
    refine (toTrip_any _ _ _ _ _ _).mono ?_; rintro e w' ⟨he, hb⟩; subst he
    go_wp2_with fail
    exact post_val hb
  simp only [Act.put, List.setIfInBounds_toArray, List.set_cons_zero, List.set_cons_succ]
  refine SeqG.predStep TuV.next (fun wv hbv hpv => ?_) (fun v1 => ?_)
  · obtain ⟨B0, d0, rfl, s0, hcq0⟩ := hpv _ (.head _) (by kernel_rfl)
    have HCQ0 := Lib.hid hcq0
    clear hcq0
    clear hpv
    go_wp2_with fail
    refine (C2.out _ _ _ s0 HCQ0.out).mono ?_; rintro e w2 ⟨B9, d9, rfl, o2, hb2⟩
    go_wp2_with fail
    exact post_pred _ hb2 ⟨_, _, rfl, o2.sl⟩
  simp only [Act.put, List.setIfInBounds_toArray, List.set_cons_zero, List.set_cons_succ]
  refine SeqG.predStep TuV.next (fun wv hbv hpv => ?_) (fun v2 => ?_)
  · have h1 := hpv _ (.head _) (by kernel_rfl)
    clear hpv
    go_wp2_with fail
    exact post_pred _ (Below.refl _ _) h1
  simp only [Act.put, List.setIfInBounds_toArray, List.set_cons_zero, List.set_cons_succ]
  refine SeqG.predStep SlV.next (fun wv hbv hpv => ?_) (fun v3 => ?_)
  · obtain ⟨B1, d1, rfl, s1⟩ := hpv _ (.head _) (by kernel_rfl)
    clear hpv
    go_wp2_with fail
    exact post_pred _ (Below.refl _ _) ⟨_, _, rfl, s1⟩
  simp only [Act.put, List.setIfInBounds_toArray, List.set_cons_zero, List.set_cons_succ]
  refine SeqG.valStep (fun wv hbv hpv => ?_) ?_
  · obtain ⟨B1, d1, rfl, s1⟩ := hpv _ (.tail _ (.head _)) (by kernel_rfl)
    clear hpv
    go_wp2_with fail
    exact post_val (Below.refl _ _)
  simp only [Act.put, List.setIfInBounds_toArray, List.set_cons_zero, List.set_cons_succ]
  refine SeqG.predStep SlV.next (fun wv hbv hpv => ?_) (fun v4 => ?_)
  · obtain ⟨B1, d1, rfl, s1⟩ := hpv _ (.head _) (by kernel_rfl)
    clear hpv
    go_wp2_with fail
    exact post_pred _ (Below.refl _ _) ⟨_, _, rfl, s1⟩
  simp only [Act.put, List.setIfInBounds_toArray, List.set_cons_zero, List.set_cons_succ]
  refine SeqG.valStep (fun wv hbv hpv => ?_) ?_
  · skip
    go_wp2_with fail
    exact post_val (Below.refl _ _)
  simp only [Act.put, List.setIfInBounds_toArray, List.set_cons_zero, List.set_cons_succ]
  refine SeqG.done fun w11 hb11 hpv => ?_
  obtain ⟨P11, p11, rfl, o11⟩ := hpv _ (.head _)
  clear hpv
  have z11 := hb11.size
  have ta_11 := ta_10.trans (hb11.mono (by omega))
  have tr_11 := tr_10.trans (hb11.mono (by omega))
  have tg_11 := hb11
  go_wp2_with fail
  refine NoPan.normal ?_
  have kk1_0 := ((bblk ta_11 (g := w.heap.size) (by omega)).1 0).trans k1_0
  have kk1_1 := ((bblk ta_11 (g := w.heap.size) (by omega)).1 1).trans k1_1
  have kk1_2 := ((bblk ta_11 (g := w.heap.size) (by omega)).1 2).trans k1_2
  have kk1_3 := ((bblk ta_11 (g := w.heap.size) (by omega)).1 3).trans k1_3
  have kk1_4 := ((bblk ta_11 (g := w.heap.size) (by omega)).1 4).trans k1_4
  go_wp2_with fail
  refine (eqTripS_any _ _ _ _ _ _ _ o11 ((o1.below tr_11).mono (by omega)) hR2).mono ?_; rintro e w12 ⟨rfl, hb12⟩
  rw [ER.out]
  have z12 := hb12.size
  have ta_12 := ta_11.trans (hb12.mono (by omega))
  have tr_12 := tr_11.trans (hb12.mono (by omega))
  have tg_12 := tg_11.trans (hb12.mono (by omega))
  have th_12 := hb12
  have kk1_0 := ((bblk ta_12 (g := w.heap.size) (by omega)).1 0).trans k1_0
  have kk1_1 := ((bblk ta_12 (g := w.heap.size) (by omega)).1 1).trans k1_1
  have kk1_2 := ((bblk ta_12 (g := w.heap.size) (by omega)).1 2).trans k1_2
  have kk1_3 := ((bblk ta_12 (g := w.heap.size) (by omega)).1 3).trans k1_3
  have kk1_4 := ((bblk ta_12 (g := w.heap.size) (by omega)).1 4).trans k1_4
  go_wp2_with fail
  refine (heldTripS_any _ _ _ _ _ ((m10.next tg_12)).sl hR1 (by omega) (by omega)).mono ?_; rintro e w' ⟨rfl, rfl⟩
  go_wp2
  go_ret
  exact ⟨rfl, hW.trans (ta_12.mono (by omega))⟩
end Go.Proofs.Ytfcmfadkkfkidaa
