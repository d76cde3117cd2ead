/-
  The law on WithoutSieve, walked.
-/
import Derived.Test.YtapfnelghmnajaaWs2
import Derived.WalkKit
import Derived.WalkSpells
import Derived.WalkLawsBesides
import Derived.Lib.Hide
import Derived.Deep.QuietTactic
import Derived.BigQuiet
import Derived.StillTailTactics
namespace Go.Proofs.Ytapfnelghmnajaa
open Go.RowKit

set_option maxHeartbeats 8000000 in
theorem walk_WithoutSieve (A0 : Option Addr) (c0 : Nat) (S : List Int) (hn0 : (S.length : Int) ≤ 9223372036854775807) (_hI0 : ∀ x ∈ S, InI1 x) (A1 : Option Addr) (c1 : Nat) (L : List Int) (hn1 : (L.length : Int) ≤ 9223372036854775807) (_hI1 : ∀ x ∈ L, InI1 x) (k : Int) (_hI2 : InI k) (w : World) (hr0 : SlR f1 1 w w.heap.size A0 S) (hr1 : SlR f1 1 w w.heap.size A1 L) :
    Calls Try.prog 9 #[.slice A0 S.length c0, .agg #[.slice A1 L.length c1], .int .i64 k] w fun e w' => e = .returned (.bool true) ∧ Below w.heap.size w w' := by
  by_cases hs0 : (S.length : Int) > 1048576
  · clear _hI0 _hI1 _hI2
    go_enter Try.func9, Try.ntmps9
    go_wp2
    go_ret
    exact ⟨rfl, by (repeat (first | exact Below.refl _ _ | refine Below.drew ?_ | refine below_drewN ?_ _ | (refine Below.alloc ?_ (by (try simp) <;> omega) _) | (refine Below.setCell ?_ (by (try simp) <;> omega) _) | (refine Below.trans ?_ (Below.mono (by assumption) (by (try simp) <;> omega)))))⟩
  have hm0 : (S.length : Int) ≤ 1048576 := by omega
  by_cases hs1 : (1048576 : Int) - L.length < 0
  · have Hv1 := Lib.hid (show szV (1048576) L.length = -1 from if_pos hs1)
    clear _hI0 _hI1 _hI2
    go_enter Try.func9, Try.ntmps9
    go_wp2_with fail
    refine (szSample_any _ _ _ _ _ hn1 (by omega) (by omega)).mono ?_; rintro e ws1 ⟨rfl, hbs1⟩
    have zs1 := hbs1.size
    try simp at zs1
    rw [Hv1.out]
    go_wp2
    go_ret
    exact ⟨rfl, by (repeat (first | exact Below.refl _ _ | refine Below.drew ?_ | refine below_drewN ?_ _ | (refine Below.alloc ?_ (by (try simp) <;> omega) _) | (refine Below.setCell ?_ (by (try simp) <;> omega) _) | (refine Below.trans ?_ (Below.mono (by assumption) (by (try simp) <;> omega)))))⟩
  have Hv1 := Lib.hid (show szV (1048576) L.length = 1048576 - L.length from if_neg hs1)
  have hm1 : (L.length : Int) ≤ 1048576 := by omega
  have C1 := Lib.hid (fun A0 c0 A1 c1 w h0 h1 hc0 => SWithoutSieve_any A0 c0 S A1 c1 L k w h0 hm0 _hI0 hc0 h1 hm1 _hI1)
  have C2 := Lib.hid (fun A0 c0 A1 c1 w h0 h1 hc0 => WithoutSieve_any A0 c0 S A1 c1 L k w h0 hm0 _hI0 hc0 h1 hm1 _hI1)
  have hl := wsR_len S L k
  clear _hI0 _hI1 _hI2
  generalize wsR S L k = R at *
  generalize wsB S L k = r1 at *
  have nb1 := neB r1
  have hR1 : (R.length : Int) ≤ 1048576 := by omega
  have hR2 : (R.length : Int) ≤ 9223372036854775807 := by omega
  have hR3 : (0 : Int) ≤ (R.length : Int) := by omega
  have ER := Lib.hid (eqL_refl R)
  have nm := neI (1 + 1 * (R.length : Int))
  have nm' := neI (1 + (R.length : Int))
  have hl0 : (0 : Int) ≤ (S.length : Int) := by omega
  have E0 := Lib.hid (eqL_refl S)
  have hl1 : (0 : Int) ≤ (L.length : Int) := by omega
  have E1 := Lib.hid (eqL_refl L)
  go_enter Try.func9, Try.ntmps9
  go_wp2_with fail
  have hW : Below w.heap.size w (w.alloc (.cells #[.slice A1 L.length c1] 27 (0, 0))) := by (repeat (first | exact Below.refl _ _ | refine Below.drew ?_ | refine below_drewN ?_ _ | (refine Below.alloc ?_ (by (try simp) <;> omega) _) | (refine Below.setCell ?_ (by (try simp) <;> omega) _) | (refine Below.trans ?_ (Below.mono (by assumption) (by (try simp) <;> omega)))))
  have zW : w.heap.size + 1 ≤ (w.alloc (.cells #[.slice A1 L.length c1] 27 (0, 0))).heap.size := by simp
  have hw0 := (hr0.below hW).mono (show w.heap.size ≤ (w.alloc (.cells #[.slice A1 L.length c1] 27 (0, 0))).heap.size by omega)
  have hw1 := (hr1.below hW).mono (show w.heap.size ≤ (w.alloc (.cells #[.slice A1 L.length c1] 27 (0, 0))).heap.size by omega)
  have k1_0 : (w.alloc (.cells #[.slice A1 L.length c1] 27 (0, 0))).cell? ⟨w.heap.size, 0, none⟩ = some (.slice A1 L.length c1) := by simp
  generalize (w.alloc (.cells #[.slice A1 L.length c1] 27 (0, 0))) = W0 at *
  refine (szSample_any _ _ _ _ _ hn1 (by omega) (by omega)).mono ?_; rintro e w1 ⟨rfl, hb1⟩
  have z1 := hb1.size
  have ta_1 := hb1
  have kk1_0 := ((bblk ta_1 (g := w.heap.size) (by omega)).1 0).trans k1_0
  rw [Hv1.out]
  have kk1_0 := ((bblk ta_1 (g := w.heap.size) (by omega)).1 0).trans k1_0
  go_wp2_with fail
  refine wp_region_grow [.fix (.slice A0 S.length c0), .pred (SlVC f1 1 S), .val (.agg #[.slice A1 L.length c1]), .pred (SmV L), .fix (.int .i64 k), .pred (TuV f1 1 R r1), .pred (TuV f1 1 R r1), .pred (SlV f1 1 R), .val (.bool r1), .pred (SlV f1 1 R), .val (.bool r1)] mixed (by kernel_rfl) ?_
  refine SeqG.fixStep (.inl ⟨rfl, fun _ => rfl⟩) ?_
  simp only [Act.put, List.setIfInBounds_toArray, List.set_cons_zero, List.set_cons_succ]
  refine SeqG.predStep SlVC.next (fun wv hbv hpv => ?_) (fun v0 => ?_)
  · go_wp2_with fail
    refine (toIntSc_any _ _ _ _ (SlR.next ((hw0.below ta_1).mono (by omega)) hbv) hm0).mono ?_; rintro e w1 ⟨B1, d1, rfl, q1, hb1, hcp⟩
    have HCP := Lib.hid hcp
    clear hcp
    go_wp2_with fail
    exact post_pred _ hb1 ⟨_, _, rfl, q1.sl, HCP.out⟩
  simp only [Act.put, List.setIfInBounds_toArray, List.set_cons_zero, List.set_cons_succ]
  refine SeqG.valStep (fun wv hbv hpv => ?_) ?_
  · have e1_0 := ((bblk hbv (g := w.heap.size) (by omega)).1 0).trans kk1_0
    go_wp2_with fail
    exact post_val (Below.refl _ _)
  simp only [Act.put, List.setIfInBounds_toArray, List.set_cons_zero, List.set_cons_succ]
  refine SeqG.predStep SmV.next (fun wv hbv hpv => ?_) (fun v1 => ?_)
  · go_wp2_with fail
    refine (toSample_any _ _ _ _ (SlR.next ((hw1.below ta_1).mono (by omega)) hbv) hm1).mono ?_; rintro e w1 ⟨B1, d1, rfl, q1, hb1⟩
    go_wp2_with fail
    exact post_pred _ hb1 ⟨_, _, rfl, q1.sl⟩
  simp only [Act.put, List.setIfInBounds_toArray, List.set_cons_zero, List.set_cons_succ]
  refine SeqG.fixStep (.inl ⟨rfl, fun _ => rfl⟩) ?_
  simp only [Act.put, List.setIfInBounds_toArray, List.set_cons_zero, List.set_cons_succ]
  refine SeqG.predStep TuV.next (fun wv hbv hpv => ?_) (fun v2 => ?_)
  · obtain ⟨B0, d0, rfl, s0, hcq0⟩ := hpv _ (.tail _ (.head _)) (by kernel_rfl)
    obtain ⟨B1, d1, rfl, s1⟩ := hpv _ (.head _) (by kernel_rfl)
    have HCQ0 := Lib.hid hcq0
    clear hcq0
    clear hpv
    go_wp2_with fail
    refine (C1.out _ _ _ _ _ s0 s1 HCQ0.out).mono ?_; rintro e w2 ⟨B9, d9, rfl, o2, hb2⟩
    go_wp2_with fail
    exact post_pred _ hb2 ⟨_, _, rfl, o2.sl⟩
  simp only [Act.put, List.setIfInBounds_toArray, List.set_cons_zero, List.set_cons_succ]
  refine SeqG.predStep TuV.next (fun wv hbv hpv => ?_) (fun v3 => ?_)
  · have h1 := hpv _ (.head _) (by kernel_rfl)
    clear hpv
    go_wp2_with fail
    exact post_pred _ (Below.refl _ _) h1
  simp only [Act.put, List.setIfInBounds_toArray, List.set_cons_zero, List.set_cons_succ]
  refine SeqG.predStep SlV.next (fun wv hbv hpv => ?_) (fun v4 => ?_)
  · obtain ⟨B1, d1, rfl, s1⟩ := hpv _ (.head _) (by kernel_rfl)
    clear hpv
    go_wp2_with fail
    exact post_pred _ (Below.refl _ _) ⟨_, _, rfl, s1⟩
  simp only [Act.put, List.setIfInBounds_toArray, List.set_cons_zero, List.set_cons_succ]
  refine SeqG.valStep (fun wv hbv hpv => ?_) ?_
  · obtain ⟨B1, d1, rfl, s1⟩ := hpv _ (.tail _ (.head _)) (by kernel_rfl)
    clear hpv
    go_wp2_with fail
    exact post_val (Below.refl _ _)
  simp only [Act.put, List.setIfInBounds_toArray, List.set_cons_zero, List.set_cons_succ]
  refine SeqG.predStep SlV.next (fun wv hbv hpv => ?_) (fun v5 => ?_)
  · obtain ⟨B1, d1, rfl, s1⟩ := hpv _ (.head _) (by kernel_rfl)
    clear hpv
    go_wp2_with fail
    exact post_pred _ (Below.refl _ _) ⟨_, _, rfl, s1⟩
  simp only [Act.put, List.setIfInBounds_toArray, List.set_cons_zero, List.set_cons_succ]
  refine SeqG.valStep (fun wv hbv hpv => ?_) ?_
  · skip
    go_wp2_with fail
    exact post_val (Below.refl _ _)
  simp only [Act.put, List.setIfInBounds_toArray, List.set_cons_zero, List.set_cons_succ]
  refine SeqG.done fun w2 hb2 hpv => ?_
  obtain ⟨P2, p2, rfl, o2⟩ := hpv _ (.head _)
  clear hpv
  have z2 := hb2.size
  have ta_2 := ta_1.trans (hb2.mono (by omega))
  go_wp2_with fail
  refine NoPan.normal ?_
  have kk1_0 := ((bblk ta_2 (g := w.heap.size) (by omega)).1 0).trans k1_0
  go_wp2_with fail
  refine (toIntSc_any _ _ _ _ ((hw0.below ta_2).mono (by omega)) hm0).mono ?_; rintro e w3 ⟨B3, d3, rfl, x3, hb3, hcap3⟩
  have HC3 := Lib.hid hcap3
  clear hcap3
  have z3 := hb3.size
  have ta_3 := ta_2.trans (hb3.mono (by omega))
  have tr_3 := hb3
  have y3 := x3.sl
  have kk1_0 := ((bblk ta_3 (g := w.heap.size) (by omega)).1 0).trans k1_0
  go_wp2_with fail
  refine (toSample_any _ _ _ _ ((hw1.below ta_3).mono (by omega)) hm1).mono ?_; rintro e w4 ⟨B4, d4, rfl, x4, hb4⟩
  have z4 := hb4.size
  have ta_4 := ta_3.trans (hb4.mono (by omega))
  have tr_4 := tr_3.trans (hb4.mono (by omega))
  have tx0_4 := hb4
  have y4 := x4.sl
  have kk1_0 := ((bblk ta_4 (g := w.heap.size) (by omega)).1 0).trans k1_0
  have hnb4_1 := (show w.heap.size < w4.heap.size by omega)
  go_wp2_with fail
  have hb5 : Below w4.heap.size w4 (w4.alloc (.cells #[.slice B4 L.length d4] 30 (0, 0))) := by (repeat (first | exact Below.refl _ _ | refine Below.drew ?_ | refine below_drewN ?_ _ | (refine Below.alloc ?_ (by (try simp) <;> omega) _) | (refine Below.setCell ?_ (by (try simp) <;> omega) _) | (refine Below.trans ?_ (Below.mono (by assumption) (by (try simp) <;> omega)))))
  have z5 := hb5.size
  have zz5 : w4.heap.size < (w4.alloc (.cells #[.slice B4 L.length d4] 30 (0, 0))).heap.size := by simp
  have q5 : (w4.alloc (.cells #[.slice B4 L.length d4] 30 (0, 0))).cell? ⟨w4.heap.size, 0, none⟩ = some (.slice B4 L.length d4) := by simp
  generalize (w4.alloc (.cells #[.slice B4 L.length d4] 30 (0, 0))) = w5 at *
  have ta_5 := ta_4.trans (hb5.mono (by omega))
  have tr_5 := tr_4.trans (hb5.mono (by omega))
  have tx0_5 := tx0_4.trans (hb5.mono (by omega))
  have tx1_5 := hb5
  have kk1_0 := ((bblk ta_5 (g := w.heap.size) (by omega)).1 0).trans k1_0
  have kk_bx1 := q5
  refine (C2.out _ _ _ _ _ ((x3.next tx0_5)).sl ((x4.next tx1_5)).sl HC3.out).mono ?_; rintro e w6 ⟨P6, p6, rfl, o6, hb6⟩
  have z6 := hb6.size
  have ta_6 := ta_5.trans (hb6.mono (by omega))
  have tr_6 := tr_5.trans (hb6.mono (by omega))
  have tx0_6 := tx0_5.trans (hb6.mono (by omega))
  have tx1_6 := tx1_5.trans (hb6.mono (by omega))
  have tbx1_6 := hb6
  have y6 := o6.sl
  have kk1_0 := ((bblk ta_6 (g := w.heap.size) (by omega)).1 0).trans k1_0
  have kk_bx1 := ((bblk tbx1_6 (g := w4.heap.size) (by omega)).1 0).trans q5
  go_wp2_with fail
  refine (eqIntS_any _ _ _ _ _ _ _ (o6).sl ((o2.below tr_6).mono (by omega)) hR2).mono ?_; rintro e w7 ⟨rfl, hb7⟩
  rw [ER.out]
  have z7 := hb7.size
  have ta_7 := ta_6.trans (hb7.mono (by omega))
  have tr_7 := tr_6.trans (hb7.mono (by omega))
  have tx0_7 := tx0_6.trans (hb7.mono (by omega))
  have tx1_7 := tx1_6.trans (hb7.mono (by omega))
  have tbx1_7 := tbx1_6.trans (hb7.mono (by omega))
  have tg_7 := hb7
  have kk1_0 := ((bblk ta_7 (g := w.heap.size) (by omega)).1 0).trans k1_0
  have kk_bx1 := ((bblk tbx1_7 (g := w4.heap.size) (by omega)).1 0).trans q5
  go_wp2_with fail
  refine (toIntSc_any _ _ _ _ ((hw0.below ta_7).mono (by omega)) hm0).mono ?_; rintro e w8 ⟨B8, d8, rfl, x8, hb8, hcap8⟩
  have HC8 := Lib.hid hcap8
  clear hcap8
  have z8 := hb8.size
  have ta_8 := ta_7.trans (hb8.mono (by omega))
  have tr_8 := tr_7.trans (hb8.mono (by omega))
  have tx0_8 := tx0_7.trans (hb8.mono (by omega))
  have tx1_8 := tx1_7.trans (hb8.mono (by omega))
  have tbx1_8 := tbx1_7.trans (hb8.mono (by omega))
  have tg_8 := tg_7.trans (hb8.mono (by omega))
  have kk1_0 := ((bblk ta_8 (g := w.heap.size) (by omega)).1 0).trans k1_0
  have kk_bx1 := ((bblk tbx1_8 (g := w4.heap.size) (by omega)).1 0).trans q5
  go_wp2_with fail
  refine (eqIntS_any _ _ _ _ _ _ _ ((x3.next tx0_8)).sl (x8).sl hn0).mono ?_; rintro e w9 ⟨rfl, hb9⟩
  rw [E0.out]
  have z9 := hb9.size
  have ta_9 := ta_8.trans (hb9.mono (by omega))
  have tr_9 := tr_8.trans (hb9.mono (by omega))
  have tx0_9 := tx0_8.trans (hb9.mono (by omega))
  have tx1_9 := tx1_8.trans (hb9.mono (by omega))
  have tbx1_9 := tbx1_8.trans (hb9.mono (by omega))
  have tg_9 := tg_8.trans (hb9.mono (by omega))
  have tn_9 := hb9
  have kk1_0 := ((bblk ta_9 (g := w.heap.size) (by omega)).1 0).trans k1_0
  have kk_bx1 := ((bblk tbx1_9 (g := w4.heap.size) (by omega)).1 0).trans q5
  go_wp2_with fail
  have xs := ((x4.next tx1_9)).sl
  have bs0 : SlR f1 1 w9 w9.heap.size A1 L := ((hw1.below ta_9).mono (by omega))
  refine wp_region_grow [.val (.agg #[.slice B4 L.length d4]), .val (.agg #[.slice A1 L.length c1]), .pred (SmV L), .val (.bool true), .val (.bool false)] mixed (by kernel_rfl) ?_
  refine SeqG.valStep (fun wv hbv hpv => ?_) ?_
  · have e1 := ((bblk hbv (g := w4.heap.size) (by omega)).1 0).trans kk_bx1
    go_wp2_with fail
    exact post_val (Below.refl _ _)
  simp only [Act.put, List.setIfInBounds_toArray, List.set_cons_zero, List.set_cons_succ]
  refine SeqG.valStep (fun wv hbv hpv => ?_) ?_
  · have e1 := ((bblk hbv (g := w.heap.size) (by omega)).1 0).trans kk1_0
    go_wp2_with fail
    exact post_val (Below.refl _ _)
  simp only [Act.put, List.setIfInBounds_toArray, List.set_cons_zero, List.set_cons_succ]
  refine SeqG.predStep SmV.next (fun wv hbv hpv => ?_) (fun v0 => ?_)
  · go_wp2_with fail
    refine (toSample_any _ _ _ _ (bs0.next hbv) hm1).mono ?_; rintro e w1 ⟨B1, d1, rfl, q1, hb1⟩
    go_wp2_with fail
    exact post_pred _ hb1 ⟨_, _, rfl, q1.sl⟩
  simp only [Act.put, List.setIfInBounds_toArray, List.set_cons_zero, List.set_cons_succ]
  refine SeqG.valStep (fun wv hbv hpv => ?_) ?_
  · obtain ⟨B0, d0, rfl, s0⟩ := hpv _ (.head _) (by kernel_rfl)
    clear hpv
    go_wp2_with fail
    refine (eqSample_any _ _ _ _ _ _ _ (xs.next hbv) s0 hn1).mono ?_; rintro e w2 ⟨rfl, hb2⟩
    rw [E1.out]
    go_wp2_with fail
    exact post_val hb2
  simp only [Act.put, List.setIfInBounds_toArray, List.set_cons_zero, List.set_cons_succ]
  refine SeqG.valStep (fun wv hbv hpv => ?_) ?_
  · skip
    go_wp2_with fail
    exact post_val (Below.refl _ _)
  simp only [Act.put, List.setIfInBounds_toArray, List.set_cons_zero, List.set_cons_succ]
  refine SeqG.done fun w10 hb10 hpv => ?_
  clear hpv xs bs0
  have z10 := hb10.size
  have ta_10 := ta_9.trans (hb10.mono (by omega))
  have tr_10 := tr_9.trans (hb10.mono (by omega))
  have tx0_10 := tx0_9.trans (hb10.mono (by omega))
  have tx1_10 := tx1_9.trans (hb10.mono (by omega))
  have tbx1_10 := tbx1_9.trans (hb10.mono (by omega))
  have tg_10 := tg_9.trans (hb10.mono (by omega))
  go_wp2_with fail
  refine NoPan.normal ?_
  have mm11 := (x3.next tx0_10)
  have kk1_0 := ((bblk ta_10 (g := w.heap.size) (by omega)).1 0).trans k1_0
  have kk_bx1 := ((bblk tbx1_10 (g := w4.heap.size) (by omega)).1 0).trans q5
  go_wp2_with fail
  refine (markIntS_any _ _ _ _ _ _ mm11 hm0 (by omega) (by omega)).mono ?_; rintro e w11 ⟨rfl, m11, oo11, on11⟩
  have hb11 : Below w2.heap.size w10 w11 := mm11.onlyBelow oo11 on11
  have z11 := oo11.size
  have ta_11 := ta_10.trans (hb11.mono (by omega))
  have tr_11 := tr_10.trans (hb11.mono (by omega))
  have ex1_11 := ((x4.next tx1_10)).keep oo11 on11 (y3.mono (by omega))
  have ebx1_11 := cell_keep (p := ⟨w4.heap.size, 0, none⟩) oo11 on11 y3 (by (try simp only []); omega) (((bblk tbx1_10 (g := w4.heap.size) (by omega)).1 0).trans q5)
  have eg_11 := ((o6.next tg_10)).keep oo11 on11 (y3.mono (by omega))
  clear oo11 on11
  have mm12 := ex1_11
  have kk1_0 := ((bblk ta_11 (g := w.heap.size) (by omega)).1 0).trans k1_0
  have kk_bx1 := ebx1_11
  go_wp2_with fail
  refine (markSample_any _ _ _ _ _ _ mm12 hm1 (by omega) (by omega)).mono ?_; rintro e w13 ⟨rfl, m13, w12, hb12, oo13, on13⟩
  have z12 := hb12.size
  have ta_12 := ta_11.trans (hb12.mono (by omega))
  have tr_12 := tr_11.trans (hb12.mono (by omega))
  have tx1_12 := hb12
  have tbx1_12 := hb12
  have tg_12 := hb12
  have mn12 := mm12.next hb12
  have hb13 : Below w3.heap.size w12 w13 := mn12.onlyBelow oo13 on13
  have z13 := oo13.size
  have ta_13 := ta_12.trans (hb13.mono (by omega))
  have tr_13 := tr_12.trans (hb13.mono (by omega))
  have eg_13 := ((eg_11.next tg_12)).keep oo13 on13 (y4.mono (by omega))
  clear oo13 on13
  have kk1_0 := ((bblk ta_13 (g := w.heap.size) (by omega)).1 0).trans k1_0
  go_wp2_with fail
  refine (eqIntS_any _ _ _ _ _ _ _ (eg_13).sl ((o2.below tr_13).mono (by omega)) hR2).mono ?_; rintro e w14 ⟨rfl, hb14⟩
  rw [ER.out]
  have z14 := hb14.size
  have ta_14 := ta_13.trans (hb14.mono (by omega))
  have tr_14 := tr_13.trans (hb14.mono (by omega))
  have tg_14 := hb14
  have mm15 := (eg_13.next tg_14)
  have kk1_0 := ((bblk ta_14 (g := w.heap.size) (by omega)).1 0).trans k1_0
  go_wp2_with fail
  refine (markIntS_any _ _ _ _ _ _ mm15 hR1 (by omega) (by omega)).mono ?_; rintro e w15 ⟨rfl, m15, oo15, on15⟩
  have hb15 : Below w5.heap.size w14 w15 := mm15.onlyBelow oo15 on15
  have z15 := oo15.size
  have ta_15 := ta_14.trans (hb15.mono (by omega))
  have tr_15 := tr_14.trans (hb15.mono (by omega))
  clear oo15 on15
  have kk1_0 := ((bblk ta_15 (g := w.heap.size) (by omega)).1 0).trans k1_0
  go_wp2_with fail
  refine (heldIntS_any _ _ _ _ _ (m15).sl hR1 (by omega) (by omega)).mono ?_; rintro e w' ⟨rfl, rfl⟩
  have kk1_0 := ((bblk ta_15 (g := w.heap.size) (by omega)).1 0).trans k1_0
  go_wp2_with fail
  refine wp_region_grow [.fix (.slice A0 S.length c0), .pred (SlVC f1 1 S), .val (.agg #[.slice A1 L.length c1]), .pred (SmV L), .fix (.int .i64 k), .pred (TuV f1 1 R r1), .pred (TuV f1 1 R r1), .pred (SlV f1 1 R), .val (.bool r1), .pred (SlV f1 1 R), .val (.bool r1)] mixed (by kernel_rfl) ?_
  refine SeqG.fixStep (.inl ⟨rfl, fun _ => rfl⟩) ?_
  simp only [Act.put, List.setIfInBounds_toArray, List.set_cons_zero, List.set_cons_succ]
  refine SeqG.predStep SlVC.next (fun wv hbv hpv => ?_) (fun v0 => ?_)
  · go_wp2_with fail
    refine (toIntSc_any _ _ _ _ (SlR.next ((hw0.below ta_15).mono (by omega)) hbv) hm0).mono ?_; rintro e w1 ⟨B1, d1, rfl, q1, hb1, hcp⟩
    have HCP := Lib.hid hcp
    clear hcp
    go_wp2_with fail
    exact post_pred _ hb1 ⟨_, _, rfl, q1.sl, HCP.out⟩
  simp only [Act.put, List.setIfInBounds_toArray, List.set_cons_zero, List.set_cons_succ]
  refine SeqG.valStep (fun wv hbv hpv => ?_) ?_
  · have e1_0 := ((bblk hbv (g := w.heap.size) (by omega)).1 0).trans kk1_0
    go_wp2_with fail
    exact post_val (Below.refl _ _)
  simp only [Act.put, List.setIfInBounds_toArray, List.set_cons_zero, List.set_cons_succ]
  refine SeqG.predStep SmV.next (fun wv hbv hpv => ?_) (fun v1 => ?_)
  · go_wp2_with fail
    refine (toSample_any _ _ _ _ (SlR.next ((hw1.below ta_15).mono (by omega)) hbv) hm1).mono ?_; rintro e w1 ⟨B1, d1, rfl, q1, hb1⟩
    go_wp2_with fail
    exact post_pred _ hb1 ⟨_, _, rfl, q1.sl⟩
  simp only [Act.put, List.setIfInBounds_toArray, List.set_cons_zero, List.set_cons_succ]
  refine SeqG.fixStep (.inl ⟨rfl, fun _ => rfl⟩) ?_
  simp only [Act.put, List.setIfInBounds_toArray, List.set_cons_zero, List.set_cons_succ]
  refine SeqG.predStep TuV.next (fun wv hbv hpv => ?_) (fun v2 => ?_)
  · obtain ⟨B0, d0, rfl, s0, hcq0⟩ := hpv _ (.tail _ (.head _)) (by kernel_rfl)
    obtain ⟨B1, d1, rfl, s1⟩ := hpv _ (.head _) (by kernel_rfl)
    have HCQ0 := Lib.hid hcq0
    clear hcq0
    clear hpv
    go_wp2_with fail
    refine (C2.out _ _ _ _ _ s0 s1 HCQ0.out).mono ?_; rintro e w2 ⟨B9, d9, rfl, o2, hb2⟩
    go_wp2_with fail
    exact post_pred _ hb2 ⟨_, _, rfl, o2.sl⟩
  simp only [Act.put, List.setIfInBounds_toArray, List.set_cons_zero, List.set_cons_succ]
  refine SeqG.predStep TuV.next (fun wv hbv hpv => ?_) (fun v3 => ?_)
  · have h1 := hpv _ (.head _) (by kernel_rfl)
    clear hpv
    go_wp2_with fail
    exact post_pred _ (Below.refl _ _) h1
  simp only [Act.put, List.setIfInBounds_toArray, List.set_cons_zero, List.set_cons_succ]
  refine SeqG.predStep SlV.next (fun wv hbv hpv => ?_) (fun v4 => ?_)
  · obtain ⟨B1, d1, rfl, s1⟩ := hpv _ (.head _) (by kernel_rfl)
    clear hpv
    go_wp2_with fail
    exact post_pred _ (Below.refl _ _) ⟨_, _, rfl, s1⟩
  simp only [Act.put, List.setIfInBounds_toArray, List.set_cons_zero, List.set_cons_succ]
  refine SeqG.valStep (fun wv hbv hpv => ?_) ?_
  · obtain ⟨B1, d1, rfl, s1⟩ := hpv _ (.tail _ (.head _)) (by kernel_rfl)
    clear hpv
    go_wp2_with fail
    exact post_val (Below.refl _ _)
  simp only [Act.put, List.setIfInBounds_toArray, List.set_cons_zero, List.set_cons_succ]
  refine SeqG.predStep SlV.next (fun wv hbv hpv => ?_) (fun v5 => ?_)
  · obtain ⟨B1, d1, rfl, s1⟩ := hpv _ (.head _) (by kernel_rfl)
    clear hpv
    go_wp2_with fail
    exact post_pred _ (Below.refl _ _) ⟨_, _, rfl, s1⟩
  simp only [Act.put, List.setIfInBounds_toArray, List.set_cons_zero, List.set_cons_succ]
  refine SeqG.valStep (fun wv hbv hpv => ?_) ?_
  · skip
    go_wp2_with fail
    exact post_val (Below.refl _ _)
  simp only [Act.put, List.setIfInBounds_toArray, List.set_cons_zero, List.set_cons_succ]
  refine SeqG.done fun w16 hb16 hpv => ?_
  obtain ⟨P16, p16, rfl, o16⟩ := hpv _ (.head _)
  clear hpv
  have z16 := hb16.size
  have ta_16 := ta_15.trans (hb16.mono (by omega))
  have tr_16 := tr_15.trans (hb16.mono (by omega))
  have tg_16 := hb16
  go_wp2_with fail
  refine NoPan.normal ?_
  have kk1_0 := ((bblk ta_16 (g := w.heap.size) (by omega)).1 0).trans k1_0
  go_wp2_with fail
  refine (eqIntS_any _ _ _ _ _ _ _ o16 ((o2.below tr_16).mono (by omega)) hR2).mono ?_; rintro e w17 ⟨rfl, hb17⟩
  rw [ER.out]
  have z17 := hb17.size
  have ta_17 := ta_16.trans (hb17.mono (by omega))
  have tr_17 := tr_16.trans (hb17.mono (by omega))
  have tg_17 := tg_16.trans (hb17.mono (by omega))
  have th_17 := hb17
  have kk1_0 := ((bblk ta_17 (g := w.heap.size) (by omega)).1 0).trans k1_0
  go_wp2_with fail
  refine (heldIntS_any _ _ _ _ _ ((m15.next tg_17)).sl hR1 (by omega) (by omega)).mono ?_; rintro e w' ⟨rfl, rfl⟩
  go_wp2
  go_ret
  exact ⟨rfl, hW.trans (ta_17.mono (by omega))⟩
end Go.Proofs.Ytapfnelghmnajaa
