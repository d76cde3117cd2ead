/-
  The law on SampleText, walked.
-/
import Derived.Test.YtapfnelghmnajaaDoorSt2
import Derived.Test.YtapfnelghmnajaaDoorHSample
import Derived.Test.YtapfnelghmnajaaDoorHInt
import Derived.Test.YtapfnelghmnajaaDoorPred
import Derived.WalkKit
import Derived.WalkSpells
import Derived.WalkLawsBesides
import Derived.Lib.Hide
import Derived.Deep.QuietTactic
import Derived.BigQuiet
import Derived.StillTailTactics
namespace Go.Proofs.YtapfnelghmnajaaDoor
open Go.RowKit

theorem neS (s : ByteArray) : (s != s) = false := by
  show (!(s == s)) = false
  have : (s == s) = true := by
    show (s.data == s.data) = true
    simp
  rw [this]; rfl

set_option maxHeartbeats 8000000 in
theorem walk_SampleText (A0 : Option Addr) (c0 : Nat) (S : List Int) (hn0 : (S.length : Int) ≤ 9223372036854775807) (_hI0 : ∀ x ∈ S, InI1 x) (A1 : Option Addr) (c1 : Nat) (L : List Int) (hn1 : (L.length : Int) ≤ 9223372036854775807) (_hI1 : ∀ x ∈ L, InI1 x) (w : World) (hr0 : SlR f1 1 w w.heap.size A0 S) (hr1 : SlR f1 1 w w.heap.size A1 L) (htab : Lib.TabIs Tryd.prog w "internal/strconv.uint64pow10" .u64 Lib.pow10Tab) :
    Calls Tryd.prog 3 #[.slice A0 S.length c0, .agg #[.slice A1 L.length c1]] w fun e w' => e = .returned (.bool true) ∧ Below w.heap.size w w' := by
  by_cases hs0 : (S.length : Int) > 1048576
  · clear _hI0 _hI1 htab
    go_enter Tryd.func3, Tryd.ntmps3
    go_wp2
    go_ret
    exact ⟨rfl, by (repeat (first | exact Below.refl _ _ | refine Below.drew ?_ | refine below_drewN ?_ _ | (refine Below.alloc ?_ (by (try simp) <;> omega) _) | (refine Below.setCell ?_ (by (try simp) <;> omega) _) | (refine Below.trans ?_ (Below.mono (by assumption) (by (try simp) <;> omega)))))⟩
  have hm0 : (S.length : Int) ≤ 1048576 := by omega
  by_cases hs1 : (1048576 : Int) - L.length < 0
  · have Hv1 := Lib.hid (show szV (1048576) L.length = -1 from if_pos hs1)
    clear _hI0 _hI1 htab
    go_enter Tryd.func3, Tryd.ntmps3
    go_wp2_with fail
    refine (szSample_any _ _ _ _ _ hn1 (by omega) (by omega)).mono ?_; rintro e ws1 ⟨rfl, hbs1⟩
    have zs1 := hbs1.size
    try simp at zs1
    rw [Hv1.out]
    go_wp2
    go_ret
    exact ⟨rfl, by (repeat (first | exact Below.refl _ _ | refine Below.drew ?_ | refine below_drewN ?_ _ | (refine Below.alloc ?_ (by (try simp) <;> omega) _) | (refine Below.setCell ?_ (by (try simp) <;> omega) _) | (refine Below.trans ?_ (Below.mono (by assumption) (by (try simp) <;> omega)))))⟩
  have Hv1 := Lib.hid (show szV (1048576) L.length = 1048576 - L.length from if_neg hs1)
  have hm1 : (L.length : Int) ≤ 1048576 := by omega
  have C1 := Lib.hid (fun A0 c0 A1 c1 w h0 h1 => SSampleText_any A0 c0 S A1 c1 L w h0 hm0 _hI0 h1 hm1 _hI1)
  have C2 := Lib.hid (fun A0 c0 A1 c1 w h0 h1 ht => SampleText_any A0 c0 S A1 c1 L w h0 hm0 _hI0 h1 hm1 _hI1 ht)
  have HT := Lib.hid htab
  clear _hI0 _hI1 htab
  generalize (ByteArray.mk (stS S L).toArray) = r0 at *
  generalize fraB S L = r1 at *
  have nb0 := neS r0
  have nb1 := neB r1
  have hl0 : (0 : Int) ≤ (S.length : Int) := by omega
  have E0 := Lib.hid (eqL_refl S)
  have hl1 : (0 : Int) ≤ (L.length : Int) := by omega
  have E1 := Lib.hid (eqL_refl L)
  go_enter Tryd.func3, Tryd.ntmps3
  go_wp2_with fail
  have hW : Below w.heap.size w (w.alloc (.cells #[.slice A1 L.length c1] 24 (0, 0))) := by (repeat (first | exact Below.refl _ _ | refine Below.drew ?_ | refine below_drewN ?_ _ | (refine Below.alloc ?_ (by (try simp) <;> omega) _) | (refine Below.setCell ?_ (by (try simp) <;> omega) _) | (refine Below.trans ?_ (Below.mono (by assumption) (by (try simp) <;> omega)))))
  have HT := Lib.hid (pow_below HT.out hW)
  have zW : w.heap.size + 1 ≤ (w.alloc (.cells #[.slice A1 L.length c1] 24 (0, 0))).heap.size := by simp
  have hw0 := (hr0.below hW).mono (show w.heap.size ≤ (w.alloc (.cells #[.slice A1 L.length c1] 24 (0, 0))).heap.size by omega)
  have hw1 := (hr1.below hW).mono (show w.heap.size ≤ (w.alloc (.cells #[.slice A1 L.length c1] 24 (0, 0))).heap.size by omega)
  have k1_0 : (w.alloc (.cells #[.slice A1 L.length c1] 24 (0, 0))).cell? ⟨w.heap.size, 0, none⟩ = some (.slice A1 L.length c1) := by simp
  generalize (w.alloc (.cells #[.slice A1 L.length c1] 24 (0, 0))) = W0 at *
  refine (szSample_any _ _ _ _ _ hn1 (by omega) (by omega)).mono ?_; rintro e w1 ⟨rfl, hb1⟩
  have z1 := hb1.size
  have ta_1 := hb1
  have kk1_0 := ((bblk ta_1 (g := w.heap.size) (by omega)).1 0).trans k1_0
  rw [Hv1.out]
  have kk1_0 := ((bblk ta_1 (g := w.heap.size) (by omega)).1 0).trans k1_0
  go_wp2_with fail
  refine wp_region_grow [.fix (.slice A0 S.length c0), .pred (SlV f1 1 S), .val (.agg #[.slice A1 L.length c1]), .pred (SmV L), .val (.tuple #[.string r0, .bool r1]), .val (.tuple #[.string r0, .bool r1]), .val (.string r0), .val (.bool r1), .val (.string r0), .val (.bool r1)] mixed (by kernel_rfl) ?_
  refine SeqG.fixStep (.inl ⟨rfl, fun _ => rfl⟩) ?_
  simp only [Act.put, List.setIfInBounds_toArray, List.set_cons_zero, List.set_cons_succ]
  refine SeqG.predStep SlV.next (fun wv hbv hpv => ?_) (fun v0 => ?_)
  · go_wp2_with fail
    refine (toIntS_any _ _ _ _ (SlR.next ((hw0.below ta_1).mono (by omega)) hbv) hm0).mono ?_; rintro e w1 ⟨B1, d1, rfl, q1, hb1⟩
    go_wp2_with fail
    exact post_pred _ hb1 ⟨_, _, rfl, q1.sl⟩
  simp only [Act.put, List.setIfInBounds_toArray, List.set_cons_zero, List.set_cons_succ]
  refine SeqG.valStep (fun wv hbv hpv => ?_) ?_
  · have e1_0 := ((bblk hbv (g := w.heap.size) (by omega)).1 0).trans kk1_0
    go_wp2_with fail
    exact post_val (Below.refl _ _)
  simp only [Act.put, List.setIfInBounds_toArray, List.set_cons_zero, List.set_cons_succ]
  refine SeqG.predStep SmV.next (fun wv hbv hpv => ?_) (fun v1 => ?_)
  · go_wp2_with fail
    refine (toSample_any _ _ _ _ (SlR.next ((hw1.below ta_1).mono (by omega)) hbv) hm1).mono ?_; rintro e w1 ⟨B1, d1, rfl, q1, hb1⟩
    go_wp2_with fail
    exact post_pred _ hb1 ⟨_, _, rfl, q1.sl⟩
  simp only [Act.put, List.setIfInBounds_toArray, List.set_cons_zero, List.set_cons_succ]
  refine SeqG.valStep (fun wv hbv hpv => ?_) ?_
  · obtain ⟨B0, d0, rfl, s0⟩ := hpv _ (.tail _ (.head _)) (by kernel_rfl)
    obtain ⟨B1, d1, rfl, s1⟩ := hpv _ (.head _) (by kernel_rfl)
    clear hpv
    go_wp2_with fail
    refine (C1.out _ _ _ _ _ s0 s1).mono ?_; rintro e w2 ⟨rfl, hb2⟩
    go_wp2_with fail
    exact post_val hb2
  simp only [Act.put, List.setIfInBounds_toArray, List.set_cons_zero, List.set_cons_succ]
  refine SeqG.valStep (fun wv hbv hpv => ?_) ?_
  · skip
    go_wp2_with fail
    exact post_val (Below.refl _ _)
  simp only [Act.put, List.setIfInBounds_toArray, List.set_cons_zero, List.set_cons_succ]
  refine SeqG.valStep (fun wv hbv hpv => ?_) ?_
  · skip
    go_wp2_with fail
    exact post_val (Below.refl _ _)
  simp only [Act.put, List.setIfInBounds_toArray, List.set_cons_zero, List.set_cons_succ]
  refine SeqG.valStep (fun wv hbv hpv => ?_) ?_
  · skip
    go_wp2_with fail
    exact post_val (Below.refl _ _)
  simp only [Act.put, List.setIfInBounds_toArray, List.set_cons_zero, List.set_cons_succ]
  refine SeqG.valStep (fun wv hbv hpv => ?_) ?_
  · skip
    go_wp2_with fail
    exact post_val (Below.refl _ _)
  simp only [Act.put, List.setIfInBounds_toArray, List.set_cons_zero, List.set_cons_succ]
  refine SeqG.valStep (fun wv hbv hpv => ?_) ?_
  · skip
    go_wp2_with fail
    exact post_val (Below.refl _ _)
  simp only [Act.put, List.setIfInBounds_toArray, List.set_cons_zero, List.set_cons_succ]
  refine SeqG.done fun w2 hb2 hpv => ?_
  clear hpv
  have z2 := hb2.size
  have ta_2 := ta_1.trans (hb2.mono (by omega))
  go_wp2_with fail
  refine NoPan.normal ?_
  have kk1_0 := ((bblk ta_2 (g := w.heap.size) (by omega)).1 0).trans k1_0
  go_wp2_with fail
  refine (toIntS_any _ _ _ _ ((hw0.below ta_2).mono (by omega)) hm0).mono ?_; rintro e w3 ⟨B3, d3, rfl, x3, hb3⟩
  have z3 := hb3.size
  have ta_3 := ta_2.trans (hb3.mono (by omega))
  have y3 := x3.sl
  have kk1_0 := ((bblk ta_3 (g := w.heap.size) (by omega)).1 0).trans k1_0
  go_wp2_with fail
  refine (toSample_any _ _ _ _ ((hw1.below ta_3).mono (by omega)) hm1).mono ?_; rintro e w4 ⟨B4, d4, rfl, x4, hb4⟩
  have z4 := hb4.size
  have ta_4 := ta_3.trans (hb4.mono (by omega))
  have tx0_4 := hb4
  have y4 := x4.sl
  have kk1_0 := ((bblk ta_4 (g := w.heap.size) (by omega)).1 0).trans k1_0
  have hnb4_1 := (show w.heap.size < w4.heap.size by omega)
  go_wp2_with fail
  have hb5 : Below w4.heap.size w4 (w4.alloc (.cells #[.slice B4 L.length d4] 29 (0, 0))) := by (repeat (first | exact Below.refl _ _ | refine Below.drew ?_ | refine below_drewN ?_ _ | (refine Below.alloc ?_ (by (try simp) <;> omega) _) | (refine Below.setCell ?_ (by (try simp) <;> omega) _) | (refine Below.trans ?_ (Below.mono (by assumption) (by (try simp) <;> omega)))))
  have z5 := hb5.size
  have zz5 : w4.heap.size < (w4.alloc (.cells #[.slice B4 L.length d4] 29 (0, 0))).heap.size := by simp
  have q5 : (w4.alloc (.cells #[.slice B4 L.length d4] 29 (0, 0))).cell? ⟨w4.heap.size, 0, none⟩ = some (.slice B4 L.length d4) := by simp
  generalize (w4.alloc (.cells #[.slice B4 L.length d4] 29 (0, 0))) = w5 at *
  have ta_5 := ta_4.trans (hb5.mono (by omega))
  have tx0_5 := tx0_4.trans (hb5.mono (by omega))
  have tx1_5 := hb5
  have kk1_0 := ((bblk ta_5 (g := w.heap.size) (by omega)).1 0).trans k1_0
  have kk_bx1 := q5
  refine (C2.out _ _ _ _ _ ((x3.next tx0_5)).sl ((x4.next tx1_5)).sl (pow_below HT.out ta_5)).mono ?_; rintro e w6 ⟨rfl, hb6⟩
  have z6 := hb6.size
  have ta_6 := ta_5.trans (hb6.mono (by omega))
  have tx0_6 := tx0_5.trans (hb6.mono (by omega))
  have tx1_6 := tx1_5.trans (hb6.mono (by omega))
  have tbx1_6 := hb6
  have kk1_0 := ((bblk ta_6 (g := w.heap.size) (by omega)).1 0).trans k1_0
  have kk_bx1 := ((bblk tbx1_6 (g := w4.heap.size) (by omega)).1 0).trans q5
  go_wp2_with fail
  refine (toIntS_any _ _ _ _ ((hw0.below ta_6).mono (by omega)) hm0).mono ?_; rintro e w7 ⟨B7, d7, rfl, x7, hb7⟩
  have z7 := hb7.size
  have ta_7 := ta_6.trans (hb7.mono (by omega))
  have tx0_7 := tx0_6.trans (hb7.mono (by omega))
  have tx1_7 := tx1_6.trans (hb7.mono (by omega))
  have tbx1_7 := tbx1_6.trans (hb7.mono (by omega))
  have kk1_0 := ((bblk ta_7 (g := w.heap.size) (by omega)).1 0).trans k1_0
  have kk_bx1 := ((bblk tbx1_7 (g := w4.heap.size) (by omega)).1 0).trans q5
  go_wp2_with fail
  refine (eqIntS_any _ _ _ _ _ _ _ ((x3.next tx0_7)).sl (x7).sl hn0).mono ?_; rintro e w8 ⟨rfl, hb8⟩
  rw [E0.out]
  have z8 := hb8.size
  have ta_8 := ta_7.trans (hb8.mono (by omega))
  have tx0_8 := tx0_7.trans (hb8.mono (by omega))
  have tx1_8 := tx1_7.trans (hb8.mono (by omega))
  have tbx1_8 := tbx1_7.trans (hb8.mono (by omega))
  have tn_8 := hb8
  have kk1_0 := ((bblk ta_8 (g := w.heap.size) (by omega)).1 0).trans k1_0
  have kk_bx1 := ((bblk tbx1_8 (g := w4.heap.size) (by omega)).1 0).trans q5
  go_wp2_with fail
  have xs := ((x4.next tx1_8)).sl
  have bs0 : SlR f1 1 w8 w8.heap.size A1 L := ((hw1.below ta_8).mono (by omega))
  refine wp_region_grow [.val (.agg #[.slice B4 L.length d4]), .val (.agg #[.slice A1 L.length c1]), .pred (SmV L), .val (.bool true), .val (.bool false)] mixed (by kernel_rfl) ?_
  refine SeqG.valStep (fun wv hbv hpv => ?_) ?_
  · have e1 := ((bblk hbv (g := w4.heap.size) (by omega)).1 0).trans kk_bx1
    go_wp2_with fail
    exact post_val (Below.refl _ _)
  simp only [Act.put, List.setIfInBounds_toArray, List.set_cons_zero, List.set_cons_succ]
  refine SeqG.valStep (fun wv hbv hpv => ?_) ?_
  · have e1 := ((bblk hbv (g := w.heap.size) (by omega)).1 0).trans kk1_0
    go_wp2_with fail
    exact post_val (Below.refl _ _)
  simp only [Act.put, List.setIfInBounds_toArray, List.set_cons_zero, List.set_cons_succ]
  refine SeqG.predStep SmV.next (fun wv hbv hpv => ?_) (fun v0 => ?_)
  · go_wp2_with fail
    refine (toSample_any _ _ _ _ (bs0.next hbv) hm1).mono ?_; rintro e w1 ⟨B1, d1, rfl, q1, hb1⟩
    go_wp2_with fail
    exact post_pred _ hb1 ⟨_, _, rfl, q1.sl⟩
  simp only [Act.put, List.setIfInBounds_toArray, List.set_cons_zero, List.set_cons_succ]
  refine SeqG.valStep (fun wv hbv hpv => ?_) ?_
  · obtain ⟨B0, d0, rfl, s0⟩ := hpv _ (.head _) (by kernel_rfl)
    clear hpv
    go_wp2_with fail
    refine (eqSample_any _ _ _ _ _ _ _ (xs.next hbv) s0 hn1).mono ?_; rintro e w2 ⟨rfl, hb2⟩
    rw [E1.out]
    go_wp2_with fail
    exact post_val hb2
  simp only [Act.put, List.setIfInBounds_toArray, List.set_cons_zero, List.set_cons_succ]
  refine SeqG.valStep (fun wv hbv hpv => ?_) ?_
  · skip
    go_wp2_with fail
    exact post_val (Below.refl _ _)
  simp only [Act.put, List.setIfInBounds_toArray, List.set_cons_zero, List.set_cons_succ]
  refine SeqG.done fun w9 hb9 hpv => ?_
  clear hpv xs bs0
  have z9 := hb9.size
  have ta_9 := ta_8.trans (hb9.mono (by omega))
  have tx0_9 := tx0_8.trans (hb9.mono (by omega))
  have tx1_9 := tx1_8.trans (hb9.mono (by omega))
  have tbx1_9 := tbx1_8.trans (hb9.mono (by omega))
  go_wp2_with fail
  refine NoPan.normal ?_
  go_wp2
  go_ret
  exact ⟨rfl, hW.trans (ta_9.mono (by omega))⟩
end Go.Proofs.YtapfnelghmnajaaDoor
