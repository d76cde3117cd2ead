/-
  The laws on SieveFor, walked.
-/
import Derived.Test.YtapfnelghmnajaaFr3
import Derived.WalkKit
import Derived.WalkSpells
import Derived.WalkLawsBesides
import Derived.Lib.Hide
import Derived.Deep.QuietTactic
import Derived.BigQuiet
import Derived.StillTailTactics
namespace Go.Proofs.Ytapfnelghmnajaa
open Go.RowKit

set_option maxHeartbeats 8000000 in
theorem walk_SieveFor (A0 : Option Addr) (c0 : Nat) (L : List Int) (hn0 : (L.length : Int) ≤ 9223372036854775807) (_hI0 : ∀ x ∈ L, InI1 x) (p : Int) (_hI1 : InI p) (w : World) (hr0 : SlR f1 1 w w.heap.size A0 L) :
    Calls Try.prog 6 #[.agg #[.slice A0 L.length c0], .int .i64 p] w fun e w' => e = .returned (.bool true) ∧ Below w.heap.size w w' := by
  by_cases hs0 : (1048576 : Int) - L.length < 0
  · have Hv0 := Lib.hid (show szV (1048576) L.length = -1 from if_pos hs0)
    clear _hI0 _hI1
    go_enter Try.func6, Try.ntmps6
    go_wp2_with fail
    refine (szSample_any _ _ _ _ _ hn0 (by omega) (by omega)).mono ?_; rintro e ws0 ⟨rfl, hbs0⟩
    have zs0 := hbs0.size
    try simp at zs0
    rw [Hv0.out]
    go_wp2
    go_ret
    exact ⟨rfl, by (repeat (first | exact Below.refl _ _ | refine Below.drew ?_ | refine below_drewN ?_ _ | (refine Below.alloc ?_ (by (try simp) <;> omega) _) | (refine Below.setCell ?_ (by (try simp) <;> omega) _) | (refine Below.trans ?_ (Below.mono (by assumption) (by (try simp) <;> omega)))))⟩
  have Hv0 := Lib.hid (show szV (1048576) L.length = 1048576 - L.length from if_neg hs0)
  have hm0 : (L.length : Int) ≤ 1048576 := by omega
  have C1 := Lib.hid (fun A0 c0 w h0 => SSieveFor_any A0 c0 L p w h0 hm0)
  have C2 := Lib.hid (fun A0 c0 w h0 => SieveFor_any A0 c0 L p w h0 hm0)
  clear _hI0 _hI1
  obtain ⟨r0, r1, hj⟩ := sfV_form L p
  rw [hj] at C1 C2
  clear hj
  have nb0 := neI r0
  have nb1 := neB r1
  have hl0 : (0 : Int) ≤ (L.length : Int) := by omega
  have E0 := Lib.hid (eqL_refl L)
  go_enter Try.func6, Try.ntmps6
  go_wp2_with fail
  have hW : Below w.heap.size w (w.alloc (.cells #[.slice A0 L.length c0] 27 (0, 0))) := by (repeat (first | exact Below.refl _ _ | refine Below.drew ?_ | refine below_drewN ?_ _ | (refine Below.alloc ?_ (by (try simp) <;> omega) _) | (refine Below.setCell ?_ (by (try simp) <;> omega) _) | (refine Below.trans ?_ (Below.mono (by assumption) (by (try simp) <;> omega)))))
  have zW : w.heap.size + 1 ≤ (w.alloc (.cells #[.slice A0 L.length c0] 27 (0, 0))).heap.size := by simp
  have hw0 := (hr0.below hW).mono (show w.heap.size ≤ (w.alloc (.cells #[.slice A0 L.length c0] 27 (0, 0))).heap.size by omega)
  have k0_0 : (w.alloc (.cells #[.slice A0 L.length c0] 27 (0, 0))).cell? ⟨w.heap.size, 0, none⟩ = some (.slice A0 L.length c0) := by simp
  generalize (w.alloc (.cells #[.slice A0 L.length c0] 27 (0, 0))) = W0 at *
  refine (szSample_any _ _ _ _ _ hn0 (by omega) (by omega)).mono ?_; rintro e w1 ⟨rfl, hb1⟩
  have z1 := hb1.size
  have ta_1 := hb1
  have kk0_0 := ((bblk ta_1 (g := w.heap.size) (by omega)).1 0).trans k0_0
  rw [Hv0.out]
  have kk0_0 := ((bblk ta_1 (g := w.heap.size) (by omega)).1 0).trans k0_0
  go_wp2_with fail
  refine (toSample_any _ _ _ _ ((hw0.below ta_1).mono (by omega)) hm0).mono ?_; rintro e w2 ⟨B2, d2, rfl, x2, hb2⟩
  have z2 := hb2.size
  have ta_2 := ta_1.trans (hb2.mono (by omega))
  go_wp2_with fail
  refine (C1.out _ _ _ (x2).sl).mono ?_; rintro e w3 ⟨rfl, hb3⟩
  have z3 := hb3.size
  have ta_3 := ta_2.trans (hb3.mono (by omega))
  have kk0_0 := ((bblk ta_3 (g := w.heap.size) (by omega)).1 0).trans k0_0
  go_wp2_with fail
  refine (toSample_any _ _ _ _ ((hw0.below ta_3).mono (by omega)) hm0).mono ?_; rintro e w4 ⟨B4, d4, rfl, x4, hb4⟩
  have z4 := hb4.size
  have ta_4 := ta_3.trans (hb4.mono (by omega))
  have y4 := x4.sl
  go_wp2_with fail
  have hb5 : Below w4.heap.size w4 (w4.alloc (.cells #[.slice B4 L.length d4] 30 (0, 0))) := by (repeat (first | exact Below.refl _ _ | refine Below.drew ?_ | refine below_drewN ?_ _ | (refine Below.alloc ?_ (by (try simp) <;> omega) _) | (refine Below.setCell ?_ (by (try simp) <;> omega) _) | (refine Below.trans ?_ (Below.mono (by assumption) (by (try simp) <;> omega)))))
  have z5 := hb5.size
  have zz5 : w4.heap.size < (w4.alloc (.cells #[.slice B4 L.length d4] 30 (0, 0))).heap.size := by simp
  have q5 : (w4.alloc (.cells #[.slice B4 L.length d4] 30 (0, 0))).cell? ⟨w4.heap.size, 0, none⟩ = some (.slice B4 L.length d4) := by simp
  generalize (w4.alloc (.cells #[.slice B4 L.length d4] 30 (0, 0))) = w5 at *
  have ta_5 := ta_4.trans (hb5.mono (by omega))
  have tx0_5 := hb5
  have kk0_0 := ((bblk ta_5 (g := w.heap.size) (by omega)).1 0).trans k0_0
  have kk_bx0 := q5
  refine (C2.out _ _ _ ((x4.next tx0_5)).sl).mono ?_; rintro e w6 ⟨rfl, hb6⟩
  have z6 := hb6.size
  have ta_6 := ta_5.trans (hb6.mono (by omega))
  have tx0_6 := tx0_5.trans (hb6.mono (by omega))
  have tbx0_6 := hb6
  have kk0_0 := ((bblk ta_6 (g := w.heap.size) (by omega)).1 0).trans k0_0
  have kk_bx0 := ((bblk tbx0_6 (g := w4.heap.size) (by omega)).1 0).trans q5
  go_wp2_with fail
  have xs := ((x4.next tx0_6)).sl
  have bs0 : SlR f1 1 w6 w6.heap.size A0 L := ((hw0.below ta_6).mono (by omega))
  refine wp_region_grow [.val (.agg #[.slice B4 L.length d4]), .val (.agg #[.slice A0 L.length c0]), .pred (SmV L), .val (.bool true), .val (.bool false)] mixed (by kernel_rfl) ?_
  refine SeqG.valStep (fun wv hbv hpv => ?_) ?_
  · have e1 := ((bblk hbv (g := w4.heap.size) (by omega)).1 0).trans kk_bx0
    go_wp2_with fail
    exact post_val (Below.refl _ _)
  simp only [Act.put, List.setIfInBounds_toArray, List.set_cons_zero, List.set_cons_succ]
  refine SeqG.valStep (fun wv hbv hpv => ?_) ?_
  · have e1 := ((bblk hbv (g := w.heap.size) (by omega)).1 0).trans kk0_0
    go_wp2_with fail
    exact post_val (Below.refl _ _)
  simp only [Act.put, List.setIfInBounds_toArray, List.set_cons_zero, List.set_cons_succ]
  refine SeqG.predStep SmV.next (fun wv hbv hpv => ?_) (fun v0 => ?_)
  · go_wp2_with fail
    refine (toSample_any _ _ _ _ (bs0.next hbv) hm0).mono ?_; rintro e w1 ⟨B1, d1, rfl, q1, hb1⟩
    go_wp2_with fail
    exact post_pred _ hb1 ⟨_, _, rfl, q1.sl⟩
  simp only [Act.put, List.setIfInBounds_toArray, List.set_cons_zero, List.set_cons_succ]
  refine SeqG.valStep (fun wv hbv hpv => ?_) ?_
  · obtain ⟨B0, d0, rfl, s0⟩ := hpv _ (.head _) (by kernel_rfl)
    clear hpv
    go_wp2_with fail
    refine (eqSample_any _ _ _ _ _ _ _ (xs.next hbv) s0 hn0).mono ?_; rintro e w2 ⟨rfl, hb2⟩
    rw [E0.out]
    go_wp2_with fail
    exact post_val hb2
  simp only [Act.put, List.setIfInBounds_toArray, List.set_cons_zero, List.set_cons_succ]
  refine SeqG.valStep (fun wv hbv hpv => ?_) ?_
  · skip
    go_wp2_with fail
    exact post_val (Below.refl _ _)
  simp only [Act.put, List.setIfInBounds_toArray, List.set_cons_zero, List.set_cons_succ]
  refine SeqG.done fun w7 hb7 hpv => ?_
  clear hpv xs bs0
  have z7 := hb7.size
  have ta_7 := ta_6.trans (hb7.mono (by omega))
  have tx0_7 := tx0_6.trans (hb7.mono (by omega))
  have tbx0_7 := tbx0_6.trans (hb7.mono (by omega))
  go_wp2_with fail
  refine NoPan.normal ?_
  go_wp2
  go_ret
  exact ⟨rfl, hW.trans (ta_7.mono (by omega))⟩
end Go.Proofs.Ytapfnelghmnajaa
