/-
  The law on FirstStart, walked.
-/
import Derived.Test.YtfcmfadkkfkidaaFirst1
import Derived.Test.YtfcmfadkkfkidaaHTrip
import Derived.Test.YtfcmfadkkfkidaaPred
import Derived.WalkKit
import Derived.WalkSpells
import Derived.WalkLawsBesides
import Derived.Lib.Hide
import Derived.Deep.QuietTactic
import Derived.BigQuiet
import Derived.StillTailTactics
namespace Go.Proofs.Ytfcmfadkkfkidaa
open Go.RowKit

theorem SFirstStart_w (A : Option Addr) (cp : Nat) (L : List T5) (a b c d g : Int) (w : World) (hr : SlR f5 5 w w.heap.size A L) (hm : (L.length : Int) ≤ 1048576) (hI : ∀ x ∈ L, InI5 x) :
    Calls Try.prog 39 #[.slice A L.length cp, .agg #[.int .i64 a, .int .i64 b, .int .i64 c, .int .i64 d, .int .i64 g]] w fun e w' => e = .returned (.tuple #[.int .i64 (fsN L (a, b, c, d, g)), .bool (fsU L (a, b, c, d, g))]) ∧ Below w.heap.size w w' := SFirstStart_any A cp L (a, b, c, d, g) w hr hm hI
theorem FirstStart_w (A : Option Addr) (cp : Nat) (L : List T5) (a b c d g : Int) (w : World) (hr : SlR f5 5 w w.heap.size A L) (hm : (L.length : Int) ≤ 1048576) (hI : ∀ x ∈ L, InI5 x) :
    Calls Try.prog 40 #[.slice A L.length cp, .agg #[.int .i64 a, .int .i64 b, .int .i64 c, .int .i64 d, .int .i64 g]] w fun e w' => e = .returned (.tuple #[.int .i64 (fsN L (a, b, c, d, g)), .bool (fsU L (a, b, c, d, g))]) ∧ Below w.heap.size w w' := FirstStart_any A cp L (a, b, c, d, g) w hr hm hI

set_option maxHeartbeats 8000000 in
theorem walk_FirstStart (A0 : Option Addr) (c0 : Nat) (L : List (Int × Int × Int × Int × Int)) (hn0 : (L.length : Int) ≤ 9223372036854775807) (_hI0 : ∀ x ∈ L, InI5 x) (a b c d g : Int) (_hI1 : InI a ∧ InI b ∧ InI c ∧ InI d ∧ InI g) (w : World) (hr0 : SlR f5 5 w w.heap.size A0 L) :
    Calls Try.prog 9 #[.slice A0 L.length c0, .agg #[.int .i64 a, .int .i64 b, .int .i64 c, .int .i64 d, .int .i64 g]] w fun e w' => e = .returned (.bool true) ∧ Below w.heap.size w w' := by
  by_cases hs0 : (1048576 : Int) - L.length < 0
  · have Hv0 := Lib.hid (show szV (1048576) L.length = -1 from if_pos hs0)
    clear _hI0 _hI1
    go_enter Try.func9, Try.ntmps9
    go_wp2_with fail
    refine (szTripS_any _ _ _ _ _ hn0 (by omega) (by omega)).mono ?_; rintro e w' ⟨rfl, rfl⟩
    rw [Hv0.out]
    go_wp2
    go_ret
    exact ⟨rfl, by (repeat (first | exact Below.refl _ _ | refine Below.drew ?_ | refine below_drewN ?_ _ | (refine Below.alloc ?_ (by (try simp) <;> omega) _) | (refine Below.setCell ?_ (by (try simp) <;> omega) _) | (refine Below.trans ?_ (Below.mono (by assumption) (by (try simp) <;> omega)))))⟩
  have Hv0 := Lib.hid (show szV (1048576) L.length = 1048576 - L.length from if_neg hs0)
  have hm0 : (L.length : Int) ≤ 1048576 := by omega
  have C1 := Lib.hid (fun A0 c0 w h0 => SFirstStart_w A0 c0 L a b c d g w h0 hm0 _hI0)
  have C2 := Lib.hid (fun A0 c0 w h0 => FirstStart_w A0 c0 L a b c d g w h0 hm0 _hI0)
  clear _hI0 _hI1
  generalize fsN L (a, b, c, d, g) = r0 at *
  generalize fsU L (a, b, c, d, g) = r1 at *
  have nb0 := neI r0
  have nb1 := neB r1
  have hl0 : (0 : Int) ≤ (L.length : Int) := by omega
  have E0 := Lib.hid (eqL_refl L)
  go_enter Try.func9, Try.ntmps9
  go_wp2_with fail
  have hW : Below w.heap.size w (w.alloc (.cells #[.int .i64 a, .int .i64 b, .int .i64 c, .int .i64 d, .int .i64 g] 23 (0, 0))) := by (repeat (first | exact Below.refl _ _ | refine Below.drew ?_ | refine below_drewN ?_ _ | (refine Below.alloc ?_ (by (try simp) <;> omega) _) | (refine Below.setCell ?_ (by (try simp) <;> omega) _) | (refine Below.trans ?_ (Below.mono (by assumption) (by (try simp) <;> omega)))))
  have zW : w.heap.size + 1 ≤ (w.alloc (.cells #[.int .i64 a, .int .i64 b, .int .i64 c, .int .i64 d, .int .i64 g] 23 (0, 0))).heap.size := by simp
  have hw0 := (hr0.below hW).mono (show w.heap.size ≤ (w.alloc (.cells #[.int .i64 a, .int .i64 b, .int .i64 c, .int .i64 d, .int .i64 g] 23 (0, 0))).heap.size by omega)
  have k1_0 : (w.alloc (.cells #[.int .i64 a, .int .i64 b, .int .i64 c, .int .i64 d, .int .i64 g] 23 (0, 0))).cell? ⟨w.heap.size, 0, none⟩ = some (.int .i64 a) := by simp
  have k1_1 : (w.alloc (.cells #[.int .i64 a, .int .i64 b, .int .i64 c, .int .i64 d, .int .i64 g] 23 (0, 0))).cell? ⟨w.heap.size, 1, none⟩ = some (.int .i64 b) := by simp
  have k1_2 : (w.alloc (.cells #[.int .i64 a, .int .i64 b, .int .i64 c, .int .i64 d, .int .i64 g] 23 (0, 0))).cell? ⟨w.heap.size, 2, none⟩ = some (.int .i64 c) := by simp
  have k1_3 : (w.alloc (.cells #[.int .i64 a, .int .i64 b, .int .i64 c, .int .i64 d, .int .i64 g] 23 (0, 0))).cell? ⟨w.heap.size, 3, none⟩ = some (.int .i64 d) := by simp
  have k1_4 : (w.alloc (.cells #[.int .i64 a, .int .i64 b, .int .i64 c, .int .i64 d, .int .i64 g] 23 (0, 0))).cell? ⟨w.heap.size, 4, none⟩ = some (.int .i64 g) := by simp
  generalize (w.alloc (.cells #[.int .i64 a, .int .i64 b, .int .i64 c, .int .i64 d, .int .i64 g] 23 (0, 0))) = W0 at *
  refine (szTripS_any _ _ _ _ _ hn0 (by omega) (by omega)).mono ?_; rintro e w' ⟨rfl, rfl⟩
  rw [Hv0.out]
  go_wp2_with fail
  refine wp_region_grow [.fix (.slice A0 L.length c0), .pred (SlV f5 5 L), .val (.agg #[.int .i64 a, .int .i64 b, .int .i64 c, .int .i64 d, .int .i64 g]), .val (.agg #[.int .i64 a, .int .i64 b, .int .i64 c, .int .i64 d, .int .i64 g]), .val (.tuple #[.int .i64 r0, .bool r1]), .val (.tuple #[.int .i64 r0, .bool r1]), .val (.int .i64 r0), .val (.bool r1), .val (.int .i64 r0), .val (.bool r1)] mixed (by kernel_rfl) ?_
  refine SeqG.fixStep (.inl ⟨rfl, fun _ => rfl⟩) ?_
  simp only [Act.put, List.setIfInBounds_toArray, List.set_cons_zero, List.set_cons_succ]
  refine SeqG.predStep SlV.next (fun wv hbv hpv => ?_) (fun v0 => ?_)
  · go_wp2_with fail
    refine (toTripS_any _ _ _ _ (SlR.next hw0 hbv) hm0).mono ?_; rintro e w1 ⟨B1, d1, rfl, q1, hb1⟩
    go_wp2_with fail
    exact post_pred _ hb1 ⟨_, _, rfl, q1.sl⟩
  simp only [Act.put, List.setIfInBounds_toArray, List.set_cons_zero, List.set_cons_succ]
  refine SeqG.valStep (fun wv hbv hpv => ?_) ?_
  · have e1_0 := ((bblk hbv (g := w.heap.size) (by omega)).1 0).trans k1_0; have e1_1 := ((bblk hbv (g := w.heap.size) (by omega)).1 1).trans k1_1; have e1_2 := ((bblk hbv (g := w.heap.size) (by omega)).1 2).trans k1_2; have e1_3 := ((bblk hbv (g := w.heap.size) (by omega)).1 3).trans k1_3; have e1_4 := ((bblk hbv (g := w.heap.size) (by omega)).1 4).trans k1_4
    go_wp2_with fail
    exact post_val (Below.refl _ _)
  simp only [Act.put, List.setIfInBounds_toArray, List.set_cons_zero, List.set_cons_succ]
  refine SeqG.valStep (fun wv hbv hpv => ?_) ?_
  · go_wp2_with fail
    refine (toTrip_any _ _ _ _ _ _).mono ?_; rintro e w' ⟨he, hb⟩; subst he
    go_wp2_with fail
    exact post_val hb
  simp only [Act.put, List.setIfInBounds_toArray, List.set_cons_zero, List.set_cons_succ]
  refine SeqG.valStep (fun wv hbv hpv => ?_) ?_
  · obtain ⟨B0, d0, rfl, s0⟩ := hpv _ (.head _) (by kernel_rfl)
    clear hpv
    go_wp2_with fail
    refine (C1.out _ _ _ s0).mono ?_; rintro e w2 ⟨rfl, hb2⟩
    go_wp2_with fail
    exact post_val hb2
  simp only [Act.put, List.setIfInBounds_toArray, List.set_cons_zero, List.set_cons_succ]
  refine SeqG.valStep (fun wv hbv hpv => ?_) ?_
  · skip
    go_wp2_with fail
    exact post_val (Below.refl _ _)
  simp only [Act.put, List.setIfInBounds_toArray, List.set_cons_zero, List.set_cons_succ]
  refine SeqG.valStep (fun wv hbv hpv => ?_) ?_
  · skip
    go_wp2_with fail
    exact post_val (Below.refl _ _)
  simp only [Act.put, List.setIfInBounds_toArray, List.set_cons_zero, List.set_cons_succ]
  refine SeqG.valStep (fun wv hbv hpv => ?_) ?_
  · skip
    go_wp2_with fail
    exact post_val (Below.refl _ _)
  simp only [Act.put, List.setIfInBounds_toArray, List.set_cons_zero, List.set_cons_succ]
  refine SeqG.valStep (fun wv hbv hpv => ?_) ?_
  · skip
    go_wp2_with fail
    exact post_val (Below.refl _ _)
  simp only [Act.put, List.setIfInBounds_toArray, List.set_cons_zero, List.set_cons_succ]
  refine SeqG.valStep (fun wv hbv hpv => ?_) ?_
  · skip
    go_wp2_with fail
    exact post_val (Below.refl _ _)
  simp only [Act.put, List.setIfInBounds_toArray, List.set_cons_zero, List.set_cons_succ]
  refine SeqG.done fun w1 hb1 hpv => ?_
  clear hpv
  have z1 := hb1.size
  have ta_1 := hb1
  go_wp2_with fail
  refine NoPan.normal ?_
  have kk1_0 := ((bblk ta_1 (g := w.heap.size) (by omega)).1 0).trans k1_0
  have kk1_1 := ((bblk ta_1 (g := w.heap.size) (by omega)).1 1).trans k1_1
  have kk1_2 := ((bblk ta_1 (g := w.heap.size) (by omega)).1 2).trans k1_2
  have kk1_3 := ((bblk ta_1 (g := w.heap.size) (by omega)).1 3).trans k1_3
  have kk1_4 := ((bblk ta_1 (g := w.heap.size) (by omega)).1 4).trans k1_4
  go_wp2_with fail
  refine (toTripS_any _ _ _ _ ((hw0.below ta_1).mono (by omega)) hm0).mono ?_; rintro e w2 ⟨B2, d2, rfl, x2, hb2⟩
  have z2 := hb2.size
  have ta_2 := ta_1.trans (hb2.mono (by omega))
  have y2 := x2.sl
  have kk1_0 := ((bblk ta_2 (g := w.heap.size) (by omega)).1 0).trans k1_0
  have kk1_1 := ((bblk ta_2 (g := w.heap.size) (by omega)).1 1).trans k1_1
  have kk1_2 := ((bblk ta_2 (g := w.heap.size) (by omega)).1 2).trans k1_2
  have kk1_3 := ((bblk ta_2 (g := w.heap.size) (by omega)).1 3).trans k1_3
  have kk1_4 := ((bblk ta_2 (g := w.heap.size) (by omega)).1 4).trans k1_4
  go_wp2_with fail
  refine (toTrip_any _ _ _ _ _ _).mono ?_; rintro e w3 ⟨rfl, hb3⟩
  have z3 := hb3.size
  have ta_3 := ta_2.trans (hb3.mono (by omega))
  have tx0_3 := hb3
  have kk1_0 := ((bblk ta_3 (g := w.heap.size) (by omega)).1 0).trans k1_0
  have kk1_1 := ((bblk ta_3 (g := w.heap.size) (by omega)).1 1).trans k1_1
  have kk1_2 := ((bblk ta_3 (g := w.heap.size) (by omega)).1 2).trans k1_2
  have kk1_3 := ((bblk ta_3 (g := w.heap.size) (by omega)).1 3).trans k1_3
  have kk1_4 := ((bblk ta_3 (g := w.heap.size) (by omega)).1 4).trans k1_4
  go_wp2_with fail
  refine (C2.out _ _ _ ((x2.next tx0_3)).sl).mono ?_; rintro e w4 ⟨rfl, hb4⟩
  have z4 := hb4.size
  have ta_4 := ta_3.trans (hb4.mono (by omega))
  have tx0_4 := tx0_3.trans (hb4.mono (by omega))
  have kk1_0 := ((bblk ta_4 (g := w.heap.size) (by omega)).1 0).trans k1_0
  have kk1_1 := ((bblk ta_4 (g := w.heap.size) (by omega)).1 1).trans k1_1
  have kk1_2 := ((bblk ta_4 (g := w.heap.size) (by omega)).1 2).trans k1_2
  have kk1_3 := ((bblk ta_4 (g := w.heap.size) (by omega)).1 3).trans k1_3
  have kk1_4 := ((bblk ta_4 (g := w.heap.size) (by omega)).1 4).trans k1_4
  go_wp2_with fail
  refine (toTripS_any _ _ _ _ ((hw0.below ta_4).mono (by omega)) hm0).mono ?_; rintro e w5 ⟨B5, d5, rfl, x5, hb5⟩
  have z5 := hb5.size
  have ta_5 := ta_4.trans (hb5.mono (by omega))
  have tx0_5 := tx0_4.trans (hb5.mono (by omega))
  have kk1_0 := ((bblk ta_5 (g := w.heap.size) (by omega)).1 0).trans k1_0
  have kk1_1 := ((bblk ta_5 (g := w.heap.size) (by omega)).1 1).trans k1_1
  have kk1_2 := ((bblk ta_5 (g := w.heap.size) (by omega)).1 2).trans k1_2
  have kk1_3 := ((bblk ta_5 (g := w.heap.size) (by omega)).1 3).trans k1_3
  have kk1_4 := ((bblk ta_5 (g := w.heap.size) (by omega)).1 4).trans k1_4
  go_wp2_with fail
  refine (eqTripS_any _ _ _ _ _ _ _ ((x2.next tx0_5)).sl (x5).sl hn0).mono ?_; rintro e w6 ⟨rfl, hb6⟩
  rw [E0.out]
  have z6 := hb6.size
  have ta_6 := ta_5.trans (hb6.mono (by omega))
  have tx0_6 := tx0_5.trans (hb6.mono (by omega))
  have tn_6 := hb6
  go_wp2
  go_ret
  exact ⟨rfl, hW.trans (ta_6.mono (by omega))⟩
end Go.Proofs.Ytfcmfadkkfkidaa
