/-
  MedianSize: both programs; the laws on IsSample and MedianSize, walked.
-/
import Derived.Test.YtapfnelghmnajaaSmp1
import Derived.Test.YtapfnelghmnajaaPred
import Derived.WalkKit
import Derived.WalkSpells
import Derived.WalkLawsBesides
import Derived.Lib.Hide
import Derived.Deep.QuietTactic
import Derived.BigQuiet
import Derived.StillTailTactics
namespace Go.Proofs.Ytapfnelghmnajaa
open Go.RowKit

def medN (L : List Int) : Int := match L[(L.length - 1) / 2]? with | some x => x | none => 0
def medI (L : List Int) : Int := if smpB L then medN L else 0

set_option maxHeartbeats 1000000 in
theorem MedianSize_any (A : Option Addr) (c : Nat) (L : List Int) (w : World) (hr : SlR f1 1 w w.heap.size A L) (hm : (L.length : Int) ≤ 1048576) :
    Calls Try.prog 24 #[.agg #[.slice A L.length c]] w fun e w' => e = .returned (.tuple #[.int .i64 (medI L), .bool (smpB L)]) ∧ Below w.heap.size w w' := by
  have hr' := hr.alloc (.cells #[.slice A L.length c] 30 (0, 0))
  cases h : smpB L
  · have Hv := Lib.hid (show medI L = 0 by simp [medI, h])
    go_enter Try.func24, Try.ntmps24
    go_wp2_with fail
    refine (IsSample_any _ _ _ _ hr' hm).mono ?_; rintro e w1 ⟨rfl, hb1⟩
    have z1 := hb1.size
    try simp at z1
    rw [h]
    go_wp2
    go_ret2
    exact ⟨by rw [Hv.out]; rfl, by (repeat (first | exact Below.refl _ _ | refine Below.drew ?_ | refine below_drewN ?_ _ | (refine Below.alloc ?_ (by (try simp) <;> omega) _) | (refine Below.setCell ?_ (by (try simp) <;> omega) _) | (refine Below.trans ?_ (Below.mono (by assumption) (by (try simp) <;> omega)))))⟩
  · obtain ⟨l1, l2⟩ := smpB_len h
    obtain ⟨k, hk⟩ : ∃ k, (L.length - 1) / 2 = k := ⟨_, rfl⟩
    have hkl : k < L.length := by omega
    have hx : L[k]? = some L[k] := List.getElem?_eq_getElem hkl
    have Hv := Lib.hid (show medI L = L[k] by simp [medI, h, medN, hk, hx])
    obtain ⟨b, off, rfl, hB, hcs⟩ := hr (SlR.ne hx)
    have hq : ((L.length : Int) - 1) / 2 = (k : Int) := by omega
    have hk0 : (0 : Int) ≤ (k : Int) := by omega
    have hk1 : (k : Int) < (L.length : Int) := by omega
    go_enter Try.func24, Try.ntmps24
    go_wp2_with fail
    refine (IsSample_any _ _ _ _ hr' hm).mono ?_; rintro e w1 ⟨rfl, hb1⟩
    have z1 := hb1.size
    try simp at z1
    obtain ⟨c1_0, f1_0⟩ := bblk hb1 (g := w.heap.size) (by (try simp) <;> omega)
    have l1_0 : w.heap.size < w1.heap.size := by omega
    rw [h]
    have hC := hcs.below (((Below.refl w.heap.size w).alloc (Nat.le_refl _) (.cells #[.slice (some ⟨b, off, none⟩) L.length c] 30 (0, 0))).trans (hb1.mono (by simp))) hB
    have c0 := cells1 hC hx
    generalize L[k] = x at *
    clear hr hr' hcs hC hx hk h
    go_wp2
    go_ret2
    exact ⟨by rw [Hv.out]; rfl, by (repeat (first | exact Below.refl _ _ | refine Below.drew ?_ | refine below_drewN ?_ _ | (refine Below.alloc ?_ (by (try simp) <;> omega) _) | (refine Below.setCell ?_ (by (try simp) <;> omega) _) | (refine Below.trans ?_ (Below.mono (by assumption) (by (try simp) <;> omega)))))⟩

set_option maxHeartbeats 1000000 in
theorem SMedianSize_any (A : Option Addr) (c : Nat) (L : List Int) (w : World) (hr : SlR f1 1 w w.heap.size A L) (hm : (L.length : Int) ≤ 1048576) :
    Calls Try.prog 23 #[.agg #[.slice A L.length c]] w fun e w' => e = .returned (.tuple #[.int .i64 (medI L), .bool (smpB L)]) ∧ Below w.heap.size w w' := by
  have hr' := hr.alloc (.cells #[.slice A L.length c] 30 (0, 0))
  cases h : smpB L
  · have Hv := Lib.hid (show medI L = 0 by simp [medI, h])
    go_enter Try.func23, Try.ntmps23
    go_wp2_with fail
    refine (l14Sample_any _ _ _ _ hr' hm).mono ?_; rintro e w1 ⟨rfl, hb1⟩
    have z1 := hb1.size
    try simp at z1
    rw [h]
    go_wp2
    go_ret2
    exact ⟨by rw [Hv.out]; rfl, by (repeat (first | exact Below.refl _ _ | refine Below.drew ?_ | refine below_drewN ?_ _ | (refine Below.alloc ?_ (by (try simp) <;> omega) _) | (refine Below.setCell ?_ (by (try simp) <;> omega) _) | (refine Below.trans ?_ (Below.mono (by assumption) (by (try simp) <;> omega)))))⟩
  · obtain ⟨l1, l2⟩ := smpB_len h
    obtain ⟨k, hk⟩ : ∃ k, (L.length - 1) / 2 = k := ⟨_, rfl⟩
    have hkl : k < L.length := by omega
    have hx : L[k]? = some L[k] := List.getElem?_eq_getElem hkl
    have Hv := Lib.hid (show medI L = L[k] by simp [medI, h, medN, hk, hx])
    obtain ⟨b, off, rfl, hB, hcs⟩ := hr (SlR.ne hx)
    have hq : ((L.length : Int) - 1) / 2 = (k : Int) := by omega
    have hk0 : (0 : Int) ≤ (k : Int) := by omega
    have hk1 : (k : Int) < (L.length : Int) := by omega
    go_enter Try.func23, Try.ntmps23
    go_wp2_with fail
    refine (l14Sample_any _ _ _ _ hr' hm).mono ?_; rintro e w1 ⟨rfl, hb1⟩
    have z1 := hb1.size
    try simp at z1
    obtain ⟨c1_0, f1_0⟩ := bblk hb1 (g := w.heap.size) (by (try simp) <;> omega)
    have l1_0 : w.heap.size < w1.heap.size := by omega
    rw [h]
    have hC := hcs.below (((Below.refl w.heap.size w).alloc (Nat.le_refl _) (.cells #[.slice (some ⟨b, off, none⟩) L.length c] 30 (0, 0))).trans (hb1.mono (by simp))) hB
    have c0 := cells1 hC hx
    generalize L[k] = x at *
    clear hr hr' hcs hC hx hk h
    go_wp2
    go_ret2
    exact ⟨by rw [Hv.out]; rfl, by (repeat (first | exact Below.refl _ _ | refine Below.drew ?_ | refine below_drewN ?_ _ | (refine Below.alloc ?_ (by (try simp) <;> omega) _) | (refine Below.setCell ?_ (by (try simp) <;> omega) _) | (refine Below.trans ?_ (Below.mono (by assumption) (by (try simp) <;> omega)))))⟩

set_option maxHeartbeats 8000000 in
theorem walk_IsSample (A0 : Option Addr) (c0 : Nat) (L : List Int) (hn0 : (L.length : Int) ≤ 9223372036854775807) (_hI0 : ∀ x ∈ L, InI1 x) (w : World) (hr0 : SlR f1 1 w w.heap.size A0 L) :
    Calls Try.prog 4 #[.agg #[.slice A0 L.length c0]] w fun e w' => e = .returned (.bool true) ∧ Below w.heap.size w w' := by
  by_cases hs0 : (1048576 : Int) - L.length < 0
  · have Hv0 := Lib.hid (show szV (1048576) L.length = -1 from if_pos hs0)
    clear _hI0
    go_enter Try.func4, Try.ntmps4
    go_wp2_with fail
    refine (szSample_any _ _ _ _ _ hn0 (by omega) (by omega)).mono ?_; rintro e ws0 ⟨rfl, hbs0⟩
    have zs0 := hbs0.size
    try simp at zs0
    rw [Hv0.out]
    go_wp2
    go_ret
    exact ⟨rfl, by (repeat (first | exact Below.refl _ _ | refine Below.drew ?_ | refine below_drewN ?_ _ | (refine Below.alloc ?_ (by (try simp) <;> omega) _) | (refine Below.setCell ?_ (by (try simp) <;> omega) _) | (refine Below.trans ?_ (Below.mono (by assumption) (by (try simp) <;> omega)))))⟩
  have Hv0 := Lib.hid (show szV (1048576) L.length = 1048576 - L.length from if_neg hs0)
  have hm0 : (L.length : Int) ≤ 1048576 := by omega
  have C1 := Lib.hid (fun A0 c0 w h0 => SIsSample_any A0 c0 L w h0 hm0)
  have C2 := Lib.hid (fun A0 c0 w h0 => IsSample_any A0 c0 L w h0 hm0)
  clear _hI0
  obtain ⟨r0, hj⟩ : ∃ r, smpB L = r := ⟨_, rfl⟩
  rw [hj] at C1 C2
  clear hj
  have nb0 := neB r0
  have hl0 : (0 : Int) ≤ (L.length : Int) := by omega
  have E0 := Lib.hid (eqL_refl L)
  go_enter Try.func4, Try.ntmps4
  go_wp2_with fail
  have hW : Below w.heap.size w (w.alloc (.cells #[.slice A0 L.length c0] 27 (0, 0))) := by (repeat (first | exact Below.refl _ _ | refine Below.drew ?_ | refine below_drewN ?_ _ | (refine Below.alloc ?_ (by (try simp) <;> omega) _) | (refine Below.setCell ?_ (by (try simp) <;> omega) _) | (refine Below.trans ?_ (Below.mono (by assumption) (by (try simp) <;> omega)))))
  have zW : w.heap.size + 1 ≤ (w.alloc (.cells #[.slice A0 L.length c0] 27 (0, 0))).heap.size := by simp
  have hw0 := (hr0.below hW).mono (show w.heap.size ≤ (w.alloc (.cells #[.slice A0 L.length c0] 27 (0, 0))).heap.size by omega)
  have k0_0 : (w.alloc (.cells #[.slice A0 L.length c0] 27 (0, 0))).cell? ⟨w.heap.size, 0, none⟩ = some (.slice A0 L.length c0) := by simp
  generalize (w.alloc (.cells #[.slice A0 L.length c0] 27 (0, 0))) = W0 at *
  refine (szSample_any _ _ _ _ _ hn0 (by omega) (by omega)).mono ?_; rintro e w1 ⟨rfl, hb1⟩
  have z1 := hb1.size
  have ta_1 := hb1
  have kk0_0 := ((bblk ta_1 (g := w.heap.size) (by omega)).1 0).trans k0_0
  rw [Hv0.out]
  have kk0_0 := ((bblk ta_1 (g := w.heap.size) (by omega)).1 0).trans k0_0
  go_wp2_with fail
  refine (toSample_any _ _ _ _ ((hw0.below ta_1).mono (by omega)) hm0).mono ?_; rintro e w2 ⟨B2, d2, rfl, x2, hb2⟩
  have z2 := hb2.size
  have ta_2 := ta_1.trans (hb2.mono (by omega))
  go_wp2_with fail
  refine (C1.out _ _ _ (x2).sl).mono ?_; rintro e w3 ⟨rfl, hb3⟩
  have z3 := hb3.size
  have ta_3 := ta_2.trans (hb3.mono (by omega))
  have kk0_0 := ((bblk ta_3 (g := w.heap.size) (by omega)).1 0).trans k0_0
  go_wp2_with fail
  refine (toSample_any _ _ _ _ ((hw0.below ta_3).mono (by omega)) hm0).mono ?_; rintro e w4 ⟨B4, d4, rfl, x4, hb4⟩
  have z4 := hb4.size
  have ta_4 := ta_3.trans (hb4.mono (by omega))
  have y4 := x4.sl
  go_wp2_with fail
  have hb5 : Below w4.heap.size w4 (w4.alloc (.cells #[.slice B4 L.length d4] 30 (0, 0))) := by (repeat (first | exact Below.refl _ _ | refine Below.drew ?_ | refine below_drewN ?_ _ | (refine Below.alloc ?_ (by (try simp) <;> omega) _) | (refine Below.setCell ?_ (by (try simp) <;> omega) _) | (refine Below.trans ?_ (Below.mono (by assumption) (by (try simp) <;> omega)))))
  have z5 := hb5.size
  have zz5 : w4.heap.size < (w4.alloc (.cells #[.slice B4 L.length d4] 30 (0, 0))).heap.size := by simp
  have q5 : (w4.alloc (.cells #[.slice B4 L.length d4] 30 (0, 0))).cell? ⟨w4.heap.size, 0, none⟩ = some (.slice B4 L.length d4) := by simp
  generalize (w4.alloc (.cells #[.slice B4 L.length d4] 30 (0, 0))) = w5 at *
  have ta_5 := ta_4.trans (hb5.mono (by omega))
  have tx0_5 := hb5
  have kk0_0 := ((bblk ta_5 (g := w.heap.size) (by omega)).1 0).trans k0_0
  have kk_bx0 := q5
  refine (C2.out _ _ _ ((x4.next tx0_5)).sl).mono ?_; rintro e w6 ⟨rfl, hb6⟩
  have z6 := hb6.size
  have ta_6 := ta_5.trans (hb6.mono (by omega))
  have tx0_6 := tx0_5.trans (hb6.mono (by omega))
  have tbx0_6 := hb6
  have kk0_0 := ((bblk ta_6 (g := w.heap.size) (by omega)).1 0).trans k0_0
  have kk_bx0 := ((bblk tbx0_6 (g := w4.heap.size) (by omega)).1 0).trans q5
  go_wp2_with fail
  have xs := ((x4.next tx0_6)).sl
  have bs0 : SlR f1 1 w6 w6.heap.size A0 L := ((hw0.below ta_6).mono (by omega))
  refine wp_region_grow [.val (.agg #[.slice B4 L.length d4]), .val (.agg #[.slice A0 L.length c0]), .pred (SmV L), .val (.bool true), .val (.bool false)] mixed (by kernel_rfl) ?_
  refine SeqG.valStep (fun wv hbv hpv => ?_) ?_
  · have e1 := ((bblk hbv (g := w4.heap.size) (by omega)).1 0).trans kk_bx0
    go_wp2_with fail
    exact post_val (Below.refl _ _)
  simp only [Act.put, List.setIfInBounds_toArray, List.set_cons_zero, List.set_cons_succ]
  refine SeqG.valStep (fun wv hbv hpv => ?_) ?_
  · have e1 := ((bblk hbv (g := w.heap.size) (by omega)).1 0).trans kk0_0
    go_wp2_with fail
    exact post_val (Below.refl _ _)
  simp only [Act.put, List.setIfInBounds_toArray, List.set_cons_zero, List.set_cons_succ]
  refine SeqG.predStep SmV.next (fun wv hbv hpv => ?_) (fun v0 => ?_)
  · go_wp2_with fail
    refine (toSample_any _ _ _ _ (bs0.next hbv) hm0).mono ?_; rintro e w1 ⟨B1, d1, rfl, q1, hb1⟩
    go_wp2_with fail
    exact post_pred _ hb1 ⟨_, _, rfl, q1.sl⟩
  simp only [Act.put, List.setIfInBounds_toArray, List.set_cons_zero, List.set_cons_succ]
  refine SeqG.valStep (fun wv hbv hpv => ?_) ?_
  · obtain ⟨B0, d0, rfl, s0⟩ := hpv _ (.head _) (by kernel_rfl)
    clear hpv
    go_wp2_with fail
    refine (eqSample_any _ _ _ _ _ _ _ (xs.next hbv) s0 hn0).mono ?_; rintro e w2 ⟨rfl, hb2⟩
    rw [E0.out]
    go_wp2_with fail
    exact post_val hb2
  simp only [Act.put, List.setIfInBounds_toArray, List.set_cons_zero, List.set_cons_succ]
  refine SeqG.valStep (fun wv hbv hpv => ?_) ?_
  · skip
    go_wp2_with fail
    exact post_val (Below.refl _ _)
  simp only [Act.put, List.setIfInBounds_toArray, List.set_cons_zero, List.set_cons_succ]
  refine SeqG.done fun w7 hb7 hpv => ?_
  clear hpv xs bs0
  have z7 := hb7.size
  have ta_7 := ta_6.trans (hb7.mono (by omega))
  have tx0_7 := tx0_6.trans (hb7.mono (by omega))
  have tbx0_7 := tbx0_6.trans (hb7.mono (by omega))
  go_wp2_with fail
  refine NoPan.normal ?_
  go_wp2
  go_ret
  exact ⟨rfl, hW.trans (ta_7.mono (by omega))⟩

set_option maxHeartbeats 8000000 in
theorem walk_MedianSize (A0 : Option Addr) (c0 : Nat) (L : List Int) (hn0 : (L.length : Int) ≤ 9223372036854775807) (_hI0 : ∀ x ∈ L, InI1 x) (w : World) (hr0 : SlR f1 1 w w.heap.size A0 L) :
    Calls Try.prog 5 #[.agg #[.slice A0 L.length c0]] w fun e w' => e = .returned (.bool true) ∧ Below w.heap.size w w' := by
  by_cases hs0 : (1048576 : Int) - L.length < 0
  · have Hv0 := Lib.hid (show szV (1048576) L.length = -1 from if_pos hs0)
    clear _hI0
    go_enter Try.func5, Try.ntmps5
    go_wp2_with fail
    refine (szSample_any _ _ _ _ _ hn0 (by omega) (by omega)).mono ?_; rintro e ws0 ⟨rfl, hbs0⟩
    have zs0 := hbs0.size
    try simp at zs0
    rw [Hv0.out]
    go_wp2
    go_ret
    exact ⟨rfl, by (repeat (first | exact Below.refl _ _ | refine Below.drew ?_ | refine below_drewN ?_ _ | (refine Below.alloc ?_ (by (try simp) <;> omega) _) | (refine Below.setCell ?_ (by (try simp) <;> omega) _) | (refine Below.trans ?_ (Below.mono (by assumption) (by (try simp) <;> omega)))))⟩
  have Hv0 := Lib.hid (show szV (1048576) L.length = 1048576 - L.length from if_neg hs0)
  have hm0 : (L.length : Int) ≤ 1048576 := by omega
  have C1 := Lib.hid (fun A0 c0 w h0 => SMedianSize_any A0 c0 L w h0 hm0)
  have C2 := Lib.hid (fun A0 c0 w h0 => MedianSize_any A0 c0 L w h0 hm0)
  clear _hI0
  obtain ⟨r0, hj⟩ : ∃ r, medI L = r := ⟨_, rfl⟩
  rw [hj] at C1 C2
  clear hj
  obtain ⟨r1, hj⟩ : ∃ r, smpB L = r := ⟨_, rfl⟩
  rw [hj] at C1 C2
  clear hj
  have nb0 := neI r0
  have nb1 := neB r1
  have hl0 : (0 : Int) ≤ (L.length : Int) := by omega
  have E0 := Lib.hid (eqL_refl L)
  go_enter Try.func5, Try.ntmps5
  go_wp2_with fail
  have hW : Below w.heap.size w (w.alloc (.cells #[.slice A0 L.length c0] 27 (0, 0))) := by (repeat (first | exact Below.refl _ _ | refine Below.drew ?_ | refine below_drewN ?_ _ | (refine Below.alloc ?_ (by (try simp) <;> omega) _) | (refine Below.setCell ?_ (by (try simp) <;> omega) _) | (refine Below.trans ?_ (Below.mono (by assumption) (by (try simp) <;> omega)))))
  have zW : w.heap.size + 1 ≤ (w.alloc (.cells #[.slice A0 L.length c0] 27 (0, 0))).heap.size := by simp
  have hw0 := (hr0.below hW).mono (show w.heap.size ≤ (w.alloc (.cells #[.slice A0 L.length c0] 27 (0, 0))).heap.size by omega)
  have k0_0 : (w.alloc (.cells #[.slice A0 L.length c0] 27 (0, 0))).cell? ⟨w.heap.size, 0, none⟩ = some (.slice A0 L.length c0) := by simp
  generalize (w.alloc (.cells #[.slice A0 L.length c0] 27 (0, 0))) = W0 at *
  refine (szSample_any _ _ _ _ _ hn0 (by omega) (by omega)).mono ?_; rintro e w1 ⟨rfl, hb1⟩
  have z1 := hb1.size
  have ta_1 := hb1
  have kk0_0 := ((bblk ta_1 (g := w.heap.size) (by omega)).1 0).trans k0_0
  rw [Hv0.out]
  have kk0_0 := ((bblk ta_1 (g := w.heap.size) (by omega)).1 0).trans k0_0
  go_wp2_with fail
  refine (toSample_any _ _ _ _ ((hw0.below ta_1).mono (by omega)) hm0).mono ?_; rintro e w2 ⟨B2, d2, rfl, x2, hb2⟩
  have z2 := hb2.size
  have ta_2 := ta_1.trans (hb2.mono (by omega))
  go_wp2_with fail
  refine (C1.out _ _ _ (x2).sl).mono ?_; rintro e w3 ⟨rfl, hb3⟩
  have z3 := hb3.size
  have ta_3 := ta_2.trans (hb3.mono (by omega))
  have kk0_0 := ((bblk ta_3 (g := w.heap.size) (by omega)).1 0).trans k0_0
  go_wp2_with fail
  refine (toSample_any _ _ _ _ ((hw0.below ta_3).mono (by omega)) hm0).mono ?_; rintro e w4 ⟨B4, d4, rfl, x4, hb4⟩
  have z4 := hb4.size
  have ta_4 := ta_3.trans (hb4.mono (by omega))
  have y4 := x4.sl
  go_wp2_with fail
  have hb5 : Below w4.heap.size w4 (w4.alloc (.cells #[.slice B4 L.length d4] 30 (0, 0))) := by (repeat (first | exact Below.refl _ _ | refine Below.drew ?_ | refine below_drewN ?_ _ | (refine Below.alloc ?_ (by (try simp) <;> omega) _) | (refine Below.setCell ?_ (by (try simp) <;> omega) _) | (refine Below.trans ?_ (Below.mono (by assumption) (by (try simp) <;> omega)))))
  have z5 := hb5.size
  have zz5 : w4.heap.size < (w4.alloc (.cells #[.slice B4 L.length d4] 30 (0, 0))).heap.size := by simp
  have q5 : (w4.alloc (.cells #[.slice B4 L.length d4] 30 (0, 0))).cell? ⟨w4.heap.size, 0, none⟩ = some (.slice B4 L.length d4) := by simp
  generalize (w4.alloc (.cells #[.slice B4 L.length d4] 30 (0, 0))) = w5 at *
  have ta_5 := ta_4.trans (hb5.mono (by omega))
  have tx0_5 := hb5
  have kk0_0 := ((bblk ta_5 (g := w.heap.size) (by omega)).1 0).trans k0_0
  have kk_bx0 := q5
  refine (C2.out _ _ _ ((x4.next tx0_5)).sl).mono ?_; rintro e w6 ⟨rfl, hb6⟩
  have z6 := hb6.size
  have ta_6 := ta_5.trans (hb6.mono (by omega))
  have tx0_6 := tx0_5.trans (hb6.mono (by omega))
  have tbx0_6 := hb6
  have kk0_0 := ((bblk ta_6 (g := w.heap.size) (by omega)).1 0).trans k0_0
  have kk_bx0 := ((bblk tbx0_6 (g := w4.heap.size) (by omega)).1 0).trans q5
  go_wp2_with fail
  have xs := ((x4.next tx0_6)).sl
  have bs0 : SlR f1 1 w6 w6.heap.size A0 L := ((hw0.below ta_6).mono (by omega))
  refine wp_region_grow [.val (.agg #[.slice B4 L.length d4]), .val (.agg #[.slice A0 L.length c0]), .pred (SmV L), .val (.bool true), .val (.bool false)] mixed (by kernel_rfl) ?_
  refine SeqG.valStep (fun wv hbv hpv => ?_) ?_
  · have e1 := ((bblk hbv (g := w4.heap.size) (by omega)).1 0).trans kk_bx0
    go_wp2_with fail
    exact post_val (Below.refl _ _)
  simp only [Act.put, List.setIfInBounds_toArray, List.set_cons_zero, List.set_cons_succ]
  refine SeqG.valStep (fun wv hbv hpv => ?_) ?_
  · have e1 := ((bblk hbv (g := w.heap.size) (by omega)).1 0).trans kk0_0
    go_wp2_with fail
    exact post_val (Below.refl _ _)
  simp only [Act.put, List.setIfInBounds_toArray, List.set_cons_zero, List.set_cons_succ]
  refine SeqG.predStep SmV.next (fun wv hbv hpv => ?_) (fun v0 => ?_)
  · go_wp2_with fail
    refine (toSample_any _ _ _ _ (bs0.next hbv) hm0).mono ?_; rintro e w1 ⟨B1, d1, rfl, q1, hb1⟩
    go_wp2_with fail
    exact post_pred _ hb1 ⟨_, _, rfl, q1.sl⟩
  simp only [Act.put, List.setIfInBounds_toArray, List.set_cons_zero, List.set_cons_succ]
  refine SeqG.valStep (fun wv hbv hpv => ?_) ?_
  · obtain ⟨B0, d0, rfl, s0⟩ := hpv _ (.head _) (by kernel_rfl)
    clear hpv
    go_wp2_with fail
    refine (eqSample_any _ _ _ _ _ _ _ (xs.next hbv) s0 hn0).mono ?_; rintro e w2 ⟨rfl, hb2⟩
    rw [E0.out]
    go_wp2_with fail
    exact post_val hb2
  simp only [Act.put, List.setIfInBounds_toArray, List.set_cons_zero, List.set_cons_succ]
  refine SeqG.valStep (fun wv hbv hpv => ?_) ?_
  · skip
    go_wp2_with fail
    exact post_val (Below.refl _ _)
  simp only [Act.put, List.setIfInBounds_toArray, List.set_cons_zero, List.set_cons_succ]
  refine SeqG.done fun w7 hb7 hpv => ?_
  clear hpv xs bs0
  have z7 := hb7.size
  have ta_7 := ta_6.trans (hb7.mono (by omega))
  have tx0_7 := tx0_6.trans (hb7.mono (by omega))
  have tbx0_7 := tbx0_6.trans (hb7.mono (by omega))
  go_wp2_with fail
  refine NoPan.normal ?_
  go_wp2
  go_ret
  exact ⟨rfl, hW.trans (ta_7.mono (by omega))⟩
end Go.Proofs.Ytapfnelghmnajaa
