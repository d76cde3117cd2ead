/-
  The law on JoinSamples, walked.
-/
import Derived.Test.YtapfnelghmnajaaJs2
import Derived.WalkKit
import Derived.WalkSpells
import Derived.WalkLawsBesides
import Derived.Lib.Hide
import Derived.Deep.QuietTactic
import Derived.BigQuiet
import Derived.StillTailTactics
namespace Go.Proofs.Ytapfnelghmnajaa
open Go.RowKit

theorem SlR.store {w : World} {p : Nat} {A : Option Addr} {L : List Int} (h : SlR f1 1 w w.heap.size A L) (kp : Blk w p 30 #[.slice none 0 0]) (u : Value) :
    SlR f1 1 (w.setCell ⟨p, 0, none⟩ u) (w.setCell ⟨p, 0, none⟩ u).heap.size A L := fun hn => by
  obtain ⟨b, off, hA, hB, hC⟩ := h hn
  have hx : ∃ x, L[0]? = some x := by
    cases L with
    | nil => exact absurd rfl hn
    | cons x L => exact ⟨x, rfl⟩
  obtain ⟨x, hx⟩ := hx
  have hne : b ≠ p := fun e => by
    subst e
    have h1 := (kp.cell (off + 0)).symm.trans (cells1 hC hx)
    cases off with
    | zero => simp at h1
    | succ n => simp at h1
  exact ⟨b, off, hA, by simpa using hB, hC.far hne⟩
theorem Blk.stored {w : World} {p : Nat} (kp : Blk w p 30 #[.slice none 0 0]) (u : Value) : (w.setCell ⟨p, 0, none⟩ u).cell? ⟨p, 0, none⟩ = some u := by
  rw [(kp.set_ 0 u).cell 0]; simp

set_option maxHeartbeats 8000000 in
theorem walk_JoinSamples (A0 : Option Addr) (c0 : Nat) (L : List Int) (hn0 : (L.length : Int) ≤ 9223372036854775807) (_hI0 : ∀ x ∈ L, InI1 x) (A1 : Option Addr) (c1 : Nat) (L' : List Int) (hn1 : (L'.length : Int) ≤ 9223372036854775807) (_hI1 : ∀ x ∈ L', InI1 x) (w : World) (hr0 : SlR f1 1 w w.heap.size A0 L) (hr1 : SlR f1 1 w w.heap.size A1 L') :
    Calls Try.prog 12 #[.agg #[.slice A0 L.length c0], .agg #[.slice A1 L'.length c1]] w fun e w' => e = .returned (.bool true) ∧ Below w.heap.size w w' := by
  by_cases hs0 : (1048576 : Int) - L.length < 0
  · have Hv0 := Lib.hid (show szV (1048576) L.length = -1 from if_pos hs0)
    clear _hI0 _hI1
    go_enter Try.func12, Try.ntmps12
    go_wp2_with fail
    refine (szSample_any _ _ _ _ _ hn0 (by omega) (by omega)).mono ?_; rintro e ws0 ⟨rfl, hbs0⟩
    have zs0 := hbs0.size
    try simp at zs0
    rw [Hv0.out]
    go_wp2
    go_ret
    exact ⟨rfl, by (repeat (first | exact Below.refl _ _ | refine Below.drew ?_ | refine below_drewN ?_ _ | (refine Below.alloc ?_ (by (try simp) <;> omega) _) | (refine Below.setCell ?_ (by (try simp) <;> omega) _) | (refine Below.trans ?_ (Below.mono (by assumption) (by (try simp) <;> omega)))))⟩
  have Hv0 := Lib.hid (show szV (1048576) L.length = 1048576 - L.length from if_neg hs0)
  have hm0 : (L.length : Int) ≤ 1048576 := by omega
  by_cases hs1 : (1048576 - L.length : Int) - L'.length < 0
  · have Hv1 := Lib.hid (show szV (1048576 - L.length) L'.length = -1 from if_pos hs1)
    clear _hI0 _hI1
    go_enter Try.func12, Try.ntmps12
    go_wp2_with fail
    refine (szSample_any _ _ _ _ _ hn0 (by omega) (by omega)).mono ?_; rintro e ws0 ⟨rfl, hbs0⟩
    have zs0 := hbs0.size
    try simp at zs0
    have ks0_0_0 : ws0.cell? ⟨w.heap.size, 0, none⟩ = some (.slice A0 L.length c0) := by rw [hbs0.cell (by simp <;> omega)]; simp
    have ks0_1_0 : ws0.cell? ⟨w.heap.size + 1, 0, none⟩ = some (.slice A1 L'.length c1) := by rw [hbs0.cell (by simp <;> omega)]; simp
    rw [Hv0.out]
    go_wp2_with fail
    refine (szSample_any _ _ _ _ _ hn1 (by omega) (by omega)).mono ?_; rintro e ws1 ⟨rfl, hbs1⟩
    have zs1 := hbs1.size
    try simp at zs1
    rw [Hv1.out]
    go_wp2
    go_ret
    exact ⟨rfl, by (repeat (first | exact Below.refl _ _ | refine Below.drew ?_ | refine below_drewN ?_ _ | (refine Below.alloc ?_ (by (try simp) <;> omega) _) | (refine Below.setCell ?_ (by (try simp) <;> omega) _) | (refine Below.trans ?_ (Below.mono (by assumption) (by (try simp) <;> omega)))))⟩
  have Hv1 := Lib.hid (show szV (1048576 - L.length) L'.length = 1048576 - L.length - L'.length from if_neg hs1)
  have hm1 : (L'.length : Int) ≤ 1048576 := by omega
  have C1 := Lib.hid (fun A0 c0 A1 c1 w h0 h1 => SJoinSamples_any A0 c0 L A1 c1 L' w h0 hm0 h1 hm1)
  have C2 := Lib.hid (fun A0 c0 A1 c1 w h0 h1 => JoinSamples_any A0 c0 L A1 c1 L' w h0 hm0 h1 hm1)
  have hl := jsR_len L L'
  clear _hI0 _hI1
  generalize jsR L L' = R at *
  generalize jsU L L' = r1 at *
  have nb1 := neB r1
  have hR1 : (R.length : Int) ≤ 1048576 := by omega
  have hR2 : (R.length : Int) ≤ 9223372036854775807 := by omega
  have hR3 : (0 : Int) ≤ (R.length : Int) := by omega
  have ER := Lib.hid (eqL_refl R)
  have nm := neI (1 + 1 * (R.length : Int))
  have nm' := neI (1 + (R.length : Int))
  have hl0 : (0 : Int) ≤ (L.length : Int) := by omega
  have E0 := Lib.hid (eqL_refl L)
  have hl1 : (0 : Int) ≤ (L'.length : Int) := by omega
  have E1 := Lib.hid (eqL_refl L')
  go_enter Try.func12, Try.ntmps12
  go_wp2_with fail
  have hW : Below w.heap.size w ((w.alloc (.cells #[.slice A0 L.length c0] 27 (0, 0))).alloc (.cells #[.slice A1 L'.length c1] 27 (0, 0))) := by (repeat (first | exact Below.refl _ _ | refine Below.drew ?_ | refine below_drewN ?_ _ | (refine Below.alloc ?_ (by (try simp) <;> omega) _) | (refine Below.setCell ?_ (by (try simp) <;> omega) _) | (refine Below.trans ?_ (Below.mono (by assumption) (by (try simp) <;> omega)))))
  have zW : w.heap.size + 2 ≤ ((w.alloc (.cells #[.slice A0 L.length c0] 27 (0, 0))).alloc (.cells #[.slice A1 L'.length c1] 27 (0, 0))).heap.size := by simp
  have hw0 := (hr0.below hW).mono (show w.heap.size ≤ ((w.alloc (.cells #[.slice A0 L.length c0] 27 (0, 0))).alloc (.cells #[.slice A1 L'.length c1] 27 (0, 0))).heap.size by omega)
  have hw1 := (hr1.below hW).mono (show w.heap.size ≤ ((w.alloc (.cells #[.slice A0 L.length c0] 27 (0, 0))).alloc (.cells #[.slice A1 L'.length c1] 27 (0, 0))).heap.size by omega)
  have k0_0 : ((w.alloc (.cells #[.slice A0 L.length c0] 27 (0, 0))).alloc (.cells #[.slice A1 L'.length c1] 27 (0, 0))).cell? ⟨w.heap.size, 0, none⟩ = some (.slice A0 L.length c0) := by simp
  have k1_0 : ((w.alloc (.cells #[.slice A0 L.length c0] 27 (0, 0))).alloc (.cells #[.slice A1 L'.length c1] 27 (0, 0))).cell? ⟨w.heap.size + 1, 0, none⟩ = some (.slice A1 L'.length c1) := by simp
  generalize ((w.alloc (.cells #[.slice A0 L.length c0] 27 (0, 0))).alloc (.cells #[.slice A1 L'.length c1] 27 (0, 0))) = W0 at *
  refine (szSample_any _ _ _ _ _ hn0 (by omega) (by omega)).mono ?_; rintro e w1 ⟨rfl, hb1⟩
  have z1 := hb1.size
  have ta_1 := hb1
  have kk0_0 := ((bblk ta_1 (g := w.heap.size) (by omega)).1 0).trans k0_0
  have kk1_0 := ((bblk ta_1 (g := w.heap.size + 1) (by omega)).1 0).trans k1_0
  rw [Hv0.out]
  go_wp2_with fail
  have kk0_0 := ((bblk ta_1 (g := w.heap.size) (by omega)).1 0).trans k0_0
  have kk1_0 := ((bblk ta_1 (g := w.heap.size + 1) (by omega)).1 0).trans k1_0
  refine (szSample_any _ _ _ _ _ hn1 (by omega) (by omega)).mono ?_; rintro e w2 ⟨rfl, hb2⟩
  have z2 := hb2.size
  have ta_2 := ta_1.trans (hb2.mono (by omega))
  have kk0_0 := ((bblk ta_2 (g := w.heap.size) (by omega)).1 0).trans k0_0
  have kk1_0 := ((bblk ta_2 (g := w.heap.size + 1) (by omega)).1 0).trans k1_0
  rw [Hv1.out]
  have kk0_0 := ((bblk ta_2 (g := w.heap.size) (by omega)).1 0).trans k0_0
  have kk1_0 := ((bblk ta_2 (g := w.heap.size + 1) (by omega)).1 0).trans k1_0
  go_wp2_with fail
  refine Chh.wp_region_chain [.val (.agg #[.slice A0 L.length c0]), .pred (SmV L), .val (.agg #[.slice A1 L'.length c1]), .pred (SmV L'), .shap (.tuple #[.agg #[.slice none R.length 0], .bool r1]) (TuG R r1) (TuM R r1), .shap (.tuple #[.agg #[.slice none R.length 0], .bool r1]) (TuG R r1) (TuM R r1), .pred (SmV R), .fix (.bool r1), .pred (NilBox w2.heap.size)] mixed (by kernel_rfl) ⟨trivial, trivial, trivial, trivial, ⟨_, _, rfl⟩, ⟨_, _, rfl⟩, trivial, trivial, trivial, trivial⟩ ?_
  refine Chh.SeqG.valStep (fun wv hbv hpv => ?_) ?_
  · have e0_0 := ((bblk hbv (g := w.heap.size) (by omega)).1 0).trans kk0_0; have e1_0 := ((bblk hbv (g := w.heap.size + 1) (by omega)).1 0).trans kk1_0
    go_wp2_with fail
    exact Chh.post_val (Below.refl _ _)
  simp only [Act.put, List.setIfInBounds_toArray, List.set_cons_zero, List.set_cons_succ]
  refine Chh.SeqG.predStep SmV.next (fun wv hbv hpv => ?_) (fun v0 => ?_)
  · go_wp2_with fail
    refine (toSample_any _ _ _ _ (SlR.next ((hw0.below ta_2).mono (by omega)) hbv) hm0).mono ?_; rintro e w1 ⟨B1, d1, rfl, q1, hb1⟩
    go_wp2_with fail
    exact Chh.post_pred _ hb1 ⟨_, _, rfl, q1.sl⟩
  simp only [Act.put, List.setIfInBounds_toArray, List.set_cons_zero, List.set_cons_succ]
  refine Chh.SeqG.valStep (fun wv hbv hpv => ?_) ?_
  · have e0_0 := ((bblk hbv (g := w.heap.size) (by omega)).1 0).trans kk0_0; have e1_0 := ((bblk hbv (g := w.heap.size + 1) (by omega)).1 0).trans kk1_0
    go_wp2_with fail
    exact Chh.post_val (Below.refl _ _)
  simp only [Act.put, List.setIfInBounds_toArray, List.set_cons_zero, List.set_cons_succ]
  refine Chh.SeqG.predStep SmV.next (fun wv hbv hpv => ?_) (fun v1 => ?_)
  · go_wp2_with fail
    refine (toSample_any _ _ _ _ (SlR.next ((hw1.below ta_2).mono (by omega)) hbv) hm1).mono ?_; rintro e w1 ⟨B1, d1, rfl, q1, hb1⟩
    go_wp2_with fail
    exact Chh.post_pred _ hb1 ⟨_, _, rfl, q1.sl⟩
  simp only [Act.put, List.setIfInBounds_toArray, List.set_cons_zero, List.set_cons_succ]
  refine Chh.SeqG.shapStep TuM.next (fun wv hbv hpv => ?_) (fun v2 hg2 => ?_)
  · obtain ⟨B0, d0, rfl, s0⟩ := hpv _ (.tail _ (.head _)) (by kernel_rfl)
    obtain ⟨B1, d1, rfl, s1⟩ := hpv _ (.head _) (by kernel_rfl)
    clear hpv
    go_wp2_with fail
    refine (C1.out _ _ _ _ _ s0 s1).mono ?_; rintro e w2 ⟨B9, d9, rfl, o2, hb2⟩
    go_wp2_with fail
    exact Chh.post_shap _ hb2 ⟨_, _, rfl, o2.sl⟩ ⟨_, _, rfl⟩
  simp only [Act.put, List.setIfInBounds_toArray, List.set_cons_zero, List.set_cons_succ]
  refine Chh.SeqG.shapStep TuM.next (fun wv hbv hpv => ?_) (fun v3 hg3 => ?_)
  · have h1 := hpv _ (.head _) (by kernel_rfl)
    clear hpv
    go_wp2_with fail
    exact Chh.post_shap _ (Below.refl _ _) h1 hg2
  simp only [Act.put, List.setIfInBounds_toArray, List.set_cons_zero, List.set_cons_succ]
  refine Chh.SeqG.predStep SmV.next (fun wv hbv hpv => ?_) (fun v4 => ?_)
  · obtain ⟨B1, d1, rfl, s1⟩ := hpv _ (.head _) (by kernel_rfl)
    clear hpv
    go_wp2_with fail
    exact Chh.post_pred _ (Below.refl _ _) ⟨_, _, rfl, s1⟩
  simp only [Act.put, List.setIfInBounds_toArray, List.set_cons_zero, List.set_cons_succ]
  obtain ⟨Ag, cg, rfl⟩ := hg3
  refine Chh.SeqG.fixStep (.inl ⟨rfl, fun _ => rfl⟩) ?_
  simp only [Act.put, List.setIfInBounds_toArray, List.set_cons_zero, List.set_cons_succ]
  refine Chh.SeqG.predStep NilBox.next (fun wv hbv hpv => ?_) (fun v5 => ?_)
  · clear hpv
    have kN := Lib.hid (Blk.new wv 30 #[.slice none 0 0])
    have hbN : Below wv.heap.size wv (wv.alloc (.cells #[.slice none 0 0] 30 (0, 0))) := by (repeat (first | exact Below.refl _ _ | refine Below.drew ?_ | refine below_drewN ?_ _ | (refine Below.alloc ?_ (by (try simp) <;> omega) _) | (refine Below.setCell ?_ (by (try simp) <;> omega) _) | (refine Below.trans ?_ (Below.mono (by assumption) (by (try simp) <;> omega)))))
    go_wp2_with fail
    exact Chh.post_pred (F := NilBox w2.heap.size) _ hbN ⟨_, rfl, hbv.size, kN.out⟩
  simp only [Act.put, List.setIfInBounds_toArray, List.set_cons_zero, List.set_cons_succ]
  refine Chh.SeqG.done fun wd hbd hpv => ?_
  obtain ⟨pb3, rfl, hpB3, kp⟩ := hpv _ (.head _)
  obtain ⟨P3, p3, rfl, od⟩ := hpv _ (.tail _ (.head _))
  clear hpv
  have zd := hbd.size
  have c0 := kp.cell 0
  simp at c0
  have fp := kp.frozen
  have lp := kp.lt
  have hb3 : Below w2.heap.size w2 (wd.setCell ⟨pb3, 0, none⟩ (.slice P3 R.length p3)) := hbd.setCell (p := ⟨pb3, 0, none⟩) hpB3 _
  have o3 : SlR f1 1 (wd.setCell ⟨pb3, 0, none⟩ (.slice P3 R.length p3)) (wd.setCell ⟨pb3, 0, none⟩ (.slice P3 R.length p3)).heap.size P3 R := SlR.store od kp _
  have q3 : (wd.setCell ⟨pb3, 0, none⟩ (.slice P3 R.length p3)).cell? ⟨pb3, 0, none⟩ = some (.slice P3 R.length p3) := Blk.stored kp _
  have lq3 : pb3 < (wd.setCell ⟨pb3, 0, none⟩ (.slice P3 R.length p3)).heap.size := by simpa using lp
  have HO := Lib.hid o3
  have HB := Lib.hid hb3
  have HQ := Lib.hid q3
  clear o3 hb3 q3 od hbd kp
  go_wp2_with fail
  refine Chh.NoPan.normal ?_
  clear c0 fp lp
  generalize (wd.setCell ⟨pb3, 0, none⟩ (.slice P3 R.length p3)) = w3 at *
  have o3 := HO.out
  have hb3 := HB.out
  have q3 := HQ.out
  clear HO HB HQ zd
  have z3 := hb3.size
  have ta_3 := ta_2.trans (hb3.mono (by omega))
  have kk0_0 := ((bblk ta_3 (g := w.heap.size) (by omega)).1 0).trans k0_0
  have kk1_0 := ((bblk ta_3 (g := w.heap.size + 1) (by omega)).1 0).trans k1_0
  have kk_br := q3
  go_wp2_with fail
  refine (toSample_any _ _ _ _ ((hw0.below ta_3).mono (by omega)) hm0).mono ?_; rintro e w4 ⟨B4, d4, rfl, x4, hb4⟩
  have z4 := hb4.size
  have ta_4 := ta_3.trans (hb4.mono (by omega))
  have tr_4 := hb4
  have tbr_4 := hb4
  have y4 := x4.sl
  have kk0_0 := ((bblk ta_4 (g := w.heap.size) (by omega)).1 0).trans k0_0
  have kk1_0 := ((bblk ta_4 (g := w.heap.size + 1) (by omega)).1 0).trans k1_0
  have kk_br := ((bblk tbr_4 (g := pb3) (by omega)).1 0).trans q3
  have hnb4_0 := (show w.heap.size < w4.heap.size by omega)
  have hnb4_1 := (show w.heap.size + 1 < w4.heap.size by omega)
  have hnx4_br := (show pb3 < w4.heap.size by omega)
  go_wp2_with fail
  have hb5 : Below w4.heap.size w4 (w4.alloc (.cells #[.slice B4 L.length d4] 30 (0, 0))) := by (repeat (first | exact Below.refl _ _ | refine Below.drew ?_ | refine below_drewN ?_ _ | (refine Below.alloc ?_ (by (try simp) <;> omega) _) | (refine Below.setCell ?_ (by (try simp) <;> omega) _) | (refine Below.trans ?_ (Below.mono (by assumption) (by (try simp) <;> omega)))))
  have z5 := hb5.size
  have zz5 : w4.heap.size < (w4.alloc (.cells #[.slice B4 L.length d4] 30 (0, 0))).heap.size := by simp
  have q5 : (w4.alloc (.cells #[.slice B4 L.length d4] 30 (0, 0))).cell? ⟨w4.heap.size, 0, none⟩ = some (.slice B4 L.length d4) := by simp
  generalize (w4.alloc (.cells #[.slice B4 L.length d4] 30 (0, 0))) = w5 at *
  have ta_5 := ta_4.trans (hb5.mono (by omega))
  have tr_5 := tr_4.trans (hb5.mono (by omega))
  have tbr_5 := tbr_4.trans (hb5.mono (by omega))
  have tx0_5 := hb5
  have kk0_0 := ((bblk ta_5 (g := w.heap.size) (by omega)).1 0).trans k0_0
  have kk1_0 := ((bblk ta_5 (g := w.heap.size + 1) (by omega)).1 0).trans k1_0
  have kk_br := ((bblk tbr_5 (g := pb3) (by omega)).1 0).trans q3
  have kk_bx0 := q5
  refine (toSample_any _ _ _ _ ((hw1.below ta_5).mono (by omega)) hm1).mono ?_; rintro e w6 ⟨B6, d6, rfl, x6, hb6⟩
  have z6 := hb6.size
  have ta_6 := ta_5.trans (hb6.mono (by omega))
  have tr_6 := tr_5.trans (hb6.mono (by omega))
  have tbr_6 := tbr_5.trans (hb6.mono (by omega))
  have tx0_6 := tx0_5.trans (hb6.mono (by omega))
  have tbx0_6 := hb6
  have y6 := x6.sl
  have kk0_0 := ((bblk ta_6 (g := w.heap.size) (by omega)).1 0).trans k0_0
  have kk1_0 := ((bblk ta_6 (g := w.heap.size + 1) (by omega)).1 0).trans k1_0
  have kk_br := ((bblk tbr_6 (g := pb3) (by omega)).1 0).trans q3
  have kk_bx0 := ((bblk tbx0_6 (g := w4.heap.size) (by omega)).1 0).trans q5
  have hnb6_0 := (show w.heap.size < w6.heap.size by omega)
  have hnb6_1 := (show w.heap.size + 1 < w6.heap.size by omega)
  have hnx6_br := (show pb3 < w6.heap.size by omega)
  have hnx6_bx0 := (show w4.heap.size < w6.heap.size by omega)
  go_wp2_with fail
  have hb7 : Below w6.heap.size w6 (w6.alloc (.cells #[.slice B6 L'.length d6] 30 (0, 0))) := by (repeat (first | exact Below.refl _ _ | refine Below.drew ?_ | refine below_drewN ?_ _ | (refine Below.alloc ?_ (by (try simp) <;> omega) _) | (refine Below.setCell ?_ (by (try simp) <;> omega) _) | (refine Below.trans ?_ (Below.mono (by assumption) (by (try simp) <;> omega)))))
  have z7 := hb7.size
  have zz7 : w6.heap.size < (w6.alloc (.cells #[.slice B6 L'.length d6] 30 (0, 0))).heap.size := by simp
  have q7 : (w6.alloc (.cells #[.slice B6 L'.length d6] 30 (0, 0))).cell? ⟨w6.heap.size, 0, none⟩ = some (.slice B6 L'.length d6) := by simp
  generalize (w6.alloc (.cells #[.slice B6 L'.length d6] 30 (0, 0))) = w7 at *
  have ta_7 := ta_6.trans (hb7.mono (by omega))
  have tr_7 := tr_6.trans (hb7.mono (by omega))
  have tbr_7 := tbr_6.trans (hb7.mono (by omega))
  have tx0_7 := tx0_6.trans (hb7.mono (by omega))
  have tbx0_7 := tbx0_6.trans (hb7.mono (by omega))
  have tx1_7 := hb7
  have kk0_0 := ((bblk ta_7 (g := w.heap.size) (by omega)).1 0).trans k0_0
  have kk1_0 := ((bblk ta_7 (g := w.heap.size + 1) (by omega)).1 0).trans k1_0
  have kk_br := ((bblk tbr_7 (g := pb3) (by omega)).1 0).trans q3
  have kk_bx0 := ((bblk tbx0_7 (g := w4.heap.size) (by omega)).1 0).trans q5
  have kk_bx1 := q7
  refine (C2.out _ _ _ _ _ ((x4.next tx0_7)).sl ((x6.next tx1_7)).sl).mono ?_; rintro e w8 ⟨P8, p8, rfl, o8, hb8⟩
  have z8 := hb8.size
  have ta_8 := ta_7.trans (hb8.mono (by omega))
  have tr_8 := tr_7.trans (hb8.mono (by omega))
  have tbr_8 := tbr_7.trans (hb8.mono (by omega))
  have tx0_8 := tx0_7.trans (hb8.mono (by omega))
  have tbx0_8 := tbx0_7.trans (hb8.mono (by omega))
  have tx1_8 := tx1_7.trans (hb8.mono (by omega))
  have tbx1_8 := hb8
  have y8 := o8.sl
  have kk0_0 := ((bblk ta_8 (g := w.heap.size) (by omega)).1 0).trans k0_0
  have kk1_0 := ((bblk ta_8 (g := w.heap.size + 1) (by omega)).1 0).trans k1_0
  have kk_br := ((bblk tbr_8 (g := pb3) (by omega)).1 0).trans q3
  have kk_bx0 := ((bblk tbx0_8 (g := w4.heap.size) (by omega)).1 0).trans q5
  have kk_bx1 := ((bblk tbx1_8 (g := w6.heap.size) (by omega)).1 0).trans q7
  have hnb8_0 := (show w.heap.size < w8.heap.size by omega)
  have hnb8_1 := (show w.heap.size + 1 < w8.heap.size by omega)
  have hnx8_br := (show pb3 < w8.heap.size by omega)
  have hnx8_bx0 := (show w4.heap.size < w8.heap.size by omega)
  have hnx8_bx1 := (show w6.heap.size < w8.heap.size by omega)
  go_wp2_with fail
  have hb9 : Below w8.heap.size w8 (w8.alloc (.cells #[.slice P8 R.length p8] 30 (0, 0))) := by (repeat (first | exact Below.refl _ _ | refine Below.drew ?_ | refine below_drewN ?_ _ | (refine Below.alloc ?_ (by (try simp) <;> omega) _) | (refine Below.setCell ?_ (by (try simp) <;> omega) _) | (refine Below.trans ?_ (Below.mono (by assumption) (by (try simp) <;> omega)))))
  have z9 := hb9.size
  have zz9 : w8.heap.size < (w8.alloc (.cells #[.slice P8 R.length p8] 30 (0, 0))).heap.size := by simp
  have q9 : (w8.alloc (.cells #[.slice P8 R.length p8] 30 (0, 0))).cell? ⟨w8.heap.size, 0, none⟩ = some (.slice P8 R.length p8) := by simp
  generalize (w8.alloc (.cells #[.slice P8 R.length p8] 30 (0, 0))) = w9 at *
  have ta_9 := ta_8.trans (hb9.mono (by omega))
  have tr_9 := tr_8.trans (hb9.mono (by omega))
  have tbr_9 := tbr_8.trans (hb9.mono (by omega))
  have tx0_9 := tx0_8.trans (hb9.mono (by omega))
  have tbx0_9 := tbx0_8.trans (hb9.mono (by omega))
  have tx1_9 := tx1_8.trans (hb9.mono (by omega))
  have tbx1_9 := tbx1_8.trans (hb9.mono (by omega))
  have tg_9 := hb9
  have kk0_0 := ((bblk ta_9 (g := w.heap.size) (by omega)).1 0).trans k0_0
  have kk1_0 := ((bblk ta_9 (g := w.heap.size + 1) (by omega)).1 0).trans k1_0
  have kk_br := ((bblk tbr_9 (g := pb3) (by omega)).1 0).trans q3
  have kk_bx0 := ((bblk tbx0_9 (g := w4.heap.size) (by omega)).1 0).trans q5
  have kk_bx1 := ((bblk tbx1_9 (g := w6.heap.size) (by omega)).1 0).trans q7
  have kk_bg := q9
  refine (eqSample_any _ _ _ _ _ _ _ ((o8.next tg_9)).sl ((o3.below tr_9).mono (by omega)) hR2).mono ?_; rintro e w10 ⟨rfl, hb10⟩
  rw [ER.out]
  have z10 := hb10.size
  have ta_10 := ta_9.trans (hb10.mono (by omega))
  have tr_10 := tr_9.trans (hb10.mono (by omega))
  have tbr_10 := tbr_9.trans (hb10.mono (by omega))
  have tx0_10 := tx0_9.trans (hb10.mono (by omega))
  have tbx0_10 := tbx0_9.trans (hb10.mono (by omega))
  have tx1_10 := tx1_9.trans (hb10.mono (by omega))
  have tbx1_10 := tbx1_9.trans (hb10.mono (by omega))
  have tg_10 := tg_9.trans (hb10.mono (by omega))
  have tbg_10 := hb10
  have kk0_0 := ((bblk ta_10 (g := w.heap.size) (by omega)).1 0).trans k0_0
  have kk1_0 := ((bblk ta_10 (g := w.heap.size + 1) (by omega)).1 0).trans k1_0
  have kk_br := ((bblk tbr_10 (g := pb3) (by omega)).1 0).trans q3
  have kk_bx0 := ((bblk tbx0_10 (g := w4.heap.size) (by omega)).1 0).trans q5
  have kk_bx1 := ((bblk tbx1_10 (g := w6.heap.size) (by omega)).1 0).trans q7
  have kk_bg := ((bblk tbg_10 (g := w8.heap.size) (by omega)).1 0).trans q9
  go_wp2_with fail
  have xs := ((x4.next tx0_10)).sl
  have bs0 : SlR f1 1 w10 w10.heap.size A0 L := ((hw0.below ta_10).mono (by omega))
  refine wp_region_grow [.val (.agg #[.slice B4 L.length d4]), .val (.agg #[.slice A0 L.length c0]), .pred (SmV L), .val (.bool true), .val (.bool false)] mixed (by kernel_rfl) ?_
  refine SeqG.valStep (fun wv hbv hpv => ?_) ?_
  · have e1 := ((bblk hbv (g := w4.heap.size) (by omega)).1 0).trans kk_bx0
    go_wp2_with fail
    exact post_val (Below.refl _ _)
  simp only [Act.put, List.setIfInBounds_toArray, List.set_cons_zero, List.set_cons_succ]
  refine SeqG.valStep (fun wv hbv hpv => ?_) ?_
  · have e1 := ((bblk hbv (g := w.heap.size) (by omega)).1 0).trans kk0_0
    go_wp2_with fail
    exact post_val (Below.refl _ _)
  simp only [Act.put, List.setIfInBounds_toArray, List.set_cons_zero, List.set_cons_succ]
  refine SeqG.predStep SmV.next (fun wv hbv hpv => ?_) (fun v0 => ?_)
  · go_wp2_with fail
    refine (toSample_any _ _ _ _ (bs0.next hbv) hm0).mono ?_; rintro e w1 ⟨B1, d1, rfl, q1, hb1⟩
    go_wp2_with fail
    exact post_pred _ hb1 ⟨_, _, rfl, q1.sl⟩
  simp only [Act.put, List.setIfInBounds_toArray, List.set_cons_zero, List.set_cons_succ]
  refine SeqG.valStep (fun wv hbv hpv => ?_) ?_
  · obtain ⟨B0, d0, rfl, s0⟩ := hpv _ (.head _) (by kernel_rfl)
    clear hpv
    go_wp2_with fail
    refine (eqSample_any _ _ _ _ _ _ _ (xs.next hbv) s0 hn0).mono ?_; rintro e w2 ⟨rfl, hb2⟩
    rw [E0.out]
    go_wp2_with fail
    exact post_val hb2
  simp only [Act.put, List.setIfInBounds_toArray, List.set_cons_zero, List.set_cons_succ]
  refine SeqG.valStep (fun wv hbv hpv => ?_) ?_
  · skip
    go_wp2_with fail
    exact post_val (Below.refl _ _)
  simp only [Act.put, List.setIfInBounds_toArray, List.set_cons_zero, List.set_cons_succ]
  refine SeqG.done fun w11 hb11 hpv => ?_
  clear hpv xs bs0
  have z11 := hb11.size
  have ta_11 := ta_10.trans (hb11.mono (by omega))
  have tr_11 := tr_10.trans (hb11.mono (by omega))
  have tbr_11 := tbr_10.trans (hb11.mono (by omega))
  have tx0_11 := tx0_10.trans (hb11.mono (by omega))
  have tbx0_11 := tbx0_10.trans (hb11.mono (by omega))
  have tx1_11 := tx1_10.trans (hb11.mono (by omega))
  have tbx1_11 := tbx1_10.trans (hb11.mono (by omega))
  have tg_11 := tg_10.trans (hb11.mono (by omega))
  have tbg_11 := tbg_10.trans (hb11.mono (by omega))
  go_wp2_with fail
  refine NoPan.normal ?_
  have kk0_0 := ((bblk ta_11 (g := w.heap.size) (by omega)).1 0).trans k0_0
  have kk1_0 := ((bblk ta_11 (g := w.heap.size + 1) (by omega)).1 0).trans k1_0
  have kk_br := ((bblk tbr_11 (g := pb3) (by omega)).1 0).trans q3
  have kk_bx0 := ((bblk tbx0_11 (g := w4.heap.size) (by omega)).1 0).trans q5
  have kk_bx1 := ((bblk tbx1_11 (g := w6.heap.size) (by omega)).1 0).trans q7
  have kk_bg := ((bblk tbg_11 (g := w8.heap.size) (by omega)).1 0).trans q9
  go_wp2_with fail
  have xs := ((x6.next tx1_11)).sl
  have bs0 : SlR f1 1 w11 w11.heap.size A1 L' := ((hw1.below ta_11).mono (by omega))
  refine wp_region_grow [.val (.agg #[.slice B6 L'.length d6]), .val (.agg #[.slice A1 L'.length c1]), .pred (SmV L'), .val (.bool true), .val (.bool false)] mixed (by kernel_rfl) ?_
  refine SeqG.valStep (fun wv hbv hpv => ?_) ?_
  · have e1 := ((bblk hbv (g := w6.heap.size) (by omega)).1 0).trans kk_bx1
    go_wp2_with fail
    exact post_val (Below.refl _ _)
  simp only [Act.put, List.setIfInBounds_toArray, List.set_cons_zero, List.set_cons_succ]
  refine SeqG.valStep (fun wv hbv hpv => ?_) ?_
  · have e1 := ((bblk hbv (g := w.heap.size + 1) (by omega)).1 0).trans kk1_0
    go_wp2_with fail
    exact post_val (Below.refl _ _)
  simp only [Act.put, List.setIfInBounds_toArray, List.set_cons_zero, List.set_cons_succ]
  refine SeqG.predStep SmV.next (fun wv hbv hpv => ?_) (fun v0 => ?_)
  · go_wp2_with fail
    refine (toSample_any _ _ _ _ (bs0.next hbv) hm1).mono ?_; rintro e w1 ⟨B1, d1, rfl, q1, hb1⟩
    go_wp2_with fail
    exact post_pred _ hb1 ⟨_, _, rfl, q1.sl⟩
  simp only [Act.put, List.setIfInBounds_toArray, List.set_cons_zero, List.set_cons_succ]
  refine SeqG.valStep (fun wv hbv hpv => ?_) ?_
  · obtain ⟨B0, d0, rfl, s0⟩ := hpv _ (.head _) (by kernel_rfl)
    clear hpv
    go_wp2_with fail
    refine (eqSample_any _ _ _ _ _ _ _ (xs.next hbv) s0 hn1).mono ?_; rintro e w2 ⟨rfl, hb2⟩
    rw [E1.out]
    go_wp2_with fail
    exact post_val hb2
  simp only [Act.put, List.setIfInBounds_toArray, List.set_cons_zero, List.set_cons_succ]
  refine SeqG.valStep (fun wv hbv hpv => ?_) ?_
  · skip
    go_wp2_with fail
    exact post_val (Below.refl _ _)
  simp only [Act.put, List.setIfInBounds_toArray, List.set_cons_zero, List.set_cons_succ]
  refine SeqG.done fun w12 hb12 hpv => ?_
  clear hpv xs bs0
  have z12 := hb12.size
  have ta_12 := ta_11.trans (hb12.mono (by omega))
  have tr_12 := tr_11.trans (hb12.mono (by omega))
  have tbr_12 := tbr_11.trans (hb12.mono (by omega))
  have tx0_12 := tx0_11.trans (hb12.mono (by omega))
  have tbx0_12 := tbx0_11.trans (hb12.mono (by omega))
  have tx1_12 := tx1_11.trans (hb12.mono (by omega))
  have tbx1_12 := tbx1_11.trans (hb12.mono (by omega))
  have tg_12 := tg_11.trans (hb12.mono (by omega))
  have tbg_12 := tbg_11.trans (hb12.mono (by omega))
  go_wp2_with fail
  refine NoPan.normal ?_
  have mm13 := (x4.next tx0_12)
  have kk0_0 := ((bblk ta_12 (g := w.heap.size) (by omega)).1 0).trans k0_0
  have kk1_0 := ((bblk ta_12 (g := w.heap.size + 1) (by omega)).1 0).trans k1_0
  have kk_br := ((bblk tbr_12 (g := pb3) (by omega)).1 0).trans q3
  have kk_bx0 := ((bblk tbx0_12 (g := w4.heap.size) (by omega)).1 0).trans q5
  have kk_bx1 := ((bblk tbx1_12 (g := w6.heap.size) (by omega)).1 0).trans q7
  have kk_bg := ((bblk tbg_12 (g := w8.heap.size) (by omega)).1 0).trans q9
  go_wp2_with fail
  refine (markSample_any _ _ _ _ _ _ mm13 hm0 (by omega) (by omega)).mono ?_; rintro e w14 ⟨rfl, m14, w13, hb13, oo14, on14⟩
  have z13 := hb13.size
  have ta_13 := ta_12.trans (hb13.mono (by omega))
  have tr_13 := tr_12.trans (hb13.mono (by omega))
  have tbr_13 := tbr_12.trans (hb13.mono (by omega))
  have tx0_13 := tx0_12.trans (hb13.mono (by omega))
  have tbx0_13 := tbx0_12.trans (hb13.mono (by omega))
  have tx1_13 := tx1_12.trans (hb13.mono (by omega))
  have tbx1_13 := tbx1_12.trans (hb13.mono (by omega))
  have tg_13 := tg_12.trans (hb13.mono (by omega))
  have tbg_13 := tbg_12.trans (hb13.mono (by omega))
  have mn13 := mm13.next hb13
  have hb14 : Below w3.heap.size w13 w14 := mn13.onlyBelow oo14 on14
  have z14 := oo14.size
  have ta_14 := ta_13.trans (hb14.mono (by omega))
  have tr_14 := tr_13.trans (hb14.mono (by omega))
  have tbr_14 := tbr_13.trans (hb14.mono (by omega))
  have ex1_14 := ((x6.next tx1_13)).keep oo14 on14 (y4.mono (by omega))
  have ebx1_14 := cell_keep (p := ⟨w6.heap.size, 0, none⟩) oo14 on14 y4 (by (try simp only []); omega) (((bblk tbx1_13 (g := w6.heap.size) (by omega)).1 0).trans q7)
  have eg_14 := ((o8.next tg_13)).keep oo14 on14 (y4.mono (by omega))
  have ebg_14 := cell_keep (p := ⟨w8.heap.size, 0, none⟩) oo14 on14 y4 (by (try simp only []); omega) (((bblk tbg_13 (g := w8.heap.size) (by omega)).1 0).trans q9)
  clear oo14 on14
  have mm15 := ex1_14
  have kk0_0 := ((bblk ta_14 (g := w.heap.size) (by omega)).1 0).trans k0_0
  have kk1_0 := ((bblk ta_14 (g := w.heap.size + 1) (by omega)).1 0).trans k1_0
  have kk_br := ((bblk tbr_14 (g := pb3) (by omega)).1 0).trans q3
  have kk_bx1 := ebx1_14
  have kk_bg := ebg_14
  go_wp2_with fail
  refine (markSample_any _ _ _ _ _ _ mm15 hm1 (by omega) (by omega)).mono ?_; rintro e w16 ⟨rfl, m16, w15, hb15, oo16, on16⟩
  have z15 := hb15.size
  have ta_15 := ta_14.trans (hb15.mono (by omega))
  have tr_15 := tr_14.trans (hb15.mono (by omega))
  have tbr_15 := tbr_14.trans (hb15.mono (by omega))
  have tx1_15 := hb15
  have tbx1_15 := hb15
  have tg_15 := hb15
  have tbg_15 := hb15
  have mn15 := mm15.next hb15
  have hb16 : Below w5.heap.size w15 w16 := mn15.onlyBelow oo16 on16
  have z16 := oo16.size
  have ta_16 := ta_15.trans (hb16.mono (by omega))
  have tr_16 := tr_15.trans (hb16.mono (by omega))
  have tbr_16 := tbr_15.trans (hb16.mono (by omega))
  have eg_16 := ((eg_14.next tg_15)).keep oo16 on16 (y6.mono (by omega))
  have ebg_16 := cell_keep (p := ⟨w8.heap.size, 0, none⟩) oo16 on16 y6 (by (try simp only []); omega) (((bblk tbg_15 (g := w8.heap.size) (by omega)).1 0).trans ebg_14)
  clear oo16 on16
  have kk0_0 := ((bblk ta_16 (g := w.heap.size) (by omega)).1 0).trans k0_0
  have kk1_0 := ((bblk ta_16 (g := w.heap.size + 1) (by omega)).1 0).trans k1_0
  have kk_br := ((bblk tbr_16 (g := pb3) (by omega)).1 0).trans q3
  have kk_bg := ebg_16
  go_wp2_with fail
  refine (eqSample_any _ _ _ _ _ _ _ (eg_16).sl ((o3.below tr_16).mono (by omega)) hR2).mono ?_; rintro e w17 ⟨rfl, hb17⟩
  rw [ER.out]
  have z17 := hb17.size
  have ta_17 := ta_16.trans (hb17.mono (by omega))
  have tr_17 := tr_16.trans (hb17.mono (by omega))
  have tbr_17 := tbr_16.trans (hb17.mono (by omega))
  have tg_17 := hb17
  have tbg_17 := hb17
  have mm18 := (eg_16.next tg_17)
  have kk0_0 := ((bblk ta_17 (g := w.heap.size) (by omega)).1 0).trans k0_0
  have kk1_0 := ((bblk ta_17 (g := w.heap.size + 1) (by omega)).1 0).trans k1_0
  have kk_br := ((bblk tbr_17 (g := pb3) (by omega)).1 0).trans q3
  have kk_bg := ((bblk tbg_17 (g := w8.heap.size) (by omega)).1 0).trans ebg_16
  go_wp2_with fail
  refine (markSample_any _ _ _ _ _ _ mm18 hR1 (by omega) (by omega)).mono ?_; rintro e w19 ⟨rfl, m19, w18, hb18, oo19, on19⟩
  have z18 := hb18.size
  have ta_18 := ta_17.trans (hb18.mono (by omega))
  have tr_18 := tr_17.trans (hb18.mono (by omega))
  have tbr_18 := tbr_17.trans (hb18.mono (by omega))
  have tg_18 := tg_17.trans (hb18.mono (by omega))
  have tbg_18 := tbg_17.trans (hb18.mono (by omega))
  have mn18 := mm18.next hb18
  have hb19 : Below w7.heap.size w18 w19 := mn18.onlyBelow oo19 on19
  have z19 := oo19.size
  have ta_19 := ta_18.trans (hb19.mono (by omega))
  have tr_19 := tr_18.trans (hb19.mono (by omega))
  have tbr_19 := tbr_18.trans (hb19.mono (by omega))
  have ebg_19 := cell_keep (p := ⟨w8.heap.size, 0, none⟩) oo19 on19 y8 (by (try simp only []); omega) (((bblk tbg_18 (g := w8.heap.size) (by omega)).1 0).trans ebg_16)
  clear oo19 on19
  have kk0_0 := ((bblk ta_19 (g := w.heap.size) (by omega)).1 0).trans k0_0
  have kk1_0 := ((bblk ta_19 (g := w.heap.size + 1) (by omega)).1 0).trans k1_0
  have kk_br := ((bblk tbr_19 (g := pb3) (by omega)).1 0).trans q3
  have kk_bg := ebg_19
  go_wp2_with fail
  refine (heldSample_any _ _ _ _ _ (m19).sl hR1 (by omega) (by omega)).mono ?_; rintro e w20 ⟨rfl, hb20⟩
  have z20 := hb20.size
  have ta_20 := ta_19.trans (hb20.mono (by omega))
  have tr_20 := tr_19.trans (hb20.mono (by omega))
  have tbr_20 := tbr_19.trans (hb20.mono (by omega))
  have tg_20 := hb20
  have tbg_20 := hb20
  have kk0_0 := ((bblk ta_20 (g := w.heap.size) (by omega)).1 0).trans k0_0
  have kk1_0 := ((bblk ta_20 (g := w.heap.size + 1) (by omega)).1 0).trans k1_0
  have kk_br := ((bblk tbr_20 (g := pb3) (by omega)).1 0).trans q3
  have kk_bg := ((bblk tbg_20 (g := w8.heap.size) (by omega)).1 0).trans ebg_19
  go_wp2_with fail
  refine Chh.wp_region_chain [.val (.agg #[.slice A0 L.length c0]), .pred (SmV L), .val (.agg #[.slice A1 L'.length c1]), .pred (SmV L'), .shap (.tuple #[.agg #[.slice none R.length 0], .bool r1]) (TuG R r1) (TuM R r1), .shap (.tuple #[.agg #[.slice none R.length 0], .bool r1]) (TuG R r1) (TuM R r1), .pred (SmV R), .fix (.bool r1), .pred (NilBox w20.heap.size)] mixed (by kernel_rfl) ⟨trivial, trivial, trivial, trivial, ⟨_, _, rfl⟩, ⟨_, _, rfl⟩, trivial, trivial, trivial, trivial⟩ ?_
  refine Chh.SeqG.valStep (fun wv hbv hpv => ?_) ?_
  · have e0_0 := ((bblk hbv (g := w.heap.size) (by omega)).1 0).trans kk0_0; have e1_0 := ((bblk hbv (g := w.heap.size + 1) (by omega)).1 0).trans kk1_0
    go_wp2_with fail
    exact Chh.post_val (Below.refl _ _)
  simp only [Act.put, List.setIfInBounds_toArray, List.set_cons_zero, List.set_cons_succ]
  refine Chh.SeqG.predStep SmV.next (fun wv hbv hpv => ?_) (fun v0 => ?_)
  · go_wp2_with fail
    refine (toSample_any _ _ _ _ (SlR.next ((hw0.below ta_20).mono (by omega)) hbv) hm0).mono ?_; rintro e w1 ⟨B1, d1, rfl, q1, hb1⟩
    go_wp2_with fail
    exact Chh.post_pred _ hb1 ⟨_, _, rfl, q1.sl⟩
  simp only [Act.put, List.setIfInBounds_toArray, List.set_cons_zero, List.set_cons_succ]
  refine Chh.SeqG.valStep (fun wv hbv hpv => ?_) ?_
  · have e0_0 := ((bblk hbv (g := w.heap.size) (by omega)).1 0).trans kk0_0; have e1_0 := ((bblk hbv (g := w.heap.size + 1) (by omega)).1 0).trans kk1_0
    go_wp2_with fail
    exact Chh.post_val (Below.refl _ _)
  simp only [Act.put, List.setIfInBounds_toArray, List.set_cons_zero, List.set_cons_succ]
  refine Chh.SeqG.predStep SmV.next (fun wv hbv hpv => ?_) (fun v1 => ?_)
  · go_wp2_with fail
    refine (toSample_any _ _ _ _ (SlR.next ((hw1.below ta_20).mono (by omega)) hbv) hm1).mono ?_; rintro e w1 ⟨B1, d1, rfl, q1, hb1⟩
    go_wp2_with fail
    exact Chh.post_pred _ hb1 ⟨_, _, rfl, q1.sl⟩
  simp only [Act.put, List.setIfInBounds_toArray, List.set_cons_zero, List.set_cons_succ]
  refine Chh.SeqG.shapStep TuM.next (fun wv hbv hpv => ?_) (fun v2 hg2 => ?_)
  · obtain ⟨B0, d0, rfl, s0⟩ := hpv _ (.tail _ (.head _)) (by kernel_rfl)
    obtain ⟨B1, d1, rfl, s1⟩ := hpv _ (.head _) (by kernel_rfl)
    clear hpv
    go_wp2_with fail
    refine (C2.out _ _ _ _ _ s0 s1).mono ?_; rintro e w2 ⟨B9, d9, rfl, o2, hb2⟩
    go_wp2_with fail
    exact Chh.post_shap _ hb2 ⟨_, _, rfl, o2.sl⟩ ⟨_, _, rfl⟩
  simp only [Act.put, List.setIfInBounds_toArray, List.set_cons_zero, List.set_cons_succ]
  refine Chh.SeqG.shapStep TuM.next (fun wv hbv hpv => ?_) (fun v3 hg3 => ?_)
  · have h1 := hpv _ (.head _) (by kernel_rfl)
    clear hpv
    go_wp2_with fail
    exact Chh.post_shap _ (Below.refl _ _) h1 hg2
  simp only [Act.put, List.setIfInBounds_toArray, List.set_cons_zero, List.set_cons_succ]
  refine Chh.SeqG.predStep SmV.next (fun wv hbv hpv => ?_) (fun v4 => ?_)
  · obtain ⟨B1, d1, rfl, s1⟩ := hpv _ (.head _) (by kernel_rfl)
    clear hpv
    go_wp2_with fail
    exact Chh.post_pred _ (Below.refl _ _) ⟨_, _, rfl, s1⟩
  simp only [Act.put, List.setIfInBounds_toArray, List.set_cons_zero, List.set_cons_succ]
  obtain ⟨Ag, cg, rfl⟩ := hg3
  refine Chh.SeqG.fixStep (.inl ⟨rfl, fun _ => rfl⟩) ?_
  simp only [Act.put, List.setIfInBounds_toArray, List.set_cons_zero, List.set_cons_succ]
  refine Chh.SeqG.predStep NilBox.next (fun wv hbv hpv => ?_) (fun v5 => ?_)
  · clear hpv
    have kN := Lib.hid (Blk.new wv 30 #[.slice none 0 0])
    have hbN : Below wv.heap.size wv (wv.alloc (.cells #[.slice none 0 0] 30 (0, 0))) := by (repeat (first | exact Below.refl _ _ | refine Below.drew ?_ | refine below_drewN ?_ _ | (refine Below.alloc ?_ (by (try simp) <;> omega) _) | (refine Below.setCell ?_ (by (try simp) <;> omega) _) | (refine Below.trans ?_ (Below.mono (by assumption) (by (try simp) <;> omega)))))
    go_wp2_with fail
    exact Chh.post_pred (F := NilBox w20.heap.size) _ hbN ⟨_, rfl, hbv.size, kN.out⟩
  simp only [Act.put, List.setIfInBounds_toArray, List.set_cons_zero, List.set_cons_succ]
  refine Chh.SeqG.done fun wd hbd hpv => ?_
  obtain ⟨pb21, rfl, hpB21, kp⟩ := hpv _ (.head _)
  obtain ⟨P21, p21, rfl, od⟩ := hpv _ (.tail _ (.head _))
  clear hpv
  have zd := hbd.size
  have c0 := kp.cell 0
  simp at c0
  have fp := kp.frozen
  have lp := kp.lt
  have hb21 : Below w20.heap.size w20 (wd.setCell ⟨pb21, 0, none⟩ (.slice P21 R.length p21)) := hbd.setCell (p := ⟨pb21, 0, none⟩) hpB21 _
  have o21 : SlR f1 1 (wd.setCell ⟨pb21, 0, none⟩ (.slice P21 R.length p21)) (wd.setCell ⟨pb21, 0, none⟩ (.slice P21 R.length p21)).heap.size P21 R := SlR.store od kp _
  have q21 : (wd.setCell ⟨pb21, 0, none⟩ (.slice P21 R.length p21)).cell? ⟨pb21, 0, none⟩ = some (.slice P21 R.length p21) := Blk.stored kp _
  have lq21 : pb21 < (wd.setCell ⟨pb21, 0, none⟩ (.slice P21 R.length p21)).heap.size := by simpa using lp
  have HO := Lib.hid o21
  have HB := Lib.hid hb21
  have HQ := Lib.hid q21
  clear o21 hb21 q21 od hbd kp
  go_wp2_with fail
  refine Chh.NoPan.normal ?_
  clear c0 fp lp
  generalize (wd.setCell ⟨pb21, 0, none⟩ (.slice P21 R.length p21)) = w21 at *
  have o21 := HO.out
  have hb21 := HB.out
  have q21 := HQ.out
  clear HO HB HQ zd
  have z21 := hb21.size
  have ta_21 := ta_20.trans (hb21.mono (by omega))
  have tr_21 := tr_20.trans (hb21.mono (by omega))
  have tbr_21 := tbr_20.trans (hb21.mono (by omega))
  have tg_21 := tg_20.trans (hb21.mono (by omega))
  have tbg_21 := tbg_20.trans (hb21.mono (by omega))
  have kk0_0 := ((bblk ta_21 (g := w.heap.size) (by omega)).1 0).trans k0_0
  have kk1_0 := ((bblk ta_21 (g := w.heap.size + 1) (by omega)).1 0).trans k1_0
  have kk_br := ((bblk tbr_21 (g := pb3) (by omega)).1 0).trans q3
  have kk_bg := ((bblk tbg_21 (g := w8.heap.size) (by omega)).1 0).trans ebg_19
  have kk_bh := q21
  go_wp2_with fail
  refine (eqSample_any _ _ _ _ _ _ _ o21 ((o3.below tr_21).mono (by omega)) hR2).mono ?_; rintro e w22 ⟨rfl, hb22⟩
  rw [ER.out]
  have z22 := hb22.size
  have ta_22 := ta_21.trans (hb22.mono (by omega))
  have tr_22 := tr_21.trans (hb22.mono (by omega))
  have tbr_22 := tbr_21.trans (hb22.mono (by omega))
  have tg_22 := tg_21.trans (hb22.mono (by omega))
  have tbg_22 := tbg_21.trans (hb22.mono (by omega))
  have th_22 := hb22
  have tbh_22 := hb22
  have kk0_0 := ((bblk ta_22 (g := w.heap.size) (by omega)).1 0).trans k0_0
  have kk1_0 := ((bblk ta_22 (g := w.heap.size + 1) (by omega)).1 0).trans k1_0
  have kk_br := ((bblk tbr_22 (g := pb3) (by omega)).1 0).trans q3
  have kk_bg := ((bblk tbg_22 (g := w8.heap.size) (by omega)).1 0).trans ebg_19
  have kk_bh := ((bblk tbh_22 (g := pb21) (by omega)).1 0).trans q21
  go_wp2_with fail
  refine (heldSample_any _ _ _ _ _ ((m19.next tg_22)).sl hR1 (by omega) (by omega)).mono ?_; rintro e w23 ⟨rfl, hb23⟩
  have z23 := hb23.size
  have ta_23 := ta_22.trans (hb23.mono (by omega))
  have tr_23 := tr_22.trans (hb23.mono (by omega))
  have tbr_23 := tbr_22.trans (hb23.mono (by omega))
  have tg_23 := tg_22.trans (hb23.mono (by omega))
  have tbg_23 := tbg_22.trans (hb23.mono (by omega))
  have th_23 := th_22.trans (hb23.mono (by omega))
  have tbh_23 := tbh_22.trans (hb23.mono (by omega))
  go_wp2
  go_ret
  exact ⟨rfl, hW.trans (ta_23.mono (by omega))⟩
end Go.Proofs.Ytapfnelghmnajaa
