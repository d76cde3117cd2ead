/-
  The law on FewestSieves, walked.
-/
import Derived.Test.YtapfnelghmnajaaSms5
import Derived.Test.YtapfnelghmnajaaHSs
import Derived.WalkKit
import Derived.WalkSpells
import Derived.WalkLawsBesides
import Derived.Lib.Hide
import Derived.Deep.QuietTactic
import Derived.BigQuiet
import Derived.StillTailTactics
namespace Go.Proofs.Ytapfnelghmnajaa
open Go.RowKit

theorem fewL_len (S : List Int) (T : List (List Int)) : (fewL S T).length ≤ 5 := by
  unfold fewL
  split
  · rename_i h
    rw [ci_len]
    exact fewK_len h
  · simp
theorem fs_spec (A : Option Addr) (c : Nat) (S : List Int) (A' : Option Addr) (c' : Nat) (T : List (List Int)) (w : World) (hr : SlR f1 1 w w.heap.size A S) (hm : (S.length : Int) ≤ 1048576) (hI : ∀ x ∈ S, InI1 x) (hs : SlT w w.heap.size A' T) (hT : (wt T : Int) ≤ 1048576) (_hI : ∀ l ∈ T, InIT l) (_hc : T.length ≤ c') :
    Calls Try.prog 37 #[.slice A S.length c, .slice A' T.length c'] w (NewSl2 f1 1 3 w (fewL S T) (fewB S T)) := by
  obtain ⟨M, rfl, hs⟩ := hs
  rw [smls_len]
  refine SFewest_any A A' c c' S M w hr hm hI hs (by have := wt_len (smls M); rw [smls_len] at this; omega) fun x hx => ?_
  have := sumT_mem (T := smls M) (l := x.2.2) (List.mem_map.2 ⟨x, hx, rfl⟩)
  omega
theorem fs_impl (A : Option Addr) (c : Nat) (S : List Int) (A' : Option Addr) (c' : Nat) (T : List (List Int)) (w : World) (hr : SlR f1 1 w w.heap.size A S) (hm : (S.length : Int) ≤ 1048576) (hI : ∀ x ∈ S, InI1 x) (hs : SlT w w.heap.size A' T) (hT : (wt T : Int) ≤ 1048576) (_hI : ∀ l ∈ T, InIT l) (hc : T.length ≤ c') :
    Calls Try.prog 39 #[.slice A S.length c, .slice A' T.length c'] w (NewSl2 f1 1 3 w (fewL S T) (fewB S T)) := by
  obtain ⟨M, rfl, hs⟩ := hs
  rw [smls_len] at hc ⊢
  refine FewestSieves_any A A' c c' S M w hr hm hI hs (by have := wt_len (smls M); rw [smls_len] at this; omega) (fun x hx => ?_) hc
  have := sumT_mem (T := smls M) (l := x.2.2) (List.mem_map.2 ⟨x, hx, rfl⟩)
  omega

set_option maxRecDepth 20000 in
set_option maxHeartbeats 8000000 in
theorem walk_FewestSieves (A0 : Option Addr) (c0 : Nat) (S : List Int) (hn0 : (S.length : Int) ≤ 9223372036854775807) (_hI0 : ∀ x ∈ S, InI1 x) (A1 : Option Addr) (c1 : Nat) (T : List (List Int)) (hn1 : (T.length : Int) ≤ 9223372036854775807) (_hI1 : ∀ x ∈ T, InIT x) (w : World) (hr0 : SlR f1 1 w w.heap.size A0 S) (hr1 : SlT w w.heap.size A1 T) :
    Calls Try.prog 10 #[.slice A0 S.length c0, .slice A1 T.length c1] w fun e w' => e = .returned (.bool true) ∧ Below w.heap.size w w' := by
  have HLT := Lib.hid _hI1
  have hwt := wt_len T
  have hsum : (0 : Int) ≤ (sumT T T.length : Int) ∧ (sumT T T.length : Int) ≤ wt T := by unfold wt; omega
  by_cases hs0 : (S.length : Int) > 1048576
  · clear _hI0 _hI1
    go_enter Try.func10, Try.ntmps10
    go_wp2
    go_ret
    exact ⟨rfl, by (repeat (first | exact Below.refl _ _ | refine Below.drew ?_ | refine below_drewN ?_ _ | (refine Below.alloc ?_ (by (try simp) <;> omega) _) | (refine Below.setCell ?_ (by (try simp) <;> omega) _) | (refine Below.trans ?_ (Below.mono (by assumption) (by (try simp) <;> omega)))))⟩
  have hm0 : (S.length : Int) ≤ 1048576 := by omega
  by_cases hs1 : (1048576 : Int) - wt T < 0
  · have Hv1 := Lib.hid (show szV (1048576) (wt T) = -1 from if_pos hs1)
    clear _hI0 _hI1
    go_enter Try.func10, Try.ntmps10
    go_wp2_with fail
    refine (szSampleS_any _ _ T _ _ hr1 hn1 HLT.out (by omega) (by omega)).mono ?_; rintro e ws1 ⟨rfl, hbs1⟩
    have zs1 := hbs1.size
    rw [Hv1.out]
    go_wp2
    go_ret
    exact ⟨rfl, by (repeat (first | exact Below.refl _ _ | refine Below.drew ?_ | refine below_drewN ?_ _ | (refine Below.alloc ?_ (by (try simp) <;> omega) _) | (refine Below.setCell ?_ (by (try simp) <;> omega) _) | (refine Below.trans ?_ (Below.mono (by assumption) (by (try simp) <;> omega)))))⟩
  have Hv1 := Lib.hid (show szV (1048576) (wt T) = 1048576 - wt T from if_neg hs1)
  have hm1 : (wt T : Int) ≤ 1048576 := by omega
  have C1 := Lib.hid (fun A0 c0 A1 c1 w h0 h1 hc1 => fs_spec A0 c0 S A1 c1 T w h0 hm0 _hI0 h1 hm1 _hI1 hc1)
  have C2 := Lib.hid (fun A0 c0 A1 c1 w h0 h1 hc1 => fs_impl A0 c0 S A1 c1 T w h0 hm0 _hI0 h1 hm1 _hI1 hc1)
  have hl := fewL_len S T
  clear _hI0 _hI1
  generalize fewL S T = R at *
  generalize fewB S T = r1 at *
  have nb1 := neB r1
  have hR1 : (R.length : Int) ≤ 1048576 := by omega
  have hR2 : (R.length : Int) ≤ 9223372036854775807 := by omega
  have hR3 : (0 : Int) ≤ (R.length : Int) := by omega
  have ER := Lib.hid (eqL_refl R)
  have nm := neI (1 + 1 * (R.length : Int))
  have nm' := neI (1 + (R.length : Int))
  have hl0 : (0 : Int) ≤ (S.length : Int) := by omega
  have E0 := Lib.hid (eqL_refl S)
  have hl1 : (0 : Int) ≤ (T.length : Int) := by omega
  have E1 := Lib.hid (eqL_refl T)
  go_enter Try.func10, Try.ntmps10
  go_wp2_with fail
  have hW := Below.refl w.heap.size w
  have zW : w.heap.size ≤ w.heap.size := Nat.le_refl _
  have hw0 := hr0
  have hw1 := hr1
  refine (szSampleS_any _ _ T _ _ hr1 hn1 HLT.out (by omega) (by omega)).mono ?_; rintro e w1 ⟨rfl, hb1⟩
  have z1 := hb1.size
  have ta_1 := hb1
  rw [Hv1.out]
  go_wp2_with fail
  refine (toIntS_any _ _ _ _ ((hw0.below ta_1).mono (by omega)) hm0).mono ?_; rintro e w2 ⟨B2, d2, rfl, x2, hb2⟩
  have z2 := hb2.size
  have ta_2 := ta_1.trans (hb2.mono (by omega))
  go_wp2_with fail
  refine (toSampleSc_any _ _ _ _ ((hw1.below ta_2).mono (by omega)) hm1).mono ?_; rintro e w3 ⟨B3, d3, rfl, x3, hb3, hcap3⟩
  have HC3 := Lib.hid hcap3
  clear hcap3
  have z3 := hb3.size
  have ta_3 := ta_2.trans (hb3.mono (by omega))
  have tn0_3 := hb3
  go_wp2_with fail
  refine (C1.out _ _ _ _ _ ((x2.next tn0_3)).sl (x3).sl HC3.out).mono ?_; rintro e w4 ⟨P4, p4, rfl, o4, hb4⟩
  have z4 := hb4.size
  have ta_4 := ta_3.trans (hb4.mono (by omega))
  go_wp2_with fail
  refine (toIntS_any _ _ _ _ ((hw0.below ta_4).mono (by omega)) hm0).mono ?_; rintro e w5 ⟨B5, d5, rfl, x5, hb5⟩
  have z5 := hb5.size
  have ta_5 := ta_4.trans (hb5.mono (by omega))
  have tr_5 := hb5
  have y5 := x5.sl
  go_wp2_with fail
  refine (toSampleSc_any _ _ _ _ ((hw1.below ta_5).mono (by omega)) hm1).mono ?_; rintro e w6 ⟨B6, d6, rfl, x6, hb6, hcap6⟩
  have HC6 := Lib.hid hcap6
  clear hcap6
  have z6 := hb6.size
  have ta_6 := ta_5.trans (hb6.mono (by omega))
  have tr_6 := tr_5.trans (hb6.mono (by omega))
  have tx0_6 := hb6
  have y6 := x6.sl
  go_wp2_with fail
  refine (C2.out _ _ _ _ _ ((x5.next tx0_6)).sl (x6).sl HC6.out).mono ?_; rintro e w7 ⟨P7, p7, rfl, o7, hb7⟩
  have z7 := hb7.size
  have ta_7 := ta_6.trans (hb7.mono (by omega))
  have tr_7 := tr_6.trans (hb7.mono (by omega))
  have tx0_7 := tx0_6.trans (hb7.mono (by omega))
  have tx1_7 := hb7
  have y7 := o7.sl
  go_wp2_with fail
  refine (eqIntS_any _ _ _ _ _ _ _ (o7).sl ((o4.next tr_7)).sl hR2).mono ?_; rintro e w8 ⟨rfl, hb8⟩
  rw [ER.out]
  have z8 := hb8.size
  have ta_8 := ta_7.trans (hb8.mono (by omega))
  have tr_8 := tr_7.trans (hb8.mono (by omega))
  have tx0_8 := tx0_7.trans (hb8.mono (by omega))
  have tx1_8 := tx1_7.trans (hb8.mono (by omega))
  have tg_8 := hb8
  go_wp2_with fail
  refine (toIntS_any _ _ _ _ ((hw0.below ta_8).mono (by omega)) hm0).mono ?_; rintro e w9 ⟨B9, d9, rfl, x9, hb9⟩
  have z9 := hb9.size
  have ta_9 := ta_8.trans (hb9.mono (by omega))
  have tr_9 := tr_8.trans (hb9.mono (by omega))
  have tx0_9 := tx0_8.trans (hb9.mono (by omega))
  have tx1_9 := tx1_8.trans (hb9.mono (by omega))
  have tg_9 := tg_8.trans (hb9.mono (by omega))
  go_wp2_with fail
  refine (eqIntS_any _ _ _ _ _ _ _ ((x5.next tx0_9)).sl (x9).sl hn0).mono ?_; rintro e w10 ⟨rfl, hb10⟩
  rw [E0.out]
  have z10 := hb10.size
  have ta_10 := ta_9.trans (hb10.mono (by omega))
  have tr_10 := tr_9.trans (hb10.mono (by omega))
  have tx0_10 := tx0_9.trans (hb10.mono (by omega))
  have tx1_10 := tx1_9.trans (hb10.mono (by omega))
  have tg_10 := tg_9.trans (hb10.mono (by omega))
  have tn_10 := hb10
  go_wp2_with fail
  refine (toSampleSc_any _ _ _ _ ((hw1.below ta_10).mono (by omega)) hm1).mono ?_; rintro e w11 ⟨B11, d11, rfl, x11, hb11, hcap11⟩
  have HC11 := Lib.hid hcap11
  clear hcap11
  have z11 := hb11.size
  have ta_11 := ta_10.trans (hb11.mono (by omega))
  have tr_11 := tr_10.trans (hb11.mono (by omega))
  have tx0_11 := tx0_10.trans (hb11.mono (by omega))
  have tx1_11 := tx1_10.trans (hb11.mono (by omega))
  have tg_11 := tg_10.trans (hb11.mono (by omega))
  go_wp2_with fail
  refine (eqSampleS_any _ _ _ _ T _ ((x6.next tx1_11)).sl (x11).sl hm1).mono ?_; rintro e w12 ⟨rfl, hb12⟩
  have z12 := hb12.size
  have ta_12 := ta_11.trans (hb12.mono (by omega))
  have tr_12 := tr_11.trans (hb12.mono (by omega))
  have tx0_12 := tx0_11.trans (hb12.mono (by omega))
  have tx1_12 := tx1_11.trans (hb12.mono (by omega))
  have tg_12 := tg_11.trans (hb12.mono (by omega))
  have tn_12 := hb12
  have mm13 := (x5.next tx0_12)
  go_wp2_with fail
  refine (markIntS_any _ _ _ _ _ _ mm13 hm0 (by omega) (by omega)).mono ?_; rintro e w13 ⟨rfl, m13, oo13, on13⟩
  have hb13 : Below w4.heap.size w12 w13 := mm13.onlyBelow oo13 on13
  have z13 := oo13.size
  have ta_13 := ta_12.trans (hb13.mono (by omega))
  have tr_13 := tr_12.trans (hb13.mono (by omega))
  have ex1_13 := ((x6.next tx1_12)).keep oo13 on13 (y5.mono (by omega))
  have eg_13 := ((o7.next tg_12)).keep oo13 on13 (y5.mono (by omega))
  clear oo13 on13
  have mm14 := ex1_13
  go_wp2_with fail
  refine (markSampleS_any _ _ _ _ T _ _ mm14 hm1 (by omega) (by omega)).mono ?_; rintro e w14 ⟨rfl, rg14⟩
  have hb14 : Below w5.heap.size w13 w14 := rg14.below
  have z14 := rg14.size
  have ta_14 := ta_13.trans (hb14.mono (by omega))
  have tr_14 := tr_13.trans (hb14.mono (by omega))
  have eg_14 := OwnR.rng eg_13 rg14 (by omega)
  clear rg14
  go_wp2_with fail
  refine (eqIntS_any _ _ _ _ _ _ _ (eg_14).sl ((o4.next tr_14)).sl hR2).mono ?_; rintro e w15 ⟨rfl, hb15⟩
  rw [ER.out]
  have z15 := hb15.size
  have ta_15 := ta_14.trans (hb15.mono (by omega))
  have tr_15 := tr_14.trans (hb15.mono (by omega))
  have tg_15 := hb15
  have mm16 := (eg_14.next tg_15)
  go_wp2_with fail
  refine (markIntS_any _ _ _ _ _ _ mm16 hR1 (by omega) (by omega)).mono ?_; rintro e w16 ⟨rfl, m16, oo16, on16⟩
  have hb16 : Below w6.heap.size w15 w16 := mm16.onlyBelow oo16 on16
  have z16 := oo16.size
  have ta_16 := ta_15.trans (hb16.mono (by omega))
  have tr_16 := tr_15.trans (hb16.mono (by omega))
  clear oo16 on16
  go_wp2_with fail
  refine (heldIntS_any _ _ _ _ _ (m16).sl hR1 (by omega) (by omega)).mono ?_; rintro e w' ⟨rfl, rfl⟩
  go_wp2_with fail
  refine (toIntS_any _ _ _ _ ((hw0.below ta_16).mono (by omega)) hm0).mono ?_; rintro e w17 ⟨B17, d17, rfl, x17, hb17⟩
  have z17 := hb17.size
  have ta_17 := ta_16.trans (hb17.mono (by omega))
  have tr_17 := tr_16.trans (hb17.mono (by omega))
  have tg_17 := hb17
  go_wp2_with fail
  refine (toSampleSc_any _ _ _ _ ((hw1.below ta_17).mono (by omega)) hm1).mono ?_; rintro e w18 ⟨B18, d18, rfl, x18, hb18, hcap18⟩
  have HC18 := Lib.hid hcap18
  clear hcap18
  have z18 := hb18.size
  have ta_18 := ta_17.trans (hb18.mono (by omega))
  have tr_18 := tr_17.trans (hb18.mono (by omega))
  have tg_18 := tg_17.trans (hb18.mono (by omega))
  have tn0_18 := hb18
  go_wp2_with fail
  refine (C2.out _ _ _ _ _ ((x17.next tn0_18)).sl (x18).sl HC18.out).mono ?_; rintro e w19 ⟨P19, p19, rfl, o19, hb19⟩
  have z19 := hb19.size
  have ta_19 := ta_18.trans (hb19.mono (by omega))
  have tr_19 := tr_18.trans (hb19.mono (by omega))
  have tg_19 := tg_18.trans (hb19.mono (by omega))
  go_wp2_with fail
  refine (eqIntS_any _ _ _ _ _ _ _ (o19).sl ((o4.next tr_19)).sl hR2).mono ?_; rintro e w20 ⟨rfl, hb20⟩
  rw [ER.out]
  have z20 := hb20.size
  have ta_20 := ta_19.trans (hb20.mono (by omega))
  have tr_20 := tr_19.trans (hb20.mono (by omega))
  have tg_20 := tg_19.trans (hb20.mono (by omega))
  have th_20 := hb20
  go_wp2_with fail
  refine (heldIntS_any _ _ _ _ _ ((m16.next tg_20)).sl hR1 (by omega) (by omega)).mono ?_; rintro e w' ⟨rfl, rfl⟩
  go_wp2
  go_ret
  exact ⟨rfl, hW.trans (ta_20.mono (by omega))⟩
end Go.Proofs.Ytapfnelghmnajaa
