/-
  The law FnRungs, walked.
-/
import Derived.Test.YthhjbdhglaombaaDrawL3
import Derived.Test.YthhjbdhglaombaaFnrM
import Derived.Test.YthhjbdhglaombaaEven2
import Derived.Deep.DeepCutAuto
namespace Go.Proofs.Ythhjbdhglaombaa
open Go.RowKit

set_option maxHeartbeats 16000000 in
set_option maxRecDepth 100000 in
theorem walk_FnRungs (A : Option Addr) (c : Nat) (L : List Int) (hI : ∀ x ∈ L, 0 ≤ x ∧ x ≤ 255) (wo : World) (hs : SlR fb 1 wo wo.heap.size A L) :
    Calls Try.prog 12 #[.slice A L.length c] wo fun e w' => e = .returned (.bool true) ∧ Below wo.heap.size wo w' := by
  by_cases hl : (65536 : Int) < L.length
  · go_enter Try.func12, Try.ntmps12
    go_wp2_with (go_at_call 45; refine (vBig_any _ _ _ _).mono ?_; rintro e w' ⟨rfl, rfl⟩)
    go_ret
    exact ⟨rfl, Below.refl _ _⟩
  have hl : (L.length : Int) ≤ 65536 := by omega
  have hz0 : (0 : Int) ≤ L.length := by omega
  go_enter Try.func12, Try.ntmps12
  go_wp2_with (go_at_call 45; refine (vBig_any _ _ _ _).mono ?_; rintro e w' ⟨rfl, rfl⟩)
  refine (DrawRoomOnRung_any A c L _ hI hl hs).mono ?_; rintro e w1 ⟨v, rfl, ⟨A1, c1, M, i, a, s, rfl, hM, s1⟩, hb1⟩
  have hMl := hM.1
  have z1 := hb1.size
  have k1 := Blk.new w1 38 #[.int .i64 a, .int .i64 s]
  have hb01 : Below wo.heap.size wo (w1.alloc (.cells #[.int .i64 a, .int .i64 s] 38)) := by (repeat (first | exact Below.refl _ _ | refine Below.drew ?_ | refine below_drewN ?_ _ | (refine Below.alloc ?_ (by (try simp) <;> omega) _) | (refine Below.setCell ?_ (by (try simp) <;> omega) _) | (refine Below.trans ?_ (Below.mono (by assumption) (by (try simp) <;> omega)))))
  have s2 := s1.alloc (.cells #[.int .i64 a, .int .i64 s] 38)
  obtain ⟨n1, u1, hj1⟩ : ∃ n1 u1, roomV M i a s = .tuple #[.int .i64 n1, .bool u1] ∧ u1 = askB M i a s ∧ (u1 = true → n1 = roomN M i a s) := by
    unfold roomV; split
    · exact ⟨_, _, rfl, by rw [‹askB M i a s = true›], fun _ => rfl⟩
    · exact ⟨_, _, rfl, by simp_all, fun h => by cases h⟩
  obtain ⟨n2, hj2⟩ : ∃ n2, sunV M i a s = .tuple #[.int .i64 n2, .bool u1] ∧ (u1 = true → n2 = sunN M i a s) := by
    obtain ⟨_, hu, _⟩ := hj1
    unfold sunV; split
    · exact ⟨_, by rw [hu, ‹askB M i a s = true›], fun _ => rfl⟩
    · exact ⟨0, by rw [hu]; simp_all, fun h => by simp_all⟩
  have HJ1 := Lib.hid hj1.1
  have HJ2 := Lib.hid hj2.1
  have HU := Lib.hid hj1.2
  have HU2 := Lib.hid hj2.2
  clear hj1 hj2 hM
  go_upto_region 4 with fail
  clear hb1 s1 z1
  generalize w1.heap.size = p at *
  generalize w1.alloc (.cells #[.int .i64 a, .int .i64 s] 38) = W0 at *
  clear w1
  have c2 := k1.cell
  go_wp2_with fail
  refine (RoomOnRung_any _ _ M i a s _ (by exact s2) (by omega)).mono ?_; rintro e w2 ⟨he, hb2⟩; rw [HJ1.out] at he; subst he
  have z2 := hb2.size
  have k2 := k1.below' hb2
  have s3 := s2.next hb2
  have hb02 := hb01.trans (hb2.mono (by have := hb01.size; omega))
  clear c2 k1 hb2 hb01 s2
  have c3 := k2.cell
  go_wp2_with fail
  refine (SRoomOnRung_any _ _ M i a s _ (by exact s3) (by omega)).mono ?_; rintro e w3 ⟨he, hb3⟩; rw [HJ1.out] at he; subst he
  have z3 := hb3.size
  have k3 := k2.below' hb3
  have s4 := s3.next hb3
  have hb03 := hb02.trans (hb3.mono (by have := hb02.size; omega))
  clear c3 k2 hb3 hb02 s3
  have E1 := neI n1
  have E2 := neI n2
  have E3 := neB u1
  have c4 := k3.cell
  go_wp2_with fail
  refine (SunOnRung_any _ _ M i a s _ (by exact s4) (by omega)).mono ?_; rintro e w4 ⟨he, hb4⟩; rw [HJ2.out] at he; subst he
  have z4 := hb4.size
  have k4 := k3.below' hb4
  have s5 := s4.next hb4
  have hb04 := hb03.trans (hb4.mono (by have := hb03.size; omega))
  clear c4 k3 hb4 hb03 s4
  have c5 := k4.cell
  go_wp2_with fail
  refine (SSunOnRung_any _ _ M i a s _ (by exact s5) (by omega)).mono ?_; rintro e w5 ⟨he, hb5⟩; rw [HJ2.out] at he; subst he
  have z5 := hb5.size
  have k5 := k4.below' hb5
  have s6 := s5.next hb5
  have hb05 := hb04.trans (hb5.mono (by have := hb04.size; omega))
  clear c5 k4 hb5 hb04 s5
  go_upto_if 90 with fail
  clear E1 E2 E3
  go_cut [] (fun wx => Below wo.heap.size wo wx)
  case first => as_aux_lemma =>
    cases u1
    · go_wp2_with fail
      go_meet
      exact hb05
    · obtain ⟨q1, q2⟩ := HU.out
      have hask : askB M i a s = true := q1.symm
      obtain rfl := q2 rfl
      obtain rfl := HU2.out rfl
      obtain ⟨⟨a0, a1⟩, ⟨r0, r1⟩, ⟨p1, p2⟩, p3⟩ := room_plain hask
      obtain ⟨⟨t0, t1⟩, p4, p5⟩ := sun_plain hask
      have P1 := Lib.hid p1; have P2 := Lib.hid p2; have P3 := Lib.hid p3; have P4 := Lib.hid p4; have P5 := Lib.hid p5
      clear p1 p2 p3 p4 p5 q1 q2 hask HU HU2 HJ1 HJ2
      have l1 := runL_len M (a + roomN M i a s) s
      have l2 := runL_len M (a - sunN M i a s) s
      have l3 := runL_len M (a + roomN M i a s + 1) s
      have d1 : decide (roomN M i a s < 0) = false := by rw [decide_eq_false_iff_not]; omega
      have d2 : decide (sunN M i a s < 0) = false := by rw [decide_eq_false_iff_not]; omega
      generalize roomN M i a s = r at *
      generalize sunN M i a s = t at *
      have c5 := k5.cell
      have e1 : ∀ w, Calls Try.prog 33 #[.slice A1 M.length c1, .agg #[.int .i64 (a + r), .int .i64 s]] w = Calls Try.prog 33 #[.slice A1 M.length c1, briV (a + r) s] w := fun _ => rfl
      go_wp2_with fail
      refine (RungsFor_any _ _ M (a + r) s _ (by exact s6) (by omega)).mono ?_; rintro e w6 ⟨A6, c6, rfl, o6, hb6⟩
      rw [P1.out]
      generalize runL M (a + r) s = R1 at *
      have k6 := k5.below' hb6
      have s7 := s6.next hb6
      have hb06 := hb05.trans (hb6.mono (by have := hb05.size; omega))
      have c6 := k6.cell
      clear c5 k5 s6 hb6 hb05
      go_wp2_with fail
      refine (RungsFor_any _ _ M (a - t) s _ (by exact s7) (by omega)).mono ?_; rintro e w7 ⟨A7, c7, rfl, o7, hb7⟩
      rw [P4.out]
      generalize runL M (a - t) s = R2 at *
      have k7 := k6.below' hb7
      have s8 := s7.next hb7
      have hb07 := hb06.trans (hb7.mono (by have := hb06.size; omega))
      have o6' := (o6.next hb7).sl
      have o7' := o7.sl
      have c7 := k7.cell
      clear c6 k6 s7 hb7 hb06 o6 o7
      go_wp2_with fail
      refine (vHas_any _ _ R1 i _ (by exact o6') (by omega)).mono ?_; rintro e w' ⟨rfl, rfl⟩
      rw [P2.out]
      go_wp2_with fail
      refine (vHas_any _ _ R2 i _ (by exact o7') (by omega)).mono ?_; rintro e w' ⟨rfl, rfl⟩
      rw [P5.out]
      go_wp2_with fail
      refine (RungsFor_any _ _ M (a + r + 1) s _ (by exact s8) (by omega)).mono ?_; rintro e w8 ⟨A8, c8, rfl, o8, hb8⟩
      have hb08 := hb07.trans (hb8.mono (by have := hb07.size; omega))
      have o8' := o8.sl
      clear o8 hb8 c7 k7 s8 hb07
      cases runB M (a + r + 1) s
      · go_wp2_with fail
        go_meet
        exact hb08
      · go_wp2_with fail
        refine (vHas_any _ _ (runL M (a + r + 1) s) i _ (by exact o8') (by omega)).mono ?_; rintro e w' ⟨rfl, rfl⟩
        rw [P3.out]
        go_wp2_with fail
        go_meet
        exact hb08
  case rest => as_aux_lemma =>
    have hb4 := hcut; clear hcut
    clear k5 s6 hb05 HJ1 HJ2 HU HU2 hMl
    go_wp2_with fail
    refine (DrawEvenLadder_any A c L _ hI hl (hs.next hb4)).mono ?_; rintro e w1 ⟨v, rfl, ⟨n, lo, hi, rfl⟩, hb1⟩
    have hb01 := hb4.trans (hb1.mono (by have := hb4.size; omega))
    go_wp2_with fail
    refine (EvenLadder_any n lo hi _).mono ?_; rintro e w2 ⟨A2, c2, rfl, o2, hb2⟩
    go_wp2_with fail
    refine (SEvenLadder_any n lo hi _).mono ?_; rintro e w3 ⟨A3, c3, rfl, o3, hb3⟩
    have hb02 := hb01.trans (hb2.mono (by have := hb01.size; omega))
    have hb03 := hb02.trans (hb3.mono (by have := hb02.size; omega))
    have s2 := (o2.next hb3).sl
    have s3 := o3.sl
    have E1 := neB (evenB n lo hi)
    have HL := Lib.hid (evenL_len8 n lo hi)
    clear o2 o3 hb2 hb1 hb3 hb4 hb01 hb02
    go_wp2_with fail
    refine (vRungs_same _ _ _ _ (evenL n lo hi) _ (by exact s2) (by exact s3) (by have := HL.out; omega)).mono ?_; rintro e w4 ⟨rfl, hb4⟩
    have s4 := s2.next hb4
    have hb04 := hb03.trans (hb4.mono (by have := hb03.size; omega))
    clear s2 s3 hb4 hb03
    go_upto_region 25 with fail
    clear E1
    have HE := Lib.hid (fun h : evenB n lo hi = true => even_plain h)
    generalize evenL n lo hi = R at *
    generalize evenB n lo hi = fine at *
    go_cut [218] (fun v wx => v = .bool false ∧ Below wo.heap.size wo wx)
    case first => as_aux_lemma =>
      cases fine
      · go_wp2_with fail
        go_meet
        exact ⟨rfl, hb04⟩
      · obtain ⟨⟨n1, n8⟩, e1, e2, e3, y, e4⟩ := HE.out rfl
        obtain ⟨b, off, rfl, hB, hcs⟩ := s4 (by intro e; rw [e] at e1; simp at e1; omega)
        obtain ⟨m, rfl⟩ : ∃ m : Nat, n = (m : Int) + 1 := ⟨(n - 1).toNat, by omega⟩
        rw [show ((m : Int) + 1).toNat - 1 = m by omega] at e4
        have E1 := Lib.hid e1; have E2 := Lib.hid e2; have E3 := Lib.hid e3; have E4 := Lib.hid e4
        have HCS := Lib.hid hcs
        have S4 := Lib.hid s4
        clear e1 e2 e3 e4 hcs s4 HE
        have q1 : ((R.length : Int) != (m : Int) + 1) = false := by rw [E1.out]; simp
        have q2 := neI lo
        have q3 := neI hi
        have q4 : (m : Int) < (R.length : Int) := by have := E1.out; omega
        have q5 : (0 : Int) < (R.length : Int) := by have := E1.out; omega
        have q6 : (0 : Int) ≤ (m : Int) := by omega
        go_wp2_with fail
        refine (IsLadder_any _ _ R _ (by exact S4.out) (by have := HL.out; omega)).mono ?_; rintro e w5 ⟨rfl, hb5⟩
        rw [E2.out]
        have hC := HCS.out.below hb5 hB
        have hb05 := hb04.trans (hb5.mono (by have := hb04.size; omega))
        have c0 := (cells2 hC E3.out).1
        have c1 := (cells2 hC E4.out).2
        simp only [Nat.zero_mul, Nat.add_zero] at c0
        clear hC hb5
        go_wp2_with fail
        go_meet
        exact ⟨rfl, hb05⟩
    case rest => as_aux_lemma =>
      obtain ⟨rfl, hb5⟩ := hcut
      clear HE HL s4 hb04
      go_wp2_with fail
      refine (DrawWidestRung_any A c L _ hI hl (hs.next hb5)).mono ?_; rintro e w1 ⟨v, rfl, ⟨A5, c5, K, rfl, hK, s1⟩, hb1⟩
      have hKl := hK.1
      have HKI := Lib.hid hK.2
      have hb01 := hb5.trans (hb1.mono (by have := hb5.size; omega))
      clear hK hb1 hb5
      obtain ⟨x, u, hj⟩ := widestV_form K
      have Hj := Lib.hid hj; clear hj
      go_wp2_with fail
      refine (WidestRung_any _ _ K _ (by exact s1) (by omega) HKI.out).mono ?_; rintro e w2 ⟨he, hb2⟩; rw [Hj.out] at he; subst he
      have s2 := s1.next hb2
      have hb02 := hb01.trans (hb2.mono (by have := hb01.size; omega))
      clear s1 hb2 hb01
      go_wp2_with fail
      refine (SWidestRung_any _ _ K _ (by exact s2) (by omega) HKI.out).mono ?_; rintro e w3 ⟨he, hb3⟩; rw [Hj.out] at he; subst he
      have s3 := s2.next hb3
      have hb03 := hb02.trans (hb3.mono (by have := hb02.size; omega))
      have E1 := neI x
      have E2 := neB u
      clear s2 hb3 hb02
      have hK0 : (0 : Int) ≤ K.length := by omega
      cases u
      · go_wp2
        go_loopw [32] (fun iv wr => iv = .int .i64 0 ∧ Below wo.heap.size wo wr) (fun _ _ => 0)
        case atStart => exact ⟨rfl, hb03⟩
        case round =>
          obtain ⟨rfl, hb⟩ := hrel
          by_cases hk : (0 : Int) < K.length
          · go_wp2
            go_ret
            exact ⟨rfl, hb⟩
          · go_wp2
            go_ret
            exact ⟨rfl, hb⟩
      · obtain ⟨m, y, rfl, hy, hm, ⟨y0, y1, y2⟩, hall⟩ := widest_plain Hj.out
        obtain ⟨b, off, rfl, hB, hcs⟩ := s3 (SlR.ne hy)
        have HY := Lib.hid hy
        have HA := Lib.hid hall
        have HC := Lib.hid hcs
        have hm0 : (0 : Int) ≤ (m : Int) := by omega
        have hm1 : (m : Int) < (K.length : Int) := by omega
        clear hy hall hcs s3 Hj
        go_wp2
        go_loopw [32] (fun iv wr => ∃ k : Nat, iv = .int .i64 k ∧ k ≤ K.length ∧ Below wo.heap.size wo wr ∧ Below w3.heap.size w3 wr) (fun iv _ => (K.length - intOf iv).toNat)
        case atStart => exact ⟨0, rfl, by omega, hb03, Below.refl _ _⟩
        case round =>
          obtain ⟨k, rfl, hk, hb, hb'⟩ := hrel
          by_cases hlt : k < K.length
          · have hx : K[k]? = some K[k] := List.getElem?_eq_getElem hlt
            generalize K[k] = z at hx
            obtain ⟨⟨z0, z1, z2⟩, zw⟩ := HA.out k z hx
            have hC := HC.out.below hb' hB
            obtain ⟨c0, c1⟩ := cells2 hC hx
            obtain ⟨d0, d1⟩ := cells2 hC HY.out
            have hk0 : (0 : Int) ≤ (k : Int) := by omega
            have hk1 : (k : Int) < (K.length : Int) := by omega
            have zw2 : decide (y.2 - y.1 < z.2 - z.1) = false := by rw [decide_eq_false_iff_not]; omega
            clear hx hC
            have zr := hb.size
            have zr' := hb'.size
            go_wp2
            go_quiet (fail)
            go_wp2
            go_roundw
            case rel => exact ⟨k + 1, by go_num, by omega, below_drewN hb _, below_drewN hb' _⟩
            case measure => simp only [intOf]; omega
          · obtain rfl : k = K.length := by omega
            go_wp2
            go_ret
            exact ⟨rfl, hb⟩
end Go.Proofs.Ythhjbdhglaombaa
