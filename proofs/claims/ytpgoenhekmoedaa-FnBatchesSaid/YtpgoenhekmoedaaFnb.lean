/-
  The law FnBatches, walked.
-/
import Derived.Test.YtpgoenhekmoedaaDrawB4
import Derived.Test.YtpgoenhekmoedaaFnbM
import Derived.Test.YtpgoenhekmoedaaVs
import Derived.Test.YtpgoenhekmoedaaCc4
import Derived.Test.YtpgoenhekmoedaaLaws1
import Derived.Test.YtpgoenhekmoedaaLaws2
import Derived.Deep.DeepCutAuto
namespace Go.Proofs.Ytpgoenhekmoedaa
open Go.RowKit

theorem cell3b {w : World} {b off k : Nat} {L : List T3} {x : T3} (h : Cells f3 3 w b off L) (hx : L[k]? = some x) : w.cell? ⟨b, off + k * 3 + 1, none⟩ = some (.int .i64 x.2.1) := h k x hx 1 _ rfl

set_option maxHeartbeats 16000000 in
set_option maxRecDepth 100000 in
theorem walk_FnBatches (A : Option Addr) (c : Nat) (L : List Int) (hI : ∀ x ∈ L, 0 ≤ x ∧ x ≤ 255) (wo : World) (hs : SlR fb 1 wo wo.heap.size A L) :
    Calls Try.prog 13 #[.slice A L.length c] wo fun e w' => e = .returned (.bool true) ∧ Below wo.heap.size wo w' := by
  by_cases hl : (65536 : Int) < L.length
  · go_enter Try.func13, Try.ntmps13
    go_wp2_with (go_at_call 39; refine (vBig_any _ _ _ _).mono ?_; rintro e w' ⟨rfl, rfl⟩)
    go_ret
    exact ⟨rfl, Below.refl _ _⟩
  have hl : (L.length : Int) ≤ 65536 := by omega
  have hz0 : (0 : Int) ≤ L.length := by omega
  go_enter Try.func13, Try.ntmps13
  go_wp2_with (go_at_call 39; refine (vBig_any _ _ _ _).mono ?_; rintro e w' ⟨rfl, rfl⟩)
  refine (DrawCounterCurrent_any A c L _ hI hl hs).mono ?_; rintro e w1 ⟨A1, c1, M, wa, rfl, hM, s1, hwa, hb1⟩
  have hMl := hM.1
  clear hM hwa
  go_wp2_with fail
  refine (CounterCurrent_any _ _ M wa _ s1 (by omega)).mono ?_; rintro e w2 ⟨A2, c2, rfl, o2, hb2⟩
  have hb02 := hb1.trans (hb2.mono (by have := hb1.size; omega))
  have s2 := s1.next hb2
  clear s1 hb2 hb1
  go_wp2_with fail
  refine (SCounterCurrent_any _ _ M wa _ s2 (by omega)).mono ?_; rintro e w3 ⟨A3, c3, rfl, o3, hb3⟩
  have hb03 := hb02.trans (hb3.mono (by have := hb02.size; omega))
  have s3 := s2.next hb3
  have r3 := (o2.next hb3).sl
  have q3 := o3.sl
  have HRl := Lib.hid (ccR_len M wa)
  have HP := Lib.hid (fun h : ccB M wa = true => cc_plain h)
  clear s2 hb3 hb02 o2 o3
  generalize ccR M wa = R at *
  generalize ccD M wa = D at *
  generalize ccB M wa = u at *
  have hRl : R.length ≤ 10 := HRl.out
  have E1 := neB u
  have E2 := neI D
  go_wp2_with fail
  refine (vBatches_same _ _ _ _ R _ (by exact r3) (by exact q3) (by omega)).mono ?_; rintro e w4 ⟨rfl, hb4⟩
  have hb04 := hb03.trans (hb4.mono (by have := hb03.size; omega))
  have s4 := s3.next hb4
  have r4 := r3.next hb4
  clear s3 r3 q3 hb4 hb03
  go_upto_if 70 with fail
  clear E1 E2
  go_cut [] (fun wx => Below wo.heap.size wo wx)
  case first => as_aux_lemma =>
    cases u
    · go_wp2_with fail
      go_meet
      exact hb04
    · obtain ⟨p1, p2, p3, ⟨p4, p5, p6⟩, p7, p8⟩ := HP.out rfl
      clear HP
      have T1 := Lib.hid (fun k => dsum_takeBd p7 p2 k)
      have T2 := Lib.hid (fun k => dsum_takeBd p8 (by omega) k)
      have P1 := Lib.hid p1
      have P3 := Lib.hid p3
      have hR1 : R.length ≤ M.length := by omega
      have hR2 : M.length ≤ R.length := by omega
      have hM0 : (0 : Int) ≤ M.length := by omega
      have hR0 : (0 : Int) ≤ R.length := by omega
      clear p1 p3 p7 p8
      go_wp2
      go_loopw [11, 12, 13] (fun v11 v12 v13 wr => ∃ k : Nat, v13 = .int .i64 k ∧ k ≤ M.length ∧ v11 = .int .i64 (dsum (M.take k)) ∧ v12 = .int .i64 (D + dsum (R.take k)) ∧ Below wo.heap.size wo wr ∧ Below w4.heap.size w4 wr) (fun _ _ v13 _ => (M.length - intOf v13).toNat)
      case atStart => exact ⟨0, rfl, by omega, by simp [dsum], by simp [dsum], hb04, Below.refl _ _⟩
      case round =>
        obtain ⟨k, rfl, hk, rfl, rfl, hb, hb'⟩ := hrel
        obtain ⟨t1, t2⟩ := T1.out k
        obtain ⟨t3, t4⟩ := T2.out k
        by_cases hlt : k < M.length
        · have hx : M[k]? = some M[k] := List.getElem?_eq_getElem hlt
          have hy : R[k]? = some (R[k]'(by omega)) := List.getElem?_eq_getElem (by omega)
          have n1 := dsum_take hx
          have n2 := dsum_take hy
          obtain ⟨b, off, rfl, hB, hcs⟩ := s4 (SlR.ne hx)
          obtain ⟨b', off', rfl, hB', hcs'⟩ := r4 (SlR.ne hy)
          have d0 := cell3b (hcs.below hb' hB) hx
          have d1 := cell3b (hcs'.below hb' hB') hy
          obtain ⟨t5, t6⟩ := T1.out (k + 1)
          obtain ⟨t7, t8⟩ := T2.out (k + 1)
          rw [n1] at t5 t6
          rw [n2] at t7 t8
          have N1 := Lib.hid n1; have N2 := Lib.hid n2
          have hk0 : (0 : Int) ≤ (k : Int) := by omega
          have hk1 : (k : Int) < (M.length : Int) := by omega
          have hk2 : (k : Int) < (R.length : Int) := by omega
          clear hcs hcs' s4 r4 n1 n2 hx hy
          generalize M[k].2.1 = x at *
          generalize (R[k]'(by omega)).2.1 = y at *
          go_wp2
          go_roundw
          case rel => exact ⟨k + 1, by go_num, by omega, by rw [N1.out], by rw [N2.out, Int.add_assoc], hb, hb'⟩
          case measure => simp only [intOf]; omega
        · obtain rfl : k = M.length := by omega
          have e1 : dsum (M.take M.length) = dsum M := by rw [List.take_length]
          have e2 : dsum (R.take M.length) = dsum R := by rw [List.take_of_length_le (by omega)]
          have e3 : dsum (M.take M.length) = D + dsum (R.take M.length) := by rw [e1, e2, P3.out]; omega
          clear e1 e2
          generalize dsum (M.take M.length) = S at *
          subst e3
          have E3 := neI (D + dsum (R.take M.length))
          generalize dsum (R.take M.length) = S at *
          go_wp2
          go_meet
          exact hb
  case rest => as_aux_lemma =>
    have hb4 := hcut; clear hcut
    clear HP hRl HRl hb04 s4 r4
    go_wp2_with fail
    refine (DrawJoinBatches_any A c L _ hI hl (hs.next hb4)).mono ?_; rintro e w1 ⟨v, rfl, ⟨s, d, t, a, b, cc, rfl, -, -⟩, hb1⟩
    have hb01 := hb4.trans (hb1.mono (by have := hb4.size; omega))
    go_upto_region 18 with fail
    obtain ⟨x, y, z, u2, hj⟩ := joinR_form s d t a b cc
    have HJ := Lib.hid hj; clear hj
    have k1 := (Blk.new w1 25 #[.int .i64 s, .int .i64 d, .int .i64 t]).alloc (.cells #[.int .i64 a, .int .i64 b, .int .i64 cc] 25)
    have k2 := Blk.new1 w1 25 #[.int .i64 a, .int .i64 b, .int .i64 cc] (.cells #[.int .i64 s, .int .i64 d, .int .i64 t] 25)
    have hb02 : Below wo.heap.size wo ((w1.alloc (.cells #[.int .i64 s, .int .i64 d, .int .i64 t] 25)).alloc (.cells #[.int .i64 a, .int .i64 b, .int .i64 cc] 25)) := (hb01.alloc hb01.size _).alloc (hb01.alloc hb01.size _).size _
    clear hb1 hb4 hb01
    generalize w1.heap.size = p1 at *
    generalize (w1.alloc (.cells #[.int .i64 s, .int .i64 d, .int .i64 t] 25)).alloc (.cells #[.int .i64 a, .int .i64 b, .int .i64 cc] 25) = W2 at *
    clear w1
    have d1 := k1.cell
    have d2 := k2.cell
    go_wp2_with fail
    refine (JoinBatches_any _ _ _ _ _ _ _).mono ?_; rintro e w3 ⟨he, hb3⟩; rw [HJ.out] at he; subst he
    have hb03 := hb02.trans (hb3.mono (by have := hb02.size; omega))
    have k3 := (k1.below' hb3).alloc (.cells #[.int .i64 x, .int .i64 y, .int .i64 z] 25)
    have k4 := (k2.below' hb3).alloc (.cells #[.int .i64 x, .int .i64 y, .int .i64 z] 25)
    have k5 := Blk.new w3 25 #[.int .i64 x, .int .i64 y, .int .i64 z]
    have hb04 := hb03.alloc hb03.size (.cells #[.int .i64 x, .int .i64 y, .int .i64 z] 25)
    clear d1 d2 k1 k2 hb3 hb02 hb03
    go_upto_region 19 with fail
    generalize w3.heap.size = p3 at *
    generalize w3.alloc (.cells #[.int .i64 x, .int .i64 y, .int .i64 z] 25) = W3 at *
    clear w3
    have d3 := k3.cell
    have d4 := k4.cell
    go_wp2_with fail
    refine (SJoinBatches_any _ _ _ _ _ _ _).mono ?_; rintro e w5 ⟨he, hb5⟩; rw [HJ.out] at he; subst he
    have hb05 := hb04.trans (hb5.mono (by have := hb04.size; omega))
    have k6 := (k5.below' hb5).alloc (.cells #[.int .i64 x, .int .i64 y, .int .i64 z] 25)
    have k7 := Blk.new w5 25 #[.int .i64 x, .int .i64 y, .int .i64 z]
    have hb06 := hb05.alloc hb05.size (.cells #[.int .i64 x, .int .i64 y, .int .i64 z] 25)
    clear d3 d4 k3 k4 k5 hb5 hb04 hb05 HJ
    go_upto_region 20 with fail
    generalize w5.heap.size = p5 at *
    generalize w5.alloc (.cells #[.int .i64 x, .int .i64 y, .int .i64 z] 25) = W5 at *
    clear w5
    have d6 := k6.cell
    have d7 := k7.cell
    have E1 := neB u2
    go_upto_region 22 with fail
    clear E1 d6 d7 k6 k7
    have hb4 := hb06
    clear hb06
    go_wp2_with fail
    refine (DrawDryBatch_any A c L _ hI hl (hs.next hb4)).mono ?_; rintro e w1 ⟨v, rfl, ⟨s, d, t, pe, rfl, -, -⟩, hb1⟩
    have hb01 := hb4.trans (hb1.mono (by have := hb4.size; omega))
    obtain ⟨x, y, z, n, u2, hj⟩ := dryV_form s d t pe
    have HJ := Lib.hid hj; clear hj
    have k1 := Blk.new w1 25 #[.int .i64 s, .int .i64 d, .int .i64 t]
    have hb02 := hb01.alloc hb01.size (.cells #[.int .i64 s, .int .i64 d, .int .i64 t] 25)
    go_upto_region 23 with fail
    clear hb1 hb4 hb01
    generalize w1.heap.size = p1 at *
    generalize w1.alloc (.cells #[.int .i64 s, .int .i64 d, .int .i64 t] 25) = W2 at *
    clear w1
    have d1 := k1.cell
    go_wp2_with fail
    refine (DryBatch_any _ _ _ _ _).mono ?_; rintro e w3 ⟨he, hb3⟩; rw [HJ.out] at he; subst he
    have hb03 := hb02.trans (hb3.mono (by have := hb02.size; omega))
    have k3 := (k1.below' hb3).alloc (.cells #[.int .i64 x, .int .i64 y, .int .i64 z] 25)
    have k5 := Blk.new w3 25 #[.int .i64 x, .int .i64 y, .int .i64 z]
    have hb04 := hb03.alloc hb03.size (.cells #[.int .i64 x, .int .i64 y, .int .i64 z] 25)
    clear d1 k1 hb3 hb02 hb03
    go_upto_region 24 with fail
    generalize w3.heap.size = p3 at *
    generalize w3.alloc (.cells #[.int .i64 x, .int .i64 y, .int .i64 z] 25) = W3 at *
    clear w3
    have d3 := k3.cell
    go_wp2_with fail
    refine (SDryBatch_any _ _ _ _ _).mono ?_; rintro e w5 ⟨he, hb5⟩; rw [HJ.out] at he; subst he
    have hb05 := hb04.trans (hb5.mono (by have := hb04.size; omega))
    have k6 := (k5.below' hb5).alloc (.cells #[.int .i64 x, .int .i64 y, .int .i64 z] 25)
    have k8 := (k3.below' hb5).alloc (.cells #[.int .i64 x, .int .i64 y, .int .i64 z] 25)
    have k7 := Blk.new w5 25 #[.int .i64 x, .int .i64 y, .int .i64 z]
    have hb06 := hb05.alloc hb05.size (.cells #[.int .i64 x, .int .i64 y, .int .i64 z] 25)
    clear d3 k3 k5 hb5 hb04 hb05
    go_upto_region 25 with fail
    generalize w5.heap.size = p5 at *
    generalize w5.alloc (.cells #[.int .i64 x, .int .i64 y, .int .i64 z] 25) = W5 at *
    clear w5
    go_cut [174] (fun v wx => v = .bool false ∧ Below wo.heap.size wo wx)
    case first => as_aux_lemma =>
      have d6 := k6.cell
      have d7 := k7.cell
      have d8 := k8.cell
      have E2 := neI n
      cases u2
      · go_wp2_with fail
        go_meet
        exact ⟨rfl, hb06⟩
      · obtain ⟨q1, ⟨q2, q3⟩, q4, q5⟩ := dry_plain HJ.out
        subst q1
        have E3 := neI (z + n)
        clear HJ
        go_wp2_with fail
        go_meet
        exact ⟨rfl, hb06⟩
    case rest => as_aux_lemma =>
      obtain ⟨rfl, hb4⟩ := hcut
      clear HJ k6 k7 k8 hb06
      go_wp2_with fail
      refine (DrawPurityOf_any A c L _ hI hl (hs.next hb4)).mono ?_; rintro e w1 ⟨v, rfl, ⟨s, d, t, rfl, -, -, -⟩, hb1⟩
      have hb01 := hb4.trans (hb1.mono (by have := hb4.size; omega))
      obtain ⟨x, y, u2, hj⟩ := purV_form s d t
      have HJ := Lib.hid hj; clear hj
      have k1 := Blk.new w1 25 #[.int .i64 s, .int .i64 d, .int .i64 t]
      have hb02 := hb01.alloc hb01.size (.cells #[.int .i64 s, .int .i64 d, .int .i64 t] 25)
      go_upto_region 28 with fail
      clear hb1 hb4 hb01
      generalize w1.heap.size = p1 at *
      generalize w1.alloc (.cells #[.int .i64 s, .int .i64 d, .int .i64 t] 25) = W2 at *
      clear w1
      have d1 := k1.cell
      go_wp2_with fail
      refine (PurityOf_any _ _ _ _).mono ?_; rintro e w3 ⟨he, hb3⟩; rw [HJ.out] at he; subst he
      have hb03 := hb02.trans (hb3.mono (by have := hb02.size; omega))
      have k3 := k1.below' hb3
      clear d1 k1 hb3 hb02
      have d3 := k3.cell
      go_wp2_with fail
      refine (SPurityOf_any _ _ _ _).mono ?_; rintro e w5 ⟨he, hb5⟩; rw [HJ.out] at he; subst he
      have hb05 := hb03.trans (hb5.mono (by have := hb03.size; omega))
      clear d3 k3 hb5 hb03
      cases u2
      · go_wp2
        go_ret
        exact ⟨rfl, hb05⟩
      · have q1 := pur_plain HJ.out
        have q2 : decide (x ≤ y) = true := decide_eq_true q1
        go_wp2
        go_ret
        exact ⟨rfl, hb05⟩
end Go.Proofs.Ytpgoenhekmoedaa
