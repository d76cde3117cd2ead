/-
  The law FnLadders, walked.
-/
import Derived.Test.YthhjbdhglaombaaDrawS
import Derived.Test.YthhjbdhglaombaaFnlM
import Derived.Test.YthhjbdhglaombaaOff2
import Derived.Test.YthhjbdhglaombaaJoin2
import Derived.Test.YthhjbdhglaombaaLad3
import Derived.Deep.DeepCutAuto
namespace Go.Proofs.Ythhjbdhglaombaa
open Go.RowKit

set_option maxHeartbeats 16000000 in
set_option maxRecDepth 100000 in
theorem walk_FnLadders (A : Option Addr) (c : Nat) (L : List Int) (hI : ∀ x ∈ L, 0 ≤ x ∧ x ≤ 255) (wo : World) (hs : SlR fb 1 wo wo.heap.size A L) :
    Calls Try.prog 13 #[.slice A L.length c] wo fun e w' => e = .returned (.bool true) ∧ Below wo.heap.size wo w' := by
  by_cases hl : (65536 : Int) < L.length
  · go_enter Try.func13, Try.ntmps13
    go_wp2_with (go_at_call 45; refine (vBig_any _ _ _ _).mono ?_; rintro e w' ⟨rfl, rfl⟩)
    go_ret
    exact ⟨rfl, Below.refl _ _⟩
  have hl : (L.length : Int) ≤ 65536 := by omega
  have hz0 : (0 : Int) ≤ L.length := by omega
  go_enter Try.func13, Try.ntmps13
  go_wp2_with (go_at_call 45; refine (vBig_any _ _ _ _).mono ?_; rintro e w' ⟨rfl, rfl⟩)
  refine (DrawJoinLadders_any A c L _ hI hl hs).mono ?_; rintro e w1 ⟨v, rfl, ⟨A1, c1, M, A2, c2, N, rfl, ⟨hM, s1⟩, hN, t1⟩, hb1⟩
  have hMl := hM.1
  have hNl := hN.1
  clear hM hN
  have hR8 := Lib.hid (jnR_len M N)
  have HJ := Lib.hid (fun h : jnU M N = true => (⟨fun x s => joins_run h x s, fun x s hr k hk => joins_has h hr hk⟩ : (∀ x s, runB M x s = briB x s ∧ runB N x s = briB x s ∧ runB (jnR M N) x s = briB x s) ∧ ∀ x s, briB x s = true → ∀ k, k < (jnR M N).length → hasB (runL (jnR M N) x s) k = (hasB (runL M x s) k && hasB (runL N x s) k)))
  go_wp2_with fail
  refine (JoinLadders_any _ _ M _ _ N _ s1 (by omega) t1 (by omega)).mono ?_; rintro e w2 ⟨A3, c3, rfl, o3, hb2⟩
  have hb02 := hb1.trans (hb2.mono (by have := hb1.size; omega))
  have s2 := s1.next hb2
  have t2 := t1.next hb2
  clear s1 t1 hb2 hb1
  go_wp2_with fail
  refine (SJoinLadders_any _ _ M _ _ N _ s2 (by omega) t2 (by omega)).mono ?_; rintro e w3 ⟨A4, c4, rfl, o4, hb3⟩
  have hb03 := hb02.trans (hb3.mono (by have := hb02.size; omega))
  have s3 := s2.next hb3
  have t3 := t2.next hb3
  have r3 := (o3.next hb3).sl
  have q3 := o4.sl
  generalize jnR M N = R at *
  generalize jnU M N = u at *
  have hRl : R.length ≤ 8 := hR8.out
  clear s2 t2 hb3 hb02 o3 o4
  have E1 := neB u
  have E2 := neB (ladB M)
  go_wp2_with fail
  refine (vRungs_same _ _ _ _ R _ (by exact r3) (by exact q3) (by omega)).mono ?_; rintro e w4 ⟨rfl, hb4⟩
  have hb04 := hb03.trans (hb4.mono (by have := hb03.size; omega))
  have s4 := s3.next hb4
  have t4 := t3.next hb4
  have r4 := r3.next hb4
  clear s3 t3 r3 q3 hb4 hb03
  go_wp2_with fail
  refine (IsLadder_any _ _ M _ (by exact s4) (by omega)).mono ?_; rintro e w5 ⟨rfl, hb5⟩
  have hb05 := hb04.trans (hb5.mono (by have := hb04.size; omega))
  have s5 := s4.next hb5
  have t5 := t4.next hb5
  have r5 := r4.next hb5
  clear s4 t4 r4 hb5 hb04
  go_wp2_with fail
  refine (SIsLadder_any _ _ M _ (by exact s5) (by omega)).mono ?_; rintro e w6 ⟨rfl, hb6⟩
  have hb06 := hb05.trans (hb6.mono (by have := hb05.size; omega))
  have s6 := s5.next hb6
  have t6 := t5.next hb6
  have r6 := r5.next hb6
  clear s5 t5 r5 hb6 hb05
  go_wp2_with fail
  clear E2
  refine (DrawRungsFor_any A c L _ hI hl (hs.next hb06)).mono ?_; rintro e w7 ⟨v, rfl, ⟨A7, c7, K, a, s, rfl, hK, k7⟩, hb7⟩
  have hKl := hK.1
  have hb07 := hb06.trans (hb7.mono (by have := hb06.size; omega))
  have s7 := s6.next hb7
  have t7 := t6.next hb7
  have r7 := r6.next hb7
  clear s6 t6 r6 hb7 hb06 hK
  have s8 := s7.alloc (.cells #[.int .i64 a, .int .i64 s] 38)
  have t8 := t7.alloc (.cells #[.int .i64 a, .int .i64 s] 38)
  have r8 := r7.alloc (.cells #[.int .i64 a, .int .i64 s] 38)
  have k8 := k7.alloc (.cells #[.int .i64 a, .int .i64 s] 38)
  have b8 := Blk.new w7 38 #[.int .i64 a, .int .i64 s]
  have hb08 : Below wo.heap.size wo (w7.alloc (.cells #[.int .i64 a, .int .i64 s] 38)) := hb07.alloc hb07.size _
  go_upto_region 9 with fail
  clear hb07 s7 t7 r7 k7
  generalize w7.heap.size = p at *
  generalize w7.alloc (.cells #[.int .i64 a, .int .i64 s] 38) = W0 at *
  have d8 := b8.cell
  go_wp2_with fail
  refine (RungsFor_any _ _ K a s _ (by exact k8) (by omega)).mono ?_; rintro e w9 ⟨A9, c9, rfl, o9, hb9⟩
  have hb09 := hb08.trans (hb9.mono (by have := hb08.size; omega))
  have s9 := s8.next hb9
  have t9 := t8.next hb9
  have r9 := r8.next hb9
  have k9 := k8.next hb9
  have b9 := b8.below' hb9
  have d9 := b9.cell
  clear s8 t8 r8 k8 hb9 hb08 b8 d8
  go_wp2_with fail
  refine (SRungsFor_any _ _ K a s _ (by exact k9) (by omega)).mono ?_; rintro e w10 ⟨A10, c10, rfl, o10, hb10⟩
  have hb010 := hb09.trans (hb10.mono (by have := hb09.size; omega))
  have s10 := s9.next hb10
  have t10 := t9.next hb10
  have r10 := r9.next hb10
  have b10 := b9.below' hb10
  have e9 := (o9.next hb10).sl
  have e10 := o10.sl
  have E3 := neB (runB K a s)
  have HQ := Lib.hid (runL_len K a s)
  clear s9 t9 r9 k9 hb10 hb09 b9 d9 o9 o10
  go_wp2_with fail
  refine (vInts_same _ _ _ _ (runL K a s) _ (by exact e9) (by exact e10) (by have := HQ.out; omega)).mono ?_; rintro e w11 ⟨rfl, hb11⟩
  have hb011 := hb010.trans (hb11.mono (by have := hb010.size; omega))
  have s11 := s10.next hb11
  have t11 := t10.next hb11
  have r11 := r10.next hb11
  have b11 := b10.below' hb11
  clear s10 t10 r10 b10 e9 e10 hb11 hb010
  go_upto_if 93 with fail
  clear E1 E3 HQ
  go_cut [] (fun wx => Below wo.heap.size wo wx)
  case first => as_aux_lemma =>
    cases u
    · go_wp2_with fail
      go_meet
      exact hb011
    · obtain ⟨j1, j2⟩ := HJ.out rfl
      obtain ⟨g1, g2, g3⟩ := j1 a s
      have G1 := Lib.hid g1; have G2 := Lib.hid g2; have G3 := Lib.hid g3
      have J2 := Lib.hid (j2 a s)
      clear g1 g2 g3 j1 j2 HJ
      have d11 := b11.cell
      go_wp2_with fail
      refine (RungsFor_any _ _ M a s _ (by exact s11) (by omega)).mono ?_; rintro e w12 ⟨A12, c12, rfl, o12, hb12⟩
      rw [G1.out]
      have hb012 := hb011.trans (hb12.mono (by have := hb011.size; omega))
      have t12 := t11.next hb12
      have r12 := r11.next hb12
      have b12 := b11.below' hb12
      have d12 := b12.cell
      clear s11 t11 r11 b11 d11 hb12 hb011
      go_wp2_with fail
      refine (RungsFor_any _ _ N a s _ (by exact t12) (by omega)).mono ?_; rintro e w13 ⟨A13, c13, rfl, o13, hb13⟩
      rw [G2.out]
      have hb013 := hb012.trans (hb13.mono (by have := hb012.size; omega))
      have r13 := r12.next hb13
      have b13 := b12.below' hb13
      have d13 := b13.cell
      have p13 := (o12.next hb13).sl
      clear t12 r12 b12 d12 hb13 hb012 o12
      go_wp2_with fail
      refine (RungsFor_any _ _ R a s _ (by exact r13) (by omega)).mono ?_; rintro e w14 ⟨A14, c14, rfl, o14, hb14⟩
      rw [G3.out]
      have hb014 := hb013.trans (hb14.mono (by have := hb013.size; omega))
      have p14 := p13.next hb14
      have q14 := (o13.next hb14).sl
      have x14 := o14.sl
      have E4 := neB (briB a s)
      have l1 := Lib.hid (runL_len M a s)
      have l2 := Lib.hid (runL_len N a s)
      have l3 := Lib.hid (runL_len R a s)
      clear r13 b13 d13 p13 o13 o14 hb14 hb013 G1 G2 G3
      have hR0 : (0 : Int) ≤ R.length := by omega
      cases hbr : briB a s
      · rw [hbr] at E4
        go_wp2
        go_loop [21] (fun iv => iv = .int .i64 0) (fun _ => 0)
        case atStart => rfl
        case round =>
          obtain rfl := hrel
          by_cases hk : (0 : Int) < R.length
          · go_wp2
            go_meet
            exact hb014
          · go_wp2
            go_meet
            exact hb014
      · rw [hbr] at E4
        have J3 := Lib.hid (J2.out hbr)
        clear J2 hbr
        go_wp2
        go_loop [21] (fun iv => ∃ k : Nat, iv = .int .i64 k ∧ k ≤ R.length) (fun iv => (R.length - intOf iv).toNat)
        case atStart => exact ⟨0, rfl, by omega⟩
        case round =>
          obtain ⟨k, rfl, hk⟩ := hrel
          by_cases hlt : k < R.length
          · have J4 := Lib.hid (J3.out k hlt)
            have hk0 : (0 : Int) ≤ (k : Int) := by omega
            have hk1 : (k : Int) < (R.length : Int) := by omega
            go_wp2_with fail
            refine (vHas_any _ _ (runL R a s) k _ (by exact x14) (by have := l3.out; omega)).mono ?_; rintro e w' ⟨rfl, rfl⟩
            rw [J4.out]
            have E5 := neB (hasB (runL N a s) k)
            go_wp2_with fail
            refine (vHas_any _ _ (runL M a s) k _ (by exact p14) (by have := l1.out; omega)).mono ?_; rintro e w' ⟨rfl, rfl⟩
            cases hasB (runL M a s) k
            · rw [Bool.false_and]
              go_wp2
              go_round
              case rel => exact ⟨k + 1, by go_num, by omega⟩
              case measure => simp only [intOf]; omega
            · rw [Bool.true_and]
              go_wp2_with fail
              refine (vHas_any _ _ (runL N a s) k _ (by exact q14) (by have := l2.out; omega)).mono ?_; rintro e w' ⟨rfl, rfl⟩
              go_wp2
              go_round
              case rel => exact ⟨k + 1, by go_num, by omega⟩
              case measure => simp only [intOf]; omega
          · obtain rfl : k = R.length := by omega
            go_wp2
            go_meet
            exact hb014
  case rest => as_aux_lemma =>
    have hb4 := hcut; clear hcut
    clear HJ hR8 hb011 s11 t11 r11 b11
    go_wp2_with fail
    refine (DrawDoesKeep_any A c L _ hI hl (hs.next hb4)).mono ?_; rintro e w1 ⟨v, rfl, ⟨B1, d1, P, B2, d2, Q, rfl, ⟨hP, s1⟩, hQ, t1⟩, hb1⟩
    have hPl := hP.1
    have hQl : Q.length ≤ 20 := hQ
    have hb01 := hb4.trans (hb1.mono (by have := hb4.size; omega))
    clear hP hQ hb1 hb4
    go_wp2_with fail
    refine (DoesKeep_any _ _ P _ _ Q _ s1 (by omega) t1 (by omega)).mono ?_; rintro e w2 ⟨rfl, hb2⟩
    have hb02 := hb01.trans (hb2.mono (by have := hb01.size; omega))
    have s2 := s1.next hb2
    have t2 := t1.next hb2
    clear s1 t1 hb2 hb01
    go_wp2_with fail
    refine (SDoesKeep_any _ _ P _ _ Q _ s2 (by omega) t2 (by omega)).mono ?_; rintro e w3 ⟨rfl, hb3⟩
    have hb03 := hb02.trans (hb3.mono (by have := hb02.size; omega))
    have s3 := s2.next hb3
    have t3 := t2.next hb3
    have E1 := neB (keepB P Q)
    have E2 := neB (matB P Q)
    clear s2 t2 hb3 hb02
    go_wp2_with fail
    refine (OffRungs_any _ _ P _ _ Q _ s3 (by omega) t3 (by omega)).mono ?_; rintro e w4 ⟨A4, c4, rfl, o4, hb4⟩
    have hb04 := hb03.trans (hb4.mono (by have := hb03.size; omega))
    have s4 := s3.next hb4
    have t4 := t3.next hb4
    clear s3 t3 hb4 hb03
    go_wp2_with fail
    refine (SOffRungs_any _ _ P _ _ Q _ s4 (by omega) t4 (by omega)).mono ?_; rintro e w5 ⟨A5, c5, rfl, o5, hb5⟩
    have hb05 := hb04.trans (hb5.mono (by have := hb04.size; omega))
    have e4 := (o4.next hb5).sl
    have e5 := o5.sl
    have HO := Lib.hid (offR_len P Q)
    have HK := Lib.hid (show keepB P Q = (matB P Q && decide ((offR P Q).length = 0)) from rfl)
    clear s4 t4 hb5 hb04 o4 o5
    generalize offR P Q = O at *
    generalize keepB P Q = kb at *
    generalize matB P Q = mb at *
    clear E1 E2
    cases mb
    · go_wp2_with fail
      refine (vInts_same _ _ _ _ O _ (by exact e4) (by exact e5) (by have := HO.out; omega)).mono ?_; rintro e w6 ⟨rfl, hb6⟩
      have hb06 := hb05.trans (hb6.mono (by have := hb05.size; omega))
      go_wp2
      go_ret
      exact ⟨rfl, hb06⟩
    · go_wp2_with fail
      refine (vInts_same _ _ _ _ O _ (by exact e4) (by exact e5) (by have := HO.out; omega)).mono ?_; rintro e w6 ⟨rfl, hb6⟩
      have hb06 := hb05.trans (hb6.mono (by have := hb05.size; omega))
      have hk : kb = decide (O.length = 0) := by rw [HK.out, Bool.true_and]
      clear HK
      subst hk
      have hO0 : (0 : Int) ≤ O.length := by omega
      by_cases h0 : O.length = 0
      · have z0 : (O.length : Int) = 0 := by omega
        simp only [h0, decide_true] at *
        go_wp2
        go_ret
        exact ⟨rfl, hb06⟩
      · have z0 : ((O.length : Int) == 0) = false := by rw [beq_eq_false_iff_ne]; omega
        have z1 : decide (O.length = 0) = false := decide_eq_false h0
        simp only [z1] at *
        go_wp2
        go_ret
        exact ⟨rfl, hb06⟩
end Go.Proofs.Ythhjbdhglaombaa
