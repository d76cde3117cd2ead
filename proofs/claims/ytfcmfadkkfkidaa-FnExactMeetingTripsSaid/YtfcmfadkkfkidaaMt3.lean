/-
  The law on MeetingTrips, walked.
-/
import Derived.Test.YtfcmfadkkfkidaaMt1
import Derived.Test.YtfcmfadkkfkidaaMt2
import Derived.Test.YtfcmfadkkfkidaaSecH
import Derived.Test.YtfcmfadkkfkidaaHTrip
import Derived.Test.YtfcmfadkkfkidaaHTripC
namespace Go.Proofs.Ytfcmfadkkfkidaa
open Go.RowKit

/-- Rows of slices stand while another slice, older than they, is turned. -/
theorem OwnSS.keep {β : Type} {f' : β → List Value} {m' : Nat} {L' : List β} {A A' : Option Addr} {wx w w' : World} {B : Nat} {M : List Elt} (h : OwnSS w B A M) (ho : Only A' w w') (h0 : L' = [] → w = w') (hs : SlR f' m' wx B A' L') : OwnSS w' B A M := by
  by_cases hL : L' = []
  · rw [← h0 hL]; exact h
  · refine ⟨h.own.keep ho h0 hs, fun x hx => ?_, h.dist⟩
    obtain ⟨b, off, hA', hb, _⟩ := hs hL
    refine (h.rows x hx).same fun g hA => ho.block g fun a ha e => ?_
    rw [hA'] at ha
    cases ha
    obtain ⟨g2, hA2, hg, _⟩ := h.rows x hx
    rw [hA] at hA2
    cases hA2
    have : g = b := e
    omega

set_option maxHeartbeats 8000000 in
theorem walk_MeetingTrips (A : Option Addr) (c : Nat) (L : List T5) (hn : (L.length : Int) ≤ 9223372036854775807) (_hI : ∀ x ∈ L, InI5 x) (w : World) (hr : SlR f5 5 w w.heap.size A L) :
    Calls Try.prog 10 #[.slice A L.length c] w fun e w' => e = .returned (.bool true) ∧ Below w.heap.size w w' := by
  by_cases hs : (1048576 : Int) - L.length < 0
  · have Hv := Lib.hid (show szV 1048576 L.length = -1 from if_pos hs)
    clear _hI
    go_enter Try.func10, Try.ntmps10
    go_wp2_with fail
    refine (szTripS_any _ _ _ _ _ hn (by omega) (by omega)).mono ?_; rintro e w' ⟨rfl, rfl⟩
    rw [Hv.out]
    go_wp2
    go_ret
    exact ⟨rfl, by (repeat (first | exact Below.refl _ _ | refine Below.drew ?_ | refine below_drewN ?_ _ | (refine Below.alloc ?_ (by (try simp) <;> omega) _) | (refine Below.setCell ?_ (by (try simp) <;> omega) _) | (refine Below.trans ?_ (Below.mono (by assumption) (by (try simp) <;> omega)))))⟩
  have Hv := Lib.hid (show szV 1048576 L.length = 1048576 - L.length from if_neg hs)
  have hm : (L.length : Int) ≤ 1048576 := by omega
  have C1 := Lib.hid (fun A c w hr => SMeetingTrips_any A c L w hr hm _hI)
  have C2 := Lib.hid (fun A c w hr hc => MeetingTrips_any A c L w hr hm _hI hc)
  obtain ⟨hl9, hl3⟩ := mtL_facts L
  have HL3 := Lib.hid hl3; clear hl3
  clear _hI
  generalize mtL L = LL at *
  generalize tripsB L = u at *
  have hm4 : (0 : Int) ≤ (L.length : Int) := by omega
  have E1 := Lib.hid (eqL_refl L)
  have nb := neB u
  go_enter Try.func10, Try.ntmps10
  go_wp2_with fail
  refine (szTripS_any _ _ _ _ _ hn (by omega) (by omega)).mono ?_; rintro e w' ⟨rfl, rfl⟩
  rw [Hv.out]
  go_wp2_with fail
  refine (toTripS_any _ _ _ _ hr hm).mono ?_; rintro e w1 ⟨A1, c1, rfl, o1, hb1⟩
  have z1 := hb1.size
  have s1 := hr.below hb1
  go_wp2_with fail
  refine (C1.out _ _ _ o1.sl).mono ?_; rintro e w2 ⟨A2, c2, M, rfl, hM, oM, hb2⟩
  have z2 := hb2.size
  have s2 := s1.below (hb2.mono z1)
  have r2 := oM.sl
  have HM := Lib.hid hM; clear hM oM
  go_wp2_with fail
  refine (toTripSc_any _ _ _ _ (s2.mono (by omega)) hm).mono ?_; rintro e w3 ⟨A3, c3, rfl, o3, hb3, hcap⟩
  have z3 := hb3.size
  have s3 := s2.below (hb3.mono (by omega))
  have r3 := r2.below hb3
  have HC := Lib.hid hcap; clear hcap
  go_wp2_with fail
  refine (C2.out _ _ _ o3.sl HC.out).mono ?_; rintro e w4 ⟨A4, c4, N, rfl, hN, oN, hb4⟩
  have z4 := hb4.size
  have s4 := s3.below (hb4.mono (by omega))
  have r4 := r3.below (hb4.mono z3)
  have x4 := o3.next hb4
  have hNl : N.length ≤ 100 := by rw [← lls_len, hN]; exact hl9
  have HN := Lib.hid hN; clear hN
  have TT := Lib.hid (tot_le (M := N) (c := 2) (fun l hl => by rw [HN.out] at hl; exact HL3.out l hl))
  have T0 := Lib.hid (show ∀ k, k ≤ N.length → tot N k ≤ 1000000 from fun k hk => by have := TT.out k; omega)
  have tN := T0.out N.length (Nat.le_refl _)
  have HNM := Lib.hid (show lls N = lls M by rw [HM.out, HN.out])
  have HNL := Lib.hid (show ∀ l ∈ lls N, l.length ≤ 1000000 from fun l hl => by rw [HN.out] at hl; have := HL3.out l hl; omega)
  have nm := neI (1 + (tot N N.length : Int))
  go_wp2_with fail
  refine (eqIntSS_same _ _ _ _ _ _ _ oN.sl (r4.mono (by omega)) HNM.out (by omega) HNL.out).mono ?_; rintro e w5 ⟨rfl, hb5⟩
  have z5 := hb5.size
  have s5 := s4.below (hb5.mono (by omega))
  have r5 := r4.below (hb5.mono (by omega))
  have x5 := x4.next hb5
  have o5 := oN.next hb5
  go_wp2_with fail
  refine (toTripS_any _ _ _ _ (s5.mono (by omega)) hm).mono ?_; rintro e w6 ⟨A6, c6, rfl, o6, hb6⟩
  have z6 := hb6.size
  have s6 := s5.below (hb6.mono (by omega))
  have r6 := r5.below (hb6.mono (by omega))
  have x6 := x5.next hb6
  have o6' := o5.next hb6
  go_wp2_with fail
  refine (eqTripS_any _ _ _ _ _ _ _ x6.sl o6.sl hn).mono ?_; rintro e w7 ⟨rfl, hb7⟩
  rw [E1.out]
  have z7 := hb7.size
  have s7 := s6.below (hb7.mono (by omega))
  have r7 := r6.below (hb7.mono (by omega))
  have x7 := x6.next hb7
  have o7 := o6'.next hb7
  have y3 := o3.sl
  go_wp2_with fail
  refine (markTripS_any _ _ _ _ _ _ x7 hm (by omega) (by omega)).mono ?_; rintro e w8 ⟨rfl, x8, ox8, on8⟩
  have hb8 : Below w2.heap.size w7 w8 := x7.onlyBelow ox8 on8
  have z8 := ox8.size
  have o8 := o7.keep ox8 on8 y3
  have s8 := s7.below (hb8.mono (by omega))
  have r8 := r7.below hb8
  clear ox8 on8 x8 x7
  go_wp2_with fail
  refine (eqIntSS_same _ _ _ _ _ _ _ o8.sl (r8.mono (by omega)) HNM.out (by omega) HNL.out).mono ?_; rintro e w9 ⟨rfl, hb9⟩
  have z9 := hb9.size
  have s9 := s8.below (hb9.mono (by omega))
  have r9 := r8.below (hb9.mono (by omega))
  have o9 := o8.next hb9
  go_wp2_with fail
  refine (markIntSS_any _ _ _ N _ _ o9 (by omega) T0.out (by omega) (by omega)).mono ?_; rintro e w10 ⟨rfl, o10, hb10⟩
  have z10 := hb10.size
  have s10 := s9.below (hb10.mono (by omega))
  have r10 := r9.below (hb10.mono z3)
  go_wp2_with fail
  refine (heldIntSS_any _ _ _ N _ _ o10 (by omega) T0.out (by omega) (by omega)).mono ?_; rintro e w' ⟨rfl, rfl⟩
  go_wp2_with fail
  refine (toTripSc_any _ _ _ _ (s10.mono (by omega)) hm).mono ?_; rintro e w11 ⟨A11, c11, rfl, p11, hb11, hcap⟩
  have z11 := hb11.size
  have r11 := r10.below (hb11.mono (by omega))
  have o11 := o10.next hb11
  have HC2 := Lib.hid hcap; clear hcap
  go_wp2_with fail
  refine (C2.out _ _ _ p11.sl HC2.out).mono ?_; rintro e w12 ⟨A12, c12, K, rfl, hK, p12, hb12⟩
  have z12 := hb12.size
  have r12 := r11.below (hb12.mono (by omega))
  have o12 := o11.next hb12
  have hKl : K.length ≤ 100 := by rw [← lls_len, hK]; exact hl9
  have HK := Lib.hid hK; clear hK
  go_wp2_with fail
  refine (eqIntSS_same _ _ _ _ _ _ _ p12.sl (r12.mono (by omega)) (by rw [HK.out, HM.out]) (by omega) (fun l hl => by rw [HK.out] at hl; have := HL3.out l hl; omega)).mono ?_; rintro e w13 ⟨rfl, hb13⟩
  have z13 := hb13.size
  have o13 := o12.next hb13
  go_wp2_with fail
  refine (heldIntSS_any _ _ _ N _ _ o13 (by omega) T0.out (by omega) (by omega)).mono ?_; rintro e w' ⟨rfl, rfl⟩
  have t4 : Below w.heap.size w w4 := hb1.trans ((hb2.mono z1).trans ((hb3.mono (by omega)).trans (hb4.mono (by omega))))
  have t7 : Below w.heap.size w w7 := t4.trans ((hb5.mono (by omega)).trans ((hb6.mono (by omega)).trans (hb7.mono (by omega))))
  have t10 : Below w.heap.size w w10 := t7.trans ((hb8.mono (by omega)).trans ((hb9.mono (by omega)).trans (hb10.mono (by omega))))
  have t13 : Below w.heap.size w w13 := t10.trans ((hb11.mono (by omega)).trans ((hb12.mono (by omega)).trans (hb13.mono (by omega))))
  go_wp2
  go_ret
  exact ⟨rfl, t13⟩
end Go.Proofs.Ytfcmfadkkfkidaa
