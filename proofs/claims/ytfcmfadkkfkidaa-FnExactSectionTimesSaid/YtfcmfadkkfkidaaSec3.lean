/-
  The law on SectionTimes, walked.
-/
import Derived.Test.YtfcmfadkkfkidaaSec2
import Derived.Test.YtfcmfadkkfkidaaSecH
import Derived.Test.YtfcmfadkkfkidaaHTrip
import Derived.WalkKit
import Derived.WalkSpells
import Derived.WalkLawsBesides
import Derived.Lib.Hide
import Derived.Deep.QuietTactic
import Derived.BigQuiet
import Derived.StillTailTactics
namespace Go.Proofs.Ytfcmfadkkfkidaa
open Go.RowKit

def stL (a b c d g : Int) : List (List Int) := if tripB a b c d g then secL b c d else []
theorem stL_facts (a b c d g : Int) : (stL a b c d g).length ≤ 9 ∧ ∀ l ∈ stL a b c d g, l.length ≤ 3 := by
  unfold stL
  split
  · rename_i h
    obtain ⟨_, hb, hc, _⟩ := tripB_bounds h
    refine ⟨by unfold secL; rw [secK_len]; exact secN_le hb hc, fun l hl => ?_⟩
    obtain ⟨k, _, rfl⟩ := List.mem_map.1 hl
    exact Nat.le_refl 3
  · exact ⟨by simp, fun l hl => by simp at hl⟩

set_option maxHeartbeats 4000000 in
theorem walk_SectionTimes (a b c d g : Int) (_h : InI a ∧ InI b ∧ InI c ∧ InI d ∧ InI g) (w : World) :
    Calls Try.prog 7 #[.agg #[.int .i64 a, .int .i64 b, .int .i64 c, .int .i64 d, .int .i64 g]] w fun e w' => e = .returned (.bool true) ∧ Below w.heap.size w w' := by
  clear _h
  have C1 := Lib.hid (fun w => (show Calls Try.prog 28 #[tripV a b c d g] w (NewSS2 w (stL a b c d g) (tripB a b c d g)) from SSectionTimes_any a b c d g w))
  have C2 := Lib.hid (fun w => (show Calls Try.prog 29 #[tripV a b c d g] w (NewSS2 w (stL a b c d g) (tripB a b c d g)) from SectionTimes_any a b c d g w))
  obtain ⟨hl9, hl3⟩ := stL_facts a b c d g
  have HL3 := Lib.hid hl3; clear hl3
  generalize stL a b c d g = LL at *
  generalize tripB a b c d g = u at *
  have E0 := neB u
  have k0 := Blk.new w 23 #[.int .i64 a, .int .i64 b, .int .i64 c, .int .i64 d, .int .i64 g]
  have e0 := k0.cell
  have hb0 : Below w.heap.size w (w.alloc (.cells #[.int .i64 a, .int .i64 b, .int .i64 c, .int .i64 d, .int .i64 g] 23)) := by (repeat (first | exact Below.refl _ _ | refine Below.drew ?_ | refine below_drewN ?_ _ | (refine Below.alloc ?_ (by (try simp) <;> omega) _) | (refine Below.setCell ?_ (by (try simp) <;> omega) _) | (refine Below.trans ?_ (Below.mono (by assumption) (by (try simp) <;> omega)))))
  go_enter Try.func7, Try.ntmps7
  go_wp2_with fail
  generalize w.alloc (.cells #[.int .i64 a, .int .i64 b, .int .i64 c, .int .i64 d, .int .i64 g] 23) = W at *
  refine (toTrip_any _ _ _ _ _ _).mono ?_; rintro e w1 ⟨rfl, hb1⟩
  have hb01 := hb0.trans (hb1.mono hb0.size)
  have k1 := k0.below' hb1
  clear e0 hb1 k0 hb0
  go_wp2_with fail
  refine (C1.out _).mono ?_; rintro e w2 ⟨A2, c2, M, rfl, hM, oM, hb2⟩
  have hb02 := hb01.trans (hb2.mono hb01.size)
  have k2 := k1.below' hb2
  have e2 := k2.cell
  have sM := oM.sl
  have HM := Lib.hid hM
  clear k1 hb2 hb01 oM hM
  go_wp2_with fail
  refine (toTrip_any _ _ _ _ _ _).mono ?_; rintro e w3 ⟨rfl, hb3⟩
  have hb03 := hb02.trans (hb3.mono hb02.size)
  have k3 := k2.below' hb3
  have s3 := sM.next hb3
  have zk := k3.lt
  clear k2 e2 sM hb3 hb02
  go_wp2_with fail
  refine (C2.out _).mono ?_; rintro e w4 ⟨A4, c4, N, rfl, hN, oN, hb4⟩
  have hb04 := hb03.trans (hb4.mono hb03.size)
  have k4 := k3.below' hb4
  have s4 := s3.below hb4
  have HN := Lib.hid hN
  have hNl : N.length ≤ 9 := by rw [← lls_len, hN]; exact hl9
  have z4 := hb4.size
  have z3 := hb03.size
  clear k3 s3 hb4 hb03 hN
  go_wp2_with fail
  refine (eqIntSS_same _ _ _ _ _ _ _ oN.sl (s4.mono z4) (by rw [HM.out, HN.out]) (by omega) (fun l hl => by rw [HN.out] at hl; have := HL3.out l hl; omega)).mono ?_; rintro e w5 ⟨rfl, hb5⟩
  have hb05 := hb04.trans (hb5.mono hb04.size)
  have k5 := k4.below' hb5
  have s5 := s4.below (hb5.mono z4)
  have o5 := oN.next hb5
  have z5 := hb5.size
  have TT := Lib.hid (tot_le (M := N) (c := 3) (fun l hl => by rw [HN.out] at hl; exact HL3.out l hl))
  have T0 := Lib.hid (show ∀ k, k ≤ N.length → tot N k ≤ 1000000 from fun k hk => by have := TT.out k; omega)
  have tN := T0.out N.length (Nat.le_refl _)
  clear k4 s4 oN hb5 hb04
  go_wp2_with fail
  refine (markIntSS_any _ _ _ N _ _ o5 (by omega) T0.out (by omega) (by omega)).mono ?_; rintro e w6 ⟨rfl, m6, hb6⟩
  have hb06 := hb05.trans (hb6.mono z3)
  have k6 := k5.below hb6 zk
  have s6 := s5.below hb6
  have z6 := hb6.size
  clear k5 s5 o5 hb6 hb05
  have nm := neI (1 + (tot N N.length : Int))
  go_wp2_with fail
  refine (heldIntSS_any _ _ _ N _ _ m6 (by omega) T0.out (by omega) (by omega)).mono ?_; rintro e w' ⟨rfl, rfl⟩
  have e6 := k6.cell
  go_wp2_with fail
  refine (toTrip_any _ _ _ _ _ _).mono ?_; rintro e w7 ⟨rfl, hb7⟩
  have hb07 := hb06.trans (hb7.mono hb06.size)
  have s7 := s6.below (hb7.mono (by omega))
  have m7 := m6.next hb7
  have z7 := hb7.size
  clear k6 e6 s6 m6 hb7 hb06
  go_wp2_with fail
  refine (C2.out _).mono ?_; rintro e w8 ⟨A8, c8, K, rfl, hK, oK, hb8⟩
  have hb08 := hb07.trans (hb8.mono hb07.size)
  have s8 := s7.below (hb8.mono (by omega))
  have m8 := m7.next hb8
  have z8 := hb8.size
  have HK := Lib.hid hK
  have hKl : K.length ≤ 9 := by rw [← lls_len, hK]; exact hl9
  clear s7 m7 hb8 hb07 hK
  go_wp2_with fail
  refine (eqIntSS_same _ _ _ _ _ _ _ oK.sl (s8.mono (by omega)) (by rw [HM.out, HK.out]) (by omega) (fun l hl => by rw [HK.out] at hl; have := HL3.out l hl; omega)).mono ?_; rintro e w9 ⟨rfl, hb9⟩
  have hb09 := hb08.trans (hb9.mono hb08.size)
  have m9 := m8.next hb9
  clear s8 m8 hb9 hb08 oK
  go_wp2_with fail
  refine (heldIntSS_any _ _ _ N _ _ m9 (by omega) T0.out (by omega) (by omega)).mono ?_; rintro e w' ⟨rfl, rfl⟩
  go_wp2
  go_ret
  exact ⟨rfl, hb09⟩
end Go.Proofs.Ytfcmfadkkfkidaa
