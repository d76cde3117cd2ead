/-
  LongestQuiet: the reference.
-/
import Derived.Test.YtfcmfadkkfkidaaLq1
import Derived.Test.YtfcmfadkkfkidaaMt2
import Derived.Test.YtfcmfadkkfkidaaMeet2
import Derived.Deep.DeepCutAuto
import Derived.WalkKit
import Derived.WalkSpells
import Derived.WalkLawsBesides
import Derived.Lib.Hide
import Derived.Deep.QuietTactic
import Derived.BigQuiet
import Derived.StillTailTactics
namespace Go.Proofs.Ytfcmfadkkfkidaa
open Go.RowKit

def lqV (L : List T5) (s : Int) : Value := .tuple #[.int .i64 (lqN L s), .bool (lqB L s)]
theorem mt_nil {L : List T5} {M : List Elt} (h : lls M = mtL L) (h2 : mtL L = []) : M = [] := by
  rw [h2] at h
  exact List.map_eq_nil_iff.1 h
theorem mt_pos {L : List T5} {M : List Elt} (h : lls M = mtL L) (h2 : ¬ mtL L = []) : (0 : Int) < M.length := by
  cases M with
  | nil => exact absurd h.symm h2
  | cons x r => simp <;> omega
theorem mt_noB {L : List T5} {s : Int} (h2 : ¬ mtL L = []) : lqB L s = false := by unfold lqB; simp [h2]
theorem gap_end {S : List Int} {j : Nat} (h1 : 1 ≤ j) (h2 : j ≤ S.length ∨ j = 1) (h3 : ¬ j < S.length) : gapK S (j - 1) = gapN S := by
  unfold gapN
  rcases h2 with h2 | h2
  · rw [show j = S.length by omega]
  · rw [h2]
    by_cases h : S.length = 0
    · rw [h]
    · rw [show S.length = 1 by omega]

set_option maxRecDepth 20000 in
set_option maxHeartbeats 16000000 in
theorem SLongestQuiet_any (A : Option Addr) (c : Nat) (L : List T5) (s : Int) (w : World) (hr : SlR f5 5 w w.heap.size A L) (hm : (L.length : Int) ≤ 1048576) (hI : ∀ x ∈ L, InI5 x) :
    Calls Try.prog 48 #[.slice A L.length c, .int .i64 s] w fun e w' => e = .returned (.tuple #[.int .i64 (lqN L s), .bool (lqB L s)]) ∧ Below w.heap.size w w' := by
  have HI := Lib.hid hI; clear hI
  have hm0 : (0 : Int) ≤ L.length := by omega
  go_enter Try.func48, Try.ntmps48
  go_wp2_with fail
  refine (SMeetingTrips_any _ _ L _ (by exact hr) hm HI.out).mono ?_; rintro e w3 ⟨A3, c3, M, rfl, hM, -, hb3⟩
  cases h1 : tripsB L
  · have Hv := Lib.hid (lq_no (L := L) (s := s) (by simp [lqB, h1]))
    clear h1 hM
    go_wp2
    go_ret2
    exact ⟨by rw [Hv.out.1, Hv.out.2]; rfl, hb3⟩
  by_cases h2 : mtL L = []
  · obtain rfl := mt_nil hM h2
    have H1 := Lib.hid h1; have H2 := Lib.hid h2
    clear h1 h2 hM
    go_wp2_with fail
    refine (l1In_any _ _ _ _).mono ?_; rintro e w' ⟨rfl, rfl⟩
    cases h3 : inB s 0 8
    · have Hv := Lib.hid (lq_no (L := L) (s := s) (by simp [lqB, h3]))
      clear h3
      go_wp2
      go_ret2
      exact ⟨by rw [Hv.out.1, Hv.out.2]; rfl, hb3⟩
    · have Hv := Lib.hid (lq_yes H1.out H2.out h3)
      have hs8 := inB_iff.1 h3
      have HS8 := Lib.hid hs8
      have HL := Lib.hid (trOk_all H1.out)
      have hl10 := trips_len H1.out
      have HK := Lib.hid (enK_bd hs8 H1.out H2.out)
      have HBD := Lib.hid (srtE_bd hs8 H1.out H2.out)
      have hr3 := hr.next hb3
      have hE := Gath.made (f := f1) (m := 1) (t := 3) (B := w3.heap.size) (w := w3) (Nat.le_refl _)
      have hbE : Below w3.heap.size w3 (w3.alloc (.cells #[] 3 (0, 0))) := by (repeat (first | exact Below.refl _ _ | refine Below.drew ?_ | refine below_drewN ?_ _ | (refine Below.alloc ?_ (by (try simp) <;> omega) _) | (refine Below.setCell ?_ (by (try simp) <;> omega) _) | (refine Below.trans ?_ (Below.mono (by assumption) (by (try simp) <;> omega)))))
      clear h3 hr hs8
      go_wp2
      go_loopw [8, 9] (fun v8 v9 wr => ∃ k : Nat, v9 = .int .i64 k ∧ k ≤ L.length ∧ Gath f1 1 3 wr w3.heap.size v8 (enK L s k) ∧ v8 ≠ .slice none 0 0 ∧ Below w3.heap.size w3 wr) (fun _ v9 _ => (L.length - intOf v9).toNat)
      case atStart => exact ⟨0, rfl, by omega, hE, by simp, hbE⟩
      case round =>
        obtain ⟨k, rfl, hk, hG, hv8, hb⟩ := hrel
        have zr := hb.size
        have hk0 : (0 : Int) ≤ (k : Int) := by omega
        clear hE hbE
        by_cases hlt : k < L.length
        · have hx : L[k]? = some L[k] := List.getElem?_eq_getElem hlt
          obtain ⟨b, off, rfl, hB, hcs⟩ := hr3 (SlR.ne hx)
          generalize L[k] = x at *
          have htx := HL.out x (List.mem_of_getElem? hx)
          obtain ⟨c0, c1, c2, c3', c4⟩ := cells5 (hcs.below hb hB) hx
          have hk1 : (k : Int) < (L.length : Int) := by omega
          have HX := Lib.hid hx
          have HG := Lib.hid hG
          have HV := Lib.hid hv8
          clear hcs hlt hx hG hv8
          go_wp2_with fail
          refine (l11EntersT_any x s _ htx HS8.out).mono ?_; rintro e w4 ⟨rfl, hb4⟩
          have hb04 := hb.trans (hb4.mono zr)
          have HG4 := Lib.hid (HG.out.below hb4)
          have z4 := hb04.size
          clear c0 c1 c2 c3' c4 hb4 HG hb zr
          by_cases h0 : 0 ≤ entT x s
          · have HN := Lib.hid (enK_yes HX.out h0)
            have hkl := HK.out k
            have C5 := Lib.hid (l1Put_any w3.heap.size _ (enK L s k) (entT x s) w4 HG4.out HV.out z4 (by omega))
            generalize entT x s = m at *
            clear HG4 HV hkl
            go_wp2_with fail
            refine C5.out.mono ?_; rintro e w5 ⟨v', rfl, hG5, hv5, hb5⟩
            have hb05 := hb04.trans (hb5.mono z4)
            have HG5 := Lib.hid hG5
            have HV5 := Lib.hid hv5
            clear C5 hG5 hv5 hb5 hb04
            go_wp2
            go_roundw
            case rel => exact ⟨k + 1, by go_num, by omega, by rw [HN.out]; exact HG5.out, HV5.out, hb05⟩
            case measure => simp only [intOf]; omega
          · have HN := Lib.hid (enK_no HX.out h0)
            generalize entT x s = m at *
            go_wp2
            go_roundw
            case rel => exact ⟨k + 1, by go_num, by omega, by rw [HN.out]; exact HG4.out, HV.out, hb04⟩
            case measure => simp only [intOf]; omega
        · have hkl : k = L.length := by omega
          have hk1 : ¬ (k : Int) < (L.length : Int) := by omega
          rw [hkl] at hG
          rw [show enK L s L.length = srtE L s from rfl] at hG
          obtain ⟨g, c5, rfl, hgB, hc5, hgl, hC⟩ := hG.form1 hv8
          obtain ⟨hSl, hSb⟩ := HBD.out
          have HGB := Lib.hid (gapK_bd hSb)
          have HSB := Lib.hid hSb
          clear hkl hlt hG hv8 HK HL HI hSb HBD
          generalize srtE L s = S at *
          have hS0 : (0 : Int) ≤ S.length := by omega
          have hS1 : (S.length : Int) ≤ 10 := by omega
          have HC := Lib.hid hC
          clear hC
          go_wp2
          go_loopw [11, 12] (fun v11 v12 wr2 => ∃ j : Nat, v12 = .int .i64 j ∧ v11 = .int .i64 (gapK S (j - 1)) ∧ 1 ≤ j ∧ (j ≤ S.length ∨ j = 1) ∧ Below wr.heap.size wr wr2) (fun _ v12 _ => (20 - intOf v12).toNat)
          case atStart => exact ⟨1, rfl, rfl, by omega, .inr rfl, Below.refl _ _⟩
          case round =>
            obtain ⟨j, rfl, rfl, hj1, hj2, hb2⟩ := hrel
            have hj0 : (1 : Int) ≤ (j : Int) := by omega
            have hj11 : (j : Int) ≤ 11 := by omega
            by_cases hjl : j < S.length
            · obtain ⟨q, hq⟩ : ∃ q, q + 1 = j := ⟨j - 1, by omega⟩
              have ha : S[q]? = some S[q] := List.getElem?_eq_getElem (by omega)
              have hbb : S[j]? = some S[j] := List.getElem?_eq_getElem hjl
              generalize S[q] = a at ha
              generalize S[j] = b at hbb
              have hC2 := HC.out.below hb2 hgl
              have ca := cells1 hC2 ha
              have cb := cells1 hC2 hbb
              simp only [Nat.zero_add] at ca cb
              have HN := Lib.hid (show max (gapK S (j - 1)) (b - a - 4) = gapK S j by rw [← hq, Nat.add_sub_cancel]; rw [← hq] at hbb; exact (gapK_succ ha hbb).symm)
              have hab := HGB.out (j - 1)
              have hjl2 : (j : Int) < (S.length : Int) := by omega
              have htn : ((j : Int) - 1).toNat = q := by omega
              have hw1 : IntKind.i64.wrap ((j : Int) - 1) = (j : Int) - 1 := by rw [IntKind.wrap_i64]; omega
              have hi1 : (0 : Int) ≤ (j : Int) - 1 := by omega
              have hi2 : (j : Int) - 1 < (S.length : Int) := by omega
              have hab1 := HSB.out a (List.mem_of_getElem? ha)
              have hab2 := HSB.out b (List.mem_of_getElem? hbb)
              clear hC2 ha hq
              generalize gapK S (j - 1) = m at *
              go_wp2
              go_quiet (exact (l1Most_any _ _ _).mono fun _ _ ⟨he, hw⟩ => ⟨he.trans (by rw [HN.out]), _, hw.symm⟩)
              go_wp2
              go_roundw
              case rel => exact ⟨j + 1, by go_num, rfl, by omega, by omega, by first | exact hb2 | exact below_drewN hb2 _⟩
              case measure => simp only [intOf]; omega
            · have hjl2 : ¬ (j : Int) < (S.length : Int) := by omega
              have HN := Lib.hid (gap_end hj1 hj2 hjl)
              have hbX := hb3.trans ((hb.trans (hb2.mono zr)).mono hb3.size)
              clear hjl hj2
              go_wp2
              go_ret2
              exact ⟨by rw [Hv.out.1, Hv.out.2, HN.out]; rfl, hbX⟩
  · have Hv := Lib.hid (lq_no (mt_noB (s := s) h2))
    have hM0 := mt_pos hM h2
    have hM1 : 0 < M.length := by omega
    clear h2 hM
    go_wp2
    go_ret2
    exact ⟨by rw [Hv.out.1, Hv.out.2]; rfl, hb3⟩
end Go.Proofs.Ytfcmfadkkfkidaa
