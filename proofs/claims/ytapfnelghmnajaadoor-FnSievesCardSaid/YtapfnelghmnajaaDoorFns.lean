/-
  The law FnSieves, walked.
-/
import Derived.Test.YtapfnelghmnajaaDoorDrawV4
import Derived.Test.YtapfnelghmnajaaDoorFnsM
import Derived.Test.YtapfnelghmnajaaDoorRs
import Derived.Test.YtapfnelghmnajaaDoorWs2
import Derived.Test.YtapfnelghmnajaaDoorSms5
import Derived.Test.YtapfnelghmnajaaDoorSt2
import Derived.Deep.DeepCutAuto
import Derived.BigQuiet
import Derived.WalkKit
import Derived.WalkSpells
import Derived.WalkLawsBesides
import Derived.Lib.Hide
import Derived.Deep.QuietTactic
import Derived.BigQuiet
import Derived.StillTailTactics
namespace Go.Proofs.YtapfnelghmnajaaDoor
open Go.RowKit

theorem eqS (s : ByteArray) : (s == s) = true := by
  show (s.data == s.data) = true
  simp
theorem grade_bd {S L : List Int} (h : fraB S L = true) : 1 ≤ gradeI S L ∧ gradeI S L ≤ 4 := by
  have := gradeN_bd S L
  simp only [gradeI, h, if_true]
  exact this

set_option maxHeartbeats 16000000 in
set_option maxRecDepth 100000 in
theorem walk_FnSieves (A : Option Addr) (c : Nat) (L : List Int) (hI : ∀ x ∈ L, 0 ≤ x ∧ x ≤ 255) (wo : World) (hs : SlR fb 1 wo wo.heap.size A L) (htab : Lib.TabIs Tryd.prog wo "internal/strconv.uint64pow10" .u64 Lib.pow10Tab) :
    Calls Tryd.prog 4 #[.slice A L.length c] wo fun e w' => e = .returned (.bool true) ∧ Below wo.heap.size wo w' := by
  have HTAB := Lib.hid htab
  clear htab
  by_cases hl : (65536 : Int) < L.length
  · go_enter Tryd.func4, Tryd.ntmps4
    go_wp2_with (go_at_call 12; refine (rBig_any _ _ _ _).mono ?_; rintro e w' ⟨rfl, rfl⟩)
    go_ret
    exact ⟨rfl, Below.refl _ _⟩
  have hl : (L.length : Int) ≤ 65536 := by omega
  have hz0 : (0 : Int) ≤ L.length := by omega
  go_enter Tryd.func4, Tryd.ntmps4
  go_wp2_with (go_at_call 12; refine (rBig_any _ _ _ _).mono ?_; rintro e w' ⟨rfl, rfl⟩)
  refine (DrawWithoutSieve_any A c L _ hI hl hs).mono ?_; rintro e w1 ⟨v, rfl, ⟨A1, c1, S, A2, c2, M, k, rfl, ⟨hS, hcap, s1⟩, ⟨hM, s2⟩, hk0, hk1⟩, hb1⟩
  go_upto_region 4 with fail
  have k1 := Blk.new w1 29 #[.slice A2 M.length c2]
  have hb02 : Below wo.heap.size wo (w1.alloc (.cells #[.slice A2 M.length c2] 29 (0, 0))) := hb1.alloc hb1.size _
  have s3 := s1.alloc (.cells #[.slice A2 M.length c2] 29 (0, 0))
  have s4 := s2.alloc (.cells #[.slice A2 M.length c2] 29 (0, 0))
  clear s1 s2 hb1
  generalize w1.heap.size = p1 at *
  generalize w1.alloc (.cells #[.slice A2 M.length c2] 29 (0, 0)) = W2 at *
  clear w1
  have hS6 := hS.1
  have hM22 := hM.1
  have HCAP := Lib.hid hcap
  clear hcap
  have d1 := k1.cell
  go_wp2_with fail
  refine (WithoutSieve_any _ _ S _ _ M k _ s3 (by omega) hS.inI HCAP.out s4 (by omega) hM.inI).mono ?_; rintro e w3 ⟨A3, c3, rfl, o3, hb3⟩
  have hb03 := hb02.trans (hb3.mono hb02.size)
  have k3 := k1.below' hb3
  have s5 := s3.next hb3
  have s6 := s4.next hb3
  clear d1 k1 s3 s4 hb3 hb02
  have d3 := k3.cell
  go_wp2_with fail
  refine (SWithoutSieve_any _ _ S _ _ M k _ s5 (by omega) hS.inI HCAP.out s6 (by omega) hM.inI).mono ?_; rintro e w5 ⟨A5, c5, rfl, o5, hb5⟩
  have hb05 := hb03.trans (hb5.mono hb03.size)
  have k5 := k3.below' hb5
  have s7 := s5.next hb5
  have s8 := s6.next hb5
  have r3 := (o3.next hb5).sl
  have r5 := o5.sl
  have HP := Lib.hid (fun h : wsB S M k = true => ws_plain h)
  have hRl := wsR_len S M k
  clear d3 k3 s5 s6 hb5 hb03 o3 o5
  generalize wsR S M k = R at *
  generalize hu : wsB S M k = u at *
  have E1 := neB u
  go_wp2_with fail
  refine (rInts_same _ _ _ _ R _ r3 r5 (by omega)).mono ?_; rintro e w6 ⟨rfl, hb6⟩
  have hb06 := hb05.trans (hb6.mono hb05.size)
  have k6 := k5.below' hb6
  have s9 := s7.next hb6
  have s10 := s8.next hb6
  have r6 := r3.next hb6
  clear k5 s7 s8 hb6 hb05 r3 r5 E1
  go_upto_if 59 with fail
  go_cut [] (fun wx => Below wo.heap.size wo wx)
  case first => as_aux_lemma =>
    cases u
    · go_wp2_with fail
      go_meet
      exact hb06
    obtain ⟨f1, f2, f3, q, rfl, f4, x, y, f5, f6, f7, ⟨x0, x1⟩, y0, y1⟩ := HP.out rfl
    have HF := Lib.hid (And.intro f3 (And.intro f5 (And.intro f6 f7)))
    have d6 := k6.cell
    go_wp2_with fail
    refine (Fractions_any _ _ S _ _ M _ s9 (by omega) hS.inI s10 (by omega) hM.inI).mono ?_; rintro e w7 ⟨A7, c7, rfl, o7, hb7⟩
    rw [f1, f2]
    rw [f2] at o7
    have hb07 := hb06.trans (hb7.mono hb06.size)
    have o8 := o7.sl
    have r7 := r6.next hb7
    obtain ⟨b, off, rfl, hB, hcs⟩ := o8 (SlR.ne HF.out.2.1)
    obtain ⟨b', off', rfl, hB', hcs'⟩ := r7 (SlR.ne HF.out.2.2.2)
    have n0 := cells1 hcs HF.out.2.1
    have n1 := cells1 hcs HF.out.2.2.1
    have n2 := cells1 hcs' HF.out.2.2.2
    generalize frA S M = FA at *
    have hb08 := hb07
    clear d6 k6 s9 s10 r6 hb7 hb06 hb07 o7 o8 r7 hcs hcs' HP hu HCAP hS hM f1 f2 f3 f5 f6 f7
    have hqR : q < R.length := by have := f4; have := HF.out.1; omega
    have hFR : (FA.length : Int) = (R.length : Int) + 1 := by have := HF.out.1; omega
    have g0 : (0 : Int) ≤ (q : Int) := by omega
    have g1 : (q : Int) < (R.length : Int) := by omega
    have g2 : (q : Int) < (FA.length : Int) := by omega
    have g3 : (q : Int) + 1 < (FA.length : Int) := by omega
    have g4 : (R.length : Int) ≤ 6 := by omega
    have g5 : decide ((q : Int) < 0) = false := by rw [decide_eq_false_iff_not]; omega
    have g6 : decide ((FA.length : Int) ≤ (q : Int) + 1) = false := by rw [decide_eq_false_iff_not]; omega
    have e1 : ((FA.length : Int) != (R.length : Int) + 1) = false := by rw [bne_eq_false_iff_eq]; exact hFR
    have e2 := neI (x + y)
    clear hFR
    clear f4 hqR
    go_upto_region 10 with fail
    go_quiet (fail)
    go_wp2
    go_meet
    exact below_drewN hb08 _
  case rest => as_aux_lemma =>
    have hb1 := hcut; clear hcut
    clear HP k6 s9 s10 r6 hb06 hu HCAP hS hM hRl hk0 hk1 hS6 hM22
    go_wp2_with fail
    refine (DrawFewestSieves_any A c L _ hI hl (hs.next hb1)).mono ?_; rintro e w1 ⟨v, rfl, ⟨B1, d1, X, B2, d2, N, rfl, ⟨hX, j1⟩, ⟨hN10, hN22⟩, hcN, j2⟩, hb2⟩
    have hb02 := hb1.trans (hb2.mono hb1.size)
    have hX6 := hX.1
    have HN22 := Lib.hid hN22
    have HCN := Lib.hid hcN
    clear hb1 hb2 hN22 hcN
    go_wp2_with fail
    refine (FewestSieves_any _ _ _ _ X N _ j1 (by omega) hX.inI j2 (by omega) (fun x hx => by have := HN22.out x hx; omega) HCN.out).mono ?_; rintro e w3 ⟨B3, d3, rfl, o3, hb3⟩
    have hb03 := hb02.trans (hb3.mono hb02.size)
    have j3 := j1.next hb3
    have j4 := j2.next hb3
    clear j1 j2 hb3 hb02
    go_wp2_with fail
    refine (SFewest_any _ _ _ _ X N _ j3 (by omega) hX.inI j4 (by omega) (fun x hx => by have := HN22.out x hx; omega)).mono ?_; rintro e w5 ⟨B5, d5, rfl, o5, hb5⟩
    have hb05 := hb03.trans (hb5.mono hb03.size)
    have r3 := (o3.next hb5).sl
    have r5 := o5.sl
    have HFW := Lib.hid (fun h : fewB X (smls N) = true => few_plain h)
    have hFl : (fewL X (smls N)).length ≤ 6 := by
      cases h : fewB X (smls N)
      · rw [few_no h]; simp
      · have := few_plain h; omega
    clear j3 j4 hb5 hb03 o3 o5 hX HN22 HCN
    generalize fewL X (smls N) = F at *
    generalize fewB X (smls N) = fu at *
    have E1 := neB fu
    go_upto_region 15 with fail
    go_cut [144] (fun v wx => v = .bool false ∧ Below wo.heap.size wo wx)
    case first => as_aux_lemma =>
      go_wp2_with fail
      refine (rInts_same _ _ _ _ F _ r3 r5 (by omega)).mono ?_; rintro e w6 ⟨rfl, hb6⟩
      have hb06 := hb05.trans (hb6.mono hb05.size)
      clear r3 r5 hb6 hb05
      cases fu
      · go_wp2_with fail
        go_meet
        exact ⟨rfl, hb06⟩
      · obtain ⟨u1, u2⟩ := HFW.out rfl
        have g1 : decide ((F.length : Int) < 1) = false := by rw [decide_eq_false_iff_not]; omega
        have g2 : decide ((X.length : Int) < (F.length : Int)) = false := by rw [decide_eq_false_iff_not]; omega
        go_wp2_with fail
        go_meet
        exact ⟨by simp [u2], hb06⟩
    case rest => as_aux_lemma =>
      obtain ⟨rfl, hb7⟩ := hcut
      clear HFW r3 r5 hb05 E1 hFl
      go_wp2_with fail
      refine (DrawGradeOf_any A c L _ hI hl (hs.next hb7)).mono ?_; rintro e w1 ⟨v, rfl, ⟨C1, e1, Y, C2, e2, Z, rfl, ⟨hY, t1⟩, hZ, t2⟩, hb8⟩
      go_upto_region 18 with fail
      have k1 := Blk.new w1 29 #[.slice C2 Z.length e2]
      have hb72 : Below wo.heap.size wo w1 := hb7.trans (hb8.mono hb7.size)
      have hb02 : Below wo.heap.size wo (w1.alloc (.cells #[.slice C2 Z.length e2] 29 (0, 0))) := hb72.alloc hb72.size _
      have t3 := t1.alloc (.cells #[.slice C2 Z.length e2] 29 (0, 0))
      have t4 := t2.alloc (.cells #[.slice C2 Z.length e2] 29 (0, 0))
      clear t1 t2 hb8 hb72 hb7
      generalize w1.heap.size = p2 at *
      generalize w1.alloc (.cells #[.slice C2 Z.length e2] 29 (0, 0)) = W3 at *
      clear w1
      have hY6 := hY.1
      have hZ22 := hZ.1
      have HG := Lib.hid (fun h : fraB Y Z = true => grade_bd h)
      have T1 := Lib.hid (fun A c A' c' w hr hr' ht => SampleText_any A c Y A' c' Z w hr (by omega) hY.inI hr' (by omega) hZ.inI ht)
      have T2 := Lib.hid (fun A c A' c' w hr hr' => SSampleText_any A c Y A' c' Z w hr (by omega) hY.inI hr' (by omega) hZ.inI)
      have T3 := Lib.hid (fun A c A' c' w hr hr' => GradeOf_any A c Y A' c' Z w hr (by omega) hY.inI hr' (by omega) hZ.inI)
      have T4 := Lib.hid (fun A c A' c' w hr hr' => SGradeOf_any A c Y A' c' Z w hr (by omega) hY.inI hr' (by omega) hZ.inI)
      have T5 := Lib.hid (fun A c w hr => IsSet_any A c Y w hr (by omega) hY.inI)
      have T6 := Lib.hid (fun A c w hr => SIsSet_any A c Y w hr (by omega) hY.inI)
      clear hY hZ
      generalize gradeI Y Z = gi at *
      generalize fraB Y Z = gu at *
      generalize stS Y Z = sv at *
      generalize setB Y = sb at *
      have d1 := k1.cell
      go_wp2_with fail
      refine (T3.out _ _ _ _ _ t3 t4).mono ?_; rintro e w3 ⟨rfl, hb3⟩
      have hb03 := hb02.trans (hb3.mono hb02.size)
      have k3 := k1.below' hb3
      have t5 := t3.next hb3
      have t6 := t4.next hb3
      clear d1 k1 t3 t4 hb3 hb02
      have d3 := k3.cell
      go_wp2_with fail
      refine (T4.out _ _ _ _ _ t5 t6).mono ?_; rintro e w5 ⟨rfl, hb5⟩
      have hb05 := hb03.trans (hb5.mono hb03.size)
      have k5 := k3.below' hb5
      have t7 := t5.next hb5
      have t8 := t6.next hb5
      clear d3 k3 t5 t6 hb5 hb03
      have E1 := neB gu
      have E2 := neI gi
      go_upto_region 20 with fail
      go_cut [180] (fun v wx => v = .bool false ∧ wx = w5)
      case first => as_aux_lemma =>
        cases gu
        · go_wp2_with fail
          go_meet
          exact ⟨rfl, rfl⟩
        · obtain ⟨u1, u2⟩ := HG.out rfl
          go_wp2_with fail
          go_meet
          exact ⟨by simp [u1, u2], rfl⟩
      case rest => as_aux_lemma =>
        obtain ⟨rfl, rfl⟩ := hcut
        clear HG E1 E2
        have d5 := k5.cell
        go_wp2_with fail
        refine (T1.out _ _ _ _ _ t7 t8 (pow_below HTAB.out hb05)).mono ?_; rintro e w6 ⟨rfl, hb6⟩
        have hb06 := hb05.trans (hb6.mono hb05.size)
        have k6 := k5.below' hb6
        have t9 := t7.next hb6
        have t10 := t8.next hb6
        clear d5 k5 t7 t8 hb6 hb05
        have d6 := k6.cell
        go_wp2_with fail
        refine (T2.out _ _ _ _ _ t9 t10).mono ?_; rintro e w7 ⟨rfl, hb7⟩
        have hb07 := hb06.trans (hb7.mono hb06.size)
        have t11 := t9.next hb7
        clear d6 k6 t9 t10 hb7 hb06
        have e1 := eqS ⟨sv.toArray⟩
        have e2 : (gu == gu) = true := by simp
        have e3 : (sb == sb) = true := by simp
        go_wp2_with fail
        refine (T5.out _ _ _ t11).mono ?_; rintro e w8 ⟨rfl, hb8⟩
        have hb08 := hb07.trans (hb8.mono hb07.size)
        have t12 := t11.next hb8
        clear t11 hb8 hb07
        go_wp2_with fail
        refine (T6.out _ _ _ t12).mono ?_; rintro e w9 ⟨rfl, hb9⟩
        have hb09 := hb08.trans (hb9.mono hb08.size)
        clear t12 hb9 hb08
        go_wp2_with fail
        go_ret
        exact ⟨rfl, hb09⟩
end Go.Proofs.YtapfnelghmnajaaDoor
