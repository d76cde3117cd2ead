/-
  The law FnTrips, walked.
-/
import Derived.Test.YtfcmfadkkfkidaaDrawT3
import Derived.Test.YtfcmfadkkfkidaaFtrM
import Derived.Test.YtfcmfadkkfkidaaFirst2
import Derived.Test.YtfcmfadkkfkidaaAdd2
import Derived.Test.YtfcmfadkkfkidaaOtw2
import Derived.Test.YtfcmfadkkfkidaaSec2
import Derived.Test.YtfcmfadkkfkidaaSecH
import Derived.Test.YtfcmfadkkfkidaaRs
import Derived.Deep.DeepCutAuto
import Derived.WalkKit
import Derived.WalkSpells
import Derived.WalkLawsBesides
import Derived.Lib.Hide
import Derived.Deep.QuietTactic
import Derived.BigQuiet
import Derived.StillTailTactics
namespace Go.Proofs.Ytfcmfadkkfkidaa
open Go.RowKit

/-- The minute of the arrival that the program tells. -/
def arN (t : T5) : Int := if okT t then arr t.2.1 t.2.2.1 t.2.2.2.1 else 0
theorem arrV_arN (t : T5) : arrV t.1 t.2.1 t.2.2.1 t.2.2.2.1 t.2.2.2.2 = .tuple #[.int .i64 (arN t), .bool (okT t)] := by
  unfold arrV arN okT
  split <;> rename_i h
  · rw [h]
  · simp only [Bool.not_eq_true] at h; rw [h]
def rowsT (t : T5) : List (List Int) := if okT t then secL t.2.1 t.2.2.1 t.2.2.2.1 else []
theorem rowsT_len (t : T5) : (rowsT t).length ≤ 9 ∧ ∀ l ∈ rowsT t, l.length ≤ 3 := by
  unfold rowsT
  split
  · rename_i h
    obtain ⟨_, h1, h2, _⟩ := tripB_bounds h
    refine ⟨by rw [secL, secK_len]; exact secN_le h1 h2, fun l hl => ?_⟩
    obtain ⟨k, hk, rfl⟩ := List.getElem_of_mem hl
    rw [secL, secK_len] at hk
    have := secK_get (b := t.2.1) (c := t.2.2.1) (d := t.2.2.2.1) hk
    rw [List.getElem?_eq_some_iff] at this
    obtain ⟨_, e⟩ := this
    show ((secL _ _ _)[k]).length ≤ 3
    unfold secL
    rw [e]; simp [secRow]
  · simp
theorem rowsT_at {t : T5} {k : Nat} {l : List Int} (h : (rowsT t)[k]? = some l) : l = [secLo t.2.1 t.2.2.1 k, t.2.2.2.1 + 4 * k, t.2.2.2.1 + 4 * k + 4] := by
  unfold rowsT at h
  split at h
  · have hk := (List.getElem?_eq_some_iff.1 h).1
    rw [secL, secK_len] at hk
    rw [secL, secK_get hk] at h
    exact (Option.some.inj h).symm
  · simp at h
theorem rowsT_end {t : T5} {k : Nat} (h : k + 1 = (rowsT t).length) : arN t = t.2.2.2.1 + 4 * k + 4 := by
  unfold rowsT at h
  unfold arN
  split at h
  · rename_i h1
    rw [if_pos h1, arr_secN]
    rw [secL, secK_len] at h
    omega
  · simp at h
theorem okT_d {t : T5} (h : SmT t) : Small t.2.2.2.1 := h.2.2.2.1

set_option maxHeartbeats 16000000 in
set_option maxRecDepth 100000 in
theorem walk_FnTrips (A : Option Addr) (c : Nat) (L : List Int) (hI : ∀ x ∈ L, 0 ≤ x ∧ x ≤ 255) (wo : World) (hs : SlR fb 1 wo wo.heap.size A L) :
    Calls Try.prog 15 #[.slice A L.length c] wo fun e w' => e = .returned (.bool true) ∧ Below wo.heap.size wo w' := by
  by_cases hl : (65536 : Int) < L.length
  · go_enter Try.func15, Try.ntmps15
    go_wp2_with (go_at_call 50; refine (rBig_any _ _ _ _).mono ?_; rintro e w' ⟨rfl, rfl⟩)
    go_ret
    exact ⟨rfl, Below.refl _ _⟩
  have hl : (L.length : Int) ≤ 65536 := by omega
  have hz0 : (0 : Int) ≤ L.length := by omega
  go_enter Try.func15, Try.ntmps15
  go_wp2_with (go_at_call 50; refine (rBig_any _ _ _ _).mono ?_; rintro e w' ⟨rfl, rfl⟩)
  refine (DrawSectionTimes_any A c L _ hI hl hs).mono ?_; rintro e w0 ⟨v, rfl, ⟨t, rfl, ht⟩, hb0⟩
  have k1 := Blk.new w0 25 #[.int .i64 t.1, .int .i64 t.2.1, .int .i64 t.2.2.1, .int .i64 t.2.2.2.1, .int .i64 t.2.2.2.2]
  have hb01 : Below wo.heap.size wo (w0.alloc (.cells #[.int .i64 t.1, .int .i64 t.2.1, .int .i64 t.2.2.1, .int .i64 t.2.2.2.1, .int .i64 t.2.2.2.2] 25)) := hb0.alloc hb0.size _
  clear hb0
  go_upto_region 4 with fail
  generalize w0.heap.size = p1 at *
  generalize w0.alloc (.cells #[.int .i64 t.1, .int .i64 t.2.1, .int .i64 t.2.2.1, .int .i64 t.2.2.2.1, .int .i64 t.2.2.2.2] 25) = w1 at *
  have e1 := k1.cell
  have C2 := Lib.hid (show Calls Try.prog 29 #[tripV t.1 t.2.1 t.2.2.1 t.2.2.2.1 t.2.2.2.2] w1 (NewSS2 w1 (rowsT t) (okT t)) from SectionTimes_any _ _ _ _ _ w1)
  go_wp2_with fail
  refine C2.out.mono ?_; rintro e w2 ⟨A2, c2, M, rfl, hM, o2, hb2⟩
  have hb02 := hb01.trans (hb2.mono hb01.size)
  have k2 := k1.below' hb2
  clear e1 k1 C2 hb01
  have e2 := k2.cell
  have C3 := Lib.hid (show Calls Try.prog 28 #[tripV t.1 t.2.1 t.2.2.1 t.2.2.2.1 t.2.2.2.2] w2 (NewSS2 w2 (rowsT t) (okT t)) from SSectionTimes_any _ _ _ _ _ w2)
  go_wp2_with fail
  refine C3.out.mono ?_; rintro e w3 ⟨A3, c3, N, rfl, hN, o3, hb3⟩
  have hb03 := hb02.trans (hb3.mono hb02.size)
  have k3 := k2.below' hb3
  have HR := Lib.hid (rowsT_len t)
  have HML := Lib.hid (show M.length = (rowsT t).length by rw [← lls_len, hM])
  have hM9 : M.length ≤ 9 := by rw [HML.out]; exact HR.out.1
  have sM := Lib.hid (o2.next hb3).sl
  have sN := Lib.hid o3.sl
  have HM := Lib.hid hM
  have C4 := Lib.hid (rTable_same A2 A3 c2 c3 M N w3 sM.out sN.out (hM.trans hN.symm) (by omega) (fun l h => by rw [hM] at h; have := HR.out.2 l h; omega))
  clear e2 k2 C3 hb02 hb2 hb3 o2 o3 hM hN
  generalize hu : okT t = u at *
  have nb := neB u
  go_wp2_with fail
  refine C4.out.mono ?_; rintro e w4 ⟨rfl, hb4⟩
  have hb04 := hb03.trans (hb4.mono hb03.size)
  have k4 := k3.below' hb4
  have sM4 := Lib.hid (sM.out.next hb4)
  clear C4 sM sN hb03 hb4 k3
  have e4 := k4.cell
  have C5 := Lib.hid (show Calls Try.prog 20 #[tripV t.1 t.2.1 t.2.2.1 t.2.2.2.1 t.2.2.2.2] w4 (fun e w' => e = .returned (.tuple #[.int .i64 (arN t), .bool u]) ∧ Below w4.heap.size w4 w') from by have := ArrivalOf_any t.1 t.2.1 t.2.2.1 t.2.2.2.1 t.2.2.2.2 w4; rw [arrV_arN, hu] at this; exact this)
  go_wp2_with fail
  refine C5.out.mono ?_; rintro e w5 ⟨rfl, hb5⟩
  have hb05 := hb04.trans (hb5.mono hb04.size)
  have k5 := k4.below' hb5
  clear e4 C5
  have e5 := k5.cell
  have C6 := Lib.hid (show Calls Try.prog 19 #[tripV t.1 t.2.1 t.2.2.1 t.2.2.2.1 t.2.2.2.2] w5 (fun e w' => e = .returned (.tuple #[.int .i64 (arN t), .bool u]) ∧ Below w5.heap.size w5 w') from by have := SArrivalOf_any t.1 t.2.1 t.2.2.1 t.2.2.2.1 t.2.2.2.2 w5; rw [arrV_arN, hu] at this; exact this)
  go_wp2_with fail
  refine C6.out.mono ?_; rintro e w6 ⟨rfl, hb6⟩
  have hb06 := hb05.trans (hb6.mono hb05.size)
  have k6 := k5.below' hb6
  have ni := neI (arN t)
  clear e5 C6
  have e6 := k6.cell
  have C7 := Lib.hid (show Calls Try.prog 18 #[tripV t.1 t.2.1 t.2.2.1 t.2.2.2.1 t.2.2.2.2] w6 (fun e w' => e = .returned (.bool u) ∧ Below w6.heap.size w6 w') from by have := IsTrip_any t.1 t.2.1 t.2.2.1 t.2.2.2.1 t.2.2.2.2 w6; rw [show tripB t.1 t.2.1 t.2.2.1 t.2.2.2.1 t.2.2.2.2 = u from hu] at this; exact this)
  go_wp2_with fail
  refine C7.out.mono ?_; rintro e w7 ⟨rfl, hb7⟩
  have hb07 := hb06.trans (hb7.mono hb06.size)
  have sM7 := Lib.hid (((sM4.out.next hb5).next hb6).next hb7)
  have RW : Hid (∀ (k : Nat) (x : Elt), M[k]? = some x → x.2.2 = [secLo t.2.1 t.2.2.1 k, t.2.2.2.1 + 4 * k, t.2.2.2.1 + 4 * k + 4]) := fun k x h => rowsT_at (by rw [← HM.out]; simp [lls, h])
  have RE : Hid (∀ (k : Nat), k + 1 = M.length → arN t = t.2.2.2.1 + 4 * k + 4) := fun k h => rowsT_end (by rw [← HML.out]; exact h)
  obtain ⟨d0, d1⟩ := okT_d ht
  clear e6 k6 C7 hb04 hb05 hb06 hb5 hb6 hb7 k4 k5 sM4 HM HML HR hu ht
  generalize arN t = nx at *
  generalize t.2.2.2.1 = d at *
  go_wp2
  go_loopw [12] (fun v12 wr => ∃ k : Nat, v12 = .int .i64 k ∧ k ≤ M.length ∧ Below w7.heap.size w7 wr) (fun v12 _ => (M.length - intOf v12).toNat)
  case atStart => exact ⟨0, rfl, by omega, Below.refl _ _⟩
  case round =>
    obtain ⟨k, rfl, hk, hbr⟩ := hrel
    have zr := hbr.size
    have hk0 : (0 : Int) ≤ (k : Int) := by omega
    have hk9 : (k : Int) ≤ 9 := by omega
    have hM0 : (M.length : Int) ≤ 9 := by omega
    by_cases hlt : k < M.length
    · have hg : M[k]? = some M[k] := List.getElem?_eq_getElem hlt
      generalize M[k] = r at hg
      have hr2 := RW.out k r hg
      obtain ⟨b, off, rfl, hbB, hC⟩ := sM7.out.sl (SlR.ne hg)
      have c0 := cellS (hC.below hbr hbB) hg
      have hrl : r.2.2.length = 3 := by rw [hr2]; rfl
      rw [hrl] at c0
      have Rx : SlR f1 1 wr wr.heap.size r.1 [secLo t.2.1 t.2.2.1 k, d + 4 * k, d + 4 * k + 4] := by rw [← hr2]; exact (sM7.out.rows r (List.mem_of_getElem? hg)).next hbr
      obtain ⟨b1, o1, e1, _, hC1⟩ := Rx (by simp)
      rw [e1] at c0
      have p2 := cells1 hC1 (k := 2) rfl
      have hk1 : (k : Int) < (M.length : Int) := by omega
      by_cases hlt2 : k + 1 < M.length
      · have hg2 : M[k + 1]? = some M[k + 1] := List.getElem?_eq_getElem hlt2
        generalize M[k + 1] = s at hg2
        have hs2 := RW.out (k + 1) s hg2
        have c1 := cellS (hC.below hbr hbB) hg2
        have hsl : s.2.2.length = 3 := by rw [hs2]; rfl
        rw [hsl] at c1
        have Ry : SlR f1 1 wr wr.heap.size s.1 [secLo t.2.1 t.2.2.1 ((k + 1 : Nat) : Int), d + 4 * ((k + 1 : Nat) : Int), d + 4 * ((k + 1 : Nat) : Int) + 4] := by rw [← hs2]; exact (sM7.out.rows s (List.mem_of_getElem? hg2)).next hbr
        obtain ⟨b2, o2, e2, _, hC2⟩ := Ry (by simp)
        rw [e2] at c1
        have q1 := cells1 hC2 (k := 1) rfl
        rw [show d + 4 * ((k + 1 : Nat) : Int) = d + 4 * k + 4 by omega] at q1
        have hk2 : (k : Int) + 1 < (M.length : Int) := by omega
        have ni2 := neI (d + 4 * k + 4)
        have htn : ((k : Int) + 1).toNat = k + 1 := by omega
        clear hC hC1 hC2 Ry Rx hg hg2 hr2 hs2 hrl hsl e1 e2 hlt hlt2
        go_wp2
        go_roundw
        case rel => exact ⟨k + 1, by go_num, by omega, hbr⟩
        case measure => simp only [intOf]; omega
      · have hx := RE.out k (by omega)
        have HX := Lib.hid hx
        have ni2 := neI (d + 4 * k + 4)
        have hk2 : ¬ (k : Int) + 1 < (M.length : Int) := by omega
        rw [← hx] at p2 ni2
        clear hC hC1 Rx hg hr2 hrl e1 hlt hlt2 hx
        go_wp2
        go_roundw
        case rel => exact ⟨k + 1, by go_num, by omega, hbr⟩
        case measure => simp only [intOf]; omega
    · have hkM : ¬ (k : Int) < (M.length : Int) := by omega
      have hb08 := hb07.trans (hbr.mono hb07.size)
      clear hbr hb07 sM7 RW RE hlt
      go_wp2_with fail
      refine (DrawFirstStart_any A c L _ hI hl (hs.next hb08)).mono ?_; rintro e w2 ⟨v, rfl, ⟨A5, c5, F, x, rfl, ⟨hF, s5, _⟩, hx⟩, hb2⟩
      have hb02 := hb08.trans (hb2.mono hb08.size)
      have hp5w' := hb02.size
      have k5 := Blk.new w2 25 #[.int .i64 x.1, .int .i64 x.2.1, .int .i64 x.2.2.1, .int .i64 x.2.2.2.1, .int .i64 x.2.2.2.2]
      have hb05 : Below wo.heap.size wo (w2.alloc (.cells #[.int .i64 x.1, .int .i64 x.2.1, .int .i64 x.2.2.1, .int .i64 x.2.2.2.1, .int .i64 x.2.2.2.2] 25)) := hb02.alloc hb02.size _
      have s6 := s5.alloc (.cells #[.int .i64 x.1, .int .i64 x.2.1, .int .i64 x.2.2.1, .int .i64 x.2.2.2.1, .int .i64 x.2.2.2.2] 25)
      have sF := s5.below ((Below.refl _ w2).alloc (Nat.le_refl _) (.cells #[.int .i64 x.1, .int .i64 x.2.1, .int .i64 x.2.2.1, .int .i64 x.2.2.2.1, .int .i64 x.2.2.2.2] 25))
      have z5 : w2.heap.size ≤ (w2.alloc (.cells #[.int .i64 x.1, .int .i64 x.2.1, .int .i64 x.2.2.1, .int .i64 x.2.2.2.1, .int .i64 x.2.2.2.2] 25)).heap.size := by simp
      clear hb08 hb2 hb02 s5
      go_upto_region 21 with fail
      generalize w2.heap.size = p5 at *
      generalize w2.alloc (.cells #[.int .i64 x.1, .int .i64 x.2.1, .int .i64 x.2.2.1, .int .i64 x.2.2.2.1, .int .i64 x.2.2.2.2] 25) = w5 at *
      have hp5w : wo.heap.size ≤ p5 := hp5w'
      have hFl := hF.1
      have HIF := Lib.hid hF.inI
      have hm : (F.length : Int) ≤ 1048576 := by omega
      have e5 := k5.cell
      have C6 := Lib.hid (show Calls Try.prog 40 #[.slice A5 F.length c5, tripV x.1 x.2.1 x.2.2.1 x.2.2.2.1 x.2.2.2.2] w5 (fun e w' => e = .returned (.tuple #[.int .i64 (fsN F x), .bool (fsU F x)]) ∧ Below w5.heap.size w5 w') from FirstStart_any A5 c5 F x w5 s6 hm HIF.out)
      go_wp2_with fail
      refine C6.out.mono ?_; rintro e w6 ⟨rfl, hb6⟩
      have hb06 := hb05.trans (hb6.mono hb05.size)
      have k6 := k5.below' hb6
      have s7 := s6.next hb6
      have sF6 := sF.below (hb6.mono z5)
      have z6 : p5 ≤ w6.heap.size := by have := hb6.size; omega
      clear e5 k5 C6 hb05 hb6 s6 sF
      have e6 := k6.cell
      have C7 := Lib.hid (show Calls Try.prog 39 #[.slice A5 F.length c5, tripV x.1 x.2.1 x.2.2.1 x.2.2.2.1 x.2.2.2.2] w6 (fun e w' => e = .returned (.tuple #[.int .i64 (fsN F x), .bool (fsU F x)]) ∧ Below w6.heap.size w6 w') from SFirstStart_any A5 c5 F x w6 s7 hm HIF.out)
      go_wp2_with fail
      refine C7.out.mono ?_; rintro e w8 ⟨rfl, hb8⟩
      have hb08 := hb06.trans (hb8.mono hb06.size)
      have k8 := k6.below' hb8
      have s8 := s7.next hb8
      have HF1 := Lib.hid (fun h => (fsU_facts (L := F) (t := x) h).2.1)
      have HF2 := Lib.hid (fun h => fs_add (L := F) (t := x) h)
      have hxI := hx.inI
      have sF8 := sF6.below (hb8.mono z6)
      clear e6 k6 C7 hb06 hb8 s7 sF6
      have HIX : Hid (∀ n, InI n → InI5 (setS x n)) := fun n h => ⟨hxI.1, hxI.2.1, hxI.2.2.1, h, hxI.2.2.2.2⟩
      have HNI : Hid (fsU F x = true → InI (fsN F x)) := fun h => by
        obtain ⟨_, _, h1, _⟩ := fsU_facts h
        have := okT_bd h1
        exact ⟨by have := this.1; simp only [setS] at this; omega, by have := this.2; simp only [setS] at this; omega⟩
      generalize fsN F x = n at *
      generalize hT : fsU F x = told at *
      have nn := neI n
      have nt := neB told
      have e8 := k8.cell
      have f8 := k8.frozen
      have l8 := k8.lt
      cases told
      · clear HF1 HF2 HIX HNI hxI k8 s8 sF8 hm hF hx
        go_wp2_with fail
        refine (DrawAddTrip_any A c L _ hI hl (hs.next hb08)).mono ?_; rintro e w11 ⟨v, rfl, ⟨A11, c11, F2, y, rfl, ⟨hF2, s11, hcap⟩, hy⟩, hb11⟩
        have hb011 := hb08.trans (hb11.mono hb08.size)
        have k12 := Blk.new w11 25 #[.int .i64 y.1, .int .i64 y.2.1, .int .i64 y.2.2.1, .int .i64 y.2.2.2.1, .int .i64 y.2.2.2.2]
        have hb012 : Below wo.heap.size wo (w11.alloc (.cells #[.int .i64 y.1, .int .i64 y.2.1, .int .i64 y.2.2.1, .int .i64 y.2.2.2.1, .int .i64 y.2.2.2.2] 25)) := hb011.alloc hb011.size _
        have s12 := s11.alloc (.cells #[.int .i64 y.1, .int .i64 y.2.1, .int .i64 y.2.2.1, .int .i64 y.2.2.2.1, .int .i64 y.2.2.2.2] 25)
        clear hb08 hb11 hb011 s11
        go_upto_region 31 with fail
        generalize w11.heap.size = p12 at *
        generalize w11.alloc (.cells #[.int .i64 y.1, .int .i64 y.2.1, .int .i64 y.2.2.1, .int .i64 y.2.2.2.1, .int .i64 y.2.2.2.2] 25) = w12 at *
        have hF2l := hF2.1
        have hyI := hy.inI
        have HI2 := Lib.hid hF2.inI
        have hm2 : (F2.length : Int) ≤ 1048576 := by omega
        have hRl := addL_le F2 y
        have e12 := k12.cell
        have C13 := Lib.hid (AddTrip_any A11 c11 F2 y w12 s12 hm2 HI2.out hyI)
        go_wp2_with fail
        refine C13.out.mono ?_; rintro e w13 ⟨A13, c13, rfl, o13, hb13⟩
        have hb013 := hb012.trans (hb13.mono hb012.size)
        have k13 := k12.below' hb13
        have C14 := Lib.hid (SAddTrip_any A11 c11 F2 y w13 (s12.next hb13) hm2 HI2.out hyI hcap)
        clear e12 k12 s12 hb012 C13
        have e13 := k13.cell
        go_wp2_with fail
        refine C14.out.mono ?_; rintro e w14 ⟨A14, c14, rfl, o14, hb14⟩
        have hb014 := hb013.trans (hb14.mono hb013.size)
        have q13 := (o13.next hb14).sl
        have q14 := o14.sl
        clear C14 e13 k13 hb13 hb14 hb013 o13 o14 hcap
        generalize addL F2 y = R at *
        generalize addU F2 y = r at *
        have nb := neB r
        have C15 := Lib.hid (rTrips_same A13 A14 c13 c14 R w14 q13 q14 (by omega))
        go_wp2_with fail
        refine C15.out.mono ?_; rintro e w15 ⟨rfl, hb15⟩
        have hb015 := hb014.trans (hb15.mono hb014.size)
        clear C15 q13 q14 hb15 hb014 hm2 hF2 hy hRl
        go_wp2_with fail
        refine (DrawOnTheWay_any A c L _ hI hl (hs.next hb015)).mono ?_; rintro e w16 ⟨v, rfl, ⟨A16, c16, F3, z, rfl, ⟨hF3, s16, _⟩, hz⟩, hb16⟩
        have hb016 := hb015.trans (hb16.mono hb015.size)
        have hF3l := hF3.1
        have HI3 := Lib.hid hF3.inI
        have hm3 : (F3.length : Int) ≤ 1048576 := by omega
        clear hb015 hb16
        have C17 := Lib.hid (OnTheWay_any A16 c16 F3 z w16 s16 hm3 HI3.out)
        go_wp2_with fail
        refine C17.out.mono ?_; rintro e w17 ⟨A17, c17, rfl, o17, hb17⟩
        have hb017 := hb016.trans (hb17.mono hb016.size)
        have C18 := Lib.hid (SOnTheWay_any A16 c16 F3 z w17 (s16.next hb17) hm3 HI3.out)
        clear C17 hb016
        go_wp2_with fail
        refine C18.out.mono ?_; rintro e w18 ⟨A18, c18, rfl, o18, hb18⟩
        have hb018 := hb017.trans (hb18.mono hb017.size)
        have q17 := (o17.next hb18).sl
        have q18 := o18.sl
        have s18 := (s16.next hb17).next hb18
        have hOl := otwL_len F3 z
        clear C18 hb017 hb17 hb18 o17 o18 s16
        generalize otwL F3 z = R3 at *
        generalize otwB F3 z = r3 at *
        have eb3 : (r3 == r3) = true := by cases r3 <;> rfl
        have C19 := Lib.hid (rInts_same A17 A18 c17 c18 R3 w18 q17 q18 (by omega))
        go_wp2_with fail
        refine C19.out.mono ?_; rintro e w19 ⟨rfl, hb19⟩
        have hb019 := hb018.trans (hb19.mono hb018.size)
        have s19 := s18.next hb19
        clear C19 hb018 hb19 s18 q17 q18
        have C20 := Lib.hid (AreTrips_any A16 c16 F3 w19 s19 hm3 HI3.out)
        go_wp2_with fail
        refine C20.out.mono ?_; rintro e w20 ⟨rfl, hb20⟩
        have hb020 := hb019.trans (hb20.mono hb019.size)
        have C21 := Lib.hid (SAreTrips_any A16 c16 F3 w20 (s19.next hb20) hm3 HI3.out)
        clear C20 hb019 hb20 s19
        go_wp2_with fail
        refine C21.out.mono ?_; rintro e w21 ⟨rfl, hb21⟩
        have hb021 := hb020.trans (hb21.mono hb020.size)
        generalize tripsB F3 = r4 at *
        have eb4 : (r4 == r4) = true := by cases r4 <;> rfl
        clear C21 hb020 hb21
        go_wp2
        go_ret
        exact ⟨rfl, hb021⟩
      · have hge := HF1.out rfl
        have hge2 : ¬ n < x.2.2.2.1 := by omega
        have hadd := HF2.out rfl
        have hnI := HIX.out n (HNI.out rfl)
        have k9 : Blk (w8.setCell ⟨p5, 3, none⟩ (.int .i64 n)) p5 25 #[.int .i64 (setS x n).1, .int .i64 (setS x n).2.1, .int .i64 (setS x n).2.2.1, .int .i64 (setS x n).2.2.2.1, .int .i64 (setS x n).2.2.2.2] := by
          have := k8.set_ 3 (.int .i64 n)
          simpa [setS] using this
        have K9 := Lib.hid k9
        have hp5 : p5 ≤ w8.heap.size := Nat.le_of_lt l8
        have S9 := Lib.hid (show SlR f5 5 (w8.setCell ⟨p5, 3, none⟩ (.int .i64 n)) (w8.setCell ⟨p5, 3, none⟩ (.int .i64 n)).heap.size A5 F from
          (sF8.below ((Below.refl p5 w8).setCell (p := ⟨p5, 3, none⟩) (Nat.le_refl _) _)).mono (by have := ((Below.refl p5 w8).setCell (p := ⟨p5, 3, none⟩) (Nat.le_refl _) (.int .i64 n)).size; omega))
        have B9 := Lib.hid (show Below wo.heap.size wo (w8.setCell ⟨p5, 3, none⟩ (.int .i64 n)) from hb08.setCell (p := ⟨p5, 3, none⟩) hp5w _)
        clear k9 k8 s8 sF8 HF1 HF2 HIX HNI hxI hb08
        go_upto_region 27 with fail
        clear e8 f8 l8
        generalize w8.setCell ⟨p5, 3, none⟩ (.int .i64 n) = w9 at *
        have hb09 := B9.out
        have e9 := K9.out.cell
        simp only [setS] at e9
        have C9 := Lib.hid (show Calls Try.prog 47 #[.slice A5 F.length c5, .agg #[.int .i64 x.1, .int .i64 x.2.1, .int .i64 x.2.2.1, .int .i64 n, .int .i64 x.2.2.2.2]] w9 (NewSl2 f5 5 25 w9 (addL F (setS x n)) (addU F (setS x n))) from AddTrip_any A5 c5 F (setS x n) w9 S9.out hm HIF.out hnI)
        go_wp2_with fail
        refine C9.out.mono ?_; rintro e w10 ⟨A10, c10, rfl, -, hb10⟩
        rw [hadd]
        have hb08 := hb09.trans (hb10.mono hb09.size)
        clear C9 e9 K9 S9 B9 hb09 hb10 hm hF hx hnI hge hge2 hadd
        by_cases hcap : F.length < 10
        · rw [show decide (F.length < 10) = true from decide_eq_true hcap]
          have hcap1 : (F.length : Int) < 10 := by omega
          have hcap2 : ((F.length : Int) < 10) = True := by simp; omega
          clear hcap
          go_wp2_with fail
          refine (DrawAddTrip_any A c L _ hI hl (hs.next hb08)).mono ?_; rintro e w11 ⟨v, rfl, ⟨A11, c11, F2, y, rfl, ⟨hF2, s11, hcap⟩, hy⟩, hb11⟩
          have hb011 := hb08.trans (hb11.mono hb08.size)
          have k12 := Blk.new w11 25 #[.int .i64 y.1, .int .i64 y.2.1, .int .i64 y.2.2.1, .int .i64 y.2.2.2.1, .int .i64 y.2.2.2.2]
          have hb012 : Below wo.heap.size wo (w11.alloc (.cells #[.int .i64 y.1, .int .i64 y.2.1, .int .i64 y.2.2.1, .int .i64 y.2.2.2.1, .int .i64 y.2.2.2.2] 25)) := hb011.alloc hb011.size _
          have s12 := s11.alloc (.cells #[.int .i64 y.1, .int .i64 y.2.1, .int .i64 y.2.2.1, .int .i64 y.2.2.2.1, .int .i64 y.2.2.2.2] 25)
          clear hb08 hb11 hb011 s11
          go_upto_region 31 with fail
          generalize w11.heap.size = p12 at *
          generalize w11.alloc (.cells #[.int .i64 y.1, .int .i64 y.2.1, .int .i64 y.2.2.1, .int .i64 y.2.2.2.1, .int .i64 y.2.2.2.2] 25) = w12 at *
          have hF2l := hF2.1
          have hyI := hy.inI
          have HI2 := Lib.hid hF2.inI
          have hm2 : (F2.length : Int) ≤ 1048576 := by omega
          have hRl := addL_le F2 y
          have e12 := k12.cell
          have C13 := Lib.hid (AddTrip_any A11 c11 F2 y w12 s12 hm2 HI2.out hyI)
          go_wp2_with fail
          refine C13.out.mono ?_; rintro e w13 ⟨A13, c13, rfl, o13, hb13⟩
          have hb013 := hb012.trans (hb13.mono hb012.size)
          have k13 := k12.below' hb13
          have C14 := Lib.hid (SAddTrip_any A11 c11 F2 y w13 (s12.next hb13) hm2 HI2.out hyI hcap)
          clear e12 k12 s12 hb012 C13
          have e13 := k13.cell
          go_wp2_with fail
          refine C14.out.mono ?_; rintro e w14 ⟨A14, c14, rfl, o14, hb14⟩
          have hb014 := hb013.trans (hb14.mono hb013.size)
          have q13 := (o13.next hb14).sl
          have q14 := o14.sl
          clear C14 e13 k13 hb13 hb14 hb013 o13 o14 hcap
          generalize addL F2 y = R at *
          generalize addU F2 y = r at *
          have nb := neB r
          have C15 := Lib.hid (rTrips_same A13 A14 c13 c14 R w14 q13 q14 (by omega))
          go_wp2_with fail
          refine C15.out.mono ?_; rintro e w15 ⟨rfl, hb15⟩
          have hb015 := hb014.trans (hb15.mono hb014.size)
          clear C15 q13 q14 hb15 hb014 hm2 hF2 hy hRl
          go_wp2_with fail
          refine (DrawOnTheWay_any A c L _ hI hl (hs.next hb015)).mono ?_; rintro e w16 ⟨v, rfl, ⟨A16, c16, F3, z, rfl, ⟨hF3, s16, _⟩, hz⟩, hb16⟩
          have hb016 := hb015.trans (hb16.mono hb015.size)
          have hF3l := hF3.1
          have HI3 := Lib.hid hF3.inI
          have hm3 : (F3.length : Int) ≤ 1048576 := by omega
          clear hb015 hb16
          have C17 := Lib.hid (OnTheWay_any A16 c16 F3 z w16 s16 hm3 HI3.out)
          go_wp2_with fail
          refine C17.out.mono ?_; rintro e w17 ⟨A17, c17, rfl, o17, hb17⟩
          have hb017 := hb016.trans (hb17.mono hb016.size)
          have C18 := Lib.hid (SOnTheWay_any A16 c16 F3 z w17 (s16.next hb17) hm3 HI3.out)
          clear C17 hb016
          go_wp2_with fail
          refine C18.out.mono ?_; rintro e w18 ⟨A18, c18, rfl, o18, hb18⟩
          have hb018 := hb017.trans (hb18.mono hb017.size)
          have q17 := (o17.next hb18).sl
          have q18 := o18.sl
          have s18 := (s16.next hb17).next hb18
          have hOl := otwL_len F3 z
          clear C18 hb017 hb17 hb18 o17 o18 s16
          generalize otwL F3 z = R3 at *
          generalize otwB F3 z = r3 at *
          have eb3 : (r3 == r3) = true := by cases r3 <;> rfl
          have C19 := Lib.hid (rInts_same A17 A18 c17 c18 R3 w18 q17 q18 (by omega))
          go_wp2_with fail
          refine C19.out.mono ?_; rintro e w19 ⟨rfl, hb19⟩
          have hb019 := hb018.trans (hb19.mono hb018.size)
          have s19 := s18.next hb19
          clear C19 hb018 hb19 s18 q17 q18
          have C20 := Lib.hid (AreTrips_any A16 c16 F3 w19 s19 hm3 HI3.out)
          go_wp2_with fail
          refine C20.out.mono ?_; rintro e w20 ⟨rfl, hb20⟩
          have hb020 := hb019.trans (hb20.mono hb019.size)
          have C21 := Lib.hid (SAreTrips_any A16 c16 F3 w20 (s19.next hb20) hm3 HI3.out)
          clear C20 hb019 hb20 s19
          go_wp2_with fail
          refine C21.out.mono ?_; rintro e w21 ⟨rfl, hb21⟩
          have hb021 := hb020.trans (hb21.mono hb020.size)
          generalize tripsB F3 = r4 at *
          have eb4 : (r4 == r4) = true := by cases r4 <;> rfl
          clear C21 hb020 hb21
          go_wp2
          go_ret
          exact ⟨rfl, hb021⟩
        · rw [show decide (F.length < 10) = false from decide_eq_false hcap]
          have hcap1 : ¬ (F.length : Int) < 10 := by omega
          have hcap2 : ¬ F.length < 10 := hcap
          go_wp2_with fail
          refine (DrawAddTrip_any A c L _ hI hl (hs.next hb08)).mono ?_; rintro e w11 ⟨v, rfl, ⟨A11, c11, F2, y, rfl, ⟨hF2, s11, hcap⟩, hy⟩, hb11⟩
          have hb011 := hb08.trans (hb11.mono hb08.size)
          have k12 := Blk.new w11 25 #[.int .i64 y.1, .int .i64 y.2.1, .int .i64 y.2.2.1, .int .i64 y.2.2.2.1, .int .i64 y.2.2.2.2]
          have hb012 : Below wo.heap.size wo (w11.alloc (.cells #[.int .i64 y.1, .int .i64 y.2.1, .int .i64 y.2.2.1, .int .i64 y.2.2.2.1, .int .i64 y.2.2.2.2] 25)) := hb011.alloc hb011.size _
          have s12 := s11.alloc (.cells #[.int .i64 y.1, .int .i64 y.2.1, .int .i64 y.2.2.1, .int .i64 y.2.2.2.1, .int .i64 y.2.2.2.2] 25)
          clear hb08 hb11 hb011 s11
          go_upto_region 31 with fail
          generalize w11.heap.size = p12 at *
          generalize w11.alloc (.cells #[.int .i64 y.1, .int .i64 y.2.1, .int .i64 y.2.2.1, .int .i64 y.2.2.2.1, .int .i64 y.2.2.2.2] 25) = w12 at *
          have hF2l := hF2.1
          have hyI := hy.inI
          have HI2 := Lib.hid hF2.inI
          have hm2 : (F2.length : Int) ≤ 1048576 := by omega
          have hRl := addL_le F2 y
          have e12 := k12.cell
          have C13 := Lib.hid (AddTrip_any A11 c11 F2 y w12 s12 hm2 HI2.out hyI)
          go_wp2_with fail
          refine C13.out.mono ?_; rintro e w13 ⟨A13, c13, rfl, o13, hb13⟩
          have hb013 := hb012.trans (hb13.mono hb012.size)
          have k13 := k12.below' hb13
          have C14 := Lib.hid (SAddTrip_any A11 c11 F2 y w13 (s12.next hb13) hm2 HI2.out hyI hcap)
          clear e12 k12 s12 hb012 C13
          have e13 := k13.cell
          go_wp2_with fail
          refine C14.out.mono ?_; rintro e w14 ⟨A14, c14, rfl, o14, hb14⟩
          have hb014 := hb013.trans (hb14.mono hb013.size)
          have q13 := (o13.next hb14).sl
          have q14 := o14.sl
          clear C14 e13 k13 hb13 hb14 hb013 o13 o14 hcap
          generalize addL F2 y = R at *
          generalize addU F2 y = r at *
          have nb := neB r
          have C15 := Lib.hid (rTrips_same A13 A14 c13 c14 R w14 q13 q14 (by omega))
          go_wp2_with fail
          refine C15.out.mono ?_; rintro e w15 ⟨rfl, hb15⟩
          have hb015 := hb014.trans (hb15.mono hb014.size)
          clear C15 q13 q14 hb15 hb014 hm2 hF2 hy hRl
          go_wp2_with fail
          refine (DrawOnTheWay_any A c L _ hI hl (hs.next hb015)).mono ?_; rintro e w16 ⟨v, rfl, ⟨A16, c16, F3, z, rfl, ⟨hF3, s16, _⟩, hz⟩, hb16⟩
          have hb016 := hb015.trans (hb16.mono hb015.size)
          have hF3l := hF3.1
          have HI3 := Lib.hid hF3.inI
          have hm3 : (F3.length : Int) ≤ 1048576 := by omega
          clear hb015 hb16
          have C17 := Lib.hid (OnTheWay_any A16 c16 F3 z w16 s16 hm3 HI3.out)
          go_wp2_with fail
          refine C17.out.mono ?_; rintro e w17 ⟨A17, c17, rfl, o17, hb17⟩
          have hb017 := hb016.trans (hb17.mono hb016.size)
          have C18 := Lib.hid (SOnTheWay_any A16 c16 F3 z w17 (s16.next hb17) hm3 HI3.out)
          clear C17 hb016
          go_wp2_with fail
          refine C18.out.mono ?_; rintro e w18 ⟨A18, c18, rfl, o18, hb18⟩
          have hb018 := hb017.trans (hb18.mono hb017.size)
          have q17 := (o17.next hb18).sl
          have q18 := o18.sl
          have s18 := (s16.next hb17).next hb18
          have hOl := otwL_len F3 z
          clear C18 hb017 hb17 hb18 o17 o18 s16
          generalize otwL F3 z = R3 at *
          generalize otwB F3 z = r3 at *
          have eb3 : (r3 == r3) = true := by cases r3 <;> rfl
          have C19 := Lib.hid (rInts_same A17 A18 c17 c18 R3 w18 q17 q18 (by omega))
          go_wp2_with fail
          refine C19.out.mono ?_; rintro e w19 ⟨rfl, hb19⟩
          have hb019 := hb018.trans (hb19.mono hb018.size)
          have s19 := s18.next hb19
          clear C19 hb018 hb19 s18 q17 q18
          have C20 := Lib.hid (AreTrips_any A16 c16 F3 w19 s19 hm3 HI3.out)
          go_wp2_with fail
          refine C20.out.mono ?_; rintro e w20 ⟨rfl, hb20⟩
          have hb020 := hb019.trans (hb20.mono hb019.size)
          have C21 := Lib.hid (SAreTrips_any A16 c16 F3 w20 (s19.next hb20) hm3 HI3.out)
          clear C20 hb019 hb20 s19
          go_wp2_with fail
          refine C21.out.mono ?_; rintro e w21 ⟨rfl, hb21⟩
          have hb021 := hb020.trans (hb21.mono hb020.size)
          generalize tripsB F3 = r4 at *
          have eb4 : (r4 == r4) = true := by cases r4 <;> rfl
          clear C21 hb020 hb21
          go_wp2
          go_ret
          exact ⟨rfl, hb021⟩
end Go.Proofs.Ytfcmfadkkfkidaa
