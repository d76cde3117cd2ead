/-
  FirstStart: the program and the reference.
-/
import Derived.Test.YtfcmfadkkfkidaaFirst0
import Derived.Test.YtfcmfadkkfkidaaTrip4
import Derived.Deep.DeepCutAuto
import Derived.WalkKit
import Derived.WalkSpells
import Derived.WalkLawsBesides
import Derived.Lib.Hide
import Derived.Deep.QuietTactic
import Derived.BigQuiet
import Derived.StillTailTactics
namespace Go.Proofs.Ytfcmfadkkfkidaa
open Go.RowKit

set_option maxHeartbeats 8000000 in
theorem FirstStart_any (A : Option Addr) (c : Nat) (L : List T5) (t : T5) (w : World) (hr : SlR f5 5 w w.heap.size A L) (hm : (L.length : Int) ≤ 1048576) (hI : ∀ x ∈ L, InI5 x) :
    Calls Try.prog 40 #[.slice A L.length c, tripV t.1 t.2.1 t.2.2.1 t.2.2.2.1 t.2.2.2.2] w fun e w' => e = .returned (fsV L t) ∧ Below w.heap.size w w' := by
  have k1 := Blk.new w 25 #[.int .i64 t.1, .int .i64 t.2.1, .int .i64 t.2.2.1, .int .i64 t.2.2.2.1, .int .i64 t.2.2.2.2]
  have e1 := k1.cell
  have hb1 : Below w.heap.size w (w.alloc (.cells #[.int .i64 t.1, .int .i64 t.2.1, .int .i64 t.2.2.1, .int .i64 t.2.2.2.1, .int .i64 t.2.2.2.2] 25)) := by (repeat (first | exact Below.refl _ _ | refine Below.drew ?_ | refine below_drewN ?_ _ | (refine Below.alloc ?_ (by (try simp) <;> omega) _) | (refine Below.setCell ?_ (by (try simp) <;> omega) _) | (refine Below.trans ?_ (Below.mono (by assumption) (by (try simp) <;> omega)))))
  have hr1 := hr.alloc (.cells #[.int .i64 t.1, .int .i64 t.2.1, .int .i64 t.2.2.1, .int .i64 t.2.2.2.1, .int .i64 t.2.2.2.2] 25)
  have HI := Lib.hid hI; clear hI
  cases h1 : tripsB L
  · have Hv := Lib.hid (fs_no (fs_off (show fsB L t = false by simp [fsB, h1])))
    go_enter Try.func40, Try.ntmps40
    go_wp2_with fail
    refine (AreTrips_any _ _ L _ hr1 hm HI.out).mono ?_; rintro e w2 ⟨rfl, hb2⟩
    rw [h1]
    go_wp2
    go_ret2
    exact ⟨by rw [Hv.out]; rfl, hb1.trans (hb2.mono hb1.size)⟩
  have HL := Lib.hid (trOk_all h1)
  cases h2 : okT t
  · have Hv := Lib.hid (fs_no (fs_off (show fsB L t = false by simp [fsB, h1, h2])))
    have H2 : Hid (tripB t.1 t.2.1 t.2.2.1 t.2.2.2.1 t.2.2.2.2 = false) := h2
    clear h2
    go_enter Try.func40, Try.ntmps40
    go_wp2_with fail
    refine (AreTrips_any _ _ L _ hr1 hm HI.out).mono ?_; rintro e w2 ⟨rfl, hb2⟩
    rw [h1]
    have k2 := k1.below' hb2
    have e2 := k2.cell
    have hb02 := hb1.trans (hb2.mono hb1.size)
    clear e1
    go_wp2_with fail
    refine (IsTrip_any _ _ _ _ _ _).mono ?_; rintro e w3 ⟨rfl, hb3⟩
    rw [H2.out]
    go_wp2
    go_ret2
    exact ⟨by rw [Hv.out]; rfl, hb02.trans (hb3.mono hb02.size)⟩
  have H2 : Hid (tripB t.1 t.2.1 t.2.2.1 t.2.2.2.1 t.2.2.2.2 = true) := h2
  have Hon := Lib.hid (fun h3 : atT L t.1 < 0 => fs_on (show fsB L t = true by simp [fsB, h1, h2]; omega))
  have Hoff := Lib.hid (fun h3 : 0 ≤ atT L t.1 => fs_no (fs_off (show fsB L t = false by simp [fsB, h3])))
  have hs1 := okT_bd h2
  clear h2
  go_enter Try.func40, Try.ntmps40
  go_wp2_with fail
  refine (AreTrips_any _ _ L _ hr1 hm HI.out).mono ?_; rintro e w2 ⟨rfl, hb2⟩
  rw [h1]
  have k2 := k1.below' hb2
  have e2 := k2.cell
  have hb02 := hb1.trans (hb2.mono hb1.size)
  have hr2 := hr1.next hb2
  clear e1
  go_wp2_with fail
  refine (IsTrip_any _ _ _ _ _ _).mono ?_; rintro e w3 ⟨rfl, hb3⟩
  rw [H2.out]
  have k3 := k2.below' hb3
  have e3 := k3.cell
  have hb03 := hb02.trans (hb3.mono hb02.size)
  have hr3 := hr2.next hb3
  clear e2
  go_wp2_with fail
  refine (tripAt_any _ _ L t.1 _ (hr3) hm).mono ?_; rintro e w4 ⟨rfl, hb4⟩
  have hb04 := hb03.trans (hb4.mono hb03.size)
  have k4 := k3.below' hb4
  by_cases h3 : 0 ≤ atT L t.1
  · have Hv := Lib.hid (Hoff.out h3)
    generalize atT L t.1 = r at *
    go_wp2
    go_ret2
    exact ⟨by rw [Hv.out]; rfl, hb04⟩
  have Hv := Lib.hid (Hon.out (by omega))
  have ht0 : setS t t.2.2.2.1 = t := rfl
  have HT0 := Lib.hid ht0; clear ht0
  clear Hon Hoff hr1 hr2 hr3 k1 k2 hb1 hb02 e3 hb2 hb3
  have h3' : atT L t.1 < 0 := by omega
  generalize atT L t.1 = r at *
  have K4 := k4
  have HB4 := hb04
  clear k4 hb04
  generalize hp : w.heap.size = p at *
  have Hp := Lib.hid hp; clear hp
  go_wp2
  go_loopw [] (fun wr => ∃ (n : Nat) (s : Int), (t.2.2.2.1 ≤ s ∧ s ≤ 1441) ∧ Hid (s + n = t.2.2.2.1 + 2000) ∧ Hid (fsO L t = firstS L t n s) ∧ Hid (Blk wr p 25 #[.int .i64 t.1, .int .i64 t.2.1, .int .i64 t.2.2.1, .int .i64 s, .int .i64 t.2.2.2.2]) ∧ Below p w wr) (fun wr => (1441 - stOf wr p).toNat)
  case atStart => exact ⟨2000, t.2.2.2.1, ⟨by omega, by omega⟩, rfl, Hv, K4, HB4⟩
  case round =>
    obtain ⟨n, s, ⟨s0, s1⟩, hn, hf, hk, hb⟩ := hrel
    have zr := hb.size
    have hst := Lib.hid (stOf_blk hk.out)
    have hlt := hk.out.lt
    have e5 := hk.out.cell
    have hzp : p ≤ w.heap.size := by have := Hp.out; omega
    go_wp2_with fail
    refine (IsTrip_any _ _ _ _ _ _).mono ?_; rintro e w5 ⟨rfl, hb5⟩
    have k5 := hk.out.below' hb5
    have e6 := k5.cell
    have hb05 := hb.trans (hb5.mono (by omega))
    have z5 := hb5.size
    cases ho : okT (setS t s)
    · have HV := Lib.hid (fs_no (hf.out.trans (fs_end ho)))
      have ho' : tripB t.1 t.2.1 t.2.2.1 s t.2.2.2.2 = false := ho
      rw [ho']
      clear e5 e6
      go_wp2
      go_ret2
      exact ⟨by rw [HV.out]; rfl, by rw [Hp.out]; exact hb05⟩
    · have ho' : tripB t.1 t.2.1 t.2.2.1 s t.2.2.2.2 = true := ho
      rw [ho']
      have hs := okT_bd ho
      have hs0 : 0 ≤ s := hs.1
      have hs4 : s ≤ 1440 := hs.2
      clear hs
      obtain ⟨n, rfl⟩ : ∃ m, n = m + 1 := ⟨n - 1, by have := hn.out; omega⟩
      have HS : SlR f5 5 w5 w5.heap.size A L := (hr.below hb05).mono (by omega)
      clear e5
      go_wp2_with fail
      refine (meetsAny_any _ _ L (setS t s) _ HS hm HL.out (TrOk.of ho)).mono ?_; rintro e w6 ⟨rfl, hb6⟩
      have k6 := k5.below' hb6
      have e7 := k6.cell
      have ff7 := k6.frozen
      have hb06 := hb05.trans (hb6.mono (by omega))
      clear e6
      cases hmm : metB L (setS t s)
      · have HV := Lib.hid (fs_yes (hf.out.trans (fs_hit ho hmm)))
        go_wp2
        go_ret2
        exact ⟨by rw [HV.out]; rfl, by rw [Hp.out]; exact hb06⟩
      · have HF := Lib.hid (hf.out.trans (fs_next ho hmm))
        have K7 : Hid (Blk (w6.setCell ⟨p, 3, none⟩ (.int .i64 (s + 1))) p 25 #[.int .i64 t.1, .int .i64 t.2.1, .int .i64 t.2.2.1, .int .i64 (s + 1), .int .i64 t.2.2.2.2]) := k6.set_ 3 (.int .i64 (s + 1))
        have HB7 := hb06.setCell (p := ⟨p, 3, none⟩) (Nat.le_refl p) (.int .i64 (s + 1))
        have HST := Lib.hid (stOf_blk K7.out)
        have HN : Hid (s + 1 + (n : Int) = t.2.2.2.1 + 2000) := (by have := hn.out; omega : s + 1 + (n : Int) = t.2.2.2.1 + 2000)
        clear hk hn hf HS ho ho' hmm hb hb5 hb6 hb05 hb06 k5 k6
        go_wp2
        go_roundw
        case rel => exact ⟨n, s + 1, ⟨by omega, by omega⟩, HN, HF, K7, HB7⟩
        case measure => rw [HST.out, hst.out]; omega

set_option maxHeartbeats 8000000 in
theorem SFirstStart_any (A : Option Addr) (c : Nat) (L : List T5) (t : T5) (w : World) (hr : SlR f5 5 w w.heap.size A L) (hm : (L.length : Int) ≤ 1048576) (hI : ∀ x ∈ L, InI5 x) :
    Calls Try.prog 39 #[.slice A L.length c, tripV t.1 t.2.1 t.2.2.1 t.2.2.2.1 t.2.2.2.2] w fun e w' => e = .returned (fsV L t) ∧ Below w.heap.size w w' := by
  have k1 := Blk.new w 25 #[.int .i64 t.1, .int .i64 t.2.1, .int .i64 t.2.2.1, .int .i64 t.2.2.2.1, .int .i64 t.2.2.2.2]
  have e1 := k1.cell
  have hb1 : Below w.heap.size w (w.alloc (.cells #[.int .i64 t.1, .int .i64 t.2.1, .int .i64 t.2.2.1, .int .i64 t.2.2.2.1, .int .i64 t.2.2.2.2] 25)) := by (repeat (first | exact Below.refl _ _ | refine Below.drew ?_ | refine below_drewN ?_ _ | (refine Below.alloc ?_ (by (try simp) <;> omega) _) | (refine Below.setCell ?_ (by (try simp) <;> omega) _) | (refine Below.trans ?_ (Below.mono (by assumption) (by (try simp) <;> omega)))))
  have hr1 := hr.alloc (.cells #[.int .i64 t.1, .int .i64 t.2.1, .int .i64 t.2.2.1, .int .i64 t.2.2.2.1, .int .i64 t.2.2.2.2] 25)
  have HI := Lib.hid hI; clear hI
  cases h1 : tripsB L
  · have Hv := Lib.hid (fs_no (fs_off (show fsB L t = false by simp [fsB, h1])))
    go_enter Try.func39, Try.ntmps39
    go_wp2_with fail
    refine (l11Good_any _ _ L _ hr1 hm HI.out).mono ?_; rintro e w2 ⟨rfl, hb2⟩
    rw [h1]
    go_wp2
    go_ret2
    exact ⟨by rw [Hv.out]; rfl, hb1.trans (hb2.mono hb1.size)⟩
  have HL := Lib.hid (trOk_all h1)
  cases h2 : okT t
  · have Hv := Lib.hid (fs_no (fs_off (show fsB L t = false by simp [fsB, h1, h2])))
    have H2 : Hid (tripB t.1 t.2.1 t.2.2.1 t.2.2.2.1 t.2.2.2.2 = false) := h2
    clear h2
    go_enter Try.func39, Try.ntmps39
    go_wp2_with fail
    refine (l11Good_any _ _ L _ hr1 hm HI.out).mono ?_; rintro e w2 ⟨rfl, hb2⟩
    rw [h1]
    have k2 := k1.below' hb2
    have e2 := k2.cell
    have hb02 := hb1.trans (hb2.mono hb1.size)
    clear e1
    go_wp2_with fail
    refine (l11One_any _ _ _ _ _ _).mono ?_; rintro e w3 ⟨rfl, hb3⟩
    rw [H2.out]
    go_wp2
    go_ret2
    exact ⟨by rw [Hv.out]; rfl, hb02.trans (hb3.mono hb02.size)⟩
  have H2 : Hid (tripB t.1 t.2.1 t.2.2.1 t.2.2.2.1 t.2.2.2.2 = true) := h2
  have Hon := Lib.hid (fun h3 : atT L t.1 < 0 => fs_on (show fsB L t = true by simp [fsB, h1, h2]; omega))
  have Hoff := Lib.hid (fun h3 : 0 ≤ atT L t.1 => fs_no (fs_off (show fsB L t = false by simp [fsB, h3])))
  have hs1 := okT_bd h2
  clear h2
  go_enter Try.func39, Try.ntmps39
  go_wp2_with fail
  refine (l11Good_any _ _ L _ hr1 hm HI.out).mono ?_; rintro e w2 ⟨rfl, hb2⟩
  rw [h1]
  have k2 := k1.below' hb2
  have e2 := k2.cell
  have hb02 := hb1.trans (hb2.mono hb1.size)
  have hr2 := hr1.next hb2
  clear e1
  go_wp2_with fail
  refine (l11One_any _ _ _ _ _ _).mono ?_; rintro e w3 ⟨rfl, hb3⟩
  rw [H2.out]
  have k3 := k2.below' hb3
  have e3 := k3.cell
  have hb03 := hb02.trans (hb3.mono hb02.size)
  have hr3 := hr2.next hb3
  clear e2
  go_wp2_with fail
  refine (l11Find_any _ _ L t.1 _ (hr3) hm).mono ?_; rintro e w' ⟨rfl, rfl⟩
  by_cases h3 : 0 ≤ atT L t.1
  · have Hv := Lib.hid (Hoff.out h3)
    generalize atT L t.1 = r at *
    go_wp2
    go_ret2
    exact ⟨by rw [Hv.out]; rfl, hb03⟩
  have Hv := Lib.hid (Hon.out (by omega))
  have ht0 : setS t t.2.2.2.1 = t := rfl
  have HT0 := Lib.hid ht0; clear ht0
  clear Hon Hoff hr1 hr2 hr3 k1 k2 hb1 hb02 e3 hb2 hb3
  have h3' : atT L t.1 < 0 := by omega
  generalize atT L t.1 = r at *
  have K4 := k3
  have HB4 := hb03
  clear k3 hb03
  generalize hp : w.heap.size = p at *
  have Hp := Lib.hid hp; clear hp
  go_wp2
  go_loopw [] (fun wr => ∃ (n : Nat) (s : Int), (t.2.2.2.1 ≤ s ∧ s ≤ 1441) ∧ Hid (s + n = t.2.2.2.1 + 2000) ∧ Hid (fsO L t = firstS L t n s) ∧ Hid (Blk wr p 25 #[.int .i64 t.1, .int .i64 t.2.1, .int .i64 t.2.2.1, .int .i64 s, .int .i64 t.2.2.2.2]) ∧ Below p w wr) (fun wr => (1441 - stOf wr p).toNat)
  case atStart => exact ⟨2000, t.2.2.2.1, ⟨by omega, by omega⟩, rfl, Hv, K4, HB4⟩
  case round =>
    obtain ⟨n, s, ⟨s0, s1⟩, hn, hf, hk, hb⟩ := hrel
    have zr := hb.size
    have hst := Lib.hid (stOf_blk hk.out)
    have hlt := hk.out.lt
    have e5 := hk.out.cell
    have hzp : p ≤ w.heap.size := by have := Hp.out; omega
    go_wp2_with fail
    refine (l11One_any _ _ _ _ _ _).mono ?_; rintro e w5 ⟨rfl, hb5⟩
    have k5 := hk.out.below' hb5
    have e6 := k5.cell
    have hb05 := hb.trans (hb5.mono (by omega))
    have z5 := hb5.size
    cases ho : okT (setS t s)
    · have HV := Lib.hid (fs_no (hf.out.trans (fs_end ho)))
      have ho' : tripB t.1 t.2.1 t.2.2.1 s t.2.2.2.2 = false := ho
      rw [ho']
      clear e5 e6
      go_wp2
      go_ret2
      exact ⟨by rw [HV.out]; rfl, by rw [Hp.out]; exact hb05⟩
    · have ho' : tripB t.1 t.2.1 t.2.2.1 s t.2.2.2.2 = true := ho
      rw [ho']
      have hs := okT_bd ho
      have hs0 : 0 ≤ s := hs.1
      have hs4 : s ≤ 1440 := hs.2
      clear hs
      obtain ⟨n, rfl⟩ : ∃ m, n = m + 1 := ⟨n - 1, by have := hn.out; omega⟩
      have HS : SlR f5 5 w5 w5.heap.size A L := (hr.below hb05).mono (by omega)
      clear e5
      go_wp2_with fail
      refine (l11Free_any _ _ L (setS t s) _ HS hm HL.out (TrOk.of ho)).mono ?_; rintro e w6 ⟨rfl, hb6⟩
      have k6 := k5.below' hb6
      have e7 := k6.cell
      have ff7 := k6.frozen
      have hb06 := hb05.trans (hb6.mono (by omega))
      clear e6
      cases hmm : metB L (setS t s)
      · have HV := Lib.hid (fs_yes (hf.out.trans (fs_hit ho hmm)))
        go_wp2
        go_ret2
        exact ⟨by rw [HV.out]; rfl, by rw [Hp.out]; exact hb06⟩
      · have HF := Lib.hid (hf.out.trans (fs_next ho hmm))
        have K7 : Hid (Blk (w6.setCell ⟨p, 3, none⟩ (.int .i64 (s + 1))) p 25 #[.int .i64 t.1, .int .i64 t.2.1, .int .i64 t.2.2.1, .int .i64 (s + 1), .int .i64 t.2.2.2.2]) := k6.set_ 3 (.int .i64 (s + 1))
        have HB7 := hb06.setCell (p := ⟨p, 3, none⟩) (Nat.le_refl p) (.int .i64 (s + 1))
        have HST := Lib.hid (stOf_blk K7.out)
        have HN : Hid (s + 1 + (n : Int) = t.2.2.2.1 + 2000) := (by have := hn.out; omega : s + 1 + (n : Int) = t.2.2.2.1 + 2000)
        clear hk hn hf HS ho ho' hmm hb hb5 hb6 hb05 hb06 k5 k6
        go_wp2
        go_roundw
        case rel => exact ⟨n, s + 1, ⟨by omega, by omega⟩, HN, HF, K7, HB7⟩
        case measure => rw [HST.out, hst.out]; omega
end Go.Proofs.Ytfcmfadkkfkidaa
