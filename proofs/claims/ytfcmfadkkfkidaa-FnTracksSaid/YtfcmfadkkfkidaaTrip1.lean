/-
  A trip: its arrival, whether it is valid; both programs.
-/
import Derived.Test.YtfcmfadkkfkidaaScalar
import Derived.Test.YtfcmfadkkfkidaaHTrip
import Derived.WalkKit
import Derived.WalkSpells
import Derived.WalkLawsBesides
import Derived.Lib.Hide
import Derived.Deep.QuietTactic
import Derived.BigQuiet
import Derived.StillTailTactics
namespace Go.Proofs.Ytfcmfadkkfkidaa
open Go.RowKit

def arr (b c d : Int) : Int := d + 4 * (if c - b < 0 then -(c - b) else c - b)
def tripB (a b c d g : Int) : Bool := inB a 1 99 && inB b 0 9 && inB c 0 9 && !decide (b = c) && inB d 0 1440 && decide (arr b c d ≤ 1440) && inB g 0 8
abbrev tripV (a b c d g : Int) : Value := .agg #[.int .i64 a, .int .i64 b, .int .i64 c, .int .i64 d, .int .i64 g]

set_option maxHeartbeats 400000 in
theorem isId_any (x : Int) (w : World) : Calls Try.prog 62 #[.int .i64 x] w fun e w' => e = .returned (.bool (inB x 1 99)) ∧ w = w' := by
  go_enter Try.func62, Try.ntmps62
  go_wp2_with fail
  refine (within_any _ _ _ _).mono ?_; rintro e w' ⟨rfl, rfl⟩
  go_wp2
  go_ret
  exact ⟨rfl, rfl⟩

set_option maxHeartbeats 400000 in
theorem isStop_any (x : Int) (w : World) : Calls Try.prog 63 #[.int .i64 x] w fun e w' => e = .returned (.bool (inB x 0 9)) ∧ w = w' := by
  go_enter Try.func63, Try.ntmps63
  go_wp2_with fail
  refine (within_any _ _ _ _).mono ?_; rintro e w' ⟨rfl, rfl⟩
  go_wp2
  go_ret
  exact ⟨rfl, rfl⟩

set_option maxHeartbeats 400000 in
theorem isMinute_any (x : Int) (w : World) : Calls Try.prog 64 #[.int .i64 x] w fun e w' => e = .returned (.bool (inB x 0 1440)) ∧ w = w' := by
  go_enter Try.func64, Try.ntmps64
  go_wp2_with fail
  refine (within_any _ _ _ _).mono ?_; rintro e w' ⟨rfl, rfl⟩
  go_wp2
  go_ret
  exact ⟨rfl, rfl⟩

set_option maxHeartbeats 400000 in
theorem l11Stop_any (x : Int) (w : World) : Calls Try.prog 70 #[.int .i64 x] w fun e w' => e = .returned (.bool (inB x 0 9)) ∧ w = w' := by
  go_enter Try.func70, Try.ntmps70
  go_wp2_with fail
  refine (l1In_any _ _ _ _).mono ?_; rintro e w' ⟨rfl, rfl⟩
  go_wp2
  go_ret
  exact ⟨rfl, rfl⟩

set_option maxHeartbeats 400000 in
theorem l2Minute_any (x : Int) (w : World) : Calls Try.prog 71 #[.int .i64 x] w fun e w' => e = .returned (.bool (inB x 0 1440)) ∧ w = w' := by
  go_enter Try.func71, Try.ntmps71
  go_wp2_with fail
  refine (l1In_any _ _ _ _).mono ?_; rintro e w' ⟨rfl, rfl⟩
  go_wp2
  go_ret
  exact ⟨rfl, rfl⟩

set_option maxHeartbeats 1000000 in
theorem arrival_any (a b c d g : Int) (w : World) (hb : 0 ≤ b ∧ b ≤ 9) (hc : 0 ≤ c ∧ c ≤ 9) (hd : 0 ≤ d ∧ d ≤ 1440) :
    Calls Try.prog 65 #[tripV a b c d g] w fun e w' => e = .returned (.int .i64 (arr b c d)) ∧ Below w.heap.size w w' := by
  have Hv := Lib.hid (show arr b c d = d + 4 * (if c - b < 0 then -(c - b) else c - b) from rfl)
  obtain ⟨q, hq, hq0, hq1⟩ : ∃ q : Int, (if c - b < 0 then -(c - b) else c - b) = q ∧ 0 ≤ q ∧ q ≤ 9 := ⟨_, rfl, by split <;> omega, by split <;> omega⟩
  rw [hq] at Hv
  have Hq := Lib.hid hq; clear hq
  go_enter Try.func65, Try.ntmps65
  go_wp2
  go_quiet (exact (abs_any _ _ (by omega)).mono fun _ _ ⟨he, hw⟩ => ⟨he.trans (by rw [Hq.out]), _, hw.symm⟩)
  go_wp2
  go_ret
  exact ⟨by rw [Hv.out]; rfl, by (repeat (first | exact Below.refl _ _ | refine Below.drew ?_ | refine below_drewN ?_ _ | (refine Below.alloc ?_ (by (try simp) <;> omega) _) | (refine Below.setCell ?_ (by (try simp) <;> omega) _) | (refine Below.trans ?_ (Below.mono (by assumption) (by (try simp) <;> omega)))))⟩

set_option maxHeartbeats 1000000 in
theorem l11Arrives_any (a b c d g : Int) (w : World) (hb : 0 ≤ b ∧ b ≤ 9) (hc : 0 ≤ c ∧ c ≤ 9) (hd : 0 ≤ d ∧ d ≤ 1440) :
    Calls Try.prog 67 #[tripV a b c d g] w fun e w' => e = .returned (.int .i64 (arr b c d)) ∧ Below w.heap.size w w' := by
  obtain ⟨q, hq, hq0, hq1⟩ : ∃ q : Int, max (b - c) (c - b) = q ∧ 0 ≤ q ∧ q ≤ 9 := ⟨_, rfl, by omega, by omega⟩
  have Hv := Lib.hid (show arr b c d = d + 4 * q by unfold arr; split <;> omega)
  have Hq := Lib.hid hq; clear hq
  go_enter Try.func67, Try.ntmps67
  go_wp2
  go_quiet (exact (l1Most_any _ _ _).mono fun _ _ ⟨he, hw⟩ => ⟨he.trans (by rw [Hq.out]), _, hw.symm⟩)
  go_wp2
  go_ret
  exact ⟨by rw [Hv.out]; rfl, by (repeat (first | exact Below.refl _ _ | refine Below.drew ?_ | refine below_drewN ?_ _ | (refine Below.alloc ?_ (by (try simp) <;> omega) _) | (refine Below.setCell ?_ (by (try simp) <;> omega) _) | (refine Below.trans ?_ (Below.mono (by assumption) (by (try simp) <;> omega)))))⟩

set_option maxHeartbeats 4000000 in
theorem IsTrip_any (a b c d g : Int) (w : World) : Calls Try.prog 18 #[tripV a b c d g] w fun e w' => e = .returned (.bool (tripB a b c d g)) ∧ Below w.heap.size w w' := by
  cases h1 : inB a 1 99
  · have Hv := Lib.hid (show tripB a b c d g = false by simp [tripB, h1])
    go_enter Try.func18, Try.ntmps18
    go_wp2_with fail
    refine (isId_any _ _).mono ?_; rintro e w' ⟨rfl, rfl⟩
    rw [h1]
    go_wp2
    go_ret
    exact ⟨by rw [Hv.out]; rfl, by (repeat (first | exact Below.refl _ _ | refine Below.drew ?_ | refine below_drewN ?_ _ | (refine Below.alloc ?_ (by (try simp) <;> omega) _) | (refine Below.setCell ?_ (by (try simp) <;> omega) _) | (refine Below.trans ?_ (Below.mono (by assumption) (by (try simp) <;> omega)))))⟩
  cases h2 : inB b 0 9
  · have Hv := Lib.hid (show tripB a b c d g = false by simp [tripB, h2])
    go_enter Try.func18, Try.ntmps18
    go_wp2_with fail
    refine (isId_any _ _).mono ?_; rintro e w' ⟨rfl, rfl⟩
    rw [h1]
    go_wp2_with fail
    refine (isStop_any _ _).mono ?_; rintro e w' ⟨rfl, rfl⟩
    rw [h2]
    go_wp2
    go_ret
    exact ⟨by rw [Hv.out]; rfl, by (repeat (first | exact Below.refl _ _ | refine Below.drew ?_ | refine below_drewN ?_ _ | (refine Below.alloc ?_ (by (try simp) <;> omega) _) | (refine Below.setCell ?_ (by (try simp) <;> omega) _) | (refine Below.trans ?_ (Below.mono (by assumption) (by (try simp) <;> omega)))))⟩
  cases h3 : inB c 0 9
  · have Hv := Lib.hid (show tripB a b c d g = false by simp [tripB, h3])
    go_enter Try.func18, Try.ntmps18
    go_wp2_with fail
    refine (isId_any _ _).mono ?_; rintro e w' ⟨rfl, rfl⟩
    rw [h1]
    go_wp2_with fail
    refine (isStop_any _ _).mono ?_; rintro e w' ⟨rfl, rfl⟩
    rw [h2]
    go_wp2_with fail
    refine (isStop_any _ _).mono ?_; rintro e w' ⟨rfl, rfl⟩
    rw [h3]
    go_wp2
    go_ret
    exact ⟨by rw [Hv.out]; rfl, by (repeat (first | exact Below.refl _ _ | refine Below.drew ?_ | refine below_drewN ?_ _ | (refine Below.alloc ?_ (by (try simp) <;> omega) _) | (refine Below.setCell ?_ (by (try simp) <;> omega) _) | (refine Below.trans ?_ (Below.mono (by assumption) (by (try simp) <;> omega)))))⟩
  by_cases h4 : b = c
  · have Hv := Lib.hid (show tripB a b c d g = false by simp [tripB, h4])
    subst h4
    go_enter Try.func18, Try.ntmps18
    have h4' : (b != b) = false := neI b
    go_wp2_with fail
    refine (isId_any _ _).mono ?_; rintro e w' ⟨rfl, rfl⟩
    rw [h1]
    go_wp2_with fail
    refine (isStop_any _ _).mono ?_; rintro e w' ⟨rfl, rfl⟩
    rw [h2]
    go_wp2_with fail
    refine (isStop_any _ _).mono ?_; rintro e w' ⟨rfl, rfl⟩
    rw [h3]
    go_wp2
    go_ret
    exact ⟨by rw [Hv.out]; rfl, by (repeat (first | exact Below.refl _ _ | refine Below.drew ?_ | refine below_drewN ?_ _ | (refine Below.alloc ?_ (by (try simp) <;> omega) _) | (refine Below.setCell ?_ (by (try simp) <;> omega) _) | (refine Below.trans ?_ (Below.mono (by assumption) (by (try simp) <;> omega)))))⟩
  have h4' : (b != c) = true := by simp [h4]
  cases h5 : inB d 0 1440
  · have Hv := Lib.hid (show tripB a b c d g = false by simp [tripB, h5])
    go_enter Try.func18, Try.ntmps18
    go_wp2_with fail
    refine (isId_any _ _).mono ?_; rintro e w' ⟨rfl, rfl⟩
    rw [h1]
    go_wp2_with fail
    refine (isStop_any _ _).mono ?_; rintro e w' ⟨rfl, rfl⟩
    rw [h2]
    go_wp2_with fail
    refine (isStop_any _ _).mono ?_; rintro e w' ⟨rfl, rfl⟩
    rw [h3]
    go_wp2_with fail
    refine (isMinute_any _ _).mono ?_; rintro e w' ⟨rfl, rfl⟩
    rw [h5]
    go_wp2
    go_ret
    exact ⟨by rw [Hv.out]; rfl, by (repeat (first | exact Below.refl _ _ | refine Below.drew ?_ | refine below_drewN ?_ _ | (refine Below.alloc ?_ (by (try simp) <;> omega) _) | (refine Below.setCell ?_ (by (try simp) <;> omega) _) | (refine Below.trans ?_ (Below.mono (by assumption) (by (try simp) <;> omega)))))⟩
  cases h6 : decide (arr b c d ≤ 1440)
  · have Hv := Lib.hid (show tripB a b c d g = false by simp [tripB, h6])
    go_enter Try.func18, Try.ntmps18
    go_wp2_with fail
    refine (isId_any _ _).mono ?_; rintro e w' ⟨rfl, rfl⟩
    rw [h1]
    go_wp2_with fail
    refine (isStop_any _ _).mono ?_; rintro e w' ⟨rfl, rfl⟩
    rw [h2]
    go_wp2_with fail
    refine (isStop_any _ _).mono ?_; rintro e w' ⟨rfl, rfl⟩
    rw [h3]
    go_wp2_with fail
    refine (isMinute_any _ _).mono ?_; rintro e w' ⟨rfl, rfl⟩
    rw [h5]
    go_wp2_with fail
    refine (arrival_any _ _ _ _ _ _ (inB_iff.1 h2) (inB_iff.1 h3) (inB_iff.1 h5)).mono ?_; rintro e w1 ⟨rfl, hb1⟩
    have z1 := hb1.size
    try simp at z1
    obtain ⟨c1_0, f1_0⟩ := bblk hb1 (g := w.heap.size) (by (try simp) <;> omega)
    have l1_0 : w.heap.size < w1.heap.size := by omega
    go_wp2
    go_ret
    exact ⟨by rw [Hv.out]; rfl, by (repeat (first | exact Below.refl _ _ | refine Below.drew ?_ | refine below_drewN ?_ _ | (refine Below.alloc ?_ (by (try simp) <;> omega) _) | (refine Below.setCell ?_ (by (try simp) <;> omega) _) | (refine Below.trans ?_ (Below.mono (by assumption) (by (try simp) <;> omega)))))⟩
  · have Hv := Lib.hid (show tripB a b c d g = inB g 0 8 by simp [tripB, h1, h2, h3, h4, h5, h6])
    go_enter Try.func18, Try.ntmps18
    go_wp2_with fail
    refine (isId_any _ _).mono ?_; rintro e w' ⟨rfl, rfl⟩
    rw [h1]
    go_wp2_with fail
    refine (isStop_any _ _).mono ?_; rintro e w' ⟨rfl, rfl⟩
    rw [h2]
    go_wp2_with fail
    refine (isStop_any _ _).mono ?_; rintro e w' ⟨rfl, rfl⟩
    rw [h3]
    go_wp2_with fail
    refine (isMinute_any _ _).mono ?_; rintro e w' ⟨rfl, rfl⟩
    rw [h5]
    go_wp2_with fail
    refine (arrival_any _ _ _ _ _ _ (inB_iff.1 h2) (inB_iff.1 h3) (inB_iff.1 h5)).mono ?_; rintro e w1 ⟨rfl, hb1⟩
    have z1 := hb1.size
    try simp at z1
    obtain ⟨c1_0, f1_0⟩ := bblk hb1 (g := w.heap.size) (by (try simp) <;> omega)
    have l1_0 : w.heap.size < w1.heap.size := by omega
    go_wp2_with fail
    refine (within_any _ _ _ _).mono ?_; rintro e w' ⟨rfl, rfl⟩
    go_wp2
    go_ret
    exact ⟨by rw [Hv.out]; rfl, by (repeat (first | exact Below.refl _ _ | refine Below.drew ?_ | refine below_drewN ?_ _ | (refine Below.alloc ?_ (by (try simp) <;> omega) _) | (refine Below.setCell ?_ (by (try simp) <;> omega) _) | (refine Below.trans ?_ (Below.mono (by assumption) (by (try simp) <;> omega)))))⟩

set_option maxHeartbeats 4000000 in
theorem l11One_any (a b c d g : Int) (w : World) : Calls Try.prog 61 #[tripV a b c d g] w fun e w' => e = .returned (.bool (tripB a b c d g)) ∧ Below w.heap.size w w' := by
  cases h1 : inB a 1 99
  · have Hv := Lib.hid (show tripB a b c d g = false by simp [tripB, h1])
    go_enter Try.func61, Try.ntmps61
    go_wp2_with fail
    refine (l1In_any _ _ _ _).mono ?_; rintro e w' ⟨rfl, rfl⟩
    rw [h1]
    go_wp2
    go_ret
    exact ⟨by rw [Hv.out]; rfl, by (repeat (first | exact Below.refl _ _ | refine Below.drew ?_ | refine below_drewN ?_ _ | (refine Below.alloc ?_ (by (try simp) <;> omega) _) | (refine Below.setCell ?_ (by (try simp) <;> omega) _) | (refine Below.trans ?_ (Below.mono (by assumption) (by (try simp) <;> omega)))))⟩
  cases h2 : inB b 0 9
  · have Hv := Lib.hid (show tripB a b c d g = false by simp [tripB, h2])
    go_enter Try.func61, Try.ntmps61
    go_wp2_with fail
    refine (l1In_any _ _ _ _).mono ?_; rintro e w' ⟨rfl, rfl⟩
    rw [h1]
    go_wp2_with fail
    refine (l11Stop_any _ _).mono ?_; rintro e w' ⟨rfl, rfl⟩
    rw [h2]
    go_wp2
    go_ret
    exact ⟨by rw [Hv.out]; rfl, by (repeat (first | exact Below.refl _ _ | refine Below.drew ?_ | refine below_drewN ?_ _ | (refine Below.alloc ?_ (by (try simp) <;> omega) _) | (refine Below.setCell ?_ (by (try simp) <;> omega) _) | (refine Below.trans ?_ (Below.mono (by assumption) (by (try simp) <;> omega)))))⟩
  cases h3 : inB c 0 9
  · have Hv := Lib.hid (show tripB a b c d g = false by simp [tripB, h3])
    go_enter Try.func61, Try.ntmps61
    go_wp2_with fail
    refine (l1In_any _ _ _ _).mono ?_; rintro e w' ⟨rfl, rfl⟩
    rw [h1]
    go_wp2_with fail
    refine (l11Stop_any _ _).mono ?_; rintro e w' ⟨rfl, rfl⟩
    rw [h2]
    go_wp2_with fail
    refine (l11Stop_any _ _).mono ?_; rintro e w' ⟨rfl, rfl⟩
    rw [h3]
    go_wp2
    go_ret
    exact ⟨by rw [Hv.out]; rfl, by (repeat (first | exact Below.refl _ _ | refine Below.drew ?_ | refine below_drewN ?_ _ | (refine Below.alloc ?_ (by (try simp) <;> omega) _) | (refine Below.setCell ?_ (by (try simp) <;> omega) _) | (refine Below.trans ?_ (Below.mono (by assumption) (by (try simp) <;> omega)))))⟩
  by_cases h4 : b = c
  · have Hv := Lib.hid (show tripB a b c d g = false by simp [tripB, h4])
    subst h4
    go_enter Try.func61, Try.ntmps61
    have h4' : (b != b) = false := neI b
    go_wp2_with fail
    refine (l1In_any _ _ _ _).mono ?_; rintro e w' ⟨rfl, rfl⟩
    rw [h1]
    go_wp2_with fail
    refine (l11Stop_any _ _).mono ?_; rintro e w' ⟨rfl, rfl⟩
    rw [h2]
    go_wp2_with fail
    refine (l11Stop_any _ _).mono ?_; rintro e w' ⟨rfl, rfl⟩
    rw [h3]
    go_wp2
    go_ret
    exact ⟨by rw [Hv.out]; rfl, by (repeat (first | exact Below.refl _ _ | refine Below.drew ?_ | refine below_drewN ?_ _ | (refine Below.alloc ?_ (by (try simp) <;> omega) _) | (refine Below.setCell ?_ (by (try simp) <;> omega) _) | (refine Below.trans ?_ (Below.mono (by assumption) (by (try simp) <;> omega)))))⟩
  have h4' : (b != c) = true := by simp [h4]
  cases h5 : inB d 0 1440
  · have Hv := Lib.hid (show tripB a b c d g = false by simp [tripB, h5])
    go_enter Try.func61, Try.ntmps61
    go_wp2_with fail
    refine (l1In_any _ _ _ _).mono ?_; rintro e w' ⟨rfl, rfl⟩
    rw [h1]
    go_wp2_with fail
    refine (l11Stop_any _ _).mono ?_; rintro e w' ⟨rfl, rfl⟩
    rw [h2]
    go_wp2_with fail
    refine (l11Stop_any _ _).mono ?_; rintro e w' ⟨rfl, rfl⟩
    rw [h3]
    go_wp2_with fail
    refine (l2Minute_any _ _).mono ?_; rintro e w' ⟨rfl, rfl⟩
    rw [h5]
    go_wp2
    go_ret
    exact ⟨by rw [Hv.out]; rfl, by (repeat (first | exact Below.refl _ _ | refine Below.drew ?_ | refine below_drewN ?_ _ | (refine Below.alloc ?_ (by (try simp) <;> omega) _) | (refine Below.setCell ?_ (by (try simp) <;> omega) _) | (refine Below.trans ?_ (Below.mono (by assumption) (by (try simp) <;> omega)))))⟩
  have ha0 : 0 ≤ arr b c d := by have h5' := inB_iff.1 h5; unfold arr; split <;> omega
  cases h6 : decide (arr b c d ≤ 1440)
  · have Hv := Lib.hid (show tripB a b c d g = false by simp [tripB, h6])
    go_enter Try.func61, Try.ntmps61
    have h6' : inB (arr b c d) 0 1440 = false := by simp [inB]; simp at h6; omega
    go_wp2_with fail
    refine (l1In_any _ _ _ _).mono ?_; rintro e w' ⟨rfl, rfl⟩
    rw [h1]
    go_wp2_with fail
    refine (l11Stop_any _ _).mono ?_; rintro e w' ⟨rfl, rfl⟩
    rw [h2]
    go_wp2_with fail
    refine (l11Stop_any _ _).mono ?_; rintro e w' ⟨rfl, rfl⟩
    rw [h3]
    go_wp2_with fail
    refine (l2Minute_any _ _).mono ?_; rintro e w' ⟨rfl, rfl⟩
    rw [h5]
    go_wp2_with fail
    refine (l11Arrives_any _ _ _ _ _ _ (inB_iff.1 h2) (inB_iff.1 h3) (inB_iff.1 h5)).mono ?_; rintro e w1 ⟨rfl, hb1⟩
    have z1 := hb1.size
    try simp at z1
    obtain ⟨c1_0, f1_0⟩ := bblk hb1 (g := w.heap.size) (by (try simp) <;> omega)
    have l1_0 : w.heap.size < w1.heap.size := by omega
    go_wp2_with fail
    refine (l2Minute_any _ _).mono ?_; rintro e w' ⟨rfl, rfl⟩
    rw [h6']
    go_wp2
    go_ret
    exact ⟨by rw [Hv.out]; rfl, by (repeat (first | exact Below.refl _ _ | refine Below.drew ?_ | refine below_drewN ?_ _ | (refine Below.alloc ?_ (by (try simp) <;> omega) _) | (refine Below.setCell ?_ (by (try simp) <;> omega) _) | (refine Below.trans ?_ (Below.mono (by assumption) (by (try simp) <;> omega)))))⟩
  have h6' : inB (arr b c d) 0 1440 = true := by simp [inB]; simp at h6; omega
  · have Hv := Lib.hid (show tripB a b c d g = inB g 0 8 by simp [tripB, h1, h2, h3, h4, h5, h6])
    go_enter Try.func61, Try.ntmps61
    go_wp2_with fail
    refine (l1In_any _ _ _ _).mono ?_; rintro e w' ⟨rfl, rfl⟩
    rw [h1]
    go_wp2_with fail
    refine (l11Stop_any _ _).mono ?_; rintro e w' ⟨rfl, rfl⟩
    rw [h2]
    go_wp2_with fail
    refine (l11Stop_any _ _).mono ?_; rintro e w' ⟨rfl, rfl⟩
    rw [h3]
    go_wp2_with fail
    refine (l2Minute_any _ _).mono ?_; rintro e w' ⟨rfl, rfl⟩
    rw [h5]
    go_wp2_with fail
    refine (l11Arrives_any _ _ _ _ _ _ (inB_iff.1 h2) (inB_iff.1 h3) (inB_iff.1 h5)).mono ?_; rintro e w1 ⟨rfl, hb1⟩
    have z1 := hb1.size
    try simp at z1
    obtain ⟨c1_0, f1_0⟩ := bblk hb1 (g := w.heap.size) (by (try simp) <;> omega)
    have l1_0 : w.heap.size < w1.heap.size := by omega
    go_wp2_with fail
    refine (l2Minute_any _ _).mono ?_; rintro e w' ⟨rfl, rfl⟩
    rw [h6']
    go_wp2_with fail
    refine (l1In_any _ _ _ _).mono ?_; rintro e w' ⟨rfl, rfl⟩
    go_wp2
    go_ret
    exact ⟨by rw [Hv.out]; rfl, by (repeat (first | exact Below.refl _ _ | refine Below.drew ?_ | refine below_drewN ?_ _ | (refine Below.alloc ?_ (by (try simp) <;> omega) _) | (refine Below.setCell ?_ (by (try simp) <;> omega) _) | (refine Below.trans ?_ (Below.mono (by assumption) (by (try simp) <;> omega)))))⟩

end Go.Proofs.Ytfcmfadkkfkidaa
