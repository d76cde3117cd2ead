/-
  AreBitterns, BitterGrams and MeanBitter: both programs and the laws.
-/
import Derived.Test.YtjpoaiiminofdaaBit1
import Derived.Test.YtjpoaiiminofdaaHBittern
namespace Go.Proofs.Ytjpoaiiminofdaa
open Go.RowKit

def kil (L : List (Int × Int × Int)) (k : Nat) : Int := match L[k]? with | some x => x.2.1 | none => 0
def bit (L : List (Int × Int × Int)) (k : Nat) : Int := match L[k]? with | some x => x.2.2 | none => 0
theorem kil_get {L : List (Int × Int × Int)} {k : Nat} {x} (h : L[k]? = some x) : kil L k = x.2.1 := by rw [kil, h]
theorem bit_get {L : List (Int × Int × Int)} {k : Nat} {x} (h : L[k]? = some x) : bit L k = x.2.2 := by rw [bit, h]
def sumK (L : List (Int × Int × Int)) : Nat → Int
  | 0 => 0
  | k + 1 => wrap64 (sumK L k + kil L k)
def sumG (L : List (Int × Int × Int)) : Nat → Int
  | 0 => 0
  | k + 1 => wrap64 (sumG L k + wrap64 (kil L k * bit L k))
theorem bitB_one {L : List (Int × Int × Int)} (h : bitB L = true) {k : Nat} {x} (hx : L[k]? = some x) : (1 ≤ x.1 ∧ x.1 ≤ 99) ∧ (0 ≤ x.2.1 ∧ x.2.1 ≤ 10000) ∧ (0 ≤ x.2.2 ∧ x.2.2 ≤ 1000) := by
  rw [bitB, Bool.and_eq_true] at h
  have := chain_one h.1 hx
  simp [bit1, inB] at this
  omega
theorem bitB_len {L : List (Int × Int × Int)} (h : bitB L = true) : L.length ≤ 8 := by
  rw [bitB, Bool.and_eq_true] at h
  have := of_decide_eq_true h.2
  omega
theorem sums_bound {L : List (Int × Int × Int)} (h : bitB L = true) : ∀ k, k ≤ L.length → (0 ≤ sumK L k ∧ sumK L k ≤ 10000 * k) ∧ (0 ≤ sumG L k ∧ sumG L k ≤ 10000000 * k)
  | 0, _ => by simp [sumK, sumG]
  | k + 1, hk => by
    have ih := sums_bound h k (by omega)
    have hl := bitB_len h
    have hx : L[k]? = some L[k] := List.getElem?_eq_getElem (by omega)
    have hb := bitB_one h hx
    have h1 := kil_get hx
    have h2 := bit_get hx
    generalize L[k] = x at *
    have m0 : 0 ≤ x.2.1 * x.2.2 := Int.mul_nonneg (by omega) (by omega)
    have m1 : x.2.1 * x.2.2 ≤ 10000 * 1000 := Int.mul_le_mul (by omega) (by omega) (by omega) (by omega)
    rw [sumK, sumG, h1, h2]
    generalize x.2.1 * x.2.2 = q at *
    rw [IntWalk.wrap64_in q (by omega), IntWalk.wrap64_in _ (by omega), IntWalk.wrap64_in _ (by omega)]
    omega

set_option maxHeartbeats 400000 in
theorem SAreBitterns_any (A : Option Addr) (c : Nat) (L : List (Int × Int × Int)) (w : World) (hr : SlR f3 3 w w.heap.size A L) (hm : (L.length : Int) ≤ 1048576) (_hI : ∀ x ∈ L, InI3 x) :
    Calls Try.prog 10 #[.slice A L.length c] w fun e w' => e = .returned (.bool (bitB L)) ∧ Below w.heap.size w w' := by
  have hII := Lib.hid _hI
  clear _hI
  go_enter Try.func10, Try.ntmps10
  go_wp2_with fail
  refine (l15Good_any _ _ _ _ hr hm hII.out).mono ?_; rintro e w1 ⟨rfl, hb1⟩
  have z1 := hb1.size
  try simp at z1
  go_wp2
  go_ret
  exact ⟨rfl, by (repeat (first | exact Below.refl _ _ | refine Below.drew ?_ | refine below_drewN ?_ _ | (refine Below.alloc ?_ (by (try simp) <;> omega) _) | (refine Below.setCell ?_ (by (try simp) <;> omega) _) | (refine Below.trans ?_ (Below.mono (by assumption) (by (try simp) <;> omega)))))⟩

set_option maxHeartbeats 1000000 in
theorem amounts_any (A : Option Addr) (c : Nat) (L : List (Int × Int × Int)) (w : World) (hr : SlR f3 3 w w.heap.size A L) (hm : (L.length : Int) ≤ 1048576) :
    Calls Try.prog 33 #[.slice A L.length c] w fun e w' => e = .returned (.tuple #[.int .i64 (sumK L L.length), .int .i64 (sumG L L.length)]) ∧ Below w.heap.size w w' := by
  go_enter Try.func33, Try.ntmps33
  go_wp2
  go_loopw [10, 4, 5] (fun i s g wr => ∃ k : Nat, i = .int .i64 k ∧ s = .int .i64 (sumK L k) ∧ g = .int .i64 (sumG L k) ∧ k ≤ L.length ∧ Below w.heap.size w wr) (fun i _ _ _ => (L.length - intOf i).toNat)
  case atStart => exact ⟨0, rfl, rfl, rfl, by omega, Below.refl _ _⟩
  case round =>
    obtain ⟨k, rfl, rfl, rfl, hk, hb⟩ := hrel
    have zr := hb.size
    by_cases hlt : k < L.length
    · have hx : L[k]? = some L[k] := List.getElem?_eq_getElem hlt
      obtain ⟨b, off, rfl, hB, hcs⟩ := hr (SlR.ne hx)
      obtain ⟨c0, c1, c2⟩ := cells3 (hcs.below hb hB) hx
      have hk0 : (0 : Int) ≤ (k : Int) := by omega
      have hk1 : (k : Int) < (L.length : Int) := by omega
      have h1 := kil_get hx
      have h2 := bit_get hx
      generalize L[k] = x at *
      have Hs := Lib.hid (show sumK L (k + 1) = wrap64 (sumK L k + x.2.1) by rw [sumK, h1])
      have Hg := Lib.hid (show sumG L (k + 1) = wrap64 (sumG L k + wrap64 (x.2.1 * x.2.2)) by rw [sumG, h1, h2])
      clear h1 h2 hx hcs hr hlt
      generalize sumK L k = s at *
      generalize sumG L k = g at *
      go_wp2
      go_roundw
      case rel => exact ⟨k + 1, by go_num, by rw [Hs.out], by rw [Hg.out], by omega, by (repeat (first | exact Below.refl _ _ | refine Below.drew ?_ | refine below_drewN ?_ _ | (refine Below.alloc ?_ (by (try simp) <;> omega) _) | (refine Below.setCell ?_ (by (try simp) <;> omega) _) | (refine Below.trans ?_ (Below.mono (by assumption) (by (try simp) <;> omega)))))⟩
      case measure => simp only [intOf]; omega
    · obtain rfl : k = L.length := by omega
      go_wp2
      go_ret2
      exact ⟨rfl, by (repeat (first | exact Below.refl _ _ | refine Below.drew ?_ | refine below_drewN ?_ _ | (refine Below.alloc ?_ (by (try simp) <;> omega) _) | (refine Below.setCell ?_ (by (try simp) <;> omega) _) | (refine Below.trans ?_ (Below.mono (by assumption) (by (try simp) <;> omega)))))⟩

set_option maxHeartbeats 1000000 in
theorem l15Sums_any (A : Option Addr) (c : Nat) (L : List (Int × Int × Int)) (w : World) (hr : SlR f3 3 w w.heap.size A L) (hm : (L.length : Int) ≤ 1048576) :
    Calls Try.prog 32 #[.slice A L.length c] w fun e w' => e = .returned (.tuple #[.int .i64 (sumK L L.length), .int .i64 (sumG L L.length)]) ∧ Below w.heap.size w w' := by
  go_enter Try.func32, Try.ntmps32
  go_wp2
  go_loopw [6, 4, 5] (fun i s g wr => ∃ k : Nat, i = .int .i64 k ∧ s = .int .i64 (sumK L k) ∧ g = .int .i64 (sumG L k) ∧ k ≤ L.length ∧ Below w.heap.size w wr) (fun i _ _ _ => (L.length - intOf i).toNat)
  case atStart => exact ⟨0, rfl, rfl, rfl, by omega, Below.refl _ _⟩
  case round =>
    obtain ⟨k, rfl, rfl, rfl, hk, hb⟩ := hrel
    have zr := hb.size
    by_cases hlt : k < L.length
    · have hx : L[k]? = some L[k] := List.getElem?_eq_getElem hlt
      obtain ⟨b, off, rfl, hB, hcs⟩ := hr (SlR.ne hx)
      obtain ⟨c0, c1, c2⟩ := cells3 (hcs.below hb hB) hx
      have hk0 : (0 : Int) ≤ (k : Int) := by omega
      have hk1 : (k : Int) < (L.length : Int) := by omega
      have h1 := kil_get hx
      have h2 := bit_get hx
      generalize L[k] = x at *
      have Hs := Lib.hid (show sumK L (k + 1) = wrap64 (sumK L k + x.2.1) by rw [sumK, h1])
      have Hg := Lib.hid (show sumG L (k + 1) = wrap64 (sumG L k + wrap64 (x.2.1 * x.2.2)) by rw [sumG, h1, h2])
      clear h1 h2 hx hcs hr hlt
      generalize sumK L k = s at *
      generalize sumG L k = g at *
      go_wp2
      go_quiet (fail)
      go_wp2
      go_roundw
      case rel => exact ⟨k + 1, by go_num, by rw [Hs.out], by rw [Hg.out], by omega, by (repeat (first | exact Below.refl _ _ | refine Below.drew ?_ | refine below_drewN ?_ _ | (refine Below.alloc ?_ (by (try simp) <;> omega) _) | (refine Below.setCell ?_ (by (try simp) <;> omega) _) | (refine Below.trans ?_ (Below.mono (by assumption) (by (try simp) <;> omega)))))⟩
      case measure => simp only [intOf]; omega
    · obtain rfl : k = L.length := by omega
      go_wp2
      go_ret2
      exact ⟨rfl, by (repeat (first | exact Below.refl _ _ | refine Below.drew ?_ | refine below_drewN ?_ _ | (refine Below.alloc ?_ (by (try simp) <;> omega) _) | (refine Below.setCell ?_ (by (try simp) <;> omega) _) | (refine Below.trans ?_ (Below.mono (by assumption) (by (try simp) <;> omega)))))⟩

def gramsV (L : List (Int × Int × Int)) : Value := if bitB L then .tuple #[.int .i64 (sumG L L.length), .bool true] else .tuple #[.int .i64 0, .bool false]
theorem gramsV_form (L : List (Int × Int × Int)) : ∃ n u, gramsV L = .tuple #[.int .i64 n, .bool u] := by unfold gramsV; split <;> exact ⟨_, _, rfl⟩
def meanV (L : List (Int × Int × Int)) : Value :=
  if bitB L && !decide (sumK L L.length = 0) then .tuple #[.int .i64 (sumG L L.length / gI (sumG L L.length) (sumK L L.length)), .int .i64 (sumK L L.length / gI (sumG L L.length) (sumK L L.length)), .bool true]
  else .tuple #[.int .i64 0, .int .i64 0, .bool false]
theorem meanV_form (L : List (Int × Int × Int)) : ∃ n m u, meanV L = .tuple #[.int .i64 n, .int .i64 m, .bool u] := by unfold meanV; split <;> exact ⟨_, _, _, rfl⟩

set_option maxHeartbeats 400000 in
theorem BitterGrams_any (A : Option Addr) (c : Nat) (L : List (Int × Int × Int)) (w : World) (hr : SlR f3 3 w w.heap.size A L) (hm : (L.length : Int) ≤ 1048576) (_hI : ∀ x ∈ L, InI3 x) :
    Calls Try.prog 17 #[.slice A L.length c] w fun e w' => e = .returned (gramsV L) ∧ Below w.heap.size w w' := by
  have hII := Lib.hid _hI
  clear _hI
  cases h : bitB L
  · have Hv := Lib.hid (show gramsV L = .tuple #[.int .i64 0, .bool false] by simp [gramsV, h])
    go_enter Try.func17, Try.ntmps17
    go_wp2_with fail
    refine (AreBitterns_any _ _ _ _ hr hm hII.out).mono ?_; rintro e w1 ⟨rfl, hb1⟩
    have z1 := hb1.size
    try simp at z1
    rw [h]
    go_wp2
    go_ret2
    exact ⟨by rw [Hv.out]; rfl, by (repeat (first | exact Below.refl _ _ | refine Below.drew ?_ | refine below_drewN ?_ _ | (refine Below.alloc ?_ (by (try simp) <;> omega) _) | (refine Below.setCell ?_ (by (try simp) <;> omega) _) | (refine Below.trans ?_ (Below.mono (by assumption) (by (try simp) <;> omega)))))⟩
  have Hv := Lib.hid (show gramsV L = .tuple #[.int .i64 (sumG L L.length), .bool true] by simp [gramsV, h])
  go_enter Try.func17, Try.ntmps17
  go_wp2_with fail
  refine (AreBitterns_any _ _ _ _ hr hm hII.out).mono ?_; rintro e w1 ⟨rfl, hb1⟩
  have z1 := hb1.size
  try simp at z1
  rw [h]
  have s1 := hr.next hb1
  go_wp2_with fail
  refine (amounts_any _ _ _ _ s1 hm).mono ?_; rintro e w2 ⟨rfl, hb2⟩
  have z2 := hb2.size
  try simp at z2
  go_wp2
  go_ret2
  exact ⟨by rw [Hv.out]; rfl, by (repeat (first | exact Below.refl _ _ | refine Below.drew ?_ | refine below_drewN ?_ _ | (refine Below.alloc ?_ (by (try simp) <;> omega) _) | (refine Below.setCell ?_ (by (try simp) <;> omega) _) | (refine Below.trans ?_ (Below.mono (by assumption) (by (try simp) <;> omega)))))⟩


set_option maxHeartbeats 400000 in
theorem SBitterGrams_any (A : Option Addr) (c : Nat) (L : List (Int × Int × Int)) (w : World) (hr : SlR f3 3 w w.heap.size A L) (hm : (L.length : Int) ≤ 1048576) (_hI : ∀ x ∈ L, InI3 x) :
    Calls Try.prog 16 #[.slice A L.length c] w fun e w' => e = .returned (gramsV L) ∧ Below w.heap.size w w' := by
  have hII := Lib.hid _hI
  clear _hI
  cases h : bitB L
  · have Hv := Lib.hid (show gramsV L = .tuple #[.int .i64 0, .bool false] by simp [gramsV, h])
    go_enter Try.func16, Try.ntmps16
    go_wp2_with fail
    refine (l15Good_any _ _ _ _ hr hm hII.out).mono ?_; rintro e w1 ⟨rfl, hb1⟩
    have z1 := hb1.size
    try simp at z1
    rw [h]
    go_wp2
    go_ret2
    exact ⟨by rw [Hv.out]; rfl, by (repeat (first | exact Below.refl _ _ | refine Below.drew ?_ | refine below_drewN ?_ _ | (refine Below.alloc ?_ (by (try simp) <;> omega) _) | (refine Below.setCell ?_ (by (try simp) <;> omega) _) | (refine Below.trans ?_ (Below.mono (by assumption) (by (try simp) <;> omega)))))⟩
  have Hv := Lib.hid (show gramsV L = .tuple #[.int .i64 (sumG L L.length), .bool true] by simp [gramsV, h])
  go_enter Try.func16, Try.ntmps16
  go_wp2_with fail
  refine (l15Good_any _ _ _ _ hr hm hII.out).mono ?_; rintro e w1 ⟨rfl, hb1⟩
  have z1 := hb1.size
  try simp at z1
  rw [h]
  have s1 := hr.next hb1
  go_wp2_with fail
  refine (l15Sums_any _ _ _ _ s1 hm).mono ?_; rintro e w2 ⟨rfl, hb2⟩
  have z2 := hb2.size
  try simp at z2
  go_wp2
  go_ret2
  exact ⟨by rw [Hv.out]; rfl, by (repeat (first | exact Below.refl _ _ | refine Below.drew ?_ | refine below_drewN ?_ _ | (refine Below.alloc ?_ (by (try simp) <;> omega) _) | (refine Below.setCell ?_ (by (try simp) <;> omega) _) | (refine Below.trans ?_ (Below.mono (by assumption) (by (try simp) <;> omega)))))⟩


set_option maxHeartbeats 1000000 in
theorem MeanBitter_any (A : Option Addr) (c : Nat) (L : List (Int × Int × Int)) (w : World) (hr : SlR f3 3 w w.heap.size A L) (hm : (L.length : Int) ≤ 1048576) (_hI : ∀ x ∈ L, InI3 x) :
    Calls Try.prog 19 #[.slice A L.length c] w fun e w' => e = .returned (meanV L) ∧ Below w.heap.size w w' := by
  have hII := Lib.hid _hI
  clear _hI
  cases h : bitB L
  · have Hv := Lib.hid (show meanV L = .tuple #[.int .i64 0, .int .i64 0, .bool false] by simp [meanV, h])
    generalize sumK L L.length = s at *
    generalize sumG L L.length = g at *
    go_enter Try.func19, Try.ntmps19
    go_wp2_with fail
    refine (amounts_any _ _ _ _ hr hm).mono ?_; rintro e w1 ⟨rfl, hb1⟩
    have z1 := hb1.size
    try simp at z1
    have s1 := hr.next hb1
    go_wp2_with fail
    refine (AreBitterns_any _ _ _ _ s1 hm hII.out).mono ?_; rintro e w2 ⟨rfl, hb2⟩
    have z2 := hb2.size
    try simp at z2
    rw [h]
    go_wp2
    go_ret3
    exact ⟨by rw [Hv.out]; rfl, by (repeat (first | exact Below.refl _ _ | refine Below.drew ?_ | refine below_drewN ?_ _ | (refine Below.alloc ?_ (by (try simp) <;> omega) _) | (refine Below.setCell ?_ (by (try simp) <;> omega) _) | (refine Below.trans ?_ (Below.mono (by assumption) (by (try simp) <;> omega)))))⟩
  have hbd := sums_bound h L.length (Nat.le_refl _)
  have hl8 := bitB_len h
  by_cases h0 : sumK L L.length = 0
  · have Hv := Lib.hid (show meanV L = .tuple #[.int .i64 0, .int .i64 0, .bool false] by simp [meanV, h0])
    clear hbd
    have H0 := Lib.hid h0
    clear h0
    go_enter Try.func19, Try.ntmps19
    go_wp2_with fail
    refine (amounts_any _ _ _ _ hr hm).mono ?_; rintro e w1 ⟨rfl, hb1⟩
    have z1 := hb1.size
    try simp at z1
    have s1 := hr.next hb1
    go_wp2_with fail
    refine (AreBitterns_any _ _ _ _ s1 hm hII.out).mono ?_; rintro e w2 ⟨rfl, hb2⟩
    have z2 := hb2.size
    try simp at z2
    rw [h]
    rw [H0.out]
    go_wp2
    go_ret3
    exact ⟨by rw [Hv.out]; rfl, by (repeat (first | exact Below.refl _ _ | refine Below.drew ?_ | refine below_drewN ?_ _ | (refine Below.alloc ?_ (by (try simp) <;> omega) _) | (refine Below.setCell ?_ (by (try simp) <;> omega) _) | (refine Below.trans ?_ (Below.mono (by assumption) (by (try simp) <;> omega)))))⟩
  · have Hv := Lib.hid (show meanV L = .tuple #[.int .i64 (sumG L L.length / gI (sumG L L.length) (sumK L L.length)), .int .i64 (sumK L L.length / gI (sumG L L.length) (sumK L L.length)), .bool true] by simp [meanV, h, h0])
    have hz : (sumK L L.length == 0) = false := by simpa using h0
    go_enter Try.func19, Try.ntmps19
    go_wp2_with fail
    refine (amounts_any _ _ _ _ hr hm).mono ?_; rintro e w1 ⟨rfl, hb1⟩
    have z1 := hb1.size
    try simp at z1
    have s1 := hr.next hb1
    go_wp2_with fail
    refine (AreBitterns_any _ _ _ _ s1 hm hII.out).mono ?_; rintro e w2 ⟨rfl, hb2⟩
    have z2 := hb2.size
    try simp at z2
    rw [h]
    go_wp2_with fail
    refine (reduced_any _ _ _ (by omega) (by omega) (by omega) (by omega)).mono ?_; rintro e w3 ⟨rfl, n3, rfl⟩
    go_wp2
    go_ret3
    exact ⟨by rw [Hv.out]; rfl, by (repeat (first | exact Below.refl _ _ | refine Below.drew ?_ | refine below_drewN ?_ _ | (refine Below.alloc ?_ (by (try simp) <;> omega) _) | (refine Below.setCell ?_ (by (try simp) <;> omega) _) | (refine Below.trans ?_ (Below.mono (by assumption) (by (try simp) <;> omega)))))⟩


set_option maxHeartbeats 1000000 in
theorem SMeanBitter_any (A : Option Addr) (c : Nat) (L : List (Int × Int × Int)) (w : World) (hr : SlR f3 3 w w.heap.size A L) (hm : (L.length : Int) ≤ 1048576) (_hI : ∀ x ∈ L, InI3 x) :
    Calls Try.prog 18 #[.slice A L.length c] w fun e w' => e = .returned (meanV L) ∧ Below w.heap.size w w' := by
  have hII := Lib.hid _hI
  clear _hI
  cases h : bitB L
  · have Hv := Lib.hid (show meanV L = .tuple #[.int .i64 0, .int .i64 0, .bool false] by simp [meanV, h])
    generalize sumK L L.length = s at *
    generalize sumG L L.length = g at *
    go_enter Try.func18, Try.ntmps18
    go_wp2_with fail
    refine (l15Sums_any _ _ _ _ hr hm).mono ?_; rintro e w1 ⟨rfl, hb1⟩
    have z1 := hb1.size
    try simp at z1
    have s1 := hr.next hb1
    go_wp2_with fail
    refine (l15Good_any _ _ _ _ s1 hm hII.out).mono ?_; rintro e w2 ⟨rfl, hb2⟩
    have z2 := hb2.size
    try simp at z2
    rw [h]
    go_wp2
    go_ret3
    exact ⟨by rw [Hv.out]; rfl, by (repeat (first | exact Below.refl _ _ | refine Below.drew ?_ | refine below_drewN ?_ _ | (refine Below.alloc ?_ (by (try simp) <;> omega) _) | (refine Below.setCell ?_ (by (try simp) <;> omega) _) | (refine Below.trans ?_ (Below.mono (by assumption) (by (try simp) <;> omega)))))⟩
  have hbd := sums_bound h L.length (Nat.le_refl _)
  have hl8 := bitB_len h
  by_cases h0 : sumK L L.length = 0
  · have Hv := Lib.hid (show meanV L = .tuple #[.int .i64 0, .int .i64 0, .bool false] by simp [meanV, h0])
    clear hbd
    have H0 := Lib.hid h0
    clear h0
    go_enter Try.func18, Try.ntmps18
    go_wp2_with fail
    refine (l15Sums_any _ _ _ _ hr hm).mono ?_; rintro e w1 ⟨rfl, hb1⟩
    have z1 := hb1.size
    try simp at z1
    have s1 := hr.next hb1
    go_wp2_with fail
    refine (l15Good_any _ _ _ _ s1 hm hII.out).mono ?_; rintro e w2 ⟨rfl, hb2⟩
    have z2 := hb2.size
    try simp at z2
    rw [h]
    rw [H0.out]
    go_wp2
    go_ret3
    exact ⟨by rw [Hv.out]; rfl, by (repeat (first | exact Below.refl _ _ | refine Below.drew ?_ | refine below_drewN ?_ _ | (refine Below.alloc ?_ (by (try simp) <;> omega) _) | (refine Below.setCell ?_ (by (try simp) <;> omega) _) | (refine Below.trans ?_ (Below.mono (by assumption) (by (try simp) <;> omega)))))⟩
  · have Hv := Lib.hid (show meanV L = .tuple #[.int .i64 (sumG L L.length / gI (sumG L L.length) (sumK L L.length)), .int .i64 (sumK L L.length / gI (sumG L L.length) (sumK L L.length)), .bool true] by simp [meanV, h, h0])
    have hz : (sumK L L.length == 0) = false := by simpa using h0
    go_enter Try.func18, Try.ntmps18
    go_wp2_with fail
    refine (l15Sums_any _ _ _ _ hr hm).mono ?_; rintro e w1 ⟨rfl, hb1⟩
    have z1 := hb1.size
    try simp at z1
    have s1 := hr.next hb1
    go_wp2_with fail
    refine (l15Good_any _ _ _ _ s1 hm hII.out).mono ?_; rintro e w2 ⟨rfl, hb2⟩
    have z2 := hb2.size
    try simp at z2
    rw [h]
    go_wp2_with fail
    refine (l2Reduce_any _ _ _ (by omega) (by omega) (by omega) (by omega)).mono ?_; rintro e w3 ⟨rfl, n3, rfl⟩
    go_wp2
    go_ret3
    exact ⟨by rw [Hv.out]; rfl, by (repeat (first | exact Below.refl _ _ | refine Below.drew ?_ | refine below_drewN ?_ _ | (refine Below.alloc ?_ (by (try simp) <;> omega) _) | (refine Below.setCell ?_ (by (try simp) <;> omega) _) | (refine Below.trans ?_ (Below.mono (by assumption) (by (try simp) <;> omega)))))⟩



set_option maxHeartbeats 1000000 in
theorem walk_AreBitterns (A : Option Addr) (c : Nat) (L : List (Int × Int × Int)) (hn : (L.length : Int) ≤ 9223372036854775807) (_hI : ∀ x ∈ L, InI3 x) (w : World) (hr : SlR f3 3 w w.heap.size A L) :
    Calls Try.prog 3 #[.slice A L.length c] w fun e w' => e = .returned (.bool true) ∧ Below w.heap.size w w' := by
  by_cases hs : (1048576 : Int) - L.length < 0
  · have Hv := Lib.hid (show szV 1048576 L.length = -1 from if_pos hs)
    clear _hI
    go_enter Try.func3, Try.ntmps3
    go_wp2_with fail
    refine (szBitternS_any _ _ _ _ _ hn (by omega) (by omega)).mono ?_; rintro e w' ⟨rfl, rfl⟩
    rw [Hv.out]
    go_wp2
    go_ret
    exact ⟨rfl, by (repeat (first | exact Below.refl _ _ | refine Below.drew ?_ | refine below_drewN ?_ _ | (refine Below.alloc ?_ (by (try simp) <;> omega) _) | (refine Below.setCell ?_ (by (try simp) <;> omega) _) | (refine Below.trans ?_ (Below.mono (by assumption) (by (try simp) <;> omega)))))⟩
  have Hv := Lib.hid (show szV 1048576 L.length = 1048576 - L.length from if_neg hs)
  have hm : (L.length : Int) ≤ 1048576 := by omega
  have E1 := Lib.hid (eqL_refl L)
  have hII := Lib.hid _hI
  clear _hI
  have nb := neB ((bitB L))
  go_enter Try.func3, Try.ntmps3
  go_wp2_with fail
  refine (szBitternS_any _ _ _ _ _ hn (by omega) (by omega)).mono ?_; rintro e w' ⟨rfl, rfl⟩
  rw [Hv.out]
  go_wp2_with fail
  refine (toBitternS_any _ _ _ _ hr hm).mono ?_; rintro e w1 ⟨A1, c1, rfl, o1, hb1⟩
  have z1 := hb1.size
  have s1 := hr.next hb1
  go_wp2_with fail
  refine (SAreBitterns_any _ _ _  _ o1.sl hm hII.out).mono ?_; rintro e w2 ⟨rfl, hb2⟩
  have z2 := hb2.size
  have s2 := s1.next hb2
  go_wp2_with fail
  refine (toBitternS_any _ _ _ _ s2 hm).mono ?_; rintro e w3 ⟨A3, c3, rfl, o3, hb3⟩
  have z3 := hb3.size
  have s3 := s2.next hb3
  go_wp2_with fail
  refine (AreBitterns_any _ _ _  _ o3.sl hm hII.out).mono ?_; rintro e w4 ⟨rfl, hb4⟩
  have z4 := hb4.size
  have s4 := s3.next hb4
  have x4 := o3.sl.next hb4
  go_wp2_with fail
  refine (toBitternS_any _ _ _ _ s4 hm).mono ?_; rintro e w5 ⟨A5, c5, rfl, o5, hb5⟩
  have z5 := hb5.size
  have x5 := x4.next hb5
  go_wp2_with fail
  refine (eqBitternS_any _ _ _ _ _ _ _ x5 o5.sl hn).mono ?_; rintro e w6 ⟨rfl, hb6⟩
  rw [E1.out]
  have z6 := hb6.size
  go_wp2
  go_ret
  exact ⟨rfl, by (repeat (first | exact Below.refl _ _ | refine Below.drew ?_ | refine below_drewN ?_ _ | (refine Below.alloc ?_ (by (try simp) <;> omega) _) | (refine Below.setCell ?_ (by (try simp) <;> omega) _) | (refine Below.trans ?_ (Below.mono (by assumption) (by (try simp) <;> omega)))))⟩

set_option maxHeartbeats 1000000 in
theorem walk_BitterGrams (A : Option Addr) (c : Nat) (L : List (Int × Int × Int)) (hn : (L.length : Int) ≤ 9223372036854775807) (_hI : ∀ x ∈ L, InI3 x) (w : World) (hr : SlR f3 3 w w.heap.size A L) :
    Calls Try.prog 5 #[.slice A L.length c] w fun e w' => e = .returned (.bool true) ∧ Below w.heap.size w w' := by
  by_cases hs : (1048576 : Int) - L.length < 0
  · have Hv := Lib.hid (show szV 1048576 L.length = -1 from if_pos hs)
    clear _hI
    go_enter Try.func5, Try.ntmps5
    go_wp2_with fail
    refine (szBitternS_any _ _ _ _ _ hn (by omega) (by omega)).mono ?_; rintro e w' ⟨rfl, rfl⟩
    rw [Hv.out]
    go_wp2
    go_ret
    exact ⟨rfl, by (repeat (first | exact Below.refl _ _ | refine Below.drew ?_ | refine below_drewN ?_ _ | (refine Below.alloc ?_ (by (try simp) <;> omega) _) | (refine Below.setCell ?_ (by (try simp) <;> omega) _) | (refine Below.trans ?_ (Below.mono (by assumption) (by (try simp) <;> omega)))))⟩
  have Hv := Lib.hid (show szV 1048576 L.length = 1048576 - L.length from if_neg hs)
  have hm : (L.length : Int) ≤ 1048576 := by omega
  have E1 := Lib.hid (eqL_refl L)
  have hII := Lib.hid _hI
  clear _hI
  obtain ⟨r0, r1, hj⟩ := gramsV_form L
  have Hj := Lib.hid hj; clear hj
  have nr0 := neI r0
  have nr1 := neB r1
  go_enter Try.func5, Try.ntmps5
  go_wp2_with fail
  refine (szBitternS_any _ _ _ _ _ hn (by omega) (by omega)).mono ?_; rintro e w' ⟨rfl, rfl⟩
  rw [Hv.out]
  go_wp2_with fail
  refine (toBitternS_any _ _ _ _ hr hm).mono ?_; rintro e w1 ⟨A1, c1, rfl, o1, hb1⟩
  have z1 := hb1.size
  have s1 := hr.next hb1
  go_wp2_with fail
  refine (SBitterGrams_any _ _ _  _ o1.sl hm hII.out).mono ?_; rintro e w2 ⟨he, hb2⟩; rw [Hj.out] at he; subst he
  have z2 := hb2.size
  have s2 := s1.next hb2
  go_wp2_with fail
  refine (toBitternS_any _ _ _ _ s2 hm).mono ?_; rintro e w3 ⟨A3, c3, rfl, o3, hb3⟩
  have z3 := hb3.size
  have s3 := s2.next hb3
  go_wp2_with fail
  refine (BitterGrams_any _ _ _  _ o3.sl hm hII.out).mono ?_; rintro e w4 ⟨he, hb4⟩; rw [Hj.out] at he; subst he
  have z4 := hb4.size
  have s4 := s3.next hb4
  have x4 := o3.sl.next hb4
  go_wp2_with fail
  refine (toBitternS_any _ _ _ _ s4 hm).mono ?_; rintro e w5 ⟨A5, c5, rfl, o5, hb5⟩
  have z5 := hb5.size
  have x5 := x4.next hb5
  go_wp2_with fail
  refine (eqBitternS_any _ _ _ _ _ _ _ x5 o5.sl hn).mono ?_; rintro e w6 ⟨rfl, hb6⟩
  rw [E1.out]
  have z6 := hb6.size
  go_wp2
  go_ret
  exact ⟨rfl, by (repeat (first | exact Below.refl _ _ | refine Below.drew ?_ | refine below_drewN ?_ _ | (refine Below.alloc ?_ (by (try simp) <;> omega) _) | (refine Below.setCell ?_ (by (try simp) <;> omega) _) | (refine Below.trans ?_ (Below.mono (by assumption) (by (try simp) <;> omega)))))⟩

set_option maxHeartbeats 1000000 in
theorem walk_MeanBitter (A : Option Addr) (c : Nat) (L : List (Int × Int × Int)) (hn : (L.length : Int) ≤ 9223372036854775807) (_hI : ∀ x ∈ L, InI3 x) (w : World) (hr : SlR f3 3 w w.heap.size A L) :
    Calls Try.prog 6 #[.slice A L.length c] w fun e w' => e = .returned (.bool true) ∧ Below w.heap.size w w' := by
  by_cases hs : (1048576 : Int) - L.length < 0
  · have Hv := Lib.hid (show szV 1048576 L.length = -1 from if_pos hs)
    clear _hI
    go_enter Try.func6, Try.ntmps6
    go_wp2_with fail
    refine (szBitternS_any _ _ _ _ _ hn (by omega) (by omega)).mono ?_; rintro e w' ⟨rfl, rfl⟩
    rw [Hv.out]
    go_wp2
    go_ret
    exact ⟨rfl, by (repeat (first | exact Below.refl _ _ | refine Below.drew ?_ | refine below_drewN ?_ _ | (refine Below.alloc ?_ (by (try simp) <;> omega) _) | (refine Below.setCell ?_ (by (try simp) <;> omega) _) | (refine Below.trans ?_ (Below.mono (by assumption) (by (try simp) <;> omega)))))⟩
  have Hv := Lib.hid (show szV 1048576 L.length = 1048576 - L.length from if_neg hs)
  have hm : (L.length : Int) ≤ 1048576 := by omega
  have E1 := Lib.hid (eqL_refl L)
  have hII := Lib.hid _hI
  clear _hI
  obtain ⟨r0, r1, r2, hj⟩ := meanV_form L
  have Hj := Lib.hid hj; clear hj
  have nr0 := neI r0
  have nr1 := neI r1
  have nr2 := neB r2
  go_enter Try.func6, Try.ntmps6
  go_wp2_with fail
  refine (szBitternS_any _ _ _ _ _ hn (by omega) (by omega)).mono ?_; rintro e w' ⟨rfl, rfl⟩
  rw [Hv.out]
  go_wp2_with fail
  refine (toBitternS_any _ _ _ _ hr hm).mono ?_; rintro e w1 ⟨A1, c1, rfl, o1, hb1⟩
  have z1 := hb1.size
  have s1 := hr.next hb1
  go_wp2_with fail
  refine (SMeanBitter_any _ _ _  _ o1.sl hm hII.out).mono ?_; rintro e w2 ⟨he, hb2⟩; rw [Hj.out] at he; subst he
  have z2 := hb2.size
  have s2 := s1.next hb2
  go_wp2_with fail
  refine (toBitternS_any _ _ _ _ s2 hm).mono ?_; rintro e w3 ⟨A3, c3, rfl, o3, hb3⟩
  have z3 := hb3.size
  have s3 := s2.next hb3
  go_wp2_with fail
  refine (MeanBitter_any _ _ _  _ o3.sl hm hII.out).mono ?_; rintro e w4 ⟨he, hb4⟩; rw [Hj.out] at he; subst he
  have z4 := hb4.size
  have s4 := s3.next hb4
  have x4 := o3.sl.next hb4
  go_wp2_with fail
  refine (toBitternS_any _ _ _ _ s4 hm).mono ?_; rintro e w5 ⟨A5, c5, rfl, o5, hb5⟩
  have z5 := hb5.size
  have x5 := x4.next hb5
  go_wp2_with fail
  refine (eqBitternS_any _ _ _ _ _ _ _ x5 o5.sl hn).mono ?_; rintro e w6 ⟨rfl, hb6⟩
  rw [E1.out]
  have z6 := hb6.size
  go_wp2
  go_ret
  exact ⟨rfl, by (repeat (first | exact Below.refl _ _ | refine Below.drew ?_ | refine below_drewN ?_ _ | (refine Below.alloc ?_ (by (try simp) <;> omega) _) | (refine Below.setCell ?_ (by (try simp) <;> omega) _) | (refine Below.trans ?_ (Below.mono (by assumption) (by (try simp) <;> omega)))))⟩

end Go.Proofs.Ytjpoaiiminofdaa
