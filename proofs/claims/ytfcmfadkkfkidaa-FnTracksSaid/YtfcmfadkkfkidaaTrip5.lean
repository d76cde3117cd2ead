/-
  LoadsTo: both programs and the law.
-/
import Derived.Test.YtfcmfadkkfkidaaTrip4
namespace Go.Proofs.Ytfcmfadkkfkidaa
open Go.RowKit

def toAt (L : List (Int × Int × Int × Int × Int)) (stop minute : Int) (k : Nat) : Int := match L[k]? with
  | none => 0
  | some x => if decide (x.2.2.1 = stop) && decide (arr x.2.1 x.2.2.1 x.2.2.2.1 ≤ minute) then x.2.2.2.2 else 0
def loadSum (L : List (Int × Int × Int × Int × Int)) (stop minute : Int) : Nat → Int
  | 0 => 0
  | k + 1 => loadSum L stop minute k + toAt L stop minute k
theorem tripsB_one {L : List (Int × Int × Int × Int × Int)} (h : tripsB L = true) {k : Nat} {x} (hx : L[k]? = some x) : tripB x.1 x.2.1 x.2.2.1 x.2.2.2.1 x.2.2.2.2 = true := by
  rw [tripsB, Bool.and_eq_true] at h
  have h1 := chain_one h.1 hx
  exact h1
theorem tripsB_len {L : List (Int × Int × Int × Int × Int)} (h : tripsB L = true) : L.length ≤ 10 := by
  rw [tripsB, Bool.and_eq_true] at h
  have := of_decide_eq_true h.2
  omega
theorem loadSum_bd {L : List (Int × Int × Int × Int × Int)} (h : tripsB L = true) (stop minute : Int) : ∀ k, k ≤ L.length → 0 ≤ loadSum L stop minute k ∧ loadSum L stop minute k ≤ 8 * k
  | 0, _ => by simp [loadSum]
  | k + 1, hk => by
    have ih := loadSum_bd h stop minute k (by omega)
    have hx : L[k]? = some L[k] := List.getElem?_eq_getElem (by omega)
    have hb := (tripB_bounds (tripsB_one h hx)).2.2.2.2.2.2
    rw [loadSum, toAt, hx]
    dsimp only
    split <;> omega
def loadV (L : List (Int × Int × Int × Int × Int)) (stop minute : Int) : Value :=
  if tripsB L && inB stop 0 9 && inB minute 0 1440 then .tuple #[.int .i64 (loadSum L stop minute L.length), .bool true] else .tuple #[.int .i64 0, .bool false]
theorem loadV_form (L : List (Int × Int × Int × Int × Int)) (stop minute : Int) : ∃ n u, loadV L stop minute = .tuple #[.int .i64 n, .bool u] := by unfold loadV; split <;> exact ⟨_, _, rfl⟩

set_option maxHeartbeats 2000000 in
theorem LoadsTo_any (A : Option Addr) (c : Nat) (L : List (Int × Int × Int × Int × Int)) (p q : Int) (w : World) (hr : SlR f5 5 w w.heap.size A L) (hm : (L.length : Int) ≤ 1048576) (_hI : ∀ x ∈ L, InI5 x) (_hp : InI p) (_hq : InI q) :
    Calls Try.prog 27 #[.slice A L.length c, .int .i64 p, .int .i64 q] w fun e w' => e = .returned (loadV L p q) ∧ Below w.heap.size w w' := by
  have hII := Lib.hid _hI
  clear _hI _hp _hq
  cases h : tripsB L
  · have Hv := Lib.hid (show loadV L p q = .tuple #[.int .i64 0, .bool false] by simp [loadV, h])
    go_enter Try.func27, Try.ntmps27
    go_wp2_with fail
    refine (AreTrips_any _ _ _ _ hr hm hII.out).mono ?_; rintro e w1 ⟨rfl, hb1⟩
    have z1 := hb1.size
    try simp at z1
    rw [h]
    go_wp2
    go_ret2
    exact ⟨by rw [Hv.out]; rfl, by (repeat (first | exact Below.refl _ _ | refine Below.drew ?_ | refine below_drewN ?_ _ | (refine Below.alloc ?_ (by (try simp) <;> omega) _) | (refine Below.setCell ?_ (by (try simp) <;> omega) _) | (refine Below.trans ?_ (Below.mono (by assumption) (by (try simp) <;> omega)))))⟩
  cases h2 : inB p 0 9
  · have Hv := Lib.hid (show loadV L p q = .tuple #[.int .i64 0, .bool false] by simp [loadV, h, h2])
    go_enter Try.func27, Try.ntmps27
    go_wp2_with fail
    refine (AreTrips_any _ _ _ _ hr hm hII.out).mono ?_; rintro e w1 ⟨rfl, hb1⟩
    have z1 := hb1.size
    try simp at z1
    rw [h]
    go_wp2_with fail
    refine (isStop_any _ _).mono ?_; rintro e w' ⟨rfl, rfl⟩
    rw [h2]
    go_wp2
    go_ret2
    exact ⟨by rw [Hv.out]; rfl, by (repeat (first | exact Below.refl _ _ | refine Below.drew ?_ | refine below_drewN ?_ _ | (refine Below.alloc ?_ (by (try simp) <;> omega) _) | (refine Below.setCell ?_ (by (try simp) <;> omega) _) | (refine Below.trans ?_ (Below.mono (by assumption) (by (try simp) <;> omega)))))⟩
  cases h3 : inB q 0 1440
  · have Hv := Lib.hid (show loadV L p q = .tuple #[.int .i64 0, .bool false] by simp [loadV, h, h2, h3])
    go_enter Try.func27, Try.ntmps27
    go_wp2_with fail
    refine (AreTrips_any _ _ _ _ hr hm hII.out).mono ?_; rintro e w1 ⟨rfl, hb1⟩
    have z1 := hb1.size
    try simp at z1
    rw [h]
    go_wp2_with fail
    refine (isStop_any _ _).mono ?_; rintro e w' ⟨rfl, rfl⟩
    rw [h2]
    go_wp2_with fail
    refine (isMinute_any _ _).mono ?_; rintro e w' ⟨rfl, rfl⟩
    rw [h3]
    go_wp2
    go_ret2
    exact ⟨by rw [Hv.out]; rfl, by (repeat (first | exact Below.refl _ _ | refine Below.drew ?_ | refine below_drewN ?_ _ | (refine Below.alloc ?_ (by (try simp) <;> omega) _) | (refine Below.setCell ?_ (by (try simp) <;> omega) _) | (refine Below.trans ?_ (Below.mono (by assumption) (by (try simp) <;> omega)))))⟩
  have Hv := Lib.hid (show loadV L p q = .tuple #[.int .i64 (loadSum L p q L.length), .bool true] by simp [loadV, h, h2, h3])
  have Hg := Lib.hid (fun (k : Nat) (x : Int × Int × Int × Int × Int) (hx : L[k]? = some x) => tripB_bounds (tripsB_one h hx))
  have Hbd := Lib.hid (loadSum_bd h p q)
  have hl10 := tripsB_len h
  go_enter Try.func27, Try.ntmps27
  go_wp2_with fail
  refine (AreTrips_any _ _ _ _ hr hm hII.out).mono ?_; rintro e w1 ⟨rfl, hb1⟩
  have z1 := hb1.size
  try simp at z1
  rw [h]
  go_wp2_with fail
  refine (isStop_any _ _).mono ?_; rintro e w' ⟨rfl, rfl⟩
  rw [h2]
  go_wp2_with fail
  refine (isMinute_any _ _).mono ?_; rintro e w' ⟨rfl, rfl⟩
  rw [h3]
  clear h h2 h3
  go_wp2
  go_loopw [26, 8] (fun i s wr => ∃ k : Nat, i = .int .i64 k ∧ s = .int .i64 (loadSum L p q k) ∧ k ≤ L.length ∧ Below w.heap.size w wr) (fun i _ _ => (L.length - intOf i).toNat)
  case atStart => exact ⟨0, rfl, rfl, by omega, by (repeat (first | exact Below.refl _ _ | refine Below.drew ?_ | refine below_drewN ?_ _ | (refine Below.alloc ?_ (by (try simp) <;> omega) _) | (refine Below.setCell ?_ (by (try simp) <;> omega) _) | (refine Below.trans ?_ (Below.mono (by assumption) (by (try simp) <;> omega)))))⟩
  case round =>
    obtain ⟨k, rfl, rfl, hk, hb⟩ := hrel
    have zr := hb.size
    by_cases hlt : k < L.length
    · have hx : L[k]? = some L[k] := List.getElem?_eq_getElem hlt
      obtain ⟨b, off, rfl, hB, hcs⟩ := hr (SlR.ne hx)
      have hC := hcs.below hb hB
      obtain ⟨c0, c1, c2, c3, c4⟩ := cells5 hC hx
      have hk0 : (0 : Int) ≤ (k : Int) := by omega
      have hk1 : (k : Int) < (L.length : Int) := by omega
      have hBr : b < wr.heap.size := by omega
      obtain ⟨g0, g1, g2, -, g3, g4, g5⟩ := Hg.out k _ hx
      have hbd := Hbd.out k hk
      have hat : toAt L p q k = match L[k]? with | none => 0 | some x => if decide (x.2.2.1 = p) && decide (arr x.2.1 x.2.2.1 x.2.2.2.1 ≤ q) then x.2.2.2.2 else 0 := rfl
      rw [hx] at hat
      dsimp only at hat
      generalize L[k] = x at *
      clear hr hcs hlt Hg Hbd
      by_cases hq : x.2.2.1 = p
      · subst hq
        cases h5 : decide (arr x.2.1 x.2.2.1 x.2.2.2.1 ≤ q)
        case false =>
          have Hn := Lib.hid (show loadSum L x.2.2.1 q (k + 1) = loadSum L x.2.2.1 q k by rw [loadSum, hat, h5]; simp)
          clear hat
          generalize loadSum L x.2.2.1 q k = s at *
          go_wp2_with fail
          refine (arrival_any _ _ _ _ _ _ (by omega) (by omega) (by omega)).mono ?_; rintro e w2 ⟨rfl, hb2⟩
          have z2 := hb2.size
          try simp at z2
          obtain ⟨c2_0, f2_0⟩ := bblk hb2 (g := wr.heap.size) (by (try simp) <;> omega)
          have l2_0 : wr.heap.size < w2.heap.size := by omega
          go_wp2
          go_roundw
          case rel => exact ⟨k + 1, by go_num, by rw [Hn.out], by omega, by (repeat (first | exact Below.refl _ _ | refine Below.drew ?_ | refine below_drewN ?_ _ | (refine Below.alloc ?_ (by (try simp) <;> omega) _) | (refine Below.setCell ?_ (by (try simp) <;> omega) _) | (refine Below.trans ?_ (Below.mono (by assumption) (by (try simp) <;> omega)))))⟩
          case measure => simp only [intOf]; omega
        have Hn := Lib.hid (show loadSum L x.2.2.1 q (k + 1) = loadSum L x.2.2.1 q k + x.2.2.2.2 by rw [loadSum, hat, h5]; simp)
        clear hat
        generalize loadSum L x.2.2.1 q k = s at *
        go_wp2_with fail
        refine (arrival_any _ _ _ _ _ _ (by omega) (by omega) (by omega)).mono ?_; rintro e w2 ⟨rfl, hb2⟩
        have z2 := hb2.size
        try simp at z2
        obtain ⟨c2_0, f2_0⟩ := bblk hb2 (g := wr.heap.size) (by (try simp) <;> omega)
        have l2_0 : wr.heap.size < w2.heap.size := by omega
        go_wp2
        go_roundw
        case rel => exact ⟨k + 1, by go_num, by rw [Hn.out], by omega, by (repeat (first | exact Below.refl _ _ | refine Below.drew ?_ | refine below_drewN ?_ _ | (refine Below.alloc ?_ (by (try simp) <;> omega) _) | (refine Below.setCell ?_ (by (try simp) <;> omega) _) | (refine Below.trans ?_ (Below.mono (by assumption) (by (try simp) <;> omega)))))⟩
        case measure => simp only [intOf]; omega
      · have hne : (x.2.2.1 == p) = false := by simpa using hq
        have Hn := Lib.hid (show loadSum L p q (k + 1) = loadSum L p q k by rw [loadSum, hat]; simp [hq])
        clear hat
        generalize loadSum L p q k = s at *
        go_wp2
        go_roundw
        case rel => exact ⟨k + 1, by go_num, by rw [Hn.out], by omega, by (repeat (first | exact Below.refl _ _ | refine Below.drew ?_ | refine below_drewN ?_ _ | (refine Below.alloc ?_ (by (try simp) <;> omega) _) | (refine Below.setCell ?_ (by (try simp) <;> omega) _) | (refine Below.trans ?_ (Below.mono (by assumption) (by (try simp) <;> omega)))))⟩
        case measure => simp only [intOf]; omega
    · obtain rfl : k = L.length := by omega
      go_wp2
      go_ret2
      exact ⟨by rw [Hv.out]; rfl, by (repeat (first | exact Below.refl _ _ | refine Below.drew ?_ | refine below_drewN ?_ _ | (refine Below.alloc ?_ (by (try simp) <;> omega) _) | (refine Below.setCell ?_ (by (try simp) <;> omega) _) | (refine Below.trans ?_ (Below.mono (by assumption) (by (try simp) <;> omega)))))⟩


set_option maxHeartbeats 2000000 in
theorem SLoadsTo_any (A : Option Addr) (c : Nat) (L : List (Int × Int × Int × Int × Int)) (p q : Int) (w : World) (hr : SlR f5 5 w w.heap.size A L) (hm : (L.length : Int) ≤ 1048576) (_hI : ∀ x ∈ L, InI5 x) (_hp : InI p) (_hq : InI q) :
    Calls Try.prog 26 #[.slice A L.length c, .int .i64 p, .int .i64 q] w fun e w' => e = .returned (loadV L p q) ∧ Below w.heap.size w w' := by
  have hII := Lib.hid _hI
  clear _hI _hp _hq
  cases h : tripsB L
  · have Hv := Lib.hid (show loadV L p q = .tuple #[.int .i64 0, .bool false] by simp [loadV, h])
    go_enter Try.func26, Try.ntmps26
    go_wp2_with fail
    refine (l11Good_any _ _ _ _ hr hm hII.out).mono ?_; rintro e w1 ⟨rfl, hb1⟩
    have z1 := hb1.size
    try simp at z1
    rw [h]
    go_wp2
    go_ret2
    exact ⟨by rw [Hv.out]; rfl, by (repeat (first | exact Below.refl _ _ | refine Below.drew ?_ | refine below_drewN ?_ _ | (refine Below.alloc ?_ (by (try simp) <;> omega) _) | (refine Below.setCell ?_ (by (try simp) <;> omega) _) | (refine Below.trans ?_ (Below.mono (by assumption) (by (try simp) <;> omega)))))⟩
  cases h2 : inB p 0 9
  · have Hv := Lib.hid (show loadV L p q = .tuple #[.int .i64 0, .bool false] by simp [loadV, h, h2])
    go_enter Try.func26, Try.ntmps26
    go_wp2_with fail
    refine (l11Good_any _ _ _ _ hr hm hII.out).mono ?_; rintro e w1 ⟨rfl, hb1⟩
    have z1 := hb1.size
    try simp at z1
    rw [h]
    go_wp2_with fail
    refine (l11Stop_any _ _).mono ?_; rintro e w' ⟨rfl, rfl⟩
    rw [h2]
    go_wp2
    go_ret2
    exact ⟨by rw [Hv.out]; rfl, by (repeat (first | exact Below.refl _ _ | refine Below.drew ?_ | refine below_drewN ?_ _ | (refine Below.alloc ?_ (by (try simp) <;> omega) _) | (refine Below.setCell ?_ (by (try simp) <;> omega) _) | (refine Below.trans ?_ (Below.mono (by assumption) (by (try simp) <;> omega)))))⟩
  cases h3 : inB q 0 1440
  · have Hv := Lib.hid (show loadV L p q = .tuple #[.int .i64 0, .bool false] by simp [loadV, h, h2, h3])
    go_enter Try.func26, Try.ntmps26
    go_wp2_with fail
    refine (l11Good_any _ _ _ _ hr hm hII.out).mono ?_; rintro e w1 ⟨rfl, hb1⟩
    have z1 := hb1.size
    try simp at z1
    rw [h]
    go_wp2_with fail
    refine (l11Stop_any _ _).mono ?_; rintro e w' ⟨rfl, rfl⟩
    rw [h2]
    go_wp2_with fail
    refine (l2Minute_any _ _).mono ?_; rintro e w' ⟨rfl, rfl⟩
    rw [h3]
    go_wp2
    go_ret2
    exact ⟨by rw [Hv.out]; rfl, by (repeat (first | exact Below.refl _ _ | refine Below.drew ?_ | refine below_drewN ?_ _ | (refine Below.alloc ?_ (by (try simp) <;> omega) _) | (refine Below.setCell ?_ (by (try simp) <;> omega) _) | (refine Below.trans ?_ (Below.mono (by assumption) (by (try simp) <;> omega)))))⟩
  have Hv := Lib.hid (show loadV L p q = .tuple #[.int .i64 (loadSum L p q L.length), .bool true] by simp [loadV, h, h2, h3])
  have Hg := Lib.hid (fun (k : Nat) (x : Int × Int × Int × Int × Int) (hx : L[k]? = some x) => tripB_bounds (tripsB_one h hx))
  have Hbd := Lib.hid (loadSum_bd h p q)
  have hl10 := tripsB_len h
  go_enter Try.func26, Try.ntmps26
  go_wp2_with fail
  refine (l11Good_any _ _ _ _ hr hm hII.out).mono ?_; rintro e w1 ⟨rfl, hb1⟩
  have z1 := hb1.size
  try simp at z1
  rw [h]
  go_wp2_with fail
  refine (l11Stop_any _ _).mono ?_; rintro e w' ⟨rfl, rfl⟩
  rw [h2]
  go_wp2_with fail
  refine (l2Minute_any _ _).mono ?_; rintro e w' ⟨rfl, rfl⟩
  rw [h3]
  clear h h2 h3
  go_wp2
  go_loopw [9, 8] (fun i s wr => ∃ k : Nat, i = .int .i64 k ∧ s = .int .i64 (loadSum L p q k) ∧ k ≤ L.length ∧ Below w.heap.size w wr) (fun i _ _ => (L.length - intOf i).toNat)
  case atStart => exact ⟨0, rfl, rfl, by omega, by (repeat (first | exact Below.refl _ _ | refine Below.drew ?_ | refine below_drewN ?_ _ | (refine Below.alloc ?_ (by (try simp) <;> omega) _) | (refine Below.setCell ?_ (by (try simp) <;> omega) _) | (refine Below.trans ?_ (Below.mono (by assumption) (by (try simp) <;> omega)))))⟩
  case round =>
    obtain ⟨k, rfl, rfl, hk, hb⟩ := hrel
    have zr := hb.size
    by_cases hlt : k < L.length
    · have hx : L[k]? = some L[k] := List.getElem?_eq_getElem hlt
      obtain ⟨b, off, rfl, hB, hcs⟩ := hr (SlR.ne hx)
      have hC := hcs.below hb hB
      obtain ⟨c0, c1, c2, c3, c4⟩ := cells5 hC hx
      have hk0 : (0 : Int) ≤ (k : Int) := by omega
      have hk1 : (k : Int) < (L.length : Int) := by omega
      have hBr : b < wr.heap.size := by omega
      obtain ⟨g0, g1, g2, -, g3, g4, g5⟩ := Hg.out k _ hx
      have hbd := Hbd.out k hk
      have hat : toAt L p q k = match L[k]? with | none => 0 | some x => if decide (x.2.2.1 = p) && decide (arr x.2.1 x.2.2.1 x.2.2.2.1 ≤ q) then x.2.2.2.2 else 0 := rfl
      rw [hx] at hat
      dsimp only at hat
      generalize L[k] = x at *
      clear hr hcs hlt Hg Hbd
      by_cases hq : x.2.2.1 = p
      · subst hq
        cases h5 : decide (arr x.2.1 x.2.2.1 x.2.2.2.1 ≤ q)
        case false =>
          have Hn := Lib.hid (show loadSum L x.2.2.1 q (k + 1) = loadSum L x.2.2.1 q k by rw [loadSum, hat, h5]; simp)
          clear hat
          generalize loadSum L x.2.2.1 q k = s at *
          go_wp2_with fail
          refine (l11Arrives_any _ _ _ _ _ _ (by omega) (by omega) (by omega)).mono ?_; rintro e w2 ⟨rfl, hb2⟩
          have z2 := hb2.size
          try simp at z2
          obtain ⟨e0, e1, e2, e3, e4⟩ := cells5 (hC.below hb2 hBr) hx
          go_wp2
          go_roundw
          case rel => exact ⟨k + 1, by go_num, by rw [Hn.out], by omega, by (repeat (first | exact Below.refl _ _ | refine Below.drew ?_ | refine below_drewN ?_ _ | (refine Below.alloc ?_ (by (try simp) <;> omega) _) | (refine Below.setCell ?_ (by (try simp) <;> omega) _) | (refine Below.trans ?_ (Below.mono (by assumption) (by (try simp) <;> omega)))))⟩
          case measure => simp only [intOf]; omega
        have Hn := Lib.hid (show loadSum L x.2.2.1 q (k + 1) = loadSum L x.2.2.1 q k + x.2.2.2.2 by rw [loadSum, hat, h5]; simp)
        clear hat
        generalize loadSum L x.2.2.1 q k = s at *
        go_wp2_with fail
        refine (l11Arrives_any _ _ _ _ _ _ (by omega) (by omega) (by omega)).mono ?_; rintro e w2 ⟨rfl, hb2⟩
        have z2 := hb2.size
        try simp at z2
        obtain ⟨e0, e1, e2, e3, e4⟩ := cells5 (hC.below hb2 hBr) hx
        go_wp2
        go_roundw
        case rel => exact ⟨k + 1, by go_num, by rw [Hn.out], by omega, by (repeat (first | exact Below.refl _ _ | refine Below.drew ?_ | refine below_drewN ?_ _ | (refine Below.alloc ?_ (by (try simp) <;> omega) _) | (refine Below.setCell ?_ (by (try simp) <;> omega) _) | (refine Below.trans ?_ (Below.mono (by assumption) (by (try simp) <;> omega)))))⟩
        case measure => simp only [intOf]; omega
      · have hne : (x.2.2.1 == p) = false := by simpa using hq
        have Hn := Lib.hid (show loadSum L p q (k + 1) = loadSum L p q k by rw [loadSum, hat]; simp [hq])
        clear hat
        generalize loadSum L p q k = s at *
        go_wp2
        go_roundw
        case rel => exact ⟨k + 1, by go_num, by rw [Hn.out], by omega, by (repeat (first | exact Below.refl _ _ | refine Below.drew ?_ | refine below_drewN ?_ _ | (refine Below.alloc ?_ (by (try simp) <;> omega) _) | (refine Below.setCell ?_ (by (try simp) <;> omega) _) | (refine Below.trans ?_ (Below.mono (by assumption) (by (try simp) <;> omega)))))⟩
        case measure => simp only [intOf]; omega
    · obtain rfl : k = L.length := by omega
      go_wp2
      go_ret2
      exact ⟨by rw [Hv.out]; rfl, by (repeat (first | exact Below.refl _ _ | refine Below.drew ?_ | refine below_drewN ?_ _ | (refine Below.alloc ?_ (by (try simp) <;> omega) _) | (refine Below.setCell ?_ (by (try simp) <;> omega) _) | (refine Below.trans ?_ (Below.mono (by assumption) (by (try simp) <;> omega)))))⟩



set_option maxHeartbeats 1000000 in
theorem walk_LoadsTo (A : Option Addr) (c : Nat) (L : List (Int × Int × Int × Int × Int)) (hn : (L.length : Int) ≤ 9223372036854775807) (_hI : ∀ x ∈ L, InI5 x) (p : Int) (_hp : InI p) (q : Int) (_hq : InI q) (w : World) (hr : SlR f5 5 w w.heap.size A L) :
    Calls Try.prog 6 #[.slice A L.length c, .int .i64 p, .int .i64 q] w fun e w' => e = .returned (.bool true) ∧ Below w.heap.size w w' := by
  by_cases hs : (1048576 : Int) - L.length < 0
  · have Hv := Lib.hid (show szV 1048576 L.length = -1 from if_pos hs)
    clear _hI
    go_enter Try.func6, Try.ntmps6
    go_wp2_with fail
    refine (szTripS_any _ _ _ _ _ hn (by omega) (by omega)).mono ?_; rintro e w' ⟨rfl, rfl⟩
    rw [Hv.out]
    go_wp2
    go_ret
    exact ⟨rfl, by (repeat (first | exact Below.refl _ _ | refine Below.drew ?_ | refine below_drewN ?_ _ | (refine Below.alloc ?_ (by (try simp) <;> omega) _) | (refine Below.setCell ?_ (by (try simp) <;> omega) _) | (refine Below.trans ?_ (Below.mono (by assumption) (by (try simp) <;> omega)))))⟩
  have Hv := Lib.hid (show szV 1048576 L.length = 1048576 - L.length from if_neg hs)
  have hm : (L.length : Int) ≤ 1048576 := by omega
  have E1 := Lib.hid (eqL_refl L)
  have hII := Lib.hid _hI
  clear _hI
  obtain ⟨r0, r1, hj⟩ := loadV_form L p q
  have Hj := Lib.hid hj; clear hj
  have nr0 := neI r0
  have nr1 := neB r1
  have Hp := Lib.hid _hp; clear _hp
  have Hq := Lib.hid _hq; clear _hq
  go_enter Try.func6, Try.ntmps6
  go_wp2_with fail
  refine (szTripS_any _ _ _ _ _ hn (by omega) (by omega)).mono ?_; rintro e w' ⟨rfl, rfl⟩
  rw [Hv.out]
  go_wp2_with fail
  refine (toTripS_any _ _ _ _ hr hm).mono ?_; rintro e w1 ⟨A1, c1, rfl, o1, hb1⟩
  have z1 := hb1.size
  have s1 := hr.next hb1
  go_wp2_with fail
  refine (SLoadsTo_any _ _ _ _ _ _ o1.sl hm hII.out Hp.out Hq.out).mono ?_; rintro e w2 ⟨he, hb2⟩; rw [Hj.out] at he; subst he
  have z2 := hb2.size
  have s2 := s1.next hb2
  go_wp2_with fail
  refine (toTripS_any _ _ _ _ s2 hm).mono ?_; rintro e w3 ⟨A3, c3, rfl, o3, hb3⟩
  have z3 := hb3.size
  have s3 := s2.next hb3
  go_wp2_with fail
  refine (LoadsTo_any _ _ _ _ _ _ o3.sl hm hII.out Hp.out Hq.out).mono ?_; rintro e w4 ⟨he, hb4⟩; rw [Hj.out] at he; subst he
  have z4 := hb4.size
  have s4 := s3.next hb4
  have x4 := o3.sl.next hb4
  go_wp2_with fail
  refine (toTripS_any _ _ _ _ s4 hm).mono ?_; rintro e w5 ⟨A5, c5, rfl, o5, hb5⟩
  have z5 := hb5.size
  have x5 := x4.next hb5
  go_wp2_with fail
  refine (eqTripS_any _ _ _ _ _ _ _ x5 o5.sl hn).mono ?_; rintro e w6 ⟨rfl, hb6⟩
  rw [E1.out]
  have z6 := hb6.size
  go_wp2
  go_ret
  exact ⟨rfl, by (repeat (first | exact Below.refl _ _ | refine Below.drew ?_ | refine below_drewN ?_ _ | (refine Below.alloc ?_ (by (try simp) <;> omega) _) | (refine Below.setCell ?_ (by (try simp) <;> omega) _) | (refine Below.trans ?_ (Below.mono (by assumption) (by (try simp) <;> omega)))))⟩

end Go.Proofs.Ytfcmfadkkfkidaa
