/-
  WidestRung: both programs and the law.
-/
import Derived.Test.YthhjbdhglaombaaLad3
namespace Go.Proofs.Ythhjbdhglaombaa
open Go.RowKit

def wid (L : List (Int × Int)) (k : Nat) : Int := match L[k]? with | some x => x.2 - x.1 | none => 0
def bestTo (L : List (Int × Int)) : Nat → Nat
  | 0 => 0
  | k + 1 => if decide (wid L k > wid L (bestTo L k)) then k else bestTo L k
theorem wid_get {L : List (Int × Int)} {k : Nat} {x : Int × Int} (h : L[k]? = some x) : wid L k = x.2 - x.1 := by rw [wid, h]
theorem bestTo_le (L : List (Int × Int)) : ∀ k, bestTo L k ≤ k - 1
  | 0 => Nat.le_refl 0
  | k + 1 => by
    have := bestTo_le L k
    rw [bestTo]; split <;> omega
def widestV (L : List (Int × Int)) : Value := if ladB L then .tuple #[.int .i64 (bestTo L L.length), .bool true] else .tuple #[.int .i64 0, .bool false]
theorem widestV_form (L : List (Int × Int)) : ∃ x u, widestV L = .tuple #[.int .i64 x, .bool u] := by
  unfold widestV; split <;> exact ⟨_, _, rfl⟩
theorem ladB_rung {L : List (Int × Int)} (h : ladB L = true) {k : Nat} {x : Int × Int} (hx : L[k]? = some x) : 0 ≤ x.1 ∧ x.1 ≤ x.2 ∧ x.2 ≤ 1000 := by
  rw [ladB, Bool.and_eq_true] at h
  have := chain_one h.1 hx
  simpa [rung1] using this
theorem ladB_len {L : List (Int × Int)} (h : ladB L = true) : 1 ≤ L.length ∧ L.length ≤ 8 := by
  rw [ladB, Bool.and_eq_true] at h
  have := h.2
  simp [inB] at this
  omega

set_option maxHeartbeats 2000000 in
theorem WidestRung_any (A : Option Addr) (c : Nat) (L : List (Int × Int)) (w : World) (hr : SlR f2 2 w w.heap.size A L) (hm : (L.length : Int) ≤ 1048576) (_hI : ∀ x ∈ L, InI2 x) :
    Calls Try.prog 24 #[.slice A L.length c] w fun e w' => e = .returned (widestV L) ∧ Below w.heap.size w w' := by
  clear _hI
  cases hl : ladB L
  · have Hv := Lib.hid (show widestV L = .tuple #[.int .i64 0, .bool false] by simp [widestV, hl])
    go_enter Try.func24, Try.ntmps24
    go_wp2_with fail
    refine (IsLadder_any _ _ _ _ hr (by omega)).mono ?_; rintro e w1 ⟨rfl, hb1⟩
    have z1 := hb1.size
    try simp at z1
    rw [hl]
    go_wp2
    go_ret2
    exact ⟨by rw [Hv.out]; rfl, by (repeat (first | exact Below.refl _ _ | refine Below.drew ?_ | refine below_drewN ?_ _ | (refine Below.alloc ?_ (by (try simp) <;> omega) _) | (refine Below.setCell ?_ (by (try simp) <;> omega) _) | (refine Below.trans ?_ (Below.mono (by assumption) (by (try simp) <;> omega)))))⟩
  have Hv := Lib.hid (show widestV L = .tuple #[.int .i64 (bestTo L L.length), .bool true] by simp [widestV, hl])
  have Hg := Lib.hid (fun (k : Nat) (x : Int × Int) (h : L[k]? = some x) => ladB_rung hl h)
  have hlen := ladB_len hl
  go_enter Try.func24, Try.ntmps24
  go_wp2_with fail
  refine (IsLadder_any _ _ _ _ hr (by omega)).mono ?_; rintro e w1 ⟨rfl, hb1⟩
  have z1 := hb1.size
  try simp at z1
  rw [hl]
  go_wp2
  go_loopw [12, 4] (fun i best wr => ∃ k : Nat, i = .int .i64 k ∧ best = .int .i64 (bestTo L k) ∧ k ≤ L.length ∧ Below w.heap.size w wr) (fun i _ _ => (L.length - intOf i).toNat)
  case atStart => exact ⟨0, rfl, rfl, by omega, by (repeat (first | exact Below.refl _ _ | refine Below.drew ?_ | refine below_drewN ?_ _ | (refine Below.alloc ?_ (by (try simp) <;> omega) _) | (refine Below.setCell ?_ (by (try simp) <;> omega) _) | (refine Below.trans ?_ (Below.mono (by assumption) (by (try simp) <;> omega)))))⟩
  case round =>
    obtain ⟨k, rfl, rfl, hk, hb⟩ := hrel
    have zr := hb.size
    by_cases hlt : k < L.length
    · have hx : L[k]? = some L[k] := List.getElem?_eq_getElem hlt
      have hbl := bestTo_le L k
      have hy : L[bestTo L k]? = some L[bestTo L k] := List.getElem?_eq_getElem (by omega)
      obtain ⟨b, off, rfl, hB, hcs⟩ := hr (SlR.ne hx)
      have hC := hcs.below hb hB
      have hBr : b < wr.heap.size := by omega
      obtain ⟨c0, c1⟩ := cells2 hC hx
      have e0 := fun o => (cells2 (hC.below ((Below.refl wr.heap.size wr).alloc (Nat.le_refl _) o) hBr) hy).1
      have e1 := fun o => (cells2 (hC.below ((Below.refl wr.heap.size wr).alloc (Nat.le_refl _) o) hBr) hy).2
      have hk0 : (0 : Int) ≤ (k : Int) := by omega
      have hk1 : (k : Int) < (L.length : Int) := by omega
      have bx := Hg.out _ _ hx
      have by' := Hg.out _ _ hy
      have wx := wid_get hx
      have wy := wid_get hy
      generalize L[k] = x at *
      generalize L[bestTo L k] = y at *
      cases hd : decide (x.2 - x.1 > y.2 - y.1)
      · have Hn := Lib.hid (show bestTo L (k + 1) = bestTo L k by rw [bestTo, wx, wy, hd]; rfl)
        clear wx wy hx hy hC hcs hr Hg
        generalize bestTo L k = p at *
        have hp0 : (0 : Int) ≤ (p : Int) := by omega
        have hp1 : (p : Int) < (L.length : Int) := by omega
        go_wp2
        go_quiet (fail)
        go_wp2
        go_roundw
        case rel => exact ⟨k + 1, by go_num, by rw [Hn.out], by omega, by (repeat (first | exact Below.refl _ _ | refine Below.drew ?_ | refine below_drewN ?_ _ | (refine Below.alloc ?_ (by (try simp) <;> omega) _) | (refine Below.setCell ?_ (by (try simp) <;> omega) _) | (refine Below.trans ?_ (Below.mono (by assumption) (by (try simp) <;> omega)))))⟩
        case measure => simp only [intOf]; omega
      · have Hn := Lib.hid (show bestTo L (k + 1) = k by rw [bestTo, wx, wy, hd]; rfl)
        clear wx wy hx hy hC hcs hr Hg
        generalize bestTo L k = p at *
        have hp0 : (0 : Int) ≤ (p : Int) := by omega
        have hp1 : (p : Int) < (L.length : Int) := by omega
        go_wp2
        go_quiet (fail)
        go_wp2
        go_roundw
        case rel => exact ⟨k + 1, by go_num, by rw [Hn.out], by omega, by (repeat (first | exact Below.refl _ _ | refine Below.drew ?_ | refine below_drewN ?_ _ | (refine Below.alloc ?_ (by (try simp) <;> omega) _) | (refine Below.setCell ?_ (by (try simp) <;> omega) _) | (refine Below.trans ?_ (Below.mono (by assumption) (by (try simp) <;> omega)))))⟩
        case measure => simp only [intOf]; omega
    · obtain rfl : k = L.length := by omega
      go_wp2
      go_ret2
      exact ⟨by rw [Hv.out]; rfl, by (repeat (first | exact Below.refl _ _ | refine Below.drew ?_ | refine below_drewN ?_ _ | (refine Below.alloc ?_ (by (try simp) <;> omega) _) | (refine Below.setCell ?_ (by (try simp) <;> omega) _) | (refine Below.trans ?_ (Below.mono (by assumption) (by (try simp) <;> omega)))))⟩

set_option maxHeartbeats 2000000 in
theorem SWidestRung_any (A : Option Addr) (c : Nat) (L : List (Int × Int)) (w : World) (hr : SlR f2 2 w w.heap.size A L) (hm : (L.length : Int) ≤ 1048576) (_hI : ∀ x ∈ L, InI2 x) :
    Calls Try.prog 23 #[.slice A L.length c] w fun e w' => e = .returned (widestV L) ∧ Below w.heap.size w w' := by
  clear _hI
  cases hl : ladB L
  · have Hv := Lib.hid (show widestV L = .tuple #[.int .i64 0, .bool false] by simp [widestV, hl])
    go_enter Try.func23, Try.ntmps23
    go_wp2_with fail
    refine (l13Good_any _ _ _ _ hr (by omega)).mono ?_; rintro e w1 ⟨rfl, hb1⟩
    have z1 := hb1.size
    try simp at z1
    rw [hl]
    go_wp2
    go_ret2
    exact ⟨by rw [Hv.out]; rfl, by (repeat (first | exact Below.refl _ _ | refine Below.drew ?_ | refine below_drewN ?_ _ | (refine Below.alloc ?_ (by (try simp) <;> omega) _) | (refine Below.setCell ?_ (by (try simp) <;> omega) _) | (refine Below.trans ?_ (Below.mono (by assumption) (by (try simp) <;> omega)))))⟩
  have Hv := Lib.hid (show widestV L = .tuple #[.int .i64 (bestTo L L.length), .bool true] by simp [widestV, hl])
  have Hg := Lib.hid (fun (k : Nat) (x : Int × Int) (h : L[k]? = some x) => ladB_rung hl h)
  have hlen := ladB_len hl
  have hz : bestTo L 1 = 0 := by have := bestTo_le L 1; omega
  go_enter Try.func23, Try.ntmps23
  go_wp2_with fail
  refine (l13Good_any _ _ _ _ hr (by omega)).mono ?_; rintro e w1 ⟨rfl, hb1⟩
  have z1 := hb1.size
  try simp at z1
  rw [hl]
  go_wp2
  go_loopw [5, 4] (fun i best wr => ∃ k : Nat, i = .int .i64 k ∧ best = .int .i64 (bestTo L k) ∧ k ≤ L.length ∧ 1 ≤ k ∧ Below w.heap.size w wr) (fun i _ _ => (L.length - intOf i).toNat)
  case atStart => exact ⟨1, rfl, by rw [hz]; rfl, by omega, by omega, by (repeat (first | exact Below.refl _ _ | refine Below.drew ?_ | refine below_drewN ?_ _ | (refine Below.alloc ?_ (by (try simp) <;> omega) _) | (refine Below.setCell ?_ (by (try simp) <;> omega) _) | (refine Below.trans ?_ (Below.mono (by assumption) (by (try simp) <;> omega)))))⟩
  case round =>
    obtain ⟨k, rfl, rfl, hk, hk2, hb⟩ := hrel
    have zr := hb.size
    by_cases hlt : k < L.length
    · have hx : L[k]? = some L[k] := List.getElem?_eq_getElem hlt
      have hbl := bestTo_le L k
      have hy : L[bestTo L k]? = some L[bestTo L k] := List.getElem?_eq_getElem (by omega)
      obtain ⟨b, off, rfl, hB, hcs⟩ := hr (SlR.ne hx)
      have hC := hcs.below hb hB
      have hBr : b < wr.heap.size := by omega
      obtain ⟨c0, c1⟩ := cells2 hC hx
      obtain ⟨e0, e1⟩ := cells2 hC hy
      have hk0 : (0 : Int) ≤ (k : Int) := by omega
      have hk1 : (k : Int) < (L.length : Int) := by omega
      have bx := Hg.out _ _ hx
      have by' := Hg.out _ _ hy
      have wx := wid_get hx
      have wy := wid_get hy
      generalize L[k] = x at *
      generalize L[bestTo L k] = y at *
      cases hd : decide (x.2 - x.1 > y.2 - y.1)
      · have Hn := Lib.hid (show bestTo L (k + 1) = bestTo L k by rw [bestTo, wx, wy, hd]; rfl)
        clear wx wy hx hy hC hcs hr Hg
        generalize bestTo L k = p at *
        have hp0 : (0 : Int) ≤ (p : Int) := by omega
        have hp1 : (p : Int) < (L.length : Int) := by omega
        go_wp2
        go_quiet (fail)
        go_wp2
        go_roundw
        case rel => exact ⟨k + 1, by go_num, by rw [Hn.out], by omega, by omega, by (repeat (first | exact Below.refl _ _ | refine Below.drew ?_ | refine below_drewN ?_ _ | (refine Below.alloc ?_ (by (try simp) <;> omega) _) | (refine Below.setCell ?_ (by (try simp) <;> omega) _) | (refine Below.trans ?_ (Below.mono (by assumption) (by (try simp) <;> omega)))))⟩
        case measure => simp only [intOf]; omega
      · have Hn := Lib.hid (show bestTo L (k + 1) = k by rw [bestTo, wx, wy, hd]; rfl)
        clear wx wy hx hy hC hcs hr Hg
        generalize bestTo L k = p at *
        have hp0 : (0 : Int) ≤ (p : Int) := by omega
        have hp1 : (p : Int) < (L.length : Int) := by omega
        go_wp2
        go_quiet (fail)
        go_wp2
        go_roundw
        case rel => exact ⟨k + 1, by go_num, by rw [Hn.out], by omega, by omega, by (repeat (first | exact Below.refl _ _ | refine Below.drew ?_ | refine below_drewN ?_ _ | (refine Below.alloc ?_ (by (try simp) <;> omega) _) | (refine Below.setCell ?_ (by (try simp) <;> omega) _) | (refine Below.trans ?_ (Below.mono (by assumption) (by (try simp) <;> omega)))))⟩
        case measure => simp only [intOf]; omega
    · obtain rfl : k = L.length := by omega
      go_wp2
      go_ret2
      exact ⟨by rw [Hv.out]; rfl, by (repeat (first | exact Below.refl _ _ | refine Below.drew ?_ | refine below_drewN ?_ _ | (refine Below.alloc ?_ (by (try simp) <;> omega) _) | (refine Below.setCell ?_ (by (try simp) <;> omega) _) | (refine Below.trans ?_ (Below.mono (by assumption) (by (try simp) <;> omega)))))⟩

set_option maxHeartbeats 1000000 in
theorem walk_WidestRung (A : Option Addr) (c : Nat) (L : List (Int × Int)) (hn : (L.length : Int) ≤ 9223372036854775807) (_hI : ∀ x ∈ L, InI2 x) (w : World) (hr : SlR f2 2 w w.heap.size A L) :
    Calls Try.prog 5 #[.slice A L.length c] w fun e w' => e = .returned (.bool true) ∧ Below w.heap.size w w' := by
  by_cases hs : (1048576 : Int) - L.length < 0
  · have Hv := Lib.hid (show szV 1048576 L.length = -1 from if_pos hs)
    clear _hI
    go_enter Try.func5, Try.ntmps5
    go_wp2_with fail
    refine (szRungS_any _ _ _ _ _ hn (by omega) (by omega)).mono ?_; rintro e w' ⟨rfl, rfl⟩
    rw [Hv.out]
    go_wp2
    go_ret
    exact ⟨rfl, by (repeat (first | exact Below.refl _ _ | refine Below.drew ?_ | refine below_drewN ?_ _ | (refine Below.alloc ?_ (by (try simp) <;> omega) _) | (refine Below.setCell ?_ (by (try simp) <;> omega) _) | (refine Below.trans ?_ (Below.mono (by assumption) (by (try simp) <;> omega)))))⟩
  have Hv := Lib.hid (show szV 1048576 L.length = 1048576 - L.length from if_neg hs)
  have hm : (L.length : Int) ≤ 1048576 := by omega
  have E1 := Lib.hid (eqL_refl L)
  have hII := Lib.hid _hI
  clear _hI
  obtain ⟨r0, r1, hj⟩ := widestV_form L
  have Hj := Lib.hid hj; clear hj
  have nr0 := neI r0
  have nr1 := neB r1
  go_enter Try.func5, Try.ntmps5
  go_wp2_with fail
  refine (szRungS_any _ _ _ _ _ hn (by omega) (by omega)).mono ?_; rintro e w' ⟨rfl, rfl⟩
  rw [Hv.out]
  go_wp2_with fail
  refine (toRungS_any _ _ _ _ hr hm).mono ?_; rintro e w1 ⟨A1, c1, rfl, o1, hb1⟩
  have z1 := hb1.size
  have s1 := hr.next hb1
  go_wp2_with fail
  refine (SWidestRung_any _ _ _  _ o1.sl hm hII.out).mono ?_; rintro e w2 ⟨he, hb2⟩; rw [Hj.out] at he; subst he
  have z2 := hb2.size
  have s2 := s1.next hb2
  go_wp2_with fail
  refine (toRungS_any _ _ _ _ s2 hm).mono ?_; rintro e w3 ⟨A3, c3, rfl, o3, hb3⟩
  have z3 := hb3.size
  have s3 := s2.next hb3
  go_wp2_with fail
  refine (WidestRung_any _ _ _  _ o3.sl hm hII.out).mono ?_; rintro e w4 ⟨he, hb4⟩; rw [Hj.out] at he; subst he
  have z4 := hb4.size
  have s4 := s3.next hb4
  have x4 := o3.sl.next hb4
  go_wp2_with fail
  refine (toRungS_any _ _ _ _ s4 hm).mono ?_; rintro e w5 ⟨A5, c5, rfl, o5, hb5⟩
  have z5 := hb5.size
  have x5 := x4.next hb5
  go_wp2_with fail
  refine (eqRungS_any _ _ _ _ _ _ _ x5 o5.sl hn).mono ?_; rintro e w6 ⟨rfl, hb6⟩
  rw [E1.out]
  have z6 := hb6.size
  go_wp2
  go_ret
  exact ⟨rfl, by (repeat (first | exact Below.refl _ _ | refine Below.drew ?_ | refine below_drewN ?_ _ | (refine Below.alloc ?_ (by (try simp) <;> omega) _) | (refine Below.setCell ?_ (by (try simp) <;> omega) _) | (refine Below.trans ?_ (Below.mono (by assumption) (by (try simp) <;> omega)))))⟩

end Go.Proofs.Ythhjbdhglaombaa
