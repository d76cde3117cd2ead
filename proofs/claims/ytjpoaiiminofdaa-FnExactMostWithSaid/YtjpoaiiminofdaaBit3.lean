/-
  BitterestCask: both programs and the law.
-/
import Derived.Test.YtjpoaiiminofdaaBit2
namespace Go.Proofs.Ytjpoaiiminofdaa
open Go.RowKit

/-- The bitterest of the first k: its id and bitterness; (0, -1) where there is none. -/
def bst (L : List (Int × Int × Int)) : Nat → Int × Int
  | 0 => (0, -1)
  | k + 1 => match L[k]? with
    | none => bst L k
    | some x => if decide (x.2.1 > 0) && decide (x.2.2 > (bst L k).2) then (x.1, x.2.2) else bst L k
theorem bst_yes {L : List (Int × Int × Int)} {k : Nat} {x} (hx : L[k]? = some x) (h1 : decide (x.2.1 > 0) = true) (h2 : decide (x.2.2 > (bst L k).2) = true) : bst L (k + 1) = (x.1, x.2.2) := by rw [bst, hx]; simp only [h1, h2]; rfl
theorem bst_no1 {L : List (Int × Int × Int)} {k : Nat} {x} (hx : L[k]? = some x) (h1 : decide (x.2.1 > 0) = false) : bst L (k + 1) = bst L k := by rw [bst, hx]; simp only [h1]; rfl
theorem bst_no2 {L : List (Int × Int × Int)} {k : Nat} {x} (hx : L[k]? = some x) (h1 : decide (x.2.1 > 0) = true) (h2 : decide (x.2.2 > (bst L k).2) = false) : bst L (k + 1) = bst L k := by rw [bst, hx]; simp only [h1, h2]; rfl
theorem bst_form {L : List (Int × Int × Int)} (h : bitB L = true) : ∀ k, k ≤ L.length → (bst L k = (0, -1)) ∨ (1 ≤ (bst L k).1 ∧ 0 ≤ (bst L k).2)
  | 0, _ => .inl rfl
  | k + 1, hk => by
    have ih := bst_form h k (by omega)
    have hx : L[k]? = some L[k] := List.getElem?_eq_getElem (by omega)
    have hb := bitB_one h hx
    generalize L[k] = x at *
    rw [bst, hx]
    dsimp only
    split
    · right; dsimp only; omega
    · exact ih
def bstV (L : List (Int × Int × Int)) : Value := if bitB L then .tuple #[.int .i64 (bst L L.length).1, .bool (decide ((bst L L.length).1 > 0))] else .tuple #[.int .i64 0, .bool false]
theorem bstV_form (L : List (Int × Int × Int)) : ∃ n u, bstV L = .tuple #[.int .i64 n, .bool u] := by unfold bstV; split <;> exact ⟨_, _, rfl⟩

set_option maxHeartbeats 2000000 in
theorem BitterestCask_any (A : Option Addr) (c : Nat) (L : List (Int × Int × Int)) (w : World) (hr : SlR f3 3 w w.heap.size A L) (hm : (L.length : Int) ≤ 1048576) (_hI : ∀ x ∈ L, InI3 x) :
    Calls Try.prog 15 #[.slice A L.length c] w fun e w' => e = .returned (bstV L) ∧ Below w.heap.size w w' := by
  have hII := Lib.hid _hI
  clear _hI
  cases h : bitB L
  · have Hv := Lib.hid (show bstV L = .tuple #[.int .i64 0, .bool false] by simp [bstV, h])
    go_enter Try.func15, Try.ntmps15
    go_wp2_with fail
    refine (AreBitterns_any _ _ _ _ hr hm hII.out).mono ?_; rintro e w1 ⟨rfl, hb1⟩
    have z1 := hb1.size
    try simp at z1
    rw [h]
    go_wp2
    go_ret2
    exact ⟨by rw [Hv.out]; rfl, by (repeat (first | exact Below.refl _ _ | refine Below.drew ?_ | refine below_drewN ?_ _ | (refine Below.alloc ?_ (by (try simp) <;> omega) _) | (refine Below.setCell ?_ (by (try simp) <;> omega) _) | (refine Below.trans ?_ (Below.mono (by assumption) (by (try simp) <;> omega)))))⟩
  have Hv := Lib.hid (show bstV L = .tuple #[.int .i64 (bst L L.length).1, .bool (decide ((bst L L.length).1 > 0))] by simp [bstV, h])
  go_enter Try.func15, Try.ntmps15
  go_wp2_with fail
  refine (AreBitterns_any _ _ _ _ hr hm hII.out).mono ?_; rintro e w1 ⟨rfl, hb1⟩
  have z1 := hb1.size
  try simp at z1
  rw [h]
  go_wp2
  go_loopw [13, 4, 5] (fun i s g wr => ∃ k : Nat, i = .int .i64 k ∧ s = .int .i64 (bst L k).1 ∧ g = .int .i64 (bst L k).2 ∧ k ≤ L.length ∧ Below w.heap.size w wr) (fun i _ _ _ => (L.length - intOf i).toNat)
  case atStart => exact ⟨0, rfl, rfl, rfl, by omega, by (repeat (first | exact Below.refl _ _ | refine Below.drew ?_ | refine below_drewN ?_ _ | (refine Below.alloc ?_ (by (try simp) <;> omega) _) | (refine Below.setCell ?_ (by (try simp) <;> omega) _) | (refine Below.trans ?_ (Below.mono (by assumption) (by (try simp) <;> omega)))))⟩
  case round =>
    obtain ⟨k, rfl, rfl, rfl, hk, hb⟩ := hrel
    have zr := hb.size
    by_cases hlt : k < L.length
    · have hx : L[k]? = some L[k] := List.getElem?_eq_getElem hlt
      obtain ⟨b, off, rfl, hB, hcs⟩ := hr (SlR.ne hx)
      obtain ⟨c0, c1, c2⟩ := cells3 (hcs.below hb hB) hx
      have hk0 : (0 : Int) ≤ (k : Int) := by omega
      have hk1 : (k : Int) < (L.length : Int) := by omega
      generalize L[k] = x at *
      cases h1 : decide (x.2.1 > 0)
      case false =>
        have Hn := Lib.hid (bst_no1 hx h1)
        clear hx hcs hr hlt
        generalize bst L k = p at *
        go_wp2
        go_roundw
        case rel => exact ⟨k + 1, by go_num, by rw [Hn.out], by rw [Hn.out], by omega, by (repeat (first | exact Below.refl _ _ | refine Below.drew ?_ | refine below_drewN ?_ _ | (refine Below.alloc ?_ (by (try simp) <;> omega) _) | (refine Below.setCell ?_ (by (try simp) <;> omega) _) | (refine Below.trans ?_ (Below.mono (by assumption) (by (try simp) <;> omega)))))⟩
        case measure => simp only [intOf]; omega
      cases h2 : decide (x.2.2 > (bst L k).2)
      case false =>
        have Hn := Lib.hid (bst_no2 hx h1 h2)
        clear hx hcs hr hlt
        generalize bst L k = p at *
        go_wp2
        go_roundw
        case rel => exact ⟨k + 1, by go_num, by rw [Hn.out], by rw [Hn.out], by omega, by (repeat (first | exact Below.refl _ _ | refine Below.drew ?_ | refine below_drewN ?_ _ | (refine Below.alloc ?_ (by (try simp) <;> omega) _) | (refine Below.setCell ?_ (by (try simp) <;> omega) _) | (refine Below.trans ?_ (Below.mono (by assumption) (by (try simp) <;> omega)))))⟩
        case measure => simp only [intOf]; omega
      have Hn := Lib.hid (bst_yes hx h1 h2)
      clear hx hcs hr hlt
      generalize bst L k = p at *
      go_wp2
      go_quiet (fail)
      go_wp2
      go_roundw
      case rel => exact ⟨k + 1, by go_num, by rw [Hn.out], by rw [Hn.out], by omega, by (repeat (first | exact Below.refl _ _ | refine Below.drew ?_ | refine below_drewN ?_ _ | (refine Below.alloc ?_ (by (try simp) <;> omega) _) | (refine Below.setCell ?_ (by (try simp) <;> omega) _) | (refine Below.trans ?_ (Below.mono (by assumption) (by (try simp) <;> omega)))))⟩
      case measure => simp only [intOf]; omega
    · obtain rfl : k = L.length := by omega
      go_wp2
      go_ret2
      exact ⟨by rw [Hv.out]; rfl, by (repeat (first | exact Below.refl _ _ | refine Below.drew ?_ | refine below_drewN ?_ _ | (refine Below.alloc ?_ (by (try simp) <;> omega) _) | (refine Below.setCell ?_ (by (try simp) <;> omega) _) | (refine Below.trans ?_ (Below.mono (by assumption) (by (try simp) <;> omega)))))⟩

set_option maxHeartbeats 2000000 in
theorem SBitterestCask_any (A : Option Addr) (c : Nat) (L : List (Int × Int × Int)) (w : World) (hr : SlR f3 3 w w.heap.size A L) (hm : (L.length : Int) ≤ 1048576) (_hI : ∀ x ∈ L, InI3 x) :
    Calls Try.prog 14 #[.slice A L.length c] w fun e w' => e = .returned (bstV L) ∧ Below w.heap.size w w' := by
  have hII := Lib.hid _hI
  clear _hI
  cases h : bitB L
  · have Hv := Lib.hid (show bstV L = .tuple #[.int .i64 0, .bool false] by simp [bstV, h])
    go_enter Try.func14, Try.ntmps14
    go_wp2_with fail
    refine (l15Good_any _ _ _ _ hr hm hII.out).mono ?_; rintro e w1 ⟨rfl, hb1⟩
    have z1 := hb1.size
    try simp at z1
    rw [h]
    go_wp2
    go_ret2
    exact ⟨by rw [Hv.out]; rfl, by (repeat (first | exact Below.refl _ _ | refine Below.drew ?_ | refine below_drewN ?_ _ | (refine Below.alloc ?_ (by (try simp) <;> omega) _) | (refine Below.setCell ?_ (by (try simp) <;> omega) _) | (refine Below.trans ?_ (Below.mono (by assumption) (by (try simp) <;> omega)))))⟩
  have Hv := Lib.hid (show bstV L = .tuple #[.int .i64 (bst L L.length).1, .bool (decide ((bst L L.length).1 > 0))] by simp [bstV, h])
  have Hb := Lib.hid (fun (k : Nat) (x : Int × Int × Int) (hx : L[k]? = some x) => bitB_one h hx)
  go_enter Try.func14, Try.ntmps14
  go_wp2_with fail
  refine (l15Good_any _ _ _ _ hr hm hII.out).mono ?_; rintro e w1 ⟨rfl, hb1⟩
  have z1 := hb1.size
  try simp at z1
  rw [h]
  go_wp2
  go_loopw [5, 4] (fun i s wr => ∃ (k : Nat) (bs : Int), i = .int .i64 k ∧ s = .int .i64 bs ∧ Hid ((bs = -1 ∧ bst L k = (0, -1)) ∨ ∃ (j : Nat) (y : Int × Int × Int), bs = j ∧ j < k ∧ L[j]? = some y ∧ bst L k = (y.1, y.2.2)) ∧ k ≤ L.length ∧ Below w.heap.size w wr) (fun i _ _ => (L.length - intOf i).toNat)
  case atStart => exact ⟨0, -1, rfl, rfl, .inl ⟨rfl, rfl⟩, by omega, by (repeat (first | exact Below.refl _ _ | refine Below.drew ?_ | refine below_drewN ?_ _ | (refine Below.alloc ?_ (by (try simp) <;> omega) _) | (refine Below.setCell ?_ (by (try simp) <;> omega) _) | (refine Below.trans ?_ (Below.mono (by assumption) (by (try simp) <;> omega)))))⟩
  case round =>
    obtain ⟨k, bs, rfl, rfl, hp, hk, hb⟩ := hrel
    have zr := hb.size
    by_cases hlt : k < L.length
    · have hx : L[k]? = some L[k] := List.getElem?_eq_getElem hlt
      obtain ⟨b, off, rfl, hB, hcs⟩ := hr (SlR.ne hx)
      have hC := hcs.below hb hB
      obtain ⟨c0, c1, c2⟩ := cells3 hC hx
      have hk0 : (0 : Int) ≤ (k : Int) := by omega
      have hk1 : (k : Int) < (L.length : Int) := by omega
      have bx := Hb.out k _ hx
      generalize L[k] = x at *
      cases h1 : decide (x.2.1 > 0)
      case false =>
        have Hn : Hid ((bs = -1 ∧ bst L (k + 1) = (0, -1)) ∨ ∃ (j : Nat) (y : Int × Int × Int), bs = j ∧ j < k + 1 ∧ L[j]? = some y ∧ bst L (k + 1) = (y.1, y.2.2)) := by
          rw [bst_no1 hx h1]
          rcases hp.out with h | ⟨j, y, h0, hj, hy, he⟩
          · exact .inl h
          · exact .inr ⟨j, y, h0, by omega, hy, he⟩
        clear hx hcs hC hr hlt hp Hb bx
        go_wp2
        go_quiet (fail)
        go_wp2
        go_roundw
        case rel => exact ⟨k + 1, bs, by go_num, rfl, Hn, by omega, by (repeat (first | exact Below.refl _ _ | refine Below.drew ?_ | refine below_drewN ?_ _ | (refine Below.alloc ?_ (by (try simp) <;> omega) _) | (refine Below.setCell ?_ (by (try simp) <;> omega) _) | (refine Below.trans ?_ (Below.mono (by assumption) (by (try simp) <;> omega)))))⟩
        case measure => simp only [intOf]; omega
      have Hk : Hid (((k : Int) = -1 ∧ bst L (k + 1) = (0, -1)) ∨ ∃ (j : Nat) (y : Int × Int × Int), (k : Int) = j ∧ j < k + 1 ∧ L[j]? = some y ∧ bst L (k + 1) = (y.1, y.2.2)) ∨ True := .inr trivial
      clear Hk
      rcases hp.out with ⟨rfl, h0⟩ | ⟨j, y, rfl, hj, hy, he⟩
      · have Hn : Hid (((k : Int) = -1 ∧ bst L (k + 1) = (0, -1)) ∨ ∃ (j : Nat) (y : Int × Int × Int), (k : Int) = j ∧ j < k + 1 ∧ L[j]? = some y ∧ bst L (k + 1) = (y.1, y.2.2)) :=
          .inr ⟨k, x, rfl, by omega, hx, bst_yes hx h1 (by rw [h0]; simp; omega)⟩
        clear hx hcs hC hr hlt hp Hb bx h0
        go_wp2
        go_quiet (fail)
        go_wp2
        go_roundw
        case rel => exact ⟨k + 1, k, by go_num, rfl, Hn, by omega, by (repeat (first | exact Below.refl _ _ | refine Below.drew ?_ | refine below_drewN ?_ _ | (refine Below.alloc ?_ (by (try simp) <;> omega) _) | (refine Below.setCell ?_ (by (try simp) <;> omega) _) | (refine Below.trans ?_ (Below.mono (by assumption) (by (try simp) <;> omega)))))⟩
        case measure => simp only [intOf]; omega
      · obtain ⟨e0, e1, e2⟩ := cells3 hC hy
        have hj0 : (0 : Int) ≤ (j : Int) := by omega
        have hj1 : (j : Int) < (L.length : Int) := by omega
        have hj2 : decide ((j : Int) < 0) = false := by simp
        cases h2 : decide (x.2.2 > y.2.2)
        case false =>
          have Hn : Hid (((j : Int) = -1 ∧ bst L (k + 1) = (0, -1)) ∨ ∃ (i : Nat) (y : Int × Int × Int), (j : Int) = i ∧ i < k + 1 ∧ L[i]? = some y ∧ bst L (k + 1) = (y.1, y.2.2)) :=
            .inr ⟨j, y, rfl, by omega, hy, by rw [bst_no2 hx h1 (by rw [he]; exact h2)]; exact he⟩
          clear hx hcs hC hr hlt hp Hb bx he hy hj
          go_wp2
          go_quiet (fail)
          go_wp2
          go_roundw
          case rel => exact ⟨k + 1, j, by go_num, rfl, Hn, by omega, by (repeat (first | exact Below.refl _ _ | refine Below.drew ?_ | refine below_drewN ?_ _ | (refine Below.alloc ?_ (by (try simp) <;> omega) _) | (refine Below.setCell ?_ (by (try simp) <;> omega) _) | (refine Below.trans ?_ (Below.mono (by assumption) (by (try simp) <;> omega)))))⟩
          case measure => simp only [intOf]; omega
        have Hn : Hid (((k : Int) = -1 ∧ bst L (k + 1) = (0, -1)) ∨ ∃ (j : Nat) (y : Int × Int × Int), (k : Int) = j ∧ j < k + 1 ∧ L[j]? = some y ∧ bst L (k + 1) = (y.1, y.2.2)) :=
          .inr ⟨k, x, rfl, by omega, hx, bst_yes hx h1 (by rw [he]; exact h2)⟩
        clear hx hcs hC hr hlt hp Hb bx he hy hj
        go_wp2
        go_quiet (fail)
        go_wp2
        go_roundw
        case rel => exact ⟨k + 1, k, by go_num, rfl, Hn, by omega, by (repeat (first | exact Below.refl _ _ | refine Below.drew ?_ | refine below_drewN ?_ _ | (refine Below.alloc ?_ (by (try simp) <;> omega) _) | (refine Below.setCell ?_ (by (try simp) <;> omega) _) | (refine Below.trans ?_ (Below.mono (by assumption) (by (try simp) <;> omega)))))⟩
        case measure => simp only [intOf]; omega
    · obtain rfl : k = L.length := by omega
      rcases hp.out with ⟨rfl, h0⟩ | ⟨j, y, rfl, hj, hy, he⟩
      · rw [h0] at Hv
        clear hp Hb
        go_wp2
        go_ret2
        exact ⟨by rw [Hv.out]; rfl, by (repeat (first | exact Below.refl _ _ | refine Below.drew ?_ | refine below_drewN ?_ _ | (refine Below.alloc ?_ (by (try simp) <;> omega) _) | (refine Below.setCell ?_ (by (try simp) <;> omega) _) | (refine Below.trans ?_ (Below.mono (by assumption) (by (try simp) <;> omega)))))⟩
      · rw [he] at Hv
        have by1 := (Hb.out j y hy).1.1
        obtain ⟨b, off, rfl, hB, hcs⟩ := hr (SlR.ne hy)
        have hC := hcs.below hb hB
        obtain ⟨e0, e1, e2⟩ := cells3 hC hy
        have hj0 : (0 : Int) ≤ (j : Int) := by omega
        have hj1 : (j : Int) < (L.length : Int) := by omega
        have hj2 : decide ((j : Int) < 0) = false := by simp
        clear hp Hb hC hcs hr hy he
        go_wp2
        go_ret2
        exact ⟨by rw [Hv.out, show decide (y.1 > 0) = true by simp; omega]; rfl, by (repeat (first | exact Below.refl _ _ | refine Below.drew ?_ | refine below_drewN ?_ _ | (refine Below.alloc ?_ (by (try simp) <;> omega) _) | (refine Below.setCell ?_ (by (try simp) <;> omega) _) | (refine Below.trans ?_ (Below.mono (by assumption) (by (try simp) <;> omega)))))⟩

set_option maxHeartbeats 1000000 in
theorem walk_BitterestCask (A : Option Addr) (c : Nat) (L : List (Int × Int × Int)) (hn : (L.length : Int) ≤ 9223372036854775807) (_hI : ∀ x ∈ L, InI3 x) (w : World) (hr : SlR f3 3 w w.heap.size A L) :
    Calls Try.prog 4 #[.slice A L.length c] w fun e w' => e = .returned (.bool true) ∧ Below w.heap.size w w' := by
  by_cases hs : (1048576 : Int) - L.length < 0
  · have Hv := Lib.hid (show szV 1048576 L.length = -1 from if_pos hs)
    clear _hI
    go_enter Try.func4, Try.ntmps4
    go_wp2_with fail
    refine (szBitternS_any _ _ _ _ _ hn (by omega) (by omega)).mono ?_; rintro e w' ⟨rfl, rfl⟩
    rw [Hv.out]
    go_wp2
    go_ret
    exact ⟨rfl, by (repeat (first | exact Below.refl _ _ | refine Below.drew ?_ | refine below_drewN ?_ _ | (refine Below.alloc ?_ (by (try simp) <;> omega) _) | (refine Below.setCell ?_ (by (try simp) <;> omega) _) | (refine Below.trans ?_ (Below.mono (by assumption) (by (try simp) <;> omega)))))⟩
  have Hv := Lib.hid (show szV 1048576 L.length = 1048576 - L.length from if_neg hs)
  have hm : (L.length : Int) ≤ 1048576 := by omega
  have E1 := Lib.hid (eqL_refl L)
  have hII := Lib.hid _hI
  clear _hI
  obtain ⟨r0, r1, hj⟩ := bstV_form L
  have Hj := Lib.hid hj; clear hj
  have nr0 := neI r0
  have nr1 := neB r1
  go_enter Try.func4, Try.ntmps4
  go_wp2_with fail
  refine (szBitternS_any _ _ _ _ _ hn (by omega) (by omega)).mono ?_; rintro e w' ⟨rfl, rfl⟩
  rw [Hv.out]
  go_wp2_with fail
  refine (toBitternS_any _ _ _ _ hr hm).mono ?_; rintro e w1 ⟨A1, c1, rfl, o1, hb1⟩
  have z1 := hb1.size
  have s1 := hr.next hb1
  go_wp2_with fail
  refine (SBitterestCask_any _ _ _  _ o1.sl hm hII.out).mono ?_; rintro e w2 ⟨he, hb2⟩; rw [Hj.out] at he; subst he
  have z2 := hb2.size
  have s2 := s1.next hb2
  go_wp2_with fail
  refine (toBitternS_any _ _ _ _ s2 hm).mono ?_; rintro e w3 ⟨A3, c3, rfl, o3, hb3⟩
  have z3 := hb3.size
  have s3 := s2.next hb3
  go_wp2_with fail
  refine (BitterestCask_any _ _ _  _ o3.sl hm hII.out).mono ?_; rintro e w4 ⟨he, hb4⟩; rw [Hj.out] at he; subst he
  have z4 := hb4.size
  have s4 := s3.next hb4
  have x4 := o3.sl.next hb4
  go_wp2_with fail
  refine (toBitternS_any _ _ _ _ s4 hm).mono ?_; rintro e w5 ⟨A5, c5, rfl, o5, hb5⟩
  have z5 := hb5.size
  have x5 := x4.next hb5
  go_wp2_with fail
  refine (eqBitternS_any _ _ _ _ _ _ _ x5 o5.sl hn).mono ?_; rintro e w6 ⟨rfl, hb6⟩
  rw [E1.out]
  have z6 := hb6.size
  go_wp2
  go_ret
  exact ⟨rfl, by (repeat (first | exact Below.refl _ _ | refine Below.drew ?_ | refine below_drewN ?_ _ | (refine Below.alloc ?_ (by (try simp) <;> omega) _) | (refine Below.setCell ?_ (by (try simp) <;> omega) _) | (refine Below.trans ?_ (Below.mono (by assumption) (by (try simp) <;> omega)))))⟩

end Go.Proofs.Ytjpoaiiminofdaa
