/-
  Are a list bitterns: both programs.
-/
import Derived.Test.YtjpoaiiminofdaaScalar
import Derived.Test.YtjpoaiiminofdaaChain
import Derived.Test.YtjpoaiiminofdaaOpenSl
import Derived.WalkKit
import Derived.WalkSpells
import Derived.WalkLawsBesides
import Derived.Lib.Hide
import Derived.Deep.QuietTactic
import Derived.BigQuiet
import Derived.StillTailTactics
namespace Go.Proofs.Ytjpoaiiminofdaa
open Go.RowKit

def bit1 (x : Int × Int × Int) : Bool := inB x.1 1 99 && inB x.2.1 0 10000 && inB x.2.2 0 1000
def bit2 (p x : Int × Int × Int) : Bool := decide (p.1 < x.1)
def bitB (L : List (Int × Int × Int)) : Bool := chain bit1 bit2 L && decide ((L.length : Int) ≤ 8)
theorem bitB_bad {L : List (Int × Int × Int)} (h : chain bit1 bit2 L = false) : bitB L = false := by rw [bitB, h]; rfl
theorem bitB_ok {L : List (Int × Int × Int)} (h : chain bit1 bit2 L = true) : bitB L = decide ((L.length : Int) ≤ 8) := by rw [bitB, h]; rfl

set_option maxHeartbeats 400000 in
theorem isId_any (x : Int) (w : World) : Calls Try.prog 28 #[.int .i64 x] w fun e w' => e = .returned (.bool (inB x 1 99)) ∧ w = w' := by
  go_enter Try.func28, Try.ntmps28
  go_wp2_with fail
  refine (within_any _ _ _ _).mono ?_; rintro e w' ⟨rfl, rfl⟩
  go_wp2
  go_ret
  exact ⟨rfl, rfl⟩

set_option maxHeartbeats 400000 in
theorem isBitter_any (x : Int) (w : World) : Calls Try.prog 30 #[.int .i64 x] w fun e w' => e = .returned (.bool (inB x 0 1000)) ∧ w = w' := by
  go_enter Try.func30, Try.ntmps30
  go_wp2_with fail
  refine (within_any _ _ _ _).mono ?_; rintro e w' ⟨rfl, rfl⟩
  go_wp2
  go_ret
  exact ⟨rfl, rfl⟩

set_option maxHeartbeats 4000000 in
theorem AreBitterns_any (A : Option Addr) (c : Nat) (L : List (Int × Int × Int)) (w : World) (hr : SlR f3 3 w w.heap.size A L) (hm : (L.length : Int) ≤ 1048576) (_hI : ∀ x ∈ L, InI3 x) :
    Calls Try.prog 12 #[.slice A L.length c] w fun e w' => e = .returned (.bool (bitB L)) ∧ Below w.heap.size w w' := by
  clear _hI
  go_enter Try.func12, Try.ntmps12
  go_wp2
  go_loopw [7] (fun i wr => ∃ k : Nat, i = .int .i64 k ∧ k ≤ L.length ∧ Hid (∀ j, j < k → pairAt bit1 bit2 L j = true) ∧ Below w.heap.size w wr) (fun i _ => (L.length - intOf i).toNat)
  case atStart => exact ⟨0, rfl, by omega, fun j h => by omega, Below.refl _ _⟩
  case round =>
    obtain ⟨k, rfl, hk, hp, hb⟩ := hrel
    have zr := hb.size
    by_cases hlt : k < L.length
    · have hx : L[k]? = some L[k] := List.getElem?_eq_getElem hlt
      obtain ⟨b, off, rfl, hB, hcs⟩ := hr (SlR.ne hx)
      have hC := hcs.below hb hB
      obtain ⟨c0, c1, c2⟩ := cells3 hC hx
      have hk0 : (0 : Int) ≤ (k : Int) := by omega
      have hk1 : (k : Int) < (L.length : Int) := by omega
      generalize L[k] = x at *
      cases h1 : inB x.1 1 99
      case false =>
        have Hv := Lib.hid (bitB_bad (bad_one (one := bit1) (two := bit2) hx (by simp [bit1, h1])))
        clear hlt hx hr hcs hC hp
        go_wp2
        go_quiet (first | exact (isId_any _ _).mono fun _ _ ⟨he, hw⟩ => ⟨he.trans (by rw [h1]), _, hw.symm⟩ | exact (within_any _ _ _ _).mono fun _ _ ⟨he, hw⟩ => ⟨he.trans (by rw [h2]), _, hw.symm⟩ | exact (isBitter_any _ _).mono fun _ _ ⟨he, hw⟩ => ⟨he.trans (by rw [h3]), _, hw.symm⟩)
        go_wp2
        go_ret
        exact ⟨by rw [Hv.out]; rfl, by (repeat (first | exact Below.refl _ _ | refine Below.drew ?_ | refine below_drewN ?_ _ | (refine Below.alloc ?_ (by (try simp) <;> omega) _) | (refine Below.setCell ?_ (by (try simp) <;> omega) _) | (refine Below.trans ?_ (Below.mono (by assumption) (by (try simp) <;> omega)))))⟩
      cases h2 : inB x.2.1 0 10000
      case false =>
        have Hv := Lib.hid (bitB_bad (bad_one (one := bit1) (two := bit2) hx (by simp [bit1, h2])))
        clear hlt hx hr hcs hC hp
        go_wp2
        go_quiet (first | exact (isId_any _ _).mono fun _ _ ⟨he, hw⟩ => ⟨he.trans (by rw [h1]), _, hw.symm⟩ | exact (within_any _ _ _ _).mono fun _ _ ⟨he, hw⟩ => ⟨he.trans (by rw [h2]), _, hw.symm⟩ | exact (isBitter_any _ _).mono fun _ _ ⟨he, hw⟩ => ⟨he.trans (by rw [h3]), _, hw.symm⟩)
        go_wp2
        go_ret
        exact ⟨by rw [Hv.out]; rfl, by (repeat (first | exact Below.refl _ _ | refine Below.drew ?_ | refine below_drewN ?_ _ | (refine Below.alloc ?_ (by (try simp) <;> omega) _) | (refine Below.setCell ?_ (by (try simp) <;> omega) _) | (refine Below.trans ?_ (Below.mono (by assumption) (by (try simp) <;> omega)))))⟩
      cases h3 : inB x.2.2 0 1000
      case false =>
        have Hv := Lib.hid (bitB_bad (bad_one (one := bit1) (two := bit2) hx (by simp [bit1, h3])))
        clear hlt hx hr hcs hC hp
        go_wp2
        go_quiet (first | exact (isId_any _ _).mono fun _ _ ⟨he, hw⟩ => ⟨he.trans (by rw [h1]), _, hw.symm⟩ | exact (within_any _ _ _ _).mono fun _ _ ⟨he, hw⟩ => ⟨he.trans (by rw [h2]), _, hw.symm⟩ | exact (isBitter_any _ _).mono fun _ _ ⟨he, hw⟩ => ⟨he.trans (by rw [h3]), _, hw.symm⟩)
        go_wp2
        go_ret
        exact ⟨by rw [Hv.out]; rfl, by (repeat (first | exact Below.refl _ _ | refine Below.drew ?_ | refine below_drewN ?_ _ | (refine Below.alloc ?_ (by (try simp) <;> omega) _) | (refine Below.setCell ?_ (by (try simp) <;> omega) _) | (refine Below.trans ?_ (Below.mono (by assumption) (by (try simp) <;> omega)))))⟩
      have H1 : Hid (bit1 x = true) := Lib.hid (by simp [bit1, h1, h2, h3])
      match k, hk, hp, hlt, hx, c0, c1, c2, hk0, hk1 with
      | 0, hk, hp, hlt, hx, c0, c1, c2, hk0, hk1 =>
        simp only [Nat.zero_mul, Nat.add_zero] at c0 c1 c2
        have Hp : Hid (∀ j, j < 0 + 1 → pairAt bit1 bit2 L j = true) := upTo hp.out (ok_zero hx H1.out)
        clear hlt hx hr hcs hC hp
        go_wp2
        go_quiet (first | exact (isId_any _ _).mono fun _ _ ⟨he, hw⟩ => ⟨he.trans (by rw [h1]), _, hw.symm⟩ | exact (within_any _ _ _ _).mono fun _ _ ⟨he, hw⟩ => ⟨he.trans (by rw [h2]), _, hw.symm⟩ | exact (isBitter_any _ _).mono fun _ _ ⟨he, hw⟩ => ⟨he.trans (by rw [h3]), _, hw.symm⟩)
        go_wp2
        go_roundw
        case rel => exact ⟨1, by go_num, by omega, Hp, by (repeat (first | exact Below.refl _ _ | refine Below.drew ?_ | refine below_drewN ?_ _ | (refine Below.alloc ?_ (by (try simp) <;> omega) _) | (refine Below.setCell ?_ (by (try simp) <;> omega) _) | (refine Below.trans ?_ (Below.mono (by assumption) (by (try simp) <;> omega)))))⟩
        case measure => simp only [intOf]; omega
      | k' + 1, hk, hp, hlt, hx, c0, c1, c2, hk0, hk1 =>
        have hy : L[k']? = some L[k'] := List.getElem?_eq_getElem (by omega)
        have hBr : b < wr.heap.size := by omega
        have e0 := fun o => (cells3 (hC.below ((Below.refl wr.heap.size wr).alloc (Nat.le_refl _) o) hBr) hy).1
        have hm0 : (0 : Int) ≤ (k' : Int) := by omega
        have hm1 : (k' : Int) < (L.length : Int) := by omega
        have hm2 : IntKind.i64.wrap (k' : Int) = (k' : Int) := IntWalk.i64_in _ (by omega)
        have hm3 : wrap64 (k' : Int) = (k' : Int) := IntWalk.wrap64_in _ (by omega)
        generalize L[k'] = y at *
        cases h4 : decide (y.1 ≥ x.1)
        case true =>
          have Hv := Lib.hid (bitB_bad (bad_two (one := bit1) (two := bit2) hx hy (by simp [bit2]; simp at h4; omega)))
          clear hlt hx hr hcs hC hp hy
          go_wp2
          go_quiet (first | exact (isId_any _ _).mono fun _ _ ⟨he, hw⟩ => ⟨he.trans (by rw [h1]), _, hw.symm⟩ | exact (within_any _ _ _ _).mono fun _ _ ⟨he, hw⟩ => ⟨he.trans (by rw [h2]), _, hw.symm⟩ | exact (isBitter_any _ _).mono fun _ _ ⟨he, hw⟩ => ⟨he.trans (by rw [h3]), _, hw.symm⟩)
          go_wp2
          go_ret
          exact ⟨by rw [Hv.out]; rfl, by (repeat (first | exact Below.refl _ _ | refine Below.drew ?_ | refine below_drewN ?_ _ | (refine Below.alloc ?_ (by (try simp) <;> omega) _) | (refine Below.setCell ?_ (by (try simp) <;> omega) _) | (refine Below.trans ?_ (Below.mono (by assumption) (by (try simp) <;> omega)))))⟩
        have Hp : Hid (∀ j, j < k' + 1 + 1 → pairAt bit1 bit2 L j = true) := upTo hp.out (ok_succ hx hy H1.out (by simp at h4; simp [bit2]; omega))
        clear hlt hx hr hcs hC hp hy
        go_wp2
        go_quiet (first | exact (isId_any _ _).mono fun _ _ ⟨he, hw⟩ => ⟨he.trans (by rw [h1]), _, hw.symm⟩ | exact (within_any _ _ _ _).mono fun _ _ ⟨he, hw⟩ => ⟨he.trans (by rw [h2]), _, hw.symm⟩ | exact (isBitter_any _ _).mono fun _ _ ⟨he, hw⟩ => ⟨he.trans (by rw [h3]), _, hw.symm⟩)
        go_wp2
        go_roundw
        case rel => exact ⟨k' + 1 + 1, by go_num, by omega, Hp, by (repeat (first | exact Below.refl _ _ | refine Below.drew ?_ | refine below_drewN ?_ _ | (refine Below.alloc ?_ (by (try simp) <;> omega) _) | (refine Below.setCell ?_ (by (try simp) <;> omega) _) | (refine Below.trans ?_ (Below.mono (by assumption) (by (try simp) <;> omega)))))⟩
        case measure => simp only [intOf]; omega
    · obtain rfl : k = L.length := by omega
      have Hv := Lib.hid (bitB_ok (chain_ok hp.out))
      go_wp2
      go_ret
      exact ⟨by rw [Hv.out]; rfl, by (repeat (first | exact Below.refl _ _ | refine Below.drew ?_ | refine below_drewN ?_ _ | (refine Below.alloc ?_ (by (try simp) <;> omega) _) | (refine Below.setCell ?_ (by (try simp) <;> omega) _) | (refine Below.trans ?_ (Below.mono (by assumption) (by (try simp) <;> omega)))))⟩

set_option maxHeartbeats 4000000 in
theorem l15Good_any (A : Option Addr) (c : Nat) (L : List (Int × Int × Int)) (w : World) (hr : SlR f3 3 w w.heap.size A L) (hm : (L.length : Int) ≤ 1048576) (_hI : ∀ x ∈ L, InI3 x) :
    Calls Try.prog 26 #[.slice A L.length c] w fun e w' => e = .returned (.bool (bitB L)) ∧ Below w.heap.size w w' := by
  clear _hI
  go_enter Try.func26, Try.ntmps26
  go_wp2
  go_loopw [3] (fun i wr => ∃ k : Nat, i = .int .i64 k ∧ k ≤ L.length ∧ Hid (∀ j, j < k → pairAt bit1 bit2 L j = true) ∧ Below w.heap.size w wr) (fun i _ => (L.length - intOf i).toNat)
  case atStart => exact ⟨0, rfl, by omega, fun j h => by omega, Below.refl _ _⟩
  case round =>
    obtain ⟨k, rfl, hk, hp, hb⟩ := hrel
    have zr := hb.size
    by_cases hlt : k < L.length
    · have hx : L[k]? = some L[k] := List.getElem?_eq_getElem hlt
      obtain ⟨b, off, rfl, hB, hcs⟩ := hr (SlR.ne hx)
      have hC := hcs.below hb hB
      obtain ⟨c0, c1, c2⟩ := cells3 hC hx
      have hk0 : (0 : Int) ≤ (k : Int) := by omega
      have hk1 : (k : Int) < (L.length : Int) := by omega
      generalize L[k] = x at *
      cases h1 : inB x.1 1 99
      case false =>
        have Hv := Lib.hid (bitB_bad (bad_one (one := bit1) (two := bit2) hx (by simp [bit1, h1])))
        clear hlt hx hr hcs hC hp
        go_wp2
        go_quiet (first | exact (l1In_any _ _ _ _).mono fun _ _ ⟨he, hw⟩ => ⟨he.trans (by rw [h1]), _, hw.symm⟩ | exact (l1In_any _ _ _ _).mono fun _ _ ⟨he, hw⟩ => ⟨he.trans (by rw [h2]), _, hw.symm⟩ | exact (l1In_any _ _ _ _).mono fun _ _ ⟨he, hw⟩ => ⟨he.trans (by rw [h3]), _, hw.symm⟩)
        go_wp2
        go_ret
        exact ⟨by rw [Hv.out]; rfl, by (repeat (first | exact Below.refl _ _ | refine Below.drew ?_ | refine below_drewN ?_ _ | (refine Below.alloc ?_ (by (try simp) <;> omega) _) | (refine Below.setCell ?_ (by (try simp) <;> omega) _) | (refine Below.trans ?_ (Below.mono (by assumption) (by (try simp) <;> omega)))))⟩
      cases h2 : inB x.2.1 0 10000
      case false =>
        have Hv := Lib.hid (bitB_bad (bad_one (one := bit1) (two := bit2) hx (by simp [bit1, h2])))
        clear hlt hx hr hcs hC hp
        go_wp2
        go_quiet (first | exact (l1In_any _ _ _ _).mono fun _ _ ⟨he, hw⟩ => ⟨he.trans (by rw [h1]), _, hw.symm⟩ | exact (l1In_any _ _ _ _).mono fun _ _ ⟨he, hw⟩ => ⟨he.trans (by rw [h2]), _, hw.symm⟩ | exact (l1In_any _ _ _ _).mono fun _ _ ⟨he, hw⟩ => ⟨he.trans (by rw [h3]), _, hw.symm⟩)
        go_wp2
        go_ret
        exact ⟨by rw [Hv.out]; rfl, by (repeat (first | exact Below.refl _ _ | refine Below.drew ?_ | refine below_drewN ?_ _ | (refine Below.alloc ?_ (by (try simp) <;> omega) _) | (refine Below.setCell ?_ (by (try simp) <;> omega) _) | (refine Below.trans ?_ (Below.mono (by assumption) (by (try simp) <;> omega)))))⟩
      cases h3 : inB x.2.2 0 1000
      case false =>
        have Hv := Lib.hid (bitB_bad (bad_one (one := bit1) (two := bit2) hx (by simp [bit1, h3])))
        clear hlt hx hr hcs hC hp
        go_wp2
        go_quiet (first | exact (l1In_any _ _ _ _).mono fun _ _ ⟨he, hw⟩ => ⟨he.trans (by rw [h1]), _, hw.symm⟩ | exact (l1In_any _ _ _ _).mono fun _ _ ⟨he, hw⟩ => ⟨he.trans (by rw [h2]), _, hw.symm⟩ | exact (l1In_any _ _ _ _).mono fun _ _ ⟨he, hw⟩ => ⟨he.trans (by rw [h3]), _, hw.symm⟩)
        go_wp2
        go_ret
        exact ⟨by rw [Hv.out]; rfl, by (repeat (first | exact Below.refl _ _ | refine Below.drew ?_ | refine below_drewN ?_ _ | (refine Below.alloc ?_ (by (try simp) <;> omega) _) | (refine Below.setCell ?_ (by (try simp) <;> omega) _) | (refine Below.trans ?_ (Below.mono (by assumption) (by (try simp) <;> omega)))))⟩
      have H1 : Hid (bit1 x = true) := Lib.hid (by simp [bit1, h1, h2, h3])
      match k, hk, hp, hlt, hx, c0, c1, c2, hk0, hk1 with
      | 0, hk, hp, hlt, hx, c0, c1, c2, hk0, hk1 =>
        simp only [Nat.zero_mul, Nat.add_zero] at c0 c1 c2
        have Hp : Hid (∀ j, j < 0 + 1 → pairAt bit1 bit2 L j = true) := upTo hp.out (ok_zero hx H1.out)
        clear hlt hx hr hcs hC hp
        go_wp2
        go_quiet (first | exact (l1In_any _ _ _ _).mono fun _ _ ⟨he, hw⟩ => ⟨he.trans (by rw [h1]), _, hw.symm⟩ | exact (l1In_any _ _ _ _).mono fun _ _ ⟨he, hw⟩ => ⟨he.trans (by rw [h2]), _, hw.symm⟩ | exact (l1In_any _ _ _ _).mono fun _ _ ⟨he, hw⟩ => ⟨he.trans (by rw [h3]), _, hw.symm⟩)
        go_wp2
        go_roundw
        case rel => exact ⟨1, by go_num, by omega, Hp, by (repeat (first | exact Below.refl _ _ | refine Below.drew ?_ | refine below_drewN ?_ _ | (refine Below.alloc ?_ (by (try simp) <;> omega) _) | (refine Below.setCell ?_ (by (try simp) <;> omega) _) | (refine Below.trans ?_ (Below.mono (by assumption) (by (try simp) <;> omega)))))⟩
        case measure => simp only [intOf]; omega
      | k' + 1, hk, hp, hlt, hx, c0, c1, c2, hk0, hk1 =>
        have hy : L[k']? = some L[k'] := List.getElem?_eq_getElem (by omega)
        have hBr : b < wr.heap.size := by omega
        have e0 := fun o => (cells3 (hC.below ((Below.refl wr.heap.size wr).alloc (Nat.le_refl _) o) hBr) hy).1
        have hm0 : (0 : Int) ≤ (k' : Int) := by omega
        have hm1 : (k' : Int) < (L.length : Int) := by omega
        have hm2 : IntKind.i64.wrap (k' : Int) = (k' : Int) := IntWalk.i64_in _ (by omega)
        have hm3 : wrap64 (k' : Int) = (k' : Int) := IntWalk.wrap64_in _ (by omega)
        generalize L[k'] = y at *
        cases h4 : decide (y.1 ≥ x.1)
        case true =>
          have Hv := Lib.hid (bitB_bad (bad_two (one := bit1) (two := bit2) hx hy (by simp [bit2]; simp at h4; omega)))
          clear hlt hx hr hcs hC hp hy
          go_wp2
          go_quiet (first | exact (l1In_any _ _ _ _).mono fun _ _ ⟨he, hw⟩ => ⟨he.trans (by rw [h1]), _, hw.symm⟩ | exact (l1In_any _ _ _ _).mono fun _ _ ⟨he, hw⟩ => ⟨he.trans (by rw [h2]), _, hw.symm⟩ | exact (l1In_any _ _ _ _).mono fun _ _ ⟨he, hw⟩ => ⟨he.trans (by rw [h3]), _, hw.symm⟩)
          go_wp2
          go_ret
          exact ⟨by rw [Hv.out]; rfl, by (repeat (first | exact Below.refl _ _ | refine Below.drew ?_ | refine below_drewN ?_ _ | (refine Below.alloc ?_ (by (try simp) <;> omega) _) | (refine Below.setCell ?_ (by (try simp) <;> omega) _) | (refine Below.trans ?_ (Below.mono (by assumption) (by (try simp) <;> omega)))))⟩
        have Hp : Hid (∀ j, j < k' + 1 + 1 → pairAt bit1 bit2 L j = true) := upTo hp.out (ok_succ hx hy H1.out (by simp at h4; simp [bit2]; omega))
        clear hlt hx hr hcs hC hp hy
        go_wp2
        go_quiet (first | exact (l1In_any _ _ _ _).mono fun _ _ ⟨he, hw⟩ => ⟨he.trans (by rw [h1]), _, hw.symm⟩ | exact (l1In_any _ _ _ _).mono fun _ _ ⟨he, hw⟩ => ⟨he.trans (by rw [h2]), _, hw.symm⟩ | exact (l1In_any _ _ _ _).mono fun _ _ ⟨he, hw⟩ => ⟨he.trans (by rw [h3]), _, hw.symm⟩)
        go_wp2
        go_roundw
        case rel => exact ⟨k' + 1 + 1, by go_num, by omega, Hp, by (repeat (first | exact Below.refl _ _ | refine Below.drew ?_ | refine below_drewN ?_ _ | (refine Below.alloc ?_ (by (try simp) <;> omega) _) | (refine Below.setCell ?_ (by (try simp) <;> omega) _) | (refine Below.trans ?_ (Below.mono (by assumption) (by (try simp) <;> omega)))))⟩
        case measure => simp only [intOf]; omega
    · obtain rfl : k = L.length := by omega
      have Hv := Lib.hid (bitB_ok (chain_ok hp.out))
      go_wp2
      go_ret
      exact ⟨by rw [Hv.out]; rfl, by (repeat (first | exact Below.refl _ _ | refine Below.drew ?_ | refine below_drewN ?_ _ | (refine Below.alloc ?_ (by (try simp) <;> omega) _) | (refine Below.setCell ?_ (by (try simp) <;> omega) _) | (refine Below.trans ?_ (Below.mono (by assumption) (by (try simp) <;> omega)))))⟩

end Go.Proofs.Ytjpoaiiminofdaa
