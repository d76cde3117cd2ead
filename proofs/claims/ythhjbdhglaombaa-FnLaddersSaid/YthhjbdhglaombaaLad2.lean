/-
  Is a list a ladder: the reference.
-/
import Derived.Test.YthhjbdhglaombaaLad0
import Derived.WalkKit
import Derived.WalkSpells
import Derived.WalkLawsBesides
import Derived.Lib.Hide
import Derived.Deep.QuietTactic
import Derived.BigQuiet
import Derived.StillTailTactics
namespace Go.Proofs.Ythhjbdhglaombaa
open Go.RowKit

set_option maxHeartbeats 4000000 in
theorem l13Good_any (A : Option Addr) (c : Nat) (L : List (Int × Int)) (w : World) (hr : SlR f2 2 w w.heap.size A L) (hm : (L.length : Int) ≤ 9223372036854775807) :
    Calls Try.prog 55 #[.slice A L.length c] w fun e w' => e = .returned (.bool (ladB L)) ∧ Below w.heap.size w w' := by
  go_enter Try.func55, Try.ntmps55
  go_wp2
  go_loopw [3] (fun i wr => ∃ k : Nat, i = .int .i64 k ∧ k ≤ L.length ∧ Hid (∀ j, j < k → pairAt rung1 rung2 L j = true) ∧ Below w.heap.size w wr) (fun i _ => (L.length - intOf i).toNat)
  case atStart => exact ⟨0, rfl, by omega, fun j h => by omega, Below.refl _ _⟩
  case round =>
    obtain ⟨k, rfl, hk, hp, hb⟩ := hrel
    have zr := hb.size
    by_cases hlt : k < L.length
    · have hx : L[k]? = some L[k] := List.getElem?_eq_getElem hlt
      obtain ⟨b, off, rfl, hB, hcs⟩ := hr (SlR.ne hx)
      have hC := hcs.below hb hB
      obtain ⟨c0, c1⟩ := cells2 hC hx
      have hk0 : (0 : Int) ≤ (k : Int) := by omega
      have hk1 : (k : Int) < (L.length : Int) := by omega
      generalize L[k] = x at *
      cases h1 : inB x.1 0 x.2
      case false =>
        have Hv := Lib.hid (ladB_bad (bad_one (one := rung1) (two := rung2) hx (by simp [rung1]; simp [inB] at h1; omega)))
        clear hlt hx hr hcs hC hp
        go_wp2
        go_quiet (exact (l1In_any _ _ _ _).mono fun _ _ ⟨he, hw⟩ => ⟨he.trans (by rw [h1]), _, hw.symm⟩)
        go_wp2
        go_ret
        exact ⟨by rw [Hv.out]; rfl, by (repeat (first | exact Below.refl _ _ | refine Below.drew ?_ | refine below_drewN ?_ _ | (refine Below.alloc ?_ (by (try simp) <;> omega) _) | (refine Below.setCell ?_ (by (try simp) <;> omega) _) | (refine Below.trans ?_ (Below.mono (by assumption) (by (try simp) <;> omega)))))⟩
      have H1' := Lib.hid (show 0 ≤ x.1 ∧ x.1 ≤ x.2 by simpa [inB] using h1)
      cases h3 : decide (x.2 > 1000)
      case true =>
        have Hv := Lib.hid (ladB_bad (bad_one (one := rung1) (two := rung2) hx (by simp [rung1]; simp at h3; omega)))
        clear hlt hx hr hcs hC hp
        go_wp2
        go_quiet (exact (l1In_any _ _ _ _).mono fun _ _ ⟨he, hw⟩ => ⟨he.trans (by rw [h1]), _, hw.symm⟩)
        go_wp2
        go_ret
        exact ⟨by rw [Hv.out]; rfl, by (repeat (first | exact Below.refl _ _ | refine Below.drew ?_ | refine below_drewN ?_ _ | (refine Below.alloc ?_ (by (try simp) <;> omega) _) | (refine Below.setCell ?_ (by (try simp) <;> omega) _) | (refine Below.trans ?_ (Below.mono (by assumption) (by (try simp) <;> omega)))))⟩
      have H1 : Hid (rung1 x = true) := Lib.hid (by have h1 := H1'.out; simp at h3; simp [rung1]; omega)
      match k, hk, hp, hlt, hx, c0, c1, hk0, hk1 with
      | 0, hk, hp, hlt, hx, c0, c1, hk0, hk1 =>
        simp only [Nat.zero_mul, Nat.add_zero] at c0 c1
        have Hp : Hid (∀ j, j < 0 + 1 → pairAt rung1 rung2 L j = true) := upTo hp.out (ok_zero hx H1.out)
        clear hlt hx hr hcs hC hp
        go_wp2
        go_quiet (exact (l1In_any _ _ _ _).mono fun _ _ ⟨he, hw⟩ => ⟨he.trans (by rw [h1]), _, hw.symm⟩)
        go_wp2
        go_roundw
        case rel => exact ⟨1, by go_num, by omega, Hp, by (repeat (first | exact Below.refl _ _ | refine Below.drew ?_ | refine below_drewN ?_ _ | (refine Below.alloc ?_ (by (try simp) <;> omega) _) | (refine Below.setCell ?_ (by (try simp) <;> omega) _) | (refine Below.trans ?_ (Below.mono (by assumption) (by (try simp) <;> omega)))))⟩
        case measure => simp only [intOf]; omega
      | k' + 1, hk, hp, hlt, hx, c0, c1, hk0, hk1 =>
        have hy : L[k']? = some L[k'] := List.getElem?_eq_getElem (by omega)
        have hBr : b < wr.heap.size := by omega
        obtain ⟨d0, d1⟩ := cells2 hC hy
        have e0 := fun o => (cells2 (hC.below ((Below.refl wr.heap.size wr).alloc (Nat.le_refl _) o) hBr) hy).1
        have e1 := fun o => (cells2 (hC.below ((Below.refl wr.heap.size wr).alloc (Nat.le_refl _) o) hBr) hy).2
        have hm0 : (0 : Int) ≤ (k' : Int) := by omega
        have hm1 : (k' : Int) < (L.length : Int) := by omega
        have hm2 : IntKind.i64.wrap (k' : Int) = (k' : Int) := IntWalk.i64_in _ (by omega)
        have hm3 : wrap64 (k' : Int) = (k' : Int) := IntWalk.wrap64_in _ (by omega)
        generalize L[k'] = y at *
        cases h4 : decide (y.1 > x.1)
        case true =>
          have Hv := Lib.hid (ladB_bad (bad_two (one := rung1) (two := rung2) hx hy (by simp [rung2]; simp at h4; omega)))
          clear hlt hx hr hcs hC hp hy
          go_wp2
          go_quiet (exact (l1In_any _ _ _ _).mono fun _ _ ⟨he, hw⟩ => ⟨he.trans (by rw [h1]), _, hw.symm⟩)
          go_wp2
          go_ret
          exact ⟨by rw [Hv.out]; rfl, by (repeat (first | exact Below.refl _ _ | refine Below.drew ?_ | refine below_drewN ?_ _ | (refine Below.alloc ?_ (by (try simp) <;> omega) _) | (refine Below.setCell ?_ (by (try simp) <;> omega) _) | (refine Below.trans ?_ (Below.mono (by assumption) (by (try simp) <;> omega)))))⟩
        cases h5 : decide (y.2 > x.2)
        case true =>
          have Hv := Lib.hid (ladB_bad (bad_two (one := rung1) (two := rung2) hx hy (by simp [rung2]; simp at h5; omega)))
          clear hlt hx hr hcs hC hp hy
          go_wp2
          go_quiet (exact (l1In_any _ _ _ _).mono fun _ _ ⟨he, hw⟩ => ⟨he.trans (by rw [h1]), _, hw.symm⟩)
          go_wp2
          go_ret
          exact ⟨by rw [Hv.out]; rfl, by (repeat (first | exact Below.refl _ _ | refine Below.drew ?_ | refine below_drewN ?_ _ | (refine Below.alloc ?_ (by (try simp) <;> omega) _) | (refine Below.setCell ?_ (by (try simp) <;> omega) _) | (refine Below.trans ?_ (Below.mono (by assumption) (by (try simp) <;> omega)))))⟩
        have Hp : Hid (∀ j, j < k' + 1 + 1 → pairAt rung1 rung2 L j = true) := upTo hp.out (ok_succ hx hy H1.out (by simp at h4 h5; simp [rung2]; omega))
        clear hlt hx hr hcs hC hp hy
        go_wp2
        go_quiet (exact (l1In_any _ _ _ _).mono fun _ _ ⟨he, hw⟩ => ⟨he.trans (by rw [h1]), _, hw.symm⟩)
        go_wp2
        go_roundw
        case rel => exact ⟨k' + 1 + 1, by go_num, by omega, Hp, by (repeat (first | exact Below.refl _ _ | refine Below.drew ?_ | refine below_drewN ?_ _ | (refine Below.alloc ?_ (by (try simp) <;> omega) _) | (refine Below.setCell ?_ (by (try simp) <;> omega) _) | (refine Below.trans ?_ (Below.mono (by assumption) (by (try simp) <;> omega)))))⟩
        case measure => simp only [intOf]; omega
    · obtain rfl : k = L.length := by omega
      have Hv := Lib.hid (ladB_ok (chain_ok hp.out))
      go_wp2_with fail
      refine (l1In_any _ _ _ _).mono ?_; rintro e w' ⟨rfl, rfl⟩
      go_wp2
      go_ret
      exact ⟨by rw [Hv.out]; rfl, by (repeat (first | exact Below.refl _ _ | refine Below.drew ?_ | refine below_drewN ?_ _ | (refine Below.alloc ?_ (by (try simp) <;> omega) _) | (refine Below.setCell ?_ (by (try simp) <;> omega) _) | (refine Below.trans ?_ (Below.mono (by assumption) (by (try simp) <;> omega)))))⟩

end Go.Proofs.Ythhjbdhglaombaa
