/-
  Is a sample valid: both programs.
-/
import Derived.Test.YtapfnelghmnajaaDoorScalar
import Derived.Test.YtapfnelghmnajaaDoorFr0
import Derived.Test.YtapfnelghmnajaaDoorHSample
import Derived.WalkKit
import Derived.WalkSpells
import Derived.WalkLawsBesides
import Derived.Lib.Hide
import Derived.Deep.QuietTactic
import Derived.BigQuiet
import Derived.StillTailTactics
namespace Go.Proofs.YtapfnelghmnajaaDoor
open Go.RowKit

set_option maxHeartbeats 4000000 in
theorem IsSample_any (A : Option Addr) (c : Nat) (L : List Int) (w : World) (hr : SlR f1 1 w w.heap.size A L) (hm : (L.length : Int) ≤ 1048576) :
    Calls Tryd.prog 37 #[.agg #[.slice A L.length c]] w fun e w' => e = .returned (.bool (smpB L)) ∧ Below w.heap.size w w' := by
  go_enter Tryd.func37, Tryd.ntmps37
  go_wp2
  go_loopw [8] (fun i wr => ∃ k : Nat, i = .int .i64 k ∧ k ≤ L.length ∧ Hid (∀ j, j < k → pairAt smp1 smp2 L j = true) ∧ Below (w.heap.size + 1) (w.alloc (.cells #[.slice A L.length c] 29 (0, 0))) wr) (fun i _ => (L.length - intOf i).toNat)
  case atStart => exact ⟨0, rfl, by omega, fun j h => by omega, Below.refl _ _⟩
  case round =>
    obtain ⟨k, rfl, hk, hp, hb⟩ := hrel
    have zr := hb.size
    simp at zr
    have kb : wr.cell? ⟨w.heap.size, 0, none⟩ = some (.slice A L.length c) := by rw [hb.cell (by simp)]; simp
    have hne : w.heap.size < wr.heap.size := by omega
    have hbz : Below (w.heap.size + 1) (w.alloc (.cells #[.slice A L.length c] 29 (0, 0))) wr := hb
    by_cases hlt : k < L.length
    · have hx : L[k]? = some L[k] := List.getElem?_eq_getElem hlt
      obtain ⟨b, off, rfl, hB, hcs⟩ := hr (SlR.ne hx)
      have hC := hcs.below (((Below.refl w.heap.size w).alloc (Nat.le_refl _) _).trans (hb.mono (by omega))) hB
      have c0 := cells1 hC hx
      have hBr : b < wr.heap.size := by omega
      have hk0 : (0 : Int) ≤ (k : Int) := by omega
      have hk1 : (k : Int) < (L.length : Int) := by omega
      generalize L[k] = x at *
      cases h1 : inB x 1 500
      case false =>
        have Hv := Lib.hid (smpB_bad (bad_one (one := smp1) (two := smp2) hx h1))
        clear hlt hx hr hcs hC hp
        go_wp2_with fail
        refine (within_any _ _ _ _).mono ?_; rintro e w' ⟨rfl, rfl⟩
        rw [h1]
        go_wp2
        go_ret
        exact ⟨by rw [Hv.out]; rfl, by (repeat (first | exact Below.refl _ _ | refine Below.drew ?_ | refine below_drewN ?_ _ | (refine Below.alloc ?_ (by (try simp) <;> omega) _) | (refine Below.setCell ?_ (by (try simp) <;> omega) _) | (refine Below.trans ?_ (Below.mono (by assumption) (by (try simp) <;> omega)))))⟩
      have H1 : Hid (smp1 x = true) := Lib.hid h1
      match k, hk, hp, hlt, hx, c0, hk0, hk1 with
      | 0, hk, hp, hlt, hx, c0, hk0, hk1 =>
        simp only [Nat.add_zero] at c0
        have Hp : Hid (∀ j, j < 0 + 1 → pairAt smp1 smp2 L j = true) := upTo hp.out (ok_zero hx H1.out)
        clear hlt hx hr hcs hC hp
        go_wp2_with fail
        refine (within_any _ _ _ _).mono ?_; rintro e w' ⟨rfl, rfl⟩
        rw [h1]
        go_wp2
        go_roundw
        case rel => exact ⟨1, by go_num, by omega, Hp, by (repeat (first | exact Below.refl _ _ | refine Below.drew ?_ | refine below_drewN ?_ _ | (refine Below.alloc ?_ (by (try simp) <;> omega) _) | (refine Below.setCell ?_ (by (try simp) <;> omega) _) | (refine Below.trans ?_ (Below.mono (by assumption) (by (try simp) <;> omega)))))⟩
        case measure => simp only [intOf]; omega
      | k' + 1, hk, hp, hlt, hx, c0, hk0, hk1 =>
        have hy : L[k']? = some L[k'] := List.getElem?_eq_getElem (by omega)
        have d0 := cells1 hC hy
        have hm0 : (0 : Int) ≤ (k' : Int) := by omega
        have hm1 : (k' : Int) < (L.length : Int) := by omega
        have hm2 : IntKind.i64.wrap (k' : Int) = (k' : Int) := IntWalk.i64_in _ (by omega)
        have hm3 : wrap64 (k' : Int) = (k' : Int) := IntWalk.wrap64_in _ (by omega)
        generalize L[k'] = y at *
        cases h4 : decide (y > x)
        case true =>
          have Hv := Lib.hid (smpB_bad (bad_two (one := smp1) (two := smp2) hx hy (by simp [smp2]; simp at h4; omega)))
          clear hlt hx hr hcs hC hp hy
          go_wp2_with fail
          refine (within_any _ _ _ _).mono ?_; rintro e w' ⟨rfl, rfl⟩
          rw [h1]
          go_wp2
          go_ret
          exact ⟨by rw [Hv.out]; rfl, by (repeat (first | exact Below.refl _ _ | refine Below.drew ?_ | refine below_drewN ?_ _ | (refine Below.alloc ?_ (by (try simp) <;> omega) _) | (refine Below.setCell ?_ (by (try simp) <;> omega) _) | (refine Below.trans ?_ (Below.mono (by assumption) (by (try simp) <;> omega)))))⟩
        have Hp : Hid (∀ j, j < k' + 1 + 1 → pairAt smp1 smp2 L j = true) := upTo hp.out (ok_succ hx hy H1.out (by simp at h4; simp [smp2]; omega))
        clear hlt hx hr hcs hC hp hy
        go_wp2_with fail
        refine (within_any _ _ _ _).mono ?_; rintro e w' ⟨rfl, rfl⟩
        rw [h1]
        go_wp2
        go_roundw
        case rel => exact ⟨k' + 1 + 1, by go_num, by omega, Hp, by (repeat (first | exact Below.refl _ _ | refine Below.drew ?_ | refine below_drewN ?_ _ | (refine Below.alloc ?_ (by (try simp) <;> omega) _) | (refine Below.setCell ?_ (by (try simp) <;> omega) _) | (refine Below.trans ?_ (Below.mono (by assumption) (by (try simp) <;> omega)))))⟩
        case measure => simp only [intOf]; omega
    · obtain rfl : k = L.length := by omega
      have Hv := Lib.hid (smpB_ok (chain_ok hp.out))
      go_wp2_with fail
      refine (within_any _ _ _ _).mono ?_; rintro e w' ⟨rfl, rfl⟩
      go_wp2
      go_ret
      exact ⟨by rw [Hv.out]; rfl, by (repeat (first | exact Below.refl _ _ | refine Below.drew ?_ | refine below_drewN ?_ _ | (refine Below.alloc ?_ (by (try simp) <;> omega) _) | (refine Below.setCell ?_ (by (try simp) <;> omega) _) | (refine Below.trans ?_ (Below.mono (by assumption) (by (try simp) <;> omega)))))⟩

set_option maxHeartbeats 4000000 in
theorem l14Sample_any (A : Option Addr) (c : Nat) (L : List Int) (w : World) (hr : SlR f1 1 w w.heap.size A L) (hm : (L.length : Int) ≤ 1048576) :
    Calls Tryd.prog 50 #[.agg #[.slice A L.length c]] w fun e w' => e = .returned (.bool (smpB L)) ∧ Below w.heap.size w w' := by
  go_enter Tryd.func50, Tryd.ntmps50
  go_wp2
  go_loopw [3] (fun i wr => ∃ k : Nat, i = .int .i64 k ∧ k ≤ L.length ∧ Hid (∀ j, j < k → pairAt smp1 smp2 L j = true) ∧ Below (w.heap.size + 1) (w.alloc (.cells #[.slice A L.length c] 29 (0, 0))) wr) (fun i _ => (L.length - intOf i).toNat)
  case atStart => exact ⟨0, rfl, by omega, fun j h => by omega, Below.refl _ _⟩
  case round =>
    obtain ⟨k, rfl, hk, hp, hb⟩ := hrel
    have zr := hb.size
    simp at zr
    have kb : wr.cell? ⟨w.heap.size, 0, none⟩ = some (.slice A L.length c) := by rw [hb.cell (by simp)]; simp
    have hne : w.heap.size < wr.heap.size := by omega
    have hbz : Below (w.heap.size + 1) (w.alloc (.cells #[.slice A L.length c] 29 (0, 0))) wr := hb
    by_cases hlt : k < L.length
    · have hx : L[k]? = some L[k] := List.getElem?_eq_getElem hlt
      obtain ⟨b, off, rfl, hB, hcs⟩ := hr (SlR.ne hx)
      have hC := hcs.below (((Below.refl w.heap.size w).alloc (Nat.le_refl _) _).trans (hb.mono (by omega))) hB
      have c0 := cells1 hC hx
      have hBr : b < wr.heap.size := by omega
      have hk0 : (0 : Int) ≤ (k : Int) := by omega
      have hk1 : (k : Int) < (L.length : Int) := by omega
      generalize L[k] = x at *
      cases h1 : inB x 1 500
      case false =>
        have Hv := Lib.hid (smpB_bad (bad_one (one := smp1) (two := smp2) hx h1))
        clear hlt hx hr hcs hC hp
        go_wp2
        go_quiet (exact (l1In_any _ _ _ _).mono fun _ _ ⟨he, hw⟩ => ⟨he.trans (by rw [h1]), _, hw.symm⟩)
        go_wp2
        go_ret
        exact ⟨by rw [Hv.out]; rfl, by (repeat (first | exact Below.refl _ _ | refine Below.drew ?_ | refine below_drewN ?_ _ | (refine Below.alloc ?_ (by (try simp) <;> omega) _) | (refine Below.setCell ?_ (by (try simp) <;> omega) _) | (refine Below.trans ?_ (Below.mono (by assumption) (by (try simp) <;> omega)))))⟩
      have H1 : Hid (smp1 x = true) := Lib.hid h1
      match k, hk, hp, hlt, hx, c0, hk0, hk1 with
      | 0, hk, hp, hlt, hx, c0, hk0, hk1 =>
        simp only [Nat.add_zero] at c0
        have Hp : Hid (∀ j, j < 0 + 1 → pairAt smp1 smp2 L j = true) := upTo hp.out (ok_zero hx H1.out)
        clear hlt hx hr hcs hC hp
        go_wp2
        go_quiet (exact (l1In_any _ _ _ _).mono fun _ _ ⟨he, hw⟩ => ⟨he.trans (by rw [h1]), _, hw.symm⟩)
        go_wp2
        go_roundw
        case rel => exact ⟨1, by go_num, by omega, Hp, by (repeat (first | exact Below.refl _ _ | refine Below.drew ?_ | refine below_drewN ?_ _ | (refine Below.alloc ?_ (by (try simp) <;> omega) _) | (refine Below.setCell ?_ (by (try simp) <;> omega) _) | (refine Below.trans ?_ (Below.mono (by assumption) (by (try simp) <;> omega)))))⟩
        case measure => simp only [intOf]; omega
      | k' + 1, hk, hp, hlt, hx, c0, hk0, hk1 =>
        have hy : L[k']? = some L[k'] := List.getElem?_eq_getElem (by omega)
        have d0 := cells1 hC hy
        have hm0 : (0 : Int) ≤ (k' : Int) := by omega
        have hm1 : (k' : Int) < (L.length : Int) := by omega
        have hm2 : IntKind.i64.wrap (k' : Int) = (k' : Int) := IntWalk.i64_in _ (by omega)
        have hm3 : wrap64 (k' : Int) = (k' : Int) := IntWalk.wrap64_in _ (by omega)
        generalize L[k'] = y at *
        cases h4 : decide (y > x)
        case true =>
          have Hv := Lib.hid (smpB_bad (bad_two (one := smp1) (two := smp2) hx hy (by simp [smp2]; simp at h4; omega)))
          clear hlt hx hr hcs hC hp hy
          go_wp2
          go_quiet (exact (l1In_any _ _ _ _).mono fun _ _ ⟨he, hw⟩ => ⟨he.trans (by rw [h1]), _, hw.symm⟩)
          go_wp2
          go_ret
          exact ⟨by rw [Hv.out]; rfl, by (repeat (first | exact Below.refl _ _ | refine Below.drew ?_ | refine below_drewN ?_ _ | (refine Below.alloc ?_ (by (try simp) <;> omega) _) | (refine Below.setCell ?_ (by (try simp) <;> omega) _) | (refine Below.trans ?_ (Below.mono (by assumption) (by (try simp) <;> omega)))))⟩
        have Hp : Hid (∀ j, j < k' + 1 + 1 → pairAt smp1 smp2 L j = true) := upTo hp.out (ok_succ hx hy H1.out (by simp at h4; simp [smp2]; omega))
        clear hlt hx hr hcs hC hp hy
        go_wp2
        go_quiet (exact (l1In_any _ _ _ _).mono fun _ _ ⟨he, hw⟩ => ⟨he.trans (by rw [h1]), _, hw.symm⟩)
        go_wp2
        go_roundw
        case rel => exact ⟨k' + 1 + 1, by go_num, by omega, Hp, by (repeat (first | exact Below.refl _ _ | refine Below.drew ?_ | refine below_drewN ?_ _ | (refine Below.alloc ?_ (by (try simp) <;> omega) _) | (refine Below.setCell ?_ (by (try simp) <;> omega) _) | (refine Below.trans ?_ (Below.mono (by assumption) (by (try simp) <;> omega)))))⟩
        case measure => simp only [intOf]; omega
    · obtain rfl : k = L.length := by omega
      have Hv := Lib.hid (smpB_ok (chain_ok hp.out))
      go_wp2_with fail
      refine (l1In_any _ _ _ _).mono ?_; rintro e w' ⟨rfl, rfl⟩
      go_wp2
      go_ret
      exact ⟨by rw [Hv.out]; rfl, by (repeat (first | exact Below.refl _ _ | refine Below.drew ?_ | refine below_drewN ?_ _ | (refine Below.alloc ?_ (by (try simp) <;> omega) _) | (refine Below.setCell ?_ (by (try simp) <;> omega) _) | (refine Below.trans ?_ (Below.mono (by assumption) (by (try simp) <;> omega)))))⟩


end Go.Proofs.YtapfnelghmnajaaDoor
