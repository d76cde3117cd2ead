/-
  Contracts of the laws' helpers on slices of ints.
-/
import Derived.Test.YtapfnelghmnajaaDoorScalar
import Derived.Test.YtapfnelghmnajaaDoorSlice
namespace Go.Proofs.YtapfnelghmnajaaDoor
open Go.RowKit

set_option maxHeartbeats 400000 in
theorem szIntS_any (A : Option Addr) (n c : Nat) (left : Int) (w : World) (h1 : (n : Int) ≤ 9223372036854775807) (h2 : 0 ≤ left) (h3 : left ≤ 1048576) :
    Calls Tryd.prog 26 #[.slice A n c, .int .i64 left] w fun e w' => e = .returned (.int .i64 (szV left n)) ∧ w = w' := by
  by_cases h : left - n < 0
  · have Hv := Lib.hid (show szV left n = -1 from if_pos h)
    go_enter Tryd.func26, Tryd.ntmps26
    go_wp2
    go_ret
    exact ⟨by rw [Hv.out]; rfl, rfl⟩
  · have Hv := Lib.hid (show szV left n = left - n from if_neg h)
    go_enter Tryd.func26, Tryd.ntmps26
    go_wp2
    go_ret
    exact ⟨by rw [Hv.out]; rfl, rfl⟩

theorem infoInt : (Tryd.prog.info? 3).map (fun i => (i.zero, i.size, i.bytes)) = some (some (.int .i64 0), 1, 8) := by kernel_rfl

set_option maxHeartbeats 1000000 in
theorem toIntS_any (A : Option Addr) (c : Nat) (L : List Int) (w : World) (hr : SlR f1 1 w w.heap.size A L) (hm : (L.length : Int) ≤ 1048576) :
    Calls Tryd.prog 7 #[.slice A L.length c] w (NewSl f1 1 3 w L) := by
  obtain ⟨i0, hi, hz0, hz1, hz2⟩ := info_parts infoInt
  have hb2 : i0.bytes * L.length ≤ 281474976710656 := by rw [hz2]; omega
  have hml : L.length ≤ maxLen := by unfold maxLen; omega
  go_enter Tryd.func7, Tryd.ntmps7
  go_wp2_with (refine wpList_make_full _ rfl _ _ 22 rfl w.heap.size 3 i0 (.int .i64 0) 1 Tryd.underlying22 hi hz0 hz1 .i64 .i64 _ _ L.length rfl rfl rfl rfl hb2 hml (Nat.le_refl _) ?_; intro w1 hown hgrow)
  have hrow := row_of_own hown
  have hb0 := below_grown hgrow (fun k h => by cases h)
  clear hown hgrow
  generalize hg : w.heap.size = g at *
  have Hg := Lib.hid hg; clear hg
  go_loopw [4] (fun i wr => ∃ k : Nat, i = .int .i64 k ∧ k ≤ L.length ∧ Row wr g 3 (L.length * 1) ∧ Cells f1 1 wr g 0 (L.take k) ∧ Below g w wr) (fun i _ => (L.length - intOf i).toNat)
  case atStart => exact ⟨0, rfl, by omega, hrow, fun k x hx => by simp at hx, hb0⟩
  case round =>
    obtain ⟨k, rfl, hk, hR, hC, hb⟩ := hrel
    by_cases hlt : k < L.length
    · have hx : L[k]? = some L[k] := List.getElem?_eq_getElem hlt
      obtain ⟨b, off, rfl, hB, hcs⟩ := hr (SlR.ne hx)
      have c0 := cells1 (hcs.below hb hB) hx
      have hk0 : (0 : Int) ≤ (k : Int) := by omega
      have hk1 : (k : Int) < (L.length : Int) := by omega
      generalize L[k] = x at *
      have hb2 : Below wr.heap.size wr wr := Below.refl _ _
      have hR2 := hR
      obtain ⟨v0, d0⟩ := hR2.cell (j := k) (by omega)
      have fz := hR2.frozen
      have hC2 := cells_store hR2 (hC.below hb2 hR.lt) (fun _ => rfl) hx (by omega)
      have hb3 : Below g w (wr.setCells g (k * 1) (f1 x)) := below_sets (Nat.le_refl _) _ _ (hb.trans (hb2.mono (by have := hR.lt; omega)))
      have hR3 := Row.sets g (f1 x) (k * 1) hR2
      rw [Nat.mul_one] at hC2 hb3 hR3
      go_wp2
      go_roundw
      case rel => exact ⟨k + 1, by go_num, by omega, hR3, hC2, hb3⟩
      case measure => simp only [intOf]; omega
    · obtain rfl : k = L.length := by omega
      rw [List.take_length] at hC
      go_wp2
      go_ret
      exact ⟨_, _, rfl, fun _ => ⟨g, rfl, by rw [Hg.out]; exact Nat.le_refl _, hR, hC⟩, by rw [Hg.out]; exact hb⟩

set_option maxHeartbeats 1000000 in
theorem eqIntS_any (A A' : Option Addr) (c c' : Nat) (L L' : List Int) (w : World) (hr : SlR f1 1 w w.heap.size A L) (hr' : SlR f1 1 w w.heap.size A' L') (hm : (L.length : Int) ≤ 9223372036854775807) :
    Calls Tryd.prog 10 #[.slice A L.length c, .slice A' L'.length c'] w fun e w' => e = .returned (.bool (eqL L L')) ∧ Below w.heap.size w w' := by
  by_cases hlen : L.length = L'.length
  case neg =>
    have Hv := Lib.hid (eqL_len hlen)
    have hb : ((L.length : Int) != (L'.length : Int)) = true := by rw [bne_iff_ne]; omega
    go_enter Tryd.func10, Tryd.ntmps10
    go_wp2
    go_ret
    exact ⟨by rw [Hv.out]; rfl, by (repeat (first | exact Below.refl _ _ | refine Below.drew ?_ | refine below_drewN ?_ _ | (refine Below.alloc ?_ (by (try simp) <;> omega) _) | (refine Below.setCell ?_ (by (try simp) <;> omega) _) | (refine Below.trans ?_ (Below.mono (by assumption) (by (try simp) <;> omega)))))⟩
  have hb : ((L.length : Int) != (L'.length : Int)) = false := by simp [hlen]
  have Hlen := Lib.hid hlen; clear hlen
  go_enter Tryd.func10, Tryd.ntmps10
  go_wp2
  go_loopw [5] (fun i wr => ∃ k : Nat, i = .int .i64 k ∧ k ≤ L.length ∧ Hid (∀ j, j < k → L[j]? = L'[j]?) ∧ Below w.heap.size w wr) (fun i _ => (L.length - intOf i).toNat)
  case atStart => exact ⟨0, rfl, by omega, fun j h => by omega, Below.refl _ _⟩
  case round =>
    obtain ⟨k, rfl, hk, hp, hbw⟩ := hrel
    by_cases hlt : k < L.length
    · have hlt' : k < L'.length := by have := Hlen.out; omega
      have hx : L[k]? = some L[k] := List.getElem?_eq_getElem hlt
      have hy : L'[k]? = some L'[k] := List.getElem?_eq_getElem hlt'
      obtain ⟨b, off, rfl, hB, hcs⟩ := hr (SlR.ne hx)
      obtain ⟨b', off', rfl, hB', hcs'⟩ := hr' (SlR.ne hy)
      have hk0 : (0 : Int) ≤ (k : Int) := by omega
      have hk1 : (k : Int) < (L.length : Int) := by omega
      have hk1' : (k : Int) < (L'.length : Int) := by omega
      generalize L[k] = x at *
      generalize L'[k] = y at *
      have hC := hcs.below hbw hB
      have hC' := hcs'.below hbw hB'
      have hBr : b < wr.heap.size := by have := hbw.size; omega
      have hBr' : b' < wr.heap.size := by have := hbw.size; omega
      have c0 := cells1 hC hx
      have c1 := cells1 hC' hy
      by_cases hxy : x = y
      · have hne : (x != y) = false := by simp [hxy]
        have Hp : Hid (∀ j, j < k + 1 → L[j]? = L'[j]?) := fun j hj => by
          by_cases e : j = k
          · rw [e, hx, hy, hxy]
          · exact hp.out j (by omega)
        clear hxy
        go_wp2
        go_quiet (fail)
        go_wp2
        go_roundw
        case rel => exact ⟨k + 1, by go_num, by omega, Hp, by (repeat (first | exact Below.refl _ _ | refine Below.drew ?_ | refine below_drewN ?_ _ | (refine Below.alloc ?_ (by (try simp) <;> omega) _) | (refine Below.setCell ?_ (by (try simp) <;> omega) _) | (refine Below.trans ?_ (Below.mono (by assumption) (by (try simp) <;> omega)))))⟩
        case measure => simp only [intOf]; omega
      · have hne : (x != y) = true := by simpa using hxy
        have Hv := Lib.hid (eqL_false (a := L) (b := L') k (by rw [hx, hy]; intro e; cases e; exact hxy rfl))
        clear hxy
        go_wp2
        go_quiet (fail)
        go_wp2
        go_ret
        exact ⟨by rw [Hv.out]; rfl, by (repeat (first | exact Below.refl _ _ | refine Below.drew ?_ | refine below_drewN ?_ _ | (refine Below.alloc ?_ (by (try simp) <;> omega) _) | (refine Below.setCell ?_ (by (try simp) <;> omega) _) | (refine Below.trans ?_ (Below.mono (by assumption) (by (try simp) <;> omega)))))⟩
    · obtain rfl : k = L.length := by omega
      have Hv := Lib.hid (eqL_true (a := L) (b := L') (fun j => by
        by_cases hj : j < L.length
        · exact hp.out j hj
        · have := Hlen.out
          rw [List.getElem?_eq_none (by omega), List.getElem?_eq_none (by omega)]))
      go_wp2
      go_ret
      exact ⟨by rw [Hv.out]; rfl, hbw⟩
end Go.Proofs.YtapfnelghmnajaaDoor
