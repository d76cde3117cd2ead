/-
  Contracts of the laws' helpers on slices of ints, the capacity told.
-/
import Derived.Test.YtapfnelghmnajaaDoorScalar
import Derived.Test.YtapfnelghmnajaaDoorSlice
import Derived.Test.YtapfnelghmnajaaDoorHInt
namespace Go.Proofs.YtapfnelghmnajaaDoor
open Go.RowKit

/-- A callee that hands back a new slice, its capacity told; it is not nil. -/
def NewSlC {α : Type} (f : α → List Value) (m : Nat) (t : TypeId) (w : World) (L : List α) (e : Ending) (w' : World) : Prop :=
  ∃ A c, e = .returned (.slice A L.length c) ∧ OwnR f m t w' w.heap.size A L ∧ Below w.heap.size w w' ∧ L.length ≤ c ∧ ∃ x, A = some x
/-- A slice value that reads as L, its capacity told. -/
def SlVC {α : Type} (f : α → List Value) (m : Nat) (L : List α) (v : Value) (w : World) : Prop := ∃ A c, v = .slice A L.length c ∧ SlR f m w w.heap.size A L ∧ L.length ≤ c ∧ ∃ x, A = some x
theorem SlVC.next {α : Type} {f : α → List Value} {m : Nat} {L : List α} : ∀ (v : Value) (w w' : World), Below w.heap.size w w' → SlVC f m L v w → SlVC f m L v w' := fun v w w' hb h => by
  obtain ⟨A, c, hv, hs, hc⟩ := h
  exact ⟨A, c, hv, hs.next hb, hc⟩

set_option maxHeartbeats 1000000 in
theorem toIntSc_any (A : Option Addr) (c : Nat) (L : List Int) (w : World) (hr : SlR f1 1 w w.heap.size A L) (hm : (L.length : Int) ≤ 1048576) :
    Calls Tryd.prog 7 #[.slice A L.length c] w (NewSlC f1 1 3 w L) := by
  obtain ⟨i0, hi, hz0, hz1, hz2⟩ := info_parts infoInt
  have hb2 : i0.bytes * L.length ≤ 281474976710656 := by rw [hz2]; omega
  have hml : L.length ≤ maxLen := by unfold maxLen; omega
  go_enter Tryd.func7, Tryd.ntmps7
  go_wp2_with (refine wpList_make_full _ rfl _ _ 22 rfl w.heap.size 3 i0 (.int .i64 0) 1 Tryd.underlying22 hi hz0 hz1 .i64 .i64 _ _ L.length rfl rfl rfl rfl hb2 hml (Nat.le_refl _) ?_; intro w1 hown hgrow)
  have hrow := row_of_own hown
  have hb0 := below_grown hgrow (fun k h => by cases h)
  clear hown hgrow
  generalize hg : w.heap.size = g at *
  have Hg := Lib.hid hg; clear hg
  go_loopw [4] (fun i wr => ∃ k : Nat, i = .int .i64 k ∧ k ≤ L.length ∧ Row wr g 3 (L.length * 1) ∧ Cells f1 1 wr g 0 (L.take k) ∧ Below g w wr) (fun i _ => (L.length - intOf i).toNat)
  case atStart => exact ⟨0, rfl, by omega, hrow, fun k x hx => by simp at hx, hb0⟩
  case round =>
    obtain ⟨k, rfl, hk, hR, hC, hb⟩ := hrel
    by_cases hlt : k < L.length
    · have hx : L[k]? = some L[k] := List.getElem?_eq_getElem hlt
      obtain ⟨b, off, rfl, hB, hcs⟩ := hr (SlR.ne hx)
      have c0 := cells1 (hcs.below hb hB) hx
      have hk0 : (0 : Int) ≤ (k : Int) := by omega
      have hk1 : (k : Int) < (L.length : Int) := by omega
      generalize L[k] = x at *
      have hb2 : Below wr.heap.size wr wr := Below.refl _ _
      have hR2 := hR
      obtain ⟨v0, d0⟩ := hR2.cell (j := k) (by omega)
      have fz := hR2.frozen
      have hC2 := cells_store hR2 (hC.below hb2 hR.lt) (fun _ => rfl) hx (by omega)
      have hb3 : Below g w (wr.setCells g (k * 1) (f1 x)) := below_sets (Nat.le_refl _) _ _ (hb.trans (hb2.mono (by have := hR.lt; omega)))
      have hR3 := Row.sets g (f1 x) (k * 1) hR2
      rw [Nat.mul_one] at hC2 hb3 hR3
      go_wp2
      go_roundw
      case rel => exact ⟨k + 1, by go_num, by omega, hR3, hC2, hb3⟩
      case measure => simp only [intOf]; omega
    · obtain rfl : k = L.length := by omega
      rw [List.take_length] at hC
      go_wp2
      go_ret
      exact ⟨_, _, rfl, fun _ => ⟨g, rfl, by rw [Hg.out]; exact Nat.le_refl _, hR, hC⟩, by rw [Hg.out]; exact hb, Nat.le_refl _, _, rfl⟩

end Go.Proofs.YtapfnelghmnajaaDoor
