/-
  Contracts of the laws' helpers on slices of trips, the capacity told.
-/
import Derived.Test.YtfcmfadkkfkidaaScalar
import Derived.Test.YtfcmfadkkfkidaaSlice
import Derived.Test.YtfcmfadkkfkidaaHTrip
namespace Go.Proofs.Ytfcmfadkkfkidaa
open Go.RowKit

/-- A callee that hands back a new slice, its capacity told; it is not nil. -/
def NewSlC {α : Type} (f : α → List Value) (m : Nat) (t : TypeId) (w : World) (L : List α) (e : Ending) (w' : World) : Prop :=
  ∃ A c, e = .returned (.slice A L.length c) ∧ OwnR f m t w' w.heap.size A L ∧ Below w.heap.size w w' ∧ L.length ≤ c ∧ ∃ x, A = some x
/-- A slice value that reads as L, its capacity told. -/
def SlVC {α : Type} (f : α → List Value) (m : Nat) (L : List α) (v : Value) (w : World) : Prop := ∃ A c, v = .slice A L.length c ∧ SlR f m w w.heap.size A L ∧ L.length ≤ c ∧ ∃ x, A = some x
theorem SlVC.next {α : Type} {f : α → List Value} {m : Nat} {L : List α} : ∀ (v : Value) (w w' : World), Below w.heap.size w w' → SlVC f m L v w → SlVC f m L v w' := fun v w w' hb h => by
  obtain ⟨A, c, hv, hs, hc⟩ := h
  exact ⟨A, c, hv, hs.next hb, hc⟩

set_option maxHeartbeats 1000000 in
theorem toTripSc_any (A : Option Addr) (c : Nat) (L : List (Int × Int × Int × Int × Int)) (w : World) (hr : SlR f5 5 w w.heap.size A L) (hm : (L.length : Int) ≤ 1048576) :
    Calls Try.prog 23 #[.slice A L.length c] w (NewSlC f5 5 25 w L) := by
  obtain ⟨i0, hi, hz0, hz1, hz2⟩ := info_parts infoTrip
  have hb2 : i0.bytes * L.length ≤ 281474976710656 := by rw [hz2]; omega
  have hml : L.length ≤ maxLen := by unfold maxLen; omega
  go_enter Try.func23, Try.ntmps23
  go_wp2_with (refine wpList_make_full _ rfl _ _ 33 rfl w.heap.size 25 i0 (.agg #[.int .i64 0, .int .i64 0, .int .i64 0, .int .i64 0, .int .i64 0]) 5 Try.underlying33 hi hz0 hz1 .i64 .i64 _ _ L.length rfl rfl rfl rfl hb2 hml (Nat.le_refl _) ?_; intro w1 hown hgrow)
  have hrow := row_of_own hown
  have hb0 := below_grown hgrow (fun k h => by cases h)
  clear hown hgrow
  generalize hg : w.heap.size = g at *
  have Hg := Lib.hid hg; clear hg
  go_loopw [4] (fun i wr => ∃ k : Nat, i = .int .i64 k ∧ k ≤ L.length ∧ Row wr g 25 (L.length * 5) ∧ Cells f5 5 wr g 0 (L.take k) ∧ Below g w wr) (fun i _ => (L.length - intOf i).toNat)
  case atStart => exact ⟨0, rfl, by omega, hrow, fun k x hx => by simp at hx, hb0⟩
  case round =>
    obtain ⟨k, rfl, hk, hR, hC, hb⟩ := hrel
    by_cases hlt : k < L.length
    · have hx : L[k]? = some L[k] := List.getElem?_eq_getElem hlt
      obtain ⟨b, off, rfl, hB, hcs⟩ := hr (SlR.ne hx)
      obtain ⟨c0, c1, c2, c3, c4⟩ := cells5 (hcs.below hb hB) hx
      have hk0 : (0 : Int) ≤ (k : Int) := by omega
      have hk1 : (k : Int) < (L.length : Int) := by omega
      generalize L[k] = x at *
      go_wp2_with fail
      refine (toTrip_any _ _ _ _ _ _).mono ?_; rintro e w2 ⟨rfl, hb2⟩
      have hR2 := hR.below' hb2
      obtain ⟨v0, d0⟩ := hR2.cell (j := k * 5) (by omega)
      obtain ⟨v1, d1⟩ := hR2.cell (j := k * 5 + 1) (by omega)
      obtain ⟨v2, d2⟩ := hR2.cell (j := k * 5 + 2) (by omega)
      obtain ⟨v3, d3⟩ := hR2.cell (j := k * 5 + 3) (by omega)
      obtain ⟨v4, d4⟩ := hR2.cell (j := k * 5 + 4) (by omega)
      have fz := hR2.frozen
      have hC2 := cells_store hR2 (hC.below hb2 hR.lt) (fun _ => rfl) hx (by omega)
      have hb3 : Below g w (w2.setCells g (k * 5) (f5 x)) := below_sets (Nat.le_refl _) _ _ (hb.trans (hb2.mono (by have := hR.lt; omega)))
      have hR3 := Row.sets g (f5 x) (k * 5) hR2
      skip
      go_wp2
      go_roundw
      case rel => exact ⟨k + 1, by go_num, by omega, hR3, hC2, hb3⟩
      case measure => simp only [intOf]; omega
    · obtain rfl : k = L.length := by omega
      rw [List.take_length] at hC
      go_wp2
      go_ret
      exact ⟨_, _, rfl, fun _ => ⟨g, rfl, by rw [Hg.out]; exact Nat.le_refl _, hR, hC⟩, by rw [Hg.out]; exact hb, Nat.le_refl _, _, rfl⟩

end Go.Proofs.Ytfcmfadkkfkidaa
