/-
  One cell of an element is stored into the call's own row.
-/
import Derived.Test.YtfcmfadkkfkidaaSlice
namespace Go.Proofs.Ytfcmfadkkfkidaa
open Go.RowKit

section
variable {α : Type} {f : α → List Value} {m : Nat} {w : World} {g n k j : Nat} {M : List α} {t : TypeId} {x x' : α} {u : Value}
/-- Cell j of element k is turned. -/
theorem Cells.put (hr : Row w g t n) (h : Cells f m w g 0 M) (hf : ∀ x, (f x).length = m) (hx : M[k]? = some x) (hj : j < m) (hx' : f x' = (f x).set j u) (hn : M.length * m ≤ n) :
    Cells f m (w.setCell ⟨g, k * m + j, none⟩ u) g 0 (M.set k x') := by
  intro i y hy q v hv
  have hk := (List.getElem?_eq_some_iff.1 hx).1
  have hq : q < m := by rw [← hf y]; exact (List.getElem?_eq_some_iff.1 hv).1
  have hmk : (k + 1) * m ≤ M.length * m := Nat.mul_le_mul_right m hk
  rw [Nat.add_mul, Nat.one_mul] at hmk
  rw [Nat.zero_add]
  by_cases hik : i = k
  · subst hik
    rw [List.getElem?_set_self hk] at hy
    cases hy
    by_cases hqj : q = j
    · subst hqj
      rw [hx', List.getElem?_set_self (by rw [hf]; exact hj)] at hv
      cases hv
      obtain ⟨z, hz⟩ := hr.cell (j := i * m + q) (by omega)
      exact World.cell?_setCell_same w _ _ hz
    · rw [hx', List.getElem?_set_ne (by omega)] at hv
      have := h i x hx q v hv
      rw [Nat.zero_add] at this
      exact (World.cell?_setCell_other w _ _ u (by intro e; injection e with _ e _; omega)).trans this
  · rw [List.getElem?_set_ne (by omega)] at hy
    have := h i y hy q v hv
    rw [Nat.zero_add] at this
    refine (World.cell?_setCell_other w _ _ u ?_).trans this
    intro e
    injection e with _ e _
    rcases Nat.lt_or_gt_of_ne hik with hlt | hgt
    · have : (i + 1) * m ≤ k * m := Nat.mul_le_mul_right m hlt
      rw [Nat.add_mul, Nat.one_mul] at this; omega
    · have : (k + 1) * m ≤ i * m := Nat.mul_le_mul_right m hgt
      rw [Nat.add_mul, Nat.one_mul] at this; omega
/-- The k-th element of a row of the call's own is stored anew. -/
theorem Cells.putAll {y : α} (hr : Row w g t n) (h : Cells f m w g 0 M) (hf : ∀ x, (f x).length = m) (hk : k < M.length) (hn : M.length * m ≤ n) : Cells f m (w.setCells g (k * m) (f y)) g 0 (M.set k y) := by
  have hkm : k * m + m ≤ n := by
    have : (k + 1) * m ≤ M.length * m := Nat.mul_le_mul_right m (by omega)
    rw [Nat.add_mul, Nat.one_mul] at this; omega
  intro i x hx j u hu
  have hj : j < m := by rw [← hf x]; exact (List.getElem?_eq_some_iff.1 hu).1
  by_cases hik : i = k
  · subst hik
    rw [List.getElem?_set_self hk] at hx
    cases hx
    have := World.cell?_setCells_in g (f y) (i * m) w (fun j hj => by
      obtain ⟨v, hv⟩ := hr.cell (j := i * m + j) (by rw [hf y] at hj; omega)
      rw [hv]; rfl) j (by rw [hf y]; exact hj)
    rw [Nat.zero_add, this]
    rw [List.getElem?_eq_getElem (by rw [hf y]; exact hj)] at hu
    exact hu
  · rw [List.getElem?_set_ne (Ne.symm hik)] at hx
    have hout : 0 + i * m + j < k * m ∨ k * m + (f y).length ≤ 0 + i * m + j := by
      rw [hf y]
      rcases Nat.lt_or_gt_of_ne hik with h1 | h1
      · have : (i + 1) * m ≤ k * m := Nat.mul_le_mul_right m (by omega)
        rw [Nat.add_mul, Nat.one_mul] at this; omega
      · have : (k + 1) * m ≤ i * m := Nat.mul_le_mul_right m (by omega)
        rw [Nat.add_mul, Nat.one_mul] at this; omega
    rw [World.cell?_setCells_out g (f y) (k * m) w _ (fun _ _ => by
      rcases hout with h1 | h1
      · exact .inl h1
      · exact .inr h1)]
    exact h i x hx j u hu
end
end Go.Proofs.Ytfcmfadkkfkidaa
