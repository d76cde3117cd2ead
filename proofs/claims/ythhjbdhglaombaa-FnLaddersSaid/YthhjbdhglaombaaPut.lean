/-
  One cell of an element is stored into the call's own row.
-/
import Derived.Test.YthhjbdhglaombaaSlice
namespace Go.Proofs.Ythhjbdhglaombaa
open Go.RowKit

section
variable {α : Type} {f : α → List Value} {m : Nat} {w : World} {g n k j : Nat} {M : List α} {t : TypeId} {x x' : α} {u : Value}
/-- Cell j of element k is turned. -/
theorem Cells.put (hr : Row w g t n) (h : Cells f m w g 0 M) (hf : ∀ x, (f x).length = m) (hx : M[k]? = some x) (hj : j < m) (hx' : f x' = (f x).set j u) (hn : M.length * m ≤ n) :
    Cells f m (w.setCell ⟨g, k * m + j, none⟩ u) g 0 (M.set k x') := by
  intro i y hy q v hv
  have hk := (List.getElem?_eq_some_iff.1 hx).1
  have hq : q < m := by rw [← hf y]; exact (List.getElem?_eq_some_iff.1 hv).1
  have hmk : (k + 1) * m ≤ M.length * m := Nat.mul_le_mul_right m hk
  rw [Nat.add_mul, Nat.one_mul] at hmk
  rw [Nat.zero_add]
  by_cases hik : i = k
  · subst hik
    rw [List.getElem?_set_self hk] at hy
    cases hy
    by_cases hqj : q = j
    · subst hqj
      rw [hx', List.getElem?_set_self (by rw [hf]; exact hj)] at hv
      cases hv
      obtain ⟨z, hz⟩ := hr.cell (j := i * m + q) (by omega)
      exact World.cell?_setCell_same w _ _ hz
    · rw [hx', List.getElem?_set_ne (by omega)] at hv
      have := h i x hx q v hv
      rw [Nat.zero_add] at this
      exact (World.cell?_setCell_other w _ _ u (by intro e; injection e with _ e _; omega)).trans this
  · rw [List.getElem?_set_ne (by omega)] at hy
    have := h i y hy q v hv
    rw [Nat.zero_add] at this
    refine (World.cell?_setCell_other w _ _ u ?_).trans this
    intro e
    injection e with _ e _
    rcases Nat.lt_or_gt_of_ne hik with hlt | hgt
    · have : (i + 1) * m ≤ k * m := Nat.mul_le_mul_right m hlt
      rw [Nat.add_mul, Nat.one_mul] at this; omega
    · have : (k + 1) * m ≤ i * m := Nat.mul_le_mul_right m hgt
      rw [Nat.add_mul, Nat.one_mul] at this; omega
end
end Go.Proofs.Ythhjbdhglaombaa
