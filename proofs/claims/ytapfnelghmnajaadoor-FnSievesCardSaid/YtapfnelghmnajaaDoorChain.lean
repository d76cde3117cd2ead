/-
  Lists whose elements are each right and stand right to the one before.
-/
import Derived.Test.YtapfnelghmnajaaDoorSlice
namespace Go.Proofs.YtapfnelghmnajaaDoor
open Go.RowKit

section
variable {α : Type} {one : α → Bool} {two : α → α → Bool} {L : List α} {k : Nat} {x p : α}
def pairAt (one : α → Bool) (two : α → α → Bool) (L : List α) (i : Nat) : Bool :=
  match L[i]? with
  | none => false
  | some x => one x && (i == 0 || match L[i - 1]? with
    | none => false
    | some p => two p x)
def chain (one : α → Bool) (two : α → α → Bool) (L : List α) : Bool := (List.range L.length).all (pairAt one two L)
theorem chain_bad (hk : k < L.length) (h : pairAt one two L k = false) : chain one two L = false := by
  rw [chain, List.all_eq_false]
  exact ⟨k, List.mem_range.2 hk, by rw [h]; simp⟩
theorem chain_ok (h : ∀ j, j < L.length → pairAt one two L j = true) : chain one two L = true := by
  rw [chain, List.all_eq_true]
  exact fun j hj => h j (List.mem_range.1 hj)
theorem lt_of_get (hx : L[k]? = some x) : k < L.length := (List.getElem?_eq_some_iff.1 hx).1
theorem bad_one (hx : L[k]? = some x) (h : one x = false) : chain one two L = false :=
  chain_bad (lt_of_get hx) (by rw [pairAt, hx]; simp [h])
theorem bad_two (hx : L[k + 1]? = some x) (hp : L[k]? = some p) (h : two p x = false) : chain one two L = false :=
  chain_bad (lt_of_get hx) (by rw [pairAt, hx]; simp [hp, h])
theorem ok_zero (hx : L[0]? = some x) (h : one x = true) : pairAt one two L 0 = true := by rw [pairAt, hx]; simp [h]
theorem ok_succ (hx : L[k + 1]? = some x) (hp : L[k]? = some p) (h : one x = true) (h2 : two p x = true) : pairAt one two L (k + 1) = true := by rw [pairAt, hx]; simp [hp, h, h2]
theorem chain_one (h : chain one two L = true) (hx : L[k]? = some x) : one x = true := by
  rw [chain, List.all_eq_true] at h
  have := h k (List.mem_range.2 (lt_of_get hx))
  rw [pairAt, hx] at this
  simp at this
  exact this.1
theorem chain_two (h : chain one two L = true) (hx : L[k + 1]? = some x) (hp : L[k]? = some p) : two p x = true := by
  rw [chain, List.all_eq_true] at h
  have := h (k + 1) (List.mem_range.2 (lt_of_get hx))
  rw [pairAt, hx] at this
  simp [hp] at this
  exact this.2
/-- One more place that holds. -/
theorem upTo {Q : Nat → Prop} (h : ∀ j, j < k → Q j) (hk : Q k) : ∀ j, j < k + 1 → Q j := fun j hj => by
  by_cases e : j = k
  · exact e ▸ hk
  · exact h j (by omega)
end
end Go.Proofs.YtapfnelghmnajaaDoor
