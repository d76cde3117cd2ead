/-
  Copies of a slice of structs of three ints; an element stored into a row of the call's own; results of a slice, an int and a Bool.
-/
import Derived.Test.YtpgoenhekmoedaaPred
import Derived.Test.YtpgoenhekmoedaaHBatch
import Derived.WalkKit
import Derived.WalkSpells
import Derived.WalkLawsBesides
import Derived.Lib.Hide
import Derived.Deep.QuietTactic
import Derived.BigQuiet
import Derived.StillTailTactics
namespace Go.Proofs.Ytpgoenhekmoedaa
open Go.RowKit

/-- A callee that hands back a new slice, an int and a Bool. -/
def NewSl3 {α : Type} (f : α → List Value) (m : Nat) (t : TypeId) (w : World) (L : List α) (n : Int) (u : Bool) (e : Ending) (w' : World) : Prop :=
  ∃ A c, e = .returned (.tuple #[.slice A L.length c, .int .i64 n, .bool u]) ∧ OwnR f m t w' w.heap.size A L ∧ Below w.heap.size w w'

section
variable {α : Type} {f : α → List Value} {m : Nat} {w w' : World} {B b off n g : Nat} {L : List α} {t : TypeId}
theorem flat_len (hf : ∀ x : α, (f x).length = m) : ∀ L : List α, (L.flatMap f).length = L.length * m
  | [] => by simp
  | x :: L => by rw [List.flatMap_cons, List.length_append, hf, flat_len hf L, List.length_cons, Nat.add_mul]; omega
theorem get_split {k : Nat} (hm : 0 < m) (h : k < L.length * m) : k = k / m * m + k % m ∧ k / m < L.length ∧ k % m < m := by
  refine ⟨by rw [Nat.mul_comm, Nat.div_add_mod], ?_, Nat.mod_lt _ hm⟩
  rw [Nat.div_lt_iff_lt_mul hm]; exact h
/-- The cells of a slice, one behind the other. -/
theorem cells_flat (hf : ∀ x : α, (f x).length = m) (hm : 0 < m) (h : Cells f m w b off L) : ∀ j u, (L.flatMap f)[j]? = some u → w.cell? ((⟨b, off, none⟩ : Addr).add j) = some u := by
  intro j u hj
  rw [Go.WideShapes.add_plain]
  have hlt : j < L.length * m := by
    rw [← flat_len hf L]; exact (List.getElem?_eq_some_iff.1 hj).1
  obtain ⟨e, h1, h2⟩ := get_split hm hlt
  have hx : L[j / m]? = some L[j / m] := List.getElem?_eq_getElem h1
  have h3 := flatMap_get hf L (j / m) (j % m) _ hx h2
  rw [← e, hj] at h3
  have := h (j / m) _ hx (j % m) u h3.symm
  rw [show off + j = off + j / m * m + j % m by omega]
  exact this
theorem flat_one (h1 : ∀ x : α, ∀ u ∈ f x, u.oneCell' = true) : ∀ u ∈ L.flatMap f, u.oneCell' = true := by
  intro u hu
  rw [List.mem_flatMap] at hu
  obtain ⟨x, _, hx⟩ := hu
  exact h1 x u hx

/-- The k-th element of a row of the call's own is stored anew. -/
theorem cells_upd {M : List α} {k : Nat} {y : α} (hr : Row w g t n) (h : Cells f m w g 0 M) (hf : ∀ x, (f x).length = m) (hk : k < M.length) (hn : M.length * m ≤ n) : Cells f m (w.setCells g (k * m) (f y)) g 0 (M.set k y) := by
  have hkm : k * m + m ≤ n := by
    have : (k + 1) * m ≤ M.length * m := Nat.mul_le_mul_right m (by omega)
    rw [Nat.add_mul, Nat.one_mul] at this; omega
  intro i x hx j u hu
  have hj : j < m := by rw [← hf x]; exact (List.getElem?_eq_some_iff.1 hu).1
  by_cases hik : i = k
  · subst hik
    rw [List.getElem?_set_self hk] at hx
    cases hx
    have := World.cell?_setCells_in g (f y) (i * m) w (fun j hj => by
      obtain ⟨v, hv⟩ := hr.cell (j := i * m + j) (by rw [hf y] at hj; omega)
      rw [hv]; rfl) j (by rw [hf y]; exact hj)
    rw [Nat.zero_add, this]
    rw [List.getElem?_eq_getElem (by rw [hf y]; exact hj)] at hu
    exact hu
  · rw [List.getElem?_set_ne (Ne.symm hik)] at hx
    have hout : 0 + i * m + j < k * m ∨ k * m + (f y).length ≤ 0 + i * m + j := by
      rw [hf y]
      rcases Nat.lt_or_gt_of_ne hik with h1 | h1
      · have : (i + 1) * m ≤ k * m := Nat.mul_le_mul_right m (by omega)
        rw [Nat.add_mul, Nat.one_mul] at this; omega
      · have : (k + 1) * m ≤ i * m := Nat.mul_le_mul_right m (by omega)
        rw [Nat.add_mul, Nat.one_mul] at this; omega
    rw [World.cell?_setCells_out g (f y) (k * m) w _ (fun _ _ => by
      rcases hout with h1 | h1
      · exact .inl h1
      · exact .inr h1)]
    exact h i x hx j u hu
end
end Go.Proofs.Ytpgoenhekmoedaa
