/-
  What the values of a drawn region are, said of a world: slices, structs of one slice, tuples of these and scalars.
-/
import Derived.Test.YthhjbdhglaombaaAppend
namespace Go.Proofs.Ythhjbdhglaombaa
open Go.RowKit

/-- A slice value that reads as L. -/
def SlV {α : Type} (f : α → List Value) (m : Nat) (L : List α) (v : Value) (w : World) : Prop := ∃ A c, v = .slice A L.length c ∧ SlR f m w w.heap.size A L
theorem SlV.next {α : Type} {f : α → List Value} {m : Nat} {L : List α} : ∀ (v : Value) (w w' : World), Below w.heap.size w w' → SlV f m L v w → SlV f m L v w' := fun v w w' hb h => by
  obtain ⟨A, c, hv, hs⟩ := h
  exact ⟨A, c, hv, hs.next hb⟩

/-- A pair of a slice that reads as L and a Bool. -/
def TuV {α : Type} (f : α → List Value) (m : Nat) (L : List α) (u : Bool) (v : Value) (w : World) : Prop := ∃ A c, v = .tuple #[.slice A L.length c, .bool u] ∧ SlR f m w w.heap.size A L
theorem TuV.next {α : Type} {f : α → List Value} {m : Nat} {L : List α} {u : Bool} : ∀ (v : Value) (w w' : World), Below w.heap.size w w' → TuV f m L u v w → TuV f m L u v w' := fun v w w' hb h => by
  obtain ⟨A, c, hv, hs⟩ := h
  exact ⟨A, c, hv, hs.next hb⟩

/-- A struct of one slice of ints that reads as L. -/
def SmV (L : List Int) (v : Value) (w : World) : Prop := ∃ A c, v = .agg #[.slice A L.length c] ∧ SlR f1 1 w w.heap.size A L
theorem SmV.next {L : List Int} : ∀ (v : Value) (w w' : World), Below w.heap.size w w' → SmV L v w → SmV L v w' := fun v w w' hb h => by
  obtain ⟨A, c, hv, hs⟩ := h
  exact ⟨A, c, hv, hs.next hb⟩
/-- A pair of such a struct and a Bool. -/
def TuM (L : List Int) (u : Bool) (v : Value) (w : World) : Prop := ∃ A c, v = .tuple #[.agg #[.slice A L.length c], .bool u] ∧ SlR f1 1 w w.heap.size A L
theorem TuM.next {L : List Int} {u : Bool} : ∀ (v : Value) (w w' : World), Below w.heap.size w w' → TuM L u v w → TuM L u v w' := fun v w w' hb h => by
  obtain ⟨A, c, hv, hs⟩ := h
  exact ⟨A, c, hv, hs.next hb⟩
/-- A cell of a block made behind the marked slice reads as it did. -/
theorem cell_keep {β : Type} {f' : β → List Value} {m' B : Nat} {L' : List β} {A' : Option Addr} {w w' wx : World} {p : Addr} {u : Value} (ho : Only A' w w') (h0 : L' = [] → w = w') (hs : SlR f' m' wx B A' L') (hp : B ≤ p.block) (hc : w.cell? p = some u) : w'.cell? p = some u := by
  by_cases hL : L' = []
  · rw [← h0 hL]; exact hc
  · obtain ⟨b, off, hA', hb, _⟩ := hs hL
    refine (World.cell?_of_block (ho.block p.block fun a' ha' => ?_)).trans hc
    rw [hA'] at ha'; cases ha'
    show p.block ≠ b
    omega
/-- A callee that hands back a struct of one new slice and a Bool. -/
def NewSm2 (t : TypeId) (w : World) (L : List Int) (u : Bool) (e : Ending) (w' : World) : Prop :=
  ∃ A c, e = .returned (.tuple #[.agg #[.slice A L.length c], .bool u]) ∧ OwnR f1 1 t w' w.heap.size A L ∧ Below w.heap.size w w'
end Go.Proofs.Ythhjbdhglaombaa
