/-
  What the values of a drawn region are, said of a world: slices, structs of one slice, tuples of these and scalars.
-/
import Derived.Test.YtapfnelghmnajaaDoorAppend
namespace Go.Proofs.YtapfnelghmnajaaDoor
open Go.RowKit

/-- A slice value that reads as L. -/
def SlV {α : Type} (f : α → List Value) (m : Nat) (L : List α) (v : Value) (w : World) : Prop := ∃ A c, v = .slice A L.length c ∧ SlR f m w w.heap.size A L
theorem SlV.next {α : Type} {f : α → List Value} {m : Nat} {L : List α} : ∀ (v : Value) (w w' : World), Below w.heap.size w w' → SlV f m L v w → SlV f m L v w' := fun v w w' hb h => by
  obtain ⟨A, c, hv, hs⟩ := h
  exact ⟨A, c, hv, hs.next hb⟩

/-- A pair of a slice that reads as L and a Bool. -/
def TuV {α : Type} (f : α → List Value) (m : Nat) (L : List α) (u : Bool) (v : Value) (w : World) : Prop := ∃ A c, v = .tuple #[.slice A L.length c, .bool u] ∧ SlR f m w w.heap.size A L
theorem TuV.next {α : Type} {f : α → List Value} {m : Nat} {L : List α} {u : Bool} : ∀ (v : Value) (w w' : World), Below w.heap.size w w' → TuV f m L u v w → TuV f m L u v w' := fun v w w' hb h => by
  obtain ⟨A, c, hv, hs⟩ := h
  exact ⟨A, c, hv, hs.next hb⟩

/-- A struct of one slice of ints that reads as L. -/
def SmV (L : List Int) (v : Value) (w : World) : Prop := ∃ A c, v = .agg #[.slice A L.length c] ∧ SlR f1 1 w w.heap.size A L
theorem SmV.next {L : List Int} : ∀ (v : Value) (w w' : World), Below w.heap.size w w' → SmV L v w → SmV L v w' := fun v w w' hb h => by
  obtain ⟨A, c, hv, hs⟩ := h
  exact ⟨A, c, hv, hs.next hb⟩
/-- A pair of such a struct and a Bool. -/
def TuM (L : List Int) (u : Bool) (v : Value) (w : World) : Prop := ∃ A c, v = .tuple #[.agg #[.slice A L.length c], .bool u] ∧ SlR f1 1 w w.heap.size A L
theorem TuM.next {L : List Int} {u : Bool} : ∀ (v : Value) (w w' : World), Below w.heap.size w w' → TuM L u v w → TuM L u v w' := fun v w w' hb h => by
  obtain ⟨A, c, hv, hs⟩ := h
  exact ⟨A, c, hv, hs.next hb⟩
/-- A cell of a block made behind the marked slice reads as it did. -/
theorem cell_keep {β : Type} {f' : β → List Value} {m' B : Nat} {L' : List β} {A' : Option Addr} {w w' wx : World} {p : Addr} {u : Value} (ho : Only A' w w') (h0 : L' = [] → w = w') (hs : SlR f' m' wx B A' L') (hp : B ≤ p.block) (hc : w.cell? p = some u) : w'.cell? p = some u := by
  by_cases hL : L' = []
  · rw [← h0 hL]; exact hc
  · obtain ⟨b, off, hA', hb, _⟩ := hs hL
    refine (World.cell?_of_block (ho.block p.block fun a' ha' => ?_)).trans hc
    rw [hA'] at ha'; cases ha'
    show p.block ≠ b
    omega
/-- A pointer to a cell that holds the int x. -/
def PtV (x : Int) (v : Value) (w : World) : Prop := ∃ b o, v = .pointer (some ⟨b, o, none⟩) ∧ b < w.heap.size ∧ w.cell? ⟨b, o, none⟩ = some (.int .i64 x)
theorem PtV.next {x : Int} : ∀ (v : Value) (w w' : World), Below w.heap.size w w' → PtV x v w → PtV x v w' := fun v w w' hb h => by
  obtain ⟨b, o, hv, hl, hc⟩ := h
  have := hb.size
  exact ⟨b, o, hv, by omega, ((bblk hb (g := b) hl).1 o).trans hc⟩
/-- The slice of one int that a literal makes. -/
theorem slR_new1 (w : World) (t : TypeId) (x : Int) : SlR f1 1 (w.alloc (.cells #[.int .i64 x] t (0, 0))) (w.alloc (.cells #[.int .i64 x] t (0, 0))).heap.size (some ⟨w.heap.size, 0, none⟩) [x] := fun _ => by
  refine ⟨w.heap.size, 0, rfl, by simp, fun k y hy j u hu => ?_⟩
  have hk : k = 0 := by
    have := (List.getElem?_eq_some_iff.1 hy).1
    simp at this; omega
  subst hk
  have hj : j = 0 := by
    have := (List.getElem?_eq_some_iff.1 hu).1
    simp [f1] at this; omega
  subst hj
  simp at hy; subst hy
  simp [f1] at hu; subst hu
  simp
/-- A slice of the one int x. -/
def Sl1V (x : Int) (v : Value) (w : World) : Prop := ∃ A c, v = .slice A 1 c ∧ SlR f1 1 w w.heap.size A [x]
theorem Sl1V.next {x : Int} : ∀ (v : Value) (w w' : World), Below w.heap.size w w' → Sl1V x v w → Sl1V x v w' := fun v w w' hb h => by
  obtain ⟨A, c, hv, hs⟩ := h
  exact ⟨A, c, hv, hs.next hb⟩
/-- A box of one cell, stored into, reads as what was stored. -/
theorem box_cell (w : World) (v v' : Value) (t : TypeId) : ((w.alloc (.cells #[v] t (0, 0))).setCell ⟨w.heap.size, 0, none⟩ v').cell? ⟨w.heap.size, 0, none⟩ = some v' := by
  have h := (Blk.new w t #[v]).set_ 0 v'
  rw [h.cell 0]
  simp
/-- A callee that hands back a struct of one new slice and a Bool. -/
def NewSm2 (t : TypeId) (w : World) (L : List Int) (u : Bool) (e : Ending) (w' : World) : Prop :=
  ∃ A c, e = .returned (.tuple #[.agg #[.slice A L.length c], .bool u]) ∧ OwnR f1 1 t w' w.heap.size A L ∧ Below w.heap.size w w'
end Go.Proofs.YtapfnelghmnajaaDoor
