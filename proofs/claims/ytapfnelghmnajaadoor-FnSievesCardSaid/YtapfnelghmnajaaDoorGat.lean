/-
  Lists that a Draw function gathers: they stand behind the cursor's block.
-/
import Derived.Test.YtapfnelghmnajaaDoorCur
import Derived.Test.YtapfnelghmnajaaDoorOpen
import Derived.Test.YtapfnelghmnajaaDoorSlice
namespace Go.Proofs.YtapfnelghmnajaaDoor
open Go.RowKit

/-- Only block q has turned. -/
def FarQ (q : Nat) (w w' : World) : Prop := ∀ k, k ≠ q → w'.heap[k]? = w.heap[k]?
theorem FarQ.refl {q : Nat} {w : World} : FarQ q w w := fun _ _ => rfl
theorem FarQ.set {q o : Nat} {w w' : World} {u : Value} (h : FarQ q w w') : FarQ q w (w'.setCell ⟨q, o, none⟩ u) := fun k hk => (Below.heap_setCell w' ⟨q, o, none⟩ u k hk).trans (h k hk)
section
variable {α : Type} {f : α → List Value} {m : Nat} {w w' w0 : World} {B g n : Nat} {L : List α} {t : TypeId} {v : Value} {rw0 : Option Nat}
theorem Gath.but (h : Gath f m t w B v L) (hB : g < B) (hb : ButG g w w') : Gath f m t w' B v L := by
  obtain ⟨h0, h | ⟨g', cap, cur, hv, hB', hh, r⟩⟩ := h
  · exact ⟨h0, .inl h⟩
  · have hg : g' < w.heap.size := by
      rcases Nat.lt_or_ge g' w.heap.size with hlt | hge
      · exact hlt
      · rw [Array.getElem?_eq_none hge] at hh; cases hh
    exact ⟨h0, .inr ⟨g', cap, cur, hv, hB', (hb.block g' hg (by omega)).trans hh, r⟩⟩
theorem Gath.rowGe (h : Gath f m t w B v L) : ∀ k, v.ownBlock = some k → B ≤ k := by
  intro k hk
  obtain ⟨_, ⟨hv, _⟩ | ⟨g, cap, cur, hv, hB', _⟩⟩ := h
  · subst hv; simp [Value.ownBlock] at hk
  · subst hv; simp [Value.ownBlock] at hk; omega
theorem Cur.grown {A : Option Addr} {c : Nat} {M : List Int} (h : Cur A c M g n w) (hg : w.grownBy w' rw0) (hr : ∀ k, rw0 = some k → g < k) : Cur A c M g n w' := by
  have hne : ∀ b, b ≤ g → w'.heap[b]? = w.heap[b]? := fun b hb => hg.block b (by have := h.lt; omega) (fun e => by have := hr b e.symm; omega)
  obtain ⟨k, s, h1, h2, h3⟩ := h.ex
  exact ⟨⟨k, s, h1, h2, (hne g (Nat.le_refl _)).trans h3⟩, h.sl.below ⟨hg.os, hg.tape, hg.output, hg.size, fun k hk => hne k (by omega)⟩⟩
theorem ButG.grown (h : ButG g w0 w) (hg : w.grownBy w' rw0) (hr : ∀ k, rw0 = some k → w0.heap.size ≤ k) : ButG g w0 w' :=
  ⟨hg.os.trans h.os, hg.tape.trans h.tape, hg.output.trans h.output, Nat.le_trans h.size hg.size, fun k hk hne => (hg.block k (Nat.lt_of_lt_of_le hk h.size) (fun e => by have := hr k e.symm; omega)).trans (h.block k hk hne)⟩
/-- The cells of a literal. -/
theorem lit_cells (w : World) (t : TypeId) (vs : List Value) : ∀ j u, vs[j]? = some u → (w.alloc (.cells vs.toArray t)).cell? ((⟨w.heap.size, 0, none⟩ : Addr).add j) = some u := by
  intro j u hj
  rw [Go.WideShapes.add_plain, Nat.zero_add, (Blk.new w t vs.toArray).cell j]
  simpa using hj
theorem OwnR.but {A : Option Addr} (h : OwnR f m t w B A L) (hB : g < B) (hb : ButG g w w') : OwnR f m t w' B A L := fun hn => by
  obtain ⟨b, hA, hg, ⟨cs, hr, hcs⟩, hc⟩ := h hn
  have hlt : b < w.heap.size := Row.lt ⟨cs, hr, hcs⟩
  have he : w'.heap[b]? = w.heap[b]? := hb.block b hlt (by omega)
  exact ⟨b, hA, hg, ⟨cs, he.trans hr, hcs⟩, fun k x hx j u hu => (World.cell?_of_block (a := ⟨b, 0 + k * m + j, none⟩) he).trans (hc k x hx j u hu)⟩
/-- Memory below the slice's own block is turned. -/
theorem OwnR.below_ {A : Option Addr} {q : Nat} (h : OwnR f m t w B A L) (hb : FarQ q w w') (hq : q < B) : OwnR f m t w' B A L := fun hn => by
  obtain ⟨b, hA, hg, ⟨cs, hr, hcs⟩, hc⟩ := h hn
  have he : w'.heap[b]? = w.heap[b]? := hb b (by omega)
  exact ⟨b, hA, hg, ⟨cs, he.trans hr, hcs⟩, fun k x hx j u hu => (World.cell?_of_block (a := ⟨b, 0 + k * m + j, none⟩) he).trans (hc k x hx j u hu)⟩
/-- A slice elsewhere stands while the cursor is turned. -/
theorem SlR.butO {A : Option Addr} (h : OwnR f m t w B A L) (hB : g < B) (hb : ButG g w w') : SlR f m w' w'.heap.size A L := (h.but hB hb).sl
end
/-- A callee of the cursor hands back a new list of which P holds. -/
def CurL {α : Type} (f : α → List Value) (m : Nat) (t : TypeId) (A : Option Addr) (c : Nat) (L : List Int) (g n : Nat) (w : World) (P : List α → Prop) (e : Ending) (w' : World) : Prop :=
  ∃ A' c' M, e = .returned (.slice A' M.length c') ∧ P M ∧ OwnR f m t w' w.heap.size A' M ∧ Cur A c L g n w' ∧ ButG g w w'
theorem two_ok {x y : Int} : ∀ u ∈ [Value.int .i64 x, Value.int .i64 y], u.oneCell' = true := by
  intro u hu; simp at hu; rcases hu with rfl | rfl <;> rfl
theorem three_ok {x y z : Int} : ∀ u ∈ [Value.int .i64 x, Value.int .i64 y, Value.int .i64 z], u.oneCell' = true := by
  intro u hu; simp at hu; rcases hu with rfl | rfl | rfl <;> rfl
/-- The length in a slot. -/
def lenOf : Value → Int | .slice _ n _ => n | _ => 0
end Go.Proofs.YtapfnelghmnajaaDoor
