/-
  Words for memory: a block that is known whole; what a callee that only makes new memory leaves.
-/
import Derived.Below
import Derived.Laws.OwnMore
import Derived.Laws.Rows
import Derived.Deep.Draws
import Derived.WalkSmall
namespace Go.Proofs.YtapfnelghmnajaaDoor
open Go.RowKit

/-- Behind a call: block g of the caller's own reads as it did. -/
theorem bblk {B : Nat} {W w1 : World} (hb : Below B W w1) {g : Nat} (hg : g < B) : (∀ o, w1.cell? ⟨g, o, none⟩ = W.cell? ⟨g, o, none⟩) ∧ (∀ o, w1.frozen? ⟨g, o, none⟩ = W.frozen? ⟨g, o, none⟩) :=
  ⟨fun o => hb.cell (p := ⟨g, o, none⟩) hg, fun o => hb.frozen (p := ⟨g, o, none⟩) hg⟩

def Blk (w : World) (g : Nat) (t : TypeId) (cs : Array Value) : Prop := w.heap[g]? = some (.cells cs t (0, 0))
section
variable {w w' : World} {g : Nat} {t : TypeId} {cs : Array Value}
theorem Blk.lt (h : Blk w g t cs) : g < w.heap.size := by
  rcases Nat.lt_or_ge g w.heap.size with hlt | hge
  · exact hlt
  · unfold Blk at h; rw [Array.getElem?_eq_none hge] at h; cases h
theorem Blk.cell (h : Blk w g t cs) (i : Nat) : w.cell? ⟨g, i, none⟩ = cs[i]? := cell_of_row w g i cs t (0, 0) h
theorem Blk.frozen (h : Blk w g t cs) (i : Nat) : w.frozen? ⟨g, i, none⟩ = false := by
  unfold Blk at h
  simp [World.frozen?, h]
theorem Blk.new (w : World) (t : TypeId) (cs : Array Value) : Blk (w.alloc (.cells cs t)) w.heap.size t cs := heap_alloc_new w _
theorem Blk.drew (h : Blk w g t cs) : Blk w.drew g t cs := h
theorem Blk.drewN (h : Blk w g t cs) (n : Nat) : Blk (w.drewN n) g t cs := h
theorem Blk.alloc (h : Blk w g t cs) (o : Obj) : Blk (w.alloc o) g t cs := (Below.heap_alloc w o g h.lt).trans h
theorem Blk.set_ (h : Blk w g t cs) (i : Nat) (u : Value) : Blk (w.setCell ⟨g, i, none⟩ u) g t (cs.setIfInBounds i u) := by
  unfold Blk at h ⊢
  simp [World.setCell, Array.getElem?_modify, h]
theorem Blk.far (h : Blk w g t cs) {p : Addr} (hp : g ≠ p.block) (u : Value) : Blk (w.setCell p u) g t cs := (Below.heap_setCell w p u g hp).trans h
theorem Blk.below {B : Nat} (h : Blk w g t cs) (hb : Below B w w') (hg : g < B) : Blk w' g t cs := (hb.block g hg).trans h
theorem Blk.below' (h : Blk w g t cs) (hb : Below w.heap.size w w') : Blk w' g t cs := h.below hb h.lt
/-- A new block of another type is laid out otherwise: the older block reads as it did. -/
theorem Blk.swap {t' : TypeId} {c c' : Array Value} (h : Blk (w.alloc (.cells c t')) g t cs) (hne : t' ≠ t) : Blk (w.alloc (.cells c' t')) g t cs := by
  have hlt := h.lt
  by_cases hg : g = w.heap.size
  · subst hg
    have h1 : Blk (w.alloc (.cells c t')) w.heap.size t' c := Blk.new w t' c
    unfold Blk at h h1
    rw [h1] at h
    injection h with h
    injection h with _ ht
    exact absurd ht hne
  · have hlt' : g < w.heap.size := by simp at hlt; omega
    exact (Below.heap_alloc w _ g hlt').trans ((Below.heap_alloc w _ g hlt').symm.trans h)
end

theorem Blk.new1 (w : World) (t : TypeId) (cs : Array Value) (o : Obj) : Blk ((w.alloc o).alloc (.cells cs t)) (w.heap.size + 1) t cs := by
  have := Blk.new (w.alloc o) t cs
  simpa using this

section
variable {w : World} {g g' : Nat} {t : TypeId} {cs : Array Value}
theorem Blk.set3 {x y z : Value} (h : Blk w g t #[x, y, z]) (a b c : Value) : Blk (((w.setCell ⟨g, 0, none⟩ a).setCell ⟨g, 1, none⟩ b).setCell ⟨g, 2, none⟩ c) g t #[a, b, c] := by
  have := ((h.set_ 0 a).set_ 1 b).set_ 2 c
  simpa using this
theorem Blk.set2 {x y : Value} (h : Blk w g t #[x, y]) (a b : Value) : Blk ((w.setCell ⟨g, 0, none⟩ a).setCell ⟨g, 1, none⟩ b) g t #[a, b] := by
  have := (h.set_ 0 a).set_ 1 b
  simpa using this
theorem Blk.far1 (h : Blk w g t cs) (hne : g ≠ g') (o : Nat) (a : Value) : Blk (w.setCell ⟨g', o, none⟩ a) g t cs := h.far (p := ⟨g', o, none⟩) hne a
theorem Blk.far2 (h : Blk w g t cs) (hne : g ≠ g') (o1 o2 : Nat) (a b : Value) : Blk ((w.setCell ⟨g', o1, none⟩ a).setCell ⟨g', o2, none⟩ b) g t cs := (h.far1 hne o1 a).far1 hne o2 b
theorem Blk.far3 (h : Blk w g t cs) (hne : g ≠ g') (o1 o2 o3 : Nat) (a b c : Value) : Blk (((w.setCell ⟨g', o1, none⟩ a).setCell ⟨g', o2, none⟩ b).setCell ⟨g', o3, none⟩ c) g t cs := (h.far2 hne o1 o2 a b).far1 hne o3 c
end
end Go.Proofs.YtapfnelghmnajaaDoor
