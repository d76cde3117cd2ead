/-
  A list gathered by append in a slice of the call's own.
-/
import Derived.Test.YtapfnelghmnajaaDoorOpenSl
import Derived.Maps.AppendAt
namespace Go.Proofs.YtapfnelghmnajaaDoor
open Go.RowKit

section
variable {α : Type} {f : α → List Value} {m : Nat} {w w' : World} {B B' : Nat} {L : List α} {t : TypeId} {v : Value} {x : α}
/-- v is the call's own slice of the elements of L. -/
def Gath (f : α → List Value) (m : Nat) (t : TypeId) (w : World) (B : Nat) (v : Value) (L : List α) : Prop := w.ownsRow B t m v L.length (L.flatMap f)
theorem Gath.nil : Gath f m t w B (.slice none 0 0) ([] : List α) := World.ownsRow_nil _ _ _ _
theorem Gath.made (hb : B ≤ w.heap.size) : Gath f m t (w.alloc (.cells #[] t (0, 0))) B (.slice (some ⟨w.heap.size, 0, none⟩) 0 0) ([] : List α) := by
  have := World.ownsRow_made (base := B) (size := m) (e := t) w #[] 0 hb (by unfold maxLen; omega) (by simp)
  exact this
theorem Gath.below (h : Gath f m t w B v L) (hb : Below w.heap.size w w') : Gath f m t w' B v L := by
  obtain ⟨h0, h | ⟨g, cap, cur, hv, hB, hh, r⟩⟩ := h
  · exact ⟨h0, .inl h⟩
  · have hg : g < w.heap.size := by
      rcases Nat.lt_or_ge g w.heap.size with hlt | hge
      · exact hlt
      · rw [Array.getElem?_eq_none hge] at hh; cases hh
    exact ⟨h0, .inr ⟨g, cap, cur, hv, hB, (hb.block g hg).trans hh, r⟩⟩
theorem Gath.alloc (h : Gath f m t w B v L) (o : Obj) : Gath f m t (w.alloc o) B v L := World.ownsRow.alloc h o
theorem Gath.snoc (h : w.ownsRow B t m v (L.length + 1) (L.flatMap f ++ f x)) : Gath f m t w B v (L ++ [x]) := by
  unfold Gath
  rw [List.length_append, List.flatMap_append]
  simpa using h
theorem flatMap_get (hf : ∀ x : α, (f x).length = m) : ∀ (L : List α) (k j : Nat) (x : α), L[k]? = some x → j < m → (L.flatMap f)[k * m + j]? = (f x)[j]?
  | [], k, j, x, h, _ => by simp at h
  | y :: L, 0, j, x, h, hj => by
    simp at h; subst h
    rw [List.flatMap_cons, Nat.zero_mul, Nat.zero_add, List.getElem?_append_left (by rw [hf]; exact hj)]
  | y :: L, k + 1, j, x, h, hj => by
    rw [List.flatMap_cons, List.getElem?_append_right (by rw [hf, Nat.add_mul]; omega), hf, show (k + 1) * m + j - m = k * m + j by rw [Nat.add_mul]; omega]
    exact flatMap_get hf L k j x (by simpa using h) hj
theorem Gath.own (hf : ∀ x : α, (f x).length = m) (h : Gath f m t w B v L) : ∃ A c, v = .slice A L.length c ∧ OwnR f m t w B A L := by
  have hcells := fun g hg => World.ownsRow.cells (g := g) h hg
  obtain ⟨h0, ⟨hv, hn⟩ | ⟨g, cap, cur, hv, hB, hh, hn, hcm, hs, ht⟩⟩ := h
  · obtain rfl : L = [] := List.length_eq_zero_iff.1 hn
    exact ⟨none, 0, hv, OwnR.nil⟩
  · subst hv
    refine ⟨_, _, rfl, fun _ => ⟨g, rfl, hB, ⟨cur, hh, by rw [hs]; exact Nat.mul_le_mul_right m hn⟩, fun k x hx j u hu => ?_⟩⟩
    have hj : j < m := by rw [← hf x]; exact (List.getElem?_eq_some_iff.1 hu).1
    have := hcells g rfl (k * m + j) u (by rw [flatMap_get hf L k j x hx hj]; exact hu)
    rw [Go.WideShapes.add_plain] at this
    rw [show 0 + k * m + j = 0 + (k * m + j) by omega]; exact this
/-- What append leaves: memory below the call's own blocks is as it was. -/
theorem below_grown' {B0 : Nat} {w0 : World} (hb : Below B0 w0 w) (hg : w.grownBy w' v.ownBlock) (h : Gath f m t w B v L) (hB : B0 ≤ B) (hs : B0 ≤ w.heap.size) : Below B0 w0 w' := by
  refine hb.grown hg hs fun k hk => ?_
  obtain ⟨_, ⟨hv, _⟩ | ⟨g, cap, cur, hv, hB', _⟩⟩ := h
  · subst hv; simp [Value.ownBlock] at hk
  · subst hv; simp [Value.ownBlock] at hk; omega
theorem OwnR.onlyBelow {A : Option Addr} (h : OwnR f m t w B A L) (ho : Only A w w') (h0 : L = [] → w = w') : Below B w w' := by
  by_cases hL : L = []
  · rw [h0 hL]; exact Below.refl _ _
  · obtain ⟨g, hA, hg, _⟩ := h hL
    exact ho.below fun a ha => by rw [hA] at ha; cases ha; exact hg
theorem OwnR.keep {β : Type} {f' : β → List Value} {m' : Nat} {L' : List β} {A A' : Option Addr} {wx : World} (h : OwnR f m t w B A L) (ho : Only A' w w') (h0 : L' = [] → w = w') (hs : SlR f' m' wx B A' L') : OwnR f m t w' B A L := by
  by_cases hL : L' = []
  · rw [← h0 hL]; exact h
  · obtain ⟨b, off, hA', hb, _⟩ := hs hL
    intro hn
    obtain ⟨g, hA, hg, _⟩ := h hn
    refine h.only ho (fun a a' ha ha' => ?_) hn
    rw [hA] at ha; rw [hA'] at ha'
    cases ha; cases ha'
    show g ≠ b
    omega
theorem tab_succ {α : Type} (n : Nat) (f : Nat → α) : tab (n + 1) f = tab n f ++ [f n] := by simp [tab, List.range_succ]
theorem tab_zero {α : Type} (f : Nat → α) : tab 0 f = [] := rfl
end
/-- A callee that hands back a new slice and a Bool. -/
def NewSl2 {α : Type} (f : α → List Value) (m : Nat) (t : TypeId) (w : World) (L : List α) (u : Bool) (e : Ending) (w' : World) : Prop :=
  ∃ A c, e = .returned (.tuple #[.slice A L.length c, .bool u]) ∧ OwnR f m t w' w.heap.size A L ∧ Below w.heap.size w w'
end Go.Proofs.YtapfnelghmnajaaDoor
