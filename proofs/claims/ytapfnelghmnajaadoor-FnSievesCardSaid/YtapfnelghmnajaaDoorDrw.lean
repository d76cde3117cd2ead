/-
  Words for the Draw functions: small ints, the cursor's beginning, what the calls of the cursor leave.
-/
import Derived.Test.YtapfnelghmnajaaDoorGat
import Derived.Test.YtapfnelghmnajaaDoorChg
namespace Go.Proofs.YtapfnelghmnajaaDoor
open Go.RowKit

/-- A Draw function: it hands back a value of which F holds, and turns no older memory. -/
def DrW (F : Value → World → Prop) (w : World) (e : Ending) (w' : World) : Prop := ∃ v, e = .returned v ∧ F v w' ∧ Below w.heap.size w w'
/-- A list of small ints. -/
theorem mem_small {M : List Int} {x : Int} (h : x ∈ M) (hM : (M.all fun y => decide (-1000000000 ≤ y) && decide (y ≤ 1000000000)) = true) : -1000000000 ≤ x ∧ x ≤ 1000000000 := by
  rw [List.all_eq_true] at hM
  have := hM x h
  simpa using this
def Small (x : Int) : Prop := -1000000000 ≤ x ∧ x ≤ 1000000000

theorem butNew {g q : Nat} {w w1 : World} (h : ButG g w w1) (hq : w.heap.size ≤ q) (o : Nat) (u : Value) : ButG g w (w1.setCell ⟨q, o, none⟩ u) :=
  ⟨h.os, h.tape, h.output, by simpa [World.setCell] using h.size, fun k hk hg => (Below.heap_setCell w1 ⟨q, o, none⟩ u k (by show k ≠ q; omega)).trans (h.block k hk hg)⟩
theorem cur_far {A : Option Addr} {c : Nat} {L : List Int} {g n q : Nat} {w : World} (h : Cur A c L g n w) (hq : g < q) (o : Nat) (u : Value) : Cur A c L g n (w.setCell ⟨q, o, none⟩ u) := by
  obtain ⟨k, s, h1, h2, h3⟩ := h.ex
  exact ⟨⟨k, s, h1, h2, h3.far (p := ⟨q, o, none⟩) (by show g ≠ q; omega) u⟩, h.sl.below ((Below.refl _ _).setCell (p := ⟨q, o, none⟩) (by show g ≤ q; omega) u)⟩
theorem tdiv_bd {x k B : Int} (h1 : -B ≤ x) (h2 : x ≤ B) (hk : 1 ≤ k) : -B ≤ x.tdiv k ∧ x.tdiv k ≤ B := by
  rcases Int.le_total 0 x with h | h
  · have := IntWalk.tdiv_le x k h hk
    rw [Int.tdiv_eq_ediv_of_nonneg h]
    omega
  · obtain ⟨y, rfl⟩ : ∃ y, x = -y := ⟨-x, by omega⟩
    have := IntWalk.tdiv_le y k (by omega) hk
    rw [Int.neg_tdiv, Int.tdiv_eq_ediv_of_nonneg (by omega)]
    omega
theorem Small.inI {x : Int} (h : Small x) : InI x := ⟨by have := h.1; omega, by have := h.2; omega⟩
theorem cur_new {A : Option Addr} {c : Nat} {L : List Int} {w W : World} (hs : SlR fb 1 w w.heap.size A L) (hb : Below w.heap.size w W) : Cur A c L W.heap.size 0 (W.alloc (.cells #[.slice A L.length c, .int .i64 0, .int .u64 0] 59)) :=
  ⟨⟨0, 0, by omega, by omega, Blk.new _ _ _⟩, (hs.below (hb.alloc hb.size _)).mono hb.size⟩
theorem cur_new1 {A : Option Addr} {c : Nat} {L : List Int} {w : World} (R : Obj) (hs : SlR fb 1 w w.heap.size A L) : Cur A c L (w.heap.size + 1) 0 ((w.alloc R).alloc (.cells #[.slice A L.length c, .int .i64 0, .int .u64 0] 59)) := by
  have := cur_new (c := c) (W := w.alloc R) hs ((Below.refl _ _).alloc (Nat.le_refl _) _)
  simpa using this

/-- What the calls of the cursor in block g leave. -/
@[reducible] def curRel (g : Nat) : Chg.Rel := ⟨ButG g, ButG.trans, ButG.of⟩
/-- A literal of the ints M, not in block g. -/
def LitV (g : Nat) (M : List Int) (v : Value) (w : World) : Prop := ∃ b, v = .slice (some ⟨b, 0, none⟩) M.length M.length ∧ b ≠ g ∧ Blk w b 3 (M.map (Value.int .i64)).toArray
theorem LitV.next {g : Nat} {M : List Int} : ∀ (v : Value) (w w' : World), Below w.heap.size w w' → LitV g M v w → LitV g M v w' := fun v w w' hb h => by
  obtain ⟨b, h1, h2, h3⟩ := h
  exact ⟨b, h1, h2, h3.below' hb⟩
theorem LitV.but {g : Nat} {M : List Int} : ∀ (v : Value) (w w' : World), ButG g w w' → LitV g M v w → LitV g M v w' := fun v w w' hb h => by
  obtain ⟨b, h1, h2, h3⟩ := h
  exact ⟨b, h1, h2, h3.but hb h2⟩
def IntP (P : Int → Prop) (v : Value) : Prop := ∃ r : Int, v = .int .i64 r ∧ P r
/-- An int of which P holds; the cursor stands in block g. -/
def CurV (A : Option Addr) (c : Nat) (L : List Int) (g n : Nat) (P : Int → Prop) (v : Value) (w : World) : Prop := ∃ r : Int, v = .int .i64 r ∧ P r ∧ Cur A c L g n w
theorem CurV.next {A : Option Addr} {c : Nat} {L : List Int} {g n : Nat} {P : Int → Prop} : ∀ (v : Value) (w w' : World), Below w.heap.size w w' → CurV A c L g n P v w → CurV A c L g n P v w' := fun v w w' hb h => by
  obtain ⟨r, h1, h2, h3⟩ := h
  exact ⟨r, h1, h2, h3.next hb⟩

end Go.Proofs.YtapfnelghmnajaaDoor
