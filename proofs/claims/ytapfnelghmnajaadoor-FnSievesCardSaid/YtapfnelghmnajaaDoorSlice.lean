/-
  Words for slices: a slice that reads as a list, each element m cells; a row of the call's own.
-/
import Derived.Test.YtapfnelghmnajaaDoorBase
import Derived.Test.YtapfnelghmnajaaDoorMath
import Derived.OwnWalk
import Derived.Maps.AppendAt
import Derived.Laws.IdiomCopy
namespace Go.Proofs.YtapfnelghmnajaaDoor
open Go.RowKit

section
variable {α : Type} {f : α → List Value} {m : Nat} {w w' : World} {B B' b off n g : Nat} {A : Option Addr} {L L' : List α} {t : TypeId}

/-- From place (b, off) on lie the elements of L, each in its m cells. -/
def Cells (f : α → List Value) (m : Nat) (w : World) (b off : Nat) (L : List α) : Prop :=
  ∀ (k : Nat) (x : α), L[k]? = some x → ∀ (j : Nat) (u : Value), (f x)[j]? = some u → w.cell? ⟨b, off + k * m + j, none⟩ = some u

/-- The slice's array at A holds the elements of L; it lies below block B. -/
def SlR (f : α → List Value) (m : Nat) (w : World) (B : Nat) (A : Option Addr) (L : List α) : Prop :=
  L ≠ [] → ∃ b off, A = some ⟨b, off, none⟩ ∧ b < B ∧ Cells f m w b off L

/-- Block g is a row of at least n cells of type t that may be written. -/
def Row (w : World) (g : Nat) (t : TypeId) (n : Nat) : Prop := ∃ cs : Array Value, w.heap[g]? = some (.cells cs t (0, 0)) ∧ n ≤ cs.size

/-- The slice of the call's own: a row from block B on. -/
def OwnR (f : α → List Value) (m : Nat) (t : TypeId) (w : World) (B : Nat) (A : Option Addr) (L : List α) : Prop :=
  L ≠ [] → ∃ g, A = some ⟨g, 0, none⟩ ∧ B ≤ g ∧ Row w g t (L.length * m) ∧ Cells f m w g 0 L

theorem Row.lt (h : Row w g t n) : g < w.heap.size := by
  obtain ⟨cs, h, _⟩ := h
  rcases Nat.lt_or_ge g w.heap.size with hlt | hge
  · exact hlt
  · rw [Array.getElem?_eq_none hge] at h; cases h
theorem Row.cell (h : Row w g t n) {j : Nat} (hj : j < n) : ∃ v, w.cell? ⟨g, j, none⟩ = some v := by
  obtain ⟨cs, h, hn⟩ := h
  exact ⟨cs[j], by rw [cell_of_row w g j cs t (0, 0) h]; exact Array.getElem?_eq_getElem (by omega)⟩
theorem Row.frozen (h : Row w g t n) (j : Nat) : w.frozen? ⟨g, j, none⟩ = false := by
  obtain ⟨cs, h, _⟩ := h
  exact frozen_of_row w g j cs t h
theorem Row.below (h : Row w g t n) (hb : Below B w w') (hg : g < B) : Row w' g t n := by
  obtain ⟨cs, h, hn⟩ := h
  exact ⟨cs, (hb.block g hg).trans h, hn⟩
theorem Row.below' (h : Row w g t n) (hb : Below w.heap.size w w') : Row w' g t n := h.below hb h.lt
theorem Row.set (h : Row w g t n) (p : Addr) (u : Value) : Row (w.setCell p u) g t n := by
  obtain ⟨cs, h, hn⟩ := h
  by_cases hp : g = p.block
  · subst hp
    refine ⟨if p.spot.isSome then cs else cs.setIfInBounds p.off u, ?_, by split <;> simpa using hn⟩
    simp [World.setCell, Array.getElem?_modify, h]
  · exact ⟨cs, (Below.heap_setCell w p u g hp).trans h, hn⟩

theorem Cells.below (h : Cells f m w b off L) (hb : Below B w w') (hB : b < B) : Cells f m w' b off L :=
  fun k x hx j u hu => (hb.cell (p := ⟨b, off + k * m + j, none⟩) hB).trans (h k x hx j u hu)
theorem Cells.take (h : Cells f m w b off L) (i : Nat) : Cells f m w b off (L.take i) := fun k x hx j u hu =>
  h k x (by rw [List.getElem?_take] at hx; split at hx; exact hx; cases hx) j u hu
/-- A store elsewhere. -/
theorem Cells.set (h : Cells f m w b off L) {p : Addr} {u : Value} (hp : ∀ k x j v, L[k]? = some x → (f x)[j]? = some v → (⟨b, off + k * m + j, none⟩ : Addr) ≠ p) : Cells f m (w.setCell p u) b off L :=
  fun k x hx j v hv => (World.cell?_setCell_other w p _ u (fun e => hp k x j v hx hv e.symm)).trans (h k x hx j v hv)
theorem Cells.far (h : Cells f m w b off L) {p : Addr} {u : Value} (hp : b ≠ p.block) : Cells f m (w.setCell p u) b off L := h.set fun _ _ _ _ _ _ e => hp (by rw [← e])

theorem SlR.nil : SlR f m w B A ([] : List α) := fun h => absurd rfl h
theorem SlR.below (h : SlR f m w B A L) (hb : Below B w w') : SlR f m w' B A L := fun hn => by
  obtain ⟨b, off, hA, hB, hc⟩ := h hn
  exact ⟨b, off, hA, hB, hc.below hb hB⟩
theorem SlR.mono (h : SlR f m w B A L) (hB : B ≤ B') : SlR f m w B' A L := fun hn => by
  obtain ⟨b, off, hA, hb, hc⟩ := h hn
  exact ⟨b, off, hA, by omega, hc⟩
/-- Behind a callee that only makes new memory, said of the new world. -/
theorem SlR.next (h : SlR f m w w.heap.size A L) (hb : Below w.heap.size w w') : SlR f m w' w'.heap.size A L := (h.below hb).mono hb.size
theorem SlR.alloc (h : SlR f m w w.heap.size A L) (o : Obj) : SlR f m (w.alloc o) (w.alloc o).heap.size A L := h.next ((Below.refl _ _).alloc (Nat.le_refl _) o)
theorem SlR.ne {k : Nat} {x : α} (hx : L[k]? = some x) : L ≠ [] := fun e => by subst e; simp at hx

theorem OwnR.nil : OwnR f m t w B A ([] : List α) := fun h => absurd rfl h
theorem OwnR.sl (h : OwnR f m t w B A L) : SlR f m w w.heap.size A L := fun hn => by
  obtain ⟨g, hA, _, hr, hc⟩ := h hn
  exact ⟨g, 0, hA, hr.lt, hc⟩
theorem OwnR.mono (h : OwnR f m t w B A L) (hB : B' ≤ B) : OwnR f m t w B' A L := fun hn => by
  obtain ⟨g, hA, hg, hr, hc⟩ := h hn
  exact ⟨g, hA, by omega, hr, hc⟩
theorem OwnR.next (h : OwnR f m t w B A L) (hb : Below w.heap.size w w') : OwnR f m t w' B A L := fun hn => by
  obtain ⟨g, hA, hg, hr, hc⟩ := h hn
  exact ⟨g, hA, hg, hr.below' hb, hc.below hb hr.lt⟩
end

section
variable {α : Type} {f : α → List Value} {m : Nat} {w w' : World} {B b off n g k p : Nat} {L : List α} {t : TypeId} {x : α} {vs : List Value}
theorem Row.sets (b : Nat) : ∀ (vs : List Value) (p : Nat) {w : World}, Row w g t n → Row (w.setCells b p vs) g t n
  | [], _, _, h => h
  | v :: vs, p, _, h => Row.sets b vs (p + 1) (h.set ⟨b, p, none⟩ v)
theorem below_sets (hB : B ≤ g) : ∀ (vs : List Value) (p : Nat) {w0 w : World}, Below B w0 w → Below B w0 (w.setCells g p vs)
  | [], _, _, _, h => h
  | v :: vs, p, _, _, h => below_sets hB vs (p + 1) (h.setCell (p := ⟨g, p, none⟩) hB v)
theorem Cells.farSets (h : Cells f m w b off L) (hne : b ≠ g) (vs : List Value) (p : Nat) : Cells f m (w.setCells g p vs) b off L :=
  fun k x hx j u hu => (World.cell?_setCells_out g vs p w ⟨b, off + k * m + j, none⟩ (fun e _ => absurd e hne)).trans (h k x hx j u hu)
/-- The k-th element is stored into the row. -/
theorem cells_store (hr : Row w g t n) (h : Cells f m w g 0 (L.take k)) (hf : ∀ x, (f x).length = m) (hx : L[k]? = some x) (hn : k * m + m ≤ n) : Cells f m (w.setCells g (k * m) (f x)) g 0 (L.take (k + 1)) := by
  intro i y hy j u hu
  have hj : j < m := by rw [← hf y]; exact (List.getElem?_eq_some_iff.1 hu).1
  rw [List.getElem?_take] at hy
  split at hy
  case isFalse => cases hy
  rename_i hi
  by_cases hik : i = k
  · subst hik
    rw [hx] at hy
    cases hy
    have := World.cell?_setCells_in g (f x) (i * m) w (fun j hj => by
      obtain ⟨v, hv⟩ := hr.cell (j := i * m + j) (by rw [hf x] at hj; omega)
      rw [hv]; rfl) j (by rw [hf x]; exact hj)
    rw [Nat.zero_add, this]
    rw [List.getElem?_eq_getElem (by rw [hf x]; exact hj)] at hu
    exact hu
  · have hlt : i < k := by omega
    have hmul : (i + 1) * m ≤ k * m := Nat.mul_le_mul_right m (by omega)
    rw [Nat.add_mul, Nat.one_mul] at hmul
    rw [World.cell?_setCells_out g (f x) (k * m) w _ (fun _ _ => .inl (by show 0 + i * m + j < k * m; omega))]
    exact h i y (by rw [List.getElem?_take, if_pos hlt]; exact hy) j u hu
theorem row_of_own {e : TypeId} {cap : Nat} {xs : List Value} (h : w.ownsRow B e m (.slice (some ⟨g, 0, none⟩) n cap) n xs) : Row w g e (n * m) := by
  obtain ⟨_, h | ⟨g', cap', cur, hv, _, hh, hn, _, hs, _⟩⟩ := h
  · cases h.1
  · simp only [Value.slice.injEq, Option.some.injEq, Addr.mk.injEq, and_true, true_and] at hv
    obtain ⟨rfl, rfl⟩ := hv
    exact ⟨cur, hh, by rw [hs]; exact Nat.mul_le_mul_right m hn⟩
theorem below_grown {row : Option Nat} (hg : w.grownBy w' row) (hr : ∀ k, row = some k → w.heap.size ≤ k) : Below w.heap.size w w' := (Below.refl _ _).grown hg (Nat.le_refl _) hr
end

/-- A callee that hands back a new slice. -/
def NewSl {α : Type} (f : α → List Value) (m : Nat) (t : TypeId) (w : World) (L : List α) (e : Ending) (w' : World) : Prop :=
  ∃ A c, e = .returned (.slice A L.length c) ∧ OwnR f m t w' w.heap.size A L ∧ Below w.heap.size w w'

/-! ### elements of one to five ints -/
def f1 (x : Int) : List Value := [.int .i64 x]
def f2 (x : Int × Int) : List Value := [.int .i64 x.1, .int .i64 x.2]
def f3 (x : Int × Int × Int) : List Value := [.int .i64 x.1, .int .i64 x.2.1, .int .i64 x.2.2]
def f5 (x : Int × Int × Int × Int × Int) : List Value := [.int .i64 x.1, .int .i64 x.2.1, .int .i64 x.2.2.1, .int .i64 x.2.2.2.1, .int .i64 x.2.2.2.2]
section
variable {w : World} {b off k : Nat}
theorem cells1 {L : List Int} {x : Int} (h : Cells f1 1 w b off L) (hx : L[k]? = some x) : w.cell? ⟨b, off + k, none⟩ = some (.int .i64 x) := by
  simpa using h k x hx 0 _ rfl
theorem cells2 {L : List (Int × Int)} {x : Int × Int} (h : Cells f2 2 w b off L) (hx : L[k]? = some x) :
    w.cell? ⟨b, off + k * 2, none⟩ = some (.int .i64 x.1) ∧ w.cell? ⟨b, off + k * 2 + 1, none⟩ = some (.int .i64 x.2) :=
  ⟨by simpa using h k x hx 0 _ rfl, h k x hx 1 _ rfl⟩
theorem cells3 {L : List (Int × Int × Int)} {x : Int × Int × Int} (h : Cells f3 3 w b off L) (hx : L[k]? = some x) :
    w.cell? ⟨b, off + k * 3, none⟩ = some (.int .i64 x.1) ∧ w.cell? ⟨b, off + k * 3 + 1, none⟩ = some (.int .i64 x.2.1) ∧ w.cell? ⟨b, off + k * 3 + 2, none⟩ = some (.int .i64 x.2.2) :=
  ⟨by simpa using h k x hx 0 _ rfl, h k x hx 1 _ rfl, h k x hx 2 _ rfl⟩
theorem cells5 {L : List (Int × Int × Int × Int × Int)} {x : Int × Int × Int × Int × Int} (h : Cells f5 5 w b off L) (hx : L[k]? = some x) :
    w.cell? ⟨b, off + k * 5, none⟩ = some (.int .i64 x.1) ∧ w.cell? ⟨b, off + k * 5 + 1, none⟩ = some (.int .i64 x.2.1) ∧ w.cell? ⟨b, off + k * 5 + 2, none⟩ = some (.int .i64 x.2.2.1) ∧
      w.cell? ⟨b, off + k * 5 + 3, none⟩ = some (.int .i64 x.2.2.2.1) ∧ w.cell? ⟨b, off + k * 5 + 4, none⟩ = some (.int .i64 x.2.2.2.2) :=
  ⟨by simpa using h k x hx 0 _ rfl, h k x hx 1 _ rfl, h k x hx 2 _ rfl, h k x hx 3 _ rfl, h k x hx 4 _ rfl⟩
end

/-- Two lists are the same. -/
def eqL {α : Type} [DecidableEq α] (a b : List α) : Bool := decide (a = b)
theorem eqL_refl {α : Type} [DecidableEq α] (a : List α) : eqL a a = true := by simp [eqL]
theorem eqL_true {α : Type} [DecidableEq α] {a b : List α} (h : ∀ k : Nat, a[k]? = b[k]?) : eqL a b = true := by
  rw [eqL, decide_eq_true_eq]; exact List.ext_getElem? h
theorem eqL_false {α : Type} [DecidableEq α] {a b : List α} (k : Nat) (h : a[k]? ≠ b[k]?) : eqL a b = false := by
  rw [eqL, decide_eq_false_iff_not]; exact fun e => h (by rw [e])
theorem eqL_len {α : Type} [DecidableEq α] {a b : List α} (h : a.length ≠ b.length) : eqL a b = false := by
  rw [eqL, decide_eq_false_iff_not]; exact fun e => h (by rw [e])

/-- Equality of two elements. -/
def eqT {α : Type} [DecidableEq α] (a b : α) : Bool := decide (a = b)
theorem eqT_refl {α : Type} [DecidableEq α] (a : α) : eqT a a = true := by simp [eqT]
theorem eqT_eq {α : Type} [DecidableEq α] {a b : α} (h : eqT a b = true) : a = b := of_decide_eq_true h

/-- What the laws' size counters hand back. -/
def szV (left : Int) (n : Nat) : Int := if left - n < 0 then -1 else left - n

/-- Only the slice's own block has turned. -/
structure Only (A : Option Addr) (w w' : World) : Prop where
  os : w'.os = w.os
  tape : w'.tape = w.tape
  output : w'.output = w.output
  size : w'.heap.size = w.heap.size
  block : ∀ k, (∀ a, A = some a → k ≠ a.block) → w'.heap[k]? = w.heap[k]?
theorem Only.refl (A : Option Addr) (w : World) : Only A w w := ⟨rfl, rfl, rfl, rfl, fun _ _ => rfl⟩
theorem Only.sets {g off : Nat} {w0 : World} (vs : List Value) : ∀ {w : World}, Only (some ⟨g, off, none⟩) w0 w → ∀ (p : Nat), Only (some ⟨g, off, none⟩) w0 (w.setCells g p vs) := by
  induction vs with
  | nil => intro w h p; exact h
  | cons v vs ih =>
    intro w h p
    show Only _ w0 ((w.setCell ⟨g, p, none⟩ v).setCells g (p + 1) vs)
    have h1 : Only (some ⟨g, off, none⟩) w0 (w.setCell ⟨g, p, none⟩ v) := ⟨h.os, h.tape, h.output, by simpa [World.setCell] using h.size, fun k hk => (Below.heap_setCell w ⟨g, p, none⟩ v k (hk ⟨g, off, none⟩ rfl)).trans (h.block k hk)⟩
    exact ih h1 (p + 1)
theorem Only.below {A : Option Addr} {w w' : World} {B : Nat} (h : Only A w w') (hB : ∀ a, A = some a → B ≤ a.block) : Below B w w' :=
  ⟨h.os, h.tape, h.output, by rw [h.size]; exact Nat.le_refl _, fun k hk => h.block k fun a ha => by have := hB a ha; omega⟩
section
variable {α : Type} {f : α → List Value} {m : Nat} {w w' : World} {B B' : Nat} {A A' : Option Addr} {L L' : List α} {t : TypeId}
/-- A slice in another block reads as it did. -/
theorem SlR.only (h : SlR f m w B A L) (ho : Only A' w w') (hne : ∀ a a', A = some a → A' = some a' → a.block ≠ a'.block) : SlR f m w' B A L := fun hn => by
  obtain ⟨b, off, hA, hB, hc⟩ := h hn
  refine ⟨b, off, hA, hB, fun k x hx j u hu => ?_⟩
  exact (World.cell?_of_block (a := ⟨b, off + k * m + j, none⟩) (ho.block b fun a' ha' => hne _ a' hA ha')).trans (hc k x hx j u hu)
theorem OwnR.only (h : OwnR f m t w B A L) (ho : Only A' w w') (hne : ∀ a a', A = some a → A' = some a' → a.block ≠ a'.block) : OwnR f m t w' B A L := fun hn => by
  obtain ⟨g, hA, hg, ⟨cs, hr, hcs⟩, hc⟩ := h hn
  have hb : w'.heap[g]? = w.heap[g]? := ho.block g fun a' ha' => hne _ a' hA ha'
  exact ⟨g, hA, hg, ⟨cs, hb.trans hr, hcs⟩, fun k x hx j u hu => (World.cell?_of_block (a := ⟨g, 0 + k * m + j, none⟩) hb).trans (hc k x hx j u hu)⟩
end
/-! ### the marks that the laws write -/
def marks1 (k0 : Int) (n : Nat) : List Int := (List.range n).map fun (i : Nat) => k0 + (i : Int)
theorem marks1_len (k0 : Int) (n : Nat) : (marks1 k0 n).length = n := by simp [marks1]
theorem marks1_get (k0 : Int) {n k : Nat} (h : k < n) : (marks1 k0 n)[k]? = some (k0 + (k : Int)) := by simp [marks1, h]
def marks2 (k0 : Int) (n : Nat) : List (Int × Int) := (List.range n).map fun (i : Nat) => (k0 + 2 * (i : Int), k0 + 2 * (i : Int) + 1)
theorem marks2_len (k0 : Int) (n : Nat) : (marks2 k0 n).length = n := by simp [marks2]
theorem marks2_get (k0 : Int) {n k : Nat} (h : k < n) : (marks2 k0 n)[k]? = some (k0 + 2 * (k : Int), k0 + 2 * (k : Int) + 1) := by simp [marks2, h]
def marks3 (k0 : Int) (n : Nat) : List (Int × Int × Int) := (List.range n).map fun (i : Nat) => (k0 + 3 * (i : Int), k0 + 3 * (i : Int) + 1, k0 + 3 * (i : Int) + 1 + 1)
theorem marks3_len (k0 : Int) (n : Nat) : (marks3 k0 n).length = n := by simp [marks3]
theorem marks3_get (k0 : Int) {n k : Nat} (h : k < n) : (marks3 k0 n)[k]? = some (k0 + 3 * (k : Int), k0 + 3 * (k : Int) + 1, k0 + 3 * (k : Int) + 1 + 1) := by simp [marks3, h]
def marks5 (k0 : Int) (n : Nat) : List (Int × Int × Int × Int × Int) := (List.range n).map fun (i : Nat) => (k0 + 5 * (i : Int), k0 + 5 * (i : Int) + 1, k0 + 5 * (i : Int) + 1 + 1, k0 + 5 * (i : Int) + 1 + 1 + 1, k0 + 5 * (i : Int) + 1 + 1 + 1 + 1)
theorem marks5_len (k0 : Int) (n : Nat) : (marks5 k0 n).length = n := by simp [marks5]
theorem marks5_get (k0 : Int) {n k : Nat} (h : k < n) : (marks5 k0 n)[k]? = some (k0 + 5 * (k : Int), k0 + 5 * (k : Int) + 1, k0 + 5 * (k : Int) + 1 + 1, k0 + 5 * (k : Int) + 1 + 1 + 1, k0 + 5 * (k : Int) + 1 + 1 + 1 + 1) := by simp [marks5, h]
end Go.Proofs.YtapfnelghmnajaaDoor
