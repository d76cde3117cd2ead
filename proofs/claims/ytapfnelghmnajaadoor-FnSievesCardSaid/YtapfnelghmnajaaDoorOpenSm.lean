/-
  The arguments of the laws, opened: a struct of one slice of ints; a slice of such structs; a struct of an int and a struct of two ints.
-/
import Derived.Test.YtapfnelghmnajaaDoorOpenSl
namespace Go.Proofs.YtapfnelghmnajaaDoor
open Go.ChangeShapes Go.WideShapes Go.ChangeAt Go.RowKit Go.Joins Go.Deep

section
variable {H : Type} {enc : TypeId × Value → H} {P : Program} {w : World} {base : Nat} {spare : Nat → Bool} {held : Bool}

/-- A slice's cell, opened at each cell of each element. -/
theorem cells_rows {t e : TypeId} {m fuel : Nat} {cs : List Value} {x : DataW H × List MemPlace} (ht : P.underlying t = some (.slice e)) (hC : P.cellsOf e = m) (hm : 0 < m)
    (hel : AllInts enc P w base spare held e m) (hf : DataW.trod enc P w base spare held fuel t cs = some x) :
    ∃ (A : Option Addr) (n c : Nat) (V : Nat → Nat → Int), cs = [.slice A n c] ∧ (n : Int) ≤ 9223372036854775807 ∧ (∀ i j, i < n → j < m → InI (V i j)) ∧
      (0 < n → ∃ b off, A = some ⟨b, off, none⟩ ∧ b < w.heap.size ∧ ∀ i, i < n → ∀ j, j < m → w.cell? ⟨b, off + i * m + j, none⟩ = some (.int .i64 (V i j))) := by
  rcases open_slice ht hf with ⟨h0, -⟩ | ⟨a, len, cap, k, nn, D, Pl, hcs, -, hl, hcm, hk, -, hi⟩
  · exact ⟨none, 0, 0, fun _ _ => 0, h0, by omega, fun i j hi => by omega, fun h => by omega⟩
  · have hnk : len ≤ k := by rw [hk]; split <;> omega
    rw [hC] at hi
    have hall : ∀ i j, ∃ z : Int, i < len → j < m → w.cell? (a.add (i * m + j)) = some (.int .i64 z) ∧ InI z := by
      intro i j
      by_cases hin : i < len
      · by_cases hj : j < m
        · obtain ⟨cs', hc, htr⟩ := hi i (by omega)
          obtain ⟨-, -, hat⟩ := World.cells?_some hc
          obtain ⟨z, hz, hw⟩ := hel _ _ _ htr j hj
          exact ⟨z, fun _ _ => ⟨by rw [← Go.Deep.add_add, hat j hj, hz], hw⟩⟩
        · exact ⟨0, fun _ h => absurd h hj⟩
      · exact ⟨0, fun h => absurd h hin⟩
    have hall2 := fun i => Classical.skolem.1 (hall i)
    obtain ⟨V, hV⟩ := Classical.skolem.1 hall2
    refine ⟨some a, len, cap, V, hcs, by unfold maxLen at hcm; omega, fun i j hi hj => (hV i j hi hj).2, fun hn => ?_⟩
    have h0 := (hV 0 0 hn hm).1
    obtain ⟨b, off, spot⟩ := a
    have hs : spot = none := by simpa [Addr.add] using World.cell?_spot h0
    subst hs
    refine ⟨b, off, rfl, by simpa [Addr.add] using World.block_lt_of_cell? w _ h0, fun i hi j hj => ?_⟩
    have := (hV i j hi hj).1
    rw [add_plain, ← Nat.add_assoc] at this; exact this

theorem cells_ints {t e : TypeId} {fuel : Nat} {cs : List Value} {x : DataW H × List MemPlace} (ht : P.underlying t = some (.slice e)) (he : P.underlying e = some (.int .i64)) (hC : P.cellsOf e = 1)
    (hf : DataW.trod enc P w base spare held fuel t cs = some x) :
    ∃ (A : Option Addr) (c : Nat) (L : List Int), cs = [.slice A L.length c] ∧ (L.length : Int) ≤ 9223372036854775807 ∧ (∀ x ∈ L, InI1 x) ∧ SlR f1 1 w w.heap.size A L := by
  obtain ⟨A, n, c, V, rfl, hn, hI, hc⟩ := cells_rows ht hC (by omega) (allInts_int he) hf
  exact ⟨A, c, tab n fun i => V i 0, by rw [tab_len], by rw [tab_len]; exact hn, tab_mem fun i hi => hI i 0 hi (by omega), slR_of (V := V) (fun i => by simp [f1, List.range_succ]) hc⟩

/-- A struct of one slice of ints, by value. -/
theorem open_struct_slice {r : Reach} {b0 : Nat} {t ts e : TypeId} {f0 : Field} {v : Value} {d : DataW H} {p : List MemPlace} (hs : P.underlying t = some (.struct #[f0])) (ht : P.underlying ts = some (.slice e)) (he : P.underlying e = some (.int .i64))
    (hC : P.cellsOf e = 1) (hone : (oneCellFields P #[f0] && P.cellsOf t == 1) = true) (hf : (f0.type == ts) = true)
    (hv : Value.okWide P w r b0 t v) (h : DataW.Trod enc P w base spare held t v d p) :
    ∃ (A : Option Addr) (c : Nat) (L : List Int), v = .agg #[.slice A L.length c] ∧ (L.length : Int) ≤ 9223372036854775807 ∧ (∀ x ∈ L, InI1 x) ∧ SlR f1 1 w w.heap.size A L := by
  simp only [Bool.and_eq_true, beq_iff_eq] at hone hf
  obtain ⟨cs, rfl, hsz⟩ := okWide_struct hs hv
  obtain ⟨l⟩ := cs
  obtain ⟨fuel, htr⟩ := h
  obtain ⟨y0, n, -, -, h0⟩ := trod_struct1 hs htr
  obtain ⟨ho, hk⟩ := hone_of hone.1 0 f0 rfl
  rw [ho, hk, hf] at h0
  match l, hsz.trans hone.2 with
  | [c0], _ =>
    obtain ⟨A, c, L, hc, hn, hI, hr⟩ := cells_ints ht he hC h0
    simp [Value.cells] at hc
    subst hc
    exact ⟨A, c, L, rfl, hn, hI, hr⟩
end
end Go.Proofs.YtapfnelghmnajaaDoor
