/-
  The argument of a law over bytes, opened: a slice of bytes.
-/
import Derived.Test.YtapfnelghmnajaaDoorCur
import Derived.Test.YtapfnelghmnajaaDoorOpenSl
namespace Go.Proofs.YtapfnelghmnajaaDoor
open Go.ChangeShapes Go.WideShapes Go.ChangeAt Go.RowKit Go.Joins Go.Deep

def IsByte (n : Int) : Prop := 0 ≤ n ∧ n ≤ 255
theorem wf_byte {n : Int} (h : (Lit.int .u8 n).wf = true) : IsByte n := by
  have h1 : IntKind.u8.min = 0 := rfl
  have h2 : IntKind.u8.max = 255 := rfl
  simp only [Lit.wf, Bool.and_eq_true, decide_eq_true_eq] at h
  exact ⟨by omega, by omega⟩
section
variable {H : Type} {enc : TypeId × Value → H} {P : Program} {w : World} {base : Nat} {spare : Nat → Bool} {held : Bool}

/-- Each cell of an element is a byte. -/
def AllB (enc : TypeId × Value → H) (P : Program) (w : World) (base : Nat) (spare : Nat → Bool) (held : Bool) (e : TypeId) (m : Nat) : Prop :=
  ∀ n cs x, DataW.trod enc P w base spare held n e cs = some x → ∀ j, j < m → ∃ z : Int, cs[j]? = some (.int .u8 z) ∧ IsByte z

theorem allB_byte {e : TypeId} (he : P.underlying e = some (.int .u8)) : AllB enc P w base spare held e 1 := by
  intro n cs x h j hj
  obtain ⟨z, rfl, -, hz⟩ := DataW.trod_int he h
  obtain rfl : j = 0 := by omega
  exact ⟨z, rfl, wf_byte hz⟩

theorem open_brows {r : Reach} {b0 : Nat} {t e : TypeId} {m : Nat} {v : Value} {d : DataW H} {p : List MemPlace} (ht : P.underlying t = some (.slice e)) (hC : P.cellsOf e = m) (hm : 0 < m)
    (hel : AllB enc P w base spare held e m) (hv : Value.okWide P w r b0 t v) (h : DataW.Trod enc P w base spare held t v d p) :
    ∃ (A : Option Addr) (n c : Nat) (V : Nat → Nat → Int), v = .slice A n c ∧ (n : Int) ≤ 9223372036854775807 ∧ (∀ i j, i < n → j < m → IsByte (V i j)) ∧
      (0 < n → ∃ b off, A = some ⟨b, off, none⟩ ∧ b < w.heap.size ∧ ∀ i, i < n → ∀ j, j < m → w.cell? ⟨b, off + i * m + j, none⟩ = some (.int .u8 (V i j))) := by
  obtain ⟨A, n, c, rfl⟩ := okWide_slice ht hv
  obtain ⟨fuel, hf⟩ := h
  rcases open_slice ht hf with ⟨h0, -⟩ | ⟨a, len, cap, k, nn, D, Pl, hcs, -, hl, hcm, hk, -, hi⟩
  · simp [Value.cells] at h0
    obtain ⟨rfl, rfl, rfl⟩ := h0
    exact ⟨none, 0, 0, fun _ _ => 0, rfl, by omega, fun i j hi => by omega, fun h => by omega⟩
  · simp [Value.cells] at hcs
    obtain ⟨rfl, rfl, rfl⟩ := hcs
    have hnk : n ≤ k := by rw [hk]; split <;> omega
    rw [hC] at hi
    have hall : ∀ i j, ∃ z : Int, i < n → j < m → w.cell? (a.add (i * m + j)) = some (.int .u8 z) ∧ IsByte z := by
      intro i j
      by_cases hin : i < n
      · by_cases hj : j < m
        · obtain ⟨cs', hc, htr⟩ := hi i (by omega)
          obtain ⟨-, -, hat⟩ := World.cells?_some hc
          obtain ⟨z, hz, hw⟩ := hel _ _ _ htr j hj
          exact ⟨z, fun _ _ => ⟨by rw [← Go.Deep.add_add, hat j hj, hz], hw⟩⟩
        · exact ⟨0, fun _ h => absurd h hj⟩
      · exact ⟨0, fun h => absurd h hin⟩
    have hall2 := fun i => Classical.skolem.1 (hall i)
    obtain ⟨V, hV⟩ := Classical.skolem.1 hall2
    refine ⟨some a, n, c, V, rfl, by unfold maxLen at hcm; omega, fun i j hi hj => (hV i j hi hj).2, fun hn => ?_⟩
    have h0 := (hV 0 0 hn hm).1
    obtain ⟨b, off, spot⟩ := a
    have hs : spot = none := by simpa [Addr.add] using World.cell?_spot h0
    subst hs
    refine ⟨b, off, rfl, by simpa [Addr.add] using World.block_lt_of_cell? w _ h0, fun i hi j hj => ?_⟩
    have := (hV i j hi hj).1
    rw [add_plain, ← Nat.add_assoc] at this; exact this


theorem open_slice_bytes {r : Reach} {b0 : Nat} {t e : TypeId} {v : Value} {d : DataW H} {p : List MemPlace} (ht : P.underlying t = some (.slice e)) (he : P.underlying e = some (.int .u8)) (hC : P.cellsOf e = 1)
    (hv : Value.okWide P w r b0 t v) (h : DataW.Trod enc P w base spare held t v d p) :
    ∃ (A : Option Addr) (c : Nat) (L : List Int), v = .slice A L.length c ∧ (∀ x ∈ L, 0 ≤ x ∧ x ≤ 255) ∧ SlR fb 1 w w.heap.size A L := by
  obtain ⟨A, n, c, V, rfl, hn, hI, hc⟩ := open_brows ht hC (by omega) (allB_byte he) hv h
  refine ⟨A, c, tab n fun i => V i 0, by rw [tab_len], tab_mem fun i hi => hI i 0 hi (by omega), fun hne => ?_⟩
  obtain ⟨b, off, hA, hb, hcc⟩ := hc (by rcases Nat.eq_zero_or_pos n with e | e; · subst e; exact absurd rfl hne
                                         · exact e)
  refine ⟨b, off, hA, hb, fun k x hx j u hu => ?_⟩
  obtain ⟨hk, rfl⟩ := tab_get hx
  have hj : j = 0 := by
    have := (List.getElem?_eq_some_iff.1 hu).1
    simp [fb] at this; omega
  subst hj
  simp [fb] at hu
  subst hu
  exact hcc k hk 0 (by omega)
end
end Go.Proofs.YtapfnelghmnajaaDoor
