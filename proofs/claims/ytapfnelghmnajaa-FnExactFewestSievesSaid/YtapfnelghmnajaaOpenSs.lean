/-
  A law's argument, opened: a slice of structs of one slice of ints.
-/
import Derived.Test.YtapfnelghmnajaaOpenSm
import Derived.Test.YtapfnelghmnajaaSms0
namespace Go.Proofs.Ytapfnelghmnajaa
open Go.ChangeShapes Go.WideShapes Go.ChangeAt Go.RowKit Go.Joins Go.Deep

/-- A slice of samples that reads as T. -/
def SlT (w : World) (B : Nat) (A : Option Addr) (T : List (List Int)) : Prop := ∃ M, smls M = T ∧ SlSm w B A M
theorem SlT.below {w w' : World} {B : Nat} {A : Option Addr} {T : List (List Int)} (h : SlT w B A T) (hb : Below B w w') : SlT w' B A T := by
  obtain ⟨M, h1, h2⟩ := h; exact ⟨M, h1, h2.below hb⟩
theorem SlT.mono {w : World} {B B' : Nat} {A : Option Addr} {T : List (List Int)} (h : SlT w B A T) (hB : B ≤ B') : SlT w B' A T := by
  obtain ⟨M, h1, h2⟩ := h; exact ⟨M, h1, h2.mono hB⟩
theorem SlT.next {w w' : World} {A : Option Addr} {T : List (List Int)} (h : SlT w w.heap.size A T) (hb : Below w.heap.size w w') : SlT w' w'.heap.size A T := (h.below hb).mono hb.size
def InIT (l : List Int) : Prop := (l.length : Int) ≤ 9223372036854775807 ∧ ∀ y ∈ l, InI1 y

section
variable {H : Type} {enc : TypeId × Value → H} {P : Program} {w : World} {base : Nat} {spare : Nat → Bool} {held : Bool}
theorem open_slice_smps {r : Reach} {b0 : Nat} {t e ts ti : TypeId} {f0 : Field} {v : Value} {d : DataW H} {p : List MemPlace} (ht : P.underlying t = some (.slice e)) (hs : P.underlying e = some (.struct #[f0])) (hts : P.underlying ts = some (.slice ti)) (hi : P.underlying ti = some (.int .i64))
    (hC : P.cellsOf ti = 1) (hone : (oneCellFields P #[f0] && P.cellsOf e == 1) = true) (hf : (f0.type == ts) = true)
    (hv : Value.okWide P w r b0 t v) (h : DataW.Trod enc P w base spare held t v d p) :
    ∃ (A : Option Addr) (c : Nat) (T : List (List Int)), v = .slice A T.length c ∧ (T.length : Int) ≤ 9223372036854775807 ∧ (∀ l ∈ T, InIT l) ∧ SlT w w.heap.size A T := by
  simp only [Bool.and_eq_true, beq_iff_eq] at hone hf
  obtain ⟨A, n, c, rfl⟩ := okWide_slice ht hv
  obtain ⟨fuel, hft⟩ := h
  rcases open_slice ht hft with ⟨h0, -⟩ | ⟨a, len, cap, k, nn, D, Pl, hcs, -, hl, hcm, hk, -, hq⟩
  · simp [Value.cells] at h0
    obtain ⟨rfl, rfl, rfl⟩ := h0
    exact ⟨none, 0, [], rfl, by simp, by simp, [], rfl, ⟨fun h => absurd rfl h, by simp⟩⟩
  · simp [Value.cells] at hcs
    obtain ⟨rfl, rfl, rfl⟩ := hcs
    have hnk : n ≤ k := by rw [hk]; split <;> omega
    rw [hone.2] at hq
    have hall : ∀ i, ∃ x : Smp, i < n → w.cell? (a.add (i * 1)) = some (.slice x.1 x.2.2.length x.2.1) ∧ (x.2.2.length : Int) ≤ 9223372036854775807 ∧ (∀ y ∈ x.2.2, InI1 y) ∧ SlR f1 1 w w.heap.size x.1 x.2.2 := by
      intro i
      by_cases hin : i < n
      · obtain ⟨cs', hc, htr⟩ := hq i (by omega)
        obtain ⟨-, -, hat⟩ := World.cells?_some hc
        obtain ⟨y0, n', -, hl1, h0⟩ := trod_struct1 hs htr
        obtain ⟨ho, hk⟩ := hone_of hone.1 0 f0 rfl
        rw [ho, hk, hf] at h0
        obtain ⟨A', c', L, hcs, hn, hI, hr⟩ := cells_ints hts hi hC h0
        have h3 := hat 0 (by omega)
        have h4 : cs'[0]? = some (.slice A' L.length c') := by
          have : ((cs'.drop 0).take 1)[0]? = some (.slice A' L.length c') := by rw [hcs]; rfl
          simpa using this
        rw [h4, Go.Deep.add_add] at h3
        exact ⟨(A', c', L), fun _ => ⟨by simpa using h3, hn, hI, hr⟩⟩
      · exact ⟨(none, 0, []), fun h => absurd h hin⟩
    obtain ⟨V, hV⟩ := Classical.skolem.1 hall
    refine ⟨some a, c, smls (tab n V), by rw [smls_len, tab_len], by rw [smls_len, tab_len]; unfold maxLen at hcm; omega, fun l hl => ?_, tab n V, rfl, fun hn => ?_, tab_mem fun i hi => (hV i hi).2.2.2⟩
    · obtain ⟨x, hx, rfl⟩ := List.mem_map.1 hl
      exact tab_mem (Q := fun x : Smp => InIT x.2.2) (fun i hi => ⟨(hV i hi).2.1, (hV i hi).2.2.1⟩) x hx
    · have hn0 : 0 < n := by
        rcases Nat.eq_zero_or_pos n with e | e
        · subst e; exact absurd rfl hn
        · exact e
      have h0 := (hV 0 hn0).1
      obtain ⟨b, off, spot⟩ := a
      have hs : spot = none := by simpa [Addr.add] using World.cell?_spot h0
      subst hs
      refine ⟨b, off, rfl, by simpa [Addr.add] using World.block_lt_of_cell? w _ h0, fun i x hx j u hu => ?_⟩
      obtain ⟨hi, rfl⟩ := tab_get hx
      have hj : j = 0 := by
        have := (List.getElem?_eq_some_iff.1 hu).1
        simp [fM] at this; omega
      subst hj
      simp [fM] at hu
      subst hu
      have := (hV i hi).1
      rw [add_plain] at this
      simpa using this
end
end Go.Proofs.Ytapfnelghmnajaa
