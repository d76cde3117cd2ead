/-
  The arguments of the laws, opened: slices of ints and of structs of ints; a struct of five ints.
-/
import Derived.Test.YtapfnelghmnajaaDoorOpen
import Derived.Test.YtapfnelghmnajaaDoorSlice
namespace Go.Proofs.YtapfnelghmnajaaDoor
open Go.ChangeShapes Go.WideShapes Go.ChangeAt Go.RowKit Go.Joins Go.Deep

section
variable {H : Type} {enc : TypeId × Value → H} {P : Program} {w : World} {base : Nat} {spare : Nat → Bool} {held : Bool}

/-- Each cell of an element is an int. -/
def AllInts (enc : TypeId × Value → H) (P : Program) (w : World) (base : Nat) (spare : Nat → Bool) (held : Bool) (e : TypeId) (m : Nat) : Prop :=
  ∀ n cs x, DataW.trod enc P w base spare held n e cs = some x → ∀ j, j < m → ∃ z : Int, cs[j]? = some (.int .i64 z) ∧ InI z

theorem allInts_int {e : TypeId} (he : P.underlying e = some (.int .i64)) : AllInts enc P w base spare held e 1 := by
  intro n cs x h j hj
  obtain ⟨z, rfl, -, hz⟩ := DataW.trod_int he h
  obtain rfl : j = 0 := by omega
  exact ⟨z, rfl, wf_bounds hz⟩

theorem allInts_struct {e ti : TypeId} {fs : Array Field} (he : P.underlying e = some (.struct fs)) (hi : P.underlying ti = some (.int .i64)) (hone : (oneCellFields P fs && P.cellsOf e == fs.size) = true)
    (hf : ∀ f ∈ fs, f.type = ti) : AllInts enc P w base spare held e fs.size := by
  intro n cs x h j hj
  simp only [Bool.and_eq_true, beq_iff_eq] at hone
  obtain ⟨xs, n', -, -, hl, hxl, hat⟩ := DataW.trod_struct he h
  have hfj : fs[j]? = some fs[j] := Array.getElem?_eq_getElem hj
  have hr := hat j _ hfj
  obtain ⟨ho, hk⟩ := hone_of hone.1 j _ hfj
  have hjl : j < cs.length := by omega
  rw [ho, hk, hf _ (Array.getElem_mem hj), List.drop_eq_getElem_cons hjl, List.take_succ_cons, List.take_zero, List.getElem?_eq_getElem (show j < xs.length by omega)] at hr
  obtain ⟨z, hz, -, hw⟩ := DataW.trod_int hi hr
  exact ⟨z, by rw [List.getElem?_eq_getElem hjl]; simpa using hz, wf_bounds hw⟩

theorem open_rows {r : Reach} {b0 : Nat} {t e : TypeId} {m : Nat} {v : Value} {d : DataW H} {p : List MemPlace} (ht : P.underlying t = some (.slice e)) (hC : P.cellsOf e = m) (hm : 0 < m)
    (hel : AllInts enc P w base spare held e m) (hv : Value.okWide P w r b0 t v) (h : DataW.Trod enc P w base spare held t v d p) :
    ∃ (A : Option Addr) (n c : Nat) (V : Nat → Nat → Int), v = .slice A n c ∧ (n : Int) ≤ 9223372036854775807 ∧ (∀ i j, i < n → j < m → InI (V i j)) ∧
      (0 < n → ∃ b off, A = some ⟨b, off, none⟩ ∧ b < w.heap.size ∧ ∀ i, i < n → ∀ j, j < m → w.cell? ⟨b, off + i * m + j, none⟩ = some (.int .i64 (V i j))) := by
  obtain ⟨A, n, c, rfl⟩ := okWide_slice ht hv
  obtain ⟨fuel, hf⟩ := h
  rcases open_slice ht hf with ⟨h0, -⟩ | ⟨a, len, cap, k, nn, D, Pl, hcs, -, hl, hcm, hk, -, hi⟩
  · simp [Value.cells] at h0
    obtain ⟨rfl, rfl, rfl⟩ := h0
    exact ⟨none, 0, 0, fun _ _ => 0, rfl, by omega, fun i j hi => by omega, fun h => by omega⟩
  · simp [Value.cells] at hcs
    obtain ⟨rfl, rfl, rfl⟩ := hcs
    have hnk : n ≤ k := by rw [hk]; split <;> omega
    rw [hC] at hi
    have hall : ∀ i j, ∃ z : Int, i < n → j < m → w.cell? (a.add (i * m + j)) = some (.int .i64 z) ∧ InI z := by
      intro i j
      by_cases hin : i < n
      · by_cases hj : j < m
        · obtain ⟨cs', hc, htr⟩ := hi i (by omega)
          obtain ⟨-, -, hat⟩ := World.cells?_some hc
          obtain ⟨z, hz, hw⟩ := hel _ _ _ htr j hj
          exact ⟨z, fun _ _ => ⟨by rw [← Go.Deep.add_add, hat j hj, hz], hw⟩⟩
        · exact ⟨0, fun _ h => absurd h hj⟩
      · exact ⟨0, fun h => absurd h hin⟩
    have hall2 := fun i => Classical.skolem.1 (hall i)
    obtain ⟨V, hV⟩ := Classical.skolem.1 hall2
    refine ⟨some a, n, c, V, rfl, by unfold maxLen at hcm; omega, fun i j hi hj => (hV i j hi hj).2, fun hn => ?_⟩
    have h0 := (hV 0 0 hn hm).1
    obtain ⟨b, off, spot⟩ := a
    have hs : spot = none := by simpa [Addr.add] using World.cell?_spot h0
    subst hs
    refine ⟨b, off, rfl, by simpa [Addr.add] using World.block_lt_of_cell? w _ h0, fun i hi j hj => ?_⟩
    have := (hV i j hi hj).1
    rw [add_plain, ← Nat.add_assoc] at this; exact this

/-- The list of n elements. -/
def tab {α : Type} (n : Nat) (f : Nat → α) : List α := (List.range n).map f
theorem tab_len {α : Type} (n : Nat) (f : Nat → α) : (tab n f).length = n := by simp [tab]
theorem tab_get {α : Type} {n : Nat} {f : Nat → α} {k : Nat} {x : α} (h : (tab n f)[k]? = some x) : k < n ∧ x = f k := by
  have hk : k < n := by
    rcases Nat.lt_or_ge k n with h1 | h1
    · exact h1
    · rw [List.getElem?_eq_none (by rw [tab_len]; exact h1)] at h; cases h
  refine ⟨hk, ?_⟩
  simp [tab, hk] at h
  exact h.symm
theorem tab_mem {α : Type} {n : Nat} {f : Nat → α} {Q : α → Prop} (h : ∀ i, i < n → Q (f i)) : ∀ x ∈ tab n f, Q x := by
  intro x hx
  simp only [tab, List.mem_map, List.mem_range] at hx
  obtain ⟨i, hi, rfl⟩ := hx
  exact h i hi
theorem slR_of {α : Type} {f : α → List Value} {m n : Nat} {A : Option Addr} {V : Nat → Nat → Int} {g : Nat → α} (hf : ∀ i, f (g i) = (List.range m).map fun j => .int .i64 (V i j))
    (h : 0 < n → ∃ b off, A = some ⟨b, off, none⟩ ∧ b < w.heap.size ∧ ∀ i, i < n → ∀ j, j < m → w.cell? ⟨b, off + i * m + j, none⟩ = some (.int .i64 (V i j))) : SlR f m w w.heap.size A (tab n g) := by
  intro hn
  obtain ⟨b, off, hA, hb, hc⟩ := h (by rcases Nat.eq_zero_or_pos n with e | e; · subst e; exact absurd rfl hn
                                       · exact e)
  refine ⟨b, off, hA, hb, fun k x hx j u hu => ?_⟩
  obtain ⟨hk, rfl⟩ := tab_get hx
  rw [hf k] at hu
  have hj : j < m := by
    rcases Nat.lt_or_ge j m with h1 | h1
    · exact h1
    · rw [List.getElem?_eq_none (by simpa using h1)] at hu; cases hu
  rw [hc k hk j hj]
  simpa [hj] using hu

def InI1 (x : Int) : Prop := InI x
def InI2 (x : Int × Int) : Prop := InI x.1 ∧ InI x.2
def InI3 (x : Int × Int × Int) : Prop := InI x.1 ∧ InI x.2.1 ∧ InI x.2.2
def InI5 (x : Int × Int × Int × Int × Int) : Prop := InI x.1 ∧ InI x.2.1 ∧ InI x.2.2.1 ∧ InI x.2.2.2.1 ∧ InI x.2.2.2.2

theorem open_slice_ints {r : Reach} {b0 : Nat} {t e : TypeId} {v : Value} {d : DataW H} {p : List MemPlace} (ht : P.underlying t = some (.slice e)) (he : P.underlying e = some (.int .i64)) (hC : P.cellsOf e = 1)
    (hv : Value.okWide P w r b0 t v) (h : DataW.Trod enc P w base spare held t v d p) :
    ∃ (A : Option Addr) (c : Nat) (L : List Int), v = .slice A L.length c ∧ (L.length : Int) ≤ 9223372036854775807 ∧ (∀ x ∈ L, InI1 x) ∧ SlR f1 1 w w.heap.size A L := by
  obtain ⟨A, n, c, V, rfl, hn, hI, hc⟩ := open_rows ht hC (by omega) (allInts_int he) hv h
  exact ⟨A, c, tab n fun i => V i 0, by rw [tab_len], by rw [tab_len]; exact hn, tab_mem fun i hi => hI i 0 hi (by omega), slR_of (V := V) (fun i => by simp [f1, List.range_succ]) hc⟩

section
variable {r : Reach} {b0 : Nat} {t e ti : TypeId} {v : Value} {d : DataW H} {p : List MemPlace} {f0 g1 g2 g3 g4 : Field}
theorem open_slice_structs2 (ht : P.underlying t = some (.slice e)) (he : P.underlying e = some (.struct #[f0, g1])) (hi : P.underlying ti = some (.int .i64))
    (hone : (oneCellFields P #[f0, g1] && P.cellsOf e == 2) = true) (hf : (f0.type == ti && g1.type == ti) = true)
    (hv : Value.okWide P w r b0 t v) (h : DataW.Trod enc P w base spare held t v d p) :
    ∃ (A : Option Addr) (c : Nat) (L : List (Int × Int)), v = .slice A L.length c ∧ (L.length : Int) ≤ 9223372036854775807 ∧ (∀ x ∈ L, InI2 x) ∧ SlR f2 2 w w.heap.size A L := by
  have hC : P.cellsOf e = 2 := by simp only [Bool.and_eq_true, beq_iff_eq] at hone; exact hone.2
  simp only [Bool.and_eq_true, beq_iff_eq] at hf
  obtain ⟨A, n, c, V, rfl, hn, hI, hc⟩ := open_rows (m := 2) ht hC (by omega) (allInts_struct (ti := ti) he hi hone (by simp [hf])) hv h
  exact ⟨A, c, tab n fun i => (V i 0, V i 1), by rw [tab_len], by rw [tab_len]; exact hn, tab_mem fun i hi => ⟨hI i 0 hi (by omega), hI i 1 hi (by omega)⟩, slR_of (V := V) (fun i => by simp [f2, List.range_succ]) hc⟩
theorem open_slice_structs3 (ht : P.underlying t = some (.slice e)) (he : P.underlying e = some (.struct #[f0, g1, g2])) (hi : P.underlying ti = some (.int .i64))
    (hone : (oneCellFields P #[f0, g1, g2] && P.cellsOf e == 3) = true) (hf : (f0.type == ti && g1.type == ti && g2.type == ti) = true)
    (hv : Value.okWide P w r b0 t v) (h : DataW.Trod enc P w base spare held t v d p) :
    ∃ (A : Option Addr) (c : Nat) (L : List (Int × Int × Int)), v = .slice A L.length c ∧ (L.length : Int) ≤ 9223372036854775807 ∧ (∀ x ∈ L, InI3 x) ∧ SlR f3 3 w w.heap.size A L := by
  have hC : P.cellsOf e = 3 := by simp only [Bool.and_eq_true, beq_iff_eq] at hone; exact hone.2
  simp only [Bool.and_eq_true, beq_iff_eq] at hf
  obtain ⟨A, n, c, V, rfl, hn, hI, hc⟩ := open_rows (m := 3) ht hC (by omega) (allInts_struct (ti := ti) he hi hone (by simp [hf])) hv h
  exact ⟨A, c, tab n fun i => (V i 0, V i 1, V i 2), by rw [tab_len], by rw [tab_len]; exact hn, tab_mem fun i hi => ⟨hI i 0 hi (by omega), hI i 1 hi (by omega), hI i 2 hi (by omega)⟩, slR_of (V := V) (fun i => by simp [f3, List.range_succ]) hc⟩
theorem open_slice_structs5 (ht : P.underlying t = some (.slice e)) (he : P.underlying e = some (.struct #[f0, g1, g2, g3, g4])) (hi : P.underlying ti = some (.int .i64))
    (hone : (oneCellFields P #[f0, g1, g2, g3, g4] && P.cellsOf e == 5) = true) (hf : (f0.type == ti && g1.type == ti && g2.type == ti && g3.type == ti && g4.type == ti) = true)
    (hv : Value.okWide P w r b0 t v) (h : DataW.Trod enc P w base spare held t v d p) :
    ∃ (A : Option Addr) (c : Nat) (L : List (Int × Int × Int × Int × Int)), v = .slice A L.length c ∧ (L.length : Int) ≤ 9223372036854775807 ∧ (∀ x ∈ L, InI5 x) ∧ SlR f5 5 w w.heap.size A L := by
  have hC : P.cellsOf e = 5 := by simp only [Bool.and_eq_true, beq_iff_eq] at hone; exact hone.2
  simp only [Bool.and_eq_true, beq_iff_eq] at hf
  obtain ⟨A, n, c, V, rfl, hn, hI, hc⟩ := open_rows (m := 5) ht hC (by omega) (allInts_struct (ti := ti) he hi hone (by simp [hf])) hv h
  exact ⟨A, c, tab n fun i => (V i 0, V i 1, V i 2, V i 3, V i 4), by rw [tab_len], by rw [tab_len]; exact hn, tab_mem fun i hi => ⟨hI i 0 hi (by omega), hI i 1 hi (by omega), hI i 2 hi (by omega), hI i 3 hi (by omega), hI i 4 hi (by omega)⟩, slR_of (V := V) (fun i => by simp [f5, List.range_succ]) hc⟩
/-- A struct of five ints, by value. -/
theorem open_struct_ints5 {r : Reach} {b0 : Nat} (hs : P.underlying t = some (.struct #[f0, g1, g2, g3, g4])) (hi : P.underlying ti = some (.int .i64))
    (hone : (oneCellFields P #[f0, g1, g2, g3, g4] && P.cellsOf t == 5) = true) (hf : (f0.type == ti && g1.type == ti && g2.type == ti && g3.type == ti && g4.type == ti) = true)
    (hv : Value.okWide P w r b0 t v) (h : DataW.Trod enc P w base spare held t v d p) :
    ∃ a b c x y : Int, v = .agg #[.int .i64 a, .int .i64 b, .int .i64 c, .int .i64 x, .int .i64 y] ∧ InI a ∧ InI b ∧ InI c ∧ InI x ∧ InI y := by
  have hC : P.cellsOf t = 5 := by simp only [Bool.and_eq_true, beq_iff_eq] at hone; exact hone.2
  simp only [Bool.and_eq_true, beq_iff_eq] at hf
  obtain ⟨cs, rfl, hsz⟩ := okWide_struct hs hv
  obtain ⟨l⟩ := cs
  obtain ⟨fuel, htr⟩ := h
  have hall := allInts_struct (ti := ti) hs hi hone (by simp [hf]) _ _ _ htr
  match l, hsz.trans hC with
  | [c0, c1, c2, c3, c4], _ =>
    obtain ⟨z0, e0, h0⟩ := hall 0 (by simp)
    obtain ⟨z1, e1, h1⟩ := hall 1 (by simp)
    obtain ⟨z2, e2, h2⟩ := hall 2 (by simp)
    obtain ⟨z3, e3, h3⟩ := hall 3 (by simp)
    obtain ⟨z4, e4, h4⟩ := hall 4 (by simp)
    simp [Value.cells] at e0 e1 e2 e3 e4
    subst e0 e1 e2 e3 e4
    exact ⟨_, _, _, _, _, rfl, h0, h1, h2, h3, h4⟩
end
end
end Go.Proofs.YtapfnelghmnajaaDoor
