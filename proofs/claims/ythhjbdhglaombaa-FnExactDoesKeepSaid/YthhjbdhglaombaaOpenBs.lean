/-
  The arguments of the laws, opened: a slice of structs of an int and a struct of two ints.
-/
import Derived.Test.YthhjbdhglaombaaOpenSl
namespace Go.Proofs.Ythhjbdhglaombaa
open Go.ChangeShapes Go.WideShapes Go.ChangeAt Go.RowKit Go.Joins Go.Deep

section
variable {H : Type} {enc : TypeId × Value → H} {P : Program} {w : World} {base : Nat} {spare : Nat → Bool} {held : Bool}

theorem allInts_nested {e tb ti : TypeId} {f0 f1 g0 g1 : Field} (he : P.underlying e = some (.struct #[f0, f1])) (hb : P.underlying tb = some (.struct #[g0, g1])) (hi : P.underlying ti = some (.int .i64))
    (hone : (oneCellFields P #[g0, g1] && P.cellsOf tb == 2 && g0.type == ti && g1.type == ti && f0.offset == 0 && P.cellsOf f0.type == 1 && f0.type == ti && f1.offset == 1 && f1.type == tb && P.cellsOf e == 3) = true) :
    AllInts enc P w base spare held e 3 := by
  simp only [Bool.and_eq_true, beq_iff_eq] at hone
  obtain ⟨⟨⟨⟨⟨⟨⟨⟨⟨o1, o2⟩, o3⟩, o4⟩, o5⟩, o6⟩, o7⟩, o8⟩, o9⟩, o10⟩ := hone
  intro n cs x h j hj
  obtain ⟨y0, y1, n', -, hl, h0, h1⟩ := trod_struct2 he h
  rw [o5, o6, o7] at h0
  rw [o8, o9, o2] at h1
  rw [o10] at hl
  have hall := allInts_struct (enc := enc) (w := w) (base := base) (spare := spare) (held := held) (ti := ti) hb hi (by simp only [Bool.and_eq_true, beq_iff_eq]; exact ⟨o1, o2⟩) (by simp [o3, o4]) _ _ _ h1
  match cs, hl with
  | [c0, c1, c2], _ =>
    obtain ⟨z0, e0, -, w0⟩ := DataW.trod_int hi h0
    obtain ⟨z1, e1, w1⟩ := hall 0 (by simp)
    obtain ⟨z2, e2, w2⟩ := hall 1 (by simp)
    simp at e0 e1 e2
    match j, hj with
    | 0, _ => exact ⟨z0, by simp [e0], wf_bounds w0⟩
    | 1, _ => exact ⟨z1, by simp [e1], w1⟩
    | 2, _ => exact ⟨z2, by simp [e2], w2⟩
theorem open_slice_nested {r : Reach} {b0 : Nat} {t e tb ti : TypeId} {v : Value} {d : DataW H} {p : List MemPlace} {f0 f1 g0 g1 : Field} (ht : P.underlying t = some (.slice e)) (he : P.underlying e = some (.struct #[f0, f1])) (hb : P.underlying tb = some (.struct #[g0, g1])) (hi : P.underlying ti = some (.int .i64))
    (hone : (oneCellFields P #[g0, g1] && P.cellsOf tb == 2 && g0.type == ti && g1.type == ti && f0.offset == 0 && P.cellsOf f0.type == 1 && f0.type == ti && f1.offset == 1 && f1.type == tb && P.cellsOf e == 3) = true)
    (hv : Value.okWide P w r b0 t v) (h : DataW.Trod enc P w base spare held t v d p) :
    ∃ (A : Option Addr) (c : Nat) (L : List (Int × Int × Int)), v = .slice A L.length c ∧ (L.length : Int) ≤ 9223372036854775807 ∧ (∀ x ∈ L, InI3 x) ∧ SlR f3 3 w w.heap.size A L := by
  have hC : P.cellsOf e = 3 := by simp only [Bool.and_eq_true, beq_iff_eq] at hone; exact hone.2
  obtain ⟨A, n, c, V, rfl, hn, hI, hc⟩ := open_rows (m := 3) ht hC (by omega) (allInts_nested he hb hi hone) hv h
  exact ⟨A, c, tab n fun i => (V i 0, V i 1, V i 2), by rw [tab_len], by rw [tab_len]; exact hn, tab_mem fun i hi => ⟨hI i 0 hi (by omega), hI i 1 hi (by omega), hI i 2 hi (by omega)⟩, slR_of (V := V) (fun i => by simp [f3, List.range_succ]) hc⟩
end
end Go.Proofs.Ythhjbdhglaombaa
