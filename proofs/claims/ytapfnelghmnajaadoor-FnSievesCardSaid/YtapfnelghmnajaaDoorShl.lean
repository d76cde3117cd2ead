/-
  Go's slices.Clone, slices.Delete, slices.Sort and the reference's own copy, at slices of ints, in this claim's words.
-/
import Derived.Test.YtapfnelghmnajaaDoorShelf
import Derived.Test.YtapfnelghmnajaaDoorPred
import Derived.Test.YtapfnelghmnajaaDoorFr0
import Derived.Test.YtapfnelghmnajaaDoorHIntC
import Derived.WalkKit
import Derived.WalkSpells
import Derived.WalkLawsBesides
import Derived.Lib.Hide
import Derived.Deep.QuietTactic
import Derived.BigQuiet
import Derived.StillTailTactics
namespace Go.Proofs.YtapfnelghmnajaaDoor
open Go.RowKit
open Go.Sort (Holds grow putRow putCells mapBlock onCells heap_grow_old)

theorem flat1 (L : List Int) : L.flatMap f1 = L.map (Value.int .i64) := by
  induction L with
  | nil => rfl
  | cons x L ih => rw [List.flatMap_cons, ih]; rfl
theorem sl1_cells {w : World} {b off : Nat} {L : List Int} (h : Cells f1 1 w b off L) : ∀ j, j < L.length → w.cell? ⟨b, off + j, none⟩ = some (.int .i64 (L.getD j 0)) := by
  intro j hj
  have hx : L[j]? = some L[j] := List.getElem?_eq_getElem hj
  rw [getD_of hx]
  exact cells1 h hx
/-- A slice of the call's own that is not nil. -/
theorem Gath.form {t : TypeId} {w : World} {B : Nat} {v : Value} {L : List Int} (h : Gath f1 1 t w B v L) (hv : v ≠ .slice none 0 0) :
    ∃ g c, v = .slice (some ⟨g, 0, none⟩) L.length c ∧ B ≤ g ∧ L.length ≤ c ∧ c ≤ maxLen ∧ Row w g t c ∧ Cells f1 1 w g 0 L := by
  have hcells := fun g hg => World.ownsRow.cells (g := g) h hg
  obtain ⟨h0, ⟨hn, _⟩ | ⟨g, cap, cur, hv', hB, hh, hn, hcm, hs, ht⟩⟩ := h
  · exact absurd hn hv
  · subst hv'
    refine ⟨g, cap, rfl, hB, hn, hcm, ⟨cur, hh, by rw [hs]; omega⟩, fun k x hx j u hu => ?_⟩
    have hj : j < 1 := by rw [show 1 = (f1 x).length from rfl]; exact (List.getElem?_eq_some_iff.1 hu).1
    have := hcells g rfl (k * 1 + j) u (by rw [flatMap_get (m := 1) (fun _ => rfl) L k j x hx hj]; exact hu)
    rw [Go.WideShapes.add_plain] at this
    rw [show 0 + k * 1 + j = 0 + (k * 1 + j) by omega]; exact this

theorem cloneI_any (b off c : Nat) (L : List Int) (w : World) (hr : Cells f1 1 w b off L) (hm : (L.length : Int) ≤ 1048576) :
    Calls Tryd.prog 40 #[.slice (some ⟨b, off, none⟩) L.length c] w fun e w' => ∃ v, e = .returned v ∧ Gath f1 1 3 w' w.heap.size v L ∧ v ≠ .slice none 0 0 ∧ Below w.heap.size w w' := by
  refine (Tryd.slices_Clone_int b off L.length c L w (Nat.le_refl _) (by omega) (sl1_cells hr)).mono fun e w' h => ?_
  obtain ⟨v, he, ho, hv, hb⟩ := h
  exact ⟨v, he, by unfold Gath; rw [flat1]; simpa using ho, hv, hb⟩

def noAt (L : List Int) (k : Nat) : List Int := L.take k ++ L.drop (k + 1)
theorem noAt_len {L : List Int} {k : Nat} (h : k < L.length) : (noAt L k).length = L.length - 1 := by simp [noAt]; omega

theorem cells_setAll {w : World} {g n : Nat} {t : TypeId} (hr : Row w g t n) (L : List Int) (hn : L.length ≤ n) : Cells f1 1 (w.setCells g 0 (L.map (Value.int .i64))) g 0 L := by
  intro k x hx j u hu
  have hj : j = 0 := by
    have := (List.getElem?_eq_some_iff.1 hu).1
    simp [f1] at this; omega
  subst hj
  simp [f1] at hu
  subst hu
  have hk := (List.getElem?_eq_some_iff.1 hx).1
  have := World.cell?_setCells_in g (L.map (Value.int .i64)) 0 w (fun j hj => by
    obtain ⟨v, hv⟩ := hr.cell (j := 0 + j) (by simp at hj; omega)
    rw [hv]; rfl) k (by simpa using hk)
  rw [show 0 + k * 1 + 0 = 0 + k by omega, this]
  simp [(List.getElem?_eq_some_iff.1 hx).2]
theorem Cells.front {w : World} {g off : Nat} {L M : List Int} (h : Cells f1 1 w g off (L ++ M)) : Cells f1 1 w g off L := fun k x hx j u hu =>
  h k x (by rw [List.getElem?_append_left (List.getElem?_eq_some_iff.1 hx).1]; exact hx) j u hu

theorem deleteI_any (g c k : Nat) (L : List Int) (w : World) (hk : k < L.length) (hc : L.length ≤ c) (hcm : c ≤ maxLen) (hR : Row w g 3 c) (hC : Cells f1 1 w g 0 L) :
    Calls Tryd.prog 39 #[.slice (some ⟨g, 0, none⟩) L.length c, .int .i64 k, .int .i64 (k + 1)] w fun e w' => e = .returned (.slice (some ⟨g, 0, none⟩) (noAt L k).length c) ∧ Cells f1 1 w' g 0 (noAt L k) ∧ Below g w w' ∧ g < w'.heap.size := by
  have hC1 : ∀ j, j < L.length → w.cell? ⟨g, 0 + j, none⟩ = some (.int .i64 (L.getD j 0)) := sl1_cells hC
  have hf : ∀ j, j < L.length → w.frozen? ⟨g, 0 + j, none⟩ = false := fun j _ => hR.frozen _
  refine (Tryd.slices_Delete_int_cells g 0 L.length c k (k + 1) L w (Nat.le_refl _) hc (by unfold maxLen at hcm; omega) (by omega) (by omega) hC1 hf).mono fun e w' h => ?_
  obtain ⟨he, q, rfl⟩ := h
  have hl : L.length - (k + 1 - k) = (noAt L k).length := by rw [noAt_len hk]; omega
  rw [hl] at he
  have hR' : Row (w.drewN q) g 3 c := hR
  have e1 : (L.take L.length).take k ++ (L.take L.length).drop (k + 1) ++ List.replicate (k + 1 - k) 0 = noAt L k ++ [0] := by
    rw [List.take_length, show k + 1 - k = 1 by omega]; rfl
  rw [e1]
  have hle : (noAt L k ++ [0]).length ≤ c := by rw [List.length_append, noAt_len hk]; simp; omega
  have hb : Below g w ((w.drewN q).setCells g 0 ((noAt L k ++ [0]).map (Value.int .i64))) := below_sets (Nat.le_refl _) _ _ (below_drewN (Below.refl _ _) q)
  refine ⟨he, (cells_setAll hR' _ hle).front, hb, ?_⟩
  exact (Row.sets g _ 0 hR').lt

/-- The list in ascending order. -/
def sortL (L : List Int) : List Int := L.mergeSort fun x y => decide (x ≤ y)
theorem sortL_len (L : List Int) : (sortL L).length = L.length := by simp [sortL, List.length_mergeSort]

end Go.Proofs.YtapfnelghmnajaaDoor
