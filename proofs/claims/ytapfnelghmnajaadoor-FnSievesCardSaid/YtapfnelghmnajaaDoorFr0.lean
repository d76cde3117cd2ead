/-
  Plain mathematics of sieves: the fraction of a grain, how many grains are in each fraction. No program in sight.
-/
import Derived.Test.YtapfnelghmnajaaDoorSlice
import Derived.Test.YtapfnelghmnajaaDoorChain
namespace Go.Proofs.YtapfnelghmnajaaDoor
open Go.RowKit

def smp1 (x : Int) : Bool := inB x 1 500
def smp2 (p x : Int) : Bool := decide (p ≤ x)
/-- Is a list of sizes a sample? -/
def smpB (L : List Int) : Bool := chain smp1 smp2 L && inB L.length 1 20
theorem smpB_bad {L : List Int} (h : chain smp1 smp2 L = false) : smpB L = false := by rw [smpB, h]; rfl
theorem smpB_ok {L : List Int} (h : chain smp1 smp2 L = true) : smpB L = inB L.length 1 20 := by rw [smpB, h]; rfl
theorem smpB_len {L : List Int} (h : smpB L = true) : 1 ≤ L.length ∧ L.length ≤ 20 := by
  rw [smpB, Bool.and_eq_true] at h
  have := inB_iff.1 h.2
  omega
theorem smpB_one {L : List Int} (h : smpB L = true) {k : Nat} {x : Int} (hx : L[k]? = some x) : 1 ≤ x ∧ x ≤ 500 := by
  rw [smpB, Bool.and_eq_true] at h
  have h1 : smp1 x = true := chain_one h.1 hx
  exact inB_iff.1 h1

/-- The fraction of a grain: how many sieves it falls through. -/
def slotOf : List Int → Int → Nat
  | [], _ => 0
  | y :: S, x => if x < y then slotOf S x + 1 else 0
theorem slotOf_le : ∀ (S : List Int) (x : Int), slotOf S x ≤ S.length
  | [], x => Nat.le_refl 0
  | y :: S, x => by
    have := slotOf_le S x
    rw [slotOf]
    split
    · simp; omega
    · simp
theorem slotOf_is : ∀ (S : List Int) (x : Int) (i : Nat), (∀ j y, j < i → S[j]? = some y → x < y) → i ≤ S.length → (∀ y, S[i]? = some y → ¬ x < y) → slotOf S x = i
  | [], x, i, _, hi, _ => by simp at hi; subst hi; rfl
  | y :: S, x, 0, _, _, h => by
    have := h y rfl
    rw [slotOf, if_neg this]
  | y :: S, x, i + 1, h, hi, he => by
    have h0 := h 0 y (by omega) rfl
    rw [slotOf, if_pos h0]
    have := slotOf_is S x i (fun j z hj hz => h (j + 1) z (by omega) (by simpa using hz)) (by simp at hi; omega) (fun z hz => he z (by simpa using hz))
    omega

/-- One more grain at place j. -/
def bumpL (C : List Int) (j : Nat) : List Int := C.set j (C.getD j 0 + 1)
theorem bumpL_len (C : List Int) (j : Nat) : (bumpL C j).length = C.length := by simp [bumpL]
/-- The fractions of the first k grains. -/
def frL (S L : List Int) : Nat → List Int
  | 0 => List.replicate (S.length + 1) 0
  | k + 1 => match L[k]? with
    | none => frL S L k
    | some x => bumpL (frL S L k) (slotOf S x)
theorem frL_succ {S L : List Int} {k : Nat} {x : Int} (hx : L[k]? = some x) : frL S L (k + 1) = bumpL (frL S L k) (slotOf S x) := by rw [frL, hx]
theorem frL_len (S L : List Int) : ∀ k, (frL S L k).length = S.length + 1
  | 0 => by simp [frL]
  | k + 1 => by
    have ih := frL_len S L k
    rw [frL]
    split
    · exact ih
    · rw [bumpL_len]; exact ih
theorem getD_of {C : List Int} {j : Nat} {v : Int} (h : C[j]? = some v) : C.getD j 0 = v := by simp [List.getD_eq_getElem?_getD, h]
theorem bumpL_bd {C : List Int} {j : Nat} {n : Int} (h : ∀ y ∈ C, 0 ≤ y ∧ y ≤ n) (hn : 0 ≤ n) : ∀ y ∈ bumpL C j, 0 ≤ y ∧ y ≤ n + 1 := by
  intro y hy
  rcases List.mem_or_eq_of_mem_set hy with h1 | h1
  · have := h y h1; omega
  · subst h1
    rw [List.getD_eq_getElem?_getD]
    cases hc : C[j]? with
    | none => simp; omega
    | some v =>
      have := h v (List.mem_of_getElem? hc)
      simp; omega
theorem frL_bd (S L : List Int) : ∀ (k : Nat) y, y ∈ frL S L k → 0 ≤ y ∧ y ≤ (k : Int)
  | 0, y, hy => by simp [frL] at hy; omega
  | k + 1, y, hy => by
    have ih := frL_bd S L k
    rw [frL] at hy
    split at hy
    · have := ih y hy; omega
    · have := bumpL_bd (n := (k : Int)) ih (by omega) y hy
      omega
/-- All grains. -/
def frA (S L : List Int) : List Int := frL S L L.length
theorem frA_len (S L : List Int) : (frA S L).length = S.length + 1 := frL_len S L _
theorem frA_bd (S L : List Int) {y : Int} (h : y ∈ frA S L) : 0 ≤ y ∧ y ≤ (L.length : Int) := frL_bd S L _ y h


section
variable {w : World} {g n j : Nat} {t : TypeId} {C : List Int} {v : Int}
/-- One cell of a row of ints is stored. -/
theorem cells_put (h : Cells f1 1 w g 0 C) (hr : Row w g t n) (hj : j < C.length) (hn : C.length ≤ n) : Cells f1 1 (w.setCell ⟨g, j, none⟩ (.int .i64 v)) g 0 (C.set j v) := by
  intro k x hx i u hu
  have hi : i = 0 := by
    have := (List.getElem?_eq_some_iff.1 hu).1
    simp [f1] at this; omega
  subst hi
  simp [f1] at hu
  subst hu
  by_cases e : k = j
  · subst e
    rw [List.getElem?_set_self hj] at hx
    cases hx
    have := World.cell?_setCells_in g (f1 v) k w (fun i hi => by
      obtain ⟨v', hv⟩ := hr.cell (j := k + i) (by simp [f1] at hi; omega)
      rw [hv]; rfl) 0 (by simp [f1])
    simpa [f1, World.setCells] using this
  · rw [List.getElem?_set_ne (Ne.symm e)] at hx
    exact (World.cell?_setCell_other w _ _ _ (fun h => e (by have := congrArg Addr.off h; simp at this; omega))).trans (h k x hx 0 _ rfl)
theorem row_put (hr : Row w g t n) (u : Value) : Row (w.setCell ⟨g, j, none⟩ u) g t n := hr.set _ u
/-- What make leaves: a row of zeros. -/
theorem cells_made {B : Nat} {c : Nat} (h : w.ownsRow B t 1 (.slice (some ⟨g, 0, none⟩) n c) n (madeCells #[.int .i64 0] (n * 1)).toList) : Cells f1 1 w g 0 (List.replicate n 0) := by
  intro k x hx i u hu
  have hi : i = 0 := by
    have := (List.getElem?_eq_some_iff.1 hu).1
    simp [f1] at this; omega
  subst hi
  simp [f1] at hu
  subst hu
  rw [List.getElem?_replicate] at hx
  split at hx
  case isFalse => cases hx
  rename_i hk
  cases hx
  have := World.ownsRow.cells (g := g) h rfl k (.int .i64 0) (by
    rw [Nat.mul_one]
    simp [madeCells, hk, Nat.mod_one])
  rw [Go.WideShapes.add_plain] at this
  simpa using this
end
end Go.Proofs.YtapfnelghmnajaaDoor
