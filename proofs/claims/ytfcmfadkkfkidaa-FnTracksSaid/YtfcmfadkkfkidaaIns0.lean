/-
  An element is laid into a row; copy of elements of several cells each.
-/
import Derived.Test.YtfcmfadkkfkidaaClnTrip
import Derived.Test.YtfcmfadkkfkidaaPut
import Derived.Laws.IdiomCopy
import Derived.WalkKit
import Derived.WalkSpells
import Derived.WalkLawsBesides
import Derived.Lib.Hide
import Derived.Deep.QuietTactic
import Derived.BigQuiet
import Derived.StillTailTactics
namespace Go.Proofs.Ytfcmfadkkfkidaa
open Go.RowKit

theorem run_copy_cellsM {P : Program} (w : World) (dT sT ty elem : TypeId) (m b o dLen dCap : Nat) (a : Addr) (sLen sCap : Nat) (cs : List Value)
    (hu : P.underlying dT = some (.slice elem)) (hs : (P.info? elem).map (·.size) = some m) (hn : cs.length = Nat.min sLen dLen * m)
    (hsrc : ∀ j v, cs[j]? = some v → w.cell? (a.add j) = some v) (hc : ∀ j, j < cs.length → (w.cell? ⟨b, o + j, none⟩).isSome = true) (hf : ∀ j, j < cs.length → w.frozen? ⟨b, o + j, none⟩ = false) (h1 : ∀ v ∈ cs, v.oneCell' = true) :
    (Builtin.copy_ #[dT, sT] ty #[.slice (some ⟨b, o, none⟩) dLen dCap, .slice (some a) sLen sCap]).run P w = .ok (goInt (Nat.min sLen dLen : Nat)) (w.setCells b o cs) := by
  have hl := run_loadCells_list (P := P) w a cs hsrc
  have hst := run_storeCells_cells (P := P) b o cs 0 w (by simpa using hc) (by simpa using hf) h1
  cases hq : P.info? elem with
  | none => simp [hq] at hs
  | some i =>
    have hi : i.size = m := by simpa [hq] using hs
    simp [Builtin.copy_, run_underlying hu, Builtin.lenOf, Builtin.firstCells, sizeOf, typeInfo, hq, hi, ← hn, hl, hst]

section
variable {α : Type} {f : α → List Value} {m : Nat} {W W' : World} {g n i : Nat} {L : List α} {t : TypeId} {x : α}
/-- The list with an element laid in at place i. -/
def insL (L : List α) (i : Nat) (x : α) : List α := L.take i ++ [x] ++ L.drop i
theorem insL_len (hi : i ≤ L.length) : (insL L i x).length = L.length + 1 := by
  unfold insL
  rw [List.length_append, List.length_append, List.length_take, List.length_drop, List.length_singleton]; omega
theorem insL_get (hi : i ≤ L.length) (k : Nat) : (insL L i x)[k]? = if k < i then L[k]? else if k = i then some x else L[k - 1]? := by
  unfold insL
  have h1 : (L.take i).length = i := by rw [List.length_take]; omega
  by_cases hk : k < i
  · rw [if_pos hk, List.append_assoc, List.getElem?_append_left (by omega), List.getElem?_take, if_pos hk]
  · rw [if_neg hk, List.append_assoc, List.getElem?_append_right (by omega), h1]
    by_cases hk2 : k = i
    · rw [if_pos hk2, hk2]; simp
    · rw [if_neg hk2]
      obtain ⟨q, rfl⟩ : ∃ q, k = i + 1 + q := ⟨k - (i + 1), by omega⟩
      rw [show i + 1 + q - i = q + 1 by omega, show i + 1 + q - 1 = i + q by omega]
      simp
theorem insL_mem {y : α} (h : y ∈ insL L i x) : y ∈ L ∨ y = x := by
  unfold insL at h
  rw [List.mem_append, List.mem_append] at h
  rcases h with (h | h) | h
  · exact .inl (List.mem_of_mem_take h)
  · exact .inr (by simpa using h)
  · exact .inl (List.mem_of_mem_drop h)
theorem mem_insL : x ∈ insL L i x := by unfold insL; simp
theorem cells_ins (hf : ∀ x, (f x).length = m) (hi : i ≤ L.length) (h1 : ∀ p, p < i * m → W'.cell? ⟨g, p, none⟩ = W.cell? ⟨g, p, none⟩) (hC : Cells f m W g 0 (L.take i))
    (h2 : ∀ j u, (f x)[j]? = some u → W'.cell? ⟨g, i * m + j, none⟩ = some u) (h3 : ∀ j u, ((L.drop i).flatMap f)[j]? = some u → W'.cell? ⟨g, (i + 1) * m + j, none⟩ = some u) : Cells f m W' g 0 (insL L i x) := by
  intro k y hy j u hu
  have hj : j < m := by rw [← hf y]; exact (List.getElem?_eq_some_iff.1 hu).1
  rw [insL_get hi] at hy
  rw [Nat.zero_add]
  split at hy
  · rename_i hk
    have hmul : (k + 1) * m ≤ i * m := Nat.mul_le_mul_right m hk
    rw [Nat.add_mul, Nat.one_mul] at hmul
    rw [h1 _ (by omega)]
    have := hC k y (by rw [List.getElem?_take, if_pos hk]; exact hy) j u hu
    rwa [Nat.zero_add] at this
  · split at hy
    · rename_i hk1 hk2
      cases hy
      subst hk2
      exact h2 j u hu
    · rename_i hk1 hk2
      obtain ⟨q, rfl⟩ : ∃ q, k = i + 1 + q := ⟨k - (i + 1), by omega⟩
      have e : (i + 1 + q) * m + j = (i + 1) * m + (q * m + j) := by rw [Nat.add_mul (i + 1)]; omega
      rw [e]
      refine h3 _ u ?_
      rw [flatMap_get hf (L.drop i) q j y ?_ hj]
      · exact hu
      · rw [List.getElem?_drop, ← hy, show i + 1 + q - 1 = i + q by omega]
theorem row_some (hr : Row W g t n) {j : Nat} (hj : j < n) : (W.cell? ⟨g, j, none⟩).isSome = true := by
  obtain ⟨v, hv⟩ := hr.cell hj
  rw [hv]; rfl
theorem flat_dlen (hf : ∀ x, (f x).length = m) : ((L.drop i).flatMap f).length = (L.length - i) * m := by rw [flat_len hf, List.length_drop]
theorem fit_ins (hi : i ≤ L.length) (hn : (L.length + 1) * m ≤ n) : (i + 1) * m = i * m + m ∧ (i + 1) * m + (L.length - i) * m ≤ n := by
  refine ⟨by rw [Nat.add_mul, Nat.one_mul], ?_⟩
  rw [← Nat.add_mul, show i + 1 + (L.length - i) = L.length + 1 by omega]; exact hn
theorem cells_insA (hr : Row W g t n) (hC : Cells f m W g 0 (L.take i)) (hf : ∀ x, (f x).length = m) (hi : i ≤ L.length) (hn : (L.length + 1) * m ≤ n) :
    Cells f m ((W.setCells g ((i + 1) * m) ((L.drop i).flatMap f)).setCells g (i * m) (f x)) g 0 (insL L i x) := by
  obtain ⟨e1, e2⟩ := fit_ins (m := m) hi hn
  have hd := flat_dlen (f := f) (m := m) (L := L) (i := i) hf
  have hr1 := Row.sets g ((L.drop i).flatMap f) ((i + 1) * m) hr
  refine cells_ins (W := W) hf hi (fun p hp => ?_) hC (fun j u hu => ?_) (fun j u hu => ?_)
  · rw [World.cell?_setCells_out g _ _ _ _ (fun _ _ => .inl hp), World.cell?_setCells_out g _ _ _ _ (fun _ _ => .inl (by show p < (i + 1) * m; omega))]
  · have hj := (List.getElem?_eq_some_iff.1 hu).1
    rw [World.cell?_setCells_in g (f x) (i * m) _ (fun q hq => row_some hr1 (by rw [hf] at hq; omega)) j hj]
    rw [← hu, List.getElem?_eq_getElem hj]
  · have hj := (List.getElem?_eq_some_iff.1 hu).1
    rw [World.cell?_setCells_out g (f x) _ _ _ (fun _ _ => .inr (by show i * m + (f x).length ≤ (i + 1) * m + j; rw [hf]; omega))]
    rw [World.cell?_setCells_in g _ ((i + 1) * m) W (fun q hq => row_some hr (by rw [hd] at hq; omega)) j hj]
    rw [← hu, List.getElem?_eq_getElem hj]
theorem cells_insB (hr : Row W g t n) (hC : Cells f m W g 0 (L.take i)) (hf : ∀ x, (f x).length = m) (hi : i ≤ L.length) (hn : (L.length + 1) * m ≤ n) :
    Cells f m ((W.setCells g (i * m) (f x)).setCells g ((i + 1) * m) ((L.drop i).flatMap f)) g 0 (insL L i x) := by
  obtain ⟨e1, e2⟩ := fit_ins (m := m) hi hn
  have hd := flat_dlen (f := f) (m := m) (L := L) (i := i) hf
  have hr1 := Row.sets g (f x) (i * m) hr
  refine cells_ins (W := W) hf hi (fun p hp => ?_) hC (fun j u hu => ?_) (fun j u hu => ?_)
  · rw [World.cell?_setCells_out g _ _ _ _ (fun _ _ => .inl (by show p < (i + 1) * m; omega)), World.cell?_setCells_out g _ _ _ _ (fun _ _ => .inl hp)]
  · have hj := (List.getElem?_eq_some_iff.1 hu).1
    rw [World.cell?_setCells_out g _ ((i + 1) * m) _ _ (fun _ _ => .inl (by show i * m + j < (i + 1) * m; rw [hf] at hj; omega))]
    rw [World.cell?_setCells_in g (f x) (i * m) W (fun q hq => row_some hr (by rw [hf] at hq; omega)) j hj]
    rw [← hu, List.getElem?_eq_getElem hj]
  · have hj := (List.getElem?_eq_some_iff.1 hu).1
    rw [World.cell?_setCells_in g _ ((i + 1) * m) _ (fun q hq => row_some hr1 (by rw [hd] at hq; omega)) j hj]
    rw [← hu, List.getElem?_eq_getElem hj]
end
end Go.Proofs.Ytfcmfadkkfkidaa
