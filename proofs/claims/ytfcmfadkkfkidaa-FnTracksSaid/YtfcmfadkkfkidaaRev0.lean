/-
  ReverseTrip, in plain words.
-/
import Derived.Test.YtfcmfadkkfkidaaFirst0
namespace Go.Proofs.Ytfcmfadkkfkidaa
open Go.RowKit

/-- The trip the other way. -/
def revT (t : T5) : T5 := (t.1, t.2.2.1, t.2.1, t.2.2.2.1, t.2.2.2.2)
def rvO (L : List T5) (id : Int) : Option (List T5) := if tripsB L && decide (0 ≤ atT L id) then (match L[(atT L id).toNat]? with | some x => if metB L (revT x) then none else some (L.set (atT L id).toNat (revT x)) | none => none) else none
def rvL (L : List T5) (id : Int) : List T5 := match rvO L id with | some l => l | none => []
def rvU (L : List T5) (id : Int) : Bool := (rvO L id).isSome
theorem rv_no {L : List T5} {id : Int} (h : rvO L id = none) : rvL L id = [] ∧ rvU L id = false := by simp [rvL, rvU, h]
theorem rv_yes {L l : List T5} {id : Int} (h : rvO L id = some l) : rvL L id = l ∧ rvU L id = true := by simp [rvL, rvU, h]
theorem rv_off {L : List T5} {id : Int} (h : tripsB L = false ∨ atT L id < 0) : rvO L id = none := by
  unfold rvO
  rcases h with h | h
  · simp [h]
  · have : decide (0 ≤ atT L id) = false := decide_eq_false (by omega)
    simp [this]
theorem idx_some {α : Type} {p : α → Bool} {L : List α} (h : 0 ≤ idxOf p L) : ∃ (k : Nat) (x : α), idxOf p L = (k : Int) ∧ L[k]? = some x ∧ p x = true := by
  unfold idxOf at h ⊢
  cases hf : L.findIdx? p with
  | none => rw [hf] at h; simp at h
  | some k =>
    rw [List.findIdx?_eq_some_iff_getElem] at hf
    obtain ⟨hk, hp, _⟩ := hf
    exact ⟨k, L[k], rfl, List.getElem?_eq_getElem hk, hp⟩
theorem at_some {L : List T5} {id : Int} (h : 0 ≤ atT L id) : ∃ (k : Nat) (x : T5), atT L id = (k : Int) ∧ L[k]? = some x ∧ x.1 = id := by
  obtain ⟨k, x, h1, h2, h3⟩ := idx_some h
  exact ⟨k, x, h1, h2, by simpa [atB] using h3⟩
theorem rv_met {L : List T5} {id : Int} {k : Nat} {x : T5} (hk : atT L id = (k : Int)) (hx : L[k]? = some x) (h : metB L (revT x) = true) : rvO L id = none := by
  unfold rvO
  rw [hk, Int.toNat_natCast, hx]
  simp [h]
theorem rv_ok {L : List T5} {id : Int} {k : Nat} {x : T5} (ht : tripsB L = true) (hk : atT L id = (k : Int)) (hx : L[k]? = some x) (h : metB L (revT x) = false) : rvO L id = some (L.set k (revT x)) := by
  unfold rvO
  have : decide (0 ≤ (k : Int)) = true := decide_eq_true (by omega)
  rw [hk, Int.toNat_natCast, hx, ht, this]
  simp [h]
/-- Its own place does not count. -/
theorem met_set {L : List T5} {k : Nat} {x y : T5} (hx : L[k]? = some x) (hy : y.1 = x.1) : metB (L.set k y) y = metB L y := by
  have h0 : anyB y y = false := by simp [anyB]
  have h1 : anyB y x = false := by simp [anyB, hy]
  have hk := (List.getElem?_eq_some_iff.1 hx).1
  unfold metB
  rw [Bool.eq_iff_iff, List.any_eq_true, List.any_eq_true]
  constructor
  · rintro ⟨z, hz, h⟩
    obtain ⟨j, hj, rfl⟩ := List.getElem_of_mem hz
    rw [List.getElem_set] at h
    split at h
    · rw [h0] at h; cases h
    · exact ⟨_, List.getElem_mem _, h⟩
  · rintro ⟨z, hz, h⟩
    obtain ⟨j, hj, rfl⟩ := List.getElem_of_mem hz
    have hjk : j ≠ k := by
      intro e; subst e
      rw [(List.getElem?_eq_some_iff.1 hx).2, h1] at h; cases h
    exact ⟨(L.set k y)[j]'(by rw [List.length_set]; exact hj), List.getElem_mem _, by rw [List.getElem_set, if_neg (Ne.symm hjk)]; exact h⟩
theorem rvL_len (L : List T5) (id : Int) : (rvL L id).length ≤ L.length := by
  cases h : rvO L id with
  | none => rw [(rv_no h).1]; simp
  | some l =>
    rw [(rv_yes h).1]
    unfold rvO at h
    split at h
    · split at h
      · split at h
        · cases h
        · cases h; rw [List.length_set]; exact Nat.le_refl _
      · cases h
    · cases h
theorem TrOk.rev {x : T5} (h : TrOk x) : TrOk (revT x) := ⟨h.c, h.b, h.d⟩
end Go.Proofs.Ytfcmfadkkfkidaa
