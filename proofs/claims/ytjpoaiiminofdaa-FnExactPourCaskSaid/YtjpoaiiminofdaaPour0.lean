/-
  PourCask, in plain words.
-/
import Derived.Test.YtjpoaiiminofdaaBat
namespace Go.Proofs.Ytjpoaiiminofdaa
open Go.RowKit

theorem idx_some {α : Type} {p : α → Bool} {L : List α} (h : 0 ≤ idxOf p L) : ∃ (k : Nat) (x : α), idxOf p L = (k : Int) ∧ L[k]? = some x ∧ p x = true := by
  unfold idxOf at h ⊢
  cases hf : L.findIdx? p with
  | none => rw [hf] at h; simp at h
  | some k =>
    rw [List.findIdx?_eq_some_iff_getElem] at hf
    obtain ⟨hk, hp, _⟩ := hf
    exact ⟨k, L[k], rfl, List.getElem?_eq_getElem hk, hp⟩
theorem at_some {L : List T3} {id : Int} (h : 0 ≤ atC L id) : ∃ (k : Nat) (x : T3), atC L id = (k : Int) ∧ L[k]? = some x ∧ x.1 = id := by
  obtain ⟨k, x, h1, h2, h3⟩ := idx_some h
  exact ⟨k, x, h1, h2, by simpa [atB] using h3⟩
def pcK (x y : T3) : Int := x.2.1 + y.2.1
def pcG (x y : T3) : Int := x.2.1 * x.2.2 + y.2.1 * y.2.2
def pcOut (L : List T3) (i k : Nat) (x y : T3) : List T3 := (L.set i (x.1, 0, 0)).set k (y.1, pcK x y, pcG x y / pcK x y)
def pcO (L : List T3) (f t : Int) : Option (List T3) :=
  if bitB L && decide (0 ≤ atC L f) && decide (0 ≤ atC L t) && !decide (atC L f = atC L t) then
    (match L[(atC L f).toNat]?, L[(atC L t).toNat]? with
      | some x, some y => if x.2.1 = 0 ∨ y.2.1 = 0 then none else if bitB (pcOut L (atC L f).toNat (atC L t).toNat x y) then some (pcOut L (atC L f).toNat (atC L t).toNat x y) else none
      | _, _ => none)
  else none
def pcL (L : List T3) (f t : Int) : List T3 := match pcO L f t with | some l => l | none => []
def pcU (L : List T3) (f t : Int) : Bool := (pcO L f t).isSome
theorem pc_no {L : List T3} {f t : Int} (h : pcO L f t = none) : pcL L f t = [] ∧ pcU L f t = false := by simp [pcL, pcU, h]
theorem pc_yes {L l : List T3} {f t : Int} (h : pcO L f t = some l) : pcL L f t = l ∧ pcU L f t = true := by simp [pcL, pcU, h]
theorem pc_off {L : List T3} {f t : Int} (h : bitB L = false ∨ atC L f < 0 ∨ atC L t < 0 ∨ atC L f = atC L t) : pcO L f t = none := by
  unfold pcO
  rcases h with h | h | h | h
  · simp [h]
  · have : decide (0 ≤ atC L f) = false := decide_eq_false (by omega)
    simp [this]
  · have : decide (0 ≤ atC L t) = false := decide_eq_false (by omega)
    simp [this]
  · simp [h]
section
variable {L : List T3} {f t : Int} {i k : Nat} {x y : T3}
theorem pc_at (hb : bitB L = true) (hi : atC L f = (i : Int)) (hk : atC L t = (k : Int)) (hx : L[i]? = some x) (hy : L[k]? = some y) (hne : i ≠ k) :
    pcO L f t = if x.2.1 = 0 ∨ y.2.1 = 0 then none else if bitB (pcOut L i k x y) then some (pcOut L i k x y) else none := by
  unfold pcO
  have h1 : decide (0 ≤ (i : Int)) = true := decide_eq_true (by omega)
  have h2 : decide (0 ≤ (k : Int)) = true := decide_eq_true (by omega)
  have h3 : decide ((i : Int) = (k : Int)) = false := decide_eq_false (by omega)
  rw [hi, hk, hb, h1, h2, h3, Int.toNat_natCast, Int.toNat_natCast, hx, hy]
  rfl
theorem pcL_len (L : List T3) (f t : Int) : (pcL L f t).length ≤ L.length := by
  cases h : pcO L f t with
  | none => rw [(pc_no h).1]; simp
  | some l =>
    rw [(pc_yes h).1]
    unfold pcO at h
    split at h
    · split at h
      · split at h
        · cases h
        · split at h
          · cases h; rw [pcOut, List.length_set, List.length_set]; exact Nat.le_refl _
          · cases h
      · cases h
    · cases h
theorem sum2 (hx : (0 ≤ x.2.1 ∧ x.2.1 ≤ 10000) ∧ (0 ≤ x.2.2 ∧ x.2.2 ≤ 1000)) (hy : (0 ≤ y.2.1 ∧ y.2.1 ≤ 10000) ∧ (0 ≤ y.2.2 ∧ y.2.2 ≤ 1000)) :
    sumK [x, y] 2 = pcK x y ∧ sumG [x, y] 2 = pcG x y ∧ (0 ≤ pcK x y ∧ pcK x y ≤ 20000) ∧ (0 ≤ pcG x y ∧ pcG x y ≤ 20000000) := by
  have m1 : 0 ≤ x.2.1 * x.2.2 := Int.mul_nonneg hx.1.1 hx.2.1
  have m2 : 0 ≤ y.2.1 * y.2.2 := Int.mul_nonneg hy.1.1 hy.2.1
  have m3 : x.2.1 * x.2.2 ≤ 10000 * 1000 := Int.mul_le_mul hx.1.2 hx.2.2 hx.2.1 (by omega)
  have m4 : y.2.1 * y.2.2 ≤ 10000 * 1000 := Int.mul_le_mul hy.1.2 hy.2.2 hy.2.1 (by omega)
  have k0 : kil [x, y] 0 = x.2.1 := rfl
  have k1 : kil [x, y] 1 = y.2.1 := rfl
  have b0 : bit [x, y] 0 = x.2.2 := rfl
  have b1 : bit [x, y] 1 = y.2.2 := rfl
  refine ⟨?_, ?_, by unfold pcK; omega, by unfold pcG; omega⟩
  · show wrap64 (wrap64 (0 + kil [x, y] 0) + kil [x, y] 1) = _
    rw [k0, k1, Int.zero_add, IntWalk.wrap64_in x.2.1 (by omega), IntWalk.wrap64_in _ (by omega)]; rfl
  · show wrap64 (wrap64 (0 + wrap64 (kil [x, y] 0 * bit [x, y] 0)) + wrap64 (kil [x, y] 1 * bit [x, y] 1)) = _
    rw [k0, k1, b0, b1, Int.zero_add, IntWalk.wrap64_in (x.2.1 * x.2.2) (by omega), IntWalk.wrap64_in (x.2.1 * x.2.2) (by omega), IntWalk.wrap64_in (y.2.1 * y.2.2) (by omega), IntWalk.wrap64_in _ (by omega)]; rfl
end
end Go.Proofs.Ytjpoaiiminofdaa
