/-
  MeetingTrips, in plain words.
-/
import Derived.Test.YtfcmfadkkfkidaaFree
import Derived.Test.YtfcmfadkkfkidaaTrip5
import Derived.Test.YtfcmfadkkfkidaaFirst0
namespace Go.Proofs.Ytfcmfadkkfkidaa
open Go.RowKit

/-- The pair of the trips in places i and j, if they meet. -/
def mpRow (L : List T5) (i j : Nat) : List (List Int) := match L[i]?, L[j]? with
  | some x, some y => if meetB x y then [[x.1, y.1]] else []
  | _, _ => []
def mpIn (L : List T5) (i : Nat) : Nat → List (List Int)
  | 0 => []
  | n + 1 => mpIn L i n ++ mpRow L i (i + 1 + n)
def mpL (L : List T5) : Nat → List (List Int)
  | 0 => []
  | k + 1 => mpL L k ++ mpIn L k (L.length - (k + 1))
def mtL (L : List T5) : List (List Int) := if tripsB L then mpL L L.length else []
theorem mtL_no {L : List T5} (h : tripsB L = false) : mtL L = [] := by simp [mtL, h]
theorem mtL_yes {L : List T5} (h : tripsB L = true) : mtL L = mpL L L.length := by simp [mtL, h]
theorem mpRow_yes {L : List T5} {i j : Nat} {x y : T5} (hx : L[i]? = some x) (hy : L[j]? = some y) (h : meetB x y = true) : mpRow L i j = [[x.1, y.1]] := by rw [mpRow, hx, hy]; simp [h]
theorem mpRow_no {L : List T5} {i j : Nat} {x y : T5} (hx : L[i]? = some x) (hy : L[j]? = some y) (h : meetB x y = false) : mpRow L i j = [] := by rw [mpRow, hx, hy]; simp [h]
theorem mpRow_len (L : List T5) (i j : Nat) : (mpRow L i j).length ≤ 1 ∧ ∀ l ∈ mpRow L i j, l.length = 2 := by
  unfold mpRow
  split
  · split
    · exact ⟨Nat.le_refl 1, fun l hl => by rw [List.mem_singleton] at hl; subst hl; rfl⟩
    · exact ⟨by simp, fun l hl => by simp at hl⟩
  · exact ⟨by simp, fun l hl => by simp at hl⟩
theorem mpIn_len (L : List T5) (i : Nat) : ∀ n, (mpIn L i n).length ≤ n ∧ ∀ l ∈ mpIn L i n, l.length = 2
  | 0 => ⟨Nat.le_refl 0, fun l hl => by simp [mpIn] at hl⟩
  | n + 1 => by
    obtain ⟨h1, h2⟩ := mpIn_len L i n
    obtain ⟨h3, h4⟩ := mpRow_len L i (i + 1 + n)
    refine ⟨by rw [mpIn, List.length_append]; omega, fun l hl => ?_⟩
    rcases List.mem_append.1 hl with hl | hl
    · exact h2 l hl
    · exact h4 l hl
theorem mpL_len (L : List T5) : ∀ k, (mpL L k).length ≤ k * L.length ∧ ∀ l ∈ mpL L k, l.length = 2
  | 0 => ⟨by simp [mpL], fun l hl => by simp [mpL] at hl⟩
  | k + 1 => by
    obtain ⟨h1, h2⟩ := mpL_len L k
    obtain ⟨h3, h4⟩ := mpIn_len L k (L.length - (k + 1))
    refine ⟨by rw [mpL, List.length_append, Nat.add_mul]; omega, fun l hl => ?_⟩
    rcases List.mem_append.1 hl with hl | hl
    · exact h2 l hl
    · exact h4 l hl
theorem trips_len {L : List T5} (h : tripsB L = true) : L.length ≤ 10 := by
  simp only [tripsB, Bool.and_eq_true, decide_eq_true_eq] at h
  omega
theorem mp_len {L : List T5} (h : tripsB L = true) {k n : Nat} (hk : k ≤ L.length) (hn : n ≤ L.length) : (mpL L k ++ mpIn L k n).length ≤ 110 := by
  have h1 := (mpL_len L k).1
  have h2 := (mpIn_len L k n).1
  have h3 := trips_len h
  have h4 : k * L.length ≤ 10 * 10 := Nat.mul_le_mul (by omega) h3
  rw [List.length_append]; omega
theorem mtL_facts (L : List T5) : (mtL L).length ≤ 100 ∧ ∀ l ∈ mtL L, l.length ≤ 2 := by
  cases h : tripsB L
  · rw [mtL_no h]; exact ⟨by simp, fun l hl => by simp at hl⟩
  · rw [mtL_yes h]
    have h1 := mpL_len L L.length
    have h3 := trips_len h
    have h4 : L.length * L.length ≤ 10 * 10 := Nat.mul_le_mul h3 h3
    exact ⟨by omega, fun l hl => by have := h1.2 l hl; omega⟩
/-- A block of another type stands while the rows are appended. -/
theorem GathS.blk {w w' : World} {B p : Nat} {v : Value} {M : List Elt} {t : TypeId} {cs : Array Value} (h : GathS w B v M) (hg : w.grownBy w' v.ownBlock) (hk : Blk w p t cs) (hne : t ≠ 44) : Blk w' p t cs := by
  refine (hg.block p hk.lt fun e => ?_).trans hk
  obtain ⟨_, cs', hc⟩ := h.g.ownTy p e.symm
  unfold Blk at hk
  rw [hk] at hc
  injection hc with hc
  injection hc with _ ht
  exact hne ht
end Go.Proofs.Ytfcmfadkkfkidaa
