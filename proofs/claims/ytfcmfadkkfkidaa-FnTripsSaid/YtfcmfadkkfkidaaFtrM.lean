/-
  Plain facts that the law FnTrips asks.
-/
import Derived.Test.YtfcmfadkkfkidaaAdd0
namespace Go.Proofs.Ytfcmfadkkfkidaa
open Go.RowKit

theorem firstS_ok {L : List T5} {t : T5} : ∀ (n : Nat) (s r : Int), firstS L t n s = some r → s ≤ r ∧ okT (setS t r) = true ∧ metB L (setS t r) = false
  | 0, s, r, h => by simp [firstS] at h
  | n + 1, s, r, h => by
    unfold firstS at h
    split at h
    · rename_i h1
      split at h
      · have := firstS_ok n (s + 1) r h
        exact ⟨by omega, this.2⟩
      · rename_i h2
        cases h
        exact ⟨Int.le_refl _, h1, by simpa using h2⟩
    · cases h
theorem fsU_some {L : List T5} {t : T5} (h : fsU L t = true) : ∃ s, fsO L t = some s ∧ fsN L t = s := by
  unfold fsU at h
  obtain ⟨s, hs⟩ := Option.isSome_iff_exists.1 h
  exact ⟨s, hs, by unfold fsN; rw [hs]⟩
theorem fsU_facts {L : List T5} {t : T5} (h : fsU L t = true) : fsB L t = true ∧ t.2.2.2.1 ≤ fsN L t ∧ okT (setS t (fsN L t)) = true ∧ metB L (setS t (fsN L t)) = false := by
  obtain ⟨s, hs, hn⟩ := fsU_some h
  have hb : fsB L t = true := by
    cases hb : fsB L t
    · rw [fs_off hb] at hs; cases hs
    · rfl
  rw [fs_on hb] at hs
  have := firstS_ok 2000 _ _ hs
  rw [hn]
  exact ⟨hb, this⟩
theorem ldK_lt (a : Int) : ∀ (L : List T5) (j : Nat) (x : T5), j < ldK L a → L[j]? = some x → x.1 < a
  | [], j, x, h, _ => by simp [ldK] at h
  | y :: ys, j, x, h, hx => by
    unfold ldK at h
    split at h
    · rename_i hy
      cases j with
      | zero => simp at hx; subst hx; exact hy
      | succ j => exact ldK_lt a ys j x (by omega) (by simpa using hx)
    · omega
theorem ldK_at (a : Int) : ∀ (L : List T5) (x : T5), L[ldK L a]? = some x → ¬ x.1 < a
  | [], x, h => by simp at h
  | y :: ys, x, h => by
    unfold ldK at h
    split at h
    · exact ldK_at a ys x (by simpa using h)
    · rename_i hy
      simp at h; subst h; exact hy
theorem at_none {L : List T5} {a : Int} (h : ¬ 0 ≤ atT L a) {k : Nat} {x : T5} (hx : L[k]? = some x) : x.1 ≠ a := by
  intro e
  unfold atT idxOf at h
  cases hf : L.findIdx? (atB a) with
  | none =>
    rw [List.findIdx?_eq_none_iff] at hf
    have := hf x (List.mem_of_getElem? hx)
    simp [atB, e] at this
  | some k => rw [hf] at h; simp at h
theorem chain_insL {L : List T5} {t : T5} (hL : tripsB L = true) (ht : okT t = true) (hn : ¬ 0 ≤ atT L t.1) : chain trip1 trip2 (addI L t) = true := by
  have hc : chain trip1 trip2 L = true := by rw [tripsB, Bool.and_eq_true] at hL; exact hL.1
  have hle := ldK_le t.1 L
  have hg : ∀ k, (addI L t)[k]? = if k < ldK L t.1 then L[k]? else if k = ldK L t.1 then some t else L[k - 1]? := insL_get hle
  have hlen := addI_len L t
  have h1t : trip1 t = true := ht
  refine chain_ok fun j hj => ?_
  obtain ⟨x, hx⟩ : ∃ x, (addI L t)[j]? = some x := ⟨_, List.getElem?_eq_getElem hj⟩
  have hx' := hx
  rw [hg] at hx
  have hone : trip1 x = true := by
    split at hx
    · exact chain_one hc hx
    · split at hx
      · cases hx; exact h1t
      · exact chain_one hc hx
  cases j with
  | zero => exact ok_zero hx' hone
  | succ j =>
    obtain ⟨p, hp⟩ : ∃ p, (addI L t)[j]? = some p := ⟨_, List.getElem?_eq_getElem (by omega)⟩
    refine ok_succ hx' hp hone ?_
    rw [hg] at hp
    by_cases h1 : j + 1 < ldK L t.1
    · rw [if_pos h1] at hx
      rw [if_pos (by omega)] at hp
      exact chain_two hc hx hp
    · rw [if_neg h1] at hx
      by_cases h2 : j + 1 = ldK L t.1
      · rw [if_pos h2] at hx
        rw [if_pos (by omega)] at hp
        cases hx
        have := ldK_lt t.1 L j p (by omega) hp
        simpa [trip2] using this
      · rw [if_neg h2] at hx
        rw [show j + 1 - 1 = j by omega] at hx
        by_cases h3 : j = ldK L t.1
        · rw [if_neg (by omega), if_pos h3] at hp
          cases hp
          rw [h3] at hx
          have := ldK_at t.1 L x hx
          have hne := at_none hn hx
          have : t.1 < x.1 := by omega
          simpa [trip2] using this
        · rw [if_neg (by omega), if_neg h3] at hp
          obtain ⟨q, rfl⟩ : ∃ q, j = q + 1 := ⟨j - 1, by omega⟩
          exact chain_two hc hx (by simpa using hp)
theorem fs_add {L : List T5} {t : T5} (h : fsU L t = true) : addU L (setS t (fsN L t)) = decide (L.length < 10) := by
  obtain ⟨hb, _, h1, h2⟩ := fsU_facts h
  simp only [fsB, Bool.and_eq_true] at hb
  obtain ⟨⟨h3, _⟩, h4⟩ := hb
  have h5 : ¬ 0 ≤ atT L (setS t (fsN L t)).1 := by
    show ¬ 0 ≤ atT L t.1
    intro e; simp [e] at h4
  have h6 := chain_insL h3 h1 h5
  unfold addU
  rw [h3, h1, h2, tripsB_ok h6, addI_len]
  simp
  constructor <;> intro <;> omega
/-- The rows of a trip: entered when the one before is left. -/
theorem sec_next {b c d : Int} {k : Nat} (h : k + 1 < secN b c) : (secL b c d)[k]? = some [secLo b c k, d + 4 * k, d + 4 * k + 4] ∧ (secL b c d)[k + 1]? = some [secLo b c (k + 1 : Nat), d + 4 * (k + 1 : Nat), d + 4 * (k + 1 : Nat) + 4] :=
  ⟨secK_get (by omega), secK_get h⟩
end Go.Proofs.Ytfcmfadkkfkidaa
