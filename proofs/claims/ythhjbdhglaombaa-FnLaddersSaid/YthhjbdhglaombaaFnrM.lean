/-
  The plain facts of the laws on ladders: the told room and sun are the widest; an even ladder's ends; the widest rung.
-/
import Derived.Test.YthhjbdhglaombaaRoom2
import Derived.Test.YthhjbdhglaombaaRf1
import Derived.Test.YthhjbdhglaombaaEven1
import Derived.Test.YthhjbdhglaombaaVs
import Derived.Test.YthhjbdhglaombaaLad4
namespace Go.Proofs.Ythhjbdhglaombaa
open Go.RowKit

theorem mem_rfL {L : List (Int × Int)} {a s : Int} {k : Nat} : ∀ n, ((k : Int) ∈ rfL L a s n ↔ k < n ∧ ∃ x, L[k]? = some x ∧ staB x.1 x.2 a s = true)
  | 0 => by simp [rfL]
  | n + 1 => by
    have ih := mem_rfL (L := L) (a := a) (s := s) (k := k) n
    rw [rfL]
    cases hx : L[n]? with
    | none =>
      simp only []
      rw [ih]
      constructor
      · rintro ⟨h1, h2⟩; exact ⟨by omega, h2⟩
      · rintro ⟨h1, x, h2, h3⟩
        have : k ≠ n := fun e => by subst e; rw [hx] at h2; cases h2
        exact ⟨by omega, x, h2, h3⟩
    | some y =>
      simp only []
      split
      · rename_i hy
        rw [List.mem_append, ih, List.mem_singleton]
        constructor
        · rintro (⟨h1, h2⟩ | h1)
          · exact ⟨by omega, h2⟩
          · obtain rfl : k = n := by omega
            exact ⟨by omega, y, hx, hy⟩
        · rintro ⟨h1, x, h2, h3⟩
          by_cases e : k = n
          · exact .inr (by rw [e])
          · exact .inl ⟨by omega, x, h2, h3⟩
      · rename_i hy
        rw [ih]
        constructor
        · rintro ⟨h1, h2⟩; exact ⟨by omega, h2⟩
        · rintro ⟨h1, x, h2, h3⟩
          have : k ≠ n := fun e => by subst e; rw [hx] at h2; cases h2; exact hy h3
          exact ⟨by omega, x, h2, h3⟩
theorem has_run {L : List (Int × Int)} {a s : Int} {k : Nat} {x : Int × Int} (hx : L[k]? = some x) (hr : runB L a s = true) : hasB (runL L a s) k = staB x.1 x.2 a s := by
  have hk := (List.getElem?_eq_some_iff.1 hx).1
  rw [runL_yes hr, hasB, List.contains_eq_mem, Bool.eq_iff_iff, decide_eq_true_eq, mem_rfL]
  constructor
  · rintro ⟨_, y, h2, h3⟩; rw [hx] at h2; cases h2; exact h3
  · intro h; exact ⟨hk, x, hx, h⟩
theorem has_none {L : List (Int × Int)} {a s : Int} {x : Int} (hr : runB L a s = false) : hasB (runL L a s) x = false := by
  rw [runL_no hr]; rfl
theorem askB_lad {L : List (Int × Int)} {i a s : Int} (h : askB L i a s = true) : ladB L = true := by
  unfold askB at h
  simp only [Bool.and_eq_true] at h
  exact h.1.1.1.1
theorem briB_of {a s : Int} (h1 : 0 ≤ a ∧ a ≤ 1000000) (h2 : 0 ≤ s ∧ s ≤ 1000000) : briB a s = true := by
  simp [briB, inB]; omega

/-- The told room and the told sun. -/
theorem room_plain {L : List (Int × Int)} {i a s : Int} (h : askB L i a s = true) :
    (0 ≤ a ∧ a ≤ 1000000) ∧ (0 ≤ roomN L i a s ∧ roomN L i a s ≤ 1000000) ∧ (runB L (a + roomN L i a s) s = true ∧ hasB (runL L (a + roomN L i a s) s) i = true) ∧ hasB (runL L (a + roomN L i a s + 1) s) i = false := by
  obtain ⟨k, x, rfl, hx, hk, hl, ⟨x0, x12, x2⟩, ⟨a0, a1⟩, ⟨s0, s1⟩, hpos, hst⟩ := askB_true h
  have hlad := askB_lad h
  obtain ⟨st1, st2⟩ := inB_iff.1 hst
  have hr : roomN L k a s = if x.1 > 0 then min (1000000 - a) (1000 * s / x.1 - (a + s)) else 1000000 - a := by unfold roomN; rw [Int.toNat_natCast, hx]
  obtain ⟨r, hrr⟩ : ∃ r, r = roomN L k a s := ⟨_, rfl⟩
  rw [← hrr] at hr ⊢
  have hx2 : 0 ≤ x.2 := by omega
  have key : (0 ≤ r ∧ r ≤ 1000000 - a) ∧ x.1 * (a + r + s) ≤ 1000 * s ∧ (r = 1000000 - a ∨ 1000 * s < x.1 * (a + r + 1 + s)) := by
    by_cases h0 : x.1 > 0
    · rw [if_pos h0] at hr
      have q1 : a + s ≤ 1000 * s / x.1 := by rw [Int.le_ediv_iff_mul_le h0, Int.mul_comm]; exact st1
      have q2 : a + r + s ≤ 1000 * s / x.1 := by omega
      rw [Int.le_ediv_iff_mul_le h0, Int.mul_comm] at q2
      refine ⟨by omega, q2, ?_⟩
      by_cases h1 : r = 1000000 - a
      · exact .inl h1
      · refine .inr ?_
        have h2 : r = 1000 * s / x.1 - (a + s) := by omega
        have q3 : ¬ (a + r + 1 + s ≤ 1000 * s / x.1) := by omega
        rw [Int.le_ediv_iff_mul_le h0, Int.mul_comm] at q3
        omega
    · rw [if_neg h0] at hr
      have hx1 : x.1 = 0 := by omega
      rw [hx1]
      exact ⟨by omega, by simp only [Int.zero_mul]; omega, .inl hr⟩
  obtain ⟨k1, k2, k3⟩ := key
  have hb : runB L (a + r) s = true := by rw [runB, hlad, briB_of (by omega) (by omega)]; rfl
  have m1 : x.2 * (a + s) ≤ x.2 * (a + r + s) := Int.mul_le_mul_of_nonneg_left (by omega) hx2
  refine ⟨⟨a0, a1⟩, ⟨k1.1, by omega⟩, ⟨hb, ?_⟩, ?_⟩
  · rw [has_run hx hb]
    exact inB_true ⟨k2, by omega⟩
  · cases hb2 : runB L (a + r + 1) s with
    | false => exact has_none hb2
    | true =>
      rw [has_run hx hb2]
      rw [runB, Bool.and_eq_true] at hb2
      have := (briB_bounds hb2.2).1
      refine inB_false fun hc => ?_
      rcases k3 with k3 | k3
      · omega
      · have := hc.1; omega
theorem sun_plain {L : List (Int × Int)} {i a s : Int} (h : askB L i a s = true) :
    (0 ≤ sunN L i a s ∧ sunN L i a s ≤ 1000000) ∧ (runB L (a - sunN L i a s) s = true ∧ hasB (runL L (a - sunN L i a s) s) i = true) := by
  obtain ⟨k, x, rfl, hx, hk, hl, ⟨x0, x12, x2⟩, ⟨a0, a1⟩, ⟨s0, s1⟩, hpos, hst⟩ := askB_true h
  have hlad := askB_lad h
  obtain ⟨st1, st2⟩ := inB_iff.1 hst
  have hr : sunN L k a s = if s = 0 then a else min a (a + s - (1000 * s + x.2 - 1) / x.2) := by unfold sunN; rw [Int.toNat_natCast, hx]
  obtain ⟨r, hrr⟩ : ∃ r, r = sunN L k a s := ⟨_, rfl⟩
  rw [← hrr] at hr ⊢
  have hx2 : 0 ≤ x.2 := by omega
  have key : (0 ≤ r ∧ r ≤ a) ∧ 1000 * s ≤ x.2 * (a - r + s) := by
    by_cases h0 : s = 0
    · rw [if_pos h0] at hr
      subst h0
      refine ⟨by omega, ?_⟩
      have := Int.mul_nonneg hx2 (show 0 ≤ a - r + 0 by omega)
      omega
    · rw [if_neg h0] at hr
      have hp := staB_high hst (by omega) hx2
      have q0 : ∀ z, 1000 * s ≤ x.2 * z ↔ (1000 * s + x.2 - 1) / x.2 ≤ z := fun z => by
        have e1 : (1000 * s + x.2 - 1) / x.2 ≤ z ↔ (1000 * s + x.2 - 1) / x.2 < z + 1 := by omega
        rw [e1, Int.ediv_lt_iff_lt_mul (by omega), Int.add_mul z 1, Int.mul_comm x.2]
        omega
      have q1 := (q0 (a + s)).1 st2
      refine ⟨by omega, (q0 _).2 (by omega)⟩
  obtain ⟨k1, k2⟩ := key
  have hb : runB L (a - r) s = true := by rw [runB, hlad, briB_of (by omega) (by omega)]; rfl
  have m1 : x.1 * (a - r + s) ≤ x.1 * (a + s) := Int.mul_le_mul_of_nonneg_left (by omega) x0
  refine ⟨⟨k1.1, by omega⟩, hb, ?_⟩
  rw [has_run hx hb]
  exact inB_true ⟨by omega, k2⟩
theorem even_get {n low high : Int} {k : Nat} {x : Int × Int} (h : evenB n low high = true) (hx : (evenL n low high)[k]? = some x) : (k : Int) < n ∧ x = (low + (high - low) * k / n, low + (high - low) * (k + 1) / n) := by
  rw [evenL, if_pos h] at hx
  obtain ⟨h1, h2⟩ := tab_get hx
  exact ⟨by omega, h2⟩
theorem even_at {n low high : Int} {k : Nat} (h : evenB n low high = true) (hk : (k : Int) < n) : (evenL n low high)[k]? = some (low + (high - low) * k / n, low + (high - low) * (k + 1) / n) := by
  rw [evenL, if_pos h]
  have hk2 : k < n.toNat := by omega
  simp [tab, hk2]
theorem even_plain {n low high : Int} (h : evenB n low high = true) : (1 ≤ n ∧ n ≤ 8) ∧ ((evenL n low high).length : Int) = n ∧ ladB (evenL n low high) = true ∧
    (evenL n low high)[0]? = some (low, low + (high - low) * 1 / n) ∧ (∃ y, (evenL n low high)[n.toNat - 1]? = some (y, high)) := by
  have hb := h
  simp only [evenB, Bool.and_eq_true, decide_eq_true_eq] at hb
  obtain ⟨⟨h1, h2⟩, h3⟩ := hb
  obtain ⟨n1, n8⟩ := inB_iff.1 h1
  obtain ⟨l0, lh⟩ := inB_iff.1 h2
  have hlen : ((evenL n low high).length : Int) = n := by rw [evenL, if_pos h, tab_len]; omega
  have hD : 0 ≤ high - low := by omega
  have mono : ∀ a b : Int, a ≤ b → (high - low) * a / n ≤ (high - low) * b / n := fun a b hab => Int.ediv_le_ediv (by omega) (Int.mul_le_mul_of_nonneg_left hab hD)
  have z0 : (high - low) * 0 / n = 0 := by rw [Int.mul_zero, Int.zero_ediv]
  have zn : (high - low) * n / n = high - low := Int.mul_ediv_cancel _ (by omega)
  refine ⟨⟨n1, n8⟩, hlen, ?_, ?_, ⟨low + (high - low) * ((n.toNat - 1 : Nat) : Int) / n, ?_⟩⟩
  · rw [ladB_ok, inB_true ⟨by omega, by omega⟩]
    have one : ∀ j (x : Int × Int), (evenL n low high)[j]? = some x → rung1 x = true := fun j x hx => by
      obtain ⟨hj, rfl⟩ := even_get h hx
      have m1 := mono 0 j (by omega)
      have m2 := mono j (j + 1) (by omega)
      have m3 := mono (j + 1) n (by omega)
      simp only [rung1, decide_eq_true_eq]
      omega
    have two : ∀ j (x p : Int × Int), (evenL n low high)[j + 1]? = some x → (evenL n low high)[j]? = some p → rung2 p x = true := fun j x p hx hp => by
      obtain ⟨hj, rfl⟩ := even_get h hx
      obtain ⟨hj2, rfl⟩ := even_get h hp
      have m2 := mono j ((j + 1 : Nat) : Int) (by omega)
      have m3 := mono (j + 1) ((j + 1 : Nat) + 1) (by omega)
      simp only [rung2, decide_eq_true_eq]
      omega
    refine chain_ok fun j hj => ?_
    cases j with
    | zero => exact ok_zero (List.getElem?_eq_getElem hj) (one _ _ (List.getElem?_eq_getElem hj))
    | succ j => exact ok_succ (List.getElem?_eq_getElem hj) (List.getElem?_eq_getElem (by omega)) (one _ _ (List.getElem?_eq_getElem hj)) (two _ _ _ (List.getElem?_eq_getElem hj) (List.getElem?_eq_getElem (by omega)))
  · have := even_at (k := 0) h (by omega)
    rw [this]
    simp only [Int.natCast_zero, Int.zero_add, z0, Int.add_zero]
  · have := even_at (k := n.toNat - 1) h (by omega)
    rw [this]
    have e : ((n.toNat - 1 : Nat) : Int) + 1 = n := by omega
    rw [e, zn]
    have e2 : low + (high - low) = high := by omega
    rw [e2]
theorem evenL_len8 (n low high : Int) : (evenL n low high).length ≤ 8 := by
  unfold evenL
  split
  · rename_i h
    simp only [evenB, Bool.and_eq_true] at h
    have := inB_iff.1 h.1.1
    rw [tab_len]; omega
  · simp
theorem bestTo_max (L : List (Int × Int)) : ∀ n j, j < n → wid L j ≤ wid L (bestTo L n)
  | 0, j, h => by omega
  | n + 1, j, h => by
    have ih := bestTo_max L n
    rw [bestTo]
    by_cases hw : wid L n > wid L (bestTo L n)
    · rw [if_pos (by simpa using hw)]
      by_cases e : j = n
      · rw [e]; omega
      · have := ih j (by omega); omega
    · rw [if_neg (by simpa using hw)]
      by_cases e : j = n
      · rw [e]; omega
      · exact ih j (by omega)
/-- The widest rung: each other is no wider. -/
theorem widest_plain {L : List (Int × Int)} {n : Int} (h : widestV L = .tuple #[.int .i64 n, .bool true]) : ∃ (k : Nat) (y : Int × Int), n = k ∧ L[k]? = some y ∧ k < L.length ∧ (0 ≤ y.1 ∧ y.1 ≤ y.2 ∧ y.2 ≤ 1000) ∧ ∀ (j : Nat) (x : Int × Int), L[j]? = some x → (0 ≤ x.1 ∧ x.1 ≤ x.2 ∧ x.2 ≤ 1000) ∧ x.2 - x.1 ≤ y.2 - y.1 := by
  unfold widestV at h
  split at h
  · rename_i hl
    simp at h
    have hlen := ladB_len hl
    have hb := bestTo_le L L.length
    have hk : bestTo L L.length < L.length := by omega
    have hx : L[bestTo L L.length]? = some L[bestTo L L.length] := List.getElem?_eq_getElem hk
    refine ⟨_, _, h.symm, hx, hk, ladB_rung hl hx, fun j x hj => ⟨ladB_rung hl hj, ?_⟩⟩
    have := bestTo_max L L.length j (List.getElem?_eq_some_iff.1 hj).1
    rw [wid_get hj, wid_get hx] at this
    exact this
  · simp at h
end Go.Proofs.Ythhjbdhglaombaa
