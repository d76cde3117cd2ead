/-
  Plain mathematics: a list of ints sorted by insertion from the end is the list sorted. No program in sight.
-/
import Derived.Test.YtapfnelghmnajaaDoorSlice
import Derived.Lib.SlKeysI
namespace Go.Proofs.YtapfnelghmnajaaDoor

/-- Where x goes among the first p: behind the last that is not greater. -/
def posF (O : List Int) (x : Int) : Nat → Nat
  | 0 => 0
  | p + 1 => match O[p]? with
    | some y => if y > x then posF O x p else p + 1
    | none => p + 1
theorem posF_le (O : List Int) (x : Int) : ∀ p, posF O x p ≤ p
  | 0 => Nat.le_refl 0
  | p + 1 => by
    have ih := posF_le O x p
    rw [posF]
    split
    · split <;> omega
    · omega
theorem posF_down {O : List Int} {x y : Int} {p : Nat} (hy : O[p]? = some y) (h : y > x) : posF O x (p + 1) = posF O x p := by rw [posF, hy]; simp only [if_pos h]
theorem posF_stop {O : List Int} {x y : Int} {p : Nat} (hy : O[p]? = some y) (h : ¬ y > x) : posF O x (p + 1) = p + 1 := by rw [posF, hy]; simp only [if_neg h]
theorem posF_above (O : List Int) (x : Int) : ∀ p j, posF O x p ≤ j → j < p → ∀ y, O[j]? = some y → x < y
  | 0, j, _, h, _, _ => absurd h (Nat.not_lt_zero _)
  | p + 1, j, h1, h2, y, hy => by
    rw [posF] at h1
    cases hp : O[p]? with
    | none =>
      rw [hp] at h1
      simp only at h1
      omega
    | some z =>
      rw [hp] at h1
      simp only at h1
      by_cases hz : z > x
      · rw [if_pos hz] at h1
        by_cases hjp : j = p
        · subst hjp; rw [hp] at hy; cases hy; exact hz
        · exact posF_above O x p j h1 (by omega) y hy
      · rw [if_neg hz] at h1; omega
theorem posF_below (O : List Int) (x : Int) : ∀ p, p ≤ O.length → ∀ q, posF O x p = q + 1 → ∃ y, O[q]? = some y ∧ y ≤ x
  | 0, _, q, h => by simp [posF] at h
  | p + 1, hp, q, h => by
    have hx : O[p]? = some O[p] := List.getElem?_eq_getElem (by omega)
    rw [posF, hx] at h
    simp only at h
    by_cases hz : O[p] > x
    · rw [if_pos hz] at h; exact posF_below O x p (by omega) q h
    · rw [if_neg hz] at h
      obtain rfl : p = q := by omega
      exact ⟨_, hx, by omega⟩
def insAt (O : List Int) (x : Int) : List Int := O.take (posF O x O.length) ++ [x] ++ O.drop (posF O x O.length)
theorem insAt_len (O : List Int) (x : Int) : (insAt O x).length = O.length + 1 := by
  have := posF_le O x O.length
  simp [insAt]; omega
theorem insAt_perm (O : List Int) (x : Int) : (insAt O x).Perm (x :: O) := by
  unfold insAt
  rw [List.append_assoc]
  refine (List.perm_middle (a := x) (l₁ := O.take _) (l₂ := O.drop _)).trans ?_
  rw [List.take_append_drop]
theorem insAt_sorted {O : List Int} (h : O.Pairwise (fun a b => a ≤ b)) (x : Int) : (insAt O x).Pairwise (fun a b => a ≤ b) := by
  have hs := List.pairwise_iff_getElem.1 h
  have hle := posF_le O x O.length
  unfold insAt
  rw [List.append_assoc, List.pairwise_append]
  refine ⟨h.sublist (List.take_sublist _ _), ?_, fun a ha b hb => ?_⟩
  · rw [List.singleton_append, List.pairwise_cons]
    refine ⟨fun b hb => ?_, h.sublist (List.drop_sublist _ _)⟩
    obtain ⟨j, hj, rfl⟩ := List.getElem_of_mem hb
    rw [List.getElem_drop]
    simp at hj
    have := posF_above O x O.length (posF O x O.length + j) (by omega) (by omega) _ (List.getElem?_eq_getElem (by omega))
    omega
  · obtain ⟨i, hi, rfl⟩ := List.getElem_of_mem ha
    rw [List.getElem_take]
    simp at hi
    have hax : O[i] ≤ x := by
      obtain ⟨q, hq⟩ : ∃ q, posF O x O.length = q + 1 := ⟨posF O x O.length - 1, by omega⟩
      obtain ⟨y, hy, hyx⟩ := posF_below O x O.length (Nat.le_refl _) q hq
      have hqy := (List.getElem?_eq_some_iff.1 hy)
      obtain ⟨hql, hqe⟩ := hqy
      by_cases e : i = q
      · subst e; omega
      · have := hs i q (by omega) hql (by omega)
        omega
    rw [List.singleton_append] at hb
    rcases List.mem_cons.1 hb with rfl | hb
    · exact hax
    · obtain ⟨j, hj, rfl⟩ := List.getElem_of_mem hb
      rw [List.getElem_drop]
      simp at hj
      have := posF_above O x O.length (posF O x O.length + j) (by omega) (by omega) _ (List.getElem?_eq_getElem (by omega))
      omega
/-- The first k sorted. -/
def isrt (L : List Int) : Nat → List Int
  | 0 => []
  | k + 1 => match L[k]? with
    | none => isrt L k
    | some x => insAt (isrt L k) x
theorem isrt_succ {L : List Int} {k : Nat} {x : Int} (hx : L[k]? = some x) : isrt L (k + 1) = insAt (isrt L k) x := by rw [isrt, hx]
theorem isrt_len (L : List Int) : ∀ k, k ≤ L.length → (isrt L k).length = k
  | 0, _ => rfl
  | k + 1, hk => by
    have hx : L[k]? = some L[k] := List.getElem?_eq_getElem (by omega)
    rw [isrt_succ hx, insAt_len, isrt_len L k (by omega)]
theorem isrt_sorted (L : List Int) : ∀ k, (isrt L k).Pairwise (fun a b => a ≤ b)
  | 0 => List.Pairwise.nil
  | k + 1 => by
    have ih := isrt_sorted L k
    rw [isrt]
    split
    · exact ih
    · exact insAt_sorted ih _
theorem isrt_perm (L : List Int) : ∀ k, (isrt L k).Perm (L.take k)
  | 0 => by simp [isrt]
  | k + 1 => by
    have ih := isrt_perm L k
    rw [isrt]
    split
    · rename_i h
      have hk : L.length ≤ k := List.getElem?_eq_none_iff.1 h
      rw [List.take_of_length_le (show L.length ≤ k + 1 by omega)]
      rw [List.take_of_length_le hk] at ih
      exact ih
    · rename_i x hx
      refine (insAt_perm _ x).trans ((ih.cons x).trans ?_)
      rw [List.take_add_one, hx]
      exact (List.perm_append_singleton x (L.take k)).symm
theorem isrt_eq (L : List Int) : isrt L L.length = L.mergeSort fun x y => decide (x ≤ y) := by
  have h1 := isrt_perm L L.length
  rw [List.take_length] at h1
  have h2 : (isrt L L.length).mergeSort leI = L.mergeSort leI := mergeSort_of_perm_i h1
  have h3 : (isrt L L.length).mergeSort leI = isrt L L.length := List.mergeSort_of_pairwise ((isrt_sorted L L.length).imp (by intro a b h; simpa [leI] using h))
  exact h3.symm.trans h2
end Go.Proofs.YtapfnelghmnajaaDoor
