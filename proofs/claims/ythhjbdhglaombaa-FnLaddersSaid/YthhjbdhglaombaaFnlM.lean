/-
  The plain facts of the law on joined ladders: what stands on a rung of two ladders together stands on both.
-/
import Derived.Test.YthhjbdhglaombaaFnrM
import Derived.Test.YthhjbdhglaombaaJoin1
import Derived.Test.YthhjbdhglaombaaOff1
namespace Go.Proofs.Ythhjbdhglaombaa
open Go.RowKit

theorem jnL_get {a b : List (Int × Int)} : ∀ n, n ≤ a.length → n ≤ b.length → (jnL a b n).length = n ∧ ∀ (k : Nat) (x y : Int × Int), k < n → a[k]? = some x → b[k]? = some y → (jnL a b n)[k]? = some (max x.1 y.1, min x.2 y.2)
  | 0, _, _ => ⟨rfl, fun k x y h => by omega⟩
  | n + 1, ha, hb => by
    obtain ⟨ih1, ih2⟩ := jnL_get (a := a) (b := b) n (by omega) (by omega)
    have hx : a[n]? = some a[n] := List.getElem?_eq_getElem (by omega)
    have hy : b[n]? = some b[n] := List.getElem?_eq_getElem (by omega)
    rw [jnL_succ hx hy]
    refine ⟨by simp [ih1], fun k x y hk h1 h2 => ?_⟩
    by_cases e : k = n
    · subst e
      rw [hx] at h1; rw [hy] at h2; cases h1; cases h2
      rw [List.getElem?_append_right (by omega), ih1]; simp
    · rw [List.getElem?_append_left (by omega)]
      exact ih2 k x y (by omega) h1 h2
theorem jnU_parts {a b : List (Int × Int)} (h : jnU a b = true) : ladB a = true ∧ ladB b = true ∧ a.length = b.length ∧ ladB (jnL a b a.length) = true := by
  simp only [jnU, Bool.and_eq_true, decide_eq_true_eq] at h
  exact ⟨h.1.1.1, h.1.1.2, h.1.2, h.2⟩
theorem joins_run {a b : List (Int × Int)} (h : jnU a b = true) (x s : Int) : runB a x s = briB x s ∧ runB b x s = briB x s ∧ runB (jnR a b) x s = briB x s := by
  obtain ⟨h1, h2, h3, h4⟩ := jnU_parts h
  rw [jnR_yes h]
  refine ⟨?_, ?_, ?_⟩
  · rw [runB, h1, Bool.true_and]
  · rw [runB, h2, Bool.true_and]
  · rw [runB, h4, Bool.true_and]
theorem staB_join {p q : Int × Int} {x s : Int} (h : briB x s = true) : staB (max p.1 q.1) (min p.2 q.2) x s = (staB p.1 p.2 x s && staB q.1 q.2 x s) := by
  have hm : 0 ≤ x + s := by
    simp only [briB, inB, Bool.and_eq_true, decide_eq_true_eq] at h; omega
  have e1 : max p.1 q.1 * (x + s) = max (p.1 * (x + s)) (q.1 * (x + s)) := by
    rcases Int.le_total p.1 q.1 with h1 | h1
    · rw [Int.max_eq_right h1, Int.max_eq_right (Int.mul_le_mul_of_nonneg_right h1 hm)]
    · rw [Int.max_eq_left h1, Int.max_eq_left (Int.mul_le_mul_of_nonneg_right h1 hm)]
  have e2 : min p.2 q.2 * (x + s) = min (p.2 * (x + s)) (q.2 * (x + s)) := by
    rcases Int.le_total p.2 q.2 with h1 | h1
    · rw [Int.min_eq_left h1, Int.min_eq_left (Int.mul_le_mul_of_nonneg_right h1 hm)]
    · rw [Int.min_eq_right h1, Int.min_eq_right (Int.mul_le_mul_of_nonneg_right h1 hm)]
  unfold staB
  rw [e1, e2]
  generalize p.1 * (x + s) = t1
  generalize q.1 * (x + s) = t2
  generalize p.2 * (x + s) = t3
  generalize q.2 * (x + s) = t4
  generalize 1000 * s = S
  rw [Bool.eq_iff_iff]
  simp only [inB, Bool.and_eq_true, decide_eq_true_eq]
  omega
theorem joins_has {a b : List (Int × Int)} (h : jnU a b = true) {x s : Int} (hr : briB x s = true) {k : Nat} (hk : k < (jnR a b).length) :
    hasB (runL (jnR a b) x s) k = (hasB (runL a x s) k && hasB (runL b x s) k) := by
  obtain ⟨h1, h2, h3, h4⟩ := jnU_parts h
  obtain ⟨r1, r2, r3⟩ := joins_run h x s
  rw [hr] at r1 r2 r3
  obtain ⟨g1, g2⟩ := jnL_get (a := a) (b := b) a.length (Nat.le_refl _) (by omega)
  rw [jnR_yes h, g1] at hk
  have ha : a[k]? = some a[k] := List.getElem?_eq_getElem hk
  have hb : b[k]? = some b[k] := List.getElem?_eq_getElem (by omega)
  have hj : (jnR a b)[k]? = some (max a[k].1 b[k].1, min a[k].2 b[k].2) := by rw [jnR_yes h]; exact g2 k _ _ hk ha hb
  rw [has_run ha r1, has_run hb r2, has_run hj r3]
  exact staB_join hr
end Go.Proofs.Ythhjbdhglaombaa
