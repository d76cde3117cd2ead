/-
  The fewest sieves, in plain words: of two orders of search the same is found. No program in sight.
-/
import Derived.Test.YtapfnelghmnajaaDoorSms1
import Derived.Test.YtapfnelghmnajaaDoorSet1
namespace Go.Proofs.YtapfnelghmnajaaDoor
open Go.RowKit

/-- Take it if it serves and is shorter. -/
def takeF (f : List Nat → Bool) (b C : List Nat) : List Nat := if (!C.isEmpty && (b.isEmpty || decide (C.length < b.length))) && f C then C else b
/-- The shortest that serves, the first of its length; up to length k. -/
def low (f : List Nat → Bool) (X : List (List Nat)) : Nat → Option (List Nat)
  | 0 => none
  | k + 1 => match low f X k with | some r => some r | none => X.find? (fun C => decide (C.length = k + 1) && f C)
theorem low_nil (f : List Nat → Bool) : ∀ k, low f [] k = none
  | 0 => rfl
  | k + 1 => by rw [low, low_nil f k]; rfl
theorem low_skip {f : List Nat → Bool} {C : List Nat} (X : List (List Nat)) : ∀ k, ¬ (f C = true ∧ 1 ≤ C.length ∧ C.length ≤ k) → low f (C :: X) k = low f X k
  | 0, _ => rfl
  | k + 1, h => by
    have ih := low_skip (f := f) (C := C) X k (fun ⟨h1, h2, h3⟩ => h ⟨h1, h2, by omega⟩)
    rw [low, low, ih]
    cases low f X k with
    | some r => rfl
    | none =>
      simp only []
      rw [List.find?_cons]
      cases hc : (decide (C.length = k + 1) && f C) with
      | false => rfl
      | true =>
        exfalso
        simp only [Bool.and_eq_true, decide_eq_true_eq] at hc
        exact h ⟨hc.2, by omega, by omega⟩
theorem low_take {f : List Nat → Bool} {C : List Nat} (X : List (List Nat)) (hf : f C = true) (h1 : 1 ≤ C.length) : ∀ k, C.length ≤ k → low f (C :: X) k = some ((low f X (C.length - 1)).getD C)
  | 0, h => by omega
  | k + 1, h => by
    by_cases hk : C.length ≤ k
    · have ih := low_take X hf h1 k hk
      rw [low, ih]
    · have he : C.length = k + 1 := by omega
      have hs := low_skip (f := f) (C := C) X k (fun ⟨_, _, h3⟩ => hk h3)
      rw [low, hs, he, Nat.add_sub_cancel]
      cases low f X k with
      | some r => rfl
      | none =>
        simp only []
        rw [List.find?_cons]
        simp [he, hf]
def bound (K : Nat) (b : List Nat) : Nat := if b.isEmpty then K else b.length - 1
theorem fold_low (f : List Nat → Bool) (K : Nat) : ∀ (X : List (List Nat)) (b : List Nat), (∀ C ∈ X, C.length ≤ K) → X.foldl (takeF f) b = (low f X (bound K b)).getD b
  | [], b, _ => by rw [low_nil]; rfl
  | C :: X, b, hX => by
    have ih := fun b => fold_low f K X b (fun C hC => hX C (by simp [hC]))
    have hCK := hX C (by simp)
    rw [List.foldl_cons, ih]
    unfold takeF
    cases hc : ((!C.isEmpty && (b.isEmpty || decide (C.length < b.length))) && f C) with
    | true =>
      simp only [Bool.and_eq_true, Bool.not_eq_true', Bool.or_eq_true, decide_eq_true_eq] at hc
      obtain ⟨⟨hn, hb⟩, hf⟩ := hc
      have h1 : 1 ≤ C.length := by cases C with | nil => cases hn | cons _ _ => simp
      have hle : C.length ≤ bound K b := by
        unfold bound
        rcases hb with hb | hb
        · rw [if_pos hb]; exact hCK
        · have : b.isEmpty = false := by cases b with | nil => simp at hb | cons _ _ => rfl
          rw [this]; simp only [Bool.false_eq_true, if_false]; omega
      rw [if_pos rfl, low_take X hf h1 _ hle, Option.getD_some]
      have hbd : bound K C = C.length - 1 := by unfold bound; rw [hn]; rfl
      rw [hbd]
    | false =>
      have hs : ¬ (f C = true ∧ 1 ≤ C.length ∧ C.length ≤ bound K b) := by
        rintro ⟨hf, h1, h2⟩
        have hn : C.isEmpty = false := by cases C with | nil => simp at h1 | cons _ _ => rfl
        rw [hn, hf] at hc
        simp only [Bool.not_false, Bool.true_and, Bool.and_true, Bool.or_eq_false_iff, decide_eq_false_iff_not] at hc
        unfold bound at h2
        rw [hc.1] at h2
        have hb := hc.2
        simp only [Bool.false_eq_true, if_false] at h2
        have : 1 ≤ b.length := by cases b with | nil => simp at hc | cons _ _ => simp
        omega
      rw [if_neg (by simp), low_skip X _ hs]
theorem find_filter (p q : List Nat → Bool) : ∀ X : List (List Nat), X.find? (fun C => p C && q C) = (X.filter p).find? q
  | [] => rfl
  | C :: X => by
    rw [List.find?_cons, List.filter_cons]
    cases hp : p C
    · simp only [Bool.false_and]
      rw [find_filter p q X]
      simp
    · rw [if_pos rfl, List.find?_cons, find_filter p q X]
      rfl
theorem low_same {f : List Nat → Bool} {X Y : List (List Nat)} : ∀ k, (∀ m, m ≤ k → X.filter (fun C => decide (C.length = m)) = Y.filter (fun C => decide (C.length = m))) → low f X k = low f Y k
  | 0, _ => rfl
  | k + 1, h => by
    rw [low, low, low_same k (fun m hm => h m (by omega))]
    rw [find_filter (fun C => decide (C.length = k + 1)), find_filter (fun C => decide (C.length = k + 1)), h (k + 1) (Nat.le_refl _)]

/-! ### The two orders -/
/-- What choose goes through from n - d on, behind C. -/
def lp (n : Nat) : Nat → List Nat → List (List Nat)
  | 0, _ => []
  | d + 1, C => (C ++ [n - (d + 1)]) :: (lp n d (C ++ [n - (d + 1)]) ++ lp n d C)
def idsTo (n bits : Nat) (i : Nat) : List Nat := (List.range i).filter fun j => decide (bits / 2 ^ (n - 1 - j) % 2 = 1)
def idsOf (n bits : Nat) : List Nat := idsTo n bits n
def refs (n r : Nat) : List (List Nat) := (List.range r).map fun j => idsOf n (2 ^ n - 1 - j)
theorem idsTo_succ (n bits i : Nat) : idsTo n bits (i + 1) = if bits / 2 ^ (n - 1 - i) % 2 = 1 then idsTo n bits i ++ [i] else idsTo n bits i := by
  unfold idsTo
  rw [List.range_succ, List.filter_append]
  by_cases h : bits / 2 ^ (n - 1 - i) % 2 = 1 <;> simp [h]
theorem idsTo_lt (n bits i : Nat) : ∀ k ∈ idsTo n bits i, k < i := fun k hk => by
  unfold idsTo at hk
  exact List.mem_range.1 (List.mem_filter.1 hk).1
theorem idsTo_len (n bits : Nat) : ∀ i, (idsTo n bits i).length ≤ i
  | 0 => by simp [idsTo]
  | i + 1 => by
    have := idsTo_len n bits i
    rw [idsTo_succ]
    split
    · simp; omega
    · omega
theorem refs_succ (n r : Nat) : refs n (r + 1) = refs n r ++ [idsOf n (2 ^ n - 1 - r)] := by simp [refs, List.range_succ]

theorem orders_same : ∀ n, n < 6 → ∀ m, m < 6 → (lp n n []).filter (fun C => decide (C.length = m)) = (refs n (2 ^ n - 1)).filter (fun C => decide (C.length = m)) := by decide +kernel
theorem orders_len : ∀ n, n < 6 → (∀ C ∈ lp n n [], C.length ≤ 5) ∧ ∀ C ∈ refs n (2 ^ n - 1), C.length ≤ 5 := by decide +kernel
theorem ids_ne : ∀ n, n < 6 → ∀ bits, bits < 32 → 0 < bits → bits < 2 ^ n → idsOf n bits ≠ [] := by decide +kernel
theorem fewest_same (f : List Nat → Bool) {n : Nat} (hn : n < 6) : (lp n n []).foldl (takeF f) [] = (refs n (2 ^ n - 1)).foldl (takeF f) [] := by
  obtain ⟨h1, h2⟩ := orders_len n hn
  rw [fold_low f 5 _ _ h1, fold_low f 5 _ _ h2, low_same (X := lp n n []) (Y := refs n (2 ^ n - 1)) _ (fun m hm => ?_)]
  exact orders_same n hn m (by unfold bound at hm; simp at hm; omega)

/-! ### Which lists serve -/
def someOf (S : List Int) (C : List Nat) : List Int := C.map fun k => S.getD k 0
def fineF (S : List Int) (T : List (List Int)) (C : List Nat) : Bool := eqL (partsL (someOf S C) T) (partsL S T)
def ci (C : List Nat) : List Int := C.map fun (k : Nat) => (k : Int)
theorem ci_len (C : List Nat) : (ci C).length = C.length := by simp [ci]
theorem ci_snoc (C : List Nat) (k : Nat) : ci (C ++ [k]) = ci C ++ [(k : Int)] := by simp [ci]
theorem someOf_snoc (S : List Int) (C : List Nat) (k : Nat) : someOf S (C ++ [k]) = someOf S C ++ [S.getD k 0] := by simp [someOf]
theorem someOf_len (S : List Int) (C : List Nat) : (someOf S C).length = C.length := by simp [someOf]
def refK (S : List Int) (T : List (List Int)) (r : Nat) : List Nat := (refs S.length r).foldl (takeF (fineF S T)) []
theorem refK_succ (S : List Int) (T : List (List Int)) (r : Nat) : refK S T (r + 1) = takeF (fineF S T) (refK S T r) (idsOf S.length (2 ^ S.length - 1 - r)) := by
  unfold refK
  rw [refs_succ, List.foldl_append]
  rfl
def fewK (S : List Int) (T : List (List Int)) : List Nat := refK S T (2 ^ S.length - 1)
def fewB (S : List Int) (T : List (List Int)) : Bool := setB S && decide (T.length ≤ 8) && T.all smpB
def fewL (S : List Int) (T : List (List Int)) : List Int := if fewB S T then ci (fewK S T) else []
theorem takeF_yes {f : List Nat → Bool} {b C : List Nat} (hC : C ≠ []) (hf : f C = true) (hb : b = [] ∨ C.length < b.length) : takeF f b C = C := by
  unfold takeF
  have h1 : C.isEmpty = false := by cases C with | nil => exact absurd rfl hC | cons _ _ => rfl
  have h2 : (b.isEmpty || decide (C.length < b.length)) = true := by
    rcases hb with rfl | h
    · rfl
    · simp [h]
  rw [h1, h2, hf]; rfl
theorem takeF_no {f : List Nat → Bool} {b C : List Nat} (h : f C = false ∨ (b ≠ [] ∧ ¬ C.length < b.length) ∨ C = []) : takeF f b C = b := by
  unfold takeF
  rcases h with h | ⟨h1, h2⟩ | rfl
  · simp [h]
  · have : b.isEmpty = false := by cases b with | nil => exact absurd rfl h1 | cons _ _ => rfl
    simp [this, h2]
  · rfl
theorem takeF_mem {f : List Nat → Bool} {P : List Nat → Prop} {b C : List Nat} (hb : P b) (hC : P C) : P (takeF f b C) := by
  unfold takeF; split <;> assumption
theorem parts_len (S : List Int) : ∀ (T : List (List Int)) (i : Nat), (ppre S T i).length = (ppre [] T i).length
  | T, 0 => rfl
  | T, i + 1 => by rw [ppre_succ, ppre_succ, List.length_append, List.length_append, prow_len, prow_len, parts_len S T i]
theorem partsL_len (S S' : List Int) (T : List (List Int)) : (partsL S T).length = (partsL S' T).length := by
  unfold partsL; rw [parts_len S, parts_len S']
theorem partsL_le (S : List Int) (T : List (List Int)) (h : T.length ≤ 8) : (partsL S T).length ≤ 64 := by
  have := ppre_len S T T.length h
  unfold partsL; omega
end Go.Proofs.YtapfnelghmnajaaDoor
