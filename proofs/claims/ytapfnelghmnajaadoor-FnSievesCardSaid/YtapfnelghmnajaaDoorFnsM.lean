/-
  The plain facts of the law on sieves: without a sieve its grains stay on the next one; the fewest sieves are some of the set.
-/
import Derived.Test.YtapfnelghmnajaaDoorWs1
import Derived.Test.YtapfnelghmnajaaDoorSms2
namespace Go.Proofs.YtapfnelghmnajaaDoor
open Go.RowKit

def Decr (S : List Int) : Prop := ∀ (k : Nat) (a b : Int), S[k]? = some a → S[k + 1]? = some b → b < a
theorem Decr.tail {y : Int} {S : List Int} (h : Decr (y :: S)) : Decr S := fun k a b ha hb => h (k + 1) a b (by simpa using ha) (by simpa using hb)
theorem setB_decr {S : List Int} (h : setB S = true) : Decr S := fun k a b ha hb => by
  rw [setB, Bool.and_eq_true] at h
  have := chain_two h.1 hb ha
  simpa [set2] using this
theorem slotOf_no : ∀ (S : List Int) (q : Nat) (x : Int), Decr S → q < S.length → slotOf (noAt S q) x = if slotOf S x ≤ q then slotOf S x else slotOf S x - 1
  | [], q, x, _, h => by simp at h
  | y :: S, 0, x, h, _ => by
    have e : noAt (y :: S) 0 = S := by simp [noAt]
    rw [e, slotOf]
    by_cases hx : x < y
    · rw [if_pos hx]; simp
    · rw [if_neg hx]
      simp only [Nat.le_refl, if_true]
      cases S with
      | nil => rfl
      | cons z S =>
        have : z < y := h 0 y z rfl rfl
        rw [slotOf, if_neg (by omega)]
  | y :: S, q + 1, x, h, hq => by
    have e : noAt (y :: S) (q + 1) = y :: noAt S q := by simp [noAt]
    rw [e, slotOf, slotOf]
    by_cases hx : x < y
    · rw [if_pos hx, if_pos hx, slotOf_no S q x h.tail (by simpa using hq)]
      by_cases h1 : slotOf S x ≤ q
      · rw [if_pos h1, if_pos (by omega)]
      · rw [if_neg h1, if_neg (by omega)]; omega
    · rw [if_neg hx, if_neg hx]; simp
def cntS (S L : List Int) (i : Nat) : Nat := L.countP fun x => slotOf S x == i
theorem frL_cnt (S L : List Int) : ∀ k, k ≤ L.length → ∀ i, i ≤ S.length → (frL S L k)[i]? = some ((cntS S (L.take k) i : Nat) : Int)
  | 0, _, i, hi => by
    rw [frL, List.getElem?_replicate, if_pos (by omega)]; simp [cntS]
  | k + 1, h, i, hi => by
    have hx : L[k]? = some L[k] := List.getElem?_eq_getElem (by omega)
    have ih := frL_cnt S L k (by omega)
    have hs := slotOf_le S L[k]
    have ht : cntS S (L.take (k + 1)) i = cntS S (L.take k) i + if slotOf S L[k] == i then 1 else 0 := by
      unfold cntS
      rw [List.take_succ_eq_append_getElem (by omega), List.countP_append, List.countP_singleton]
    rw [frL_succ hx, bumpL, List.getElem?_set, ht]
    by_cases e : slotOf S L[k] = i
    · subst e
      rw [if_pos rfl, if_pos (by rw [frL_len]; omega), List.getD_eq_getElem?_getD, ih _ hs]
      simp
    · rw [if_neg e, ih i hi]
      simp [e]
theorem frA_cnt (S L : List Int) {i : Nat} (hi : i ≤ S.length) : (frA S L)[i]? = some ((cntS S L i : Nat) : Int) := by
  have := frL_cnt S L L.length (Nat.le_refl _) i hi
  rwa [List.take_length] at this
theorem cnt_no {S : List Int} {q : Nat} (h : Decr S) (hq : q < S.length) : ∀ L : List Int, cntS (noAt S q) L q = cntS S L q + cntS S L (q + 1)
  | [] => rfl
  | x :: L => by
    have ih := cnt_no h hq L
    unfold cntS at ih ⊢
    rw [List.countP_cons, List.countP_cons, List.countP_cons, ih, slotOf_no S q x h hq]
    by_cases h1 : slotOf S x ≤ q
    · rw [if_pos h1]
      have h2 : (slotOf S x == q + 1) = false := by rw [beq_eq_false_iff_ne]; omega
      rw [h2]
      simp only [Bool.false_eq_true, if_false]
      omega
    · rw [if_neg h1]
      have h2 : (slotOf S x == q) = false := by rw [beq_eq_false_iff_ne]; omega
      have h3 : (slotOf S x - 1 == q) = (slotOf S x == q + 1) := by
        by_cases e : slotOf S x = q + 1
        · rw [e]; simp
        · have e2 : ¬ slotOf S x - 1 = q := by omega
          rw [beq_eq_false_iff_ne.2 e, beq_eq_false_iff_ne.2 e2]
      rw [h2, h3]
      simp only [Bool.false_eq_true, if_false]
      omega
theorem ws_plain {S L : List Int} {k : Int} (h : wsB S L k = true) : fraB S L = true ∧ fraL S L = frA S L ∧ (frA S L).length = (wsR S L k).length + 1 ∧
    ∃ q : Nat, k = (q : Int) ∧ q + 1 < (frA S L).length ∧ ∃ x y : Int, (frA S L)[q]? = some x ∧ (frA S L)[q + 1]? = some y ∧ (wsR S L k)[q]? = some (x + y) ∧ (0 ≤ x ∧ x ≤ 20) ∧ 0 ≤ y ∧ y ≤ 20 := by
  have h0 := h
  simp only [wsB, Bool.and_eq_true] at h0
  obtain ⟨⟨⟨h1, h2⟩, h3⟩, _⟩ := h0
  have hk := inB_iff.1 h3
  obtain ⟨q, rfl⟩ := Int.eq_ofNat_of_zero_le hk.1
  have hq : q < S.length := by omega
  have hf : fraB S L = true := by simp [fraB, h1, h2]
  have hL := smpB_len h2
  have hr : wsR S L q = frA (noAt S q) L := by rw [wsR_yes h, Int.toNat_natCast]
  have e1 := frA_cnt S L (i := q) (by omega)
  have e2 := frA_cnt S L (i := q + 1) (by omega)
  have e3 := frA_cnt (noAt S q) L (i := q) (by rw [noAt_len hq]; omega)
  rw [cnt_no (setB_decr h1) hq] at e3
  have b1 := frA_bd S L (List.mem_of_getElem? e1)
  have b2 := frA_bd S L (List.mem_of_getElem? e2)
  refine ⟨hf, fraL_yes hf, by rw [hr, frA_len, frA_len, noAt_len hq]; omega, q, rfl, by rw [frA_len]; omega, _, _, e1, e2, by rw [hr, e3, Int.natCast_add], ⟨by omega, by omega⟩, by omega, by omega⟩

/-! ### The fewest sieves -/
theorem ids_all : ∀ n, n < 6 → idsOf n (2 ^ n - 1) = List.range n := by decide +kernel
theorem some_all (S : List Int) : someOf S (List.range S.length) = S := by
  apply List.ext_getElem?
  intro k
  unfold someOf
  rw [List.getElem?_map]
  by_cases hk : k < S.length
  · rw [List.getElem?_range hk]
    simp [hk]
  · rw [List.getElem?_eq_none (by simp; omega), List.getElem?_eq_none (by omega)]; rfl
theorem takeF_keep {f : List Nat → Bool} {n : Nat} {b C : List Nat} (hb : b ≠ [] ∧ b.length ≤ n) (hC : C.length ≤ n) : takeF f b C ≠ [] ∧ (takeF f b C).length ≤ n := by
  unfold takeF
  split
  · rename_i h
    simp only [Bool.and_eq_true, Bool.not_eq_true'] at h
    exact ⟨fun e => by rw [e] at h; simp at h, hC⟩
  · exact hb
theorem fold_keep {f : List Nat → Bool} {n : Nat} : ∀ (X : List (List Nat)) (b : List Nat), (b ≠ [] ∧ b.length ≤ n) → (∀ C ∈ X, C.length ≤ n) → X.foldl (takeF f) b ≠ [] ∧ (X.foldl (takeF f) b).length ≤ n
  | [], _, hb, _ => hb
  | C :: X, b, hb, hX => by
    rw [List.foldl_cons]
    exact fold_keep X _ (takeF_keep hb (hX C (by simp))) (fun D hD => hX D (by simp [hD]))
theorem few_plain {S : List Int} {T : List (List Int)} (h : fewB S T = true) : 1 ≤ (fewL S T).length ∧ (fewL S T).length ≤ S.length := by
  have h1 : setB S = true := by simp [fewB] at h; exact h.1.1
  have hn := setB_len h1
  have hl : fewL S T = ci (fewK S T) := by simp [fewL, h]
  rw [hl, ci_len]
  obtain ⟨r, hr⟩ : ∃ r, 2 ^ S.length - 1 = r + 1 := ⟨2 ^ S.length - 2, by
    have h2 : 2 ≤ 2 ^ S.length := Nat.le_trans (by decide) (Nat.pow_le_pow_right (n := 2) (by omega) hn.1)
    generalize 2 ^ S.length = z at h2
    omega⟩
  have hC0 : idsOf S.length (2 ^ S.length - 1) = List.range S.length := ids_all S.length (by omega)
  have hne : idsOf S.length (2 ^ S.length - 1) ≠ [] := by rw [hC0]; intro e; have := congrArg List.length e; rw [List.length_range, List.length_nil] at this; omega
  have hf : fineF S T (idsOf S.length (2 ^ S.length - 1)) = true := by rw [hC0, fineF, some_all, eqL_refl]
  have key : fewK S T ≠ [] ∧ (fewK S T).length ≤ S.length := by
    unfold fewK refK
    rw [hr]
    unfold refs
    rw [List.range_succ_eq_map, List.map_cons, List.foldl_cons, Nat.sub_zero, takeF_yes hne hf (.inl rfl)]
    refine fold_keep _ _ ⟨hne, idsTo_len _ _ _⟩ fun C hC => ?_
    simp only [List.map_map, List.mem_map] at hC
    obtain ⟨j, _, rfl⟩ := hC
    exact idsTo_len _ _ _
  refine ⟨List.length_pos_iff.2 key.1, key.2⟩
end Go.Proofs.YtapfnelghmnajaaDoor
