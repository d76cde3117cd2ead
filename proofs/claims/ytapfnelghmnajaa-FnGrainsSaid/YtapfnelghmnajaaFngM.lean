/-
  The plain facts of the law on grains: all grains are in the fractions, joined samples have the fractions of both, the told opening is the widest, broken grains have the size of the whole.
-/
import Derived.Test.YtapfnelghmnajaaFr3
import Derived.Test.YtapfnelghmnajaaJs1
namespace Go.Proofs.Ytapfnelghmnajaa
open Go.RowKit

def isum : List Int → Int
  | [] => 0
  | x :: L => x + isum L
theorem isum_append : ∀ (L M : List Int), isum (L ++ M) = isum L + isum M
  | [], M => by simp [isum]
  | x :: L, M => by rw [List.cons_append, isum, isum, isum_append L M]; omega
theorem isum_take {L : List Int} {k : Nat} {x : Int} (hx : L[k]? = some x) : isum (L.take (k + 1)) = isum (L.take k) + x := by
  obtain ⟨hk, he⟩ := List.getElem?_eq_some_iff.1 hx
  rw [List.take_succ_eq_append_getElem hk, he, isum_append]; simp [isum]
theorem isum_perm {L M : List Int} (h : L.Perm M) : isum L = isum M := by
  induction h with
  | nil => rfl
  | cons x _ ih => rw [isum, isum, ih]
  | swap x y l => simp only [isum]; omega
  | trans _ _ h1 h2 => rw [h1, h2]
theorem isum_bd {B : Int} : ∀ {L : List Int}, (∀ x ∈ L, 0 ≤ x ∧ x ≤ B) → 0 ≤ isum L ∧ isum L ≤ B * L.length
  | [], _ => by simp [isum]
  | x :: L, h => by
    have h1 := isum_bd (L := L) (fun y hy => h y (List.mem_cons_of_mem _ hy))
    have h2 := h x (by simp)
    rw [isum, List.length_cons]
    have : B * ((L.length + 1 : Nat) : Int) = B * L.length + B := by rw [Int.natCast_add, Int.mul_add]; simp
    omega
theorem isum_set : ∀ {C : List Int} {j : Nat}, j < C.length → isum (C.set j (C.getD j 0 + 1)) = isum C + 1
  | [], _, h => by simp at h
  | x :: C, 0, _ => by simp [isum]; omega
  | x :: C, j + 1, h => by
    have := isum_set (C := C) (j := j) (by simpa using h)
    simp only [List.set_cons_succ, isum, List.getD_cons_succ]
    omega
theorem isum_rep : ∀ n, isum (List.replicate n 0) = 0
  | 0 => rfl
  | n + 1 => by rw [List.replicate_succ, isum, isum_rep n]; rfl
theorem frL_sum (S L : List Int) : ∀ k, k ≤ L.length → isum (frL S L k) = k
  | 0, _ => by rw [frL, isum_rep]; rfl
  | k + 1, h => by
    have hx : L[k]? = some L[k] := List.getElem?_eq_getElem (by omega)
    rw [frL_succ hx, bumpL, isum_set (by rw [frL_len]; have := slotOf_le S L[k]; omega), frL_sum S L k (by omega)]
    omega
theorem frA_sum (S L : List Int) : isum (frA S L) = L.length := frL_sum S L _ (Nat.le_refl _)
def cntS (S L : List Int) (i : Nat) : Nat := L.countP fun x => slotOf S x == i
theorem frL_cnt (S L : List Int) : ∀ k, k ≤ L.length → ∀ i, i ≤ S.length → (frL S L k)[i]? = some ((cntS S (L.take k) i : Nat) : Int)
  | 0, _, i, hi => by
    rw [frL, List.getElem?_replicate, if_pos (by omega)]; simp [cntS]
  | k + 1, h, i, hi => by
    have hx : L[k]? = some L[k] := List.getElem?_eq_getElem (by omega)
    have ih := frL_cnt S L k (by omega)
    have hs := slotOf_le S L[k]
    have ht : cntS S (L.take (k + 1)) i = cntS S (L.take k) i + if slotOf S L[k] == i then 1 else 0 := by
      unfold cntS
      rw [List.take_succ_eq_append_getElem (by omega), List.countP_append, List.countP_singleton]
    rw [frL_succ hx, bumpL, List.getElem?_set, ht]
    by_cases e : slotOf S L[k] = i
    · subst e
      rw [if_pos rfl, if_pos (by rw [frL_len]; omega), List.getD_eq_getElem?_getD, ih _ hs]
      simp
    · rw [if_neg e, ih i hi]
      simp [e]
theorem frA_cnt (S L : List Int) {i : Nat} (hi : i ≤ S.length) : (frA S L)[i]? = some ((cntS S L i : Nat) : Int) := by
  have := frL_cnt S L L.length (Nat.le_refl _) i hi
  rwa [List.take_length] at this
theorem frA_join (S A B : List Int) {i : Nat} (hi : i < (frA S (sortL (A ++ B))).length) : ∃ x y z : Int, (frA S A)[i]? = some x ∧ (frA S B)[i]? = some y ∧ (frA S (sortL (A ++ B)))[i]? = some z ∧ x + y = z := by
  rw [frA_len] at hi
  refine ⟨_, _, _, frA_cnt S A (by omega), frA_cnt S B (by omega), frA_cnt S _ (by omega), ?_⟩
  have hp : (sortL (A ++ B)).Perm (A ++ B) := List.mergeSort_perm _ _
  have : cntS S (sortL (A ++ B)) i = cntS S A i + cntS S B i := by
    unfold cntS
    rw [hp.countP_eq, List.countP_append]
  rw [this]; omega
theorem fra_join {S A B : List Int} (h1 : jsU A B = true) (h2 : fraB S A = true) : fraB S B = true ∧ fraB S (jsR A B) = true ∧ fraL S A = frA S A ∧ fraL S B = frA S B ∧ fraL S (jsR A B) = frA S (sortL (A ++ B)) := by
  have h3 : jsB A B = true ∧ smpB (sortL (A ++ B)) = true := by simpa [jsU] using h1
  have h4 : smpB A = true ∧ smpB B = true := by simpa [jsB] using h3.1
  have h5 : setB S = true ∧ smpB A = true := by simpa [fraB] using h2
  have e1 : jsR A B = sortL (A ++ B) := by rw [jsR_yes h3.1, okL_yes h3.2]
  have e2 : fraB S B = true := by simp [fraB, h5.1, h4.2]
  have e3 : fraB S (jsR A B) = true := by rw [e1]; simp [fraB, h5.1, h3.2]
  exact ⟨e2, e3, fraL_yes h2, fraL_yes e2, by rw [fraL_yes e3, e1]⟩
theorem setB_one (o : Int) : setB [o] = inB o 1 200 := by
  have h1 : inB (1 : Int) 1 5 = true := by decide
  show (chain set1 set2 [o] && inB (1 : Int) 1 5) = _
  rw [h1, Bool.and_true]
  simp [chain, pairAt, set1]
theorem sfR_top {L : List Int} {p : Int} : ∀ (n : Nat) {o : Int}, sfR L p n = .tuple #[.int .i64 o, .bool true] → ∃ k : Nat, o = (k : Int) ∧ 1 ≤ k ∧ k ≤ n ∧ 100 * (frA [(k : Int)] L).getD 0 0 ≥ p * L.length ∧ ∀ j, k < j → j ≤ n → ¬ 100 * (frA [(j : Int)] L).getD 0 0 ≥ p * L.length
  | 0, o, h => by
    simp only [sfR, Value.tuple.injEq] at h
    have := congrArg (fun a : Array Value => a[1]?) h
    simp at this
  | n + 1, o, h => by
    rw [sfR] at h
    split at h
    · rename_i hc
      simp only [Value.tuple.injEq] at h
      have := congrArg (fun a : Array Value => a[0]?) h
      simp at this
      exact ⟨n + 1, by omega, by omega, Nat.le_refl _, hc, fun j h1 h2 => by omega⟩
    · rename_i hc
      obtain ⟨k, h1, h2, h3, h4, h5⟩ := sfR_top n h
      refine ⟨k, h1, h2, by omega, h4, fun j hj1 hj2 => ?_⟩
      by_cases e : j = n + 1
      · subst e; exact hc
      · exact h5 j hj1 (by omega)
theorem sf_plain {L : List Int} {p o : Int} (h : sfV L p = .tuple #[.int .i64 o, .bool true]) :
    (1 ≤ p ∧ p ≤ 100) ∧ (1 ≤ o ∧ o ≤ 200) ∧ fraB [o] L = true ∧ 100 * (frA [o] L).getD 0 0 ≥ p * L.length ∧ (fraB [o + 1] L = true → 100 * (frA [o + 1] L).getD 0 0 < p * L.length) ∧ L.length ≤ 20 := by
  unfold sfV at h
  split at h
  · rename_i hb
    rw [sfB, Bool.and_eq_true] at hb
    have hp := inB_iff.1 hb.2
    obtain ⟨k, rfl, h2, h3, h4, h5⟩ := sfR_top 200 h
    refine ⟨hp, by omega, ?_, h4, fun hw => ?_, (smpB_len hb.1).2⟩
    · simp only [fraB, setB_one, hb.1, Bool.and_true, inB_iff]; omega
    · have hw' : inB ((k : Int) + 1) 1 200 = true ∧ smpB L = true := by simpa [fraB, setB_one] using hw
      have := inB_iff.1 hw'.1
      have := h5 (k + 1) (by omega) (by omega)
      rw [show ((k + 1 : Nat) : Int) = (k : Int) + 1 by omega] at this
      omega
  · simp only [Value.tuple.injEq] at h
    have := congrArg (fun a : Array Value => a[1]?) h
    simp at this
theorem brkL_sum (L : List Int) (z : Int) : ∀ k, k ≤ L.length → isum (brkL L z k) = isum (L.take k)
  | 0, _ => by simp [brkL, isum]
  | k + 1, h => by
    have hx : L[k]? = some L[k] := List.getElem?_eq_getElem (by omega)
    rw [isum_take hx, ← brkL_sum L z k (by omega)]
    by_cases hz : L[k] > z
    · rw [brkL_two hx hz, isum_append]; simp only [isum]; omega
    · rw [brkL_one hx hz, isum_append]; simp only [isum]; omega
theorem smp_sum {L : List Int} (h : smpB L = true) : 0 ≤ isum L ∧ isum L ≤ 10000 := by
  have h1 := isum_bd (L := L) (B := 500) (fun x hx => by
    obtain ⟨k, hk, rfl⟩ := List.getElem_of_mem hx
    have := smpB_one h (List.getElem?_eq_getElem hk)
    omega)
  have := smpB_len h
  omega
theorem brk_plain {L : List Int} {z : Int} (h : brkU L z = true) : isum (brkR L z) = isum L ∧ smpB L = true ∧ smpB (brkR L z) = true := by
  have h1 : brkB L z = true ∧ smpB (sortL (brkL L z L.length)) = true := by simpa [brkU] using h
  have h2 : smpB L = true ∧ inB z 1 500 = true := by simpa [brkB] using h1.1
  have e : brkR L z = sortL (brkL L z L.length) := by rw [brkR_yes h1.1, okL_yes h1.2]
  refine ⟨?_, h2.1, by rw [e]; exact h1.2⟩
  rw [e, isum_perm (show (sortL (brkL L z L.length)).Perm _ from List.mergeSort_perm _ _), brkL_sum L z _ (Nat.le_refl _), List.take_length]
end Go.Proofs.Ytapfnelghmnajaa
