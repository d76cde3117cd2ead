/-
  MostWith, in plain words: two insertion sorts that give one order; what is taken in it.
-/
import Derived.Test.YtjpoaiiminofdaaBit1
import Derived.Sort.LotA
namespace Go.Proofs.Ytjpoaiiminofdaa
open Go.RowKit

abbrev B3 := Int × Int × Int
/-- By bitterness, then by id. -/
def lexB (x y : B3) : Prop := x.2.2 < y.2.2 ∨ (x.2.2 = y.2.2 ∧ x.1 < y.1)
/-- Where x goes among the first p: behind the last that is not more bitter. -/
def posM (O : List B3) (x : B3) : Nat → Nat
  | 0 => 0
  | p + 1 => match O[p]? with
    | some y => if y.2.2 > x.2.2 then posM O x p else p + 1
    | none => p + 1
theorem posM_le (O : List B3) (x : B3) : ∀ p, posM O x p ≤ p
  | 0 => Nat.le_refl 0
  | p + 1 => by
    have ih := posM_le O x p
    rw [posM]
    split
    · split <;> omega
    · omega
theorem posM_down {O : List B3} {x y : B3} {p : Nat} (hy : O[p]? = some y) (h : y.2.2 > x.2.2) : posM O x (p + 1) = posM O x p := by rw [posM, hy]; simp only [if_pos h]
theorem posM_stop {O : List B3} {x y : B3} {p : Nat} (hy : O[p]? = some y) (h : ¬ y.2.2 > x.2.2) : posM O x (p + 1) = p + 1 := by rw [posM, hy]; simp only [if_neg h]
theorem posM_above (O : List B3) (x : B3) : ∀ p j, posM O x p ≤ j → j < p → ∀ y, O[j]? = some y → x.2.2 < y.2.2
  | 0, j, _, h, _, _ => absurd h (Nat.not_lt_zero _)
  | p + 1, j, h1, h2, y, hy => by
    rw [posM] at h1
    cases hp : O[p]? with
    | none => rw [hp] at h1; simp only at h1; omega
    | some z =>
      rw [hp] at h1
      simp only at h1
      by_cases hz : z.2.2 > x.2.2
      · rw [if_pos hz] at h1
        by_cases hjp : j = p
        · subst hjp; rw [hp] at hy; cases hy; exact hz
        · exact posM_above O x p j h1 (by omega) y hy
      · rw [if_neg hz] at h1; omega
theorem posM_below (O : List B3) (x : B3) : ∀ p, p ≤ O.length → ∀ q, posM O x p = q + 1 → ∃ y, O[q]? = some y ∧ y.2.2 ≤ x.2.2
  | 0, _, q, h => by simp [posM] at h
  | p + 1, hp, q, h => by
    have hx : O[p]? = some O[p] := List.getElem?_eq_getElem (by omega)
    rw [posM, hx] at h
    simp only at h
    by_cases hz : O[p].2.2 > x.2.2
    · rw [if_pos hz] at h; exact posM_below O x p (by omega) q h
    · rw [if_neg hz] at h
      obtain rfl : p = q := by omega
      exact ⟨_, hx, by omega⟩
def insM (O : List B3) (x : B3) : List B3 := O.take (posM O x O.length) ++ [x] ++ O.drop (posM O x O.length)
theorem insM_len (O : List B3) (x : B3) : (insM O x).length = O.length + 1 := by
  have := posM_le O x O.length
  simp [insM]; omega
theorem insM_perm (O : List B3) (x : B3) : (insM O x).Perm (x :: O) := by
  unfold insM
  rw [List.append_assoc]
  refine (List.perm_middle (a := x) (l₁ := O.take _) (l₂ := O.drop _)).trans ?_
  rw [List.take_append_drop]
theorem insM_sorted {O : List B3} {x : B3} (h : O.Pairwise lexB) (hid : ∀ y ∈ O, y.1 < x.1) : (insM O x).Pairwise lexB := by
  have hs := List.pairwise_iff_getElem.1 h
  have hle := posM_le O x O.length
  unfold insM
  rw [List.append_assoc, List.pairwise_append]
  refine ⟨h.sublist (List.take_sublist _ _), ?_, fun a ha b hb => ?_⟩
  · rw [List.singleton_append, List.pairwise_cons]
    refine ⟨fun b hb => ?_, h.sublist (List.drop_sublist _ _)⟩
    obtain ⟨j, hj, rfl⟩ := List.getElem_of_mem hb
    rw [List.getElem_drop]
    simp at hj
    have := posM_above O x O.length (posM O x O.length + j) (by omega) (by omega) _ (List.getElem?_eq_getElem (by omega))
    exact .inl this
  · obtain ⟨i, hi, rfl⟩ := List.getElem_of_mem ha
    rw [List.getElem_take]
    simp at hi
    have hax : O[i].2.2 ≤ x.2.2 := by
      obtain ⟨q, hq⟩ : ∃ q, posM O x O.length = q + 1 := ⟨posM O x O.length - 1, by omega⟩
      obtain ⟨y, hy, hyx⟩ := posM_below O x O.length (Nat.le_refl _) q hq
      obtain ⟨hql, hqe⟩ := List.getElem?_eq_some_iff.1 hy
      by_cases e : i = q
      · subst e; rw [hqe]; exact hyx
      · have := hs i q (by omega) hql (by omega)
        rw [hqe] at this
        rcases this with h | ⟨h, _⟩ <;> omega
    have hidx := hid O[i] (List.getElem_mem _)
    rw [List.singleton_append] at hb
    rcases List.mem_cons.1 hb with rfl | hb
    · rcases Int.lt_or_eq_of_le hax with h | h
      · exact .inl h
      · exact .inr ⟨h, hidx⟩
    · obtain ⟨j, hj, rfl⟩ := List.getElem_of_mem hb
      rw [List.getElem_drop]
      simp at hj
      exact hs i (posM O x O.length + j) (by omega) (by omega) (by omega)
/-- The first k casks in order. -/
def ordM (L : List B3) : Nat → List B3
  | 0 => []
  | k + 1 => match L[k]? with
    | some x => insM (ordM L k) x
    | none => ordM L k
theorem ordM_succ {L : List B3} {k : Nat} {x : B3} (hx : L[k]? = some x) : ordM L (k + 1) = insM (ordM L k) x := by rw [ordM, hx]
theorem ordM_perm (L : List B3) : ∀ k, k ≤ L.length → (ordM L k).Perm (L.take k)
  | 0, _ => by simp [ordM]
  | k + 1, hk => by
    have hx : L[k]? = some L[k] := List.getElem?_eq_getElem (by omega)
    rw [ordM_succ hx]
    refine (insM_perm _ _).trans ?_
    refine ((ordM_perm L k (by omega)).cons L[k]).trans ?_
    rw [List.take_add_one, hx]
    exact (List.perm_append_singleton L[k] (L.take k)).symm
theorem ordM_len (L : List B3) (k : Nat) (hk : k ≤ L.length) : (ordM L k).length = k := by
  rw [(ordM_perm L k hk).length_eq, List.length_take]; omega
theorem bitB_asc {L : List B3} (h : bitB L = true) {i j : Nat} {x y : B3} (hx : L[i]? = some x) (hy : L[j]? = some y) (hij : i < j) : x.1 < y.1 := by
  have hc : chain bit1 bit2 L = true := by rw [bitB, Bool.and_eq_true] at h; exact h.1
  have key : ∀ d i x y, L[i]? = some x → L[i + 1 + d]? = some y → x.1 < y.1 := by
    intro d
    induction d with
    | zero =>
      intro i x y hx hy
      have := chain_two hc hy hx
      simpa [bit2] using this
    | succ d ih =>
      intro i x y hx hy
      obtain ⟨z, hz⟩ : ∃ z, L[i + 1 + d]? = some z := ⟨_, List.getElem?_eq_getElem (by have := (List.getElem?_eq_some_iff.1 hy).1; omega)⟩
      have h1 := ih i x z hx hz
      have h2 := chain_two hc (k := i + 1 + d) (x := y) (p := z) (by rw [← hy]; congr 1) hz
      have : z.1 < y.1 := by simpa [bit2] using h2
      omega
  exact key (j - (i + 1)) i x y hx (by rw [← hy]; congr 1; omega)
theorem ordM_sorted {L : List B3} (h : bitB L = true) : ∀ k, k ≤ L.length → (ordM L k).Pairwise lexB
  | 0, _ => List.Pairwise.nil
  | k + 1, hk => by
    have hx : L[k]? = some L[k] := List.getElem?_eq_getElem (by omega)
    rw [ordM_succ hx]
    refine insM_sorted (ordM_sorted h k (by omega)) fun y hy => ?_
    have hy2 := (ordM_perm L k (by omega)).mem_iff.1 hy
    obtain ⟨i, hi, rfl⟩ := List.getElem_of_mem hy2
    rw [List.getElem_take]
    simp at hi
    exact bitB_asc h (List.getElem?_eq_getElem (by omega)) hx (by omega)
theorem lex_uniq {A B : List B3} (hp : A.Perm B) (hA : A.Pairwise lexB) (hB : B.Pairwise lexB) : A = B :=
  List.Perm.eq_of_pairwise (fun a b _ _ h1 h2 => by
    rcases h1 with h1 | ⟨h1, h3⟩ <;> rcases h2 with h2 | ⟨h2, h4⟩ <;> omega) hA hB hp

/-! ### The library's insertion sort with two orders that agree where it asks -/
section
variable {α : Type} [Inhabited α] {l1 l2 : α → α → Bool}
theorem swp_at {d : Array α} {i j : Nat} (hi : i < d.size) (hj : j < d.size) (k : Nat) (hk : k < d.size) : (Sort.swp d i j)[k]! = if k = j then d[i]! else if k = i then d[j]! else d[k]! := by
  unfold Sort.swp
  by_cases h1 : k = j
  · rw [if_pos h1, h1, Sort.getElem!_set_same _ _ _ (by simpa using hj)]
  · rw [if_neg h1, Sort.getElem!_set_other _ _ _ _ h1]
    by_cases h2 : k = i
    · rw [if_pos h2, h2, Sort.getElem!_set_same _ _ _ hi]
    · rw [if_neg h2, Sort.getElem!_set_other _ _ _ _ h2]
theorem swp_size (d : Array α) (i j : Nat) : (Sort.swp d i j).size = d.size := by simp [Sort.swp]
theorem inner_size (a : Nat) : ∀ (j : Nat) (d : Array α), (Sort.insInner l1 a j d).size = d.size
  | 0, d => rfl
  | j + 1, d => by
    unfold Sort.insInner
    split
    · rw [inner_size a j, swp_size]
    · rfl
/-- Where the elements have gone: none beyond j is touched; each comes from among the first. -/
theorem inner_from (a : Nat) : ∀ (j : Nat) (d : Array α), j < d.size → (∀ k, j < k → k < d.size → (Sort.insInner l1 a j d)[k]! = d[k]!) ∧ ∀ k, k ≤ j → ∃ k', k' ≤ j ∧ (Sort.insInner l1 a j d)[k]! = d[k']!
  | 0, d, _ => ⟨fun _ _ _ => rfl, fun k hk => ⟨k, hk, rfl⟩⟩
  | j + 1, d, hj => by
    unfold Sort.insInner
    split
    · obtain ⟨h1, h2⟩ := inner_from a j (Sort.swp d (j + 1) j) (by rw [swp_size]; omega)
      refine ⟨fun k hk hks => ?_, fun k hk => ?_⟩
      · rw [h1 k (by omega) (by rw [swp_size]; exact hks), swp_at hj (by omega) k hks, if_neg (by omega), if_neg (by omega)]
      · by_cases e : k = j + 1
        · rw [h1 k (by omega) (by rw [swp_size]; omega), swp_at hj (by omega) k (by omega), if_neg (by omega), if_pos e]
          exact ⟨j, by omega, rfl⟩
        · obtain ⟨k', hk', e'⟩ := h2 k (by omega)
          rw [e', swp_at hj (by omega) k' (by omega)]
          by_cases e2 : k' = j
          · rw [if_pos e2]; exact ⟨j + 1, Nat.le_refl _, rfl⟩
          · rw [if_neg e2, if_neg (by omega)]; exact ⟨k', by omega, rfl⟩
    · exact ⟨fun _ _ _ => rfl, fun k hk => ⟨k, hk, rfl⟩⟩
theorem inner_eq (a : Nat) : ∀ (j : Nat) (d : Array α), j < d.size → (∀ k, k < j → l1 d[j]! d[k]! = l2 d[j]! d[k]!) → Sort.insInner l1 a j d = Sort.insInner l2 a j d
  | 0, d, _, _ => rfl
  | j + 1, d, hj, h => by
    have hsw := inner_eq a j (Sort.swp d (j + 1) j) (by rw [swp_size]; omega) fun k hk => by
      rw [swp_at hj (by omega) j (by omega), if_pos rfl, swp_at hj (by omega) k (by omega), if_neg (by omega), if_neg (by omega)]
      exact h k (by omega)
    unfold Sort.insInner
    rw [h j (by omega), hsw]
theorem outer_eq (b : Nat) : ∀ (n i : Nat) (d : Array α), n = b - i → b ≤ d.size → (∀ j k, i ≤ j → j < b → k < j → l1 d[j]! d[k]! = l2 d[j]! d[k]!) → Sort.insOuter l1 0 b i d = Sort.insOuter l2 0 b i d
  | 0, i, d, hn, _, _ => by
    have h1 : Sort.insOuter l1 0 b i d = d := by rw [Sort.insOuter, if_neg (by omega)]
    have h2 : Sort.insOuter l2 0 b i d = d := by rw [Sort.insOuter, if_neg (by omega)]
    rw [h1, h2]
  | n + 1, i, d, hn, hb, h => by
    have h1 : Sort.insOuter l1 0 b i d = Sort.insOuter l1 0 b (i + 1) (Sort.insInner l1 0 i d) := by rw [Sort.insOuter, if_pos (by omega)]
    have h2 : Sort.insOuter l2 0 b i d = Sort.insOuter l2 0 b (i + 1) (Sort.insInner l2 0 i d) := by rw [Sort.insOuter, if_pos (by omega)]
    rw [h1, h2]
    rw [inner_eq 0 i d (by omega) (fun k hk => h i k (Nat.le_refl _) (by omega) hk)]
    refine outer_eq b n (i + 1) _ (by omega) (by rw [inner_size]; exact hb) fun j k hj hjb hk => ?_
    obtain ⟨f1, f2⟩ := inner_from (l1 := l2) 0 i d (by omega)
    rw [f1 j (by omega) (by omega)]
    by_cases hki : k ≤ i
    · obtain ⟨k', hk', e⟩ := f2 k hki
      rw [e]
      exact h j k' (by omega) hjb (by omega)
    · rw [f1 k (by omega) (by omega)]
      exact h j k (by omega) hjb hk
theorem insSort_eq (d : Array α) (h : ∀ j k, j < d.size → k < j → l1 d[j]! d[k]! = l2 d[j]! d[k]!) : Sort.insertionSort l1 d 0 d.size = Sort.insertionSort l2 d 0 d.size :=
  outer_eq d.size _ 1 d rfl (Nat.le_refl _) fun j k _ hj hk => h j k hj hk
end

/-! ### What is taken -/
def stepM (q : Int) (s : Int × Int) (b : B3) : Int × Int :=
  let n := if b.2.2 < q then min b.2.1 (s.2.tdiv (q - b.2.2)) else b.2.1
  (s.1 + n, s.2 + n * (b.2.2 - q))
/-- Behind the last k casks of the order. -/
def mwK (S : List B3) (q : Int) : Nat → Int × Int
  | 0 => (0, 0)
  | k + 1 => match S[S.length - 1 - k]? with
    | some b => stepM q (mwK S q k) b
    | none => mwK S q k
theorem mwK_succ {S : List B3} {q : Int} {k : Nat} {b : B3} (hb : S[S.length - 1 - k]? = some b) : mwK S q (k + 1) = stepM q (mwK S q k) b := by rw [mwK, hb]
def mwOk (b : B3) : Prop := (0 ≤ b.2.1 ∧ b.2.1 ≤ 10000) ∧ 0 ≤ b.2.2 ∧ b.2.2 ≤ 1000
theorem stepM_bd {q : Int} {s : Int × Int} {b : B3} {k : Nat} (hq : 0 ≤ q ∧ q ≤ 1000) (hb : mwOk b) (h1 : 0 ≤ s.1 ∧ s.1 ≤ 10000 * k) (h2 : 0 ≤ s.2 ∧ s.2 ≤ 10000000 * k) :
    (0 ≤ (stepM q s b).1 ∧ (stepM q s b).1 ≤ 10000 * (k + 1 : Nat)) ∧ 0 ≤ (stepM q s b).2 ∧ (stepM q s b).2 ≤ 10000000 * (k + 1 : Nat) := by
  obtain ⟨⟨k0, k1⟩, b0, b1⟩ := hb
  unfold stepM
  dsimp only
  by_cases h : b.2.2 < q
  · rw [if_pos h]
    have hd0 : 0 ≤ s.2.tdiv (q - b.2.2) := by rw [Int.tdiv_eq_ediv_of_nonneg h2.1]; exact Int.ediv_nonneg h2.1 (by omega)
    have hdm : s.2.tdiv (q - b.2.2) * (q - b.2.2) ≤ s.2 := by rw [Int.tdiv_eq_ediv_of_nonneg h2.1]; exact Int.ediv_mul_le _ (by omega)
    obtain ⟨n, hn⟩ : ∃ n, min b.2.1 (s.2.tdiv (q - b.2.2)) = n := ⟨_, rfl⟩
    rw [hn]
    have hn0 : 0 ≤ n := by omega
    have hnk : n ≤ b.2.1 := by omega
    have hnd : n ≤ s.2.tdiv (q - b.2.2) := by omega
    have hm1 : n * (q - b.2.2) ≤ s.2.tdiv (q - b.2.2) * (q - b.2.2) := Int.mul_le_mul_of_nonneg_right hnd (by omega)
    have hm0 : 0 ≤ n * (q - b.2.2) := Int.mul_nonneg hn0 (by omega)
    have he : n * (b.2.2 - q) = -(n * (q - b.2.2)) := by rw [← Int.mul_neg]; congr 1; omega
    rw [he]
    omega
  · rw [if_neg h]
    have hm0 : 0 ≤ b.2.1 * (b.2.2 - q) := Int.mul_nonneg k0 (by omega)
    have hm1 : b.2.1 * (b.2.2 - q) ≤ 10000 * 1000 := Int.mul_le_mul k1 (by omega) (by omega) (by omega)
    omega
theorem mwK_bd {S : List B3} {q : Int} (hq : 0 ≤ q ∧ q ≤ 1000) (hS : ∀ b ∈ S, mwOk b) : ∀ k, (0 ≤ (mwK S q k).1 ∧ (mwK S q k).1 ≤ 10000 * k) ∧ 0 ≤ (mwK S q k).2 ∧ (mwK S q k).2 ≤ 10000000 * k
  | 0 => by simp [mwK]
  | k + 1 => by
    obtain ⟨h1, h2⟩ := mwK_bd hq hS k
    unfold mwK
    split
    · rename_i b hb
      exact stepM_bd hq (hS b (List.mem_of_getElem? hb)) h1 h2
    · obtain ⟨h3, h4⟩ := h1
      obtain ⟨h5, h6⟩ := h2
      exact ⟨⟨h3, by omega⟩, h5, by omega⟩
def mwB (L : List B3) (q : Int) : Bool := bitB L && inB q 0 1000
def mwN (L : List B3) (q : Int) : Int := if mwB L q then (mwK (ordM L L.length) q L.length).1 else 0
theorem mw_no {L : List B3} {q : Int} (h : mwB L q = false) : mwN L q = 0 ∧ mwB L q = false := by simp [mwN, h]
theorem mw_yes {L : List B3} {q : Int} (h1 : bitB L = true) (h2 : inB q 0 1000 = true) : mwN L q = (mwK (ordM L L.length) q L.length).1 ∧ mwB L q = true := by simp [mwN, mwB, h1, h2]
theorem bitB_ok1 {L : List B3} (h : bitB L = true) : ∀ b ∈ L, mwOk b := fun b hb => by
  have hc : chain bit1 bit2 L = true := by rw [bitB, Bool.and_eq_true] at h; exact h.1
  obtain ⟨k, hk, rfl⟩ := List.getElem_of_mem hb
  have := chain_one hc (List.getElem?_eq_getElem hk)
  simp only [bit1, Bool.and_eq_true] at this
  exact ⟨inB_iff.1 this.1.2, inB_iff.1 this.2⟩
theorem ordM_ok {L : List B3} (h : bitB L = true) : ∀ b ∈ ordM L L.length, mwOk b := fun b hb => by
  have := (ordM_perm L L.length (Nat.le_refl _)).mem_iff.1 hb
  rw [List.take_length] at this
  exact bitB_ok1 h b this
end Go.Proofs.Ytjpoaiiminofdaa
