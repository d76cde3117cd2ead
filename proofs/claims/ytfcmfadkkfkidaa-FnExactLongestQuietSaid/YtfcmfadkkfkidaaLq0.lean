/-
  LongestQuiet, in plain words.
-/
import Derived.Test.YtfcmfadkkfkidaaMt0
import Derived.Test.YtfcmfadkkfkidaaIns0
namespace Go.Proofs.Ytfcmfadkkfkidaa
open Go.RowKit

/-- The minutes at which the first k trips enter section s. -/
def entL (L : List T5) (s : Int) : Nat → List Int
  | 0 => []
  | k + 1 => match L[k]? with
    | some x => if 0 ≤ entT x s then entL L s k ++ [entT x s] else entL L s k
    | none => entL L s k
theorem entL_yes {L : List T5} {s : Int} {k : Nat} {x : T5} (hx : L[k]? = some x) (h : 0 ≤ entT x s) : entL L s (k + 1) = entL L s k ++ [entT x s] := by rw [entL, hx]; simp only [if_pos h]
theorem entL_no {L : List T5} {s : Int} {k : Nat} {x : T5} (hx : L[k]? = some x) (h : ¬ 0 ≤ entT x s) : entL L s (k + 1) = entL L s k := by rw [entL, hx]; simp only [if_neg h]
theorem entL_len (L : List T5) (s : Int) : ∀ k, (entL L s k).length ≤ k
  | 0 => Nat.le_refl 0
  | k + 1 => by
    have := entL_len L s k
    rw [entL]
    split
    · split
      · rw [List.length_append, List.length_singleton]; omega
      · omega
    · omega
theorem entL_mem {L : List T5} {s m : Int} : ∀ {k : Nat}, m ∈ entL L s k → ∃ i x, i < k ∧ L[i]? = some x ∧ entT x s = m ∧ 0 ≤ m
  | 0, h => by cases h
  | k + 1, h => by
    rw [entL] at h
    split at h
    · rename_i x hx
      split at h
      · rename_i h0
        rcases List.mem_append.1 h with h | h
        · obtain ⟨i, y, hi, r⟩ := entL_mem h
          exact ⟨i, y, by omega, r⟩
        · rw [List.mem_singleton] at h
          exact ⟨k, x, by omega, hx, h.symm, by omega⟩
      · obtain ⟨i, y, hi, r⟩ := entL_mem h
        exact ⟨i, y, by omega, r⟩
    · obtain ⟨i, y, hi, r⟩ := entL_mem h
      exact ⟨i, y, by omega, r⟩
theorem mpIn_nil {L : List T5} {i : Nat} : ∀ {n : Nat}, mpIn L i n = [] → ∀ j, j < n → mpRow L i (i + 1 + j) = []
  | 0, _, j, hj => by omega
  | n + 1, h, j, hj => by
    rw [mpIn, List.append_eq_nil_iff] at h
    by_cases e : j = n
    · rw [e]; exact h.2
    · exact mpIn_nil h.1 j (by omega)
theorem mpL_nil {L : List T5} : ∀ {k : Nat}, mpL L k = [] → ∀ i, i < k → mpIn L i (L.length - (i + 1)) = []
  | 0, _, i, hi => by omega
  | k + 1, h, i, hi => by
    rw [mpL, List.append_eq_nil_iff] at h
    by_cases e : i = k
    · rw [e]; exact h.2
    · exact mpL_nil h.1 i (by omega)
theorem noMeet {L : List T5} (ht : tripsB L = true) (h : mtL L = []) {i j : Nat} {x y : T5} (hij : i < j) (hx : L[i]? = some x) (hy : L[j]? = some y) : meetB x y = false := by
  rw [mtL_yes ht] at h
  have hi := (List.getElem?_eq_some_iff.1 hx).1
  have hj := (List.getElem?_eq_some_iff.1 hy).1
  have h1 := mpIn_nil (mpL_nil h i hi) (j - (i + 1)) (by omega)
  rw [show i + 1 + (j - (i + 1)) = j by omega] at h1
  cases hm : meetB x y
  · rfl
  · rw [mpRow_yes hx hy hm] at h1; cases h1
theorem ent_apart {x y : T5} {s : Int} (hs : 0 ≤ s ∧ s ≤ 8) (h0 : 0 ≤ entT x s) (he : entT x s = entT y s) : meetB x y = true := by
  have h : entM x y ((s.toNat : Nat) : Int) = true := by
    rw [Int.toNat_of_nonneg hs.1]
    exact entM_iff.2 ⟨h0, by omega, by omega, by omega⟩
  exact meet_ent (by omega) h
theorem entL_nodup {L : List T5} {s : Int} (hs : 0 ≤ s ∧ s ≤ 8) (ht : tripsB L = true) (h : mtL L = []) {k : Nat} {x : T5} (hx : L[k]? = some x) (h0 : 0 ≤ entT x s) : entT x s ∉ entL L s k := fun hm => by
  obtain ⟨i, y, hi, hy, he, hm0⟩ := entL_mem hm
  have h1 := noMeet ht h hi hy hx
  rw [ent_apart hs (by omega) he] at h1
  cases h1

/-- A number put to its place, once. -/
def ldI : List Int → Int → Nat
  | [], _ => 0
  | y :: ys, n => if y < n then ldI ys n + 1 else 0
def putL (O : List Int) (n : Int) : List Int := if O[ldI O n]? = some n then O else insL O (ldI O n) n
theorem ldI_le (a : Int) : ∀ L : List Int, ldI L a ≤ L.length
  | [] => by simp [ldI]
  | y :: ys => by
    unfold ldI
    have := ldI_le a ys
    split <;> simp <;> omega
theorem ldI_go {L : List Int} {a x : Int} {k : Nat} (hx : L[k]? = some x) (h : ldI L a = k + ldI (L.drop k) a) (hlt : x < a) : ldI L a = (k + 1) + ldI (L.drop (k + 1)) a := by
  obtain ⟨hk, rfl⟩ := List.getElem?_eq_some_iff.1 hx
  rw [h, List.drop_eq_getElem_cons hk, ldI, if_pos hlt]; omega
theorem ldI_stop {L : List Int} {a x : Int} {k : Nat} (hx : L[k]? = some x) (h : ldI L a = k + ldI (L.drop k) a) (hge : ¬ x < a) : ldI L a = k := by
  obtain ⟨hk, rfl⟩ := List.getElem?_eq_some_iff.1 hx
  rw [h, List.drop_eq_getElem_cons hk, ldI, if_neg hge]; rfl
theorem ldI_end {L : List Int} {a : Int} (h : ldI L a = L.length + ldI (L.drop L.length) a) : ldI L a = L.length := by
  rw [h, List.drop_length]; rfl
theorem putL_same {O : List Int} {n x : Int} {k : Nat} (hk : ldI O n = k) (hx : O[k]? = some x) (h : x = n) : putL O n = O := by unfold putL; rw [hk, hx, h]; simp
theorem putL_ins {O : List Int} {n x : Int} {k : Nat} (hk : ldI O n = k) (hx : O[k]? = some x) (h : ¬ x = n) : putL O n = insL O k n := by unfold putL; rw [hk, hx]; simp [h]
theorem putL_end {O : List Int} {n : Int} {k : Nat} (hk : ldI O n = k) (h : k = O.length) : putL O n = insL O k n := by unfold putL; rw [hk, h]; simp
def put2 : List Int → Int → List Int
  | [], n => [n]
  | y :: ys, n => if y < n then y :: put2 ys n else if y = n then y :: ys else n :: y :: ys
theorem putL_eq (n : Int) : ∀ O : List Int, putL O n = put2 O n
  | [] => by simp [putL, put2, ldI, insL]
  | y :: ys => by
    have ih := putL_eq n ys
    unfold putL put2 ldI
    by_cases h : y < n
    · rw [if_pos h, if_pos h, ← ih]
      unfold putL
      simp only [List.getElem?_cons_succ]
      split
      · rfl
      · simp [insL]
    · rw [if_neg h, if_neg h]
      by_cases e : y = n
      · simp [e]
      · simp [e, insL]
theorem put2_mem {n m : Int} : ∀ {O : List Int}, m ∈ put2 O n → m = n ∨ m ∈ O
  | [], h => by simpa [put2] using h
  | y :: ys, h => by
    unfold put2 at h
    split at h
    · rcases List.mem_cons.1 h with h | h
      · exact .inr (by simp [h])
      · rcases put2_mem h with h | h
        · exact .inl h
        · exact .inr (List.mem_cons_of_mem _ h)
    · split at h
      · exact .inr h
      · rcases List.mem_cons.1 h with h | h
        · exact .inl h
        · exact .inr h
theorem put2_sorted {n : Int} : ∀ {O : List Int}, O.Pairwise (fun a b => a < b) → (put2 O n).Pairwise (fun a b => a < b)
  | [], _ => by simp [put2]
  | y :: ys, h => by
    have h1 := List.pairwise_cons.1 h
    unfold put2
    split
    · rename_i hy
      rw [List.pairwise_cons]
      refine ⟨fun m hm => ?_, put2_sorted h1.2⟩
      rcases put2_mem hm with rfl | hm
      · exact hy
      · exact h1.1 m hm
    · split
      · exact h
      · rename_i hy hne
        rw [List.pairwise_cons]
        refine ⟨fun m hm => ?_, h⟩
        rcases List.mem_cons.1 hm with rfl | hm
        · omega
        · have := h1.1 m hm; omega
theorem put2_perm {n : Int} : ∀ {O : List Int}, n ∉ O → (put2 O n).Perm (O ++ [n])
  | [], _ => by simp [put2]
  | y :: ys, h => by
    have h1 : n ≠ y ∧ n ∉ ys := by simpa using h
    unfold put2
    split
    · exact (put2_perm h1.2).cons y
    · rw [if_neg (Ne.symm h1.1)]
      exact (List.perm_append_singleton n (y :: ys)).symm
/-- The reference's list of minutes. -/
def enK (L : List T5) (s : Int) : Nat → List Int
  | 0 => []
  | k + 1 => match L[k]? with
    | some x => if 0 ≤ entT x s then putL (enK L s k) (entT x s) else enK L s k
    | none => enK L s k
theorem enK_yes {L : List T5} {s : Int} {k : Nat} {x : T5} (hx : L[k]? = some x) (h : 0 ≤ entT x s) : enK L s (k + 1) = putL (enK L s k) (entT x s) := by rw [enK, hx]; simp only [if_pos h]
theorem enK_no {L : List T5} {s : Int} {k : Nat} {x : T5} (hx : L[k]? = some x) (h : ¬ 0 ≤ entT x s) : enK L s (k + 1) = enK L s k := by rw [enK, hx]; simp only [if_neg h]
theorem enK_facts {L : List T5} {s : Int} (hs : 0 ≤ s ∧ s ≤ 8) (ht : tripsB L = true) (h : mtL L = []) : ∀ k, (enK L s k).Pairwise (fun a b => a < b) ∧ (enK L s k).Perm (entL L s k)
  | 0 => ⟨List.Pairwise.nil, List.Perm.refl _⟩
  | k + 1 => by
    obtain ⟨h1, h2⟩ := enK_facts hs ht h k
    cases hx : L[k]? with
    | none => simp only [enK, entL, hx]; exact ⟨h1, h2⟩
    | some x =>
      by_cases h0 : 0 ≤ entT x s
      · rw [enK_yes hx h0, entL_yes hx h0, putL_eq]
        refine ⟨put2_sorted h1, ?_⟩
        have hn := entL_nodup hs ht h hx h0
        exact (put2_perm (fun hm => hn (h2.mem_iff.1 hm))).trans (h2.append_right _)
      · rw [enK_no hx h0, entL_no hx h0]; exact ⟨h1, h2⟩
def leZ (x y : Int) : Bool := decide (x ≤ y)
/-- The minutes at which section s is entered, in order. -/
def srtE (L : List T5) (s : Int) : List Int := enK L s L.length
theorem srt_uniq {A B : List Int} (hp : A.Perm B) (hA : A.Pairwise (fun a b => a ≤ b)) (hB : B.Pairwise (fun a b => a ≤ b)) : A = B :=
  List.Perm.eq_of_pairwise (fun a b _ _ h1 h2 => by omega) hA hB hp
theorem srtE_of {L : List T5} {s : Int} (hs : 0 ≤ s ∧ s ≤ 8) (ht : tripsB L = true) (h : mtL L = []) {D : List Int} (hp : D.Perm (entL L s L.length)) (hD : D.Pairwise (fun a b => a ≤ b)) : D = srtE L s := by
  obtain ⟨h1, h2⟩ := enK_facts hs ht h L.length
  exact srt_uniq (hp.trans h2.symm) hD (h1.imp fun h => by omega)
/-- The greatest gap among the first k. -/
def gapK (S : List Int) : Nat → Int
  | 0 => 0
  | k + 1 => match S[k]?, S[k + 1]? with
    | some a, some b => max (gapK S k) (b - a - 4)
    | _, _ => gapK S k
theorem gapK_succ {S : List Int} {k : Nat} {a b : Int} (ha : S[k]? = some a) (hb : S[k + 1]? = some b) : gapK S (k + 1) = max (gapK S k) (b - a - 4) := by rw [gapK, ha, hb]
theorem gapK_bd {S : List Int} (hS : ∀ m ∈ S, 0 ≤ m ∧ m ≤ 2000) : ∀ k, 0 ≤ gapK S k ∧ gapK S k ≤ 2000
  | 0 => by simp [gapK]
  | k + 1 => by
    have ih := gapK_bd hS k
    unfold gapK
    split
    · rename_i a b ha hb
      have h1 := hS a (List.mem_of_getElem? ha)
      have h2 := hS b (List.mem_of_getElem? hb)
      omega
    · exact ih
def gapN (S : List Int) : Int := gapK S (S.length - 1)
def lqB (L : List T5) (s : Int) : Bool := tripsB L && decide (mtL L = []) && inB s 0 8
def lqN (L : List T5) (s : Int) : Int := if lqB L s then gapN (srtE L s) else 0
theorem lq_no {L : List T5} {s : Int} (h : lqB L s = false) : lqN L s = 0 ∧ lqB L s = false := by simp [lqN, h]
theorem lq_yes {L : List T5} {s : Int} (h1 : tripsB L = true) (h2 : mtL L = []) (h3 : inB s 0 8 = true) : lqN L s = gapN (srtE L s) ∧ lqB L s = true := by simp [lqN, lqB, h1, h2, h3]
theorem srtE_bd {L : List T5} {s : Int} (hs : 0 ≤ s ∧ s ≤ 8) (ht : tripsB L = true) (h : mtL L = []) : (srtE L s).length ≤ 10 ∧ ∀ m ∈ srtE L s, 0 ≤ m ∧ m ≤ 2000 := by
  obtain ⟨_, h2⟩ := enK_facts hs ht h L.length
  refine ⟨by unfold srtE; rw [h2.length_eq]; have := entL_len L s L.length; have := trips_len ht; omega, fun m hm => ?_⟩
  obtain ⟨i, x, _, hx, he, h0⟩ := entL_mem (h2.mem_iff.1 hm)
  have := (entT_bd (trOk_all ht x (List.mem_of_getElem? hx)) hs.1 hs.2).2
  omega
theorem enK_bd {L : List T5} {s : Int} (hs : 0 ≤ s ∧ s ≤ 8) (ht : tripsB L = true) (h : mtL L = []) (k : Nat) : (enK L s k).length ≤ k := by
  rw [(enK_facts hs ht h k).2.length_eq]; exact entL_len L s k
theorem lqN_ge (L : List T5) (s : Int) : 0 ≤ lqN L s := by
  unfold lqN
  split
  · rename_i h
    simp only [lqB, Bool.and_eq_true, decide_eq_true_eq] at h
    exact (gapK_bd (srtE_bd (inB_iff.1 h.2) h.1.1 h.1.2).2 _).1
  · exact Int.le_refl _
end Go.Proofs.Ytfcmfadkkfkidaa
