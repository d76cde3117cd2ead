/-
  LongestQuiet, in plain words.
  l1Put: a number put to its place.
  LongestQuiet: the reference.
  slices.SortFunc of the rows of times, by the kit's contract.
  LongestQuiet: the program.
-/
import Derived.Test.YtfcmfadkkfkidaaMt0
import Derived.Test.YtfcmfadkkfkidaaIns0
import Derived.Test.YtfcmfadkkfkidaaAdd2
import Derived.Test.YtfcmfadkkfkidaaChn
import Derived.Test.YtfcmfadkkfkidaaOtw1
import Derived.Deep.DeepCutAuto
import Derived.ArgAppend
import Derived.Test.YtfcmfadkkfkidaaMt2
import Derived.Test.YtfcmfadkkfkidaaMeet2
import Derived.Test.YtfcmfadkkfkidaaSecH
import Derived.Test.YtfcmfadkkfkidaaShelf
import Derived.Test.YtfcmfadkkfkidaaMt1
import Derived.Test.YtfcmfadkkfkidaaSec1
import Derived.Test.YtfcmfadkkfkidaaRegion
import Derived.Maps.AppendAt
import Derived.WalkKit
import Derived.WalkSpells
import Derived.WalkLawsBesides
import Derived.Lib.Hide
import Derived.Deep.QuietTactic
import Derived.BigQuiet
import Derived.StillTailTactics
namespace Go.Proofs.Ytfcmfadkkfkidaa
open Go.RowKit

/-- The minutes at which the first k trips enter section s. -/
def entL (L : List T5) (s : Int) : Nat → List Int
  | 0 => []
  | k + 1 => match L[k]? with
    | some x => if 0 ≤ entT x s then entL L s k ++ [entT x s] else entL L s k
    | none => entL L s k
theorem entL_yes {L : List T5} {s : Int} {k : Nat} {x : T5} (hx : L[k]? = some x) (h : 0 ≤ entT x s) : entL L s (k + 1) = entL L s k ++ [entT x s] := by rw [entL, hx]; simp only [if_pos h]
theorem entL_no {L : List T5} {s : Int} {k : Nat} {x : T5} (hx : L[k]? = some x) (h : ¬ 0 ≤ entT x s) : entL L s (k + 1) = entL L s k := by rw [entL, hx]; simp only [if_neg h]
theorem entL_len (L : List T5) (s : Int) : ∀ k, (entL L s k).length ≤ k
  | 0 => Nat.le_refl 0
  | k + 1 => by
    have := entL_len L s k
    rw [entL]
    split
    · split
      · rw [List.length_append, List.length_singleton]; omega
      · omega
    · omega
theorem entL_mem {L : List T5} {s m : Int} : ∀ {k : Nat}, m ∈ entL L s k → ∃ i x, i < k ∧ L[i]? = some x ∧ entT x s = m ∧ 0 ≤ m
  | 0, h => by cases h
  | k + 1, h => by
    rw [entL] at h
    split at h
    · rename_i x hx
      split at h
      · rename_i h0
        rcases List.mem_append.1 h with h | h
        · obtain ⟨i, y, hi, r⟩ := entL_mem h
          exact ⟨i, y, by omega, r⟩
        · rw [List.mem_singleton] at h
          exact ⟨k, x, by omega, hx, h.symm, by omega⟩
      · obtain ⟨i, y, hi, r⟩ := entL_mem h
        exact ⟨i, y, by omega, r⟩
    · obtain ⟨i, y, hi, r⟩ := entL_mem h
      exact ⟨i, y, by omega, r⟩
theorem mpIn_nil {L : List T5} {i : Nat} : ∀ {n : Nat}, mpIn L i n = [] → ∀ j, j < n → mpRow L i (i + 1 + j) = []
  | 0, _, j, hj => by omega
  | n + 1, h, j, hj => by
    rw [mpIn, List.append_eq_nil_iff] at h
    by_cases e : j = n
    · rw [e]; exact h.2
    · exact mpIn_nil h.1 j (by omega)
theorem mpL_nil {L : List T5} : ∀ {k : Nat}, mpL L k = [] → ∀ i, i < k → mpIn L i (L.length - (i + 1)) = []
  | 0, _, i, hi => by omega
  | k + 1, h, i, hi => by
    rw [mpL, List.append_eq_nil_iff] at h
    by_cases e : i = k
    · rw [e]; exact h.2
    · exact mpL_nil h.1 i (by omega)
theorem noMeet {L : List T5} (ht : tripsB L = true) (h : mtL L = []) {i j : Nat} {x y : T5} (hij : i < j) (hx : L[i]? = some x) (hy : L[j]? = some y) : meetB x y = false := by
  rw [mtL_yes ht] at h
  have hi := (List.getElem?_eq_some_iff.1 hx).1
  have hj := (List.getElem?_eq_some_iff.1 hy).1
  have h1 := mpIn_nil (mpL_nil h i hi) (j - (i + 1)) (by omega)
  rw [show i + 1 + (j - (i + 1)) = j by omega] at h1
  cases hm : meetB x y
  · rfl
  · rw [mpRow_yes hx hy hm] at h1; cases h1
theorem ent_apart {x y : T5} {s : Int} (hs : 0 ≤ s ∧ s ≤ 8) (h0 : 0 ≤ entT x s) (he : entT x s = entT y s) : meetB x y = true := by
  have h : entM x y ((s.toNat : Nat) : Int) = true := by
    rw [Int.toNat_of_nonneg hs.1]
    exact entM_iff.2 ⟨h0, by omega, by omega, by omega⟩
  exact meet_ent (by omega) h
theorem entL_nodup {L : List T5} {s : Int} (hs : 0 ≤ s ∧ s ≤ 8) (ht : tripsB L = true) (h : mtL L = []) {k : Nat} {x : T5} (hx : L[k]? = some x) (h0 : 0 ≤ entT x s) : entT x s ∉ entL L s k := fun hm => by
  obtain ⟨i, y, hi, hy, he, hm0⟩ := entL_mem hm
  have h1 := noMeet ht h hi hy hx
  rw [ent_apart hs (by omega) he] at h1
  cases h1

/-- A number put to its place, once. -/
def ldI : List Int → Int → Nat
  | [], _ => 0
  | y :: ys, n => if y < n then ldI ys n + 1 else 0
def putL (O : List Int) (n : Int) : List Int := if O[ldI O n]? = some n then O else insL O (ldI O n) n
theorem ldI_le (a : Int) : ∀ L : List Int, ldI L a ≤ L.length
  | [] => by simp [ldI]
  | y :: ys => by
    unfold ldI
    have := ldI_le a ys
    split <;> simp <;> omega
theorem ldI_go {L : List Int} {a x : Int} {k : Nat} (hx : L[k]? = some x) (h : ldI L a = k + ldI (L.drop k) a) (hlt : x < a) : ldI L a = (k + 1) + ldI (L.drop (k + 1)) a := by
  obtain ⟨hk, rfl⟩ := List.getElem?_eq_some_iff.1 hx
  rw [h, List.drop_eq_getElem_cons hk, ldI, if_pos hlt]; omega
theorem ldI_stop {L : List Int} {a x : Int} {k : Nat} (hx : L[k]? = some x) (h : ldI L a = k + ldI (L.drop k) a) (hge : ¬ x < a) : ldI L a = k := by
  obtain ⟨hk, rfl⟩ := List.getElem?_eq_some_iff.1 hx
  rw [h, List.drop_eq_getElem_cons hk, ldI, if_neg hge]; rfl
theorem ldI_end {L : List Int} {a : Int} (h : ldI L a = L.length + ldI (L.drop L.length) a) : ldI L a = L.length := by
  rw [h, List.drop_length]; rfl
theorem putL_same {O : List Int} {n x : Int} {k : Nat} (hk : ldI O n = k) (hx : O[k]? = some x) (h : x = n) : putL O n = O := by unfold putL; rw [hk, hx, h]; simp
theorem putL_ins {O : List Int} {n x : Int} {k : Nat} (hk : ldI O n = k) (hx : O[k]? = some x) (h : ¬ x = n) : putL O n = insL O k n := by unfold putL; rw [hk, hx]; simp [h]
theorem putL_end {O : List Int} {n : Int} {k : Nat} (hk : ldI O n = k) (h : k = O.length) : putL O n = insL O k n := by unfold putL; rw [hk, h]; simp
def put2 : List Int → Int → List Int
  | [], n => [n]
  | y :: ys, n => if y < n then y :: put2 ys n else if y = n then y :: ys else n :: y :: ys
theorem putL_eq (n : Int) : ∀ O : List Int, putL O n = put2 O n
  | [] => by simp [putL, put2, ldI, insL]
  | y :: ys => by
    have ih := putL_eq n ys
    unfold putL put2 ldI
    by_cases h : y < n
    · rw [if_pos h, if_pos h, ← ih]
      unfold putL
      simp only [List.getElem?_cons_succ]
      split
      · rfl
      · simp [insL]
    · rw [if_neg h, if_neg h]
      by_cases e : y = n
      · simp [e]
      · simp [e, insL]
theorem put2_mem {n m : Int} : ∀ {O : List Int}, m ∈ put2 O n → m = n ∨ m ∈ O
  | [], h => by simpa [put2] using h
  | y :: ys, h => by
    unfold put2 at h
    split at h
    · rcases List.mem_cons.1 h with h | h
      · exact .inr (by simp [h])
      · rcases put2_mem h with h | h
        · exact .inl h
        · exact .inr (List.mem_cons_of_mem _ h)
    · split at h
      · exact .inr h
      · rcases List.mem_cons.1 h with h | h
        · exact .inl h
        · exact .inr h
theorem put2_sorted {n : Int} : ∀ {O : List Int}, O.Pairwise (fun a b => a < b) → (put2 O n).Pairwise (fun a b => a < b)
  | [], _ => by simp [put2]
  | y :: ys, h => by
    have h1 := List.pairwise_cons.1 h
    unfold put2
    split
    · rename_i hy
      rw [List.pairwise_cons]
      refine ⟨fun m hm => ?_, put2_sorted h1.2⟩
      rcases put2_mem hm with rfl | hm
      · exact hy
      · exact h1.1 m hm
    · split
      · exact h
      · rename_i hy hne
        rw [List.pairwise_cons]
        refine ⟨fun m hm => ?_, h⟩
        rcases List.mem_cons.1 hm with rfl | hm
        · omega
        · have := h1.1 m hm; omega
theorem put2_perm {n : Int} : ∀ {O : List Int}, n ∉ O → (put2 O n).Perm (O ++ [n])
  | [], _ => by simp [put2]
  | y :: ys, h => by
    have h1 : n ≠ y ∧ n ∉ ys := by simpa using h
    unfold put2
    split
    · exact (put2_perm h1.2).cons y
    · rw [if_neg (Ne.symm h1.1)]
      exact (List.perm_append_singleton n (y :: ys)).symm
/-- The reference's list of minutes. -/
def enK (L : List T5) (s : Int) : Nat → List Int
  | 0 => []
  | k + 1 => match L[k]? with
    | some x => if 0 ≤ entT x s then putL (enK L s k) (entT x s) else enK L s k
    | none => enK L s k
theorem enK_yes {L : List T5} {s : Int} {k : Nat} {x : T5} (hx : L[k]? = some x) (h : 0 ≤ entT x s) : enK L s (k + 1) = putL (enK L s k) (entT x s) := by rw [enK, hx]; simp only [if_pos h]
theorem enK_no {L : List T5} {s : Int} {k : Nat} {x : T5} (hx : L[k]? = some x) (h : ¬ 0 ≤ entT x s) : enK L s (k + 1) = enK L s k := by rw [enK, hx]; simp only [if_neg h]
theorem enK_facts {L : List T5} {s : Int} (hs : 0 ≤ s ∧ s ≤ 8) (ht : tripsB L = true) (h : mtL L = []) : ∀ k, (enK L s k).Pairwise (fun a b => a < b) ∧ (enK L s k).Perm (entL L s k)
  | 0 => ⟨List.Pairwise.nil, List.Perm.refl _⟩
  | k + 1 => by
    obtain ⟨h1, h2⟩ := enK_facts hs ht h k
    cases hx : L[k]? with
    | none => simp only [enK, entL, hx]; exact ⟨h1, h2⟩
    | some x =>
      by_cases h0 : 0 ≤ entT x s
      · rw [enK_yes hx h0, entL_yes hx h0, putL_eq]
        refine ⟨put2_sorted h1, ?_⟩
        have hn := entL_nodup hs ht h hx h0
        exact (put2_perm (fun hm => hn (h2.mem_iff.1 hm))).trans (h2.append_right _)
      · rw [enK_no hx h0, entL_no hx h0]; exact ⟨h1, h2⟩
def leZ (x y : Int) : Bool := decide (x ≤ y)
/-- The minutes at which section s is entered, in order. -/
def srtE (L : List T5) (s : Int) : List Int := enK L s L.length
theorem srt_uniq {A B : List Int} (hp : A.Perm B) (hA : A.Pairwise (fun a b => a ≤ b)) (hB : B.Pairwise (fun a b => a ≤ b)) : A = B :=
  List.Perm.eq_of_pairwise (fun a b _ _ h1 h2 => by omega) hA hB hp
theorem srtE_of {L : List T5} {s : Int} (hs : 0 ≤ s ∧ s ≤ 8) (ht : tripsB L = true) (h : mtL L = []) {D : List Int} (hp : D.Perm (entL L s L.length)) (hD : D.Pairwise (fun a b => a ≤ b)) : D = srtE L s := by
  obtain ⟨h1, h2⟩ := enK_facts hs ht h L.length
  exact srt_uniq (hp.trans h2.symm) hD (h1.imp fun h => by omega)
/-- The greatest gap among the first k. -/
def gapK (S : List Int) : Nat → Int
  | 0 => 0
  | k + 1 => match S[k]?, S[k + 1]? with
    | some a, some b => max (gapK S k) (b - a - 4)
    | _, _ => gapK S k
theorem gapK_succ {S : List Int} {k : Nat} {a b : Int} (ha : S[k]? = some a) (hb : S[k + 1]? = some b) : gapK S (k + 1) = max (gapK S k) (b - a - 4) := by rw [gapK, ha, hb]
theorem gapK_bd {S : List Int} (hS : ∀ m ∈ S, 0 ≤ m ∧ m ≤ 2000) : ∀ k, 0 ≤ gapK S k ∧ gapK S k ≤ 2000
  | 0 => by simp [gapK]
  | k + 1 => by
    have ih := gapK_bd hS k
    unfold gapK
    split
    · rename_i a b ha hb
      have h1 := hS a (List.mem_of_getElem? ha)
      have h2 := hS b (List.mem_of_getElem? hb)
      omega
    · exact ih
def gapN (S : List Int) : Int := gapK S (S.length - 1)
def lqB (L : List T5) (s : Int) : Bool := tripsB L && decide (mtL L = []) && inB s 0 8
def lqN (L : List T5) (s : Int) : Int := if lqB L s then gapN (srtE L s) else 0
theorem lq_no {L : List T5} {s : Int} (h : lqB L s = false) : lqN L s = 0 ∧ lqB L s = false := by simp [lqN, h]
theorem lq_yes {L : List T5} {s : Int} (h1 : tripsB L = true) (h2 : mtL L = []) (h3 : inB s 0 8 = true) : lqN L s = gapN (srtE L s) ∧ lqB L s = true := by simp [lqN, lqB, h1, h2, h3]
theorem srtE_bd {L : List T5} {s : Int} (hs : 0 ≤ s ∧ s ≤ 8) (ht : tripsB L = true) (h : mtL L = []) : (srtE L s).length ≤ 10 ∧ ∀ m ∈ srtE L s, 0 ≤ m ∧ m ≤ 2000 := by
  obtain ⟨_, h2⟩ := enK_facts hs ht h L.length
  refine ⟨by unfold srtE; rw [h2.length_eq]; have := entL_len L s L.length; have := trips_len ht; omega, fun m hm => ?_⟩
  obtain ⟨i, x, _, hx, he, h0⟩ := entL_mem (h2.mem_iff.1 hm)
  have := (entT_bd (trOk_all ht x (List.mem_of_getElem? hx)) hs.1 hs.2).2
  omega
theorem enK_bd {L : List T5} {s : Int} (hs : 0 ≤ s ∧ s ≤ 8) (ht : tripsB L = true) (h : mtL L = []) (k : Nat) : (enK L s k).length ≤ k := by
  rw [(enK_facts hs ht h k).2.length_eq]; exact entL_len L s k
theorem lqN_ge (L : List T5) (s : Int) : 0 ≤ lqN L s := by
  unfold lqN
  split
  · rename_i h
    simp only [lqB, Bool.and_eq_true, decide_eq_true_eq] at h
    exact (gapK_bd (srtE_bd (inB_iff.1 h.2) h.1.1 h.1.2).2 _).1
  · exact Int.le_refl _
end Go.Proofs.Ytfcmfadkkfkidaa
namespace Go.Proofs.Ytfcmfadkkfkidaa
open Go.RowKit

theorem NoPanI {P : Program} {ops : Array Oper} {Q : Exit → Act → World → Prop} {l : List Oper} {a : Act} {w : World} (h : wpList P ops Q l a w) : wpList P ops Q l a w := h
theorem ints_one {L : List Int} : ∀ u ∈ L.flatMap f1, u.oneCell' = true := by
  intro u hu
  obtain ⟨x, _, hx⟩ := List.mem_flatMap.1 hu
  rw [List.mem_singleton.1 hx]
  rfl
/-- A slice of ints of the call's own, from block B on. -/
def GathI (B : Nat) (L : List Int) (v : Value) (w : World) : Prop := Gath f1 1 3 w B v L ∧ v ≠ .slice none 0 0
theorem GathI.next {B : Nat} {L : List Int} : ∀ (v : Value) (w w' : World), Below w.heap.size w w' → GathI B L v w → GathI B L v w' := fun _ _ _ hb h => ⟨h.1.below hb, h.2⟩
def EmpI (B : Nat) (v : Value) (w : World) : Prop := ∃ g, v = .slice (some ⟨g, 0, none⟩) 0 0 ∧ B ≤ g ∧ Gath f1 1 3 w B v []
theorem EmpI.next {B : Nat} : ∀ (v : Value) (w w' : World), Below w.heap.size w w' → EmpI B v w → EmpI B v w' := fun _ _ _ hb ⟨g, h1, h2, h3⟩ => ⟨g, h1, h2, h3.below hb⟩
def LitI (x : Int) (v : Value) (w : World) : Prop := ∃ g, v = .slice (some ⟨g, 0, none⟩) 1 1 ∧ Blk w g 3 #[.int .i64 x]
theorem LitI.next {x : Int} : ∀ (v : Value) (w w' : World), Below w.heap.size w w' → LitI x v w → LitI x v w' := fun _ _ _ hb ⟨g, h1, h3⟩ => ⟨g, h1, h3.below' hb⟩
theorem lit_src {w : World} {g : Nat} {x : Int} (h : Blk w g 3 #[.int .i64 x]) : ∀ j u, (f1 x)[j]? = some u → w.cell? ((⟨g, 0, none⟩ : Addr).add j) = some u := by
  intro j u hj
  rw [Go.WideShapes.add_plain, Nat.zero_add]
  have hc := h.cell j
  rw [hc]
  simpa [f1] using hj
/-- What the two parts of a list of ints read. -/
def PartI (W : World) (L : List Int) (k : Nat) (a1 a2 : Addr) : Prop := ∀ wv, Below W.heap.size W wv → (∀ j u, ((L.take k).flatMap f1)[j]? = some u → wv.cell? (a1.add j) = some u) ∧ (∀ j u, ((L.drop k).flatMap f1)[j]? = some u → wv.cell? (a2.add j) = some u)
theorem partI_mid {W : World} {L : List Int} {k b : Nat} (h : Cells f1 1 W b 0 L) (hb : b < W.heap.size) : PartI W L k ⟨b, 0, none⟩ ⟨b, k, none⟩ := fun _ hw =>
  ⟨cells_flat (f := f1) (m := 1) (fun _ => rfl) (by omega) ((h.below hw hb).take k), by
    have := cells_flat (f := f1) (m := 1) (fun _ => rfl) (by omega) (cells_drop (h.below hw hb) k)
    rwa [show 0 + k * 1 = k by omega] at this⟩
theorem partI_end {W : World} {L : List Int} {k b : Nat} {a2 : Addr} (h : Cells f1 1 W b 0 L) (hb : b < W.heap.size) (hk : k = L.length) : PartI W L k ⟨b, 0, none⟩ a2 := fun _ hw =>
  ⟨cells_flat (f := f1) (m := 1) (fun _ => rfl) (by omega) ((h.below hw hb).take k), fun j u h => by rw [List.drop_of_length_le (by omega)] at h; simp at h⟩
theorem Gath.form1 {t : TypeId} {w : World} {B : Nat} {v : Value} {L : List Int} (h : Gath f1 1 t w B v L) (hv : v ≠ .slice none 0 0) :
    ∃ g c, v = .slice (some ⟨g, 0, none⟩) L.length c ∧ B ≤ g ∧ L.length ≤ c ∧ g < w.heap.size ∧ Cells f1 1 w g 0 L := by
  obtain ⟨A, c0, e, ho⟩ := Gath.own (f := f1) (m := 1) (fun _ => rfl) h
  obtain ⟨h0, ⟨hn, _⟩ | ⟨g, cap, cur, hv', hB, hh, hn, hcm, hs, ht⟩⟩ := h
  · exact absurd hn hv
  · refine ⟨g, cap, hv', hB, hn, ?_, ?_⟩
    · rcases Nat.lt_or_ge g w.heap.size with h | h
      · exact h
      · rw [Array.getElem?_eq_none h] at hh; cases hh
    · rw [hv'] at e
      injection e with e1 _ _
      intro k x hx
      obtain ⟨g1, e2, _, _, hC⟩ := ho (SlR.ne hx)
      rw [e2] at e1
      injection e1 with e1
      injection e1 with e1
      subst e1
      exact hC k x hx

set_option maxRecDepth 20000 in
set_option maxHeartbeats 16000000 in
theorem l1Put_any (B : Nat) (v : Value) (O : List Int) (n : Int) (w : World) (hG : Gath f1 1 3 w B v O) (hv : v ≠ .slice none 0 0) (hB : B ≤ w.heap.size) (hm : (O.length : Int) ≤ 1000000) :
    Calls Try.prog 83 #[v, .int .i64 n] w fun e w' => ∃ v', e = .returned v' ∧ Gath f1 1 3 w' B v' (putL O n) ∧ v' ≠ .slice none 0 0 ∧ Below w.heap.size w w' := by
  obtain ⟨g, c, rfl, hg, hcc, hgl, hC⟩ := hG.form1 hv
  have hm0 : (0 : Int) ≤ O.length := by omega
  have hHG := Lib.hid hG
  clear hG hv
  go_enter Try.func83, Try.ntmps83
  go_wp2
  go_loopw [5] (fun i wr => ∃ k : Nat, i = .int .i64 k ∧ k ≤ O.length ∧ Hid (ldI O n = k + ldI (O.drop k) n) ∧ Below w.heap.size w wr) (fun i _ => (O.length - intOf i).toNat)
  case atStart => exact ⟨0, rfl, by omega, by show _ = _; rw [List.drop_zero, Nat.zero_add], Below.refl _ _⟩
  case round =>
    obtain ⟨k, rfl, hk, hs, hb⟩ := hrel
    have zr := hb.size
    have hk0 : (0 : Int) ≤ (k : Int) := by omega
    have hCr := hC.below hb hgl
    have HC := Lib.hid hCr
    have HGr := Lib.hid (hHG.out.below hb)
    have hBr : g < wr.heap.size := by omega
    by_cases hlt : k < O.length
    · have hx : O[k]? = some O[k] := List.getElem?_eq_getElem hlt
      generalize O[k] = x at *
      have hk1 : (k : Int) < (O.length : Int) := by omega
      have c0 := cells1 hCr hx
      simp only [Nat.zero_add] at c0
      cases hd : decide (x < n)
      · have HK := Lib.hid (ldI_stop hx hs.out (of_decide_eq_false hd))
        have HX0 := Lib.hid hx
        clear hs hx hC hCr hHG
        have qB := hb
        have HC2 := Lib.hid (show Cells f1 1 wr g 0 O from HC.out)
        have HG : Hid (Gath f1 1 3 wr B (.slice (some ⟨g, 0, none⟩) O.length c) O) := HGr.out
        have hBz : g < wr.heap.size := hBr
        clear hb zr HC hBr HGr
        generalize wr = wz at *
        by_cases he : x = n
        · have hq : (x == n) = true := by simpa using he
          have HV := Lib.hid (putL_same HK.out HX0.out he)
          clear he
          have HX := Lib.hid (show Gath f1 1 3 wz B (.slice (some ⟨g, 0, none⟩) O.length c) (putL O n) by rw [HV.out]; exact HG.out)
          have HB := Lib.hid qB
          clear qB HG HC2
          go_wp2
          refine bodyPost_ret (v := .slice (some ⟨g, 0, none⟩) O.length c) (by simp [results, Try.results83, go_sem, *] <;> rfl) rfl ?_
          exact ⟨_, rfl, HX.out, by simp, HB.out⟩
        · have hq : (x == n) = false := by simpa using he
          have HV := Lib.hid (putL_ins HK.out HX0.out he)
          clear he HX0
          have hck : k < c := by omega
          have hck2 : ¬ (c = k) := by omega
          have hck3 : (k : Int) ≤ (c : Int) := by omega
          have HP := Lib.hid (partI_mid (k := k) HC2.out hBz)
          clear HC2
          have zz := qB.size
          have hkk : k ≤ O.length := by omega
          have hln := Lib.hid (show ((O.take k).flatMap f1).length = k * 1 by rw [flat_len (f := f1) (m := 1) (fun _ => rfl), List.length_take]; congr 1; omega)
          have hld := Lib.hid (flat_dlen (f := f1) (m := 1) (L := O) (i := k) (fun _ => rfl))
          have htl := Lib.hid (show (O.take k).length = k by rw [List.length_take]; omega)
          obtain ⟨i0, hi, hz0, hz1, hz2⟩ := info_parts infoI
          have HII := Lib.hid hi; have HZ0 := Lib.hid hz0; have HZ1 := Lib.hid hz1; have HZ2 := Lib.hid hz2
          clear hi hz0 hz1 hz2
          go_wp2
          refine Ch.wp_region_chain [.pred (EmpI wz.heap.size), .fix (.slice (some ⟨g, 0, none⟩) O.length c), .fix (.int .i64 k), .val (.slice (some ⟨g, 0, none⟩) k c), .pred (GathI wz.heap.size (O.take k)), .fix (.int .i64 n), .pred (LitI n), .chain wz.heap.size (GathI wz.heap.size (O.take k ++ [n])), .fix (.slice (some ⟨g, 0, none⟩) O.length c), .fix (.int .i64 k), .val (.slice (some ⟨g, k, none⟩) (O.length - k) (c - k))] mixed (by kernel_rfl) ?_
          refine Ch.SeqG.predStep EmpI.next (fun wv hbv hpv => ?_) (fun v0 => ?_)
          · clear hpv
            go_wp2_with fail
            exact Ch.post_pred (F := EmpI wz.heap.size) _ (by (repeat (first | exact Below.refl _ _ | refine Below.drew ?_ | refine below_drewN ?_ _ | (refine Below.alloc ?_ (by (try simp) <;> omega) _) | (refine Below.setCell ?_ (by (try simp) <;> omega) _) | (refine Below.trans ?_ (Below.mono (by assumption) (by (try simp) <;> omega)))))) ⟨_, rfl, hbv.size, Gath.made hbv.size⟩
          simp only [Act.put, List.setIfInBounds_toArray, List.set_cons_zero, List.set_cons_succ]
          refine Ch.SeqG.fixStep (.inl ⟨rfl, fun _ => rfl⟩) ?_
          simp only [Act.put, List.setIfInBounds_toArray, List.set_cons_zero, List.set_cons_succ]
          refine Ch.SeqG.fixStep (.inl ⟨rfl, fun _ => rfl⟩) ?_
          simp only [Act.put, List.setIfInBounds_toArray, List.set_cons_zero, List.set_cons_succ]
          refine Ch.SeqG.valStep (fun wv hbv hpv => ?_) ?_
          · clear hpv
            go_wp2_with fail
            exact Ch.post_val (Below.refl _ _)
          simp only [Act.put, List.setIfInBounds_toArray, List.set_cons_zero, List.set_cons_succ]
          refine Ch.SeqG.predStep GathI.next (fun wv hbv hpv => ?_) (fun v1 => ?_)
          · obtain ⟨g0, rfl, hg0, hE0⟩ := hpv _ (.head _) (by kernel_rfl)
            clear hpv
            refine wpList_append_arg _ rfl _ _ 44 rfl 3 i0 (.int .i64 0) 1 8 Try.underlying44 HII.out HZ0.out HZ1.out HZ2.out rfl (by decide) g0 0 0 0 [] rfl rfl (by intro j u h; simp at h) ⟨g, 0, none⟩ k c ((O.take k).flatMap f1) rfl (by rw [hln.out]) (HP.out wv hbv).1 ints_one ?_ ?_ ?_ ?_ ?_
            · intro h; intro j hj; rw [hln.out] at hj; omega
            · unfold maxLen; omega
            · omega
            · intro h
              have hk0' : k = 0 := by omega
              have e0 : O.take k = [] := by rw [hk0']; rfl
              rw [e0]
              simp only [List.flatMap_nil, World.setCells]
              exact ⟨rfl, _, by simp [hk0', Act.put], Below.refl _ _, hE0, by simp⟩
            · intro h v' w' hown hgrow
              refine ⟨rfl, v', rfl, below_grown hgrow (fun k h => by cases h), ?_, ?_⟩
              · have := own_mono hown hbv.size
                unfold Gath; rw [htl.out]; simpa using this
              · intro e; subst e; obtain ⟨_, ⟨_, h0⟩ | ⟨_, _, _, h0, _⟩⟩ := hown
                · omega
                · cases h0
          simp only [Act.put, List.setIfInBounds_toArray, List.set_cons_zero, List.set_cons_succ]
          refine Ch.SeqG.fixStep (.inl ⟨rfl, fun _ => rfl⟩) ?_
          simp only [Act.put, List.setIfInBounds_toArray, List.set_cons_zero, List.set_cons_succ]
          refine Ch.SeqG.predStep LitI.next (fun wv hbv hpv => ?_) (fun v2 => ?_)
          · clear hpv
            go_wp2_with fail
            exact Ch.post_pred (F := LitI n) _ (by (repeat (first | exact Below.refl _ _ | refine Below.drew ?_ | refine below_drewN ?_ _ | (refine Below.alloc ?_ (by (try simp) <;> omega) _) | (refine Below.setCell ?_ (by (try simp) <;> omega) _) | (refine Below.trans ?_ (Below.mono (by assumption) (by (try simp) <;> omega)))))) ⟨wv.heap.size, rfl, Blk.new _ _ _⟩
          simp only [Act.put, List.setIfInBounds_toArray, List.set_cons_zero, List.set_cons_succ]
          refine Ch.SeqG.chainStep GathI.next (Nat.le_refl _) (fun wv hbv hpv => ?_) (fun v3 => ?_)
          · obtain ⟨g9, rfl, hc9⟩ := hpv _ (.head _) (by kernel_rfl)
            obtain ⟨hG1, hn1⟩ : GathI wz.heap.size (O.take k) v1 wv := hpv _ (.tail _ (.head _)) (by kernel_rfl)
            clear hpv
            have hl1 := htl.out
            refine wpList_append_own _ rfl _ _ 44 rfl wz.heap.size 3 i0 (.int .i64 0) 1 8 Try.underlying44 HII.out HZ0.out HZ1.out HZ2.out rfl (by decide) _ _ _ rfl hG1 ⟨g9, 0, none⟩ 1 1 (f1 n) rfl rfl (lit_src hc9) (fun u hu => by simp [f1] at hu; subst hu; rfl) ?_ ?_ hbv.size ?_
            · rw [hl1]; unfold maxLen; omega
            · rw [hl1]; omega
            · intro v' w' hown hgrow hnil
              exact ⟨rfl, v', rfl, below_grown' (Below.refl _ _ |>.mono hbv.size) hgrow hG1 (Nat.le_refl _) hbv.size, Gath.snoc hown, fun e => hn1 (hnil.1 e).1⟩
          simp only [Act.put, List.setIfInBounds_toArray, List.set_cons_zero, List.set_cons_succ]
          refine Ch.SeqG.fixStep (.inl ⟨rfl, fun _ => rfl⟩) ?_
          simp only [Act.put, List.setIfInBounds_toArray, List.set_cons_zero, List.set_cons_succ]
          refine Ch.SeqG.fixStep (.inl ⟨rfl, fun _ => rfl⟩) ?_
          simp only [Act.put, List.setIfInBounds_toArray, List.set_cons_zero, List.set_cons_succ]
          refine Ch.SeqG.valStep (fun wv hbv hpv => ?_) ?_
          · clear hpv
            go_wp2_with fail
            exact Ch.post_val (Below.refl _ _)
          simp only [Act.put, List.setIfInBounds_toArray, List.set_cons_zero, List.set_cons_succ]
          refine Ch.SeqG.done fun wv hbv hpv => ?_
          obtain ⟨hG3, hn3⟩ : GathI wz.heap.size (O.take k ++ [n]) v3 wv := hpv _ (.head _)
          clear hpv
          have zv := hbv.size
          have hl3 := htl.out
          have hd3 := hld.out
          refine NoPanI ?_
          refine wpList_append_own _ rfl _ _ 44 rfl wz.heap.size 3 i0 (.int .i64 0) 1 8 Try.underlying44 HII.out HZ0.out HZ1.out HZ2.out rfl (by decide) _ _ _ rfl hG3 ⟨g, k, none⟩ (O.length - k) (c - k) ((O.drop k).flatMap f1) rfl (by rw [hd3]; first | done | rfl | (congr 1; omega) | (congr 1; have := HKL.out; omega)) (HP.out wv (hbv.mono (Nat.le_refl _))).2 ints_one ?_ ?_ zv ?_
          · rw [List.length_append, hl3, List.length_singleton]; unfold maxLen; omega
          · rw [List.length_append, hl3, List.length_singleton]; omega
          intro v' w1 hown hgrow hnil
          have hb9 : Below w.heap.size w w1 := below_grown' (qB.trans (hbv.mono zz)) hgrow hG3 zz (by omega)
          have hG9 : Gath f1 1 3 w1 B v' (insL O k n) := by
            have h9 := own_mono (B' := B) hown (by omega)
            unfold Gath insL
            rw [List.length_append, List.flatMap_append, List.length_drop]
            exact h9
          have hv9 : v' ≠ .slice none 0 0 := fun e => hn3 (hnil.1 e).1
          have HX := Lib.hid (show Gath f1 1 3 w1 B v' (putL O n) ∧ v' ≠ .slice none 0 0 by rw [HV.out]; exact ⟨hG9, hv9⟩)
          have HB := Lib.hid hb9
          clear hown hG9 hgrow hG3 hnil hn3 hbv HP hb9 hv9 qB HG
          go_wp2_with fail
          refine Ch.NoPan.normal ?_
          go_wp2
          refine bodyPost_ret (v := v') (by simp [results, Try.results83, go_sem, *] <;> rfl) rfl ?_
          exact ⟨v', rfl, HX.out.1, HX.out.2, HB.out⟩
      · have HS := Lib.hid (ldI_go hx hs.out (of_decide_eq_true hd))
        clear hs hx hC hCr HC HGr hHG
        go_wp2
        go_roundw
        case rel => exact ⟨k + 1, by go_num, by omega, HS, by first | exact hb | exact below_drewN hb _⟩
        case measure => simp only [intOf]; omega
    · have hkl : k = O.length := by omega
      have hg0 : decide (k < O.length) = false := decide_eq_false (by omega)
      have HK := Lib.hid (show ldI O n = k by have h := hs.out; rw [hkl] at h ⊢; exact ldI_end h)
      have HKL := Lib.hid hkl
      have HV := Lib.hid (putL_end HK.out HKL.out)
      have hk1 : ¬ (k : Int) < (O.length : Int) := by omega
      clear hs hlt hkl hC hCr hHG
      have qB := hb
      have HC2 := Lib.hid (show Cells f1 1 wr g 0 O from HC.out)
      have HG : Hid (Gath f1 1 3 wr B (.slice (some ⟨g, 0, none⟩) O.length c) O) := HGr.out
      have hBz : g < wr.heap.size := hBr
      clear hb zr HC hBr HGr
      generalize wr = wz at *
      by_cases hcl : c = O.length
      · skip
        have hkc : k = c := by have := HKL.out; omega
        clear hcl
        subst hkc
        have HP := Lib.hid (partI_end (a2 := ⟨g, 0, none⟩) HC2.out hBz HKL.out)
        clear HC2
        have zz := qB.size
        have hkk : k ≤ O.length := by omega
        have hln := Lib.hid (show ((O.take k).flatMap f1).length = k * 1 by rw [flat_len (f := f1) (m := 1) (fun _ => rfl), List.length_take]; congr 1; omega)
        have hld := Lib.hid (flat_dlen (f := f1) (m := 1) (L := O) (i := k) (fun _ => rfl))
        have htl := Lib.hid (show (O.take k).length = k by rw [List.length_take]; omega)
        obtain ⟨i0, hi, hz0, hz1, hz2⟩ := info_parts infoI
        have HII := Lib.hid hi; have HZ0 := Lib.hid hz0; have HZ1 := Lib.hid hz1; have HZ2 := Lib.hid hz2
        clear hi hz0 hz1 hz2
        go_wp2
        refine Ch.wp_region_chain [.pred (EmpI wz.heap.size), .fix (.slice (some ⟨g, 0, none⟩) O.length k), .fix (.int .i64 k), .val (.slice (some ⟨g, 0, none⟩) k k), .pred (GathI wz.heap.size (O.take k)), .fix (.int .i64 n), .pred (LitI n), .chain wz.heap.size (GathI wz.heap.size (O.take k ++ [n])), .fix (.slice (some ⟨g, 0, none⟩) O.length k), .fix (.int .i64 k), .val (.slice (some ⟨g, 0, none⟩) 0 0)] mixed (by kernel_rfl) ?_
        refine Ch.SeqG.predStep EmpI.next (fun wv hbv hpv => ?_) (fun v0 => ?_)
        · clear hpv
          go_wp2_with fail
          exact Ch.post_pred (F := EmpI wz.heap.size) _ (by (repeat (first | exact Below.refl _ _ | refine Below.drew ?_ | refine below_drewN ?_ _ | (refine Below.alloc ?_ (by (try simp) <;> omega) _) | (refine Below.setCell ?_ (by (try simp) <;> omega) _) | (refine Below.trans ?_ (Below.mono (by assumption) (by (try simp) <;> omega)))))) ⟨_, rfl, hbv.size, Gath.made hbv.size⟩
        simp only [Act.put, List.setIfInBounds_toArray, List.set_cons_zero, List.set_cons_succ]
        refine Ch.SeqG.fixStep (.inl ⟨rfl, fun _ => rfl⟩) ?_
        simp only [Act.put, List.setIfInBounds_toArray, List.set_cons_zero, List.set_cons_succ]
        refine Ch.SeqG.fixStep (.inl ⟨rfl, fun _ => rfl⟩) ?_
        simp only [Act.put, List.setIfInBounds_toArray, List.set_cons_zero, List.set_cons_succ]
        refine Ch.SeqG.valStep (fun wv hbv hpv => ?_) ?_
        · clear hpv
          go_wp2_with fail
          exact Ch.post_val (Below.refl _ _)
        simp only [Act.put, List.setIfInBounds_toArray, List.set_cons_zero, List.set_cons_succ]
        refine Ch.SeqG.predStep GathI.next (fun wv hbv hpv => ?_) (fun v1 => ?_)
        · obtain ⟨g0, rfl, hg0, hE0⟩ := hpv _ (.head _) (by kernel_rfl)
          clear hpv
          refine wpList_append_arg _ rfl _ _ 44 rfl 3 i0 (.int .i64 0) 1 8 Try.underlying44 HII.out HZ0.out HZ1.out HZ2.out rfl (by decide) g0 0 0 0 [] rfl rfl (by intro j u h; simp at h) ⟨g, 0, none⟩ k k ((O.take k).flatMap f1) rfl (by rw [hln.out]) (HP.out wv hbv).1 ints_one ?_ ?_ ?_ ?_ ?_
          · intro h; intro j hj; rw [hln.out] at hj; omega
          · unfold maxLen; omega
          · omega
          · intro h
            have hk0' : k = 0 := by omega
            have e0 : O.take k = [] := by rw [hk0']; rfl
            rw [e0]
            simp only [List.flatMap_nil, World.setCells]
            exact ⟨rfl, _, by simp [hk0', Act.put], Below.refl _ _, hE0, by simp⟩
          · intro h v' w' hown hgrow
            refine ⟨rfl, v', rfl, below_grown hgrow (fun k h => by cases h), ?_, ?_⟩
            · have := own_mono hown hbv.size
              unfold Gath; rw [htl.out]; simpa using this
            · intro e; subst e; obtain ⟨_, ⟨_, h0⟩ | ⟨_, _, _, h0, _⟩⟩ := hown
              · omega
              · cases h0
        simp only [Act.put, List.setIfInBounds_toArray, List.set_cons_zero, List.set_cons_succ]
        refine Ch.SeqG.fixStep (.inl ⟨rfl, fun _ => rfl⟩) ?_
        simp only [Act.put, List.setIfInBounds_toArray, List.set_cons_zero, List.set_cons_succ]
        refine Ch.SeqG.predStep LitI.next (fun wv hbv hpv => ?_) (fun v2 => ?_)
        · clear hpv
          go_wp2_with fail
          exact Ch.post_pred (F := LitI n) _ (by (repeat (first | exact Below.refl _ _ | refine Below.drew ?_ | refine below_drewN ?_ _ | (refine Below.alloc ?_ (by (try simp) <;> omega) _) | (refine Below.setCell ?_ (by (try simp) <;> omega) _) | (refine Below.trans ?_ (Below.mono (by assumption) (by (try simp) <;> omega)))))) ⟨wv.heap.size, rfl, Blk.new _ _ _⟩
        simp only [Act.put, List.setIfInBounds_toArray, List.set_cons_zero, List.set_cons_succ]
        refine Ch.SeqG.chainStep GathI.next (Nat.le_refl _) (fun wv hbv hpv => ?_) (fun v3 => ?_)
        · obtain ⟨g9, rfl, hc9⟩ := hpv _ (.head _) (by kernel_rfl)
          obtain ⟨hG1, hn1⟩ : GathI wz.heap.size (O.take k) v1 wv := hpv _ (.tail _ (.head _)) (by kernel_rfl)
          clear hpv
          have hl1 := htl.out
          refine wpList_append_own _ rfl _ _ 44 rfl wz.heap.size 3 i0 (.int .i64 0) 1 8 Try.underlying44 HII.out HZ0.out HZ1.out HZ2.out rfl (by decide) _ _ _ rfl hG1 ⟨g9, 0, none⟩ 1 1 (f1 n) rfl rfl (lit_src hc9) (fun u hu => by simp [f1] at hu; subst hu; rfl) ?_ ?_ hbv.size ?_
          · rw [hl1]; unfold maxLen; omega
          · rw [hl1]; omega
          · intro v' w' hown hgrow hnil
            exact ⟨rfl, v', rfl, below_grown' (Below.refl _ _ |>.mono hbv.size) hgrow hG1 (Nat.le_refl _) hbv.size, Gath.snoc hown, fun e => hn1 (hnil.1 e).1⟩
        simp only [Act.put, List.setIfInBounds_toArray, List.set_cons_zero, List.set_cons_succ]
        refine Ch.SeqG.fixStep (.inl ⟨rfl, fun _ => rfl⟩) ?_
        simp only [Act.put, List.setIfInBounds_toArray, List.set_cons_zero, List.set_cons_succ]
        refine Ch.SeqG.fixStep (.inl ⟨rfl, fun _ => rfl⟩) ?_
        simp only [Act.put, List.setIfInBounds_toArray, List.set_cons_zero, List.set_cons_succ]
        refine Ch.SeqG.valStep (fun wv hbv hpv => ?_) ?_
        · clear hpv
          go_wp2_with fail
          exact Ch.post_val (Below.refl _ _)
        simp only [Act.put, List.setIfInBounds_toArray, List.set_cons_zero, List.set_cons_succ]
        refine Ch.SeqG.done fun wv hbv hpv => ?_
        obtain ⟨hG3, hn3⟩ : GathI wz.heap.size (O.take k ++ [n]) v3 wv := hpv _ (.head _)
        clear hpv
        have zv := hbv.size
        have hl3 := htl.out
        have hd3 := hld.out
        refine NoPanI ?_
        refine wpList_append_own _ rfl _ _ 44 rfl wz.heap.size 3 i0 (.int .i64 0) 1 8 Try.underlying44 HII.out HZ0.out HZ1.out HZ2.out rfl (by decide) _ _ _ rfl hG3 ⟨g, 0, none⟩ 0 0 ((O.drop k).flatMap f1) rfl (by rw [hd3]; first | done | rfl | (congr 1; omega) | (congr 1; have := HKL.out; omega)) (HP.out wv (hbv.mono (Nat.le_refl _))).2 ints_one ?_ ?_ zv ?_
        · rw [List.length_append, hl3, List.length_singleton]; unfold maxLen; omega
        · rw [List.length_append, hl3, List.length_singleton]; omega
        intro v' w1 hown hgrow hnil
        have hb9 : Below w.heap.size w w1 := below_grown' (qB.trans (hbv.mono zz)) hgrow hG3 zz (by omega)
        have hG9 : Gath f1 1 3 w1 B v' (insL O k n) := by
          have h9 := own_mono (B' := B) hown (by omega)
          unfold Gath insL
          rw [List.length_append, List.flatMap_append, List.length_drop]
          rw [show O.length - k = 0 by first | omega | (have := HKL.out; omega)]; exact h9
        have hv9 : v' ≠ .slice none 0 0 := fun e => hn3 (hnil.1 e).1
        have HX := Lib.hid (show Gath f1 1 3 w1 B v' (putL O n) ∧ v' ≠ .slice none 0 0 by rw [HV.out]; exact ⟨hG9, hv9⟩)
        have HB := Lib.hid hb9
        clear hown hG9 hgrow hG3 hnil hn3 hbv HP hb9 hv9 qB HG
        go_wp2_with fail
        refine Ch.NoPan.normal ?_
        go_wp2
        refine bodyPost_ret (v := v') (by simp [results, Try.results83, go_sem, *] <;> rfl) rfl ?_
        exact ⟨v', rfl, HX.out.1, HX.out.2, HB.out⟩
      · skip
        have hck : k < c := by have := HKL.out; omega
        have hck2 : ¬ (c = k) := by omega
        have hck3 : (k : Int) ≤ (c : Int) := by omega
        have hck4 : (k : Int) ≤ (O.length : Int) := by have := HKL.out; omega
        have HP := Lib.hid (partI_end (a2 := ⟨g, k, none⟩) HC2.out hBz HKL.out)
        clear HC2
        have zz := qB.size
        have hkk : k ≤ O.length := by omega
        have hln := Lib.hid (show ((O.take k).flatMap f1).length = k * 1 by rw [flat_len (f := f1) (m := 1) (fun _ => rfl), List.length_take]; congr 1; omega)
        have hld := Lib.hid (flat_dlen (f := f1) (m := 1) (L := O) (i := k) (fun _ => rfl))
        have htl := Lib.hid (show (O.take k).length = k by rw [List.length_take]; omega)
        obtain ⟨i0, hi, hz0, hz1, hz2⟩ := info_parts infoI
        have HII := Lib.hid hi; have HZ0 := Lib.hid hz0; have HZ1 := Lib.hid hz1; have HZ2 := Lib.hid hz2
        clear hi hz0 hz1 hz2
        go_wp2
        refine Ch.wp_region_chain [.pred (EmpI wz.heap.size), .fix (.slice (some ⟨g, 0, none⟩) O.length c), .fix (.int .i64 k), .val (.slice (some ⟨g, 0, none⟩) k c), .pred (GathI wz.heap.size (O.take k)), .fix (.int .i64 n), .pred (LitI n), .chain wz.heap.size (GathI wz.heap.size (O.take k ++ [n])), .fix (.slice (some ⟨g, 0, none⟩) O.length c), .fix (.int .i64 k), .val (.slice (some ⟨g, k, none⟩) (O.length - k) (c - k))] mixed (by kernel_rfl) ?_
        refine Ch.SeqG.predStep EmpI.next (fun wv hbv hpv => ?_) (fun v0 => ?_)
        · clear hpv
          go_wp2_with fail
          exact Ch.post_pred (F := EmpI wz.heap.size) _ (by (repeat (first | exact Below.refl _ _ | refine Below.drew ?_ | refine below_drewN ?_ _ | (refine Below.alloc ?_ (by (try simp) <;> omega) _) | (refine Below.setCell ?_ (by (try simp) <;> omega) _) | (refine Below.trans ?_ (Below.mono (by assumption) (by (try simp) <;> omega)))))) ⟨_, rfl, hbv.size, Gath.made hbv.size⟩
        simp only [Act.put, List.setIfInBounds_toArray, List.set_cons_zero, List.set_cons_succ]
        refine Ch.SeqG.fixStep (.inl ⟨rfl, fun _ => rfl⟩) ?_
        simp only [Act.put, List.setIfInBounds_toArray, List.set_cons_zero, List.set_cons_succ]
        refine Ch.SeqG.fixStep (.inl ⟨rfl, fun _ => rfl⟩) ?_
        simp only [Act.put, List.setIfInBounds_toArray, List.set_cons_zero, List.set_cons_succ]
        refine Ch.SeqG.valStep (fun wv hbv hpv => ?_) ?_
        · clear hpv
          go_wp2_with fail
          exact Ch.post_val (Below.refl _ _)
        simp only [Act.put, List.setIfInBounds_toArray, List.set_cons_zero, List.set_cons_succ]
        refine Ch.SeqG.predStep GathI.next (fun wv hbv hpv => ?_) (fun v1 => ?_)
        · obtain ⟨g0, rfl, hg0, hE0⟩ := hpv _ (.head _) (by kernel_rfl)
          clear hpv
          refine wpList_append_arg _ rfl _ _ 44 rfl 3 i0 (.int .i64 0) 1 8 Try.underlying44 HII.out HZ0.out HZ1.out HZ2.out rfl (by decide) g0 0 0 0 [] rfl rfl (by intro j u h; simp at h) ⟨g, 0, none⟩ k c ((O.take k).flatMap f1) rfl (by rw [hln.out]) (HP.out wv hbv).1 ints_one ?_ ?_ ?_ ?_ ?_
          · intro h; intro j hj; rw [hln.out] at hj; omega
          · unfold maxLen; omega
          · omega
          · intro h
            have hk0' : k = 0 := by omega
            have e0 : O.take k = [] := by rw [hk0']; rfl
            rw [e0]
            simp only [List.flatMap_nil, World.setCells]
            exact ⟨rfl, _, by simp [hk0', Act.put], Below.refl _ _, hE0, by simp⟩
          · intro h v' w' hown hgrow
            refine ⟨rfl, v', rfl, below_grown hgrow (fun k h => by cases h), ?_, ?_⟩
            · have := own_mono hown hbv.size
              unfold Gath; rw [htl.out]; simpa using this
            · intro e; subst e; obtain ⟨_, ⟨_, h0⟩ | ⟨_, _, _, h0, _⟩⟩ := hown
              · omega
              · cases h0
        simp only [Act.put, List.setIfInBounds_toArray, List.set_cons_zero, List.set_cons_succ]
        refine Ch.SeqG.fixStep (.inl ⟨rfl, fun _ => rfl⟩) ?_
        simp only [Act.put, List.setIfInBounds_toArray, List.set_cons_zero, List.set_cons_succ]
        refine Ch.SeqG.predStep LitI.next (fun wv hbv hpv => ?_) (fun v2 => ?_)
        · clear hpv
          go_wp2_with fail
          exact Ch.post_pred (F := LitI n) _ (by (repeat (first | exact Below.refl _ _ | refine Below.drew ?_ | refine below_drewN ?_ _ | (refine Below.alloc ?_ (by (try simp) <;> omega) _) | (refine Below.setCell ?_ (by (try simp) <;> omega) _) | (refine Below.trans ?_ (Below.mono (by assumption) (by (try simp) <;> omega)))))) ⟨wv.heap.size, rfl, Blk.new _ _ _⟩
        simp only [Act.put, List.setIfInBounds_toArray, List.set_cons_zero, List.set_cons_succ]
        refine Ch.SeqG.chainStep GathI.next (Nat.le_refl _) (fun wv hbv hpv => ?_) (fun v3 => ?_)
        · obtain ⟨g9, rfl, hc9⟩ := hpv _ (.head _) (by kernel_rfl)
          obtain ⟨hG1, hn1⟩ : GathI wz.heap.size (O.take k) v1 wv := hpv _ (.tail _ (.head _)) (by kernel_rfl)
          clear hpv
          have hl1 := htl.out
          refine wpList_append_own _ rfl _ _ 44 rfl wz.heap.size 3 i0 (.int .i64 0) 1 8 Try.underlying44 HII.out HZ0.out HZ1.out HZ2.out rfl (by decide) _ _ _ rfl hG1 ⟨g9, 0, none⟩ 1 1 (f1 n) rfl rfl (lit_src hc9) (fun u hu => by simp [f1] at hu; subst hu; rfl) ?_ ?_ hbv.size ?_
          · rw [hl1]; unfold maxLen; omega
          · rw [hl1]; omega
          · intro v' w' hown hgrow hnil
            exact ⟨rfl, v', rfl, below_grown' (Below.refl _ _ |>.mono hbv.size) hgrow hG1 (Nat.le_refl _) hbv.size, Gath.snoc hown, fun e => hn1 (hnil.1 e).1⟩
        simp only [Act.put, List.setIfInBounds_toArray, List.set_cons_zero, List.set_cons_succ]
        refine Ch.SeqG.fixStep (.inl ⟨rfl, fun _ => rfl⟩) ?_
        simp only [Act.put, List.setIfInBounds_toArray, List.set_cons_zero, List.set_cons_succ]
        refine Ch.SeqG.fixStep (.inl ⟨rfl, fun _ => rfl⟩) ?_
        simp only [Act.put, List.setIfInBounds_toArray, List.set_cons_zero, List.set_cons_succ]
        refine Ch.SeqG.valStep (fun wv hbv hpv => ?_) ?_
        · clear hpv
          go_wp2_with fail
          exact Ch.post_val (Below.refl _ _)
        simp only [Act.put, List.setIfInBounds_toArray, List.set_cons_zero, List.set_cons_succ]
        refine Ch.SeqG.done fun wv hbv hpv => ?_
        obtain ⟨hG3, hn3⟩ : GathI wz.heap.size (O.take k ++ [n]) v3 wv := hpv _ (.head _)
        clear hpv
        have zv := hbv.size
        have hl3 := htl.out
        have hd3 := hld.out
        refine NoPanI ?_
        refine wpList_append_own _ rfl _ _ 44 rfl wz.heap.size 3 i0 (.int .i64 0) 1 8 Try.underlying44 HII.out HZ0.out HZ1.out HZ2.out rfl (by decide) _ _ _ rfl hG3 ⟨g, k, none⟩ (O.length - k) (c - k) ((O.drop k).flatMap f1) rfl (by rw [hd3]; first | done | rfl | (congr 1; omega) | (congr 1; have := HKL.out; omega)) (HP.out wv (hbv.mono (Nat.le_refl _))).2 ints_one ?_ ?_ zv ?_
        · rw [List.length_append, hl3, List.length_singleton]; unfold maxLen; omega
        · rw [List.length_append, hl3, List.length_singleton]; omega
        intro v' w1 hown hgrow hnil
        have hb9 : Below w.heap.size w w1 := below_grown' (qB.trans (hbv.mono zz)) hgrow hG3 zz (by omega)
        have hG9 : Gath f1 1 3 w1 B v' (insL O k n) := by
          have h9 := own_mono (B' := B) hown (by omega)
          unfold Gath insL
          rw [List.length_append, List.flatMap_append, List.length_drop]
          exact h9
        have hv9 : v' ≠ .slice none 0 0 := fun e => hn3 (hnil.1 e).1
        have HX := Lib.hid (show Gath f1 1 3 w1 B v' (putL O n) ∧ v' ≠ .slice none 0 0 by rw [HV.out]; exact ⟨hG9, hv9⟩)
        have HB := Lib.hid hb9
        clear hown hG9 hgrow hG3 hnil hn3 hbv HP hb9 hv9 qB HG
        go_wp2_with fail
        refine Ch.NoPan.normal ?_
        go_wp2
        refine bodyPost_ret (v := v') (by simp [results, Try.results83, go_sem, *] <;> rfl) rfl ?_
        exact ⟨v', rfl, HX.out.1, HX.out.2, HB.out⟩
end Go.Proofs.Ytfcmfadkkfkidaa
namespace Go.Proofs.Ytfcmfadkkfkidaa
open Go.RowKit

def lqV (L : List T5) (s : Int) : Value := .tuple #[.int .i64 (lqN L s), .bool (lqB L s)]
theorem mt_nil {L : List T5} {M : List Elt} (h : lls M = mtL L) (h2 : mtL L = []) : M = [] := by
  rw [h2] at h
  exact List.map_eq_nil_iff.1 h
theorem mt_pos {L : List T5} {M : List Elt} (h : lls M = mtL L) (h2 : ¬ mtL L = []) : (0 : Int) < M.length := by
  cases M with
  | nil => exact absurd h.symm h2
  | cons x r => simp <;> omega
theorem mt_noB {L : List T5} {s : Int} (h2 : ¬ mtL L = []) : lqB L s = false := by unfold lqB; simp [h2]
theorem gap_end {S : List Int} {j : Nat} (h1 : 1 ≤ j) (h2 : j ≤ S.length ∨ j = 1) (h3 : ¬ j < S.length) : gapK S (j - 1) = gapN S := by
  unfold gapN
  rcases h2 with h2 | h2
  · rw [show j = S.length by omega]
  · rw [h2]
    by_cases h : S.length = 0
    · rw [h]
    · rw [show S.length = 1 by omega]

set_option maxRecDepth 20000 in
set_option maxHeartbeats 16000000 in
theorem SLongestQuiet_any (A : Option Addr) (c : Nat) (L : List T5) (s : Int) (w : World) (hr : SlR f5 5 w w.heap.size A L) (hm : (L.length : Int) ≤ 1048576) (hI : ∀ x ∈ L, InI5 x) :
    Calls Try.prog 48 #[.slice A L.length c, .int .i64 s] w fun e w' => e = .returned (.tuple #[.int .i64 (lqN L s), .bool (lqB L s)]) ∧ Below w.heap.size w w' := by
  have HI := Lib.hid hI; clear hI
  have hm0 : (0 : Int) ≤ L.length := by omega
  go_enter Try.func48, Try.ntmps48
  go_wp2_with fail
  refine (SMeetingTrips_any _ _ L _ (by exact hr) hm HI.out).mono ?_; rintro e w3 ⟨A3, c3, M, rfl, hM, -, hb3⟩
  cases h1 : tripsB L
  · have Hv := Lib.hid (lq_no (L := L) (s := s) (by simp [lqB, h1]))
    clear h1 hM
    go_wp2
    go_ret2
    exact ⟨by rw [Hv.out.1, Hv.out.2]; rfl, hb3⟩
  by_cases h2 : mtL L = []
  · obtain rfl := mt_nil hM h2
    have H1 := Lib.hid h1; have H2 := Lib.hid h2
    clear h1 h2 hM
    go_wp2_with fail
    refine (l1In_any _ _ _ _).mono ?_; rintro e w' ⟨rfl, rfl⟩
    cases h3 : inB s 0 8
    · have Hv := Lib.hid (lq_no (L := L) (s := s) (by simp [lqB, h3]))
      clear h3
      go_wp2
      go_ret2
      exact ⟨by rw [Hv.out.1, Hv.out.2]; rfl, hb3⟩
    · have Hv := Lib.hid (lq_yes H1.out H2.out h3)
      have hs8 := inB_iff.1 h3
      have HS8 := Lib.hid hs8
      have HL := Lib.hid (trOk_all H1.out)
      have hl10 := trips_len H1.out
      have HK := Lib.hid (enK_bd hs8 H1.out H2.out)
      have HBD := Lib.hid (srtE_bd hs8 H1.out H2.out)
      have hr3 := hr.next hb3
      have hE := Gath.made (f := f1) (m := 1) (t := 3) (B := w3.heap.size) (w := w3) (Nat.le_refl _)
      have hbE : Below w3.heap.size w3 (w3.alloc (.cells #[] 3 (0, 0))) := by (repeat (first | exact Below.refl _ _ | refine Below.drew ?_ | refine below_drewN ?_ _ | (refine Below.alloc ?_ (by (try simp) <;> omega) _) | (refine Below.setCell ?_ (by (try simp) <;> omega) _) | (refine Below.trans ?_ (Below.mono (by assumption) (by (try simp) <;> omega)))))
      clear h3 hr hs8
      go_wp2
      go_loopw [8, 9] (fun v8 v9 wr => ∃ k : Nat, v9 = .int .i64 k ∧ k ≤ L.length ∧ Gath f1 1 3 wr w3.heap.size v8 (enK L s k) ∧ v8 ≠ .slice none 0 0 ∧ Below w3.heap.size w3 wr) (fun _ v9 _ => (L.length - intOf v9).toNat)
      case atStart => exact ⟨0, rfl, by omega, hE, by simp, hbE⟩
      case round =>
        obtain ⟨k, rfl, hk, hG, hv8, hb⟩ := hrel
        have zr := hb.size
        have hk0 : (0 : Int) ≤ (k : Int) := by omega
        clear hE hbE
        by_cases hlt : k < L.length
        · have hx : L[k]? = some L[k] := List.getElem?_eq_getElem hlt
          obtain ⟨b, off, rfl, hB, hcs⟩ := hr3 (SlR.ne hx)
          generalize L[k] = x at *
          have htx := HL.out x (List.mem_of_getElem? hx)
          obtain ⟨c0, c1, c2, c3', c4⟩ := cells5 (hcs.below hb hB) hx
          have hk1 : (k : Int) < (L.length : Int) := by omega
          have HX := Lib.hid hx
          have HG := Lib.hid hG
          have HV := Lib.hid hv8
          clear hcs hlt hx hG hv8
          go_wp2_with fail
          refine (l11EntersT_any x s _ htx HS8.out).mono ?_; rintro e w4 ⟨rfl, hb4⟩
          have hb04 := hb.trans (hb4.mono zr)
          have HG4 := Lib.hid (HG.out.below hb4)
          have z4 := hb04.size
          clear c0 c1 c2 c3' c4 hb4 HG hb zr
          by_cases h0 : 0 ≤ entT x s
          · have HN := Lib.hid (enK_yes HX.out h0)
            have hkl := HK.out k
            have C5 := Lib.hid (l1Put_any w3.heap.size _ (enK L s k) (entT x s) w4 HG4.out HV.out z4 (by omega))
            generalize entT x s = m at *
            clear HG4 HV hkl
            go_wp2_with fail
            refine C5.out.mono ?_; rintro e w5 ⟨v', rfl, hG5, hv5, hb5⟩
            have hb05 := hb04.trans (hb5.mono z4)
            have HG5 := Lib.hid hG5
            have HV5 := Lib.hid hv5
            clear C5 hG5 hv5 hb5 hb04
            go_wp2
            go_roundw
            case rel => exact ⟨k + 1, by go_num, by omega, by rw [HN.out]; exact HG5.out, HV5.out, hb05⟩
            case measure => simp only [intOf]; omega
          · have HN := Lib.hid (enK_no HX.out h0)
            generalize entT x s = m at *
            go_wp2
            go_roundw
            case rel => exact ⟨k + 1, by go_num, by omega, by rw [HN.out]; exact HG4.out, HV.out, hb04⟩
            case measure => simp only [intOf]; omega
        · have hkl : k = L.length := by omega
          have hk1 : ¬ (k : Int) < (L.length : Int) := by omega
          rw [hkl] at hG
          rw [show enK L s L.length = srtE L s from rfl] at hG
          obtain ⟨g, c5, rfl, hgB, hc5, hgl, hC⟩ := hG.form1 hv8
          obtain ⟨hSl, hSb⟩ := HBD.out
          have HGB := Lib.hid (gapK_bd hSb)
          have HSB := Lib.hid hSb
          clear hkl hlt hG hv8 HK HL HI hSb HBD
          generalize srtE L s = S at *
          have hS0 : (0 : Int) ≤ S.length := by omega
          have hS1 : (S.length : Int) ≤ 10 := by omega
          have HC := Lib.hid hC
          clear hC
          go_wp2
          go_loopw [11, 12] (fun v11 v12 wr2 => ∃ j : Nat, v12 = .int .i64 j ∧ v11 = .int .i64 (gapK S (j - 1)) ∧ 1 ≤ j ∧ (j ≤ S.length ∨ j = 1) ∧ Below wr.heap.size wr wr2) (fun _ v12 _ => (20 - intOf v12).toNat)
          case atStart => exact ⟨1, rfl, rfl, by omega, .inr rfl, Below.refl _ _⟩
          case round =>
            obtain ⟨j, rfl, rfl, hj1, hj2, hb2⟩ := hrel
            have hj0 : (1 : Int) ≤ (j : Int) := by omega
            have hj11 : (j : Int) ≤ 11 := by omega
            by_cases hjl : j < S.length
            · obtain ⟨q, hq⟩ : ∃ q, q + 1 = j := ⟨j - 1, by omega⟩
              have ha : S[q]? = some S[q] := List.getElem?_eq_getElem (by omega)
              have hbb : S[j]? = some S[j] := List.getElem?_eq_getElem hjl
              generalize S[q] = a at ha
              generalize S[j] = b at hbb
              have hC2 := HC.out.below hb2 hgl
              have ca := cells1 hC2 ha
              have cb := cells1 hC2 hbb
              simp only [Nat.zero_add] at ca cb
              have HN := Lib.hid (show max (gapK S (j - 1)) (b - a - 4) = gapK S j by rw [← hq, Nat.add_sub_cancel]; rw [← hq] at hbb; exact (gapK_succ ha hbb).symm)
              have hab := HGB.out (j - 1)
              have hjl2 : (j : Int) < (S.length : Int) := by omega
              have htn : ((j : Int) - 1).toNat = q := by omega
              have hw1 : IntKind.i64.wrap ((j : Int) - 1) = (j : Int) - 1 := by rw [IntKind.wrap_i64]; omega
              have hi1 : (0 : Int) ≤ (j : Int) - 1 := by omega
              have hi2 : (j : Int) - 1 < (S.length : Int) := by omega
              have hab1 := HSB.out a (List.mem_of_getElem? ha)
              have hab2 := HSB.out b (List.mem_of_getElem? hbb)
              clear hC2 ha hq
              generalize gapK S (j - 1) = m at *
              go_wp2
              go_quiet (exact (l1Most_any _ _ _).mono fun _ _ ⟨he, hw⟩ => ⟨he.trans (by rw [HN.out]), _, hw.symm⟩)
              go_wp2
              go_roundw
              case rel => exact ⟨j + 1, by go_num, rfl, by omega, by omega, by first | exact hb2 | exact below_drewN hb2 _⟩
              case measure => simp only [intOf]; omega
            · have hjl2 : ¬ (j : Int) < (S.length : Int) := by omega
              have HN := Lib.hid (gap_end hj1 hj2 hjl)
              have hbX := hb3.trans ((hb.trans (hb2.mono zr)).mono hb3.size)
              clear hjl hj2
              go_wp2
              go_ret2
              exact ⟨by rw [Hv.out.1, Hv.out.2, HN.out]; rfl, hbX⟩
  · have Hv := Lib.hid (lq_no (mt_noB (s := s) h2))
    have hM0 := mt_pos hM h2
    have hM1 : 0 < M.length := by omega
    clear h2 hM
    go_wp2
    go_ret2
    exact ⟨by rw [Hv.out.1, Hv.out.2]; rfl, hb3⟩
end Go.Proofs.Ytfcmfadkkfkidaa
namespace Go.Proofs.Ytfcmfadkkfkidaa
open Go.RowKit

set_option maxHeartbeats 1000000 in
theorem lqC_any (g1 g2 c1 c2 : Nat) (m1 m2 : Int) (w : World) (h1 : w.cell? ⟨g1, 1, none⟩ = some (.int .i64 m1)) (h2 : w.cell? ⟨g2, 1, none⟩ = some (.int .i64 m2)) :
    Calls Try.prog 86 #[.slice (some ⟨g1, 0, none⟩) 3 c1, .slice (some ⟨g2, 0, none⟩) 3 c2] w fun e w' => e = .returned (.int .i64 (Lib.compareInt m1 m2)) ∧ ∃ q, w' = w.drewN q := by
  go_enter Try.func86, Try.ntmps86
  go_wp2
  go_quiet (exact (Try.cmp_Compare_int _ _ _).mono fun _ _ ⟨he, hw⟩ => ⟨he, _, hw⟩)
  go_wp2
  go_ret
  exact ⟨rfl, _, rfl⟩

def keyE (x : Elt) : Int := (x.2.2[1]?).getD 0
theorem keyE_at {x : Elt} (h : x.2.2.length = 3) : x.2.2[1]? = some (keyE x) := by
  unfold keyE
  rw [List.getElem?_eq_getElem (by omega)]; rfl
theorem cmp_lt (a b : Int) : decide (Lib.compareInt a b < 0) = decide (a < b) := by
  unfold Lib.compareInt
  by_cases h : a < b
  · simp [h]
  · rw [if_neg h]
    by_cases h2 : a > b
    · rw [if_pos h2]; simp [h]
    · rw [if_neg h2]; simp [h]
theorem below_putRow {α : Type} [Inhabited α] (enc : α → Value) (w : World) (B blk off : Nat) (d : Array α) (hB : B ≤ blk) : Below B w (Sort.putRow enc w blk off d) :=
  ⟨rfl, rfl, rfl, by simp [Sort.putRow, Sort.mapBlock], fun k hk => by
    simp only [Sort.putRow, Sort.mapBlock, Array.getElem?_modify]
    rw [if_neg (by omega)]⟩
theorem heap_putRow {α : Type} [Inhabited α] (enc : α → Value) (w : World) (blk off k : Nat) (d : Array α) (hk : blk ≠ k) : (Sort.putRow enc w blk off d).heap[k]? = w.heap[k]? := by
  simp only [Sort.putRow, Sort.mapBlock, Array.getElem?_modify]
  rw [if_neg hk]

set_option maxHeartbeats 4000000 in
theorem sortT_any (B g c : Nat) (M : List Elt) (w : World) (hG : GathS w B (.slice (some ⟨g, 0, none⟩) M.length c) M) (h3 : ∀ x ∈ M, x.2.2.length = 3) (h12 : M.length ≤ 12) (hM : M ≠ []) :
    Calls Try.prog 85 #[.slice (some ⟨g, 0, none⟩) M.length c, .func (.func 86) #[] #[]] w fun e w' => e = .returned (.tuple #[]) ∧
      ∃ N : List Elt, N.Perm M ∧ N.Pairwise (fun x y => keyE x ≤ keyE y) ∧ Cells fS 1 w' g 0 N ∧ (∀ x ∈ M, RowOk w' B x) ∧ Below B w w' := by
  obtain ⟨A1, c1, e1, ho⟩ := Gath.own (f := fS) (m := 1) (fun _ => rfl) hG.g
  injection e1 with e1 _ e2
  subst e1; subst e2
  obtain ⟨g', hA, hBg, hR, hC⟩ := ho hM
  injection hA with hA
  injection hA with hA
  subst hA
  have hrows := hG.rows
  haveI : Inhabited {x : Elt // x ∈ M} := ⟨⟨M.head hM, List.head_mem hM⟩⟩
  obtain ⟨enc, henc⟩ : ∃ enc : {x : Elt // x ∈ M} → Value, enc = fun x => .slice x.1.1 x.1.2.2.length x.1.2.1 := ⟨_, rfl⟩
  obtain ⟨cf, hcf⟩ : ∃ cf : {x : Elt // x ∈ M} → {x : Elt // x ∈ M} → Int, cf = fun x y => Lib.compareInt (keyE x.1) (keyE y.1) := ⟨_, rfl⟩
  obtain ⟨d, hd0⟩ : ∃ d : Array {x : Elt // x ∈ M}, d = M.attach.toArray := ⟨_, rfl⟩
  have hd : d.size = M.length := by rw [hd0]; simp
  have hlt : ∀ x y, ltOf cf x y = decide (keyE x.1 < keyE y.1) := fun x y => by
    unfold ltOf
    rw [hcf]
    exact cmp_lt _ _
  have hget : ∀ j, j < M.length → M[j]? = some (d[j]!).1 := fun j hj => by
    rw [getElem!_pos d j (by omega)]
    simp only [hd0, List.getElem_toArray, List.getElem_attach]
    exact List.getElem?_eq_getElem hj
  have hO : OneCell enc := fun x => by rw [henc]; rfl
  have hS : Sort.SWO (ltOf cf) := ⟨fun x => by rw [hlt]; simp, fun x y z h1 h2 => by
    rw [hlt] at *
    simp only [decide_eq_true_eq] at *; omega, fun x y z h1 h2 => by
    rw [hlt] at *
    simp only [decide_eq_false_iff_not] at *; omega⟩
  have hne : ∀ x ∈ M, ∀ gx, x.1 = some ⟨gx, 0, none⟩ → g ≠ gx ∧ gx < w.heap.size := fun x hx gx hxa => by
    obtain ⟨gx', h1, _, ⟨cs, hh, _⟩, _⟩ := hrows x hx
    rw [hxa] at h1
    injection h1 with h1
    injection h1 with h1
    subst h1
    refine ⟨ne_ty hR hh (by decide), ?_⟩
    rcases Nat.lt_or_ge gx w.heap.size with h | h
    · exact h
    · rw [Array.getElem?_eq_none h] at hh; cases hh
  have hH : Sort.Holds enc w g 0 d := fun j hj => by
    refine ⟨?_, hR.frozen _⟩
    rw [henc]
    exact cellS hC (hget j (by omega))
  have hcmp : CmpReads Try.prog 86 #[] enc cf g 0 d.size w := fun m os dk hdk x y => by
    obtain ⟨gx, hxA, _, _, hCx⟩ := hrows x.1 x.2
    obtain ⟨gy, hyA, _, _, hCy⟩ := hrows y.1 y.2
    have hx3 := h3 x.1 x.2
    have hy3 := h3 y.1 y.2
    obtain ⟨nx, lx⟩ := hne x.1 x.2 gx hxA
    obtain ⟨ny, ly⟩ := hne y.1 y.2 gy hyA
    have kx := cells1 hCx (k := 1) (keyE_at hx3)
    have ky := cells1 hCy (k := 1) (keyE_at hy3)
    simp only [Nat.zero_add] at kx ky
    have hsz : ∀ q, q < w.heap.size → q < (Sort.putRow enc (Sort.ahead w m) g 0 dk).heap.size := fun q hq => by
      have := (below_putRow enc (Sort.ahead w m) g g 0 dk (Nat.le_refl _)).size
      exact Nat.lt_of_lt_of_le hq this
    have tr : ∀ q v, q < w.heap.size → g ≠ q → w.cell? ⟨q, 1, none⟩ = some v → (sortWorld enc w g 0 m dk os).cell? ⟨q, 1, none⟩ = some v := fun q v hq hn hv => by
      unfold sortWorld
      rw [Sort.cell?_grow _ _ _ (hsz q hq), Sort.cell?_putRow_other _ _ _ _ _ _ (.inl (Ne.symm hn))]
      exact hv
    have ex : enc x = .slice (some ⟨gx, 0, none⟩) 3 x.1.2.1 := by rw [henc]; simp only []; rw [hxA, hx3]
    have ey : enc y = .slice (some ⟨gy, 0, none⟩) 3 y.1.2.1 := by rw [henc]; simp only []; rw [hyA, hy3]
    have := lqC_any gx gy x.1.2.1 y.1.2.1 (keyE x.1) (keyE y.1) (sortWorld enc w g 0 m dk os) (tr gx _ lx nx kx) (tr gy _ ly ny ky)
    rw [ex, ey, hcf]
    exact this
  have eg : ∀ args w, (callFunc 86 args).run Try.prog w = .ok (.enter 86 args) w := Go.Proofs.enters_of Try.func86 (by kernel_rfl) rfl
  rw [← hd]
  refine (Try.slices_SortFunc_small_sorted enc hO cf hS 86 #[] g 0 c d w eg hcmp hH (by omega) (fun n W hn => (Try.bits_Len (n : Int) W (by omega) (by omega)).mono fun e w' ⟨he, hw⟩ => ⟨⟨_, he⟩, hw⟩)).mono ?_
  rintro e w' ⟨rfl, d', n, ⟨hsz, _, hperm⟩, hsrt, rfl⟩
  have e1 : d'.extract 0 d.size = d' := by rw [← hsz]; exact Array.extract_size
  have e2 : d.extract 0 d.size = d := Array.extract_size
  rw [e1, e2] at hperm
  have hdm : d.toList.map Subtype.val = M := by rw [hd0]; exact List.attach_map_subtype_val M
  have hcellN : ∀ k, k < d'.size → (d'.toList.map Subtype.val)[k]? = some (d'[k]!).1 := fun k hk => by
    rw [getElem!_pos d' k hk]
    simp [hk]
  refine ⟨rfl, d'.toList.map Subtype.val, by have := hperm.map Subtype.val; rwa [hdm] at this, ?_, ?_, ?_, ?_⟩
  · rw [List.pairwise_iff_getElem]
    intro i j hi hj hij
    have hi' : i < d'.size := by simpa using hi
    have hj' : j < d'.size := by simpa using hj
    have h := hsrt i j (Nat.zero_le _) hij (by omega)
    rw [hlt] at h
    simp only [decide_eq_false_iff_not] at h
    have e3 := hcellN i hi'
    have e4 := hcellN j hj'
    rw [List.getElem?_eq_getElem hi] at e3
    rw [List.getElem?_eq_getElem hj] at e4
    rw [Option.some.inj e3, Option.some.inj e4]
    omega
  · intro k x hx j u hu
    have hk : k < d'.size := by simpa using (List.getElem?_eq_some_iff.1 hx).1
    rw [hcellN k hk] at hx
    have hx := Option.some.inj hx
    have hj : j = 0 := by have := (List.getElem?_eq_some_iff.1 hu).1; simp [fS] at this; exact this
    subst hj
    have h := Sort.cell?_putRow enc w g 0 d d' hH hsz k hk
    have hu' : u = enc (d'[k]!) := by
      rw [henc]; simp only []
      rw [hx]
      simp [fS] at hu; exact hu.symm
    rw [hu']
    show (Sort.putRow enc w g 0 d').cell? _ = _
    rw [show 0 + k * 1 + 0 = 0 + k by omega]
    exact h
  · intro x hx
    exact (hrows x hx).same fun gx hgx => by
      show (Sort.putRow enc w g 0 d').heap[gx]? = _
      exact heap_putRow enc w g 0 gx d' (hne x hx gx hgx).1
  · exact below_drewN (below_putRow enc w B g 0 d' hBg) _
end Go.Proofs.Ytfcmfadkkfkidaa
namespace Go.Proofs.Ytfcmfadkkfkidaa
open Go.RowKit

/-- The rows of the times of section s. -/
def rowsE (s : Int) (E : List Int) : List (List Int) := E.map fun m => [s, m, m + 4]
theorem rowsE_snoc (s m : Int) (E : List Int) : rowsE s (E ++ [m]) = rowsE s E ++ [[s, m, m + 4]] := by simp [rowsE]
/-- What the first j sections of a trip have added. -/
def HitP (M : List Elt) (x : T5) (s : Int) (j : Nat) (M' : List Elt) : Prop := (M' = M ∧ ∀ i, i < j → losec x i ≠ s) ∨ (∃ y i, i < j ∧ losec x i = s ∧ M' = M ++ [y] ∧ y.2.2 = [s, x.2.2.2.1 + 4 * i, x.2.2.2.1 + 4 * i + 4])
theorem losec_inj {x : T5} {i j : Nat} (h : losec x i = losec x j) : i = j := by
  unfold losec secLo at h
  split at h <;> omega
theorem hit_no {M M' : List Elt} {x : T5} {s : Int} {j : Nat} (h : HitP M x s j M') (hj : losec x j ≠ s) : HitP M x s (j + 1) M' := by
  rcases h with ⟨h1, h2⟩ | ⟨y, i, h1, h2, h3, h4⟩
  · refine .inl ⟨h1, fun i hi => ?_⟩
    by_cases e : i = j
    · rw [e]; exact hj
    · exact h2 i (by omega)
  · exact .inr ⟨y, i, by omega, h2, h3, h4⟩
theorem hit_same {M M' : List Elt} {x : T5} {s : Int} {j : Nat} (h : HitP M x s j M') (hj : losec x j = s) : M' = M := by
  rcases h with ⟨h1, _⟩ | ⟨y, i, h1, h2, _⟩
  · exact h1
  · have := losec_inj (h2.trans hj.symm); omega
theorem hit_yes {M : List Elt} {x : T5} {s : Int} {j : Nat} {y : Elt} (hj : losec x j = s) (hy : y.2.2 = [losec x j, x.2.2.2.1 + 4 * j, x.2.2.2.1 + 4 * j + 4]) : HitP M x s (j + 1) (M ++ [y]) :=
  .inr ⟨y, j, by omega, hj, rfl, by rw [hy, hj]⟩
theorem hit_end {L : List T5} {M M' : List Elt} {x : T5} {s : Int} {k : Nat} (hx : L[k]? = some x) (hxo : TrOk x) (hM : lls M = rowsE s (entL L s k)) (h : HitP M x s (nsec x) M') : lls M' = rowsE s (entL L s (k + 1)) := by
  rcases h with ⟨rfl, h2⟩ | ⟨y, i, h1, h2, rfl, h4⟩
  · have h0 : ¬ 0 ≤ entT x s := fun h => by
      obtain ⟨i, hi, e⟩ := ent_some h
      exact h2 i hi e.symm
    rw [entL_no hx h0]; exact hM
  · have e : entT x s = x.2.2.2.1 + 4 * i := by rw [← h2]; exact ent_lo h1
    have hd := hxo.d
    rw [entL_yes hx (by omega), rowsE_snoc, lls_snoc, hM, h4, e]
theorem keys_rows {M : List Elt} {s : Int} {E : List Int} (h : lls M = rowsE s E) : M.map keyE = E := by
  have h1 : M.map keyE = (lls M).map (fun l => (l[1]?).getD 0) := by unfold lls; rw [List.map_map]; rfl
  rw [h1, h]
  unfold rowsE
  rw [List.map_map]
  exact List.map_id'' (fun _ => rfl) E
theorem row_of {M : List Elt} {s : Int} {E : List Int} (h : lls M = rowsE s E) : ∀ x ∈ M, x.2.2 = [s, keyE x, keyE x + 4] := fun x hx => by
  have h1 : x.2.2 ∈ rowsE s E := by rw [← h]; exact List.mem_map.2 ⟨x, hx, rfl⟩
  obtain ⟨m, _, h2⟩ := List.mem_map.1 h1
  have : keyE x = m := by unfold keyE; rw [← h2]; rfl
  rw [this]; exact h2.symm
theorem slit_src {w : World} {g : Nat} {u : Value} (h : Blk w g 44 #[u]) : ∀ j v, [u][j]? = some v → w.cell? ((⟨g, 0, none⟩ : Addr).add j) = some v := by
  intro j v hj
  rw [Go.WideShapes.add_plain, Nat.zero_add]
  rw [h.cell j]
  simpa using hj
theorem GathS.formS {w : World} {B : Nat} {v : Value} {M : List Elt} (h : GathS w B v M) (hM : M ≠ []) : ∃ g c, v = .slice (some ⟨g, 0, none⟩) M.length c := by
  obtain ⟨_, ⟨_, hn⟩ | ⟨g, cap, cur, hv, _⟩⟩ := h.g
  · exact absurd (List.length_eq_zero_iff.1 hn) hM
  · exact ⟨g, cap, hv⟩

theorem cell_up {w wv : World} {b k : Nat} (hb : Below w.heap.size w wv) (h : b < w.heap.size) : wv.cell? ⟨b, k, none⟩ = w.cell? ⟨b, k, none⟩ := hb.cell (p := ⟨b, k, none⟩) h
set_option maxRecDepth 20000 in
set_option maxHeartbeats 32000000 in
theorem LongestQuiet_any (A : Option Addr) (c : Nat) (L : List T5) (s : Int) (w : World) (hr : SlR f5 5 w w.heap.size A L) (hm : (L.length : Int) ≤ 1048576) (hI : ∀ x ∈ L, InI5 x) (hc : L.length ≤ c ∧ ∃ x, A = some x) :
    Calls Try.prog 49 #[.slice A L.length c, .int .i64 s] w fun e w' => e = .returned (.tuple #[.int .i64 (lqN L s), .bool (lqB L s)]) ∧ Below w.heap.size w w' := by
  have HI := Lib.hid hI; clear hI
  have hm0 : (0 : Int) ≤ L.length := by omega
  have C1 := Lib.hid (MeetingTrips_any A c L w hr hm HI.out hc)
  clear hc
  go_enter Try.func49, Try.ntmps49
  go_wp2_with fail
  refine C1.out.mono ?_; rintro e w3 ⟨A3, c3, M, rfl, hM, -, hb3⟩
  clear C1
  cases h1 : tripsB L
  · have Hv := Lib.hid (lq_no (L := L) (s := s) (by simp [lqB, h1]))
    clear h1 hM
    go_wp2
    go_ret2
    exact ⟨by rw [Hv.out.1, Hv.out.2]; rfl, hb3⟩
  by_cases h2 : mtL L = []
  case neg =>
    have Hv := Lib.hid (lq_no (mt_noB (s := s) h2))
    have hM0 := mt_pos hM h2
    have hM1 : 0 < M.length := by omega
    clear h2 hM
    go_wp2
    go_ret2
    exact ⟨by rw [Hv.out.1, Hv.out.2]; rfl, hb3⟩
  obtain rfl := mt_nil hM h2
  have H1 := Lib.hid h1; have H2 := Lib.hid h2
  clear h1 h2 hM
  go_wp2_with fail
  refine (within_any _ _ _ _).mono ?_; rintro e w' ⟨rfl, rfl⟩
  cases h3 : inB s 0 8
  · have Hv := Lib.hid (lq_no (L := L) (s := s) (by simp [lqB, h3]))
    clear h3
    go_wp2
    go_ret2
    exact ⟨by rw [Hv.out.1, Hv.out.2]; rfl, hb3⟩
  have Hv := Lib.hid (lq_yes H1.out H2.out h3)
  have hs8 := inB_iff.1 h3
  have HS8 := Lib.hid hs8
  have HL := Lib.hid (trOk_all H1.out)
  have hl10 := trips_len H1.out
  have HBD := Lib.hid (srtE_bd hs8 H1.out H2.out)
  have HSO := Lib.hid (fun D hp hD => srtE_of hs8 H1.out H2.out (D := D) hp hD)
  have HEL := Lib.hid (entL_len L s)
  have hr3 := hr.next hb3
  obtain ⟨i0, hi, hz0, hz1, hz2⟩ := info_parts infoRow
  have HII := Lib.hid hi; have HZ0 := Lib.hid hz0; have HZ1 := Lib.hid hz1; have HZ2 := Lib.hid hz2
  clear hi hz0 hz1 hz2
  clear h3 hr hs8
  go_wp2
  go_loopw [8, 34] (fun v8 v34 wr => ∃ (k : Nat) (M : List Elt), v34 = .int .i64 k ∧ k ≤ L.length ∧ GathS wr w3.heap.size v8 M ∧ Hid (lls M = rowsE s (entL L s k)) ∧ Below w3.heap.size w3 wr) (fun _ v34 _ => (L.length - intOf v34).toNat)
  case atStart => exact ⟨0, [], rfl, by omega, GathS.nil, by show _ = _; rfl, Below.refl _ _⟩
  case round =>
    obtain ⟨k, M, rfl, hk, hG, hM, hb⟩ := hrel
    have zr := hb.size
    have hk0 : (0 : Int) ≤ (k : Int) := by omega
    by_cases hlt : k < L.length
    · have hx : L[k]? = some L[k] := List.getElem?_eq_getElem hlt
      obtain ⟨b, off, hA, hB, hcs⟩ := hr3 (SlR.ne hx)
      cases hA
      generalize L[k] = x at *
      have htx := HL.out x (List.mem_of_getElem? hx)
      obtain ⟨c0, c1, c2, c3', c4⟩ := cells5 (hcs.below hb hB) hx
      have hk1 : (k : Int) < (L.length : Int) := by omega
      have HX := Lib.hid hx
      have HMk := Lib.hid (show M.length ≤ 10 by have h := congrArg List.length hM.out; rw [lls_len] at h; unfold rowsE at h; rw [List.length_map] at h; have := HEL.out k; omega)
      have hG4 := Lib.hid (show GathS (wr.alloc (.cells #[.int .i64 x.1, .int .i64 x.2.1, .int .i64 x.2.2.1, .int .i64 x.2.2.2.1, .int .i64 x.2.2.2.2] 25)) w3.heap.size _ M from hG.below (by (repeat (first | exact Below.refl _ _ | refine Below.drew ?_ | refine below_drewN ?_ _ | (refine Below.alloc ?_ (by (try simp) <;> omega) _) | (refine Below.setCell ?_ (by (try simp) <;> omega) _) | (refine Below.trans ?_ (Below.mono (by assumption) (by (try simp) <;> omega)))))))
      have hb4 := Lib.hid (show Below w3.heap.size w3 (wr.alloc (.cells #[.int .i64 x.1, .int .i64 x.2.1, .int .i64 x.2.2.1, .int .i64 x.2.2.2.1, .int .i64 x.2.2.2.2] 25)) from hb.alloc zr _)
      have kx := Lib.hid (show Blk (wr.alloc (.cells #[.int .i64 x.1, .int .i64 x.2.1, .int .i64 x.2.2.1, .int .i64 x.2.2.2.1, .int .i64 x.2.2.2.2] 25)) wr.heap.size 25 #[.int .i64 x.1, .int .i64 x.2.1, .int .i64 x.2.2.1, .int .i64 x.2.2.2.1, .int .i64 x.2.2.2.2] from Blk.new _ _ _)
      clear hcs hlt hx hG hb
      go_upto_region 8 with fail
      generalize wr.alloc (.cells #[.int .i64 x.1, .int .i64 x.2.1, .int .i64 x.2.2.1, .int .i64 x.2.2.2.1, .int .i64 x.2.2.2.2] 25) = w4 at *
      generalize wr.heap.size = q at *
      have cx := kx.out.cell
      clear c0 c1 c2 c3' c4
      go_wp2_with fail
      refine (sections_any _ _ _ _ _ _ htx.b htx.c htx.d).mono ?_; rintro e w5 ⟨A5, c5, N, rfl, hN, oN, hb5⟩
      have hNl : N.length = nsec x := by rw [← lls_len, hN]; exact secsT_len x
      have hN9 : N.length ≤ 9 := by rw [hNl]; exact secN_le htx.b htx.c
      have hb05 := hb4.out.trans (hb5.mono hb4.out.size)
      have hG5 := hG4.out.below hb5
      have HOLD := Lib.hid (show ∀ y ∈ M, ∃ gy, y.1 = some ⟨gy, 0, none⟩ ∧ gy < w4.heap.size from fun y hy => by
        obtain ⟨gy, h1, _, h2⟩ := (hG4.out.rows y hy).lt
        exact ⟨gy, h1, h2⟩)
      have HOB := Lib.hid (fun b hb => show b < w4.heap.size ∨ w5.heap.size ≤ b from by
        obtain ⟨_, cs, h⟩ := hG4.out.g.ownTy b hb
        refine .inl ?_
        rcases Nat.lt_or_ge b w4.heap.size with h' | h'
        · exact h'
        · rw [Array.getElem?_eq_none h'] at h; cases h)
      have HNl := Lib.hid hNl
      have hN' : Hid (lls N = secsT x) := hN
      have HON := Lib.hid oN
      have z45 := hb5.size
      have z34 := hb4.out.size
      clear hN oN hNl hG4 hb4 kx cx
      go_wp2
      go_loopw [8, 41] (fun v8 v41 wr => ∃ (j : Nat) (M' : List Elt), v41 = .int .i64 j ∧ j ≤ N.length ∧ GathS wr w3.heap.size v8 M' ∧ Hid (HitP M x s j M') ∧ Hid (∀ b, v8.ownBlock = some b → b < w4.heap.size ∨ w5.heap.size ≤ b) ∧ Hid (∀ k, w4.heap.size ≤ k → k < w5.heap.size → wr.heap[k]? = w5.heap[k]?) ∧ w5.heap.size ≤ wr.heap.size ∧ Below w3.heap.size w3 wr) (fun _ v41 _ => (N.length - intOf v41).toNat)
      case atStart => exact ⟨0, M, rfl, by omega, hG5, .inl ⟨rfl, fun i hi => by omega⟩, HOB.out, fun _ _ _ => rfl, Nat.le_refl _, hb05⟩
      case round =>
        obtain ⟨j, M', rfl, hj, hG, hH, hOB, hKE, hsz, hb⟩ := hrel
        clear hG5
        have hj0 : (0 : Int) ≤ (j : Int) := by omega
        by_cases hlt : j < N.length
        · have hg : N[j]? = some N[j] := List.getElem?_eq_getElem hlt
          generalize N[j] = r at hg
          have hin : j < nsec x := by have := HNl.out; omega
          have hr2 : r.2.2 = [losec x j, x.2.2.2.1 + 4 * j, x.2.2.2.1 + 4 * j + 4] := by
            have h1 : (lls N)[j]? = some r.2.2 := by simp [lls, hg]
            rw [hN'.out, secsT_get hin] at h1
            exact (Option.some.inj h1).symm
          obtain ⟨gN, hAN, hBN, hRN, hCN⟩ := HON.out.own (SlR.ne hg)
          cases hAN
          have k0 := cellS hCN hg
          rw [Nat.zero_add] at k0
          have k1 : wr.cell? ⟨gN, j, none⟩ = some (.slice r.1 r.2.2.length r.2.1) := (World.cell?_of_block (a := ⟨gN, j, none⟩) (hKE.out gN hBN hRN.lt)).trans k0
          obtain ⟨gr, hAr, hBr, hRr, hCr⟩ := HON.out.rows r (List.mem_of_getElem? hg)
          have hrok : RowOk wr w4.heap.size r := RowOk.same ⟨gr, hAr, hBr, hRr, hCr⟩ fun g hA => by rw [hAr] at hA; cases hA; exact hKE.out gr hBr hRr.lt
          obtain ⟨gr', hAr', _, hRr2, hCr2⟩ := hrok
          rw [hAr] at hAr'; cases hAr'
          rw [hAr, show r.2.2.length = 3 by rw [hr2]; rfl] at k1
          have p0 := cells1 hCr2 (k := 0) (x := losec x j) (by rw [hr2]; rfl)
          simp only [Nat.zero_add] at p0
          have hj1 : (j : Int) < (N.length : Int) := by omega
          by_cases he : losec x j = s
          · have hq : (losec x j == s) = true := by simpa using he
            obtain rfl := hit_same hH.out he
            have HH := Lib.hid (hit_yes (M := M') he hr2)
            have HR3 := Lib.hid (show r = (some ⟨gr, 0, none⟩, r.2.1, r.2.2) by rw [← hAr])
            have HRL := Lib.hid (show r.2.2.length = 3 by rw [hr2]; rfl)
            have hro : RowOk wr w3.heap.size r := ⟨gr, hAr, by omega, hRr2, hCr2⟩
            have HRO := Lib.hid (hro.next (w' := wr.alloc (.cells #[.slice (some ⟨gr, 0, none⟩) 3 r.2.1] 44)) (by (repeat (first | exact Below.refl _ _ | refine Below.drew ?_ | refine below_drewN ?_ _ | (refine Below.alloc ?_ (by (try simp) <;> omega) _) | (refine Below.setCell ?_ (by (try simp) <;> omega) _) | (refine Below.trans ?_ (Below.mono (by assumption) (by (try simp) <;> omega)))))))
            have HG := Lib.hid (hG.below (w' := wr.alloc (.cells #[.slice (some ⟨gr, 0, none⟩) 3 r.2.1] 44)) (by (repeat (first | exact Below.refl _ _ | refine Below.drew ?_ | refine below_drewN ?_ _ | (refine Below.alloc ?_ (by (try simp) <;> omega) _) | (refine Below.setCell ?_ (by (try simp) <;> omega) _) | (refine Below.trans ?_ (Below.mono (by assumption) (by (try simp) <;> omega)))))))
            have HB := Lib.hid (show Below w3.heap.size w3 (wr.alloc (.cells #[.slice (some ⟨gr, 0, none⟩) 3 r.2.1] 44)) from hb.alloc (by omega) _)
            have HKB := Lib.hid (Blk.new wr 44 #[.slice (some ⟨gr, 0, none⟩) 3 r.2.1])
            have HNEW := Lib.hid (show ∀ y ∈ M', y.1 ≠ r.1 from fun y hy e => by
              obtain ⟨gy, h1, h2⟩ := HOLD.out y hy
              rw [h1, hAr] at e
              injection e with e; injection e with e; omega)
            have HKE2 := Lib.hid (show ∀ k, w4.heap.size ≤ k → k < w5.heap.size → (wr.alloc (.cells #[.slice (some ⟨gr, 0, none⟩) 3 r.2.1] 44)).heap[k]? = w5.heap[k]? from fun k h1 h2 => (((Below.refl wr.heap.size wr).alloc (Nat.le_refl _) (.cells #[.slice (some ⟨gr, 0, none⟩) 3 r.2.1] 44)).block k (by omega)).trans (hKE.out k h1 h2))
            have hMl : M'.length ≤ 10 := HMk.out
            clear hG hb hH hKE hro k0 hCN hRN hCr hRr hCr2 hRr2 hg hr2 he
            go_wp2_with (at_builtin; refine wpList_append_own_at _ rfl _ _ 39 rfl w3.heap.size 44 i0 (.slice none 0 0) 1 24 Try.underlying39 HII.out HZ0.out HZ1.out HZ2.out rfl (by decide) _ _ _ rfl HG.out.g ⟨_, 0, none⟩ 1 1 [.slice (some ⟨gr, 0, none⟩) 3 r.2.1] rfl rfl (slit_src HKB.out) (one_okS rfl) ?c3 ?c4 ?c5 ?c6)
            case c3 => unfold maxLen; first | omega | (simp; omega)
            case c4 => first | omega | (simp; omega)
            case c5 => first | omega | (simp; omega)
            case c6 =>
              intro v' w9 hown hgrow _ hob
              have hfs : fS r = [.slice (some ⟨gr, 0, none⟩) 3 r.2.1] := by unfold fS; rw [hAr, HRL.out]
              have hG9 := Lib.hid (HG.out.snoc (x := r) (by rw [hfs]; exact hown) hgrow HRO.out HNEW.out)
              have hB9 : Below w3.heap.size w3 w9 := below_grown' HB.out hgrow HG.out.g (Nat.le_refl _) HB.out.size
              have HOB9 : Hid (∀ b, v'.ownBlock = some b → b < w4.heap.size ∨ w5.heap.size ≤ b) := fun b hbb => by
                rcases hob with h | h
                · exact hOB.out b (by rw [← h]; exact hbb)
                · rw [h] at hbb; cases hbb; exact .inr (by first | omega | (simp; omega))
              have HKE9 : Hid (∀ k, w4.heap.size ≤ k → k < w5.heap.size → w9.heap[k]? = w5.heap[k]?) := fun k h1 h2 => by
                refine (hgrow.block k (by first | omega | (simp; omega)) (fun e => ?_)).trans (HKE2.out k h1 h2)
                have := hOB.out k e.symm
                omega
              have hs9 : w5.heap.size ≤ w9.heap.size := by have := hgrow.size; first | omega | (simp at this; omega)
              clear hown hgrow hob HG HB HRO HNEW HKE2 HKB k1 p0
              go_wp2
              go_roundw
              case rel => exact ⟨j + 1, _, by go_num, by omega, hG9.out, HH.out, HOB9.out, HKE9.out, hs9, hB9⟩
              case measure => simp only [intOf]; omega
          · have hq : (losec x j == s) = false := by simpa using he
            have HH := Lib.hid (hit_no hH.out he)
            clear hH k0 hCN hRN hCr hRr hCr2 hRr2 hg hr2 he
            go_wp2
            go_roundw
            case rel => exact ⟨j + 1, _, by go_num, by omega, hG, HH.out, hOB.out, hKE.out, hsz, hb⟩
            case measure => simp only [intOf]; omega
        · have hjl : j = nsec x := by have := HNl.out; omega
          have hj1 : ¬ (j : Int) < (N.length : Int) := by omega
          have HH := Lib.hid (hit_end HX.out htx hM.out (by have := hH.out; rw [hjl] at this; exact this))
          clear hH hjl hlt hOB hKE
          go_wp2
          go_roundw
          case rel => exact ⟨k + 1, _, by go_num, by omega, hG, HH.out, hb⟩
          case measure => simp only [intOf]; omega
    · have hkl : k = L.length := by omega
      have hk1 : ¬ (k : Int) < (L.length : Int) := by omega
      have hMM := hM.out
      rw [hkl] at hMM
      have hMl : M.length ≤ 10 := by have h := congrArg List.length hMM; rw [lls_len] at h; unfold rowsE at h; rw [List.length_map] at h; have := HEL.out L.length; omega
      obtain ⟨hSl, hSb⟩ := HBD.out
      have HGB := Lib.hid (gapK_bd hSb)
      have HSB := Lib.hid hSb
      have hkeys := keys_rows hMM
      clear hSb HBD hkl hlt hM
      by_cases hMn : M = []
      · subst hMn
        have hS : srtE L s = [] := (HSO.out [] (by rw [← hkeys]; exact List.Perm.refl _) List.Pairwise.nil).symm
        have HV : Hid (lqN L s = 0 ∧ lqB L s = true) := ⟨by rw [Hv.out.1, hS]; rfl, Hv.out.2⟩
        obtain ⟨A9, c9, rfl, -⟩ := hG.own
        have C9 := Lib.hid (Try.slices_SortFunc_none (α := Int) A9 c9 (.func (.func 86) #[] #[]) wr)
        have HBX := Lib.hid hb
        clear hG hkeys hMM hb hS Hv
        go_wp2_with fail
        refine C9.out.mono ?_; rintro e w' ⟨rfl, rfl⟩
        go_wp2
        go_loopw [13, 14] (fun v13 v14 wr => v14 = .int .i64 1 ∧ v13 = .int .i64 0 ∧ Below w3.heap.size w3 wr) (fun _ _ _ => 0)
        case atStart => exact ⟨rfl, rfl, HBX.out⟩
        case round =>
          obtain ⟨rfl, rfl, hb⟩ := hrel
          go_wp2
          go_ret2
          exact ⟨by rw [HV.out.1, HV.out.2]; rfl, hb3.trans (hb.mono hb3.size)⟩
      · obtain ⟨g, c6, rfl⟩ := hG.formS hMn
        have hrow := row_of hMM
        have C9 := Lib.hid (sortT_any w3.heap.size g c6 M wr hG (fun y hy => by rw [hrow y hy]; rfl) (by omega) hMn)
        have HROW := Lib.hid hrow
        have HKEYS := Lib.hid hkeys
        have HM0 := Lib.hid (List.length_pos_iff.2 hMn)
        have hbb := hb3.trans (hb.mono hb3.size)
        clear hG hkeys hMM hMn hrow
        go_wp2_with fail
        refine C9.out.mono ?_; rintro e w9 ⟨rfl, N, hp, hs9, hCN, hRN, hb9⟩
        have HS : Hid (N.map keyE = srtE L s) := HSO.out _ (by rw [← HKEYS.out]; exact hp.map keyE) (by rw [List.pairwise_map]; exact hs9)
        have hNl : N.length = M.length := hp.length_eq
        have hSl2 : (srtE L s).length = M.length := by rw [← HS.out, List.length_map, hNl]
        have HNl := Lib.hid hNl; have HSl := Lib.hid hSl2
        have HCN := Lib.hid hCN
        have HRN := Lib.hid (fun y (hy : y ∈ N) => And.intro (hRN y (hp.mem_iff.1 hy)) (HROW.out y (hp.mem_iff.1 hy)))
        have HBX := Lib.hid (hb3.trans ((hb.trans hb9).mono hb3.size))
        clear hp hs9 hCN hRN C9 hNl hSl2 hb9 hb hbb
        generalize srtE L s = S at *
        go_wp2
        go_loopw [13, 14] (fun v13 v14 wr => ∃ j : Nat, v14 = .int .i64 j ∧ v13 = .int .i64 (gapK S (j - 1)) ∧ 1 ≤ j ∧ (j ≤ S.length ∨ j = 1) ∧ Below w9.heap.size w9 wr) (fun _ v14 _ => (20 - intOf v14).toNat)
        case atStart => exact ⟨1, rfl, rfl, by omega, .inr rfl, Below.refl _ _⟩
        case round =>
          obtain ⟨j, rfl, rfl, hj1, hj2, hb2⟩ := hrel
          have hj0 : (1 : Int) ≤ (j : Int) := by omega
          have hj11 : (j : Int) ≤ 11 := by omega
          have hM10 : (M.length : Int) ≤ 10 := by omega
          by_cases hjl : j < M.length
          · obtain ⟨q, hq⟩ : ∃ q, q + 1 = j := ⟨j - 1, by omega⟩
            have hga : N[q]? = some (N[q]'(by have := HNl.out; omega)) := List.getElem?_eq_getElem _
            have hgb : N[j]? = some (N[j]'(by have := HNl.out; omega)) := List.getElem?_eq_getElem _
            generalize N[q]'(by have := HNl.out; omega) = ra at hga
            generalize N[j]'(by have := HNl.out; omega) = rb at hgb
            have ha : S[q]? = some (keyE ra) := by rw [← HS.out, List.getElem?_map, hga]; rfl
            have hbb : S[j]? = some (keyE rb) := by rw [← HS.out, List.getElem?_map, hgb]; rfl
            obtain ⟨⟨ga, eA, _, rA, cA⟩, fA⟩ := HRN.out ra (List.mem_of_getElem? hga)
            obtain ⟨⟨gb, eB, _, rB, cB⟩, fB⟩ := HRN.out rb (List.mem_of_getElem? hgb)
            have ka0 := cellS HCN.out hga
            have kb0 := cellS HCN.out hgb
            have hg9 : g < w9.heap.size := block_lt_of_cell ka0
            have pa0 := cells1 cA (k := 2) (x := keyE ra + 4) (by rw [fA]; rfl)
            have pb0 := cells1 cB (k := 1) (x := keyE rb) (by rw [fB]; rfl)
            rw [eA, show ra.2.2.length = 3 by rw [fA]; rfl, Nat.zero_add] at ka0
            rw [eB, show rb.2.2.length = 3 by rw [fB]; rfl, Nat.zero_add] at kb0
            simp only [Nat.zero_add] at pa0 pb0
            have ka := (cell_up hb2 hg9).trans ka0
            have kb := (cell_up hb2 hg9).trans kb0
            have pa := (cell_up hb2 rA.lt).trans pa0
            have pb := (cell_up hb2 rB.lt).trans pb0
            have hgl : g < wr.heap.size := Nat.lt_of_lt_of_le hg9 hb2.size
            have hla : ga < wr.heap.size := Nat.lt_of_lt_of_le rA.lt hb2.size
            have hlb : gb < wr.heap.size := Nat.lt_of_lt_of_le rB.lt hb2.size
            have HN := Lib.hid (show max (gapK S (j - 1)) (keyE rb - (keyE ra + 4)) = gapK S j by
              rw [← hq, Nat.add_sub_cancel]
              rw [← hq] at hbb
              rw [gapK_succ ha hbb, show keyE rb - (keyE ra + 4) = keyE rb - keyE ra - 4 by omega])
            have hab := HGB.out (j - 1)
            have hab1 := HSB.out _ (List.mem_of_getElem? ha)
            have hab2 := HSB.out _ (List.mem_of_getElem? hbb)
            have hjl2 : (j : Int) < (M.length : Int) := by omega
            have htn : ((j : Int) - 1).toNat = q := by omega
            have hw1 : IntKind.i64.wrap ((j : Int) - 1) = (j : Int) - 1 := by rw [IntKind.wrap_i64]; omega
            have hi1 : (0 : Int) ≤ (j : Int) - 1 := by omega
            have hi2 : (j : Int) - 1 < (M.length : Int) := by omega
            generalize ra.2.1 = ca at *
            generalize rb.2.1 = cb at *
            generalize keyE ra = a at *
            generalize keyE rb = b at *
            generalize gapK S (j - 1) = m at *
            clear ka0 kb0 pa0 pb0 cA cB fA fB rA rB eA eB ha hbb hga hgb hq hjl
            go_wp2
            refine wp_region_grow [.fix (.int .i64 m), .fix (.slice (some ⟨g, 0, none⟩) M.length c6), .fix (.int .i64 j), .val (.pointer (some ⟨g, j, none⟩)), .val (.slice (some ⟨gb, 0, none⟩) 3 cb), .val (.pointer (some ⟨gb, 1, none⟩)), .val (.int .i64 b), .fix (.slice (some ⟨g, 0, none⟩) M.length c6), .fix (.int .i64 j), .val (.int .i64 ((j : Int) - 1)), .val (.pointer (some ⟨g, q, none⟩)), .val (.slice (some ⟨ga, 0, none⟩) 3 ca), .val (.pointer (some ⟨ga, 2, none⟩)), .val (.int .i64 (a + 4)), .val (.int .i64 (b - (a + 4))), .val (.int .i64 (max m (b - (a + 4))))] mixed (by kernel_rfl) ?_
            refine SeqG.fixStep (.inl ⟨rfl, fun _ => rfl⟩) ?_
            simp only [Act.put, List.setIfInBounds_toArray, List.set_cons_zero, List.set_cons_succ]
            refine SeqG.fixStep (.inl ⟨rfl, fun _ => rfl⟩) ?_
            simp only [Act.put, List.setIfInBounds_toArray, List.set_cons_zero, List.set_cons_succ]
            refine SeqG.fixStep (.inl ⟨rfl, fun _ => rfl⟩) ?_
            simp only [Act.put, List.setIfInBounds_toArray, List.set_cons_zero, List.set_cons_succ]
            refine SeqG.valStep (fun wv hbv hpv => ?_) ?_
            · skip
              go_wp2_with fail
              exact post_val (Below.refl _ _)
            simp only [Act.put, List.setIfInBounds_toArray, List.set_cons_zero, List.set_cons_succ]
            refine SeqG.valStep (fun wv hbv hpv => ?_) ?_
            · have e1 := (cell_up hbv hgl).trans kb
              go_wp2_with fail
              exact post_val (Below.refl _ _)
            simp only [Act.put, List.setIfInBounds_toArray, List.set_cons_zero, List.set_cons_succ]
            refine SeqG.valStep (fun wv hbv hpv => ?_) ?_
            · skip
              go_wp2_with fail
              exact post_val (Below.refl _ _)
            simp only [Act.put, List.setIfInBounds_toArray, List.set_cons_zero, List.set_cons_succ]
            refine SeqG.valStep (fun wv hbv hpv => ?_) ?_
            · have e1 := (cell_up hbv hlb).trans pb
              go_wp2_with fail
              exact post_val (Below.refl _ _)
            simp only [Act.put, List.setIfInBounds_toArray, List.set_cons_zero, List.set_cons_succ]
            refine SeqG.fixStep (.inl ⟨rfl, fun _ => rfl⟩) ?_
            simp only [Act.put, List.setIfInBounds_toArray, List.set_cons_zero, List.set_cons_succ]
            refine SeqG.fixStep (.inl ⟨rfl, fun _ => rfl⟩) ?_
            simp only [Act.put, List.setIfInBounds_toArray, List.set_cons_zero, List.set_cons_succ]
            refine SeqG.valStep (fun wv hbv hpv => ?_) ?_
            · skip
              go_wp2_with fail
              exact post_val (Below.refl _ _)
            simp only [Act.put, List.setIfInBounds_toArray, List.set_cons_zero, List.set_cons_succ]
            refine SeqG.valStep (fun wv hbv hpv => ?_) ?_
            · skip
              go_wp2_with fail
              exact post_val (Below.refl _ _)
            simp only [Act.put, List.setIfInBounds_toArray, List.set_cons_zero, List.set_cons_succ]
            refine SeqG.valStep (fun wv hbv hpv => ?_) ?_
            · have e1 := (cell_up hbv hgl).trans ka
              go_wp2_with fail
              exact post_val (Below.refl _ _)
            simp only [Act.put, List.setIfInBounds_toArray, List.set_cons_zero, List.set_cons_succ]
            refine SeqG.valStep (fun wv hbv hpv => ?_) ?_
            · skip
              go_wp2_with fail
              exact post_val (Below.refl _ _)
            simp only [Act.put, List.setIfInBounds_toArray, List.set_cons_zero, List.set_cons_succ]
            refine SeqG.valStep (fun wv hbv hpv => ?_) ?_
            · have e1 := (cell_up hbv hla).trans pa
              go_wp2_with fail
              exact post_val (Below.refl _ _)
            simp only [Act.put, List.setIfInBounds_toArray, List.set_cons_zero, List.set_cons_succ]
            refine SeqG.valStep (fun wv hbv hpv => ?_) ?_
            · skip
              go_wp2_with fail
              exact post_val (Below.refl _ _)
            simp only [Act.put, List.setIfInBounds_toArray, List.set_cons_zero, List.set_cons_succ]
            refine SeqG.valStep (fun wv hbv hpv => ?_) ?_
            · skip
              go_wp2_with fail
              exact post_val (Below.refl _ _)
            simp only [Act.put, List.setIfInBounds_toArray, List.set_cons_zero, List.set_cons_succ]
            refine SeqG.done fun wv hbv hpv => ?_
            clear hpv
            have hbw : Below w9.heap.size w9 wv := hb2.trans (hbv.mono hb2.size)
            go_wp2_with fail
            refine NoPan.normal ?_
            rw [HN.out]
            go_wp2
            go_roundw
            case rel => exact ⟨j + 1, by go_num, rfl, by omega, by have := HSl.out; omega, hbw⟩
            case measure => simp only [intOf]; omega
          · have hjl2 : ¬ (j : Int) < (M.length : Int) := by omega
            have HN := Lib.hid (gap_end (S := S) hj1 hj2 (by rw [HSl.out]; exact hjl))
            have hbX := HBX.out.trans (hb2.mono HBX.out.size)
            clear hjl hj2
            go_wp2
            go_ret2
            exact ⟨by rw [Hv.out.1, Hv.out.2, HN.out]; rfl, hbX⟩
end Go.Proofs.Ytfcmfadkkfkidaa
