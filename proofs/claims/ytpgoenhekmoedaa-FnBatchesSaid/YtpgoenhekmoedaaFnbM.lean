/-
  The plain facts of the law on batches: the dirt of all is in them or in the water at the end; a drained batch's water; a purity is at most one.
-/
import Derived.Test.YtpgoenhekmoedaaCc2
import Derived.Test.YtpgoenhekmoedaaWash2
namespace Go.Proofs.Ytpgoenhekmoedaa
open Go.RowKit

/-- The dirt of a list of batches. -/
def dsum : List T3 → Int
  | [] => 0
  | x :: L => x.2.1 + dsum L
theorem dsum_snoc (x : T3) : ∀ L : List T3, dsum (L ++ [x]) = dsum L + x.2.1
  | [] => by simp [dsum]
  | y :: L => by rw [List.cons_append, dsum, dsum, dsum_snoc x L]; omega
theorem dsum_take {L : List T3} {k : Nat} {x : T3} (hx : L[k]? = some x) : dsum (L.take (k + 1)) = dsum (L.take k) + x.2.1 := by
  obtain ⟨hk, he⟩ := List.getElem?_eq_some_iff.1 hx
  rw [List.take_succ_eq_append_getElem hk, he, dsum_snoc]
theorem dsum_bd : ∀ {L : List T3}, (∀ x ∈ L, 0 ≤ x.2.1 ∧ x.2.1 ≤ 100000000) → 0 ≤ dsum L ∧ dsum L ≤ 100000000 * L.length
  | [], _ => by simp [dsum]
  | x :: L, h => by
    have h1 := dsum_bd (L := L) (fun y hy => h y (List.mem_cons_of_mem _ hy))
    have h2 := h x (by simp)
    rw [dsum, List.length_cons]
    omega
theorem dsum_takeBd {L : List T3} (h : ∀ x ∈ L, 0 ≤ x.2.1 ∧ x.2.1 ≤ 100000000) (hl : L.length ≤ 10) (k : Nat) : 0 ≤ dsum (L.take k) ∧ dsum (L.take k) ≤ 1000000000 := by
  have h1 := dsum_bd (L := L.take k) (fun x hx => h x (List.mem_of_mem_take hx))
  have h2 : (L.take k).length ≤ 10 := by rw [List.length_take]; omega
  omega
/-- What the chain keeps. -/
theorem ccS_sum {water : Int} : ∀ {L o : List T3} {d : Int}, ccS water L = some (o, d) → dsum L = dsum o + d ∧ (∀ x ∈ L, 0 ≤ x.2.1 ∧ x.2.1 ≤ 100000000) ∧ ∀ x ∈ o, 0 ≤ x.2.1 ∧ x.2.1 ≤ 100000000
  | [], o, d, h => by
    simp [ccS] at h
    obtain ⟨rfl, rfl⟩ := h
    simp [dsum]
  | x :: L, o, d, h => by
    rw [ccS] at h
    cases h2 : ccS water L with
    | none => rw [h2] at h; cases h
    | some p =>
      obtain ⟨o2, d2⟩ := p
      obtain ⟨i1, i2, i3⟩ := ccS_sum h2
      rw [h2] at h
      simp only [Option.bind_some, ccStep] at h
      split at h
      · rename_i hok
        simp only [ccOk, Bool.and_eq_true, decide_eq_true_eq] at hok
        obtain ⟨hw1, hb, hle⟩ := hok
        obtain ⟨⟨_, ⟨g1, g2⟩, _⟩, _⟩ := waterOk_iff.1 hw1
        obtain ⟨_, ⟨k1, k2⟩, _⟩ := isBatch_iff.1 hb
        simp only [Option.some.injEq, Prod.mk.injEq] at h
        obtain ⟨e1, e2⟩ := h
        subst e1; subst e2
        refine ⟨?_, ?_, ?_⟩
        · rw [dsum, dsum, i1]
          show _ = washD x.2.1 x.2.2 water d2 + dsum o2 + (x.2.1 + d2 - washD x.2.1 x.2.2 water d2)
          omega
        · intro y hy
          rcases List.mem_cons.1 hy with rfl | hy
          · exact ⟨g1, g2⟩
          · exact i2 y hy
        · intro y hy
          rcases List.mem_cons.1 hy with rfl | hy
          · exact ⟨k1, k2⟩
          · exact i3 y hy
      · cases h
theorem cc_plain {L : List T3} {water : Int} (h : ccB L water = true) :
    (ccR L water).length = L.length ∧ L.length ≤ 10 ∧ dsum L = dsum (ccR L water) + ccD L water ∧ (0 ≤ ccD L water ∧ ccD L water ≤ water ∧ water ≤ 100000000) ∧ (∀ x ∈ L, 0 ≤ x.2.1 ∧ x.2.1 ≤ 100000000) ∧ ∀ x ∈ ccR L water, 0 ≤ x.2.1 ∧ x.2.1 ≤ 100000000 := by
  cases hT : ccT L water with
  | none => rw [(cc_no hT).2.2] at h; cases h
  | some p =>
    obtain ⟨o, d⟩ := p
    rw [(cc_yes hT).1, (cc_yes hT).2.1]
    unfold ccT at hT
    split at hT
    · rename_i hc
      rw [Bool.and_eq_true] at hc
      obtain ⟨h1, h2⟩ := hc
      have h1 := inB_iff.1 h1
      have h2 := inB_iff.1 h2
      obtain ⟨s1, s2, s3⟩ := ccS_sum hT
      have hp := ccS_pos (by omega) hT
      exact ⟨ccS_len hT, by omega, s1, ⟨hp.1, hp.2, h2.2⟩, s2, s3⟩
    · cases hT
theorem dry_plain {a d wt p x y z n : Int} (h : dryV a d wt p = .tuple #[.agg #[.int .i64 x, .int .i64 y, .int .i64 z], .int .i64 n, .bool true]) : z + n = wt ∧ (0 ≤ z ∧ z ≤ 100000000) ∧ 0 ≤ n ∧ n ≤ 100000000 := by
  unfold dryV at h
  split at h
  · rename_i hb
    rw [Bool.and_eq_true] at hb
    obtain ⟨_, _, w1, w2⟩ := isBatch_iff.1 hb.1
    have hp := inB_iff.1 hb.2
    have := dry_bd w1 hp.1 hp.2
    simp only [Value.tuple.injEq] at h
    have e1 := congrArg (fun a : Array Value => a[0]?) h
    have e2 := congrArg (fun a : Array Value => a[1]?) h
    simp at e1 e2
    omega
  · simp [none3] at h
theorem pur_plain {a d wt num den : Int} (h : purV a d wt = .tuple #[.int .i64 num, .int .i64 den, .bool true]) : num ≤ den := by
  unfold purV at h
  split at h
  · rename_i hb
    rw [Bool.and_eq_true] at hb
    obtain ⟨_, ⟨d1, d2⟩, _⟩ := isBatch_iff.1 hb.1
    simp only [Value.tuple.injEq] at h
    have e1 := congrArg (fun a : Array Value => a[0]?) h
    have e2 := congrArg (fun a : Array Value => a[1]?) h
    simp at e1 e2
    rw [← e1, ← e2]
    have hg : 0 ≤ gI (1000 * a) (1000 * a + d) := by unfold gI; omega
    rcases Int.lt_or_eq_of_le hg with h1 | h1
    · exact Int.ediv_le_ediv h1 (by omega)
    · rw [← h1]; simp
  · simp [noneP] at h
end Go.Proofs.Ytpgoenhekmoedaa
