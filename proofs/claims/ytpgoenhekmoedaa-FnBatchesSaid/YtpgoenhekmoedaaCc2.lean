/-
  CounterCurrent: the plain function; the program's and the reference's contracts.
-/
import Derived.Test.YtpgoenhekmoedaaCc1
import Derived.Test.YtpgoenhekmoedaaIdxBatch
import Derived.Test.YtpgoenhekmoedaaWash2
import Derived.Test.YtpgoenhekmoedaaHBatchC
import Derived.Shelf.Abstract
namespace Go.Proofs.Ytpgoenhekmoedaa
open Go.RowKit

abbrev T3 := Int × Int × Int
/-- What one batch leaves: itself, washed, and the dirt that goes on. -/
def ccX (water : Int) (x : T3) (d : Int) : T3 := (x.1, washD x.2.1 x.2.2 water d, x.2.2)
def ccG (water : Int) (x : T3) (d : Int) : Int := x.2.1 + d - washD x.2.1 x.2.2 water d
def ccOk (water : Int) (x : T3) (d : Int) : Bool := waterOk x.1 x.2.1 x.2.2 water d && (isBatch x.1 (washD x.2.1 x.2.2 water d) x.2.2 && decide (ccG water x d ≤ water))
def ccStep (water : Int) (x : T3) (st : List T3 × Int) : Option (List T3 × Int) := if ccOk water x st.2 then some (ccX water x st.2 :: st.1, ccG water x st.2) else none
def ccS (water : Int) : List T3 → Option (List T3 × Int)
  | [] => some ([], 0)
  | x :: L => (ccS water L).bind (ccStep water x)
theorem ccS_at {water : Int} {L : List T3} {k : Nat} {x : T3} (hx : L[k]? = some x) : ccS water (L.drop k) = (ccS water (L.drop (k + 1))).bind (ccStep water x) := by
  have hk := (List.getElem?_eq_some_iff.1 hx).1
  rw [List.drop_eq_getElem_cons hk, (List.getElem?_eq_some_iff.1 hx).2]
  rfl
theorem ccS_none {water : Int} : ∀ {L : List T3} {k : Nat}, ccS water (L.drop k) = none → ccS water L = none
  | [], k, h => by simp [ccS] at h
  | x :: L, 0, h => h
  | x :: L, k + 1, h => by
    have := ccS_none (L := L) (k := k) (by simpa using h)
    rw [ccS, this]; rfl
theorem ccS_go {water : Int} {L : List T3} {k : Nat} {x : T3} {o : List T3} {d : Int} (hx : L[k]? = some x) (h : ccS water (L.drop (k + 1)) = some (o, d)) (hok : ccOk water x d = true) : ccS water (L.drop k) = some (ccX water x d :: o, ccG water x d) := by
  rw [ccS_at hx, h]
  simp [ccStep, hok]
theorem ccS_stop {water : Int} {L : List T3} {k : Nat} {x : T3} {o : List T3} {d : Int} (hx : L[k]? = some x) (h : ccS water (L.drop (k + 1)) = some (o, d)) (hok : ccOk water x d = false) : ccS water L = none := by
  refine ccS_none (k := k) ?_
  rw [ccS_at hx, h]
  simp [ccStep, hok]
/-- A batch that is not valid stops it. -/
theorem ccS_bad {water : Int} {L : List T3} {k : Nat} {x : T3} (hx : L[k]? = some x) (h : isBatch x.1 x.2.1 x.2.2 = false) : ccS water L = none := by
  refine ccS_none (k := k) ?_
  rw [ccS_at hx]
  cases ccS water (L.drop (k + 1)) with
  | none => rfl
  | some p => simp [ccStep, ccOk, waterOk, h]
theorem ccS_len {water : Int} : ∀ {L o : List T3} {d : Int}, ccS water L = some (o, d) → o.length = L.length
  | [], o, d, h => by simp [ccS] at h; rw [← h.1]
  | x :: L, o, d, h => by
    rw [ccS] at h
    cases h2 : ccS water L with
    | none => rw [h2] at h; cases h
    | some p =>
      obtain ⟨o2, d2⟩ := p
      rw [h2] at h
      simp only [Option.bind_some, ccStep] at h
      split at h
      · simp at h; rw [← h.1, List.length_cons, ccS_len h2, List.length_cons]
      · cases h
theorem ccS_pos {water : Int} (hw : 0 ≤ water) : ∀ {L o : List T3} {d : Int}, ccS water L = some (o, d) → 0 ≤ d ∧ d ≤ water
  | [], o, d, h => by simp [ccS] at h; rw [← h.2]; omega
  | x :: L, o, d, h => by
    rw [ccS] at h
    cases h2 : ccS water L with
    | none => rw [h2] at h; cases h
    | some p =>
      obtain ⟨o2, d2⟩ := p
      rw [h2] at h
      simp only [Option.bind_some, ccStep] at h
      split at h
      · rename_i hok
        simp only [ccOk, Bool.and_eq_true, decide_eq_true_eq] at hok
        obtain ⟨hw1, _, hle⟩ := hok
        obtain ⟨⟨_, ⟨g1, g2⟩, g3, g4⟩, ⟨g5, g6⟩, g7, g8⟩ := waterOk_iff.1 hw1
        have hq := washD_bd (d := x.2.1) (dirt := d2) (by omega) g3 g5
        simp only [Option.some.injEq, Prod.mk.injEq] at h
        rw [← h.2]
        unfold ccG at hle ⊢
        omega
      · cases h
def ccT (L : List T3) (water : Int) : Option (List T3 × Int) := if inB (L.length : Int) 1 10 && inB water 1 100000000 then ccS water L else none
def ccR (L : List T3) (water : Int) : List T3 := match ccT L water with | some p => p.1 | none => []
def ccD (L : List T3) (water : Int) : Int := match ccT L water with | some p => p.2 | none => 0
def ccB (L : List T3) (water : Int) : Bool := (ccT L water).isSome
theorem cc_no {L : List T3} {water : Int} (h : ccT L water = none) : ccR L water = [] ∧ ccD L water = 0 ∧ ccB L water = false := by simp [ccR, ccD, ccB, h]
theorem cc_yes {L o : List T3} {water d : Int} (h : ccT L water = some (o, d)) : ccR L water = o ∧ ccD L water = d ∧ ccB L water = true := by simp [ccR, ccD, ccB, h]
theorem ccR_len (L : List T3) (water : Int) : (ccR L water).length ≤ 10 := by
  unfold ccR
  cases h : ccT L water with
  | none => simp
  | some p =>
    obtain ⟨o, d⟩ := p
    unfold ccT at h
    split at h
    · rename_i h1
      rw [Bool.and_eq_true] at h1
      have := inB_iff.1 h1.1
      have := ccS_len h
      show o.length ≤ 10
      omega
    · cases h
/-- The list so far: the first k as they were, the others washed. -/
theorem cc_set {L o : List T3} {k : Nat} {y : T3} (hk : k < L.length) : (L.take (k + 1) ++ o).set k y = L.take k ++ (y :: o) := by
  rw [List.set_append, if_pos (by rw [List.length_take]; omega), List.take_succ_eq_append_getElem hk, List.set_append, if_neg (by rw [List.length_take]; omega)]
  have : k - (L.take k).length = 0 := by rw [List.length_take]; omega
  rw [this]
  simp
theorem f3_one : ∀ x : T3, ∀ u ∈ f3 x, u.oneCell' = true := by
  intro x u hu; simp [f3] at hu; rcases hu with rfl | rfl | rfl <;> rfl
theorem infoB : (Try.prog.info? 25).map (fun i => (i.zero, i.size, i.bytes)) = some (some (.agg #[.int .i64 0, .int .i64 0, .int .i64 0]), 3, 24) := by kernel_rfl
end Go.Proofs.Ytpgoenhekmoedaa
