/-
  Plain mathematics of washing: what stays of the dirt, and the least water that leaves at most a limit.
-/
import Derived.Test.YtpgoenhekmoedaaMath
namespace Go.Proofs.Ytpgoenhekmoedaa
open Go.RowKit

def isBatch (s d w : Int) : Bool := inB s 0 100000 && inB d 0 100000000 && inB w 0 100000000
theorem isBatch_iff {s d w : Int} : isBatch s d w = true ↔ (0 ≤ s ∧ s ≤ 100000) ∧ (0 ≤ d ∧ d ≤ 100000000) ∧ 0 ≤ w ∧ w ≤ 100000000 := by
  simp [isBatch, inB, and_assoc]

/-- The dirt that stays: all dirt times the salt's water over all water, rounded up. -/
def washD (d wt water dirt : Int) : Int := ((d + dirt) * wt + wt + water - 1) / (wt + water)

theorem washD_le_iff {d wt water dirt L : Int} (hwt : 0 ≤ wt) (hw : 1 ≤ water) : washD d wt water dirt ≤ L ↔ (d + dirt) * wt ≤ L * (wt + water) := by
  have e : washD d wt water dirt ≤ L ↔ washD d wt water dirt < L + 1 := by omega
  rw [e]
  unfold washD
  rw [Int.ediv_lt_iff_lt_mul (by omega), Int.add_mul L 1]
  omega

theorem mul_bd {a b A B : Int} (ha : 0 ≤ a) (ha' : a ≤ A) (hb : 0 ≤ b) (hb' : b ≤ B) : 0 ≤ a * b ∧ a * b ≤ A * B := by
  refine ⟨Int.mul_nonneg ha hb, ?_⟩
  exact Int.mul_le_mul ha' hb' hb (by omega)

theorem washD_bd {d wt water dirt : Int} (hd : 0 ≤ d + dirt) (hwt : 0 ≤ wt) (hw : 1 ≤ water) : 0 ≤ washD d wt water dirt ∧ washD d wt water dirt ≤ d + dirt := by
  have hp : 0 ≤ (d + dirt) * wt := Int.mul_nonneg hd hwt
  refine ⟨?_, (washD_le_iff hwt hw).2 ?_⟩
  · unfold washD
    exact Int.ediv_nonneg (by omega) (by omega)
  · rw [Int.mul_add]
    have : 0 ≤ (d + dirt) * water := Int.mul_nonneg hd (by omega)
    omega

/-- The least water for a limit. -/
def leastW (d wt limit : Int) : Int := max ((d * wt + limit - 1) / limit - wt) 1

theorem leastW_spec {d wt limit m : Int} (hwt : 0 ≤ wt) (hl : 1 ≤ limit) (hm : 1 ≤ m) : washD d wt m 0 ≤ limit ↔ leastW d wt limit ≤ m := by
  rw [washD_le_iff hwt hm, Int.add_zero]
  have e : d * wt ≤ limit * (wt + m) ↔ (d * wt + limit - 1) / limit ≤ wt + m := by
    have h1 : (d * wt + limit - 1) / limit ≤ wt + m ↔ (d * wt + limit - 1) / limit < wt + m + 1 := by omega
    rw [h1, Int.ediv_lt_iff_lt_mul (by omega), Int.add_mul (wt + m) 1, Int.mul_comm limit]
    omega
  rw [e]
  unfold leastW
  omega

/-- Dirt behind n washes. -/
def iterW (d wt q : Int) : Nat → Int
  | 0 => d
  | n + 1 => washD (iterW d wt q n) wt q 0
theorem iterW_bd {d wt q : Int} (hd : 0 ≤ d) (hwt : 0 ≤ wt) (hq : 1 ≤ q) (n : Nat) : 0 ≤ iterW d wt q n ∧ iterW d wt q n ≤ d := by
  induction n with
  | zero => exact ⟨hd, Int.le_refl _⟩
  | succ n ih =>
    have := washD_bd (d := iterW d wt q n) (dirt := 0) (by omega) hwt hq
    simp only [iterW]
    omega
end Go.Proofs.Ytpgoenhekmoedaa
