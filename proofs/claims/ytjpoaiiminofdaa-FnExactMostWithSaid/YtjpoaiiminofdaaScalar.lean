/-
  Contracts of the small functions on integers.
-/
import Derived.Test.YtjpoaiiminofdaaRows
import Derived.Test.YtjpoaiiminofdaaMath
import Derived.Test.YtjpoaiiminofdaaBase
import Derived.Test.YtjpoaiiminofdaaRegion
import Derived.WalkKit
import Derived.WalkSpells
import Derived.WalkLawsBesides
import Derived.Lib.Hide
import Derived.Deep.QuietTactic
import Derived.BigQuiet
import Derived.StillTailTactics
namespace Go.Proofs.Ytjpoaiiminofdaa
open Go.RowKit

theorem mixed : Try.prog.follows .mixedOrders = true := by kernel_rfl

set_option maxHeartbeats 400000 in
theorem within_any (x a b : Int) (w : World) :
    Calls Try.prog 29 #[.int .i64 x, .int .i64 a, .int .i64 b] w fun e w' => e = .returned (.bool (inB x a b)) ∧ w = w' := by
  by_cases h1 : a ≤ x <;> by_cases h2 : x ≤ b
  all_goals
    have hh : inB x a b = (decide (a ≤ x) && decide (x ≤ b)) := rfl
    simp only [h1, h2] at hh
    have H := Lib.hid hh; clear hh
    go_enter Try.func29, Try.ntmps29
    go_wp2
    go_ret
    exact ⟨by rw [H.out]; simp, rfl⟩
set_option maxHeartbeats 400000 in
theorem l1In_any (x a b : Int) (w : World) :
    Calls Try.prog 39 #[.int .i64 x, .int .i64 a, .int .i64 b] w fun e w' => e = .returned (.bool (inB x a b)) ∧ w = w' := by
  by_cases h1 : a ≤ x <;> by_cases h2 : x ≤ b
  all_goals
    have hh : inB x a b = (decide (a ≤ x) && decide (x ≤ b)) := rfl
    simp only [h1, h2] at hh
    have H := Lib.hid hh; clear hh
    go_enter Try.func39, Try.ntmps39
    go_wp2
    go_ret
    exact ⟨by rw [H.out]; simp, rfl⟩
set_option maxHeartbeats 400000 in
theorem abs_any (x : Int) (w : World) (h : -9223372036854775807 ≤ x) :
    Calls Try.prog 53 #[.int .i64 x] w fun e w' => e = .returned (.int .i64 (if x < 0 then -x else x)) ∧ w = w' := by
  by_cases h1 : x < 0
  · rw [if_pos h1]
    go_enter Try.func53, Try.ntmps53
    go_wp2
    go_ret
    exact ⟨rfl, rfl⟩
  · rw [if_neg h1]
    go_enter Try.func53, Try.ntmps53
    go_wp2
    go_ret
    exact ⟨rfl, rfl⟩
set_option maxHeartbeats 400000 in
theorem l1Most_any (a b : Int) (w : World) :
    Calls Try.prog 44 #[.int .i64 a, .int .i64 b] w fun e w' => e = .returned (.int .i64 (max a b)) ∧ w = w' := by
  by_cases h1 : b < a
  all_goals
    go_enter Try.func44, Try.ntmps44
    go_wp2
    go_ret
    exact ⟨ret_int (by omega), rfl⟩
set_option maxHeartbeats 400000 in
theorem l1Least_any (a b : Int) (w : World) :
    Calls Try.prog 41 #[.int .i64 a, .int .i64 b] w fun e w' => e = .returned (.int .i64 (min a b)) ∧ w = w' := by
  by_cases h1 : a < b
  all_goals
    go_enter Try.func41, Try.ntmps41
    go_wp2
    go_ret
    exact ⟨ret_int (by omega), rfl⟩
set_option maxHeartbeats 400000 in
theorem gcd_any (a b : Int) (w : World) (ha : 0 ≤ a) (ha' : a ≤ 4000000000000000000) (hb : 0 ≤ b) (hb' : b ≤ 4000000000000000000) :
    Calls Try.prog 45 #[.int .i64 a, .int .i64 b] w fun e w' => e = .returned (.int .i64 (gI a b)) ∧ ∃ n, w.drewN n = w' := by
  obtain ⟨x, rfl⟩ := Int.eq_ofNat_of_zero_le ha
  obtain ⟨y, rfl⟩ := Int.eq_ofNat_of_zero_le hb
  have hx : ¬ ((x : Int) < 0) := by omega
  have hy : ¬ ((y : Int) < 0) := by omega
  go_enter Try.func45, Try.ntmps45
  go_wp2_with (first | (go_at_call 53; refine (abs_any _ _ (by omega)).mono ?_; rintro e w' ⟨rfl, rfl⟩))
  go_loopw [0, 1] (fun p q wr => ∃ c d n : Nat, p = .int .i64 c ∧ q = .int .i64 d ∧ Hid (Nat.gcd c d = Nat.gcd x y) ∧ (c : Int) ≤ 4000000000000000000 ∧ (d : Int) ≤ 4000000000000000000 ∧ wr = w.drewN n) (fun _ q _ => (intOf q).toNat)
  case atStart => exact ⟨x, y, 0, rfl, rfl, rfl, by omega, by omega, rfl⟩
  case round =>
    obtain ⟨c, d, n, rfl, rfl, hg, hc, hd, rfl⟩ := hrel
    by_cases h0 : (d : Int) = 0
    · have h1 : ((d : Int) != 0) = false := by simp [h0]
      go_wp2
      go_ret
      have hd0 : d = 0 := by omega
      have hg' := hg.out
      rw [hd0, Nat.gcd_zero_right] at hg'
      exact ⟨ret_int (by rw [hg']; rfl), n, rfl⟩
    · have h1 : ((d : Int) != 0) = true := by simpa using h0
      have h2 : ((d : Int) == 0) = false := by simpa using h0
      have h3 : (1 : Int) ≤ d := by omega
      go_wp2
      go_quiet (fail)
      go_wp2
      go_roundw
      case rel =>
        have hm := Nat.mod_lt c (show 0 < d by omega)
        refine ⟨d, c % d, _, rfl, rfl, ?_, hd, by omega, World.drewN_drewN _ _ _⟩
        have hg' := hg.out
        show Nat.gcd d (c % d) = Nat.gcd x y
        rw [← hg', Nat.gcd_comm d (c % d), ← Nat.gcd_rec, Nat.gcd_comm]
      case measure =>
        have hm : ((c : Int) % d) < d := Int.emod_lt_of_pos _ (by omega)
        simp only [intOf]; omega
theorem tdiv_pos_gcd (a b : Int) (hb : 1 ≤ b) : 1 ≤ gI a b := by
  unfold gI
  have : 0 < Int.gcd a b := Int.gcd_pos_of_ne_zero_right _ (by omega)
  omega
set_option maxHeartbeats 400000 in
theorem reduced_any (a b : Int) (w : World) (ha : 0 ≤ a) (ha' : a ≤ 4000000000000000000) (hb : 1 ≤ b) (hb' : b ≤ 4000000000000000000) :
    Calls Try.prog 35 #[.int .i64 a, .int .i64 b] w fun e w' => e = .returned (.tuple #[.int .i64 (a / gI a b), .int .i64 (b / gI a b)]) ∧ ∃ n, w.drewN n = w' := by
  have hg := tdiv_pos_gcd a b hb
  have hz : (gI a b == 0) = false := by rw [beq_eq_false_iff_ne]; omega
  go_enter Try.func35, Try.ntmps35
  go_wp2_with (first | (go_at_call 45; refine (gcd_any _ _ _ (by omega) (by omega) (by omega) (by omega)).mono ?_; rintro e w' ⟨rfl, n, rfl⟩))
  go_quiet (fail)
  go_wp2
  go_ret2
  exact ⟨rfl, _, (World.drewN_drewN _ _ _).symm⟩
set_option maxHeartbeats 400000 in
theorem l2Reduce_any (a b : Int) (w : World) (ha : 0 ≤ a) (ha' : a ≤ 4000000000000000000) (hb : 1 ≤ b) (hb' : b ≤ 4000000000000000000) :
    Calls Try.prog 34 #[.int .i64 a, .int .i64 b] w fun e w' => e = .returned (.tuple #[.int .i64 (a / gI a b), .int .i64 (b / gI a b)]) ∧ ∃ n, w.drewN n = w' := by
  have hg0 := tdiv_pos_gcd a b hb
  obtain ⟨x, rfl⟩ := Int.eq_ofNat_of_zero_le ha
  obtain ⟨y, rfl⟩ := Int.eq_ofNat_of_zero_le (show 0 ≤ b by omega)
  have hmx : max (x : Int) (-x) = x := by omega
  have Hm := Lib.hid hmx; clear hmx
  go_enter Try.func34, Try.ntmps34
  go_wp2_with (go_at_call 44; refine (l1Most_any _ _ _).mono ?_; rintro e w' ⟨rfl, rfl⟩; rw [Hm.out])
  go_loop [6, 7] (fun p q => ∃ c d : Nat, p = .int .i64 c ∧ q = .int .i64 d ∧ Hid (Nat.gcd c d = Nat.gcd x y) ∧ (c : Int) ≤ 4000000000000000000 ∧ (d : Int) ≤ 4000000000000000000) (fun _ q => (intOf q).toNat)
  case atStart => exact ⟨x, y, rfl, rfl, rfl, by omega, by omega⟩
  case round =>
    obtain ⟨c, d, rfl, rfl, hg, hc, hd⟩ := hrel
    by_cases h0 : (d : Int) = 0
    · have h1 : ((d : Int) != 0) = false := by simp [h0]
      have hd0 : d = 0 := by omega
      have hg' := hg.out
      rw [hd0, Nat.gcd_zero_right] at hg'
      obtain rfl : c = Nat.gcd x y := hg'
      have hc1 : (1 : Int) ≤ (Nat.gcd x y : Nat) := hg0
      have h2 : (((Nat.gcd x y : Nat) : Int) == 0) = false := by rw [beq_eq_false_iff_ne]; omega
      have Hd := Lib.hid hd0; clear hd0 h0 hg
      have wq : ∀ z : Int, 0 ≤ z → z ≤ 4000000000000000000 → wrap64 (z / ((Nat.gcd x y : Nat) : Int)) = z / ((Nat.gcd x y : Nat) : Int) := fun z h0 h1 => by
        have := IntWalk.tdiv_le z _ h0 hc1
        exact IntWalk.wrap64_in _ (by omega)
      have Wx := Lib.hid (wq x (by omega) (by omega))
      have Wy := Lib.hid (wq y (by omega) (by omega))
      clear wq
      go_wp2
      go_quiet (fail)
      go_wp2
      rw [Wx.out, Wy.out]
      go_ret2
      exact ⟨rfl, _, rfl⟩
    · have h1 : ((d : Int) != 0) = true := by simpa using h0
      have h2 : ((d : Int) == 0) = false := by simpa using h0
      have h3 : (1 : Int) ≤ d := by omega
      go_wp2
      go_round
      case rel =>
        have hm := Nat.mod_lt c (show 0 < d by omega)
        refine ⟨d, c % d, rfl, rfl, ?_, hd, by omega⟩
        have hg' := hg.out
        show Nat.gcd d (c % d) = Nat.gcd x y
        rw [← hg', Nat.gcd_comm d (c % d), ← Nat.gcd_rec, Nat.gcd_comm]
      case measure =>
        have hm : ((c : Int) % d) < d := Int.emod_lt_of_pos _ (by omega)
        simp only [intOf]; omega
end Go.Proofs.Ytjpoaiiminofdaa
