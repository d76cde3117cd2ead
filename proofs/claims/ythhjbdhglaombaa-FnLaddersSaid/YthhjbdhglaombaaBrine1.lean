/-
  A brine: its mass, whether it is valid, whether it stands on a rung; both programs.
-/
import Derived.Test.YthhjbdhglaombaaLad4
import Derived.WalkKit
import Derived.WalkSpells
import Derived.WalkLawsBesides
import Derived.Lib.Hide
import Derived.Deep.QuietTactic
import Derived.BigQuiet
import Derived.StillTailTactics
namespace Go.Proofs.Ythhjbdhglaombaa
open Go.RowKit

abbrev briV (a s : Int) : Value := .agg #[.int .i64 a, .int .i64 s]
def briB (a s : Int) : Bool := inB a 0 1000000 && inB s 0 1000000
theorem briB_bounds {a s : Int} (h : briB a s = true) : (0 ≤ a ∧ a ≤ 1000000) ∧ (0 ≤ s ∧ s ≤ 1000000) := by
  simp [briB, inB] at h; omega
def staB (x y a s : Int) : Bool := inB (1000 * s) (x * (a + s)) (y * (a + s))

set_option maxHeartbeats 400000 in
theorem toBrine_any (a s : Int) (w : World) : Calls Try.prog 26 #[briV a s] w fun e w' => e = .returned (briV a s) ∧ Below w.heap.size w w' := by
  go_enter Try.func26, Try.ntmps26
  go_wp2
  refine bodyPost_ret (v := briV a s) (by simp [results, Try.results26, go_sem, *] <;> rfl) rfl ?_
  exact ⟨rfl, by (repeat (first | exact Below.refl _ _ | refine Below.drew ?_ | refine below_drewN ?_ _ | (refine Below.alloc ?_ (by (try simp) <;> omega) _) | (refine Below.setCell ?_ (by (try simp) <;> omega) _) | (refine Below.trans ?_ (Below.mono (by assumption) (by (try simp) <;> omega)))))⟩

set_option maxHeartbeats 400000 in
theorem mass_any (a s : Int) (w : World) (ha : 0 ≤ a ∧ a ≤ 1000000) (hs : 0 ≤ s ∧ s ≤ 1000000) : Calls Try.prog 64 #[briV a s] w fun e w' => e = .returned (.int .i64 (a + s)) ∧ Below w.heap.size w w' := by
  go_enter Try.func64, Try.ntmps64
  go_wp2
  go_ret
  exact ⟨rfl, by (repeat (first | exact Below.refl _ _ | refine Below.drew ?_ | refine below_drewN ?_ _ | (refine Below.alloc ?_ (by (try simp) <;> omega) _) | (refine Below.setCell ?_ (by (try simp) <;> omega) _) | (refine Below.trans ?_ (Below.mono (by assumption) (by (try simp) <;> omega)))))⟩

set_option maxHeartbeats 400000 in
theorem l2Mass_any (a s : Int) (w : World) (ha : 0 ≤ a ∧ a ≤ 1000000) (hs : 0 ≤ s ∧ s ≤ 1000000) : Calls Try.prog 62 #[briV a s] w fun e w' => e = .returned (.int .i64 (a + s)) ∧ Below w.heap.size w w' := by
  go_enter Try.func62, Try.ntmps62
  go_wp2
  go_ret
  exact ⟨rfl, by (repeat (first | exact Below.refl _ _ | refine Below.drew ?_ | refine below_drewN ?_ _ | (refine Below.alloc ?_ (by (try simp) <;> omega) _) | (refine Below.setCell ?_ (by (try simp) <;> omega) _) | (refine Below.trans ?_ (Below.mono (by assumption) (by (try simp) <;> omega)))))⟩

set_option maxHeartbeats 1000000 in
theorem IsBrine_any (a s : Int) (w : World) : Calls Try.prog 69 #[briV a s] w fun e w' => e = .returned (.bool (briB a s)) ∧ Below w.heap.size w w' := by
  cases h1 : inB a 0 1000000
  · have Hv := Lib.hid (show briB a s = false by simp [briB, h1])
    go_enter Try.func69, Try.ntmps69
    go_wp2_with fail
    refine (within_any _ _ _ _).mono ?_; rintro e w' ⟨rfl, rfl⟩
    rw [h1]
    go_wp2
    go_ret
    exact ⟨by rw [Hv.out]; rfl, by (repeat (first | exact Below.refl _ _ | refine Below.drew ?_ | refine below_drewN ?_ _ | (refine Below.alloc ?_ (by (try simp) <;> omega) _) | (refine Below.setCell ?_ (by (try simp) <;> omega) _) | (refine Below.trans ?_ (Below.mono (by assumption) (by (try simp) <;> omega)))))⟩
  · have Hv := Lib.hid (show briB a s = inB s 0 1000000 by simp [briB, h1])
    go_enter Try.func69, Try.ntmps69
    go_wp2_with fail
    refine (within_any _ _ _ _).mono ?_; rintro e w' ⟨rfl, rfl⟩
    rw [h1]
    go_wp2_with fail
    refine (within_any _ _ _ _).mono ?_; rintro e w' ⟨rfl, rfl⟩
    go_wp2
    go_ret
    exact ⟨by rw [Hv.out]; rfl, by (repeat (first | exact Below.refl _ _ | refine Below.drew ?_ | refine below_drewN ?_ _ | (refine Below.alloc ?_ (by (try simp) <;> omega) _) | (refine Below.setCell ?_ (by (try simp) <;> omega) _) | (refine Below.trans ?_ (Below.mono (by assumption) (by (try simp) <;> omega)))))⟩

set_option maxHeartbeats 1000000 in
theorem l2Brine_any (a s : Int) (w : World) : Calls Try.prog 67 #[briV a s] w fun e w' => e = .returned (.bool (briB a s)) ∧ Below w.heap.size w w' := by
  cases h1 : inB a 0 1000000
  · have Hv := Lib.hid (show briB a s = false by simp [briB, h1])
    go_enter Try.func67, Try.ntmps67
    go_wp2_with fail
    refine (l1In_any _ _ _ _).mono ?_; rintro e w' ⟨rfl, rfl⟩
    rw [h1]
    go_wp2
    go_ret
    exact ⟨by rw [Hv.out]; rfl, by (repeat (first | exact Below.refl _ _ | refine Below.drew ?_ | refine below_drewN ?_ _ | (refine Below.alloc ?_ (by (try simp) <;> omega) _) | (refine Below.setCell ?_ (by (try simp) <;> omega) _) | (refine Below.trans ?_ (Below.mono (by assumption) (by (try simp) <;> omega)))))⟩
  · have Hv := Lib.hid (show briB a s = inB s 0 1000000 by simp [briB, h1])
    go_enter Try.func67, Try.ntmps67
    go_wp2_with fail
    refine (l1In_any _ _ _ _).mono ?_; rintro e w' ⟨rfl, rfl⟩
    rw [h1]
    go_wp2_with fail
    refine (l1In_any _ _ _ _).mono ?_; rintro e w' ⟨rfl, rfl⟩
    go_wp2
    go_ret
    exact ⟨by rw [Hv.out]; rfl, by (repeat (first | exact Below.refl _ _ | refine Below.drew ?_ | refine below_drewN ?_ _ | (refine Below.alloc ?_ (by (try simp) <;> omega) _) | (refine Below.setCell ?_ (by (try simp) <;> omega) _) | (refine Below.trans ?_ (Below.mono (by assumption) (by (try simp) <;> omega)))))⟩

set_option maxHeartbeats 2000000 in
theorem stands_any (x y a s : Int) (w : World) (hx : 0 ≤ x ∧ x ≤ 1000) (hy : 0 ≤ y ∧ y ≤ 1000) (ha : 0 ≤ a ∧ a ≤ 1000000) (hs : 0 ≤ s ∧ s ≤ 1000000) :
    Calls Try.prog 70 #[.agg #[.int .i64 x, .int .i64 y], briV a s] w fun e w' => e = .returned (.bool (staB x y a s)) ∧ Below w.heap.size w w' := by
  have m0 : 0 ≤ x * (a + s) := Int.mul_nonneg (by omega) (by omega)
  have m1 : x * (a + s) ≤ 1000 * 2000000 := Int.mul_le_mul (by omega) (by omega) (by omega) (by omega)
  have m2 : 0 ≤ y * (a + s) := Int.mul_nonneg (by omega) (by omega)
  have m3 : y * (a + s) ≤ 1000 * 2000000 := Int.mul_le_mul (by omega) (by omega) (by omega) (by omega)
  have Hst := Lib.hid (show inB (1000 * s) (x * (a + s)) (y * (a + s)) = staB x y a s from rfl)
  go_enter Try.func70, Try.ntmps70
  go_wp2
  refine wp_region_grow [.val (.pointer (some ⟨w.heap.size + 1, 1, none⟩)), .val (.int .i64 s), .val (.int .i64 (1000 * s)), .val (.pointer (some ⟨w.heap.size, 0, none⟩)), .val (.int .i64 x), .val (briV a s), .val (.int .i64 (a + s)), .val (.int .i64 (x * (a + s))), .val (.pointer (some ⟨w.heap.size, 1, none⟩)), .val (.int .i64 y), .val (briV a s), .val (.int .i64 (a + s)), .val (.int .i64 (y * (a + s))), .val (.bool (staB x y a s))] mixed (by kernel_rfl) ?_
  refine SeqG.valStep (fun wv hbv hpv => ?_) ?_
  · skip
    go_wp2_with fail
    exact post_val (Below.refl _ _)
  simp only [Act.put, List.setIfInBounds_toArray, List.set_cons_zero, List.set_cons_succ]
  refine SeqG.valStep (fun wv hbv hpv => ?_) ?_
  · obtain ⟨cc, ff⟩ := bblk hbv (g := w.heap.size) (by simp; omega); obtain ⟨cd, fd⟩ := bblk hbv (g := w.heap.size + 1) (by simp)
    go_wp2_with fail
    exact post_val (Below.refl _ _)
  simp only [Act.put, List.setIfInBounds_toArray, List.set_cons_zero, List.set_cons_succ]
  refine SeqG.valStep (fun wv hbv hpv => ?_) ?_
  · skip
    go_wp2_with fail
    exact post_val (Below.refl _ _)
  simp only [Act.put, List.setIfInBounds_toArray, List.set_cons_zero, List.set_cons_succ]
  refine SeqG.valStep (fun wv hbv hpv => ?_) ?_
  · skip
    go_wp2_with fail
    exact post_val (Below.refl _ _)
  simp only [Act.put, List.setIfInBounds_toArray, List.set_cons_zero, List.set_cons_succ]
  refine SeqG.valStep (fun wv hbv hpv => ?_) ?_
  · obtain ⟨cc, ff⟩ := bblk hbv (g := w.heap.size) (by simp; omega); obtain ⟨cd, fd⟩ := bblk hbv (g := w.heap.size + 1) (by simp)
    go_wp2_with fail
    exact post_val (Below.refl _ _)
  simp only [Act.put, List.setIfInBounds_toArray, List.set_cons_zero, List.set_cons_succ]
  refine SeqG.valStep (fun wv hbv hpv => ?_) ?_
  · obtain ⟨cc, ff⟩ := bblk hbv (g := w.heap.size) (by simp; omega); obtain ⟨cd, fd⟩ := bblk hbv (g := w.heap.size + 1) (by simp)
    go_wp2_with fail
    exact post_val (Below.refl _ _)
  simp only [Act.put, List.setIfInBounds_toArray, List.set_cons_zero, List.set_cons_succ]
  refine SeqG.valStep (fun wv hbv hpv => ?_) ?_
  · go_wp2_with fail
    refine (mass_any _ _ _ ha hs).mono ?_; rintro e w' ⟨he, hb⟩; subst he
    go_wp2_with fail
    exact post_val hb
  simp only [Act.put, List.setIfInBounds_toArray, List.set_cons_zero, List.set_cons_succ]
  refine SeqG.valStep (fun wv hbv hpv => ?_) ?_
  · skip
    go_wp2_with fail
    exact post_val (Below.refl _ _)
  simp only [Act.put, List.setIfInBounds_toArray, List.set_cons_zero, List.set_cons_succ]
  refine SeqG.valStep (fun wv hbv hpv => ?_) ?_
  · skip
    go_wp2_with fail
    exact post_val (Below.refl _ _)
  simp only [Act.put, List.setIfInBounds_toArray, List.set_cons_zero, List.set_cons_succ]
  refine SeqG.valStep (fun wv hbv hpv => ?_) ?_
  · obtain ⟨cc, ff⟩ := bblk hbv (g := w.heap.size) (by simp; omega); obtain ⟨cd, fd⟩ := bblk hbv (g := w.heap.size + 1) (by simp)
    go_wp2_with fail
    exact post_val (Below.refl _ _)
  simp only [Act.put, List.setIfInBounds_toArray, List.set_cons_zero, List.set_cons_succ]
  refine SeqG.valStep (fun wv hbv hpv => ?_) ?_
  · obtain ⟨cc, ff⟩ := bblk hbv (g := w.heap.size) (by simp; omega); obtain ⟨cd, fd⟩ := bblk hbv (g := w.heap.size + 1) (by simp)
    go_wp2_with fail
    exact post_val (Below.refl _ _)
  simp only [Act.put, List.setIfInBounds_toArray, List.set_cons_zero, List.set_cons_succ]
  refine SeqG.valStep (fun wv hbv hpv => ?_) ?_
  · go_wp2_with fail
    refine (mass_any _ _ _ ha hs).mono ?_; rintro e w' ⟨he, hb⟩; subst he
    go_wp2_with fail
    exact post_val hb
  simp only [Act.put, List.setIfInBounds_toArray, List.set_cons_zero, List.set_cons_succ]
  refine SeqG.valStep (fun wv hbv hpv => ?_) ?_
  · skip
    go_wp2_with fail
    exact post_val (Below.refl _ _)
  simp only [Act.put, List.setIfInBounds_toArray, List.set_cons_zero, List.set_cons_succ]
  refine SeqG.valStep (fun wv hbv hpv => ?_) ?_
  · go_wp2_with fail
    refine (within_any _ _ _ _).mono ?_; rintro e w' ⟨he, rfl⟩; rw [Hst.out] at he; subst he
    go_wp2_with fail
    exact post_val (Below.refl _ _)
  simp only [Act.put, List.setIfInBounds_toArray, List.set_cons_zero, List.set_cons_succ]
  refine SeqG.done fun wv hbv hpv => ?_
  clear hpv
  go_wp2_with fail
  refine NoPan.normal ?_
  go_wp2
  go_ret
  exact ⟨rfl, by (repeat (first | exact Below.refl _ _ | refine Below.drew ?_ | refine below_drewN ?_ _ | (refine Below.alloc ?_ (by (try simp) <;> omega) _) | (refine Below.setCell ?_ (by (try simp) <;> omega) _) | (refine Below.trans ?_ (Below.mono (by assumption) (by (try simp) <;> omega)))))⟩

set_option maxHeartbeats 2000000 in
theorem l13Stands_any (x y a s : Int) (w : World) (hx : 0 ≤ x ∧ x ≤ 1000) (hy : 0 ≤ y ∧ y ≤ 1000) (ha : 0 ≤ a ∧ a ≤ 1000000) (hs : 0 ≤ s ∧ s ≤ 1000000) :
    Calls Try.prog 68 #[.agg #[.int .i64 x, .int .i64 y], briV a s] w fun e w' => e = .returned (.bool (staB x y a s)) ∧ Below w.heap.size w w' := by
  have m0 : 0 ≤ x * (a + s) := Int.mul_nonneg (by omega) (by omega)
  have m1 : x * (a + s) ≤ 1000 * 2000000 := Int.mul_le_mul (by omega) (by omega) (by omega) (by omega)
  have m2 : 0 ≤ y * (a + s) := Int.mul_nonneg (by omega) (by omega)
  have m3 : y * (a + s) ≤ 1000 * 2000000 := Int.mul_le_mul (by omega) (by omega) (by omega) (by omega)
  have Hst := Lib.hid (show inB (1000 * s) (x * (a + s)) (y * (a + s)) = staB x y a s from rfl)
  go_enter Try.func68, Try.ntmps68
  go_wp2
  refine wp_region_grow [.val (.pointer (some ⟨w.heap.size + 1, 1, none⟩)), .val (.int .i64 s), .val (.int .i64 (1000 * s)), .val (.pointer (some ⟨w.heap.size, 0, none⟩)), .val (.int .i64 x), .val (briV a s), .val (.int .i64 (a + s)), .val (.int .i64 (x * (a + s))), .val (.pointer (some ⟨w.heap.size, 1, none⟩)), .val (.int .i64 y), .val (briV a s), .val (.int .i64 (a + s)), .val (.int .i64 (y * (a + s))), .val (.bool (staB x y a s))] mixed (by kernel_rfl) ?_
  refine SeqG.valStep (fun wv hbv hpv => ?_) ?_
  · skip
    go_wp2_with fail
    exact post_val (Below.refl _ _)
  simp only [Act.put, List.setIfInBounds_toArray, List.set_cons_zero, List.set_cons_succ]
  refine SeqG.valStep (fun wv hbv hpv => ?_) ?_
  · obtain ⟨cc, ff⟩ := bblk hbv (g := w.heap.size) (by simp; omega); obtain ⟨cd, fd⟩ := bblk hbv (g := w.heap.size + 1) (by simp)
    go_wp2_with fail
    exact post_val (Below.refl _ _)
  simp only [Act.put, List.setIfInBounds_toArray, List.set_cons_zero, List.set_cons_succ]
  refine SeqG.valStep (fun wv hbv hpv => ?_) ?_
  · skip
    go_wp2_with fail
    exact post_val (Below.refl _ _)
  simp only [Act.put, List.setIfInBounds_toArray, List.set_cons_zero, List.set_cons_succ]
  refine SeqG.valStep (fun wv hbv hpv => ?_) ?_
  · skip
    go_wp2_with fail
    exact post_val (Below.refl _ _)
  simp only [Act.put, List.setIfInBounds_toArray, List.set_cons_zero, List.set_cons_succ]
  refine SeqG.valStep (fun wv hbv hpv => ?_) ?_
  · obtain ⟨cc, ff⟩ := bblk hbv (g := w.heap.size) (by simp; omega); obtain ⟨cd, fd⟩ := bblk hbv (g := w.heap.size + 1) (by simp)
    go_wp2_with fail
    exact post_val (Below.refl _ _)
  simp only [Act.put, List.setIfInBounds_toArray, List.set_cons_zero, List.set_cons_succ]
  refine SeqG.valStep (fun wv hbv hpv => ?_) ?_
  · obtain ⟨cc, ff⟩ := bblk hbv (g := w.heap.size) (by simp; omega); obtain ⟨cd, fd⟩ := bblk hbv (g := w.heap.size + 1) (by simp)
    go_wp2_with fail
    exact post_val (Below.refl _ _)
  simp only [Act.put, List.setIfInBounds_toArray, List.set_cons_zero, List.set_cons_succ]
  refine SeqG.valStep (fun wv hbv hpv => ?_) ?_
  · go_wp2_with fail
    refine (l2Mass_any _ _ _ ha hs).mono ?_; rintro e w' ⟨he, hb⟩; subst he
    go_wp2_with fail
    exact post_val hb
  simp only [Act.put, List.setIfInBounds_toArray, List.set_cons_zero, List.set_cons_succ]
  refine SeqG.valStep (fun wv hbv hpv => ?_) ?_
  · skip
    go_wp2_with fail
    exact post_val (Below.refl _ _)
  simp only [Act.put, List.setIfInBounds_toArray, List.set_cons_zero, List.set_cons_succ]
  refine SeqG.valStep (fun wv hbv hpv => ?_) ?_
  · skip
    go_wp2_with fail
    exact post_val (Below.refl _ _)
  simp only [Act.put, List.setIfInBounds_toArray, List.set_cons_zero, List.set_cons_succ]
  refine SeqG.valStep (fun wv hbv hpv => ?_) ?_
  · obtain ⟨cc, ff⟩ := bblk hbv (g := w.heap.size) (by simp; omega); obtain ⟨cd, fd⟩ := bblk hbv (g := w.heap.size + 1) (by simp)
    go_wp2_with fail
    exact post_val (Below.refl _ _)
  simp only [Act.put, List.setIfInBounds_toArray, List.set_cons_zero, List.set_cons_succ]
  refine SeqG.valStep (fun wv hbv hpv => ?_) ?_
  · obtain ⟨cc, ff⟩ := bblk hbv (g := w.heap.size) (by simp; omega); obtain ⟨cd, fd⟩ := bblk hbv (g := w.heap.size + 1) (by simp)
    go_wp2_with fail
    exact post_val (Below.refl _ _)
  simp only [Act.put, List.setIfInBounds_toArray, List.set_cons_zero, List.set_cons_succ]
  refine SeqG.valStep (fun wv hbv hpv => ?_) ?_
  · go_wp2_with fail
    refine (l2Mass_any _ _ _ ha hs).mono ?_; rintro e w' ⟨he, hb⟩; subst he
    go_wp2_with fail
    exact post_val hb
  simp only [Act.put, List.setIfInBounds_toArray, List.set_cons_zero, List.set_cons_succ]
  refine SeqG.valStep (fun wv hbv hpv => ?_) ?_
  · skip
    go_wp2_with fail
    exact post_val (Below.refl _ _)
  simp only [Act.put, List.setIfInBounds_toArray, List.set_cons_zero, List.set_cons_succ]
  refine SeqG.valStep (fun wv hbv hpv => ?_) ?_
  · go_wp2_with fail
    refine (l1In_any _ _ _ _).mono ?_; rintro e w' ⟨he, rfl⟩; rw [Hst.out] at he; subst he
    go_wp2_with fail
    exact post_val (Below.refl _ _)
  simp only [Act.put, List.setIfInBounds_toArray, List.set_cons_zero, List.set_cons_succ]
  refine SeqG.done fun wv hbv hpv => ?_
  clear hpv
  go_wp2_with fail
  refine NoPan.normal ?_
  go_wp2
  go_ret
  exact ⟨rfl, by (repeat (first | exact Below.refl _ _ | refine Below.drew ?_ | refine below_drewN ?_ _ | (refine Below.alloc ?_ (by (try simp) <;> omega) _) | (refine Below.setCell ?_ (by (try simp) <;> omega) _) | (refine Below.trans ?_ (Below.mono (by assumption) (by (try simp) <;> omega)))))⟩
end Go.Proofs.Ythhjbdhglaombaa
