/-
  Contracts of washing once: wash, AfterWash, DryBatch, PurityOf, JoinBatches, of the program and of the reference.
-/
import Derived.Test.YtpgoenhekmoedaaBatch
namespace Go.Proofs.Ytpgoenhekmoedaa
open Go.RowKit

set_option maxHeartbeats 400000 in
theorem isWashing_any (a : Int) (w : World) :
    Calls Try.prog 57 #[.int .i64 a] w fun e w' => e = .returned (.bool (inB a 1 100000000)) ∧ w = w' := by
  go_enter Try.func57, Try.ntmps57
  go_wp2_with (go_at_call 50; refine (within_any _ _ _ _).mono ?_; rintro e w' ⟨rfl, rfl⟩)
  go_ret
  exact ⟨rfl, rfl⟩

def waterOk (a b c water dirt : Int) : Bool := isBatch a b c && inB water 1 100000000 && inB dirt 0 water
set_option maxHeartbeats 400000 in
theorem l12Water_any (a b c water dirt : Int) (w : World) :
    Calls Try.prog 56 #[.agg #[.int .i64 a, .int .i64 b, .int .i64 c], .int .i64 water, .int .i64 dirt] w fun e w' => e = .returned (.bool (waterOk a b c water dirt)) ∧ Below w.heap.size w w' := by
  go_enter Try.func56, Try.ntmps56
  go_wp2_with (first | (go_at_call 49; refine (l12Good_any _ _ _ _).mono ?_; rintro e w1 ⟨rfl, hb1⟩) | (go_at_call 51; refine (l1In_any _ _ _ _).mono ?_; rintro e w' ⟨rfl, rfl⟩))
  all_goals
    go_ret
    exact ⟨by simp [waterOk, *], by (repeat (first | exact Below.refl _ _ | refine Below.drew ?_ | refine below_drewN ?_ _ | (refine Below.alloc ?_ (by (try simp) <;> omega) _) | (refine Below.setCell ?_ (by (try simp) <;> omega) _) | (refine Below.trans ?_ (Below.mono (by assumption) (by (try simp) <;> omega)))))⟩

/-- What a wash hands back. -/
abbrev washV (a d wt water dirt : Int) : Value := .tuple #[.agg #[.int .i64 a, .int .i64 (washD d wt water dirt), .int .i64 wt], .int .i64 (d + dirt - washD d wt water dirt)]

set_option maxHeartbeats 400000 in
theorem l12Wash_any (a d wt water dirt : Int) (w : World) (h1 : 0 ≤ d) (h2 : d ≤ 100000000) (h3 : 0 ≤ wt) (h4 : wt ≤ 100000000) (h5 : 1 ≤ water) (h6 : water ≤ 100000000) (h7 : 0 ≤ dirt) (h8 : dirt ≤ 100000000) :
    Calls Try.prog 52 #[.agg #[.int .i64 a, .int .i64 d, .int .i64 wt], .int .i64 water, .int .i64 dirt] w fun e w' => e = .returned (washV a d wt water dirt) ∧ Below w.heap.size w w' := by
  have hp := mul_bd (a := d + dirt) (b := wt) (A := 200000000) (B := 100000000) (by omega) (by omega) h3 h4
  have hq := washD_bd (d := d) (dirt := dirt) (by omega) h3 h5
  unfold washD at hq
  have hz : (wt + water == 0) = false := by rw [beq_eq_false_iff_ne]; omega
  go_enter Try.func52, Try.ntmps52
  go_wp2
  refine bodyPost_ret (v := washV a d wt water dirt) (by simp [results, Try.results52, go_sem, *] <;> rfl) rfl ?_
  exact ⟨rfl, by (repeat (first | exact Below.refl _ _ | refine Below.drew ?_ | refine below_drewN ?_ _ | (refine Below.alloc ?_ (by (try simp) <;> omega) _) | (refine Below.setCell ?_ (by (try simp) <;> omega) _) | (refine Below.trans ?_ (Below.mono (by assumption) (by (try simp) <;> omega)))))⟩

set_option maxHeartbeats 400000 in
theorem wash_any (a d wt water dirt : Int) (w : World) (h1 : 0 ≤ d) (h2 : d ≤ 100000000) (h3 : 0 ≤ wt) (h4 : wt ≤ 100000000) (h5 : 1 ≤ water) (h6 : water ≤ 100000000) (h7 : 0 ≤ dirt) (h8 : dirt ≤ 100000000) :
    Calls Try.prog 58 #[.agg #[.int .i64 a, .int .i64 d, .int .i64 wt], .int .i64 water, .int .i64 dirt] w fun e w' => e = .returned (washV a d wt water dirt) ∧ Below w.heap.size w w' := by
  have hp := mul_bd (a := d + dirt) (b := wt) (A := 200000000) (B := 100000000) (by omega) (by omega) h3 h4
  have hq := washD_bd (d := d) (dirt := dirt) (by omega) h3 h5
  have he : ((d + dirt) * wt + (wt + water) - 1) / (wt + water) = washD d wt water dirt := by unfold washD; rw [Int.add_assoc ((d + dirt) * wt)]
  have He := Lib.hid he; clear he
  go_enter Try.func58, Try.ntmps58
  go_wp2_with (go_at_call 53; refine (ceilDiv_any _ _ _ (by omega) (by omega) (by omega) (by omega)).mono ?_; rintro e w' ⟨he, rfl⟩; rw [He.out] at he; subst he)
  refine bodyPost_ret (v := washV a d wt water dirt) (by simp [results, Try.results58, go_sem, *] <;> rfl) rfl ?_
  exact ⟨rfl, by (repeat (first | exact Below.refl _ _ | refine Below.drew ?_ | refine below_drewN ?_ _ | (refine Below.alloc ?_ (by (try simp) <;> omega) _) | (refine Below.setCell ?_ (by (try simp) <;> omega) _) | (refine Below.trans ?_ (Below.mono (by assumption) (by (try simp) <;> omega)))))⟩

/-! ### AfterWash -/
abbrev none3 : Value := .tuple #[.agg #[.int .i64 0, .int .i64 0, .int .i64 0], .int .i64 0, .bool false]
def afterWashV (a d wt water dirt : Int) : Value :=
  if waterOk a d wt water dirt && isBatch a (washD d wt water dirt) wt then .tuple #[.agg #[.int .i64 a, .int .i64 (washD d wt water dirt), .int .i64 wt], .int .i64 (d + dirt - washD d wt water dirt), .bool true] else none3

theorem waterOk_iff {a d wt water dirt : Int} : waterOk a d wt water dirt = true ↔ ((0 ≤ a ∧ a ≤ 100000) ∧ (0 ≤ d ∧ d ≤ 100000000) ∧ 0 ≤ wt ∧ wt ≤ 100000000) ∧ (1 ≤ water ∧ water ≤ 100000000) ∧ 0 ≤ dirt ∧ dirt ≤ water := by
  simp [waterOk, isBatch_iff, inB_iff, and_assoc]

set_option maxHeartbeats 1000000 in
theorem SAfterWash_any (a d wt water dirt : Int) (w : World) :
    Calls Try.prog 26 #[.agg #[.int .i64 a, .int .i64 d, .int .i64 wt], .int .i64 water, .int .i64 dirt] w fun e w' => e = .returned (afterWashV a d wt water dirt) ∧ Below w.heap.size w w' := by
  cases h1 : waterOk a d wt water dirt
  · go_enter Try.func26, Try.ntmps26
    go_wp2_with fail
    refine (l12Water_any _ _ _ _ _ _).mono ?_; rintro e w1 ⟨rfl, hb1⟩
    have z1 := hb1.size
    try simp at z1
    obtain ⟨c1_0, f1_0⟩ := bblk hb1 (g := w.heap.size) (by (try simp) <;> omega)
    have l1_0 : w.heap.size < w1.heap.size := by omega
    obtain ⟨c1_1, f1_1⟩ := bblk hb1 (g := w.heap.size + 1) (by (try simp) <;> omega)
    have l1_1 : w.heap.size + 1 < w1.heap.size := by omega
    go_wp2
    refine bodyPost_ret (v := none3) (by simp [results, Try.results26, go_sem, *] <;> rfl) rfl ?_
    exact ⟨by simp [afterWashV, h1], by (repeat (first | exact Below.refl _ _ | refine Below.drew ?_ | refine below_drewN ?_ _ | (refine Below.alloc ?_ (by (try simp) <;> omega) _) | (refine Below.setCell ?_ (by (try simp) <;> omega) _) | (refine Below.trans ?_ (Below.mono (by assumption) (by (try simp) <;> omega)))))⟩
  obtain ⟨⟨_, ⟨g1, g2⟩, g3, g4⟩, ⟨g5, g6⟩, g7, g8⟩ := waterOk_iff.1 h1
  cases h2 : isBatch a (washD d wt water dirt) wt
  · have hv : afterWashV a d wt water dirt = none3 := by simp [afterWashV, h2]
    have Hv := Lib.hid hv; clear hv
    go_enter Try.func26, Try.ntmps26
    go_wp2_with fail
    refine (l12Water_any _ _ _ _ _ _).mono ?_; rintro e w1 ⟨rfl, hb1⟩
    have z1 := hb1.size
    try simp at z1
    obtain ⟨c1_0, f1_0⟩ := bblk hb1 (g := w.heap.size) (by (try simp) <;> omega)
    have l1_0 : w.heap.size < w1.heap.size := by omega
    obtain ⟨c1_1, f1_1⟩ := bblk hb1 (g := w.heap.size + 1) (by (try simp) <;> omega)
    have l1_1 : w.heap.size + 1 < w1.heap.size := by omega
    go_wp2_with fail
    refine (l12Wash_any _ _ _ _ _ _ g1 g2 g3 g4 g5 g6 g7 (by omega)).mono ?_; rintro e w2 ⟨rfl, hb2⟩
    have z2 := hb2.size
    try simp at z2
    obtain ⟨c2_0, f2_0⟩ := bblk hb2 (g := w.heap.size) (by (try simp) <;> omega)
    have l2_0 : w.heap.size < w2.heap.size := by omega
    obtain ⟨c2_1, f2_1⟩ := bblk hb2 (g := w.heap.size + 1) (by (try simp) <;> omega)
    have l2_1 : w.heap.size + 1 < w2.heap.size := by omega
    go_wp2_with fail
    refine (l12Good_any _ _ _ _).mono ?_; rintro e w3 ⟨rfl, hb3⟩
    have z3 := hb3.size
    try simp at z3
    obtain ⟨c3_0, f3_0⟩ := bblk hb3 (g := w.heap.size) (by (try simp) <;> omega)
    have l3_0 : w.heap.size < w3.heap.size := by omega
    obtain ⟨c3_1, f3_1⟩ := bblk hb3 (g := w.heap.size + 1) (by (try simp) <;> omega)
    have l3_1 : w.heap.size + 1 < w3.heap.size := by omega
    go_wp2
    refine bodyPost_ret (v := none3) (by simp [results, Try.results26, go_sem, *] <;> rfl) rfl ?_
    exact ⟨by rw [Hv.out], by (repeat (first | exact Below.refl _ _ | refine Below.drew ?_ | refine below_drewN ?_ _ | (refine Below.alloc ?_ (by (try simp) <;> omega) _) | (refine Below.setCell ?_ (by (try simp) <;> omega) _) | (refine Below.trans ?_ (Below.mono (by assumption) (by (try simp) <;> omega)))))⟩
  · have hv : afterWashV a d wt water dirt = .tuple #[.agg #[.int .i64 a, .int .i64 (washD d wt water dirt), .int .i64 wt], .int .i64 (d + dirt - washD d wt water dirt), .bool true] := by simp [afterWashV, h1, h2]
    have Hv := Lib.hid hv; clear hv
    go_enter Try.func26, Try.ntmps26
    go_wp2_with fail
    refine (l12Water_any _ _ _ _ _ _).mono ?_; rintro e w1 ⟨rfl, hb1⟩
    have z1 := hb1.size
    try simp at z1
    obtain ⟨c1_0, f1_0⟩ := bblk hb1 (g := w.heap.size) (by (try simp) <;> omega)
    have l1_0 : w.heap.size < w1.heap.size := by omega
    obtain ⟨c1_1, f1_1⟩ := bblk hb1 (g := w.heap.size + 1) (by (try simp) <;> omega)
    have l1_1 : w.heap.size + 1 < w1.heap.size := by omega
    go_wp2_with fail
    refine (l12Wash_any _ _ _ _ _ _ g1 g2 g3 g4 g5 g6 g7 (by omega)).mono ?_; rintro e w2 ⟨rfl, hb2⟩
    have z2 := hb2.size
    try simp at z2
    obtain ⟨c2_0, f2_0⟩ := bblk hb2 (g := w.heap.size) (by (try simp) <;> omega)
    have l2_0 : w.heap.size < w2.heap.size := by omega
    obtain ⟨c2_1, f2_1⟩ := bblk hb2 (g := w.heap.size + 1) (by (try simp) <;> omega)
    have l2_1 : w.heap.size + 1 < w2.heap.size := by omega
    go_wp2_with fail
    refine (l12Good_any _ _ _ _).mono ?_; rintro e w3 ⟨rfl, hb3⟩
    have z3 := hb3.size
    try simp at z3
    obtain ⟨c3_0, f3_0⟩ := bblk hb3 (g := w.heap.size) (by (try simp) <;> omega)
    have l3_0 : w.heap.size < w3.heap.size := by omega
    obtain ⟨c3_1, f3_1⟩ := bblk hb3 (g := w.heap.size + 1) (by (try simp) <;> omega)
    have l3_1 : w.heap.size + 1 < w3.heap.size := by omega
    obtain ⟨c3_2, f3_2⟩ := bblk hb3 (g := w2.heap.size) (by (try simp) <;> omega)
    have l3_2 : w2.heap.size < w3.heap.size := by omega
    go_wp2
    refine bodyPost_ret (v := .tuple #[.agg #[.int .i64 a, .int .i64 (washD d wt water dirt), .int .i64 wt], .int .i64 (d + dirt - washD d wt water dirt), .bool true]) (by simp [results, Try.results26, go_sem, *] <;> rfl) rfl ?_
    exact ⟨by rw [Hv.out], by (repeat (first | exact Below.refl _ _ | refine Below.drew ?_ | refine below_drewN ?_ _ | (refine Below.alloc ?_ (by (try simp) <;> omega) _) | (refine Below.setCell ?_ (by (try simp) <;> omega) _) | (refine Below.trans ?_ (Below.mono (by assumption) (by (try simp) <;> omega)))))⟩
end Go.Proofs.Ytpgoenhekmoedaa
