/-
  Contracts: the program's AfterWash; DryBatch, PurityOf, JoinBatches of both.
-/
import Derived.Test.YtpgoenhekmoedaaWash1
namespace Go.Proofs.Ytpgoenhekmoedaa
open Go.RowKit

set_option maxHeartbeats 1000000 in
theorem AfterWash_any (a d wt water dirt : Int) (w : World) :
    Calls Try.prog 27 #[.agg #[.int .i64 a, .int .i64 d, .int .i64 wt], .int .i64 water, .int .i64 dirt] w fun e w' => e = .returned (afterWashV a d wt water dirt) ∧ Below w.heap.size w w' := by
  cases h1 : isBatch a d wt
  · have Hv := Lib.hid (show afterWashV a d wt water dirt = none3 by simp [afterWashV, waterOk, h1])
    go_enter Try.func27, Try.ntmps27
    go_wp2_with fail
    refine (IsBatch_any _ _ _ _).mono ?_; rintro e w1 ⟨rfl, hb1⟩
    have z1 := hb1.size
    try simp at z1
    obtain ⟨c1_0, f1_0⟩ := bblk hb1 (g := w.heap.size) (by (try simp) <;> omega)
    have l1_0 : w.heap.size < w1.heap.size := by omega
    obtain ⟨c1_1, f1_1⟩ := bblk hb1 (g := w.heap.size + 1) (by (try simp) <;> omega)
    have l1_1 : w.heap.size + 1 < w1.heap.size := by omega
    go_wp2
    refine bodyPost_ret (v := none3) (by simp [results, Try.results27, go_sem, *] <;> rfl) rfl ?_
    exact ⟨by rw [Hv.out], by (repeat (first | exact Below.refl _ _ | refine Below.drew ?_ | refine below_drewN ?_ _ | (refine Below.alloc ?_ (by (try simp) <;> omega) _) | (refine Below.setCell ?_ (by (try simp) <;> omega) _) | (refine Below.trans ?_ (Below.mono (by assumption) (by (try simp) <;> omega)))))⟩
  cases h2 : inB water 1 100000000
  · have Hv := Lib.hid (show afterWashV a d wt water dirt = none3 by simp [afterWashV, waterOk, h2])
    go_enter Try.func27, Try.ntmps27
    go_wp2_with fail
    refine (IsBatch_any _ _ _ _).mono ?_; rintro e w1 ⟨rfl, hb1⟩
    have z1 := hb1.size
    try simp at z1
    obtain ⟨c1_0, f1_0⟩ := bblk hb1 (g := w.heap.size) (by (try simp) <;> omega)
    have l1_0 : w.heap.size < w1.heap.size := by omega
    obtain ⟨c1_1, f1_1⟩ := bblk hb1 (g := w.heap.size + 1) (by (try simp) <;> omega)
    have l1_1 : w.heap.size + 1 < w1.heap.size := by omega
    go_wp2_with (go_at_call 57; refine (isWashing_any _ _).mono ?_; rintro e w' ⟨rfl, rfl⟩)
    refine bodyPost_ret (v := none3) (by simp [results, Try.results27, go_sem, *] <;> rfl) rfl ?_
    exact ⟨by rw [Hv.out], by (repeat (first | exact Below.refl _ _ | refine Below.drew ?_ | refine below_drewN ?_ _ | (refine Below.alloc ?_ (by (try simp) <;> omega) _) | (refine Below.setCell ?_ (by (try simp) <;> omega) _) | (refine Below.trans ?_ (Below.mono (by assumption) (by (try simp) <;> omega)))))⟩
  cases h3 : inB dirt 0 water
  · have Hv := Lib.hid (show afterWashV a d wt water dirt = none3 by simp [afterWashV, waterOk, h3])
    go_enter Try.func27, Try.ntmps27
    go_wp2_with fail
    refine (IsBatch_any _ _ _ _).mono ?_; rintro e w1 ⟨rfl, hb1⟩
    have z1 := hb1.size
    try simp at z1
    obtain ⟨c1_0, f1_0⟩ := bblk hb1 (g := w.heap.size) (by (try simp) <;> omega)
    have l1_0 : w.heap.size < w1.heap.size := by omega
    obtain ⟨c1_1, f1_1⟩ := bblk hb1 (g := w.heap.size + 1) (by (try simp) <;> omega)
    have l1_1 : w.heap.size + 1 < w1.heap.size := by omega
    go_wp2_with (first | (go_at_call 57; refine (isWashing_any _ _).mono ?_; rintro e w' ⟨rfl, rfl⟩) | (go_at_call 50; refine (within_any _ _ _ _).mono ?_; rintro e w' ⟨rfl, rfl⟩))
    refine bodyPost_ret (v := none3) (by simp [results, Try.results27, go_sem, *] <;> rfl) rfl ?_
    exact ⟨by rw [Hv.out], by (repeat (first | exact Below.refl _ _ | refine Below.drew ?_ | refine below_drewN ?_ _ | (refine Below.alloc ?_ (by (try simp) <;> omega) _) | (refine Below.setCell ?_ (by (try simp) <;> omega) _) | (refine Below.trans ?_ (Below.mono (by assumption) (by (try simp) <;> omega)))))⟩
  have h0 : waterOk a d wt water dirt = true := by simp [waterOk, h1, h2, h3]
  obtain ⟨⟨_, ⟨g1, g2⟩, g3, g4⟩, ⟨g5, g6⟩, g7, g8⟩ := waterOk_iff.1 h0
  cases h4 : isBatch a (washD d wt water dirt) wt
  · have Hv := Lib.hid (show afterWashV a d wt water dirt = none3 by simp [afterWashV, h4])
    clear h0
    go_enter Try.func27, Try.ntmps27
    go_wp2_with fail
    refine (IsBatch_any _ _ _ _).mono ?_; rintro e w1 ⟨rfl, hb1⟩
    have z1 := hb1.size
    try simp at z1
    obtain ⟨c1_0, f1_0⟩ := bblk hb1 (g := w.heap.size) (by (try simp) <;> omega)
    have l1_0 : w.heap.size < w1.heap.size := by omega
    obtain ⟨c1_1, f1_1⟩ := bblk hb1 (g := w.heap.size + 1) (by (try simp) <;> omega)
    have l1_1 : w.heap.size + 1 < w1.heap.size := by omega
    go_wp2_with (first | (go_at_call 57; refine (isWashing_any _ _).mono ?_; rintro e w' ⟨rfl, rfl⟩) | (go_at_call 50; refine (within_any _ _ _ _).mono ?_; rintro e w' ⟨rfl, rfl⟩))
    go_wp2_with fail
    refine (wash_any _ _ _ _ _ _ g1 g2 g3 g4 g5 g6 g7 (by omega)).mono ?_; rintro e w2 ⟨rfl, hb2⟩
    have z2 := hb2.size
    try simp at z2
    obtain ⟨c2_0, f2_0⟩ := bblk hb2 (g := w.heap.size) (by (try simp) <;> omega)
    have l2_0 : w.heap.size < w2.heap.size := by omega
    obtain ⟨c2_1, f2_1⟩ := bblk hb2 (g := w.heap.size + 1) (by (try simp) <;> omega)
    have l2_1 : w.heap.size + 1 < w2.heap.size := by omega
    go_wp2_with fail
    refine (IsBatch_any _ _ _ _).mono ?_; rintro e w3 ⟨rfl, hb3⟩
    have z3 := hb3.size
    try simp at z3
    obtain ⟨c3_0, f3_0⟩ := bblk hb3 (g := w.heap.size) (by (try simp) <;> omega)
    have l3_0 : w.heap.size < w3.heap.size := by omega
    obtain ⟨c3_1, f3_1⟩ := bblk hb3 (g := w.heap.size + 1) (by (try simp) <;> omega)
    have l3_1 : w.heap.size + 1 < w3.heap.size := by omega
    go_wp2
    refine bodyPost_ret (v := none3) (by simp [results, Try.results27, go_sem, *] <;> rfl) rfl ?_
    exact ⟨by rw [Hv.out], by (repeat (first | exact Below.refl _ _ | refine Below.drew ?_ | refine below_drewN ?_ _ | (refine Below.alloc ?_ (by (try simp) <;> omega) _) | (refine Below.setCell ?_ (by (try simp) <;> omega) _) | (refine Below.trans ?_ (Below.mono (by assumption) (by (try simp) <;> omega)))))⟩
  · have Hv := Lib.hid (show afterWashV a d wt water dirt = .tuple #[.agg #[.int .i64 a, .int .i64 (washD d wt water dirt), .int .i64 wt], .int .i64 (d + dirt - washD d wt water dirt), .bool true] by simp [afterWashV, h0, h4])
    clear h0
    go_enter Try.func27, Try.ntmps27
    go_wp2_with fail
    refine (IsBatch_any _ _ _ _).mono ?_; rintro e w1 ⟨rfl, hb1⟩
    have z1 := hb1.size
    try simp at z1
    obtain ⟨c1_0, f1_0⟩ := bblk hb1 (g := w.heap.size) (by (try simp) <;> omega)
    have l1_0 : w.heap.size < w1.heap.size := by omega
    obtain ⟨c1_1, f1_1⟩ := bblk hb1 (g := w.heap.size + 1) (by (try simp) <;> omega)
    have l1_1 : w.heap.size + 1 < w1.heap.size := by omega
    go_wp2_with (first | (go_at_call 57; refine (isWashing_any _ _).mono ?_; rintro e w' ⟨rfl, rfl⟩) | (go_at_call 50; refine (within_any _ _ _ _).mono ?_; rintro e w' ⟨rfl, rfl⟩))
    go_wp2_with fail
    refine (wash_any _ _ _ _ _ _ g1 g2 g3 g4 g5 g6 g7 (by omega)).mono ?_; rintro e w2 ⟨rfl, hb2⟩
    have z2 := hb2.size
    try simp at z2
    obtain ⟨c2_0, f2_0⟩ := bblk hb2 (g := w.heap.size) (by (try simp) <;> omega)
    have l2_0 : w.heap.size < w2.heap.size := by omega
    obtain ⟨c2_1, f2_1⟩ := bblk hb2 (g := w.heap.size + 1) (by (try simp) <;> omega)
    have l2_1 : w.heap.size + 1 < w2.heap.size := by omega
    go_wp2_with fail
    refine (IsBatch_any _ _ _ _).mono ?_; rintro e w3 ⟨rfl, hb3⟩
    have z3 := hb3.size
    try simp at z3
    obtain ⟨c3_0, f3_0⟩ := bblk hb3 (g := w.heap.size) (by (try simp) <;> omega)
    have l3_0 : w.heap.size < w3.heap.size := by omega
    obtain ⟨c3_1, f3_1⟩ := bblk hb3 (g := w.heap.size + 1) (by (try simp) <;> omega)
    have l3_1 : w.heap.size + 1 < w3.heap.size := by omega
    obtain ⟨c3_2, f3_2⟩ := bblk hb3 (g := w2.heap.size) (by (try simp) <;> omega)
    have l3_2 : w2.heap.size < w3.heap.size := by omega
    go_wp2
    refine bodyPost_ret (v := .tuple #[.agg #[.int .i64 a, .int .i64 (washD d wt water dirt), .int .i64 wt], .int .i64 (d + dirt - washD d wt water dirt), .bool true]) (by simp [results, Try.results27, go_sem, *] <;> rfl) rfl ?_
    exact ⟨by rw [Hv.out], by (repeat (first | exact Below.refl _ _ | refine Below.drew ?_ | refine below_drewN ?_ _ | (refine Below.alloc ?_ (by (try simp) <;> omega) _) | (refine Below.setCell ?_ (by (try simp) <;> omega) _) | (refine Below.trans ?_ (Below.mono (by assumption) (by (try simp) <;> omega)))))⟩

/-! ### DryBatch -/
def dryV (a d wt p : Int) : Value :=
  if isBatch a d wt && inB p 0 100 then .tuple #[.agg #[.int .i64 a, .int .i64 d, .int .i64 (wt - wt * p / 100)], .int .i64 (wt * p / 100), .bool true] else none3

theorem dry_bd {wt p : Int} (h : 0 ≤ wt) (hp : 0 ≤ p) (hp' : p ≤ 100) : 0 ≤ wt * p / 100 ∧ wt * p / 100 ≤ wt := by
  have h1 := Int.mul_nonneg h hp
  have h2 : wt * p ≤ wt * 100 := Int.mul_le_mul_of_nonneg_left hp' h
  exact ⟨Int.ediv_nonneg h1 (by omega), by omega⟩

set_option maxHeartbeats 1000000 in
theorem SDryBatch_any (a d wt p : Int) (w : World) :
    Calls Try.prog 20 #[.agg #[.int .i64 a, .int .i64 d, .int .i64 wt], .int .i64 p] w fun e w' => e = .returned (dryV a d wt p) ∧ Below w.heap.size w w' := by
  cases h1 : isBatch a d wt
  · have Hv := Lib.hid (show dryV a d wt p = none3 by simp [dryV, h1])
    go_enter Try.func20, Try.ntmps20
    go_wp2_with fail
    refine (l12Good_any _ _ _ _).mono ?_; rintro e w1 ⟨rfl, hb1⟩
    have z1 := hb1.size
    try simp at z1
    obtain ⟨c1_0, f1_0⟩ := bblk hb1 (g := w.heap.size) (by (try simp) <;> omega)
    have l1_0 : w.heap.size < w1.heap.size := by omega
    obtain ⟨c1_1, f1_1⟩ := bblk hb1 (g := w.heap.size + 1) (by (try simp) <;> omega)
    have l1_1 : w.heap.size + 1 < w1.heap.size := by omega
    go_wp2
    refine bodyPost_ret (v := none3) (by simp [results, Try.results20, go_sem, *] <;> rfl) rfl ?_
    exact ⟨by rw [Hv.out], by (repeat (first | exact Below.refl _ _ | refine Below.drew ?_ | refine below_drewN ?_ _ | (refine Below.alloc ?_ (by (try simp) <;> omega) _) | (refine Below.setCell ?_ (by (try simp) <;> omega) _) | (refine Below.trans ?_ (Below.mono (by assumption) (by (try simp) <;> omega)))))⟩
  cases h2 : inB p 0 100
  · have Hv := Lib.hid (show dryV a d wt p = none3 by simp [dryV, h2])
    go_enter Try.func20, Try.ntmps20
    go_wp2_with fail
    refine (l12Good_any _ _ _ _).mono ?_; rintro e w1 ⟨rfl, hb1⟩
    have z1 := hb1.size
    try simp at z1
    obtain ⟨c1_0, f1_0⟩ := bblk hb1 (g := w.heap.size) (by (try simp) <;> omega)
    have l1_0 : w.heap.size < w1.heap.size := by omega
    obtain ⟨c1_1, f1_1⟩ := bblk hb1 (g := w.heap.size + 1) (by (try simp) <;> omega)
    have l1_1 : w.heap.size + 1 < w1.heap.size := by omega
    go_wp2_with (go_at_call 51; refine (l1In_any _ _ _ _).mono ?_; rintro e w' ⟨rfl, rfl⟩)
    refine bodyPost_ret (v := none3) (by simp [results, Try.results20, go_sem, *] <;> rfl) rfl ?_
    exact ⟨by rw [Hv.out], by (repeat (first | exact Below.refl _ _ | refine Below.drew ?_ | refine below_drewN ?_ _ | (refine Below.alloc ?_ (by (try simp) <;> omega) _) | (refine Below.setCell ?_ (by (try simp) <;> omega) _) | (refine Below.trans ?_ (Below.mono (by assumption) (by (try simp) <;> omega)))))⟩
  have Hv := Lib.hid (show dryV a d wt p = .tuple #[.agg #[.int .i64 a, .int .i64 d, .int .i64 (wt - wt * p / 100)], .int .i64 (wt * p / 100), .bool true] by simp [dryV, h1, h2])
  obtain ⟨_, _, g3, g4⟩ := isBatch_iff.1 h1
  obtain ⟨g5, g6⟩ := inB_iff.1 h2
  have hp := mul_bd g3 g4 g5 g6
  have hq := dry_bd g3 g5 g6
  go_enter Try.func20, Try.ntmps20
  go_wp2_with fail
  refine (l12Good_any _ _ _ _).mono ?_; rintro e w1 ⟨rfl, hb1⟩
  have z1 := hb1.size
  try simp at z1
  obtain ⟨c1_0, f1_0⟩ := bblk hb1 (g := w.heap.size) (by (try simp) <;> omega)
  have l1_0 : w.heap.size < w1.heap.size := by omega
  obtain ⟨c1_1, f1_1⟩ := bblk hb1 (g := w.heap.size + 1) (by (try simp) <;> omega)
  have l1_1 : w.heap.size + 1 < w1.heap.size := by omega
  go_wp2_with (go_at_call 51; refine (l1In_any _ _ _ _).mono ?_; rintro e w' ⟨rfl, rfl⟩)
  refine bodyPost_ret (v := .tuple #[.agg #[.int .i64 a, .int .i64 d, .int .i64 (wt - wt * p / 100)], .int .i64 (wt * p / 100), .bool true]) (by simp [results, Try.results20, go_sem, *] <;> rfl) rfl ?_
  exact ⟨by rw [Hv.out], by (repeat (first | exact Below.refl _ _ | refine Below.drew ?_ | refine below_drewN ?_ _ | (refine Below.alloc ?_ (by (try simp) <;> omega) _) | (refine Below.setCell ?_ (by (try simp) <;> omega) _) | (refine Below.trans ?_ (Below.mono (by assumption) (by (try simp) <;> omega)))))⟩

set_option maxHeartbeats 1000000 in
theorem DryBatch_any (a d wt p : Int) (w : World) :
    Calls Try.prog 21 #[.agg #[.int .i64 a, .int .i64 d, .int .i64 wt], .int .i64 p] w fun e w' => e = .returned (dryV a d wt p) ∧ Below w.heap.size w w' := by
  cases h1 : isBatch a d wt
  · have Hv := Lib.hid (show dryV a d wt p = none3 by simp [dryV, h1])
    go_enter Try.func21, Try.ntmps21
    go_wp2_with fail
    refine (IsBatch_any _ _ _ _).mono ?_; rintro e w1 ⟨rfl, hb1⟩
    have z1 := hb1.size
    try simp at z1
    obtain ⟨c1_0, f1_0⟩ := bblk hb1 (g := w.heap.size) (by (try simp) <;> omega)
    have l1_0 : w.heap.size < w1.heap.size := by omega
    obtain ⟨c1_1, f1_1⟩ := bblk hb1 (g := w.heap.size + 1) (by (try simp) <;> omega)
    have l1_1 : w.heap.size + 1 < w1.heap.size := by omega
    go_wp2
    refine bodyPost_ret (v := none3) (by simp [results, Try.results21, go_sem, *] <;> rfl) rfl ?_
    exact ⟨by rw [Hv.out], by (repeat (first | exact Below.refl _ _ | refine Below.drew ?_ | refine below_drewN ?_ _ | (refine Below.alloc ?_ (by (try simp) <;> omega) _) | (refine Below.setCell ?_ (by (try simp) <;> omega) _) | (refine Below.trans ?_ (Below.mono (by assumption) (by (try simp) <;> omega)))))⟩
  cases h2 : inB p 0 100
  · have Hv := Lib.hid (show dryV a d wt p = none3 by simp [dryV, h2])
    go_enter Try.func21, Try.ntmps21
    go_wp2_with fail
    refine (IsBatch_any _ _ _ _).mono ?_; rintro e w1 ⟨rfl, hb1⟩
    have z1 := hb1.size
    try simp at z1
    obtain ⟨c1_0, f1_0⟩ := bblk hb1 (g := w.heap.size) (by (try simp) <;> omega)
    have l1_0 : w.heap.size < w1.heap.size := by omega
    obtain ⟨c1_1, f1_1⟩ := bblk hb1 (g := w.heap.size + 1) (by (try simp) <;> omega)
    have l1_1 : w.heap.size + 1 < w1.heap.size := by omega
    go_wp2_with (go_at_call 50; refine (within_any _ _ _ _).mono ?_; rintro e w' ⟨rfl, rfl⟩)
    refine bodyPost_ret (v := none3) (by simp [results, Try.results21, go_sem, *] <;> rfl) rfl ?_
    exact ⟨by rw [Hv.out], by (repeat (first | exact Below.refl _ _ | refine Below.drew ?_ | refine below_drewN ?_ _ | (refine Below.alloc ?_ (by (try simp) <;> omega) _) | (refine Below.setCell ?_ (by (try simp) <;> omega) _) | (refine Below.trans ?_ (Below.mono (by assumption) (by (try simp) <;> omega)))))⟩
  have Hv := Lib.hid (show dryV a d wt p = .tuple #[.agg #[.int .i64 a, .int .i64 d, .int .i64 (wt - wt * p / 100)], .int .i64 (wt * p / 100), .bool true] by simp [dryV, h1, h2])
  obtain ⟨_, _, g3, g4⟩ := isBatch_iff.1 h1
  obtain ⟨g5, g6⟩ := inB_iff.1 h2
  have hp := mul_bd g3 g4 g5 g6
  have hq := dry_bd g3 g5 g6
  go_enter Try.func21, Try.ntmps21
  go_wp2_with fail
  refine (IsBatch_any _ _ _ _).mono ?_; rintro e w1 ⟨rfl, hb1⟩
  have z1 := hb1.size
  try simp at z1
  obtain ⟨c1_0, f1_0⟩ := bblk hb1 (g := w.heap.size) (by (try simp) <;> omega)
  have l1_0 : w.heap.size < w1.heap.size := by omega
  obtain ⟨c1_1, f1_1⟩ := bblk hb1 (g := w.heap.size + 1) (by (try simp) <;> omega)
  have l1_1 : w.heap.size + 1 < w1.heap.size := by omega
  go_wp2_with (go_at_call 50; refine (within_any _ _ _ _).mono ?_; rintro e w' ⟨rfl, rfl⟩)
  refine bodyPost_ret (v := .tuple #[.agg #[.int .i64 a, .int .i64 d, .int .i64 (wt - wt * p / 100)], .int .i64 (wt * p / 100), .bool true]) (by simp [results, Try.results21, go_sem, *] <;> rfl) rfl ?_
  exact ⟨by rw [Hv.out], by (repeat (first | exact Below.refl _ _ | refine Below.drew ?_ | refine below_drewN ?_ _ | (refine Below.alloc ?_ (by (try simp) <;> omega) _) | (refine Below.setCell ?_ (by (try simp) <;> omega) _) | (refine Below.trans ?_ (Below.mono (by assumption) (by (try simp) <;> omega)))))⟩

/-! ### PurityOf -/
abbrev noneP : Value := .tuple #[.int .i64 0, .int .i64 0, .bool false]
def purV (a d wt : Int) : Value :=
  if isBatch a d wt && !(decide (1000 * a + d = 0)) then .tuple #[.int .i64 (1000 * a / gI (1000 * a) (1000 * a + d)), .int .i64 ((1000 * a + d) / gI (1000 * a) (1000 * a + d)), .bool true] else noneP

set_option maxHeartbeats 1000000 in
theorem PurityOf_any (a d wt : Int) (w : World) :
    Calls Try.prog 25 #[.agg #[.int .i64 a, .int .i64 d, .int .i64 wt]] w fun e w' => e = .returned (purV a d wt) ∧ Below w.heap.size w w' := by
  cases h1 : isBatch a d wt
  · have Hv := Lib.hid (show purV a d wt = noneP by simp [purV, h1])
    go_enter Try.func25, Try.ntmps25
    go_wp2_with fail
    refine (IsBatch_any _ _ _ _).mono ?_; rintro e w1 ⟨rfl, hb1⟩
    have z1 := hb1.size
    try simp at z1
    obtain ⟨c1_0, f1_0⟩ := bblk hb1 (g := w.heap.size) (by (try simp) <;> omega)
    have l1_0 : w.heap.size < w1.heap.size := by omega
    go_wp2
    go_ret3
    exact ⟨by rw [Hv.out]; rfl, by (repeat (first | exact Below.refl _ _ | refine Below.drew ?_ | refine below_drewN ?_ _ | (refine Below.alloc ?_ (by (try simp) <;> omega) _) | (refine Below.setCell ?_ (by (try simp) <;> omega) _) | (refine Below.trans ?_ (Below.mono (by assumption) (by (try simp) <;> omega)))))⟩
  obtain ⟨⟨g1, g2⟩, ⟨g3, g4⟩, _⟩ := isBatch_iff.1 h1
  by_cases h2 : 1000 * a + d = 0
  · have Hv := Lib.hid (show purV a d wt = noneP by simp [purV, h2])
    have hb : (1000 * a + d == 0) = true := by simpa using h2
    have H2 := Lib.hid h2; clear h2
    go_enter Try.func25, Try.ntmps25
    go_wp2_with fail
    refine (IsBatch_any _ _ _ _).mono ?_; rintro e w1 ⟨rfl, hb1⟩
    have z1 := hb1.size
    try simp at z1
    obtain ⟨c1_0, f1_0⟩ := bblk hb1 (g := w.heap.size) (by (try simp) <;> omega)
    have l1_0 : w.heap.size < w1.heap.size := by omega
    go_wp2
    go_ret3
    exact ⟨by rw [Hv.out]; rfl, by (repeat (first | exact Below.refl _ _ | refine Below.drew ?_ | refine below_drewN ?_ _ | (refine Below.alloc ?_ (by (try simp) <;> omega) _) | (refine Below.setCell ?_ (by (try simp) <;> omega) _) | (refine Below.trans ?_ (Below.mono (by assumption) (by (try simp) <;> omega)))))⟩
  · have Hv := Lib.hid (show purV a d wt = .tuple #[.int .i64 (1000 * a / gI (1000 * a) (1000 * a + d)), .int .i64 ((1000 * a + d) / gI (1000 * a) (1000 * a + d)), .bool true] by simp [purV, h1, h2])
    have hb : (1000 * a + d == 0) = false := by simpa using h2
    have h3 : 1 ≤ 1000 * a + d := by omega
    go_enter Try.func25, Try.ntmps25
    go_wp2_with fail
    refine (IsBatch_any _ _ _ _).mono ?_; rintro e w1 ⟨rfl, hb1⟩
    have z1 := hb1.size
    try simp at z1
    obtain ⟨c1_0, f1_0⟩ := bblk hb1 (g := w.heap.size) (by (try simp) <;> omega)
    have l1_0 : w.heap.size < w1.heap.size := by omega
    go_wp2_with (go_at_call 55; refine (reduced_any _ _ _ (by omega) (by omega) (by omega) (by omega)).mono ?_; rintro e w' ⟨rfl, n, rfl⟩)
    go_ret3
    exact ⟨by rw [Hv.out]; rfl, by (repeat (first | exact Below.refl _ _ | refine Below.drew ?_ | refine below_drewN ?_ _ | (refine Below.alloc ?_ (by (try simp) <;> omega) _) | (refine Below.setCell ?_ (by (try simp) <;> omega) _) | (refine Below.trans ?_ (Below.mono (by assumption) (by (try simp) <;> omega)))))⟩

set_option maxHeartbeats 1000000 in
theorem SPurityOf_any (a d wt : Int) (w : World) :
    Calls Try.prog 24 #[.agg #[.int .i64 a, .int .i64 d, .int .i64 wt]] w fun e w' => e = .returned (purV a d wt) ∧ Below w.heap.size w w' := by
  cases h1 : isBatch a d wt
  · have Hv := Lib.hid (show purV a d wt = noneP by simp [purV, h1])
    go_enter Try.func24, Try.ntmps24
    go_wp2_with fail
    refine (l12Good_any _ _ _ _).mono ?_; rintro e w1 ⟨rfl, hb1⟩
    have z1 := hb1.size
    try simp at z1
    obtain ⟨c1_0, f1_0⟩ := bblk hb1 (g := w.heap.size) (by (try simp) <;> omega)
    have l1_0 : w.heap.size < w1.heap.size := by omega
    go_wp2
    go_ret3
    exact ⟨by rw [Hv.out]; rfl, by (repeat (first | exact Below.refl _ _ | refine Below.drew ?_ | refine below_drewN ?_ _ | (refine Below.alloc ?_ (by (try simp) <;> omega) _) | (refine Below.setCell ?_ (by (try simp) <;> omega) _) | (refine Below.trans ?_ (Below.mono (by assumption) (by (try simp) <;> omega)))))⟩
  obtain ⟨⟨g1, g2⟩, ⟨g3, g4⟩, _⟩ := isBatch_iff.1 h1
  by_cases h2 : 1000 * a + d = 0
  · have Hv := Lib.hid (show purV a d wt = noneP by simp [purV, h2])
    have hb : (a == 0) = true := by rw [beq_iff_eq]; omega
    have hd : (d == 0) = true := by rw [beq_iff_eq]; omega
    have H2 := Lib.hid h2; clear h2
    go_enter Try.func24, Try.ntmps24
    go_wp2_with fail
    refine (l12Good_any _ _ _ _).mono ?_; rintro e w1 ⟨rfl, hb1⟩
    have z1 := hb1.size
    try simp at z1
    obtain ⟨c1_0, f1_0⟩ := bblk hb1 (g := w.heap.size) (by (try simp) <;> omega)
    have l1_0 : w.heap.size < w1.heap.size := by omega
    go_wp2
    go_ret3
    exact ⟨by rw [Hv.out]; rfl, by (repeat (first | exact Below.refl _ _ | refine Below.drew ?_ | refine below_drewN ?_ _ | (refine Below.alloc ?_ (by (try simp) <;> omega) _) | (refine Below.setCell ?_ (by (try simp) <;> omega) _) | (refine Below.trans ?_ (Below.mono (by assumption) (by (try simp) <;> omega)))))⟩
  · have Hv := Lib.hid (show purV a d wt = .tuple #[.int .i64 (1000 * a / gI (1000 * a) (1000 * a + d)), .int .i64 ((1000 * a + d) / gI (1000 * a) (1000 * a + d)), .bool true] by simp [purV, h1, h2])
    have h3 : 1 ≤ 1000 * a + d := by omega
    by_cases ha : a = 0
    · have hb : (a == 0) = true := by simpa using ha
      have hd : (d == 0) = false := by rw [beq_eq_false_iff_ne]; omega
      have Ha := Lib.hid ha; clear ha
      go_enter Try.func24, Try.ntmps24
      go_wp2_with fail
      refine (l12Good_any _ _ _ _).mono ?_; rintro e w1 ⟨rfl, hb1⟩
      have z1 := hb1.size
      try simp at z1
      obtain ⟨c1_0, f1_0⟩ := bblk hb1 (g := w.heap.size) (by (try simp) <;> omega)
      have l1_0 : w.heap.size < w1.heap.size := by omega
      go_wp2_with (go_at_call 54; refine (l2Reduce_any _ _ _ (by omega) (by omega) (by omega) (by omega)).mono ?_; rintro e w' ⟨rfl, n, rfl⟩)
      go_ret3
      exact ⟨by rw [Hv.out]; rfl, by (repeat (first | exact Below.refl _ _ | refine Below.drew ?_ | refine below_drewN ?_ _ | (refine Below.alloc ?_ (by (try simp) <;> omega) _) | (refine Below.setCell ?_ (by (try simp) <;> omega) _) | (refine Below.trans ?_ (Below.mono (by assumption) (by (try simp) <;> omega)))))⟩
    · have hb : (a == 0) = false := by simpa using ha
      go_enter Try.func24, Try.ntmps24
      go_wp2_with fail
      refine (l12Good_any _ _ _ _).mono ?_; rintro e w1 ⟨rfl, hb1⟩
      have z1 := hb1.size
      try simp at z1
      obtain ⟨c1_0, f1_0⟩ := bblk hb1 (g := w.heap.size) (by (try simp) <;> omega)
      have l1_0 : w.heap.size < w1.heap.size := by omega
      go_wp2_with (go_at_call 54; refine (l2Reduce_any _ _ _ (by omega) (by omega) (by omega) (by omega)).mono ?_; rintro e w' ⟨rfl, n, rfl⟩)
      go_ret3
      exact ⟨by rw [Hv.out]; rfl, by (repeat (first | exact Below.refl _ _ | refine Below.drew ?_ | refine below_drewN ?_ _ | (refine Below.alloc ?_ (by (try simp) <;> omega) _) | (refine Below.setCell ?_ (by (try simp) <;> omega) _) | (refine Below.trans ?_ (Below.mono (by assumption) (by (try simp) <;> omega)))))⟩
end Go.Proofs.Ytpgoenhekmoedaa
