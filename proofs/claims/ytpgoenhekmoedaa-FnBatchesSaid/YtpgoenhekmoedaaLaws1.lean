/-
  The laws on DryBatch, PurityOf and AfterWash, walked.
-/
import Derived.Test.YtpgoenhekmoedaaWash2
import Derived.Test.YtpgoenhekmoedaaOpen
namespace Go.Proofs.Ytpgoenhekmoedaa
open Go.RowKit

theorem dryV_form (a d wt p : Int) : ∃ x y z n u, dryV a d wt p = .tuple #[.agg #[.int .i64 x, .int .i64 y, .int .i64 z], .int .i64 n, .bool u] := by
  unfold dryV; split <;> exact ⟨_, _, _, _, _, rfl⟩

theorem afterWashV_form (a d wt water dirt : Int) : ∃ x y z n u, afterWashV a d wt water dirt = .tuple #[.agg #[.int .i64 x, .int .i64 y, .int .i64 z], .int .i64 n, .bool u] := by
  unfold afterWashV; split <;> exact ⟨_, _, _, _, _, rfl⟩
theorem purV_form (a d wt : Int) : ∃ x y u, purV a d wt = .tuple #[.int .i64 x, .int .i64 y, .bool u] := by
  unfold purV; split <;> exact ⟨_, _, _, rfl⟩

set_option maxHeartbeats 1000000 in
theorem walk_DryBatch (a b c : Int) (_h : InI a ∧ InI b ∧ InI c) (p : Int) (_hp : InI p) (w : World) :
    Calls Try.prog 5 #[.agg #[.int .i64 a, .int .i64 b, .int .i64 c], .int .i64 p] w fun e w' => e = .returned (.bool true) ∧ Below w.heap.size w w' := by
  clear _h _hp
  obtain ⟨x, y, z, n, u, hj⟩ := dryV_form a b c p
  have Hj := Lib.hid hj; clear hj
  have E1 := Lib.hid (eq3_refl x y z)
  have e2 := neI n
  have e3 := neB u
  go_enter Try.func5, Try.ntmps5
  go_wp2_with fail
  refine (toBatch_any _ _ _ _).mono ?_; rintro e w1 ⟨rfl, hb1⟩
  have z1 := hb1.size
  try simp at z1
  obtain ⟨c1_0, f1_0⟩ := bblk hb1 (g := w.heap.size) (by (try simp) <;> omega)
  have l1_0 : w.heap.size < w1.heap.size := by omega
  go_wp2_with fail
  refine (SDryBatch_any _ _ _ _ _).mono ?_; rintro e w2 ⟨he, hb2⟩; rw [Hj.out] at he; subst he
  have z2 := hb2.size
  try simp at z2
  obtain ⟨c2_0, f2_0⟩ := bblk hb2 (g := w.heap.size) (by (try simp) <;> omega)
  have l2_0 : w.heap.size < w2.heap.size := by omega
  go_wp2_with fail
  refine (toBatch_any _ _ _ _).mono ?_; rintro e w3 ⟨rfl, hb3⟩
  have z3 := hb3.size
  try simp at z3
  obtain ⟨c3_0, f3_0⟩ := bblk hb3 (g := w.heap.size) (by (try simp) <;> omega)
  have l3_0 : w.heap.size < w3.heap.size := by omega
  obtain ⟨c3_1, f3_1⟩ := bblk hb3 (g := w2.heap.size) (by (try simp) <;> omega)
  have l3_1 : w2.heap.size < w3.heap.size := by omega
  go_wp2_with fail
  refine (DryBatch_any _ _ _ _ _).mono ?_; rintro e w4 ⟨he, hb4⟩; rw [Hj.out] at he; subst he
  have z4 := hb4.size
  try simp at z4
  obtain ⟨c4_0, f4_0⟩ := bblk hb4 (g := w.heap.size) (by (try simp) <;> omega)
  have l4_0 : w.heap.size < w4.heap.size := by omega
  obtain ⟨c4_1, f4_1⟩ := bblk hb4 (g := w2.heap.size) (by (try simp) <;> omega)
  have l4_1 : w2.heap.size < w4.heap.size := by omega
  go_wp2_with fail
  refine (eqBatch_any _ _ _ _ _ _ _).mono ?_; rintro e w5 ⟨he, hb5⟩; rw [E1.out] at he; subst he
  have z5 := hb5.size
  try simp at z5
  obtain ⟨c5_0, f5_0⟩ := bblk hb5 (g := w.heap.size) (by (try simp) <;> omega)
  have l5_0 : w.heap.size < w5.heap.size := by omega
  go_wp2
  go_ret
  exact ⟨rfl, by (repeat (first | exact Below.refl _ _ | refine Below.drew ?_ | refine below_drewN ?_ _ | (refine Below.alloc ?_ (by (try simp) <;> omega) _) | (refine Below.setCell ?_ (by (try simp) <;> omega) _) | (refine Below.trans ?_ (Below.mono (by assumption) (by (try simp) <;> omega)))))⟩

set_option maxHeartbeats 1000000 in
theorem walk_AfterWash (a b c : Int) (_h : InI a ∧ InI b ∧ InI c) (p : Int) (_hp : InI p) (q : Int) (_hq : InI q) (w : World) :
    Calls Try.prog 8 #[.agg #[.int .i64 a, .int .i64 b, .int .i64 c], .int .i64 p, .int .i64 q] w fun e w' => e = .returned (.bool true) ∧ Below w.heap.size w w' := by
  clear _h _hp _hq
  obtain ⟨x, y, z, n, u, hj⟩ := afterWashV_form a b c p q
  have Hj := Lib.hid hj; clear hj
  have E1 := Lib.hid (eq3_refl x y z)
  have e2 := neI n
  have e3 := neB u
  go_enter Try.func8, Try.ntmps8
  go_wp2_with fail
  refine (toBatch_any _ _ _ _).mono ?_; rintro e w1 ⟨rfl, hb1⟩
  have z1 := hb1.size
  try simp at z1
  obtain ⟨c1_0, f1_0⟩ := bblk hb1 (g := w.heap.size) (by (try simp) <;> omega)
  have l1_0 : w.heap.size < w1.heap.size := by omega
  go_wp2_with fail
  refine (SAfterWash_any _ _ _ _ _ _).mono ?_; rintro e w2 ⟨he, hb2⟩; rw [Hj.out] at he; subst he
  have z2 := hb2.size
  try simp at z2
  obtain ⟨c2_0, f2_0⟩ := bblk hb2 (g := w.heap.size) (by (try simp) <;> omega)
  have l2_0 : w.heap.size < w2.heap.size := by omega
  go_wp2_with fail
  refine (toBatch_any _ _ _ _).mono ?_; rintro e w3 ⟨rfl, hb3⟩
  have z3 := hb3.size
  try simp at z3
  obtain ⟨c3_0, f3_0⟩ := bblk hb3 (g := w.heap.size) (by (try simp) <;> omega)
  have l3_0 : w.heap.size < w3.heap.size := by omega
  obtain ⟨c3_1, f3_1⟩ := bblk hb3 (g := w2.heap.size) (by (try simp) <;> omega)
  have l3_1 : w2.heap.size < w3.heap.size := by omega
  go_wp2_with fail
  refine (AfterWash_any _ _ _ _ _ _).mono ?_; rintro e w4 ⟨he, hb4⟩; rw [Hj.out] at he; subst he
  have z4 := hb4.size
  try simp at z4
  obtain ⟨c4_0, f4_0⟩ := bblk hb4 (g := w.heap.size) (by (try simp) <;> omega)
  have l4_0 : w.heap.size < w4.heap.size := by omega
  obtain ⟨c4_1, f4_1⟩ := bblk hb4 (g := w2.heap.size) (by (try simp) <;> omega)
  have l4_1 : w2.heap.size < w4.heap.size := by omega
  go_wp2_with fail
  refine (eqBatch_any _ _ _ _ _ _ _).mono ?_; rintro e w5 ⟨he, hb5⟩; rw [E1.out] at he; subst he
  have z5 := hb5.size
  try simp at z5
  obtain ⟨c5_0, f5_0⟩ := bblk hb5 (g := w.heap.size) (by (try simp) <;> omega)
  have l5_0 : w.heap.size < w5.heap.size := by omega
  go_wp2
  go_ret
  exact ⟨rfl, by (repeat (first | exact Below.refl _ _ | refine Below.drew ?_ | refine below_drewN ?_ _ | (refine Below.alloc ?_ (by (try simp) <;> omega) _) | (refine Below.setCell ?_ (by (try simp) <;> omega) _) | (refine Below.trans ?_ (Below.mono (by assumption) (by (try simp) <;> omega)))))⟩

set_option maxHeartbeats 1000000 in
theorem walk_PurityOf (a b c : Int) (_h : InI a ∧ InI b ∧ InI c) (w : World) :
    Calls Try.prog 7 #[.agg #[.int .i64 a, .int .i64 b, .int .i64 c]] w fun e w' => e = .returned (.bool true) ∧ Below w.heap.size w w' := by
  clear _h
  obtain ⟨x, y, u, hj⟩ := purV_form a b c
  have Hj := Lib.hid hj; clear hj
  have e1 := neI x
  have e2 := neI y
  have e3 := neB u
  go_enter Try.func7, Try.ntmps7
  go_wp2_with fail
  refine (toBatch_any _ _ _ _).mono ?_; rintro e w1 ⟨rfl, hb1⟩
  have z1 := hb1.size
  try simp at z1
  obtain ⟨c1_0, f1_0⟩ := bblk hb1 (g := w.heap.size) (by (try simp) <;> omega)
  have l1_0 : w.heap.size < w1.heap.size := by omega
  go_wp2_with fail
  refine (SPurityOf_any _ _ _ _).mono ?_; rintro e w2 ⟨he, hb2⟩; rw [Hj.out] at he; subst he
  have z2 := hb2.size
  try simp at z2
  obtain ⟨c2_0, f2_0⟩ := bblk hb2 (g := w.heap.size) (by (try simp) <;> omega)
  have l2_0 : w.heap.size < w2.heap.size := by omega
  go_wp2_with fail
  refine (toBatch_any _ _ _ _).mono ?_; rintro e w3 ⟨rfl, hb3⟩
  have z3 := hb3.size
  try simp at z3
  go_wp2_with fail
  refine (PurityOf_any _ _ _ _).mono ?_; rintro e w4 ⟨he, hb4⟩; rw [Hj.out] at he; subst he
  have z4 := hb4.size
  try simp at z4
  go_wp2
  go_ret
  exact ⟨rfl, by (repeat (first | exact Below.refl _ _ | refine Below.drew ?_ | refine below_drewN ?_ _ | (refine Below.alloc ?_ (by (try simp) <;> omega) _) | (refine Below.setCell ?_ (by (try simp) <;> omega) _) | (refine Below.trans ?_ (Below.mono (by assumption) (by (try simp) <;> omega)))))⟩
end Go.Proofs.Ytpgoenhekmoedaa
