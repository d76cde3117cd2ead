/-
  IsTrip and ArrivalOf: the laws, walked.
-/
import Derived.Test.YtfcmfadkkfkidaaTrip1
import Derived.Test.YtfcmfadkkfkidaaOpenSl
namespace Go.Proofs.Ytfcmfadkkfkidaa
open Go.RowKit

theorem tripB_bounds {a b c d g : Int} (h : tripB a b c d g = true) : (1 ≤ a ∧ a ≤ 99) ∧ (0 ≤ b ∧ b ≤ 9) ∧ (0 ≤ c ∧ c ≤ 9) ∧ b ≠ c ∧ (0 ≤ d ∧ d ≤ 1440) ∧ arr b c d ≤ 1440 ∧ (0 ≤ g ∧ g ≤ 8) := by
  simp [tripB, inB] at h
  omega
def arrV (a b c d g : Int) : Value := if tripB a b c d g then .tuple #[.int .i64 (arr b c d), .bool true] else .tuple #[.int .i64 0, .bool false]
theorem arrV_form (a b c d g : Int) : ∃ n u, arrV a b c d g = .tuple #[.int .i64 n, .bool u] := by unfold arrV; split <;> exact ⟨_, _, rfl⟩

set_option maxHeartbeats 400000 in
theorem SIsTrip_any (a b c d g : Int) (w : World) : Calls Try.prog 16 #[tripV a b c d g] w fun e w' => e = .returned (.bool (tripB a b c d g)) ∧ Below w.heap.size w w' := by
  go_enter Try.func16, Try.ntmps16
  go_wp2_with fail
  refine (l11One_any _ _ _ _ _ _).mono ?_; rintro e w1 ⟨rfl, hb1⟩
  have z1 := hb1.size
  try simp at z1
  go_wp2
  go_ret
  exact ⟨rfl, by (repeat (first | exact Below.refl _ _ | refine Below.drew ?_ | refine below_drewN ?_ _ | (refine Below.alloc ?_ (by (try simp) <;> omega) _) | (refine Below.setCell ?_ (by (try simp) <;> omega) _) | (refine Below.trans ?_ (Below.mono (by assumption) (by (try simp) <;> omega)))))⟩

set_option maxHeartbeats 400000 in
theorem ArrivalOf_any (a b c d g : Int) (w : World) : Calls Try.prog 20 #[tripV a b c d g] w fun e w' => e = .returned (arrV a b c d g) ∧ Below w.heap.size w w' := by
  cases h : tripB a b c d g
  · have Hv := Lib.hid (show arrV a b c d g = .tuple #[.int .i64 0, .bool false] by simp [arrV, h])
    go_enter Try.func20, Try.ntmps20
    go_wp2_with fail
    refine (IsTrip_any _ _ _ _ _ _).mono ?_; rintro e w1 ⟨rfl, hb1⟩
    have z1 := hb1.size
    try simp at z1
    obtain ⟨c1_0, f1_0⟩ := bblk hb1 (g := w.heap.size) (by (try simp) <;> omega)
    have l1_0 : w.heap.size < w1.heap.size := by omega
    rw [h]
    go_wp2
    go_ret2
    exact ⟨by rw [Hv.out]; rfl, by (repeat (first | exact Below.refl _ _ | refine Below.drew ?_ | refine below_drewN ?_ _ | (refine Below.alloc ?_ (by (try simp) <;> omega) _) | (refine Below.setCell ?_ (by (try simp) <;> omega) _) | (refine Below.trans ?_ (Below.mono (by assumption) (by (try simp) <;> omega)))))⟩
  have Hv := Lib.hid (show arrV a b c d g = .tuple #[.int .i64 (arr b c d), .bool true] by simp [arrV, h])
  obtain ⟨-, hb, hc, -, hd, -⟩ := tripB_bounds h
  go_enter Try.func20, Try.ntmps20
  go_wp2_with fail
  refine (IsTrip_any _ _ _ _ _ _).mono ?_; rintro e w1 ⟨rfl, hb1⟩
  have z1 := hb1.size
  try simp at z1
  obtain ⟨c1_0, f1_0⟩ := bblk hb1 (g := w.heap.size) (by (try simp) <;> omega)
  have l1_0 : w.heap.size < w1.heap.size := by omega
  rw [h]
  go_wp2_with fail
  refine (arrival_any _ _ _ _ _ _ hb hc hd).mono ?_; rintro e w2 ⟨rfl, hb2⟩
  have z2 := hb2.size
  try simp at z2
  go_wp2
  go_ret2
  exact ⟨by rw [Hv.out]; rfl, by (repeat (first | exact Below.refl _ _ | refine Below.drew ?_ | refine below_drewN ?_ _ | (refine Below.alloc ?_ (by (try simp) <;> omega) _) | (refine Below.setCell ?_ (by (try simp) <;> omega) _) | (refine Below.trans ?_ (Below.mono (by assumption) (by (try simp) <;> omega)))))⟩

set_option maxHeartbeats 400000 in
theorem SArrivalOf_any (a b c d g : Int) (w : World) : Calls Try.prog 19 #[tripV a b c d g] w fun e w' => e = .returned (arrV a b c d g) ∧ Below w.heap.size w w' := by
  cases h : tripB a b c d g
  · have Hv := Lib.hid (show arrV a b c d g = .tuple #[.int .i64 0, .bool false] by simp [arrV, h])
    go_enter Try.func19, Try.ntmps19
    go_wp2_with fail
    refine (l11One_any _ _ _ _ _ _).mono ?_; rintro e w1 ⟨rfl, hb1⟩
    have z1 := hb1.size
    try simp at z1
    obtain ⟨c1_0, f1_0⟩ := bblk hb1 (g := w.heap.size) (by (try simp) <;> omega)
    have l1_0 : w.heap.size < w1.heap.size := by omega
    rw [h]
    go_wp2
    go_ret2
    exact ⟨by rw [Hv.out]; rfl, by (repeat (first | exact Below.refl _ _ | refine Below.drew ?_ | refine below_drewN ?_ _ | (refine Below.alloc ?_ (by (try simp) <;> omega) _) | (refine Below.setCell ?_ (by (try simp) <;> omega) _) | (refine Below.trans ?_ (Below.mono (by assumption) (by (try simp) <;> omega)))))⟩
  have Hv := Lib.hid (show arrV a b c d g = .tuple #[.int .i64 (arr b c d), .bool true] by simp [arrV, h])
  obtain ⟨-, hb, hc, -, hd, -⟩ := tripB_bounds h
  go_enter Try.func19, Try.ntmps19
  go_wp2_with fail
  refine (l11One_any _ _ _ _ _ _).mono ?_; rintro e w1 ⟨rfl, hb1⟩
  have z1 := hb1.size
  try simp at z1
  obtain ⟨c1_0, f1_0⟩ := bblk hb1 (g := w.heap.size) (by (try simp) <;> omega)
  have l1_0 : w.heap.size < w1.heap.size := by omega
  rw [h]
  go_wp2_with fail
  refine (l11Arrives_any _ _ _ _ _ _ hb hc hd).mono ?_; rintro e w2 ⟨rfl, hb2⟩
  have z2 := hb2.size
  try simp at z2
  go_wp2
  go_ret2
  exact ⟨by rw [Hv.out]; rfl, by (repeat (first | exact Below.refl _ _ | refine Below.drew ?_ | refine below_drewN ?_ _ | (refine Below.alloc ?_ (by (try simp) <;> omega) _) | (refine Below.setCell ?_ (by (try simp) <;> omega) _) | (refine Below.trans ?_ (Below.mono (by assumption) (by (try simp) <;> omega)))))⟩

set_option maxHeartbeats 1000000 in
theorem walk_IsTrip (a b c d g : Int) (_h : InI a ∧ InI b ∧ InI c ∧ InI d ∧ InI g) (w : World) :
    Calls Try.prog 3 #[.agg #[.int .i64 a, .int .i64 b, .int .i64 c, .int .i64 d, .int .i64 g]] w fun e w' => e = .returned (.bool true) ∧ Below w.heap.size w w' := by
  clear _h
  have nb := neB (tripB a b c d g)
  go_enter Try.func3, Try.ntmps3
  go_wp2_with fail
  refine (toTrip_any _ _ _ _ _ _).mono ?_; rintro e w1 ⟨rfl, hb1⟩
  have z1 := hb1.size
  try simp at z1
  obtain ⟨c1_0, f1_0⟩ := bblk hb1 (g := w.heap.size) (by (try simp) <;> omega)
  have l1_0 : w.heap.size < w1.heap.size := by omega
  go_wp2_with fail
  refine (SIsTrip_any _ _ _ _ _ _).mono ?_; rintro e w2 ⟨rfl, hb2⟩
  have z2 := hb2.size
  try simp at z2
  obtain ⟨c2_0, f2_0⟩ := bblk hb2 (g := w.heap.size) (by (try simp) <;> omega)
  have l2_0 : w.heap.size < w2.heap.size := by omega
  go_wp2_with fail
  refine (toTrip_any _ _ _ _ _ _).mono ?_; rintro e w3 ⟨rfl, hb3⟩
  have z3 := hb3.size
  try simp at z3
  obtain ⟨c3_0, f3_0⟩ := bblk hb3 (g := w.heap.size) (by (try simp) <;> omega)
  have l3_0 : w.heap.size < w3.heap.size := by omega
  go_wp2_with fail
  refine (IsTrip_any _ _ _ _ _ _).mono ?_; rintro e w4 ⟨rfl, hb4⟩
  have z4 := hb4.size
  try simp at z4
  obtain ⟨c4_0, f4_0⟩ := bblk hb4 (g := w.heap.size) (by (try simp) <;> omega)
  have l4_0 : w.heap.size < w4.heap.size := by omega
  go_wp2
  go_ret
  exact ⟨rfl, by (repeat (first | exact Below.refl _ _ | refine Below.drew ?_ | refine below_drewN ?_ _ | (refine Below.alloc ?_ (by (try simp) <;> omega) _) | (refine Below.setCell ?_ (by (try simp) <;> omega) _) | (refine Below.trans ?_ (Below.mono (by assumption) (by (try simp) <;> omega)))))⟩

set_option maxHeartbeats 1000000 in
theorem walk_ArrivalOf (a b c d g : Int) (_h : InI a ∧ InI b ∧ InI c ∧ InI d ∧ InI g) (w : World) :
    Calls Try.prog 4 #[.agg #[.int .i64 a, .int .i64 b, .int .i64 c, .int .i64 d, .int .i64 g]] w fun e w' => e = .returned (.bool true) ∧ Below w.heap.size w w' := by
  clear _h
  obtain ⟨n, u, hj⟩ := arrV_form a b c d g
  have Hj := Lib.hid hj; clear hj
  have nn := neI n
  have nb := neB u
  go_enter Try.func4, Try.ntmps4
  go_wp2_with fail
  refine (toTrip_any _ _ _ _ _ _).mono ?_; rintro e w1 ⟨rfl, hb1⟩
  have z1 := hb1.size
  try simp at z1
  obtain ⟨c1_0, f1_0⟩ := bblk hb1 (g := w.heap.size) (by (try simp) <;> omega)
  have l1_0 : w.heap.size < w1.heap.size := by omega
  go_wp2_with fail
  refine (SArrivalOf_any _ _ _ _ _ _).mono ?_; rintro e w2 ⟨he, hb2⟩; rw [Hj.out] at he; subst he
  have z2 := hb2.size
  try simp at z2
  obtain ⟨c2_0, f2_0⟩ := bblk hb2 (g := w.heap.size) (by (try simp) <;> omega)
  have l2_0 : w.heap.size < w2.heap.size := by omega
  go_wp2_with fail
  refine (toTrip_any _ _ _ _ _ _).mono ?_; rintro e w3 ⟨rfl, hb3⟩
  have z3 := hb3.size
  try simp at z3
  obtain ⟨c3_0, f3_0⟩ := bblk hb3 (g := w.heap.size) (by (try simp) <;> omega)
  have l3_0 : w.heap.size < w3.heap.size := by omega
  go_wp2_with fail
  refine (ArrivalOf_any _ _ _ _ _ _).mono ?_; rintro e w4 ⟨he, hb4⟩; rw [Hj.out] at he; subst he
  have z4 := hb4.size
  try simp at z4
  obtain ⟨c4_0, f4_0⟩ := bblk hb4 (g := w.heap.size) (by (try simp) <;> omega)
  have l4_0 : w.heap.size < w4.heap.size := by omega
  go_wp2
  go_ret
  exact ⟨rfl, by (repeat (first | exact Below.refl _ _ | refine Below.drew ?_ | refine below_drewN ?_ _ | (refine Below.alloc ?_ (by (try simp) <;> omega) _) | (refine Below.setCell ?_ (by (try simp) <;> omega) _) | (refine Below.trans ?_ (Below.mono (by assumption) (by (try simp) <;> omega)))))⟩
end Go.Proofs.Ytfcmfadkkfkidaa
