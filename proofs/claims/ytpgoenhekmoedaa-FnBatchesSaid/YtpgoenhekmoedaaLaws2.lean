/-
  The laws on WaterNeeded, AfterStages, StagesNeeded and JoinBatches, walked; JoinBatches of both.
-/
import Derived.Test.YtpgoenhekmoedaaWash4
import Derived.Test.YtpgoenhekmoedaaOpen
namespace Go.Proofs.Ytpgoenhekmoedaa
open Go.RowKit

def joinR (a b c x y z : Int) : Value :=
  if isBatch a b c && isBatch x y z && isBatch (wrap64 (a + x)) (wrap64 (b + y)) (wrap64 (c + z)) then .tuple #[.agg #[.int .i64 (wrap64 (a + x)), .int .i64 (wrap64 (b + y)), .int .i64 (wrap64 (c + z))], .bool true] else noneS
theorem joinR_form (a b c x y z : Int) : ∃ p q r u, joinR a b c x y z = .tuple #[.agg #[.int .i64 p, .int .i64 q, .int .i64 r], .bool u] := by
  unfold joinR; split <;> exact ⟨_, _, _, _, rfl⟩
theorem stagesV_form (a d wt water st : Int) : ∃ p q r u, stagesV a d wt water st = .tuple #[.agg #[.int .i64 p, .int .i64 q, .int .i64 r], .bool u] := by
  unfold stagesV; split <;> exact ⟨_, _, _, _, rfl⟩
theorem snV_form (a d wt water limit : Int) : ∃ n u, snV a d wt water limit = .tuple #[.int .i64 n, .bool u] := by
  unfold snV; split
  · split <;> exact ⟨_, _, rfl⟩
  · exact ⟨_, _, rfl⟩
theorem wnV_form (a d wt limit : Int) : ∃ n u, wnV a d wt limit = .tuple #[.int .i64 n, .bool u] := by
  unfold wnV
  (repeat' split) <;> exact ⟨_, _, rfl⟩

set_option maxHeartbeats 1000000 in
theorem JoinBatches_any (a b c x y z : Int) (w : World) :
    Calls Try.prog 18 #[.agg #[.int .i64 a, .int .i64 b, .int .i64 c], .agg #[.int .i64 x, .int .i64 y, .int .i64 z]] w fun e w' =>
      e = .returned (joinR a b c x y z) ∧ Below w.heap.size w w' := by
  cases h1 : isBatch a b c
  · have Hv := Lib.hid (show joinR a b c x y z = noneS by simp [joinR, h1])
    go_enter Try.func18, Try.ntmps18
    go_wp2_with fail
    refine (IsBatch_any _ _ _ _).mono ?_; rintro e w1 ⟨rfl, hb1⟩
    have z1 := hb1.size
    try simp at z1
    obtain ⟨c1_0, f1_0⟩ := bblk hb1 (g := w.heap.size) (by (try simp) <;> omega)
    have l1_0 : w.heap.size < w1.heap.size := by omega
    obtain ⟨c1_1, f1_1⟩ := bblk hb1 (g := w.heap.size + 1) (by (try simp) <;> omega)
    have l1_1 : w.heap.size + 1 < w1.heap.size := by omega
    obtain ⟨c1_2, f1_2⟩ := bblk hb1 (g := w.heap.size + 1 + 1) (by (try simp) <;> omega)
    have l1_2 : w.heap.size + 1 + 1 < w1.heap.size := by omega
    obtain ⟨c1_3, f1_3⟩ := bblk hb1 (g := w.heap.size + 1 + 1 + 1) (by (try simp) <;> omega)
    have l1_3 : w.heap.size + 1 + 1 + 1 < w1.heap.size := by omega
    go_wp2
    refine bodyPost_ret (v := noneS) (by simp [results, Try.results18, go_sem, *] <;> rfl) rfl ?_
    exact ⟨by rw [Hv.out], by (repeat (first | exact Below.refl _ _ | refine Below.drew ?_ | refine below_drewN ?_ _ | (refine Below.alloc ?_ (by (try simp) <;> omega) _) | (refine Below.setCell ?_ (by (try simp) <;> omega) _) | (refine Below.trans ?_ (Below.mono (by assumption) (by (try simp) <;> omega)))))⟩
  cases h2 : isBatch x y z
  · have Hv := Lib.hid (show joinR a b c x y z = noneS by simp [joinR, h2])
    go_enter Try.func18, Try.ntmps18
    go_wp2_with fail
    refine (IsBatch_any _ _ _ _).mono ?_; rintro e w1 ⟨rfl, hb1⟩
    have z1 := hb1.size
    try simp at z1
    obtain ⟨c1_0, f1_0⟩ := bblk hb1 (g := w.heap.size) (by (try simp) <;> omega)
    have l1_0 : w.heap.size < w1.heap.size := by omega
    obtain ⟨c1_1, f1_1⟩ := bblk hb1 (g := w.heap.size + 1) (by (try simp) <;> omega)
    have l1_1 : w.heap.size + 1 < w1.heap.size := by omega
    obtain ⟨c1_2, f1_2⟩ := bblk hb1 (g := w.heap.size + 1 + 1) (by (try simp) <;> omega)
    have l1_2 : w.heap.size + 1 + 1 < w1.heap.size := by omega
    obtain ⟨c1_3, f1_3⟩ := bblk hb1 (g := w.heap.size + 1 + 1 + 1) (by (try simp) <;> omega)
    have l1_3 : w.heap.size + 1 + 1 + 1 < w1.heap.size := by omega
    go_wp2_with fail
    refine (IsBatch_any _ _ _ _).mono ?_; rintro e w2 ⟨rfl, hb2⟩
    have z2 := hb2.size
    try simp at z2
    obtain ⟨c2_0, f2_0⟩ := bblk hb2 (g := w.heap.size) (by (try simp) <;> omega)
    have l2_0 : w.heap.size < w2.heap.size := by omega
    obtain ⟨c2_1, f2_1⟩ := bblk hb2 (g := w.heap.size + 1) (by (try simp) <;> omega)
    have l2_1 : w.heap.size + 1 < w2.heap.size := by omega
    obtain ⟨c2_2, f2_2⟩ := bblk hb2 (g := w.heap.size + 1 + 1) (by (try simp) <;> omega)
    have l2_2 : w.heap.size + 1 + 1 < w2.heap.size := by omega
    obtain ⟨c2_3, f2_3⟩ := bblk hb2 (g := w.heap.size + 1 + 1 + 1) (by (try simp) <;> omega)
    have l2_3 : w.heap.size + 1 + 1 + 1 < w2.heap.size := by omega
    go_wp2
    refine bodyPost_ret (v := noneS) (by simp [results, Try.results18, go_sem, *] <;> rfl) rfl ?_
    exact ⟨by rw [Hv.out], by (repeat (first | exact Below.refl _ _ | refine Below.drew ?_ | refine below_drewN ?_ _ | (refine Below.alloc ?_ (by (try simp) <;> omega) _) | (refine Below.setCell ?_ (by (try simp) <;> omega) _) | (refine Below.trans ?_ (Below.mono (by assumption) (by (try simp) <;> omega)))))⟩
  cases h3 : isBatch (wrap64 (a + x)) (wrap64 (b + y)) (wrap64 (c + z))
  · have Hv := Lib.hid (show joinR a b c x y z = noneS by simp [joinR, h3])
    go_enter Try.func18, Try.ntmps18
    go_wp2_with fail
    refine (IsBatch_any _ _ _ _).mono ?_; rintro e w1 ⟨rfl, hb1⟩
    have z1 := hb1.size
    try simp at z1
    obtain ⟨c1_0, f1_0⟩ := bblk hb1 (g := w.heap.size) (by (try simp) <;> omega)
    have l1_0 : w.heap.size < w1.heap.size := by omega
    obtain ⟨c1_1, f1_1⟩ := bblk hb1 (g := w.heap.size + 1) (by (try simp) <;> omega)
    have l1_1 : w.heap.size + 1 < w1.heap.size := by omega
    obtain ⟨c1_2, f1_2⟩ := bblk hb1 (g := w.heap.size + 1 + 1) (by (try simp) <;> omega)
    have l1_2 : w.heap.size + 1 + 1 < w1.heap.size := by omega
    obtain ⟨c1_3, f1_3⟩ := bblk hb1 (g := w.heap.size + 1 + 1 + 1) (by (try simp) <;> omega)
    have l1_3 : w.heap.size + 1 + 1 + 1 < w1.heap.size := by omega
    go_wp2_with fail
    refine (IsBatch_any _ _ _ _).mono ?_; rintro e w2 ⟨rfl, hb2⟩
    have z2 := hb2.size
    try simp at z2
    obtain ⟨c2_0, f2_0⟩ := bblk hb2 (g := w.heap.size) (by (try simp) <;> omega)
    have l2_0 : w.heap.size < w2.heap.size := by omega
    obtain ⟨c2_1, f2_1⟩ := bblk hb2 (g := w.heap.size + 1) (by (try simp) <;> omega)
    have l2_1 : w.heap.size + 1 < w2.heap.size := by omega
    obtain ⟨c2_2, f2_2⟩ := bblk hb2 (g := w.heap.size + 1 + 1) (by (try simp) <;> omega)
    have l2_2 : w.heap.size + 1 + 1 < w2.heap.size := by omega
    obtain ⟨c2_3, f2_3⟩ := bblk hb2 (g := w.heap.size + 1 + 1 + 1) (by (try simp) <;> omega)
    have l2_3 : w.heap.size + 1 + 1 + 1 < w2.heap.size := by omega
    go_wp2_with fail
    refine (IsBatch_any _ _ _ _).mono ?_; rintro e w3 ⟨rfl, hb3⟩
    have z3 := hb3.size
    try simp at z3
    obtain ⟨c3_0, f3_0⟩ := bblk hb3 (g := w.heap.size) (by (try simp) <;> omega)
    have l3_0 : w.heap.size < w3.heap.size := by omega
    obtain ⟨c3_1, f3_1⟩ := bblk hb3 (g := w.heap.size + 1) (by (try simp) <;> omega)
    have l3_1 : w.heap.size + 1 < w3.heap.size := by omega
    obtain ⟨c3_2, f3_2⟩ := bblk hb3 (g := w.heap.size + 1 + 1) (by (try simp) <;> omega)
    have l3_2 : w.heap.size + 1 + 1 < w3.heap.size := by omega
    obtain ⟨c3_3, f3_3⟩ := bblk hb3 (g := w.heap.size + 1 + 1 + 1) (by (try simp) <;> omega)
    have l3_3 : w.heap.size + 1 + 1 + 1 < w3.heap.size := by omega
    go_wp2
    refine bodyPost_ret (v := noneS) (by simp [results, Try.results18, go_sem, *] <;> rfl) rfl ?_
    exact ⟨by rw [Hv.out], by (repeat (first | exact Below.refl _ _ | refine Below.drew ?_ | refine below_drewN ?_ _ | (refine Below.alloc ?_ (by (try simp) <;> omega) _) | (refine Below.setCell ?_ (by (try simp) <;> omega) _) | (refine Below.trans ?_ (Below.mono (by assumption) (by (try simp) <;> omega)))))⟩
  have Hv := Lib.hid (show joinR a b c x y z = .tuple #[.agg #[.int .i64 (wrap64 (a + x)), .int .i64 (wrap64 (b + y)), .int .i64 (wrap64 (c + z))], .bool true] by simp [joinR, h1, h2, h3])
  go_enter Try.func18, Try.ntmps18
  go_wp2_with fail
  refine (IsBatch_any _ _ _ _).mono ?_; rintro e w1 ⟨rfl, hb1⟩
  have z1 := hb1.size
  try simp at z1
  obtain ⟨c1_0, f1_0⟩ := bblk hb1 (g := w.heap.size) (by (try simp) <;> omega)
  have l1_0 : w.heap.size < w1.heap.size := by omega
  obtain ⟨c1_1, f1_1⟩ := bblk hb1 (g := w.heap.size + 1) (by (try simp) <;> omega)
  have l1_1 : w.heap.size + 1 < w1.heap.size := by omega
  obtain ⟨c1_2, f1_2⟩ := bblk hb1 (g := w.heap.size + 1 + 1) (by (try simp) <;> omega)
  have l1_2 : w.heap.size + 1 + 1 < w1.heap.size := by omega
  obtain ⟨c1_3, f1_3⟩ := bblk hb1 (g := w.heap.size + 1 + 1 + 1) (by (try simp) <;> omega)
  have l1_3 : w.heap.size + 1 + 1 + 1 < w1.heap.size := by omega
  go_wp2_with fail
  refine (IsBatch_any _ _ _ _).mono ?_; rintro e w2 ⟨rfl, hb2⟩
  have z2 := hb2.size
  try simp at z2
  obtain ⟨c2_0, f2_0⟩ := bblk hb2 (g := w.heap.size) (by (try simp) <;> omega)
  have l2_0 : w.heap.size < w2.heap.size := by omega
  obtain ⟨c2_1, f2_1⟩ := bblk hb2 (g := w.heap.size + 1) (by (try simp) <;> omega)
  have l2_1 : w.heap.size + 1 < w2.heap.size := by omega
  obtain ⟨c2_2, f2_2⟩ := bblk hb2 (g := w.heap.size + 1 + 1) (by (try simp) <;> omega)
  have l2_2 : w.heap.size + 1 + 1 < w2.heap.size := by omega
  obtain ⟨c2_3, f2_3⟩ := bblk hb2 (g := w.heap.size + 1 + 1 + 1) (by (try simp) <;> omega)
  have l2_3 : w.heap.size + 1 + 1 + 1 < w2.heap.size := by omega
  go_wp2_with fail
  refine (IsBatch_any _ _ _ _).mono ?_; rintro e w3 ⟨rfl, hb3⟩
  have z3 := hb3.size
  try simp at z3
  obtain ⟨c3_0, f3_0⟩ := bblk hb3 (g := w.heap.size) (by (try simp) <;> omega)
  have l3_0 : w.heap.size < w3.heap.size := by omega
  obtain ⟨c3_1, f3_1⟩ := bblk hb3 (g := w.heap.size + 1) (by (try simp) <;> omega)
  have l3_1 : w.heap.size + 1 < w3.heap.size := by omega
  obtain ⟨c3_2, f3_2⟩ := bblk hb3 (g := w.heap.size + 1 + 1) (by (try simp) <;> omega)
  have l3_2 : w.heap.size + 1 + 1 < w3.heap.size := by omega
  obtain ⟨c3_3, f3_3⟩ := bblk hb3 (g := w.heap.size + 1 + 1 + 1) (by (try simp) <;> omega)
  have l3_3 : w.heap.size + 1 + 1 + 1 < w3.heap.size := by omega
  go_wp2
  refine bodyPost_ret (v := .tuple #[.agg #[.int .i64 (wrap64 (a + x)), .int .i64 (wrap64 (b + y)), .int .i64 (wrap64 (c + z))], .bool true]) (by simp [results, Try.results18, go_sem, *] <;> rfl) rfl ?_
  exact ⟨by rw [Hv.out], by (repeat (first | exact Below.refl _ _ | refine Below.drew ?_ | refine below_drewN ?_ _ | (refine Below.alloc ?_ (by (try simp) <;> omega) _) | (refine Below.setCell ?_ (by (try simp) <;> omega) _) | (refine Below.trans ?_ (Below.mono (by assumption) (by (try simp) <;> omega)))))⟩

set_option maxHeartbeats 1000000 in
theorem SJoinBatches_any (a b c x y z : Int) (w : World) :
    Calls Try.prog 17 #[.agg #[.int .i64 a, .int .i64 b, .int .i64 c], .agg #[.int .i64 x, .int .i64 y, .int .i64 z]] w fun e w' =>
      e = .returned (joinR a b c x y z) ∧ Below w.heap.size w w' := by
  cases h1 : isBatch a b c
  · have Hv := Lib.hid (show joinR a b c x y z = noneS by simp [joinR, h1])
    go_enter Try.func17, Try.ntmps17
    go_wp2_with fail
    refine (l12Good_any _ _ _ _).mono ?_; rintro e w1 ⟨rfl, hb1⟩
    have z1 := hb1.size
    try simp at z1
    obtain ⟨c1_0, f1_0⟩ := bblk hb1 (g := w.heap.size) (by (try simp) <;> omega)
    have l1_0 : w.heap.size < w1.heap.size := by omega
    obtain ⟨c1_1, f1_1⟩ := bblk hb1 (g := w.heap.size + 1) (by (try simp) <;> omega)
    have l1_1 : w.heap.size + 1 < w1.heap.size := by omega
    obtain ⟨c1_2, f1_2⟩ := bblk hb1 (g := w.heap.size + 1 + 1) (by (try simp) <;> omega)
    have l1_2 : w.heap.size + 1 + 1 < w1.heap.size := by omega
    obtain ⟨c1_3, f1_3⟩ := bblk hb1 (g := w.heap.size + 1 + 1 + 1) (by (try simp) <;> omega)
    have l1_3 : w.heap.size + 1 + 1 + 1 < w1.heap.size := by omega
    go_wp2
    refine bodyPost_ret (v := noneS) (by simp [results, Try.results17, go_sem, *] <;> rfl) rfl ?_
    exact ⟨by rw [Hv.out], by (repeat (first | exact Below.refl _ _ | refine Below.drew ?_ | refine below_drewN ?_ _ | (refine Below.alloc ?_ (by (try simp) <;> omega) _) | (refine Below.setCell ?_ (by (try simp) <;> omega) _) | (refine Below.trans ?_ (Below.mono (by assumption) (by (try simp) <;> omega)))))⟩
  cases h2 : isBatch x y z
  · have Hv := Lib.hid (show joinR a b c x y z = noneS by simp [joinR, h2])
    go_enter Try.func17, Try.ntmps17
    go_wp2_with fail
    refine (l12Good_any _ _ _ _).mono ?_; rintro e w1 ⟨rfl, hb1⟩
    have z1 := hb1.size
    try simp at z1
    obtain ⟨c1_0, f1_0⟩ := bblk hb1 (g := w.heap.size) (by (try simp) <;> omega)
    have l1_0 : w.heap.size < w1.heap.size := by omega
    obtain ⟨c1_1, f1_1⟩ := bblk hb1 (g := w.heap.size + 1) (by (try simp) <;> omega)
    have l1_1 : w.heap.size + 1 < w1.heap.size := by omega
    obtain ⟨c1_2, f1_2⟩ := bblk hb1 (g := w.heap.size + 1 + 1) (by (try simp) <;> omega)
    have l1_2 : w.heap.size + 1 + 1 < w1.heap.size := by omega
    obtain ⟨c1_3, f1_3⟩ := bblk hb1 (g := w.heap.size + 1 + 1 + 1) (by (try simp) <;> omega)
    have l1_3 : w.heap.size + 1 + 1 + 1 < w1.heap.size := by omega
    go_wp2_with fail
    refine (l12Good_any _ _ _ _).mono ?_; rintro e w2 ⟨rfl, hb2⟩
    have z2 := hb2.size
    try simp at z2
    obtain ⟨c2_0, f2_0⟩ := bblk hb2 (g := w.heap.size) (by (try simp) <;> omega)
    have l2_0 : w.heap.size < w2.heap.size := by omega
    obtain ⟨c2_1, f2_1⟩ := bblk hb2 (g := w.heap.size + 1) (by (try simp) <;> omega)
    have l2_1 : w.heap.size + 1 < w2.heap.size := by omega
    obtain ⟨c2_2, f2_2⟩ := bblk hb2 (g := w.heap.size + 1 + 1) (by (try simp) <;> omega)
    have l2_2 : w.heap.size + 1 + 1 < w2.heap.size := by omega
    obtain ⟨c2_3, f2_3⟩ := bblk hb2 (g := w.heap.size + 1 + 1 + 1) (by (try simp) <;> omega)
    have l2_3 : w.heap.size + 1 + 1 + 1 < w2.heap.size := by omega
    go_wp2
    refine bodyPost_ret (v := noneS) (by simp [results, Try.results17, go_sem, *] <;> rfl) rfl ?_
    exact ⟨by rw [Hv.out], by (repeat (first | exact Below.refl _ _ | refine Below.drew ?_ | refine below_drewN ?_ _ | (refine Below.alloc ?_ (by (try simp) <;> omega) _) | (refine Below.setCell ?_ (by (try simp) <;> omega) _) | (refine Below.trans ?_ (Below.mono (by assumption) (by (try simp) <;> omega)))))⟩
  cases h3 : isBatch (wrap64 (a + x)) (wrap64 (b + y)) (wrap64 (c + z))
  · have Hv := Lib.hid (show joinR a b c x y z = noneS by simp [joinR, h3])
    go_enter Try.func17, Try.ntmps17
    go_wp2_with fail
    refine (l12Good_any _ _ _ _).mono ?_; rintro e w1 ⟨rfl, hb1⟩
    have z1 := hb1.size
    try simp at z1
    obtain ⟨c1_0, f1_0⟩ := bblk hb1 (g := w.heap.size) (by (try simp) <;> omega)
    have l1_0 : w.heap.size < w1.heap.size := by omega
    obtain ⟨c1_1, f1_1⟩ := bblk hb1 (g := w.heap.size + 1) (by (try simp) <;> omega)
    have l1_1 : w.heap.size + 1 < w1.heap.size := by omega
    obtain ⟨c1_2, f1_2⟩ := bblk hb1 (g := w.heap.size + 1 + 1) (by (try simp) <;> omega)
    have l1_2 : w.heap.size + 1 + 1 < w1.heap.size := by omega
    obtain ⟨c1_3, f1_3⟩ := bblk hb1 (g := w.heap.size + 1 + 1 + 1) (by (try simp) <;> omega)
    have l1_3 : w.heap.size + 1 + 1 + 1 < w1.heap.size := by omega
    go_wp2_with fail
    refine (l12Good_any _ _ _ _).mono ?_; rintro e w2 ⟨rfl, hb2⟩
    have z2 := hb2.size
    try simp at z2
    obtain ⟨c2_0, f2_0⟩ := bblk hb2 (g := w.heap.size) (by (try simp) <;> omega)
    have l2_0 : w.heap.size < w2.heap.size := by omega
    obtain ⟨c2_1, f2_1⟩ := bblk hb2 (g := w.heap.size + 1) (by (try simp) <;> omega)
    have l2_1 : w.heap.size + 1 < w2.heap.size := by omega
    obtain ⟨c2_2, f2_2⟩ := bblk hb2 (g := w.heap.size + 1 + 1) (by (try simp) <;> omega)
    have l2_2 : w.heap.size + 1 + 1 < w2.heap.size := by omega
    obtain ⟨c2_3, f2_3⟩ := bblk hb2 (g := w.heap.size + 1 + 1 + 1) (by (try simp) <;> omega)
    have l2_3 : w.heap.size + 1 + 1 + 1 < w2.heap.size := by omega
    go_wp2_with fail
    refine (l12Good_any _ _ _ _).mono ?_; rintro e w3 ⟨rfl, hb3⟩
    have z3 := hb3.size
    try simp at z3
    obtain ⟨c3_0, f3_0⟩ := bblk hb3 (g := w.heap.size) (by (try simp) <;> omega)
    have l3_0 : w.heap.size < w3.heap.size := by omega
    obtain ⟨c3_1, f3_1⟩ := bblk hb3 (g := w.heap.size + 1) (by (try simp) <;> omega)
    have l3_1 : w.heap.size + 1 < w3.heap.size := by omega
    obtain ⟨c3_2, f3_2⟩ := bblk hb3 (g := w.heap.size + 1 + 1) (by (try simp) <;> omega)
    have l3_2 : w.heap.size + 1 + 1 < w3.heap.size := by omega
    obtain ⟨c3_3, f3_3⟩ := bblk hb3 (g := w.heap.size + 1 + 1 + 1) (by (try simp) <;> omega)
    have l3_3 : w.heap.size + 1 + 1 + 1 < w3.heap.size := by omega
    go_wp2
    refine bodyPost_ret (v := noneS) (by simp [results, Try.results17, go_sem, *] <;> rfl) rfl ?_
    exact ⟨by rw [Hv.out], by (repeat (first | exact Below.refl _ _ | refine Below.drew ?_ | refine below_drewN ?_ _ | (refine Below.alloc ?_ (by (try simp) <;> omega) _) | (refine Below.setCell ?_ (by (try simp) <;> omega) _) | (refine Below.trans ?_ (Below.mono (by assumption) (by (try simp) <;> omega)))))⟩
  have Hv := Lib.hid (show joinR a b c x y z = .tuple #[.agg #[.int .i64 (wrap64 (a + x)), .int .i64 (wrap64 (b + y)), .int .i64 (wrap64 (c + z))], .bool true] by simp [joinR, h1, h2, h3])
  go_enter Try.func17, Try.ntmps17
  go_wp2_with fail
  refine (l12Good_any _ _ _ _).mono ?_; rintro e w1 ⟨rfl, hb1⟩
  have z1 := hb1.size
  try simp at z1
  obtain ⟨c1_0, f1_0⟩ := bblk hb1 (g := w.heap.size) (by (try simp) <;> omega)
  have l1_0 : w.heap.size < w1.heap.size := by omega
  obtain ⟨c1_1, f1_1⟩ := bblk hb1 (g := w.heap.size + 1) (by (try simp) <;> omega)
  have l1_1 : w.heap.size + 1 < w1.heap.size := by omega
  obtain ⟨c1_2, f1_2⟩ := bblk hb1 (g := w.heap.size + 1 + 1) (by (try simp) <;> omega)
  have l1_2 : w.heap.size + 1 + 1 < w1.heap.size := by omega
  obtain ⟨c1_3, f1_3⟩ := bblk hb1 (g := w.heap.size + 1 + 1 + 1) (by (try simp) <;> omega)
  have l1_3 : w.heap.size + 1 + 1 + 1 < w1.heap.size := by omega
  go_wp2_with fail
  refine (l12Good_any _ _ _ _).mono ?_; rintro e w2 ⟨rfl, hb2⟩
  have z2 := hb2.size
  try simp at z2
  obtain ⟨c2_0, f2_0⟩ := bblk hb2 (g := w.heap.size) (by (try simp) <;> omega)
  have l2_0 : w.heap.size < w2.heap.size := by omega
  obtain ⟨c2_1, f2_1⟩ := bblk hb2 (g := w.heap.size + 1) (by (try simp) <;> omega)
  have l2_1 : w.heap.size + 1 < w2.heap.size := by omega
  obtain ⟨c2_2, f2_2⟩ := bblk hb2 (g := w.heap.size + 1 + 1) (by (try simp) <;> omega)
  have l2_2 : w.heap.size + 1 + 1 < w2.heap.size := by omega
  obtain ⟨c2_3, f2_3⟩ := bblk hb2 (g := w.heap.size + 1 + 1 + 1) (by (try simp) <;> omega)
  have l2_3 : w.heap.size + 1 + 1 + 1 < w2.heap.size := by omega
  go_wp2_with fail
  refine (l12Good_any _ _ _ _).mono ?_; rintro e w3 ⟨rfl, hb3⟩
  have z3 := hb3.size
  try simp at z3
  obtain ⟨c3_0, f3_0⟩ := bblk hb3 (g := w.heap.size) (by (try simp) <;> omega)
  have l3_0 : w.heap.size < w3.heap.size := by omega
  obtain ⟨c3_1, f3_1⟩ := bblk hb3 (g := w.heap.size + 1) (by (try simp) <;> omega)
  have l3_1 : w.heap.size + 1 < w3.heap.size := by omega
  obtain ⟨c3_2, f3_2⟩ := bblk hb3 (g := w.heap.size + 1 + 1) (by (try simp) <;> omega)
  have l3_2 : w.heap.size + 1 + 1 < w3.heap.size := by omega
  obtain ⟨c3_3, f3_3⟩ := bblk hb3 (g := w.heap.size + 1 + 1 + 1) (by (try simp) <;> omega)
  have l3_3 : w.heap.size + 1 + 1 + 1 < w3.heap.size := by omega
  go_wp2
  refine bodyPost_ret (v := .tuple #[.agg #[.int .i64 (wrap64 (a + x)), .int .i64 (wrap64 (b + y)), .int .i64 (wrap64 (c + z))], .bool true]) (by simp [results, Try.results17, go_sem, *] <;> rfl) rfl ?_
  exact ⟨by rw [Hv.out], by (repeat (first | exact Below.refl _ _ | refine Below.drew ?_ | refine below_drewN ?_ _ | (refine Below.alloc ?_ (by (try simp) <;> omega) _) | (refine Below.setCell ?_ (by (try simp) <;> omega) _) | (refine Below.trans ?_ (Below.mono (by assumption) (by (try simp) <;> omega)))))⟩

set_option maxHeartbeats 1000000 in
theorem walk_AfterStages (a b c : Int) (_h : InI a ∧ InI b ∧ InI c) (p : Int) (_hp : InI p) (q : Int) (_hq : InI q) (w : World) :
    Calls Try.prog 9 #[.agg #[.int .i64 a, .int .i64 b, .int .i64 c], .int .i64 p, .int .i64 q] w fun e w' => e = .returned (.bool true) ∧ Below w.heap.size w w' := by
  obtain ⟨x, y, z, u, hj⟩ := stagesV_form a b c p q
  have Hj := Lib.hid hj; clear hj
  have E1 := Lib.hid (eq3_refl x y z)
  have e3 := neB u
  clear _h _hp _hq
  go_enter Try.func9, Try.ntmps9
  go_wp2_with fail
  refine (toBatch_any _ _ _ _).mono ?_; rintro e w1 ⟨rfl, hb1⟩
  have z1 := hb1.size
  try simp at z1
  obtain ⟨c1_0, f1_0⟩ := bblk hb1 (g := w.heap.size) (by (try simp) <;> omega)
  have l1_0 : w.heap.size < w1.heap.size := by omega
  go_wp2_with fail
  refine (SAfterStages_any _ _ _ _ _ _).mono ?_; rintro e w2 ⟨he, hb2⟩; rw [Hj.out] at he; subst he
  have z2 := hb2.size
  try simp at z2
  obtain ⟨c2_0, f2_0⟩ := bblk hb2 (g := w.heap.size) (by (try simp) <;> omega)
  have l2_0 : w.heap.size < w2.heap.size := by omega
  go_wp2_with fail
  refine (toBatch_any _ _ _ _).mono ?_; rintro e w3 ⟨rfl, hb3⟩
  have z3 := hb3.size
  try simp at z3
  obtain ⟨c3_0, f3_0⟩ := bblk hb3 (g := w.heap.size) (by (try simp) <;> omega)
  have l3_0 : w.heap.size < w3.heap.size := by omega
  obtain ⟨c3_1, f3_1⟩ := bblk hb3 (g := w2.heap.size) (by (try simp) <;> omega)
  have l3_1 : w2.heap.size < w3.heap.size := by omega
  go_wp2_with fail
  refine (AfterStages_any _ _ _ _ _ _).mono ?_; rintro e w4 ⟨he, hb4⟩; rw [Hj.out] at he; subst he
  have z4 := hb4.size
  try simp at z4
  obtain ⟨c4_0, f4_0⟩ := bblk hb4 (g := w.heap.size) (by (try simp) <;> omega)
  have l4_0 : w.heap.size < w4.heap.size := by omega
  obtain ⟨c4_1, f4_1⟩ := bblk hb4 (g := w2.heap.size) (by (try simp) <;> omega)
  have l4_1 : w2.heap.size < w4.heap.size := by omega
  go_wp2_with fail
  refine (eqBatch_any _ _ _ _ _ _ _).mono ?_; rintro e w5 ⟨he, hb5⟩; rw [E1.out] at he; subst he
  have z5 := hb5.size
  try simp at z5
  obtain ⟨c5_0, f5_0⟩ := bblk hb5 (g := w.heap.size) (by (try simp) <;> omega)
  have l5_0 : w.heap.size < w5.heap.size := by omega
  go_wp2
  go_ret
  exact ⟨rfl, by (repeat (first | exact Below.refl _ _ | refine Below.drew ?_ | refine below_drewN ?_ _ | (refine Below.alloc ?_ (by (try simp) <;> omega) _) | (refine Below.setCell ?_ (by (try simp) <;> omega) _) | (refine Below.trans ?_ (Below.mono (by assumption) (by (try simp) <;> omega)))))⟩

set_option maxHeartbeats 1000000 in
theorem walk_StagesNeeded (a b c : Int) (_h : InI a ∧ InI b ∧ InI c) (p : Int) (_hp : InI p) (q : Int) (_hq : InI q) (w : World) :
    Calls Try.prog 10 #[.agg #[.int .i64 a, .int .i64 b, .int .i64 c], .int .i64 p, .int .i64 q] w fun e w' => e = .returned (.bool true) ∧ Below w.heap.size w w' := by
  obtain ⟨n, u, hj⟩ := snV_form a b c p q
  have Hj := Lib.hid hj; clear hj
  have e1 := neI n
  have e3 := neB u
  have hp : q ≤ 9223372036854775807 := _hq.2
  clear _h _hp _hq
  go_enter Try.func10, Try.ntmps10
  go_wp2_with fail
  refine (toBatch_any _ _ _ _).mono ?_; rintro e w1 ⟨rfl, hb1⟩
  have z1 := hb1.size
  try simp at z1
  obtain ⟨c1_0, f1_0⟩ := bblk hb1 (g := w.heap.size) (by (try simp) <;> omega)
  have l1_0 : w.heap.size < w1.heap.size := by omega
  go_wp2_with fail
  refine (SStagesNeeded_any _ _ _ _ _ _).mono ?_; rintro e w2 ⟨he, hb2⟩; rw [Hj.out] at he; subst he
  have z2 := hb2.size
  try simp at z2
  obtain ⟨c2_0, f2_0⟩ := bblk hb2 (g := w.heap.size) (by (try simp) <;> omega)
  have l2_0 : w.heap.size < w2.heap.size := by omega
  go_wp2_with fail
  refine (toBatch_any _ _ _ _).mono ?_; rintro e w3 ⟨rfl, hb3⟩
  have z3 := hb3.size
  try simp at z3
  go_wp2_with fail
  refine (StagesNeeded_any _ _ _ _ _ _).mono ?_; rintro e w4 ⟨he, hb4⟩; rw [Hj.out] at he; subst he
  have z4 := hb4.size
  try simp at z4
  go_wp2
  go_ret
  exact ⟨rfl, by (repeat (first | exact Below.refl _ _ | refine Below.drew ?_ | refine below_drewN ?_ _ | (refine Below.alloc ?_ (by (try simp) <;> omega) _) | (refine Below.setCell ?_ (by (try simp) <;> omega) _) | (refine Below.trans ?_ (Below.mono (by assumption) (by (try simp) <;> omega)))))⟩

set_option maxHeartbeats 1000000 in
theorem walk_WaterNeeded (a b c : Int) (_h : InI a ∧ InI b ∧ InI c) (q : Int) (_hq : InI q) (w : World) :
    Calls Try.prog 6 #[.agg #[.int .i64 a, .int .i64 b, .int .i64 c], .int .i64 q] w fun e w' => e = .returned (.bool true) ∧ Below w.heap.size w w' := by
  obtain ⟨n, u, hj⟩ := wnV_form a b c q
  have Hj := Lib.hid hj; clear hj
  have e1 := neI n
  have e3 := neB u
  have hp : q ≤ 9223372036854775807 := _hq.2
  clear _h _hq
  go_enter Try.func6, Try.ntmps6
  go_wp2_with fail
  refine (toBatch_any _ _ _ _).mono ?_; rintro e w1 ⟨rfl, hb1⟩
  have z1 := hb1.size
  try simp at z1
  obtain ⟨c1_0, f1_0⟩ := bblk hb1 (g := w.heap.size) (by (try simp) <;> omega)
  have l1_0 : w.heap.size < w1.heap.size := by omega
  go_wp2_with fail
  refine (SWaterNeeded_any _ _ _ _ _).mono ?_; rintro e w2 ⟨he, hb2⟩; rw [Hj.out] at he; subst he
  have z2 := hb2.size
  try simp at z2
  obtain ⟨c2_0, f2_0⟩ := bblk hb2 (g := w.heap.size) (by (try simp) <;> omega)
  have l2_0 : w.heap.size < w2.heap.size := by omega
  go_wp2_with fail
  refine (toBatch_any _ _ _ _).mono ?_; rintro e w3 ⟨rfl, hb3⟩
  have z3 := hb3.size
  try simp at z3
  go_wp2_with fail
  refine (WaterNeeded_any _ _ _ _ hp _).mono ?_; rintro e w4 ⟨he, hb4⟩; rw [Hj.out] at he; subst he
  have z4 := hb4.size
  try simp at z4
  go_wp2
  go_ret
  exact ⟨rfl, by (repeat (first | exact Below.refl _ _ | refine Below.drew ?_ | refine below_drewN ?_ _ | (refine Below.alloc ?_ (by (try simp) <;> omega) _) | (refine Below.setCell ?_ (by (try simp) <;> omega) _) | (refine Below.trans ?_ (Below.mono (by assumption) (by (try simp) <;> omega)))))⟩

set_option maxHeartbeats 400000 in
theorem walk_JoinBatches (a b c : Int) (_h : InI a ∧ InI b ∧ InI c) (x y z : Int) (_h2 : InI x ∧ InI y ∧ InI z) (w : World) :
    Calls Try.prog 4 #[.agg #[.int .i64 a, .int .i64 b, .int .i64 c], .agg #[.int .i64 x, .int .i64 y, .int .i64 z]] w fun e w' => e = .returned (.bool true) ∧ Below w.heap.size w w' := by
  clear _h _h2
  obtain ⟨p, q, r, u, hj⟩ := joinR_form a b c x y z
  have Hj := Lib.hid hj; clear hj
  have hb0 : Below w.heap.size w ((w.alloc (.cells #[.int .i64 a, .int .i64 b, .int .i64 c] 23)).alloc (.cells #[.int .i64 x, .int .i64 y, .int .i64 z] 23)) := by (repeat (first | exact Below.refl _ _ | refine Below.drew ?_ | refine below_drewN ?_ _ | (refine Below.alloc ?_ (by (try simp) <;> omega) _) | (refine Below.setCell ?_ (by (try simp) <;> omega) _) | (refine Below.trans ?_ (Below.mono (by assumption) (by (try simp) <;> omega)))))
  have k1 := (Blk.new w 23 #[.int .i64 a, .int .i64 b, .int .i64 c]).alloc (.cells #[.int .i64 x, .int .i64 y, .int .i64 z] 23)
  have k2 := Blk.new1 w 23 #[.int .i64 x, .int .i64 y, .int .i64 z] (.cells #[.int .i64 a, .int .i64 b, .int .i64 c] 23)
  go_enter Try.func4, Try.ntmps4
  go_wp2_with fail
  generalize (w.alloc (.cells #[.int .i64 a, .int .i64 b, .int .i64 c] 23)).alloc (.cells #[.int .i64 x, .int .i64 y, .int .i64 z] 23) = W at *
  generalize w.heap.size + 1 = g2 at *
  generalize hg1 : w.heap.size = g1 at *
  refine wp_region_grow [.val (.agg #[.int .i64 a, .int .i64 b, .int .i64 c]), .val (.agg #[.int .i64 a, .int .i64 b, .int .i64 c]), .val (.agg #[.int .i64 x, .int .i64 y, .int .i64 z]), .val (.agg #[.int .i64 x, .int .i64 y, .int .i64 z]), .val (.tuple #[.agg #[.int .i64 p, .int .i64 q, .int .i64 r], .bool u]), .fix (.tuple #[.agg #[.int .i64 p, .int .i64 q, .int .i64 r], .bool u]), .fix (.agg #[.int .i64 p, .int .i64 q, .int .i64 r]), .fix (.bool u), .pred (fun v w' => ∃ g, v = .pointer (some ⟨g, 0, none⟩) ∧ W.heap.size ≤ g ∧ Blk w' g 25 #[.int .i64 0, .int .i64 0, .int .i64 0])] mixed (by kernel_rfl) ?_
  refine SeqG.valStep (fun wv hbv hpv => ?_) ?_
  · have q0 := (k1.below' hbv).cell; have q1 := (k2.below' hbv).cell
    go_wp2_with fail
    exact post_val (Below.refl _ _)
  simp only [Act.put, List.setIfInBounds_toArray, List.set_cons_zero, List.set_cons_succ]
  refine SeqG.valStep (fun wv hbv hpv => ?_) ?_
  · go_wp2_with fail
    refine (toBatch_any _ _ _ _).mono ?_; rintro e w' ⟨he, hb⟩; subst he
    go_wp2_with fail
    exact post_val hb
  simp only [Act.put, List.setIfInBounds_toArray, List.set_cons_zero, List.set_cons_succ]
  refine SeqG.valStep (fun wv hbv hpv => ?_) ?_
  · have q0 := (k1.below' hbv).cell; have q1 := (k2.below' hbv).cell
    go_wp2_with fail
    exact post_val (Below.refl _ _)
  simp only [Act.put, List.setIfInBounds_toArray, List.set_cons_zero, List.set_cons_succ]
  refine SeqG.valStep (fun wv hbv hpv => ?_) ?_
  · go_wp2_with fail
    refine (toBatch_any _ _ _ _).mono ?_; rintro e w' ⟨he, hb⟩; subst he
    go_wp2_with fail
    exact post_val hb
  simp only [Act.put, List.setIfInBounds_toArray, List.set_cons_zero, List.set_cons_succ]
  refine SeqG.valStep (fun wv hbv hpv => ?_) ?_
  · go_wp2_with fail
    refine (SJoinBatches_any _ _ _ _ _ _ _).mono ?_; rintro e w' ⟨he, hb⟩; rw [Hj.out] at he; subst he
    go_wp2_with fail
    exact post_val hb
  simp only [Act.put, List.setIfInBounds_toArray, List.set_cons_zero, List.set_cons_succ]
  refine SeqG.fixStep (.inl ⟨rfl, fun _ => rfl⟩) ?_
  simp only [Act.put, List.setIfInBounds_toArray, List.set_cons_zero, List.set_cons_succ]
  refine SeqG.fixStep (.inl ⟨rfl, fun _ => rfl⟩) ?_
  simp only [Act.put, List.setIfInBounds_toArray, List.set_cons_zero, List.set_cons_succ]
  refine SeqG.fixStep (.inl ⟨rfl, fun _ => rfl⟩) ?_
  simp only [Act.put, List.setIfInBounds_toArray, List.set_cons_zero, List.set_cons_succ]
  refine SeqG.predStep (fun v w1 w2 hb h => by obtain ⟨g, h1, h2, h3⟩ := h; exact ⟨g, h1, h2, h3.below' hb⟩) (fun wv hbv hpv => ?_) (fun v => ?_)
  · go_wp2_with fail
    exact post_pred _ (by (repeat (first | exact Below.refl _ _ | refine Below.drew ?_ | refine below_drewN ?_ _ | (refine Below.alloc ?_ (by (try simp) <;> omega) _) | (refine Below.setCell ?_ (by (try simp) <;> omega) _) | (refine Below.trans ?_ (Below.mono (by assumption) (by (try simp) <;> omega)))))) ⟨_, rfl, hbv.size, Blk.new _ _ _⟩
  simp only [Act.put, List.setIfInBounds_toArray, List.set_cons_zero, List.set_cons_succ]
  refine SeqG.done fun wv hbv hpv => ?_
  obtain ⟨g, rfl, hg, kg⟩ := hpv _ (.head _)
  have cg := kg.cell
  have fg := kg.frozen
  clear hpv
  go_wp2_with fail
  refine NoPan.normal ?_
  have hb1 : Below g1 w (((wv.setCell ⟨g, 0, none⟩ (.int .i64 p)).setCell ⟨g, 1, none⟩ (.int .i64 q)).setCell ⟨g, 2, none⟩ (.int .i64 r)) := by
    have := k1.lt
    (repeat (first | exact Below.refl _ _ | refine Below.drew ?_ | refine below_drewN ?_ _ | (refine Below.alloc ?_ (by (try simp) <;> omega) _) | (refine Below.setCell ?_ (by (try simp) <;> omega) _) | (refine Below.trans ?_ (Below.mono (by assumption) (by (try simp) <;> omega)))))
  have k3 := kg.set3 (.int .i64 p) (.int .i64 q) (.int .i64 r)
  have k1' := (k1.below' hbv).far3 (g' := g) (by have := k1.lt; omega) 0 1 2 (.int .i64 p) (.int .i64 q) (.int .i64 r)
  have k2' := (k2.below' hbv).far3 (g' := g) (by have := k2.lt; omega) 0 1 2 (.int .i64 p) (.int .i64 q) (.int .i64 r)
  clear k1 k2 cg fg kg hbv hb0 hg
  generalize ((wv.setCell ⟨g, 0, none⟩ (.int .i64 p)).setCell ⟨g, 1, none⟩ (.int .i64 q)).setCell ⟨g, 2, none⟩ (.int .i64 r) = W2 at *
  go_wp2_with fail
  refine wp_region_grow [.val (.agg #[.int .i64 a, .int .i64 b, .int .i64 c]), .val (.agg #[.int .i64 a, .int .i64 b, .int .i64 c]), .val (.agg #[.int .i64 x, .int .i64 y, .int .i64 z]), .val (.agg #[.int .i64 x, .int .i64 y, .int .i64 z]), .val (.tuple #[.agg #[.int .i64 p, .int .i64 q, .int .i64 r], .bool u]), .fix (.tuple #[.agg #[.int .i64 p, .int .i64 q, .int .i64 r], .bool u]), .fix (.agg #[.int .i64 p, .int .i64 q, .int .i64 r]), .fix (.bool u), .pred (fun v w' => ∃ g, v = .pointer (some ⟨g, 0, none⟩) ∧ W2.heap.size ≤ g ∧ Blk w' g 25 #[.int .i64 0, .int .i64 0, .int .i64 0])] mixed (by kernel_rfl) ?_
  refine SeqG.valStep (fun wv hbv hpv => ?_) ?_
  · have q0 := (k1'.below' hbv).cell; have q1 := (k2'.below' hbv).cell
    go_wp2_with fail
    exact post_val (Below.refl _ _)
  simp only [Act.put, List.setIfInBounds_toArray, List.set_cons_zero, List.set_cons_succ]
  refine SeqG.valStep (fun wv hbv hpv => ?_) ?_
  · go_wp2_with fail
    refine (toBatch_any _ _ _ _).mono ?_; rintro e w' ⟨he, hb⟩; subst he
    go_wp2_with fail
    exact post_val hb
  simp only [Act.put, List.setIfInBounds_toArray, List.set_cons_zero, List.set_cons_succ]
  refine SeqG.valStep (fun wv hbv hpv => ?_) ?_
  · have q0 := (k1'.below' hbv).cell; have q1 := (k2'.below' hbv).cell
    go_wp2_with fail
    exact post_val (Below.refl _ _)
  simp only [Act.put, List.setIfInBounds_toArray, List.set_cons_zero, List.set_cons_succ]
  refine SeqG.valStep (fun wv hbv hpv => ?_) ?_
  · go_wp2_with fail
    refine (toBatch_any _ _ _ _).mono ?_; rintro e w' ⟨he, hb⟩; subst he
    go_wp2_with fail
    exact post_val hb
  simp only [Act.put, List.setIfInBounds_toArray, List.set_cons_zero, List.set_cons_succ]
  refine SeqG.valStep (fun wv hbv hpv => ?_) ?_
  · go_wp2_with fail
    refine (JoinBatches_any _ _ _ _ _ _ _).mono ?_; rintro e w' ⟨he, hb⟩; rw [Hj.out] at he; subst he
    go_wp2_with fail
    exact post_val hb
  simp only [Act.put, List.setIfInBounds_toArray, List.set_cons_zero, List.set_cons_succ]
  refine SeqG.fixStep (.inl ⟨rfl, fun _ => rfl⟩) ?_
  simp only [Act.put, List.setIfInBounds_toArray, List.set_cons_zero, List.set_cons_succ]
  refine SeqG.fixStep (.inl ⟨rfl, fun _ => rfl⟩) ?_
  simp only [Act.put, List.setIfInBounds_toArray, List.set_cons_zero, List.set_cons_succ]
  refine SeqG.fixStep (.inl ⟨rfl, fun _ => rfl⟩) ?_
  simp only [Act.put, List.setIfInBounds_toArray, List.set_cons_zero, List.set_cons_succ]
  refine SeqG.predStep (fun v w1 w2 hb h => by obtain ⟨g, h1, h2, h3⟩ := h; exact ⟨g, h1, h2, h3.below' hb⟩) (fun wv hbv hpv => ?_) (fun v => ?_)
  · go_wp2_with fail
    exact post_pred _ (by (repeat (first | exact Below.refl _ _ | refine Below.drew ?_ | refine below_drewN ?_ _ | (refine Below.alloc ?_ (by (try simp) <;> omega) _) | (refine Below.setCell ?_ (by (try simp) <;> omega) _) | (refine Below.trans ?_ (Below.mono (by assumption) (by (try simp) <;> omega)))))) ⟨_, rfl, hbv.size, Blk.new _ _ _⟩
  simp only [Act.put, List.setIfInBounds_toArray, List.set_cons_zero, List.set_cons_succ]
  refine SeqG.done fun wv hbv hpv => ?_
  obtain ⟨h, rfl, hg, kg⟩ := hpv _ (.head _)
  have cg := kg.cell
  have fg := kg.frozen
  clear hpv
  go_wp2_with fail
  refine NoPan.normal ?_
  have hb2 : Below g1 w (((wv.setCell ⟨h, 0, none⟩ (.int .i64 p)).setCell ⟨h, 1, none⟩ (.int .i64 q)).setCell ⟨h, 2, none⟩ (.int .i64 r)) := by
    have := k1'.lt
    (repeat (first | exact Below.refl _ _ | refine Below.drew ?_ | refine below_drewN ?_ _ | (refine Below.alloc ?_ (by (try simp) <;> omega) _) | (refine Below.setCell ?_ (by (try simp) <;> omega) _) | (refine Below.trans ?_ (Below.mono (by assumption) (by (try simp) <;> omega)))))
  have k4 := kg.set3 (.int .i64 p) (.int .i64 q) (.int .i64 r)
  have k3' := (k3.below' hbv).far3 (g' := h) (by have := k3.lt; omega) 0 1 2 (.int .i64 p) (.int .i64 q) (.int .i64 r)
  clear k1' k2' k3 cg fg kg hbv hb1 hg
  generalize ((wv.setCell ⟨h, 0, none⟩ (.int .i64 p)).setCell ⟨h, 1, none⟩ (.int .i64 q)).setCell ⟨h, 2, none⟩ (.int .i64 r) = W3 at *
  have c3 := k3'.cell
  have c4 := k4.cell
  have E1 := Lib.hid (eq3_refl p q r)
  have e3 := neB u
  go_wp2_with fail
  refine (eqBatch_any _ _ _ _ _ _ _).mono ?_; rintro e w5 ⟨he, hb5⟩; rw [E1.out] at he; subst he
  have z5 := hb5.size
  try simp at z5
  go_wp2
  go_ret
  exact ⟨rfl, by have := hb2.size; (repeat (first | exact Below.refl _ _ | refine Below.drew ?_ | refine below_drewN ?_ _ | (refine Below.alloc ?_ (by (try simp) <;> omega) _) | (refine Below.setCell ?_ (by (try simp) <;> omega) _) | (refine Below.trans ?_ (Below.mono (by assumption) (by (try simp) <;> omega)))))⟩
end Go.Proofs.Ytpgoenhekmoedaa
