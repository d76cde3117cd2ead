/-
  SunOnRung: both programs.
-/
import Derived.Test.YthhjbdhglaombaaRoom1
namespace Go.Proofs.Ythhjbdhglaombaa
open Go.RowKit

set_option maxHeartbeats 4000000 in
theorem SunOnRung_any (A : Option Addr) (c : Nat) (L : List (Int × Int)) (i a s : Int) (w : World) (hr : SlR f2 2 w w.heap.size A L) (hm : (L.length : Int) ≤ 1048576) :
    Calls Try.prog 27 #[.slice A L.length c, .int .i64 i, briV a s] w fun e w' => e = .returned (sunV L i a s) ∧ Below w.heap.size w w' := by
  have hr' := hr.alloc (.cells #[.int .i64 a, .int .i64 s] 38 (0, 0))
  cases h : askB L i a s
  case false =>
    have Hv := Lib.hid (show sunV L i a s = .tuple #[.int .i64 0, .bool false] by simp [sunV, h])
    go_enter Try.func27, Try.ntmps27
    go_wp2_with fail
    refine (doesStand_any _ _ _ _ _ _ _ hr' hm).mono ?_; rintro e w1 ⟨rfl, hb1⟩
    have z1 := hb1.size
    try simp at z1
    obtain ⟨c1_0, f1_0⟩ := bblk hb1 (g := w.heap.size) (by (try simp) <;> omega)
    have l1_0 : w.heap.size < w1.heap.size := by omega
    rw [h]
    go_wp2
    go_ret2
    exact ⟨by rw [Hv.out]; rfl, by (repeat (first | exact Below.refl _ _ | refine Below.drew ?_ | refine below_drewN ?_ _ | (refine Below.alloc ?_ (by (try simp) <;> omega) _) | (refine Below.setCell ?_ (by (try simp) <;> omega) _) | (refine Below.trans ?_ (Below.mono (by assumption) (by (try simp) <;> omega)))))⟩
  have Hv := Lib.hid (show sunV L i a s = .tuple #[.int .i64 (sunN L i a s), .bool true] by simp [sunV, h])
  obtain ⟨k, x, rfl, hx, hkl, hl8, hg, ha, hs, hM, hst⟩ := askB_true h
  obtain ⟨b, off, rfl, hB, hcs⟩ := hr (SlR.ne hx)
  have hk0 : (0 : Int) ≤ (k : Int) := by omega
  have hk1 : (k : Int) < (L.length : Int) := by omega
  by_cases h7 : s = 0
  · subst h7
    have Hn := Lib.hid (show sunN L k a 0 = a by rw [sunN, Int.toNat_natCast, hx]; simp)
    go_enter Try.func27, Try.ntmps27
    go_wp2_with fail
    refine (doesStand_any _ _ _ _ _ _ _ hr' hm).mono ?_; rintro e w1 ⟨rfl, hb1⟩
    have z1 := hb1.size
    try simp at z1
    obtain ⟨c1_0, f1_0⟩ := bblk hb1 (g := w.heap.size) (by (try simp) <;> omega)
    have l1_0 : w.heap.size < w1.heap.size := by omega
    rw [h]
    have hC := hcs.below (((Below.refl w.heap.size w).alloc (Nat.le_refl _) (.cells #[.int .i64 a, .int .i64 0] 38 (0, 0))).trans (hb1.mono (by simp))) hB
    have hBr : b < w1.heap.size := by omega
    have hne : w.heap.size < w1.heap.size := by omega
    obtain ⟨c0, c1⟩ := cells2 hC hx
    have ka : w1.cell? ⟨w.heap.size, 0, none⟩ = some (.int .i64 a) := by rw [hb1.cell (by simp)]; simp
    have kb : w1.cell? ⟨w.heap.size, 1, none⟩ = some (.int .i64 0) := by rw [hb1.cell (by simp)]; simp
    clear hr hr' hcs hst h
    go_wp2
    go_ret2
    exact ⟨by rw [Hv.out, Hn.out]; rfl, by (repeat (first | exact Below.refl _ _ | refine Below.drew ?_ | refine below_drewN ?_ _ | (refine Below.alloc ?_ (by (try simp) <;> omega) _) | (refine Below.setCell ?_ (by (try simp) <;> omega) _) | (refine Below.trans ?_ (Below.mono (by assumption) (by (try simp) <;> omega)))))⟩
  · have h7' : (s == 0) = false := by simpa using h7
    have hy := staB_high hst (by omega) (by omega)
    have hq0 : 0 ≤ (1000 * s + x.2 - 1) / x.2 := Int.ediv_nonneg (by omega) (by omega)
    have hq1 : (1000 * s + x.2 - 1) / x.2 ≤ 1000 * s + x.2 - 1 := Int.ediv_le_self _ (by omega)
    obtain ⟨M, hM1⟩ : ∃ M, min a (a + s - (1000 * s + x.2 - 1) / x.2) = M := ⟨_, rfl⟩
    have Hmin := Lib.hid hM1
    have Hn := Lib.hid (show sunN L k a s = M by rw [sunN, Int.toNat_natCast, hx]; simp only [if_neg h7]; exact hM1)
    clear hM1
    go_enter Try.func27, Try.ntmps27
    go_wp2_with fail
    refine (doesStand_any _ _ _ _ _ _ _ hr' hm).mono ?_; rintro e w1 ⟨rfl, hb1⟩
    have z1 := hb1.size
    try simp at z1
    obtain ⟨c1_0, f1_0⟩ := bblk hb1 (g := w.heap.size) (by (try simp) <;> omega)
    have l1_0 : w.heap.size < w1.heap.size := by omega
    rw [h]
    have hC := hcs.below (((Below.refl w.heap.size w).alloc (Nat.le_refl _) (.cells #[.int .i64 a, .int .i64 s] 38 (0, 0))).trans (hb1.mono (by simp))) hB
    have hBr : b < w1.heap.size := by omega
    have hne : w.heap.size < w1.heap.size := by omega
    obtain ⟨c0, c1⟩ := cells2 hC hx
    have ka : w1.cell? ⟨w.heap.size, 0, none⟩ = some (.int .i64 a) := by rw [hb1.cell (by simp)]; simp
    have kb : w1.cell? ⟨w.heap.size, 1, none⟩ = some (.int .i64 s) := by rw [hb1.cell (by simp)]; simp
    clear hr hr' hcs hst h
    go_wp2
    refine wp_region_grow [.val (.pointer (some ⟨w.heap.size, 0, none⟩)), .val (.int .i64 a), .val (briV a s), .val (.int .i64 (a + s)), .val (.pointer (some ⟨w.heap.size, 1, none⟩)), .val (.int .i64 s), .val (.int .i64 (1000 * s)), .fix (.slice (some ⟨b, off, none⟩) L.length c), .fix (.int .i64 k), .val (.pointer (some ⟨b, off + k * 2, none⟩)), .val (.pointer (some ⟨b, off + k * 2 + 1, none⟩)), .val (.int .i64 x.2), .val (.int .i64 ((1000 * s + x.2 - 1) / x.2)), .val (.int .i64 (a + s - (1000 * s + x.2 - 1) / x.2)), .val (.int .i64 M), .val (.int .i64 M)] mixed (by kernel_rfl) ?_
    refine SeqG.valStep (fun wv hbv hpv => ?_) ?_
    · skip
      go_wp2_with fail
      exact post_val (Below.refl _ _)
    simp only [Act.put, List.setIfInBounds_toArray, List.set_cons_zero, List.set_cons_succ]
    refine SeqG.valStep (fun wv hbv hpv => ?_) ?_
    · obtain ⟨cc, ff⟩ := bblk hbv (g := w.heap.size) hne
      go_wp2_with fail
      exact post_val (Below.refl _ _)
    simp only [Act.put, List.setIfInBounds_toArray, List.set_cons_zero, List.set_cons_succ]
    refine SeqG.valStep (fun wv hbv hpv => ?_) ?_
    · obtain ⟨cc, ff⟩ := bblk hbv (g := w.heap.size) hne
      go_wp2_with fail
      exact post_val (Below.refl _ _)
    simp only [Act.put, List.setIfInBounds_toArray, List.set_cons_zero, List.set_cons_succ]
    refine SeqG.valStep (fun wv hbv hpv => ?_) ?_
    · go_wp2_with fail
      refine (mass_any _ _ _ ha hs).mono ?_; rintro e w' ⟨he, hb⟩; subst he
      go_wp2_with fail
      exact post_val hb
    simp only [Act.put, List.setIfInBounds_toArray, List.set_cons_zero, List.set_cons_succ]
    refine SeqG.valStep (fun wv hbv hpv => ?_) ?_
    · skip
      go_wp2_with fail
      exact post_val (Below.refl _ _)
    simp only [Act.put, List.setIfInBounds_toArray, List.set_cons_zero, List.set_cons_succ]
    refine SeqG.valStep (fun wv hbv hpv => ?_) ?_
    · obtain ⟨cc, ff⟩ := bblk hbv (g := w.heap.size) hne
      go_wp2_with fail
      exact post_val (Below.refl _ _)
    simp only [Act.put, List.setIfInBounds_toArray, List.set_cons_zero, List.set_cons_succ]
    refine SeqG.valStep (fun wv hbv hpv => ?_) ?_
    · skip
      go_wp2_with fail
      exact post_val (Below.refl _ _)
    simp only [Act.put, List.setIfInBounds_toArray, List.set_cons_zero, List.set_cons_succ]
    refine SeqG.fixStep (.inl ⟨rfl, fun _ => rfl⟩) ?_
    simp only [Act.put, List.setIfInBounds_toArray, List.set_cons_zero, List.set_cons_succ]
    refine SeqG.fixStep (.inl ⟨rfl, fun _ => rfl⟩) ?_
    simp only [Act.put, List.setIfInBounds_toArray, List.set_cons_zero, List.set_cons_succ]
    refine SeqG.valStep (fun wv hbv hpv => ?_) ?_
    · skip
      go_wp2_with fail
      exact post_val (Below.refl _ _)
    simp only [Act.put, List.setIfInBounds_toArray, List.set_cons_zero, List.set_cons_succ]
    refine SeqG.valStep (fun wv hbv hpv => ?_) ?_
    · skip
      go_wp2_with fail
      exact post_val (Below.refl _ _)
    simp only [Act.put, List.setIfInBounds_toArray, List.set_cons_zero, List.set_cons_succ]
    refine SeqG.valStep (fun wv hbv hpv => ?_) ?_
    · obtain ⟨c0, c1⟩ := cells2 (hC.below hbv hBr) hx
      go_wp2_with fail
      exact post_val (Below.refl _ _)
    simp only [Act.put, List.setIfInBounds_toArray, List.set_cons_zero, List.set_cons_succ]
    refine SeqG.valStep (fun wv hbv hpv => ?_) ?_
    · go_wp2_with fail
      refine (ceilDiv_any _ _ _ (by omega) (by omega) (by omega) (by omega)).mono ?_; rintro e w' ⟨he, rfl⟩; subst he
      go_wp2_with fail
      exact post_val (Below.refl _ _)
    simp only [Act.put, List.setIfInBounds_toArray, List.set_cons_zero, List.set_cons_succ]
    refine SeqG.valStep (fun wv hbv hpv => ?_) ?_
    · skip
      go_wp2_with fail
      exact post_val (Below.refl _ _)
    simp only [Act.put, List.setIfInBounds_toArray, List.set_cons_zero, List.set_cons_succ]
    refine SeqG.valStep (fun wv hbv hpv => ?_) ?_
    · go_wp2_with fail
      · first | exact post_val_eq (v' := .int .i64 a) (congrArg (Value.int .i64) (by have := Hmin.out; omega)) (Below.refl _ _) | exact post_val_eq (v' := .int .i64 (a + s - (1000 * s + x.2 - 1) / x.2)) (congrArg (Value.int .i64) (by have := Hmin.out; omega)) (Below.refl _ _)
      · first | exact post_val_eq (v' := .int .i64 a) (congrArg (Value.int .i64) (by have := Hmin.out; omega)) (Below.refl _ _) | exact post_val_eq (v' := .int .i64 (a + s - (1000 * s + x.2 - 1) / x.2)) (congrArg (Value.int .i64) (by have := Hmin.out; omega)) (Below.refl _ _)
    simp only [Act.put, List.setIfInBounds_toArray, List.set_cons_zero, List.set_cons_succ]
    refine SeqG.valStep (fun wv hbv hpv => ?_) ?_
    · skip
      go_wp2_with fail
      exact post_val (Below.refl _ _)
    simp only [Act.put, List.setIfInBounds_toArray, List.set_cons_zero, List.set_cons_succ]
    refine SeqG.done fun wv hbv hpv => ?_
    clear hpv
    go_wp2_with fail
    refine NoPan.normal ?_
    go_wp2
    go_ret2
    exact ⟨by rw [Hv.out, Hn.out]; rfl, by (repeat (first | exact Below.refl _ _ | refine Below.drew ?_ | refine below_drewN ?_ _ | (refine Below.alloc ?_ (by (try simp) <;> omega) _) | (refine Below.setCell ?_ (by (try simp) <;> omega) _) | (refine Below.trans ?_ (Below.mono (by assumption) (by (try simp) <;> omega)))))⟩

set_option maxHeartbeats 4000000 in
theorem SSunOnRung_any (A : Option Addr) (c : Nat) (L : List (Int × Int)) (i a s : Int) (w : World) (hr : SlR f2 2 w w.heap.size A L) (hm : (L.length : Int) ≤ 1048576) :
    Calls Try.prog 25 #[.slice A L.length c, .int .i64 i, briV a s] w fun e w' => e = .returned (sunV L i a s) ∧ Below w.heap.size w w' := by
  have hr' := hr.alloc (.cells #[.int .i64 a, .int .i64 s] 38 (0, 0))
  cases h : askB L i a s
  case false =>
    have Hv := Lib.hid (show sunV L i a s = .tuple #[.int .i64 0, .bool false] by simp [sunV, h])
    go_enter Try.func25, Try.ntmps25
    go_wp2_with fail
    refine (l13Asked_any _ _ _ _ _ _ _ hr' hm).mono ?_; rintro e w1 ⟨rfl, hb1⟩
    have z1 := hb1.size
    try simp at z1
    obtain ⟨c1_0, f1_0⟩ := bblk hb1 (g := w.heap.size) (by (try simp) <;> omega)
    have l1_0 : w.heap.size < w1.heap.size := by omega
    rw [h]
    go_wp2
    go_ret2
    exact ⟨by rw [Hv.out]; rfl, by (repeat (first | exact Below.refl _ _ | refine Below.drew ?_ | refine below_drewN ?_ _ | (refine Below.alloc ?_ (by (try simp) <;> omega) _) | (refine Below.setCell ?_ (by (try simp) <;> omega) _) | (refine Below.trans ?_ (Below.mono (by assumption) (by (try simp) <;> omega)))))⟩
  have Hv := Lib.hid (show sunV L i a s = .tuple #[.int .i64 (sunN L i a s), .bool true] by simp [sunV, h])
  obtain ⟨k, x, rfl, hx, hkl, hl8, hg, ha, hs, hM, hst⟩ := askB_true h
  obtain ⟨b, off, rfl, hB, hcs⟩ := hr (SlR.ne hx)
  have hk0 : (0 : Int) ≤ (k : Int) := by omega
  have hk1 : (k : Int) < (L.length : Int) := by omega
  by_cases h7 : s = 0
  · subst h7
    have Hn := Lib.hid (show sunN L k a 0 = a by rw [sunN, Int.toNat_natCast, hx]; simp)
    go_enter Try.func25, Try.ntmps25
    go_wp2_with fail
    refine (l13Asked_any _ _ _ _ _ _ _ hr' hm).mono ?_; rintro e w1 ⟨rfl, hb1⟩
    have z1 := hb1.size
    try simp at z1
    obtain ⟨c1_0, f1_0⟩ := bblk hb1 (g := w.heap.size) (by (try simp) <;> omega)
    have l1_0 : w.heap.size < w1.heap.size := by omega
    rw [h]
    have hC := hcs.below (((Below.refl w.heap.size w).alloc (Nat.le_refl _) (.cells #[.int .i64 a, .int .i64 0] 38 (0, 0))).trans (hb1.mono (by simp))) hB
    have hBr : b < w1.heap.size := by omega
    have hne : w.heap.size < w1.heap.size := by omega
    obtain ⟨c0, c1⟩ := cells2 hC hx
    have ka : w1.cell? ⟨w.heap.size, 0, none⟩ = some (.int .i64 a) := by rw [hb1.cell (by simp)]; simp
    have kb : w1.cell? ⟨w.heap.size, 1, none⟩ = some (.int .i64 0) := by rw [hb1.cell (by simp)]; simp
    clear hr hr' hcs hst h
    go_wp2
    go_ret2
    exact ⟨by rw [Hv.out, Hn.out]; rfl, by (repeat (first | exact Below.refl _ _ | refine Below.drew ?_ | refine below_drewN ?_ _ | (refine Below.alloc ?_ (by (try simp) <;> omega) _) | (refine Below.setCell ?_ (by (try simp) <;> omega) _) | (refine Below.trans ?_ (Below.mono (by assumption) (by (try simp) <;> omega)))))⟩
  · have h7' : (s == 0) = false := by simpa using h7
    have hy := staB_high hst (by omega) (by omega)
    have hq0 : 0 ≤ (1000 * s + x.2 - 1) / x.2 := Int.ediv_nonneg (by omega) (by omega)
    have hq1 : (1000 * s + x.2 - 1) / x.2 ≤ 1000 * s + x.2 - 1 := Int.ediv_le_self _ (by omega)
    obtain ⟨M, hM1⟩ : ∃ M, min a (a + s - (1000 * s + x.2 - 1) / x.2) = M := ⟨_, rfl⟩
    have Hmin := Lib.hid hM1
    have Hn := Lib.hid (show sunN L k a s = M by rw [sunN, Int.toNat_natCast, hx]; simp only [if_neg h7]; exact hM1)
    clear hM1
    go_enter Try.func25, Try.ntmps25
    go_wp2_with fail
    refine (l13Asked_any _ _ _ _ _ _ _ hr' hm).mono ?_; rintro e w1 ⟨rfl, hb1⟩
    have z1 := hb1.size
    try simp at z1
    obtain ⟨c1_0, f1_0⟩ := bblk hb1 (g := w.heap.size) (by (try simp) <;> omega)
    have l1_0 : w.heap.size < w1.heap.size := by omega
    rw [h]
    have hC := hcs.below (((Below.refl w.heap.size w).alloc (Nat.le_refl _) (.cells #[.int .i64 a, .int .i64 s] 38 (0, 0))).trans (hb1.mono (by simp))) hB
    have hBr : b < w1.heap.size := by omega
    have hne : w.heap.size < w1.heap.size := by omega
    obtain ⟨c0, c1⟩ := cells2 hC hx
    have ka : w1.cell? ⟨w.heap.size, 0, none⟩ = some (.int .i64 a) := by rw [hb1.cell (by simp)]; simp
    have kb : w1.cell? ⟨w.heap.size, 1, none⟩ = some (.int .i64 s) := by rw [hb1.cell (by simp)]; simp
    clear hr hr' hcs hst h
    go_wp2
    refine wp_region_grow [.val (.pointer (some ⟨w.heap.size, 0, none⟩)), .val (.int .i64 a), .val (briV a s), .val (.int .i64 (a + s)), .val (.pointer (some ⟨w.heap.size, 1, none⟩)), .val (.int .i64 s), .val (.int .i64 (1000 * s)), .fix (.slice (some ⟨b, off, none⟩) L.length c), .fix (.int .i64 k), .val (.pointer (some ⟨b, off + k * 2, none⟩)), .val (.pointer (some ⟨b, off + k * 2 + 1, none⟩)), .val (.int .i64 x.2), .val (.int .i64 (1000 * s + x.2)), .val (.int .i64 (1000 * s + x.2 - 1)), .fix (.slice (some ⟨b, off, none⟩) L.length c), .fix (.int .i64 k), .val (.pointer (some ⟨b, off + k * 2, none⟩)), .val (.pointer (some ⟨b, off + k * 2 + 1, none⟩)), .val (.int .i64 x.2), .val (.int .i64 ((1000 * s + x.2 - 1) / x.2)), .val (.int .i64 (a + s - (1000 * s + x.2 - 1) / x.2)), .val (.int .i64 M), .val (.int .i64 M)] mixed (by kernel_rfl) ?_
    refine SeqG.valStep (fun wv hbv hpv => ?_) ?_
    · skip
      go_wp2_with fail
      exact post_val (Below.refl _ _)
    simp only [Act.put, List.setIfInBounds_toArray, List.set_cons_zero, List.set_cons_succ]
    refine SeqG.valStep (fun wv hbv hpv => ?_) ?_
    · obtain ⟨cc, ff⟩ := bblk hbv (g := w.heap.size) hne
      go_wp2_with fail
      exact post_val (Below.refl _ _)
    simp only [Act.put, List.setIfInBounds_toArray, List.set_cons_zero, List.set_cons_succ]
    refine SeqG.valStep (fun wv hbv hpv => ?_) ?_
    · obtain ⟨cc, ff⟩ := bblk hbv (g := w.heap.size) hne
      go_wp2_with fail
      exact post_val (Below.refl _ _)
    simp only [Act.put, List.setIfInBounds_toArray, List.set_cons_zero, List.set_cons_succ]
    refine SeqG.valStep (fun wv hbv hpv => ?_) ?_
    · go_wp2_with fail
      refine (l2Mass_any _ _ _ ha hs).mono ?_; rintro e w' ⟨he, hb⟩; subst he
      go_wp2_with fail
      exact post_val hb
    simp only [Act.put, List.setIfInBounds_toArray, List.set_cons_zero, List.set_cons_succ]
    refine SeqG.valStep (fun wv hbv hpv => ?_) ?_
    · skip
      go_wp2_with fail
      exact post_val (Below.refl _ _)
    simp only [Act.put, List.setIfInBounds_toArray, List.set_cons_zero, List.set_cons_succ]
    refine SeqG.valStep (fun wv hbv hpv => ?_) ?_
    · obtain ⟨cc, ff⟩ := bblk hbv (g := w.heap.size) hne
      go_wp2_with fail
      exact post_val (Below.refl _ _)
    simp only [Act.put, List.setIfInBounds_toArray, List.set_cons_zero, List.set_cons_succ]
    refine SeqG.valStep (fun wv hbv hpv => ?_) ?_
    · skip
      go_wp2_with fail
      exact post_val (Below.refl _ _)
    simp only [Act.put, List.setIfInBounds_toArray, List.set_cons_zero, List.set_cons_succ]
    refine SeqG.fixStep (.inl ⟨rfl, fun _ => rfl⟩) ?_
    simp only [Act.put, List.setIfInBounds_toArray, List.set_cons_zero, List.set_cons_succ]
    refine SeqG.fixStep (.inl ⟨rfl, fun _ => rfl⟩) ?_
    simp only [Act.put, List.setIfInBounds_toArray, List.set_cons_zero, List.set_cons_succ]
    refine SeqG.valStep (fun wv hbv hpv => ?_) ?_
    · skip
      go_wp2_with fail
      exact post_val (Below.refl _ _)
    simp only [Act.put, List.setIfInBounds_toArray, List.set_cons_zero, List.set_cons_succ]
    refine SeqG.valStep (fun wv hbv hpv => ?_) ?_
    · skip
      go_wp2_with fail
      exact post_val (Below.refl _ _)
    simp only [Act.put, List.setIfInBounds_toArray, List.set_cons_zero, List.set_cons_succ]
    refine SeqG.valStep (fun wv hbv hpv => ?_) ?_
    · obtain ⟨c0, c1⟩ := cells2 (hC.below hbv hBr) hx
      go_wp2_with fail
      exact post_val (Below.refl _ _)
    simp only [Act.put, List.setIfInBounds_toArray, List.set_cons_zero, List.set_cons_succ]
    refine SeqG.valStep (fun wv hbv hpv => ?_) ?_
    · skip
      go_wp2_with fail
      exact post_val (Below.refl _ _)
    simp only [Act.put, List.setIfInBounds_toArray, List.set_cons_zero, List.set_cons_succ]
    refine SeqG.valStep (fun wv hbv hpv => ?_) ?_
    · skip
      go_wp2_with fail
      exact post_val (Below.refl _ _)
    simp only [Act.put, List.setIfInBounds_toArray, List.set_cons_zero, List.set_cons_succ]
    refine SeqG.fixStep (.inl ⟨rfl, fun _ => rfl⟩) ?_
    simp only [Act.put, List.setIfInBounds_toArray, List.set_cons_zero, List.set_cons_succ]
    refine SeqG.fixStep (.inl ⟨rfl, fun _ => rfl⟩) ?_
    simp only [Act.put, List.setIfInBounds_toArray, List.set_cons_zero, List.set_cons_succ]
    refine SeqG.valStep (fun wv hbv hpv => ?_) ?_
    · skip
      go_wp2_with fail
      exact post_val (Below.refl _ _)
    simp only [Act.put, List.setIfInBounds_toArray, List.set_cons_zero, List.set_cons_succ]
    refine SeqG.valStep (fun wv hbv hpv => ?_) ?_
    · skip
      go_wp2_with fail
      exact post_val (Below.refl _ _)
    simp only [Act.put, List.setIfInBounds_toArray, List.set_cons_zero, List.set_cons_succ]
    refine SeqG.valStep (fun wv hbv hpv => ?_) ?_
    · obtain ⟨c0, c1⟩ := cells2 (hC.below hbv hBr) hx
      go_wp2_with fail
      exact post_val (Below.refl _ _)
    simp only [Act.put, List.setIfInBounds_toArray, List.set_cons_zero, List.set_cons_succ]
    refine SeqG.valStep (fun wv hbv hpv => ?_) ?_
    · skip
      go_wp2_with fail
      exact post_val (Below.refl _ _)
    simp only [Act.put, List.setIfInBounds_toArray, List.set_cons_zero, List.set_cons_succ]
    refine SeqG.valStep (fun wv hbv hpv => ?_) ?_
    · skip
      go_wp2_with fail
      exact post_val (Below.refl _ _)
    simp only [Act.put, List.setIfInBounds_toArray, List.set_cons_zero, List.set_cons_succ]
    refine SeqG.valStep (fun wv hbv hpv => ?_) ?_
    · go_wp2_with fail
      refine (l1Least_any _ _ _).mono ?_; rintro e w' ⟨he, rfl⟩; rw [Hmin.out] at he; subst he
      go_wp2_with fail
      exact post_val (Below.refl _ _)
    simp only [Act.put, List.setIfInBounds_toArray, List.set_cons_zero, List.set_cons_succ]
    refine SeqG.valStep (fun wv hbv hpv => ?_) ?_
    · skip
      go_wp2_with fail
      exact post_val (Below.refl _ _)
    simp only [Act.put, List.setIfInBounds_toArray, List.set_cons_zero, List.set_cons_succ]
    refine SeqG.done fun wv hbv hpv => ?_
    clear hpv
    go_wp2_with fail
    refine NoPan.normal ?_
    go_wp2
    go_ret2
    exact ⟨by rw [Hv.out, Hn.out]; rfl, by (repeat (first | exact Below.refl _ _ | refine Below.drew ?_ | refine below_drewN ?_ _ | (refine Below.alloc ?_ (by (try simp) <;> omega) _) | (refine Below.setCell ?_ (by (try simp) <;> omega) _) | (refine Below.trans ?_ (Below.mono (by assumption) (by (try simp) <;> omega)))))⟩
end Go.Proofs.Ythhjbdhglaombaa
