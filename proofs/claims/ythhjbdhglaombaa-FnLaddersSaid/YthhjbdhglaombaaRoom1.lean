/-
  RoomOnRung and SunOnRung: both programs.
-/
import Derived.Test.YthhjbdhglaombaaDoes1
import Derived.WalkKit
import Derived.WalkSpells
import Derived.WalkLawsBesides
import Derived.Lib.Hide
import Derived.Deep.QuietTactic
import Derived.BigQuiet
import Derived.StillTailTactics
namespace Go.Proofs.Ythhjbdhglaombaa
open Go.RowKit

theorem askB_true {L : List (Int × Int)} {i a s : Int} (h : askB L i a s = true) : ∃ (k : Nat) (x : Int × Int), i = k ∧ L[k]? = some x ∧ k < L.length ∧ L.length ≤ 8 ∧ (0 ≤ x.1 ∧ x.1 ≤ x.2 ∧ x.2 ≤ 1000) ∧ (0 ≤ a ∧ a ≤ 1000000) ∧ (0 ≤ s ∧ s ≤ 1000000) ∧ a + s > 0 ∧ staB x.1 x.2 a s = true := by
  unfold askB at h
  simp only [Bool.and_eq_true] at h
  obtain ⟨⟨⟨⟨h1, h2⟩, h3⟩, h4⟩, h5⟩ := h
  have hi := inB_iff.1 h2
  obtain ⟨k, rfl⟩ := Int.eq_ofNat_of_zero_le hi.1
  have hkl : k < L.length := by omega
  have hx : L[k]? = some L[k] := List.getElem?_eq_getElem hkl
  rw [Int.toNat_natCast, hx] at h5
  exact ⟨k, _, rfl, hx, hkl, (ladB_len h1).2, ladB_rung h1 hx, (briB_bounds h3).1, (briB_bounds h3).2, of_decide_eq_true h4, h5⟩
theorem staB_high {x y a s : Int} (h : staB x y a s = true) (hs : 1 ≤ s) (hy : 0 ≤ y) : 1 ≤ y := by
  have h1 := (inB_iff.1 h).2
  rcases Int.lt_or_le 0 y with h2 | h2
  · omega
  · have : y = 0 := by omega
    subst this
    simp at h1
    omega
def roomN (L : List (Int × Int)) (i a s : Int) : Int := match L[i.toNat]? with
  | none => 0
  | some x => if x.1 > 0 then min (1000000 - a) (1000 * s / x.1 - (a + s)) else 1000000 - a
def roomV (L : List (Int × Int)) (i a s : Int) : Value := if askB L i a s then .tuple #[.int .i64 (roomN L i a s), .bool true] else .tuple #[.int .i64 0, .bool false]
theorem roomV_form (L : List (Int × Int)) (i a s : Int) : ∃ n u, roomV L i a s = .tuple #[.int .i64 n, .bool u] := by unfold roomV; split <;> exact ⟨_, _, rfl⟩
def sunN (L : List (Int × Int)) (i a s : Int) : Int := match L[i.toNat]? with
  | none => 0
  | some x => if s = 0 then a else min a (a + s - (1000 * s + x.2 - 1) / x.2)
def sunV (L : List (Int × Int)) (i a s : Int) : Value := if askB L i a s then .tuple #[.int .i64 (sunN L i a s), .bool true] else .tuple #[.int .i64 0, .bool false]
theorem sunV_form (L : List (Int × Int)) (i a s : Int) : ∃ n u, sunV L i a s = .tuple #[.int .i64 n, .bool u] := by unfold sunV; split <;> exact ⟨_, _, rfl⟩

set_option maxHeartbeats 4000000 in
theorem RoomOnRung_any (A : Option Addr) (c : Nat) (L : List (Int × Int)) (i a s : Int) (w : World) (hr : SlR f2 2 w w.heap.size A L) (hm : (L.length : Int) ≤ 1048576) :
    Calls Try.prog 29 #[.slice A L.length c, .int .i64 i, briV a s] w fun e w' => e = .returned (roomV L i a s) ∧ Below w.heap.size w w' := by
  have hr' := hr.alloc (.cells #[.int .i64 a, .int .i64 s] 38 (0, 0))
  cases h : askB L i a s
  case false =>
    have Hv := Lib.hid (show roomV L i a s = .tuple #[.int .i64 0, .bool false] by simp [roomV, h])
    go_enter Try.func29, Try.ntmps29
    go_wp2_with fail
    refine (doesStand_any _ _ _ _ _ _ _ hr' hm).mono ?_; rintro e w1 ⟨rfl, hb1⟩
    have z1 := hb1.size
    try simp at z1
    obtain ⟨c1_0, f1_0⟩ := bblk hb1 (g := w.heap.size) (by (try simp) <;> omega)
    have l1_0 : w.heap.size < w1.heap.size := by omega
    rw [h]
    go_wp2
    go_ret2
    exact ⟨by rw [Hv.out]; rfl, by (repeat (first | exact Below.refl _ _ | refine Below.drew ?_ | refine below_drewN ?_ _ | (refine Below.alloc ?_ (by (try simp) <;> omega) _) | (refine Below.setCell ?_ (by (try simp) <;> omega) _) | (refine Below.trans ?_ (Below.mono (by assumption) (by (try simp) <;> omega)))))⟩
  have Hv := Lib.hid (show roomV L i a s = .tuple #[.int .i64 (roomN L i a s), .bool true] by simp [roomV, h])
  obtain ⟨k, x, rfl, hx, hkl, hl8, hg, ha, hs, hM, hst⟩ := askB_true h
  obtain ⟨b, off, rfl, hB, hcs⟩ := hr (SlR.ne hx)
  have hk0 : (0 : Int) ≤ (k : Int) := by omega
  have hk1 : (k : Int) < (L.length : Int) := by omega
  by_cases h7 : x.1 > 0
  · have hq0 : 0 ≤ 1000 * s / x.1 := Int.ediv_nonneg (by omega) (by omega)
    have hq1 : 1000 * s / x.1 ≤ 1000 * s := Int.ediv_le_self _ (by omega)
    obtain ⟨M, hM1⟩ : ∃ M, min (1000000 - a) (1000 * s / x.1 - (a + s)) = M := ⟨_, rfl⟩
    have Hmin := Lib.hid hM1
    have Hn := Lib.hid (show roomN L k a s = M by rw [roomN, Int.toNat_natCast, hx]; simp only [if_pos h7]; exact hM1)
    clear hM1
    go_enter Try.func29, Try.ntmps29
    go_wp2_with fail
    refine (doesStand_any _ _ _ _ _ _ _ hr' hm).mono ?_; rintro e w1 ⟨rfl, hb1⟩
    have z1 := hb1.size
    try simp at z1
    obtain ⟨c1_0, f1_0⟩ := bblk hb1 (g := w.heap.size) (by (try simp) <;> omega)
    have l1_0 : w.heap.size < w1.heap.size := by omega
    rw [h]
    have hC := hcs.below (((Below.refl w.heap.size w).alloc (Nat.le_refl _) (.cells #[.int .i64 a, .int .i64 s] 38 (0, 0))).trans (hb1.mono (by simp))) hB
    have hBr : b < w1.heap.size := by omega
    have hne : w.heap.size < w1.heap.size := by omega
    obtain ⟨c0, c1⟩ := cells2 hC hx
    have ka : w1.cell? ⟨w.heap.size, 0, none⟩ = some (.int .i64 a) := by rw [hb1.cell (by simp)]; simp
    have kb : w1.cell? ⟨w.heap.size, 1, none⟩ = some (.int .i64 s) := by rw [hb1.cell (by simp)]; simp
    clear hr hr' hcs hst h
    go_wp2
    refine wp_region_grow [.fix (.int .i64 (1000000 - a)), .val (.pointer (some ⟨w.heap.size, 1, none⟩)), .val (.int .i64 s), .val (.int .i64 (1000 * s)), .fix (.int .i64 x.1), .val (.int .i64 (1000 * s / x.1)), .val (briV a s), .val (.int .i64 (a + s)), .val (.int .i64 (1000 * s / x.1 - (a + s))), .val (.int .i64 M)] mixed (by kernel_rfl) ?_
    refine SeqG.fixStep (.inl ⟨rfl, fun _ => rfl⟩) ?_
    simp only [Act.put, List.setIfInBounds_toArray, List.set_cons_zero, List.set_cons_succ]
    refine SeqG.valStep (fun wv hbv hpv => ?_) ?_
    · skip
      go_wp2_with fail
      exact post_val (Below.refl _ _)
    simp only [Act.put, List.setIfInBounds_toArray, List.set_cons_zero, List.set_cons_succ]
    refine SeqG.valStep (fun wv hbv hpv => ?_) ?_
    · obtain ⟨cc, ff⟩ := bblk hbv (g := w.heap.size) hne
      go_wp2_with fail
      exact post_val (Below.refl _ _)
    simp only [Act.put, List.setIfInBounds_toArray, List.set_cons_zero, List.set_cons_succ]
    refine SeqG.valStep (fun wv hbv hpv => ?_) ?_
    · skip
      go_wp2_with fail
      exact post_val (Below.refl _ _)
    simp only [Act.put, List.setIfInBounds_toArray, List.set_cons_zero, List.set_cons_succ]
    refine SeqG.fixStep (.inl ⟨rfl, fun _ => rfl⟩) ?_
    simp only [Act.put, List.setIfInBounds_toArray, List.set_cons_zero, List.set_cons_succ]
    refine SeqG.valStep (fun wv hbv hpv => ?_) ?_
    · skip
      go_wp2_with fail
      exact post_val (Below.refl _ _)
    simp only [Act.put, List.setIfInBounds_toArray, List.set_cons_zero, List.set_cons_succ]
    refine SeqG.valStep (fun wv hbv hpv => ?_) ?_
    · obtain ⟨cc, ff⟩ := bblk hbv (g := w.heap.size) hne
      go_wp2_with fail
      exact post_val (Below.refl _ _)
    simp only [Act.put, List.setIfInBounds_toArray, List.set_cons_zero, List.set_cons_succ]
    refine SeqG.valStep (fun wv hbv hpv => ?_) ?_
    · go_wp2_with fail
      refine (mass_any _ _ _ ha hs).mono ?_; rintro e w' ⟨he, hb⟩; subst he
      go_wp2_with fail
      exact post_val hb
    simp only [Act.put, List.setIfInBounds_toArray, List.set_cons_zero, List.set_cons_succ]
    refine SeqG.valStep (fun wv hbv hpv => ?_) ?_
    · skip
      go_wp2_with fail
      exact post_val (Below.refl _ _)
    simp only [Act.put, List.setIfInBounds_toArray, List.set_cons_zero, List.set_cons_succ]
    refine SeqG.valStep (fun wv hbv hpv => ?_) ?_
    · go_wp2_with fail
      · first | exact post_val_eq (v' := .int .i64 (1000000 - a)) (congrArg (Value.int .i64) (by have := Hmin.out; omega)) (Below.refl _ _) | exact post_val_eq (v' := .int .i64 (1000 * s / x.1 - (a + s))) (congrArg (Value.int .i64) (by have := Hmin.out; omega)) (Below.refl _ _)
      · first | exact post_val_eq (v' := .int .i64 (1000000 - a)) (congrArg (Value.int .i64) (by have := Hmin.out; omega)) (Below.refl _ _) | exact post_val_eq (v' := .int .i64 (1000 * s / x.1 - (a + s))) (congrArg (Value.int .i64) (by have := Hmin.out; omega)) (Below.refl _ _)
    simp only [Act.put, List.setIfInBounds_toArray, List.set_cons_zero, List.set_cons_succ]
    refine SeqG.done fun wv hbv hpv => ?_
    clear hpv
    go_wp2_with fail
    refine NoPan.normal ?_
    go_wp2
    go_ret2
    exact ⟨by rw [Hv.out, Hn.out]; rfl, by (repeat (first | exact Below.refl _ _ | refine Below.drew ?_ | refine below_drewN ?_ _ | (refine Below.alloc ?_ (by (try simp) <;> omega) _) | (refine Below.setCell ?_ (by (try simp) <;> omega) _) | (refine Below.trans ?_ (Below.mono (by assumption) (by (try simp) <;> omega)))))⟩
  · have h0 : x.1 = 0 := by omega
    have Hn := Lib.hid (show roomN L k a s = 1000000 - a by rw [roomN, Int.toNat_natCast, hx]; simp only [if_neg h7])
    have h7' : decide (x.1 > 0) = false := by simp; omega
    clear h0
    go_enter Try.func29, Try.ntmps29
    go_wp2_with fail
    refine (doesStand_any _ _ _ _ _ _ _ hr' hm).mono ?_; rintro e w1 ⟨rfl, hb1⟩
    have z1 := hb1.size
    try simp at z1
    obtain ⟨c1_0, f1_0⟩ := bblk hb1 (g := w.heap.size) (by (try simp) <;> omega)
    have l1_0 : w.heap.size < w1.heap.size := by omega
    rw [h]
    have hC := hcs.below (((Below.refl w.heap.size w).alloc (Nat.le_refl _) (.cells #[.int .i64 a, .int .i64 s] 38 (0, 0))).trans (hb1.mono (by simp))) hB
    have hBr : b < w1.heap.size := by omega
    have hne : w.heap.size < w1.heap.size := by omega
    obtain ⟨c0, c1⟩ := cells2 hC hx
    have ka : w1.cell? ⟨w.heap.size, 0, none⟩ = some (.int .i64 a) := by rw [hb1.cell (by simp)]; simp
    have kb : w1.cell? ⟨w.heap.size, 1, none⟩ = some (.int .i64 s) := by rw [hb1.cell (by simp)]; simp
    clear hr hr' hcs hst h
    go_wp2
    go_ret2
    exact ⟨by rw [Hv.out, Hn.out]; rfl, by (repeat (first | exact Below.refl _ _ | refine Below.drew ?_ | refine below_drewN ?_ _ | (refine Below.alloc ?_ (by (try simp) <;> omega) _) | (refine Below.setCell ?_ (by (try simp) <;> omega) _) | (refine Below.trans ?_ (Below.mono (by assumption) (by (try simp) <;> omega)))))⟩

set_option maxHeartbeats 4000000 in
theorem SRoomOnRung_any (A : Option Addr) (c : Nat) (L : List (Int × Int)) (i a s : Int) (w : World) (hr : SlR f2 2 w w.heap.size A L) (hm : (L.length : Int) ≤ 1048576) :
    Calls Try.prog 28 #[.slice A L.length c, .int .i64 i, briV a s] w fun e w' => e = .returned (roomV L i a s) ∧ Below w.heap.size w w' := by
  have hr' := hr.alloc (.cells #[.int .i64 a, .int .i64 s] 38 (0, 0))
  cases h : askB L i a s
  case false =>
    have Hv := Lib.hid (show roomV L i a s = .tuple #[.int .i64 0, .bool false] by simp [roomV, h])
    go_enter Try.func28, Try.ntmps28
    go_wp2_with fail
    refine (l13Asked_any _ _ _ _ _ _ _ hr' hm).mono ?_; rintro e w1 ⟨rfl, hb1⟩
    have z1 := hb1.size
    try simp at z1
    obtain ⟨c1_0, f1_0⟩ := bblk hb1 (g := w.heap.size) (by (try simp) <;> omega)
    have l1_0 : w.heap.size < w1.heap.size := by omega
    rw [h]
    go_wp2
    go_ret2
    exact ⟨by rw [Hv.out]; rfl, by (repeat (first | exact Below.refl _ _ | refine Below.drew ?_ | refine below_drewN ?_ _ | (refine Below.alloc ?_ (by (try simp) <;> omega) _) | (refine Below.setCell ?_ (by (try simp) <;> omega) _) | (refine Below.trans ?_ (Below.mono (by assumption) (by (try simp) <;> omega)))))⟩
  have Hv := Lib.hid (show roomV L i a s = .tuple #[.int .i64 (roomN L i a s), .bool true] by simp [roomV, h])
  obtain ⟨k, x, rfl, hx, hkl, hl8, hg, ha, hs, hM, hst⟩ := askB_true h
  obtain ⟨b, off, rfl, hB, hcs⟩ := hr (SlR.ne hx)
  have hk0 : (0 : Int) ≤ (k : Int) := by omega
  have hk1 : (k : Int) < (L.length : Int) := by omega
  by_cases h7 : x.1 > 0
  · have hq0 : 0 ≤ 1000 * s / x.1 := Int.ediv_nonneg (by omega) (by omega)
    have hq1 : 1000 * s / x.1 ≤ 1000 * s := Int.ediv_le_self _ (by omega)
    obtain ⟨M, hM1⟩ : ∃ M, min (1000000 - a) (1000 * s / x.1 - (a + s)) = M := ⟨_, rfl⟩
    have Hmin := Lib.hid hM1
    have Hn := Lib.hid (show roomN L k a s = M by rw [roomN, Int.toNat_natCast, hx]; simp only [if_pos h7]; exact hM1)
    clear hM1
    go_enter Try.func28, Try.ntmps28
    go_wp2_with fail
    refine (l13Asked_any _ _ _ _ _ _ _ hr' hm).mono ?_; rintro e w1 ⟨rfl, hb1⟩
    have z1 := hb1.size
    try simp at z1
    obtain ⟨c1_0, f1_0⟩ := bblk hb1 (g := w.heap.size) (by (try simp) <;> omega)
    have l1_0 : w.heap.size < w1.heap.size := by omega
    rw [h]
    have hC := hcs.below (((Below.refl w.heap.size w).alloc (Nat.le_refl _) (.cells #[.int .i64 a, .int .i64 s] 38 (0, 0))).trans (hb1.mono (by simp))) hB
    have hBr : b < w1.heap.size := by omega
    have hne : w.heap.size < w1.heap.size := by omega
    obtain ⟨c0, c1⟩ := cells2 hC hx
    have ka : w1.cell? ⟨w.heap.size, 0, none⟩ = some (.int .i64 a) := by rw [hb1.cell (by simp)]; simp
    have kb : w1.cell? ⟨w.heap.size, 1, none⟩ = some (.int .i64 s) := by rw [hb1.cell (by simp)]; simp
    clear hr hr' hcs hst h
    go_wp2
    refine wp_region_grow [.fix (.int .i64 (1000000 - a)), .val (.pointer (some ⟨w.heap.size, 1, none⟩)), .val (.int .i64 s), .val (.int .i64 (1000 * s)), .fix (.int .i64 x.1), .val (.int .i64 (1000 * s / x.1)), .val (briV a s), .val (.int .i64 (a + s)), .val (.int .i64 (1000 * s / x.1 - (a + s))), .val (.int .i64 M)] mixed (by kernel_rfl) ?_
    refine SeqG.fixStep (.inl ⟨rfl, fun _ => rfl⟩) ?_
    simp only [Act.put, List.setIfInBounds_toArray, List.set_cons_zero, List.set_cons_succ]
    refine SeqG.valStep (fun wv hbv hpv => ?_) ?_
    · skip
      go_wp2_with fail
      exact post_val (Below.refl _ _)
    simp only [Act.put, List.setIfInBounds_toArray, List.set_cons_zero, List.set_cons_succ]
    refine SeqG.valStep (fun wv hbv hpv => ?_) ?_
    · obtain ⟨cc, ff⟩ := bblk hbv (g := w.heap.size) hne
      go_wp2_with fail
      exact post_val (Below.refl _ _)
    simp only [Act.put, List.setIfInBounds_toArray, List.set_cons_zero, List.set_cons_succ]
    refine SeqG.valStep (fun wv hbv hpv => ?_) ?_
    · skip
      go_wp2_with fail
      exact post_val (Below.refl _ _)
    simp only [Act.put, List.setIfInBounds_toArray, List.set_cons_zero, List.set_cons_succ]
    refine SeqG.fixStep (.inl ⟨rfl, fun _ => rfl⟩) ?_
    simp only [Act.put, List.setIfInBounds_toArray, List.set_cons_zero, List.set_cons_succ]
    refine SeqG.valStep (fun wv hbv hpv => ?_) ?_
    · skip
      go_wp2_with fail
      exact post_val (Below.refl _ _)
    simp only [Act.put, List.setIfInBounds_toArray, List.set_cons_zero, List.set_cons_succ]
    refine SeqG.valStep (fun wv hbv hpv => ?_) ?_
    · obtain ⟨cc, ff⟩ := bblk hbv (g := w.heap.size) hne
      go_wp2_with fail
      exact post_val (Below.refl _ _)
    simp only [Act.put, List.setIfInBounds_toArray, List.set_cons_zero, List.set_cons_succ]
    refine SeqG.valStep (fun wv hbv hpv => ?_) ?_
    · go_wp2_with fail
      refine (l2Mass_any _ _ _ ha hs).mono ?_; rintro e w' ⟨he, hb⟩; subst he
      go_wp2_with fail
      exact post_val hb
    simp only [Act.put, List.setIfInBounds_toArray, List.set_cons_zero, List.set_cons_succ]
    refine SeqG.valStep (fun wv hbv hpv => ?_) ?_
    · skip
      go_wp2_with fail
      exact post_val (Below.refl _ _)
    simp only [Act.put, List.setIfInBounds_toArray, List.set_cons_zero, List.set_cons_succ]
    refine SeqG.valStep (fun wv hbv hpv => ?_) ?_
    · go_wp2_with fail
      refine (l1Least_any _ _ _).mono ?_; rintro e w' ⟨he, rfl⟩; rw [Hmin.out] at he; subst he
      go_wp2_with fail
      exact post_val (Below.refl _ _)
    simp only [Act.put, List.setIfInBounds_toArray, List.set_cons_zero, List.set_cons_succ]
    refine SeqG.done fun wv hbv hpv => ?_
    clear hpv
    go_wp2_with fail
    refine NoPan.normal ?_
    go_wp2
    go_ret2
    exact ⟨by rw [Hv.out, Hn.out]; rfl, by (repeat (first | exact Below.refl _ _ | refine Below.drew ?_ | refine below_drewN ?_ _ | (refine Below.alloc ?_ (by (try simp) <;> omega) _) | (refine Below.setCell ?_ (by (try simp) <;> omega) _) | (refine Below.trans ?_ (Below.mono (by assumption) (by (try simp) <;> omega)))))⟩
  · have h0 : x.1 = 0 := by omega
    have Hn := Lib.hid (show roomN L k a s = 1000000 - a by rw [roomN, Int.toNat_natCast, hx]; simp only [if_neg h7])
    have h7' : decide (x.1 > 0) = false := by simp; omega
    clear h0
    go_enter Try.func28, Try.ntmps28
    go_wp2_with fail
    refine (l13Asked_any _ _ _ _ _ _ _ hr' hm).mono ?_; rintro e w1 ⟨rfl, hb1⟩
    have z1 := hb1.size
    try simp at z1
    obtain ⟨c1_0, f1_0⟩ := bblk hb1 (g := w.heap.size) (by (try simp) <;> omega)
    have l1_0 : w.heap.size < w1.heap.size := by omega
    rw [h]
    have hC := hcs.below (((Below.refl w.heap.size w).alloc (Nat.le_refl _) (.cells #[.int .i64 a, .int .i64 s] 38 (0, 0))).trans (hb1.mono (by simp))) hB
    have hBr : b < w1.heap.size := by omega
    have hne : w.heap.size < w1.heap.size := by omega
    obtain ⟨c0, c1⟩ := cells2 hC hx
    have ka : w1.cell? ⟨w.heap.size, 0, none⟩ = some (.int .i64 a) := by rw [hb1.cell (by simp)]; simp
    have kb : w1.cell? ⟨w.heap.size, 1, none⟩ = some (.int .i64 s) := by rw [hb1.cell (by simp)]; simp
    clear hr hr' hcs hst h
    go_wp2
    go_ret2
    exact ⟨by rw [Hv.out, Hn.out]; rfl, by (repeat (first | exact Below.refl _ _ | refine Below.drew ?_ | refine below_drewN ?_ _ | (refine Below.alloc ?_ (by (try simp) <;> omega) _) | (refine Below.setCell ?_ (by (try simp) <;> omega) _) | (refine Below.trans ?_ (Below.mono (by assumption) (by (try simp) <;> omega)))))⟩
end Go.Proofs.Ythhjbdhglaombaa
