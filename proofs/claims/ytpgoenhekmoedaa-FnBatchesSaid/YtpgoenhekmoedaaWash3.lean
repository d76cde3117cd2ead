/-
  Contracts of washing in stages: l12Stages, AfterStages of both.
-/
import Derived.Test.YtpgoenhekmoedaaWash2
namespace Go.Proofs.Ytpgoenhekmoedaa
open Go.RowKit

set_option maxHeartbeats 2000000 in
theorem l12Stages_any (a d wt water : Int) (st : Nat) (w : World) (h1 : 0 ≤ d) (h2 : d ≤ 100000000) (h3 : 0 ≤ wt) (h4 : wt ≤ 100000000) (h5 : 1 ≤ water / st) (h6 : water ≤ 100000000) (h6' : 1 ≤ water) (h7 : 1 ≤ (st : Int)) (h8 : (st : Int) ≤ 6) :
    Calls Try.prog 59 #[.agg #[.int .i64 a, .int .i64 d, .int .i64 wt], .int .i64 water, .int .i64 st] w fun e w' => e = .returned (.agg #[.int .i64 a, .int .i64 (iterW d wt (water / st) st), .int .i64 wt]) ∧ Below w.heap.size w w' := by
  have hqle : water / st ≤ water := Int.ediv_le_self _ (by omega)
  have hz : ((st : Int) == 0) = false := by rw [beq_eq_false_iff_ne]; omega
  have k1 := (Blk.new w 25 #[.int .i64 a, .int .i64 d, .int .i64 wt]).alloc (.cells #[.int .i64 0, .int .i64 0, .int .i64 0] 25)
  have k2 := Blk.new1 w 25 #[.int .i64 0, .int .i64 0, .int .i64 0] (.cells #[.int .i64 a, .int .i64 d, .int .i64 wt] 25)
  have hb0 : Below w.heap.size w ((w.alloc (.cells #[.int .i64 a, .int .i64 d, .int .i64 wt] 25)).alloc (.cells #[.int .i64 0, .int .i64 0, .int .i64 0] 25)) := by (repeat (first | exact Below.refl _ _ | refine Below.drew ?_ | refine below_drewN ?_ _ | (refine Below.alloc ?_ (by (try simp) <;> omega) _) | (refine Below.setCell ?_ (by (try simp) <;> omega) _) | (refine Below.trans ?_ (Below.mono (by assumption) (by (try simp) <;> omega)))))
  go_enter Try.func59, Try.ntmps59
  go_wp2
  generalize (w.alloc (.cells #[.int .i64 a, .int .i64 d, .int .i64 wt] 25)).alloc (.cells #[.int .i64 0, .int .i64 0, .int .i64 0] 25) = W at *
  generalize hg2 : w.heap.size + 1 = g2 at *
  have Hg2 := Lib.hid hg2; clear hg2
  generalize hg1 : w.heap.size = g1 at *
  have Hg1 := Lib.hid hg1; clear hg1
  have hne : g1 ≠ g2 := by have := Hg1.out; have := Hg2.out; omega
  go_loopw [7] (fun k wr => ∃ n : Nat, k = .int .i64 n ∧ n ≤ st ∧ Blk wr g1 25 #[.int .i64 a, .int .i64 (iterW d wt (water / st) n), .int .i64 wt] ∧ Blk wr g2 25 #[.int .i64 0, .int .i64 0, .int .i64 0] ∧ Below g1 w wr) (fun k _ => (st - intOf k).toNat)
  case atStart => exact ⟨0, rfl, by omega, k1, k2, hb0⟩
  case round =>
    obtain ⟨n, rfl, hn, r1, r2, hb⟩ := hrel
    have hbd := iterW_bd (n := n) h1 h3 h5
    by_cases hlt : n < st
    · go_wp2
      refine wp_region_grow [.val (.agg #[.int .i64 a, .int .i64 (iterW d wt (water / st) n), .int .i64 wt]), .val (.int .i64 water), .val (.int .i64 st), .val (.int .i64 (water / st)), .val (washV a (iterW d wt (water / st) n) wt (water / st) 0), .fix (washV a (iterW d wt (water / st) n) wt (water / st) 0), .fix (.agg #[.int .i64 a, .int .i64 (iterW d wt (water / st) (n + 1)), .int .i64 wt]), .fix (.int .i64 (iterW d wt (water / st) n + 0 - washD (iterW d wt (water / st) n) wt (water / st) 0))] mixed (by kernel_rfl) ?_
      refine SeqG.valStep (fun wv hbv hpv => ?_) ?_
      · have q0 := (r1.below' hbv).cell
        go_wp2_with fail
        exact post_val (Below.refl _ _)
      simp only [Act.put, List.setIfInBounds_toArray, List.set_cons_zero, List.set_cons_succ]
      refine SeqG.valStep (fun wv hbv hpv => ?_) ?_
      · skip
        go_wp2_with fail
        exact post_val (Below.refl _ _)
      simp only [Act.put, List.setIfInBounds_toArray, List.set_cons_zero, List.set_cons_succ]
      refine SeqG.valStep (fun wv hbv hpv => ?_) ?_
      · skip
        go_wp2_with fail
        exact post_val (Below.refl _ _)
      simp only [Act.put, List.setIfInBounds_toArray, List.set_cons_zero, List.set_cons_succ]
      refine SeqG.valStep (fun wv hbv hpv => ?_) ?_
      · skip
        go_wp2_with fail
        exact post_val (Below.refl _ _)
      simp only [Act.put, List.setIfInBounds_toArray, List.set_cons_zero, List.set_cons_succ]
      refine SeqG.valStep (fun wv hbv hpv => ?_) ?_
      · go_wp2_with fail
        refine (l12Wash_any _ _ _ _ _ _ hbd.1 (by omega) h3 h4 h5 (by omega) (by omega) (by omega)).mono ?_; rintro e w' ⟨he, hb⟩; subst he
        go_wp2_with fail
        exact post_val hb
      simp only [Act.put, List.setIfInBounds_toArray, List.set_cons_zero, List.set_cons_succ]
      refine SeqG.fixStep (.inl ⟨rfl, fun _ => rfl⟩) ?_
      simp only [Act.put, List.setIfInBounds_toArray, List.set_cons_zero, List.set_cons_succ]
      refine SeqG.fixStep (.inl ⟨rfl, fun _ => rfl⟩) ?_
      simp only [Act.put, List.setIfInBounds_toArray, List.set_cons_zero, List.set_cons_succ]
      refine SeqG.fixStep (.inl ⟨rfl, fun _ => rfl⟩) ?_
      simp only [Act.put, List.setIfInBounds_toArray, List.set_cons_zero, List.set_cons_succ]
      refine SeqG.done fun wv hbv hpv => ?_
      have r1' := r1.below' hbv
      have r2' := (r2.below' hbv).far3 (g' := g1) (Ne.symm hne) 0 1 2 (.int .i64 a) (.int .i64 (iterW d wt (water / st) (n + 1))) (.int .i64 wt)
      have cg := r1'.cell
      have fg := r1'.frozen
      have k3 := r1'.set3 (.int .i64 a) (.int .i64 (iterW d wt (water / st) (n + 1))) (.int .i64 wt)
      have hb3 : Below g1 w (((wv.setCell ⟨g1, 0, none⟩ (.int .i64 a)).setCell ⟨g1, 1, none⟩ (.int .i64 (iterW d wt (water / st) (n + 1)))).setCell ⟨g1, 2, none⟩ (.int .i64 wt)) := by
        have := r1.lt
        (repeat (first | exact Below.refl _ _ | refine Below.drew ?_ | refine below_drewN ?_ _ | (refine Below.alloc ?_ (by (try simp) <;> omega) _) | (refine Below.setCell ?_ (by (try simp) <;> omega) _) | (refine Below.trans ?_ (Below.mono (by assumption) (by (try simp) <;> omega)))))
      go_wp2_with fail
      refine NoPan.normal ?_
      generalize (((wv.setCell ⟨g1, 0, none⟩ (.int .i64 a)).setCell ⟨g1, 1, none⟩ (.int .i64 (iterW d wt (water / st) (n + 1)))).setCell ⟨g1, 2, none⟩ (.int .i64 wt)) = W3 at *
      clear r1' cg fg hbv hpv
      go_wp2
      go_roundw
      case rel => exact ⟨n + 1, by go_num, by omega, k3, r2', hb3⟩
      case measure => simp only [intOf]; omega
    · obtain rfl : n = st := by omega
      have c1 := r1.cell
      have c2 := r2.cell
      have f2 := r2.frozen
      go_wp2
      refine bodyPost_ret (v := .agg #[.int .i64 a, .int .i64 (iterW d wt (water / n) n), .int .i64 wt]) (by simp [results, Try.results59, go_sem, *] <;> rfl) rfl ?_
      exact ⟨rfl, by have := Hg1.out; have := Hg2.out; (repeat (first | exact Below.refl _ _ | refine Below.drew ?_ | refine below_drewN ?_ _ | (refine Below.alloc ?_ (by (try simp) <;> omega) _) | (refine Below.setCell ?_ (by (try simp) <;> omega) _) | (refine Below.trans ?_ (Below.mono (by assumption) (by (try simp) <;> omega)))))⟩

abbrev noneS : Value := .tuple #[.agg #[.int .i64 0, .int .i64 0, .int .i64 0], .bool false]
def stagesV (a d wt water st : Int) : Value :=
  if isBatch a d wt && inB water 1 100000000 && inB st 1 6 && decide (water % st = 0) then .tuple #[.agg #[.int .i64 a, .int .i64 (iterW d wt (water / st) st.toNat), .int .i64 wt], .bool true] else noneS
theorem waterOk0 (a d wt water : Int) : waterOk a d wt water 0 = (isBatch a d wt && inB water 1 100000000) := by
  unfold waterOk
  by_cases h : 1 ≤ water <;> by_cases h' : 0 ≤ water <;> simp [inB, h, h'] <;> omega
theorem quo_ge (water : Int) (st : Nat) (h1 : 1 ≤ water) (h2 : 1 ≤ (st : Int)) (h3 : water % st = 0) : 1 ≤ water / st := by
  have := Int.emod_add_mul_ediv water st
  have h5 : ¬ water / st ≤ 0 := fun hc => by
    have : (st : Int) * (water / st) ≤ 0 := Int.mul_nonpos_of_nonneg_of_nonpos (by omega) hc
    omega
  omega

set_option maxHeartbeats 1000000 in
theorem SAfterStages_any (a d wt water st : Int) (w : World) :
    Calls Try.prog 28 #[.agg #[.int .i64 a, .int .i64 d, .int .i64 wt], .int .i64 water, .int .i64 st] w fun e w' => e = .returned (stagesV a d wt water st) ∧ Below w.heap.size w w' := by
  cases h1 : waterOk a d wt water 0
  · have Hv := Lib.hid (show stagesV a d wt water st = noneS by rw [waterOk0] at h1; simp [stagesV, h1])
    go_enter Try.func28, Try.ntmps28
    go_wp2_with fail
    refine (l12Water_any _ _ _ _ _ _).mono ?_; rintro e w1 ⟨rfl, hb1⟩
    have z1 := hb1.size
    try simp at z1
    obtain ⟨c1_0, f1_0⟩ := bblk hb1 (g := w.heap.size) (by (try simp) <;> omega)
    have l1_0 : w.heap.size < w1.heap.size := by omega
    obtain ⟨c1_1, f1_1⟩ := bblk hb1 (g := w.heap.size + 1) (by (try simp) <;> omega)
    have l1_1 : w.heap.size + 1 < w1.heap.size := by omega
    go_wp2
    refine bodyPost_ret (v := noneS) (by simp [results, Try.results28, go_sem, *] <;> rfl) rfl ?_
    exact ⟨by rw [Hv.out], by (repeat (first | exact Below.refl _ _ | refine Below.drew ?_ | refine below_drewN ?_ _ | (refine Below.alloc ?_ (by (try simp) <;> omega) _) | (refine Below.setCell ?_ (by (try simp) <;> omega) _) | (refine Below.trans ?_ (Below.mono (by assumption) (by (try simp) <;> omega)))))⟩
  cases h2 : inB st 1 6
  · have Hv := Lib.hid (show stagesV a d wt water st = noneS by simp [stagesV, h2])
    go_enter Try.func28, Try.ntmps28
    go_wp2_with fail
    refine (l12Water_any _ _ _ _ _ _).mono ?_; rintro e w1 ⟨rfl, hb1⟩
    have z1 := hb1.size
    try simp at z1
    obtain ⟨c1_0, f1_0⟩ := bblk hb1 (g := w.heap.size) (by (try simp) <;> omega)
    have l1_0 : w.heap.size < w1.heap.size := by omega
    obtain ⟨c1_1, f1_1⟩ := bblk hb1 (g := w.heap.size + 1) (by (try simp) <;> omega)
    have l1_1 : w.heap.size + 1 < w1.heap.size := by omega
    go_wp2_with (go_at_call 51; refine (l1In_any _ _ _ _).mono ?_; rintro e w' ⟨rfl, rfl⟩)
    refine bodyPost_ret (v := noneS) (by simp [results, Try.results28, go_sem, *] <;> rfl) rfl ?_
    exact ⟨by rw [Hv.out], by (repeat (first | exact Below.refl _ _ | refine Below.drew ?_ | refine below_drewN ?_ _ | (refine Below.alloc ?_ (by (try simp) <;> omega) _) | (refine Below.setCell ?_ (by (try simp) <;> omega) _) | (refine Below.trans ?_ (Below.mono (by assumption) (by (try simp) <;> omega)))))⟩
  obtain ⟨⟨_, ⟨g1, g2⟩, g3, g4⟩, ⟨g5, g6⟩, _⟩ := waterOk_iff.1 h1
  obtain ⟨g7, g8⟩ := inB_iff.1 h2
  have hz : (st == 0) = false := by rw [beq_eq_false_iff_ne]; omega
  by_cases h3 : water % st = 0
  · have Hv := Lib.hid (show stagesV a d wt water st = .tuple #[.agg #[.int .i64 a, .int .i64 (iterW d wt (water / st) st.toNat), .int .i64 wt], .bool true] by rw [waterOk0] at h1; simp [stagesV, h1, h2, h3])
    have hm : (water % st != 0) = false := by simp [h3]
    obtain ⟨n, rfl⟩ := Int.eq_ofNat_of_zero_le (show 0 ≤ st by omega)
    have hq := quo_ge water n g5 g7 h3
    clear h3
    go_enter Try.func28, Try.ntmps28
    go_wp2_with fail
    refine (l12Water_any _ _ _ _ _ _).mono ?_; rintro e w1 ⟨rfl, hb1⟩
    have z1 := hb1.size
    try simp at z1
    obtain ⟨c1_0, f1_0⟩ := bblk hb1 (g := w.heap.size) (by (try simp) <;> omega)
    have l1_0 : w.heap.size < w1.heap.size := by omega
    obtain ⟨c1_1, f1_1⟩ := bblk hb1 (g := w.heap.size + 1) (by (try simp) <;> omega)
    have l1_1 : w.heap.size + 1 < w1.heap.size := by omega
    go_wp2_with (go_at_call 51; refine (l1In_any _ _ _ _).mono ?_; rintro e w' ⟨rfl, rfl⟩)
    go_wp2_with fail
    refine (l12Stages_any _ _ _ _ _ _ g1 g2 g3 g4 hq g6 g5 g7 g8).mono ?_; rintro e w2 ⟨rfl, hb2⟩
    have z2 := hb2.size
    try simp at z2
    obtain ⟨c2_0, f2_0⟩ := bblk hb2 (g := w.heap.size) (by (try simp) <;> omega)
    have l2_0 : w.heap.size < w2.heap.size := by omega
    obtain ⟨c2_1, f2_1⟩ := bblk hb2 (g := w.heap.size + 1) (by (try simp) <;> omega)
    have l2_1 : w.heap.size + 1 < w2.heap.size := by omega
    go_wp2
    refine bodyPost_ret (v := .tuple #[.agg #[.int .i64 a, .int .i64 (iterW d wt (water / n) n), .int .i64 wt], .bool true]) (by simp [results, Try.results28, go_sem, *] <;> rfl) rfl ?_
    exact ⟨by rw [Hv.out]; rfl, by (repeat (first | exact Below.refl _ _ | refine Below.drew ?_ | refine below_drewN ?_ _ | (refine Below.alloc ?_ (by (try simp) <;> omega) _) | (refine Below.setCell ?_ (by (try simp) <;> omega) _) | (refine Below.trans ?_ (Below.mono (by assumption) (by (try simp) <;> omega)))))⟩
  · have Hv := Lib.hid (show stagesV a d wt water st = noneS by simp [stagesV, h3])
    have hm : (water % st != 0) = true := by simpa using h3
    clear h3
    go_enter Try.func28, Try.ntmps28
    go_wp2_with fail
    refine (l12Water_any _ _ _ _ _ _).mono ?_; rintro e w1 ⟨rfl, hb1⟩
    have z1 := hb1.size
    try simp at z1
    obtain ⟨c1_0, f1_0⟩ := bblk hb1 (g := w.heap.size) (by (try simp) <;> omega)
    have l1_0 : w.heap.size < w1.heap.size := by omega
    obtain ⟨c1_1, f1_1⟩ := bblk hb1 (g := w.heap.size + 1) (by (try simp) <;> omega)
    have l1_1 : w.heap.size + 1 < w1.heap.size := by omega
    go_wp2_with (go_at_call 51; refine (l1In_any _ _ _ _).mono ?_; rintro e w' ⟨rfl, rfl⟩)
    refine bodyPost_ret (v := noneS) (by simp [results, Try.results28, go_sem, *] <;> rfl) rfl ?_
    exact ⟨by rw [Hv.out], by (repeat (first | exact Below.refl _ _ | refine Below.drew ?_ | refine below_drewN ?_ _ | (refine Below.alloc ?_ (by (try simp) <;> omega) _) | (refine Below.setCell ?_ (by (try simp) <;> omega) _) | (refine Below.trans ?_ (Below.mono (by assumption) (by (try simp) <;> omega)))))⟩

set_option maxHeartbeats 2000000 in
theorem AfterStages_any (a d wt water st : Int) (w : World) :
    Calls Try.prog 29 #[.agg #[.int .i64 a, .int .i64 d, .int .i64 wt], .int .i64 water, .int .i64 st] w fun e w' => e = .returned (stagesV a d wt water st) ∧ Below w.heap.size w w' := by
  cases h0 : isBatch a d wt
  · have Hv := Lib.hid (show stagesV a d wt water st = noneS by simp [stagesV, h0])
    go_enter Try.func29, Try.ntmps29
    go_wp2_with fail
    refine (IsBatch_any _ _ _ _).mono ?_; rintro e w1 ⟨rfl, hb1⟩
    have z1 := hb1.size
    try simp at z1
    obtain ⟨c1_0, f1_0⟩ := bblk hb1 (g := w.heap.size) (by (try simp) <;> omega)
    have l1_0 : w.heap.size < w1.heap.size := by omega
    obtain ⟨c1_1, f1_1⟩ := bblk hb1 (g := w.heap.size + 1) (by (try simp) <;> omega)
    have l1_1 : w.heap.size + 1 < w1.heap.size := by omega
    go_wp2
    refine bodyPost_ret (v := noneS) (by simp [results, Try.results29, go_sem, *] <;> rfl) rfl ?_
    exact ⟨by rw [Hv.out], by (repeat (first | exact Below.refl _ _ | refine Below.drew ?_ | refine below_drewN ?_ _ | (refine Below.alloc ?_ (by (try simp) <;> omega) _) | (refine Below.setCell ?_ (by (try simp) <;> omega) _) | (refine Below.trans ?_ (Below.mono (by assumption) (by (try simp) <;> omega)))))⟩
  cases h1 : inB water 1 100000000
  · have Hv := Lib.hid (show stagesV a d wt water st = noneS by simp [stagesV, h1])
    go_enter Try.func29, Try.ntmps29
    go_wp2_with fail
    refine (IsBatch_any _ _ _ _).mono ?_; rintro e w1 ⟨rfl, hb1⟩
    have z1 := hb1.size
    try simp at z1
    obtain ⟨c1_0, f1_0⟩ := bblk hb1 (g := w.heap.size) (by (try simp) <;> omega)
    have l1_0 : w.heap.size < w1.heap.size := by omega
    obtain ⟨c1_1, f1_1⟩ := bblk hb1 (g := w.heap.size + 1) (by (try simp) <;> omega)
    have l1_1 : w.heap.size + 1 < w1.heap.size := by omega
    go_wp2_with (go_at_call 57; refine (isWashing_any _ _).mono ?_; rintro e w' ⟨rfl, rfl⟩)
    refine bodyPost_ret (v := noneS) (by simp [results, Try.results29, go_sem, *] <;> rfl) rfl ?_
    exact ⟨by rw [Hv.out], by (repeat (first | exact Below.refl _ _ | refine Below.drew ?_ | refine below_drewN ?_ _ | (refine Below.alloc ?_ (by (try simp) <;> omega) _) | (refine Below.setCell ?_ (by (try simp) <;> omega) _) | (refine Below.trans ?_ (Below.mono (by assumption) (by (try simp) <;> omega)))))⟩
  cases h2 : inB st 1 6
  · have Hv := Lib.hid (show stagesV a d wt water st = noneS by simp [stagesV, h2])
    go_enter Try.func29, Try.ntmps29
    go_wp2_with fail
    refine (IsBatch_any _ _ _ _).mono ?_; rintro e w1 ⟨rfl, hb1⟩
    have z1 := hb1.size
    try simp at z1
    obtain ⟨c1_0, f1_0⟩ := bblk hb1 (g := w.heap.size) (by (try simp) <;> omega)
    have l1_0 : w.heap.size < w1.heap.size := by omega
    obtain ⟨c1_1, f1_1⟩ := bblk hb1 (g := w.heap.size + 1) (by (try simp) <;> omega)
    have l1_1 : w.heap.size + 1 < w1.heap.size := by omega
    go_wp2_with (first | (go_at_call 57; refine (isWashing_any _ _).mono ?_; rintro e w' ⟨rfl, rfl⟩) | (go_at_call 50; refine (within_any _ _ _ _).mono ?_; rintro e w' ⟨rfl, rfl⟩))
    refine bodyPost_ret (v := noneS) (by simp [results, Try.results29, go_sem, *] <;> rfl) rfl ?_
    exact ⟨by rw [Hv.out], by (repeat (first | exact Below.refl _ _ | refine Below.drew ?_ | refine below_drewN ?_ _ | (refine Below.alloc ?_ (by (try simp) <;> omega) _) | (refine Below.setCell ?_ (by (try simp) <;> omega) _) | (refine Below.trans ?_ (Below.mono (by assumption) (by (try simp) <;> omega)))))⟩
  obtain ⟨_, ⟨g1, g2⟩, g3, g4⟩ := isBatch_iff.1 h0
  obtain ⟨g5, g6⟩ := inB_iff.1 h1
  obtain ⟨g7, g8⟩ := inB_iff.1 h2
  have hz : (st == 0) = false := by rw [beq_eq_false_iff_ne]; omega
  by_cases h3 : water % st = 0
  · have Hv := Lib.hid (show stagesV a d wt water st = .tuple #[.agg #[.int .i64 a, .int .i64 (iterW d wt (water / st) st.toNat), .int .i64 wt], .bool true] by simp [stagesV, h0, h1, h2, h3])
    have hm : (water % st != 0) = false := by simp [h3]
    obtain ⟨m, rfl⟩ := Int.eq_ofNat_of_zero_le (show 0 ≤ st by omega)
    have hq := quo_ge water m g5 g7 h3
    have hqle : water / m ≤ water := Int.ediv_le_self _ (by omega)
    clear h3
    go_enter Try.func29, Try.ntmps29
    go_wp2_with fail
    refine (IsBatch_any _ _ _ _).mono ?_; rintro e w1 ⟨rfl, hb1⟩
    have z1 := hb1.size
    try simp at z1
    obtain ⟨c1_0, f1_0⟩ := bblk hb1 (g := w.heap.size) (by (try simp) <;> omega)
    have l1_0 : w.heap.size < w1.heap.size := by omega
    obtain ⟨c1_1, f1_1⟩ := bblk hb1 (g := w.heap.size + 1) (by (try simp) <;> omega)
    have l1_1 : w.heap.size + 1 < w1.heap.size := by omega
    have k1 := ((Blk.new w 25 #[.int .i64 a, .int .i64 d, .int .i64 wt]).alloc (.cells #[.int .i64 0, .int .i64 0, .int .i64 0] 25)).below' hb1
    have k2 := (Blk.new1 w 25 #[.int .i64 0, .int .i64 0, .int .i64 0] (.cells #[.int .i64 a, .int .i64 d, .int .i64 wt] 25)).below' hb1
    go_wp2_with (first | (go_at_call 57; refine (isWashing_any _ _).mono ?_; rintro e w' ⟨rfl, rfl⟩) | (go_at_call 50; refine (within_any _ _ _ _).mono ?_; rintro e w' ⟨rfl, rfl⟩))
    have hb0 : Below w.heap.size w w1 := by (repeat (first | exact Below.refl _ _ | refine Below.drew ?_ | refine below_drewN ?_ _ | (refine Below.alloc ?_ (by (try simp) <;> omega) _) | (refine Below.setCell ?_ (by (try simp) <;> omega) _) | (refine Below.trans ?_ (Below.mono (by assumption) (by (try simp) <;> omega)))))
    clear hb1 c1_0 f1_0 c1_1 f1_1 l1_0 l1_1 z1
    generalize hg2 : w.heap.size + 1 = p2 at *
    have Hg2 := Lib.hid hg2; clear hg2
    generalize hg1 : w.heap.size = p1 at *
    have Hg1 := Lib.hid hg1; clear hg1
    have hne : p1 ≠ p2 := by have := Hg1.out; have := Hg2.out; omega
    go_loopw [29] (fun k wr => ∃ n : Nat, k = .int .i64 n ∧ n ≤ m ∧ Blk wr p1 25 #[.int .i64 a, .int .i64 (iterW d wt (water / m) n), .int .i64 wt] ∧ Blk wr p2 25 #[.int .i64 0, .int .i64 0, .int .i64 0] ∧ Below p1 w wr) (fun k _ => (m - intOf k).toNat)
    case atStart => exact ⟨0, rfl, by omega, k1, k2, hb0⟩
    case round =>
      obtain ⟨n, rfl, hn, r1, r2, hb⟩ := hrel
      have hbd := iterW_bd (n := n) g1 g3 hq
      by_cases hlt : n < m
      · go_wp2
        refine wp_region_grow [.val (.agg #[.int .i64 a, .int .i64 (iterW d wt (water / m) n), .int .i64 wt]), .val (.int .i64 water), .val (.int .i64 m), .val (.int .i64 (water / m)), .val (washV a (iterW d wt (water / m) n) wt (water / m) 0), .fix (washV a (iterW d wt (water / m) n) wt (water / m) 0), .fix (.agg #[.int .i64 a, .int .i64 (iterW d wt (water / m) (n + 1)), .int .i64 wt]), .fix (.int .i64 (iterW d wt (water / m) n + 0 - washD (iterW d wt (water / m) n) wt (water / m) 0))] mixed (by kernel_rfl) ?_
        refine SeqG.valStep (fun wv hbv hpv => ?_) ?_
        · have q0 := (r1.below' hbv).cell
          go_wp2_with fail
          exact post_val (Below.refl _ _)
        simp only [Act.put, List.setIfInBounds_toArray, List.set_cons_zero, List.set_cons_succ]
        refine SeqG.valStep (fun wv hbv hpv => ?_) ?_
        · skip
          go_wp2_with fail
          exact post_val (Below.refl _ _)
        simp only [Act.put, List.setIfInBounds_toArray, List.set_cons_zero, List.set_cons_succ]
        refine SeqG.valStep (fun wv hbv hpv => ?_) ?_
        · skip
          go_wp2_with fail
          exact post_val (Below.refl _ _)
        simp only [Act.put, List.setIfInBounds_toArray, List.set_cons_zero, List.set_cons_succ]
        refine SeqG.valStep (fun wv hbv hpv => ?_) ?_
        · skip
          go_wp2_with fail
          exact post_val (Below.refl _ _)
        simp only [Act.put, List.setIfInBounds_toArray, List.set_cons_zero, List.set_cons_succ]
        refine SeqG.valStep (fun wv hbv hpv => ?_) ?_
        · go_wp2_with fail
          refine (wash_any _ _ _ _ _ _ hbd.1 (by omega) g3 g4 hq (by omega) (by omega) (by omega)).mono ?_; rintro e w' ⟨he, hb⟩; subst he
          go_wp2_with fail
          exact post_val hb
        simp only [Act.put, List.setIfInBounds_toArray, List.set_cons_zero, List.set_cons_succ]
        refine SeqG.fixStep (.inl ⟨rfl, fun _ => rfl⟩) ?_
        simp only [Act.put, List.setIfInBounds_toArray, List.set_cons_zero, List.set_cons_succ]
        refine SeqG.fixStep (.inl ⟨rfl, fun _ => rfl⟩) ?_
        simp only [Act.put, List.setIfInBounds_toArray, List.set_cons_zero, List.set_cons_succ]
        refine SeqG.fixStep (.inl ⟨rfl, fun _ => rfl⟩) ?_
        simp only [Act.put, List.setIfInBounds_toArray, List.set_cons_zero, List.set_cons_succ]
        refine SeqG.done fun wv hbv hpv => ?_
        have r1' := r1.below' hbv
        have r2' := (r2.below' hbv).far3 (g' := p1) (Ne.symm hne) 0 1 2 (.int .i64 a) (.int .i64 (iterW d wt (water / m) (n + 1))) (.int .i64 wt)
        have cg := r1'.cell
        have fg := r1'.frozen
        have k3 := r1'.set3 (.int .i64 a) (.int .i64 (iterW d wt (water / m) (n + 1))) (.int .i64 wt)
        have hb3 : Below p1 w (((wv.setCell ⟨p1, 0, none⟩ (.int .i64 a)).setCell ⟨p1, 1, none⟩ (.int .i64 (iterW d wt (water / m) (n + 1)))).setCell ⟨p1, 2, none⟩ (.int .i64 wt)) := by
          have := r1.lt
          (repeat (first | exact Below.refl _ _ | refine Below.drew ?_ | refine below_drewN ?_ _ | (refine Below.alloc ?_ (by (try simp) <;> omega) _) | (refine Below.setCell ?_ (by (try simp) <;> omega) _) | (refine Below.trans ?_ (Below.mono (by assumption) (by (try simp) <;> omega)))))
        go_wp2_with fail
        refine NoPan.normal ?_
        generalize (((wv.setCell ⟨p1, 0, none⟩ (.int .i64 a)).setCell ⟨p1, 1, none⟩ (.int .i64 (iterW d wt (water / m) (n + 1)))).setCell ⟨p1, 2, none⟩ (.int .i64 wt)) = W3 at *
        clear r1' cg fg hbv hpv
        go_wp2
        go_roundw
        case rel => exact ⟨n + 1, by go_num, by omega, k3, r2', hb3⟩
        case measure => simp only [intOf]; omega
      · obtain rfl : n = m := by omega
        have c1 := r1.cell
        have c2 := r2.cell
        have f2 := r2.frozen
        go_wp2
        refine bodyPost_ret (v := .tuple #[.agg #[.int .i64 a, .int .i64 (iterW d wt (water / n) n), .int .i64 wt], .bool true]) (by simp [results, Try.results29, go_sem, *] <;> rfl) rfl ?_
        exact ⟨by rw [Hv.out]; rfl, by have := Hg1.out; have := Hg2.out; (repeat (first | exact Below.refl _ _ | refine Below.drew ?_ | refine below_drewN ?_ _ | (refine Below.alloc ?_ (by (try simp) <;> omega) _) | (refine Below.setCell ?_ (by (try simp) <;> omega) _) | (refine Below.trans ?_ (Below.mono (by assumption) (by (try simp) <;> omega)))))⟩
  · have Hv := Lib.hid (show stagesV a d wt water st = noneS by simp [stagesV, h3])
    have hm : (water % st != 0) = true := by simpa using h3
    clear h3
    go_enter Try.func29, Try.ntmps29
    go_wp2_with fail
    refine (IsBatch_any _ _ _ _).mono ?_; rintro e w1 ⟨rfl, hb1⟩
    have z1 := hb1.size
    try simp at z1
    obtain ⟨c1_0, f1_0⟩ := bblk hb1 (g := w.heap.size) (by (try simp) <;> omega)
    have l1_0 : w.heap.size < w1.heap.size := by omega
    obtain ⟨c1_1, f1_1⟩ := bblk hb1 (g := w.heap.size + 1) (by (try simp) <;> omega)
    have l1_1 : w.heap.size + 1 < w1.heap.size := by omega
    go_wp2_with (first | (go_at_call 57; refine (isWashing_any _ _).mono ?_; rintro e w' ⟨rfl, rfl⟩) | (go_at_call 50; refine (within_any _ _ _ _).mono ?_; rintro e w' ⟨rfl, rfl⟩))
    refine bodyPost_ret (v := noneS) (by simp [results, Try.results29, go_sem, *] <;> rfl) rfl ?_
    exact ⟨by rw [Hv.out], by (repeat (first | exact Below.refl _ _ | refine Below.drew ?_ | refine below_drewN ?_ _ | (refine Below.alloc ?_ (by (try simp) <;> omega) _) | (refine Below.setCell ?_ (by (try simp) <;> omega) _) | (refine Below.trans ?_ (Below.mono (by assumption) (by (try simp) <;> omega)))))⟩
end Go.Proofs.Ytpgoenhekmoedaa
