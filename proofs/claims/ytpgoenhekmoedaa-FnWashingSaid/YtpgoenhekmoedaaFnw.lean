/-
  The law FnWashing, walked.
-/
import Derived.Test.YtpgoenhekmoedaaDrawB3
import Derived.Test.YtpgoenhekmoedaaLaws1
import Derived.Deep.DeepCutAuto
namespace Go.Proofs.Ytpgoenhekmoedaa
open Go.RowKit

/-! ### the plain facts -/
theorem afterWash_plain {a d wt water dirt x y z n : Int} (h : afterWashV a d wt water dirt = .tuple #[.agg #[.int .i64 x, .int .i64 y, .int .i64 z], .int .i64 n, .bool true]) :
    (0 ≤ d ∧ d ≤ 100000000) ∧ (0 ≤ dirt ∧ dirt ≤ 100000000) ∧ (0 ≤ y ∧ y ≤ 100000000) ∧ y + n = d + dirt ∧ 0 ≤ n ∧ x = a ∧ z = wt := by
  unfold afterWashV at h
  split at h
  · rename_i h1
    rw [Bool.and_eq_true] at h1
    obtain ⟨h1, h2⟩ := h1
    obtain ⟨⟨_, ⟨g1, g2⟩, g3, g4⟩, ⟨g5, g6⟩, g7, g8⟩ := waterOk_iff.1 h1
    obtain ⟨_, ⟨g9, g10⟩, _⟩ := isBatch_iff.1 h2
    have hq := washD_bd (d := d) (dirt := dirt) (by omega) g3 g5
    simp at h
    obtain ⟨⟨rfl, rfl, rfl⟩, rfl⟩ := h
    exact ⟨⟨g1, g2⟩, ⟨g7, by omega⟩, ⟨g9, g10⟩, by omega, by omega, rfl, rfl⟩
  · simp [none3] at h
/-- The told water suffices; less does not. -/
theorem water_plain {a d wt limit m : Int} (h : wnV a d wt limit = .tuple #[.int .i64 m, .bool true]) (hm : 0 < m) :
    (∃ y, afterWashV a d wt m 0 = .tuple #[.agg #[.int .i64 a, .int .i64 y, .int .i64 wt], .int .i64 (d + 0 - y), .bool true] ∧ y ≤ limit) ∧
    (1 < m → ∃ y, afterWashV a d wt (m - 1) 0 = .tuple #[.agg #[.int .i64 a, .int .i64 y, .int .i64 wt], .int .i64 (d + 0 - y), .bool true] ∧ limit < y) ∧ m ≤ 100000000 := by
  have key : ∀ k, isBatch a d wt = true → 1 ≤ k → k ≤ 100000000 → afterWashV a d wt k 0 = .tuple #[.agg #[.int .i64 a, .int .i64 (washD d wt k 0), .int .i64 wt], .int .i64 (d + 0 - washD d wt k 0), .bool true] := fun k hB h1 h2 => by
    obtain ⟨⟨b1, b2⟩, ⟨b3, b4⟩, b5, b6⟩ := isBatch_iff.1 hB
    have hq := washD_bd (d := d) (dirt := 0) (wt := wt) (water := k) (by omega) b5 h1
    have w1 : waterOk a d wt k 0 = true := waterOk_iff.2 ⟨⟨⟨b1, b2⟩, ⟨b3, b4⟩, b5, b6⟩, ⟨h1, h2⟩, by omega, by omega⟩
    have w2 : isBatch a (washD d wt k 0) wt = true := isBatch_iff.2 ⟨⟨b1, b2⟩, ⟨by omega, by omega⟩, b5, b6⟩
    unfold afterWashV; rw [w1, w2]; rfl
  unfold wnV at h
  split at h
  rotate_left
  · simp [noneI] at h
  rename_i h1
  rw [Bool.and_eq_true, decide_eq_true_eq] at h1
  obtain ⟨hB, hl⟩ := h1
  obtain ⟨⟨b1, b2⟩, ⟨b3, b4⟩, b5, b6⟩ := isBatch_iff.1 hB
  split at h
  · simp at h; omega
  rename_i hd
  split at h
  · rename_i h0
    simp at h
    subst h h0
    refine ⟨⟨_, key 1 hB (by omega) (by omega), ?_⟩, fun h => by omega, by omega⟩
    rw [washD_le_iff (by omega) (by omega)]
    simp only [Int.mul_zero]
    exact Int.mul_nonneg hl (by omega)
  rename_i h0
  split at h
  · simp [noneI] at h
  rename_i hl0
  split at h
  rotate_left
  · simp [noneI] at h
  rename_i hle
  simp at h
  subst h
  have h1 : 1 ≤ leastW d wt limit := by unfold leastW; omega
  refine ⟨⟨_, key _ hB h1 hle, (leastW_spec b5 (by omega) h1).2 (Int.le_refl _)⟩, fun h2 => ⟨_, key _ hB (by omega) (by omega), ?_⟩, hle⟩
  have := (leastW_spec (d := d) (wt := wt) (limit := limit) (m := leastW d wt limit - 1) b5 (by omega) (by omega))
  rcases Int.lt_or_le limit (washD d wt (leastW d wt limit - 1) 0) with h | h
  · exact h
  · have := this.1 h; omega
theorem stages_plain {a d wt water st x y z : Int} (h : stagesV a d wt water st = .tuple #[.agg #[.int .i64 x, .int .i64 y, .int .i64 z], .bool true]) : y ≤ d := by
  unfold stagesV at h
  split at h
  · rename_i h1
    simp only [Bool.and_eq_true, decide_eq_true_eq] at h1
    obtain ⟨⟨⟨hB, hw⟩, hs⟩, hm⟩ := h1
    obtain ⟨⟨b1, b2⟩, ⟨b3, b4⟩, b5, b6⟩ := isBatch_iff.1 hB
    obtain ⟨w1, w2⟩ := inB_iff.1 hw
    obtain ⟨s1, s2⟩ := inB_iff.1 hs
    obtain ⟨n, rfl⟩ := Int.eq_ofNat_of_zero_le (show 0 ≤ st by omega)
    simp at h
    obtain ⟨-, h2, -⟩ := h
    rw [← h2]
    exact (iterW_bd b3 b5 (quo_ge water n w1 s1 hm) _).2
  · simp [noneS] at h
theorem needed_plain {a d wt water limit k : Int} (h : snV a d wt water limit = .tuple #[.int .i64 k, .bool true]) :
    ∃ y, stagesV a d wt water k = .tuple #[.agg #[.int .i64 a, .int .i64 y, .int .i64 wt], .bool true] ∧ y ≤ limit := by
  unfold snV at h
  split at h
  rotate_left
  · simp [noneI] at h
  split at h
  rotate_left
  · simp [noneI] at h
  rename_i k' hf
  simp at h
  subst h
  have h1 := List.find?_some hf
  have h2 := List.mem_of_find?_eq_some hf
  have h3 : 1 ≤ k' ∧ k' ≤ 6 := by
    simp only [List.mem_cons, List.not_mem_nil, or_false] at h2
    omega
  simp only [snC, snB, Bool.and_eq_true, decide_eq_true_eq] at h1
  obtain ⟨⟨hB, hw⟩, hm, hle⟩ := h1
  refine ⟨iterW d wt (water / k') k'.toNat, ?_, hle⟩
  unfold stagesV
  rw [hB, hw, inB_true h3, decide_eq_true hm]
  rfl

set_option maxHeartbeats 400000 in
theorem vBig_any (A : Option Addr) (n c : Nat) (w : World) :
    Calls Try.prog 39 #[.slice A n c] w fun e w' => e = .returned (.bool (decide ((65536 : Int) < n))) ∧ w = w' := by
  go_enter Try.func39, Try.ntmps39
  go_wp2
  go_ret
  exact ⟨rfl, rfl⟩


set_option maxHeartbeats 8000000 in
set_option maxRecDepth 100000 in
theorem walk_FnWashing (A : Option Addr) (c : Nat) (L : List Int) (hI : ∀ x ∈ L, 0 ≤ x ∧ x ≤ 255) (wo : World) (hs : SlR fb 1 wo wo.heap.size A L) :
    Calls Try.prog 12 #[.slice A L.length c] wo fun e w' => e = .returned (.bool true) ∧ Below wo.heap.size wo w' := by
  by_cases hl : (65536 : Int) < L.length
  · go_enter Try.func12, Try.ntmps12
    go_wp2_with (go_at_call 39; refine (vBig_any _ _ _ _).mono ?_; rintro e w' ⟨rfl, rfl⟩)
    go_ret
    exact ⟨rfl, Below.refl _ _⟩
  have hl : (L.length : Int) ≤ 65536 := by omega
  have hz0 : (0 : Int) ≤ L.length := by omega
  go_enter Try.func12, Try.ntmps12
  go_wp2_with (go_at_call 39; refine (vBig_any _ _ _ _).mono ?_; rintro e w' ⟨rfl, rfl⟩)
  refine (DrawAfterWash_any A c L _ hI hl hs).mono ?_; rintro e w1 ⟨v, rfl, ⟨s, d, t, wa, di, rfl, -, i1, i2⟩, hb1⟩
  have hb01 := hb1
  have z1 := hb1.size
  obtain ⟨x, y, z, n, u, hj⟩ := afterWashV_form s d t wa di
  have HJ := Lib.hid hj
  have Hj := Lib.hid hj; clear hj
  have k1 := Blk.new w1 25 #[.int .i64 s, .int .i64 d, .int .i64 t]
  go_wp2_with fail
  refine (AfterWash_any _ _ _ _ _ _).mono ?_; rintro e w2 ⟨he, hb2⟩; rw [Hj.out] at he; subst he
  have z2 := hb2.size
  try simp at z2
  have k1' := k1.below' hb2
  have k2 := Blk.new w2 25 #[.int .i64 x, .int .i64 y, .int .i64 z]
  have c1 := (k1'.alloc (.cells #[.int .i64 x, .int .i64 y, .int .i64 z] 25)).cell
  have l1 := k1'.lt
  go_wp2_with fail
  refine (SAfterWash_any _ _ _ _ _ _).mono ?_; rintro e w3 ⟨he, hb3⟩; rw [Hj.out] at he; subst he
  have z3 := hb3.size
  try simp at z3
  have k1'' := (k1'.alloc (.cells #[.int .i64 x, .int .i64 y, .int .i64 z] 25)).below' hb3
  have k2' := k2.below' hb3
  have k3 := Blk.new w3 25 #[.int .i64 x, .int .i64 y, .int .i64 z]
  have hb03 : Below wo.heap.size wo (w3.alloc (.cells #[.int .i64 x, .int .i64 y, .int .i64 z] 25)) := by (repeat (first | exact Below.refl _ _ | refine Below.drew ?_ | refine below_drewN ?_ _ | (refine Below.alloc ?_ (by (try simp) <;> omega) _) | (refine Below.setCell ?_ (by (try simp) <;> omega) _) | (refine Below.trans ?_ (Below.mono (by assumption) (by (try simp) <;> omega)))))
  have j1 := k1''.alloc (.cells #[.int .i64 x, .int .i64 y, .int .i64 z] 25)
  have j2 := k2'.alloc (.cells #[.int .i64 x, .int .i64 y, .int .i64 z] 25)
  have hs3 := hs.next hb03
  go_wp2_with fail
  clear k1 k1' k1'' k2 k2' c1 l1 hb1 hb2 hb3 hb01 z1 z2 z3
  generalize w1.heap.size = p1 at *
  generalize w2.heap.size = p2 at *
  generalize w3.heap.size = p3 at *
  generalize w3.alloc (.cells #[.int .i64 x, .int .i64 y, .int .i64 z] 25) = W at *
  clear w1 w2 w3
  have E1 := neI n
  have E2 := neB u
  have E3 := neB (isBatch s d t)
  refine wp_region_grow [.fix (.bool u), .fix (.bool u), .val (.bool false), .fix (.bool false), .val (.agg #[.int .i64 x, .int .i64 y, .int .i64 z]), .val (.agg #[.int .i64 x, .int .i64 y, .int .i64 z]), .val (.bool false), .fix (.bool false), .fix (.bool false), .fix (.int .i64 n), .fix (.int .i64 n), .val (.bool false), .fix (.bool false), .fix (.bool false), .val (.agg #[.int .i64 s, .int .i64 d, .int .i64 t]), .val (.bool (isBatch s d t)), .val (.agg #[.int .i64 s, .int .i64 d, .int .i64 t]), .val (.bool (isBatch s d t)), .val (.bool false), .fix (.bool false)] mixed (by kernel_rfl) ?_
  refine SeqG.fixStep (.inl ⟨rfl, fun _ => rfl⟩) ?_
  simp only [Act.put, List.setIfInBounds_toArray, List.set_cons_zero, List.set_cons_succ]
  refine SeqG.fixStep (.inl ⟨rfl, fun _ => rfl⟩) ?_
  simp only [Act.put, List.setIfInBounds_toArray, List.set_cons_zero, List.set_cons_succ]
  refine SeqG.valStep (fun wv hbv hpv => ?_) ?_
  · skip
    go_wp2_with fail
    exact post_val (Below.refl _ _)
  simp only [Act.put, List.setIfInBounds_toArray, List.set_cons_zero, List.set_cons_succ]
  refine SeqG.fixStep (.inl ⟨rfl, fun _ => rfl⟩) ?_
  simp only [Act.put, List.setIfInBounds_toArray, List.set_cons_zero, List.set_cons_succ]
  refine SeqG.valStep (fun wv hbv hpv => ?_) ?_
  · have q2 := (j2.below' hbv).cell
    go_wp2_with fail
    exact post_val (Below.refl _ _)
  simp only [Act.put, List.setIfInBounds_toArray, List.set_cons_zero, List.set_cons_succ]
  refine SeqG.valStep (fun wv hbv hpv => ?_) ?_
  · have q3 := (k3.below' hbv).cell
    go_wp2_with fail
    exact post_val (Below.refl _ _)
  simp only [Act.put, List.setIfInBounds_toArray, List.set_cons_zero, List.set_cons_succ]
  refine SeqG.valStep (fun wv hbv hpv => ?_) ?_
  · skip
    go_wp2_with fail
    exact post_val (Below.refl _ _)
  simp only [Act.put, List.setIfInBounds_toArray, List.set_cons_zero, List.set_cons_succ]
  refine SeqG.fixStep (.inl ⟨rfl, fun _ => rfl⟩) ?_
  simp only [Act.put, List.setIfInBounds_toArray, List.set_cons_zero, List.set_cons_succ]
  refine SeqG.fixStep (.inl ⟨rfl, fun _ => rfl⟩) ?_
  simp only [Act.put, List.setIfInBounds_toArray, List.set_cons_zero, List.set_cons_succ]
  refine SeqG.fixStep (.inl ⟨rfl, fun _ => rfl⟩) ?_
  simp only [Act.put, List.setIfInBounds_toArray, List.set_cons_zero, List.set_cons_succ]
  refine SeqG.fixStep (.inl ⟨rfl, fun _ => rfl⟩) ?_
  simp only [Act.put, List.setIfInBounds_toArray, List.set_cons_zero, List.set_cons_succ]
  refine SeqG.valStep (fun wv hbv hpv => ?_) ?_
  · skip
    go_wp2_with fail
    exact post_val (Below.refl _ _)
  simp only [Act.put, List.setIfInBounds_toArray, List.set_cons_zero, List.set_cons_succ]
  refine SeqG.fixStep (.inl ⟨rfl, fun _ => rfl⟩) ?_
  simp only [Act.put, List.setIfInBounds_toArray, List.set_cons_zero, List.set_cons_succ]
  refine SeqG.fixStep (.inl ⟨rfl, fun _ => rfl⟩) ?_
  simp only [Act.put, List.setIfInBounds_toArray, List.set_cons_zero, List.set_cons_succ]
  refine SeqG.valStep (fun wv hbv hpv => ?_) ?_
  · have q1 := (j1.below' hbv).cell
    go_wp2_with fail
    exact post_val (Below.refl _ _)
  simp only [Act.put, List.setIfInBounds_toArray, List.set_cons_zero, List.set_cons_succ]
  refine SeqG.valStep (fun wv hbv hpv => ?_) ?_
  · go_wp2_with fail
    refine (IsBatch_any _ _ _ _).mono ?_; rintro e w' ⟨he, hb⟩; subst he
    go_wp2_with fail
    exact post_val hb
  simp only [Act.put, List.setIfInBounds_toArray, List.set_cons_zero, List.set_cons_succ]
  refine SeqG.valStep (fun wv hbv hpv => ?_) ?_
  · have q1 := (j1.below' hbv).cell
    go_wp2_with fail
    exact post_val (Below.refl _ _)
  simp only [Act.put, List.setIfInBounds_toArray, List.set_cons_zero, List.set_cons_succ]
  refine SeqG.valStep (fun wv hbv hpv => ?_) ?_
  · go_wp2_with fail
    refine (SIsBatch_any _ _ _ _).mono ?_; rintro e w' ⟨he, hb⟩; subst he
    go_wp2_with fail
    exact post_val hb
  simp only [Act.put, List.setIfInBounds_toArray, List.set_cons_zero, List.set_cons_succ]
  refine SeqG.valStep (fun wv hbv hpv => ?_) ?_
  · skip
    go_wp2_with fail
    exact post_val (Below.refl _ _)
  simp only [Act.put, List.setIfInBounds_toArray, List.set_cons_zero, List.set_cons_succ]
  refine SeqG.fixStep (.inl ⟨rfl, fun _ => rfl⟩) ?_
  simp only [Act.put, List.setIfInBounds_toArray, List.set_cons_zero, List.set_cons_succ]
  refine SeqG.done fun wv hbv hpv => ?_
  refine NoPan.normal ?_
  clear hpv
  have j1' := j1.below' hbv
  have j2' := j2.below' hbv
  have hbw := hb03.trans (hbv.mono hb03.size)
  have hsw := hs3.next hbv
  clear j1 j2 k3 hb03 hs3 hbv E1 E2 E3
  clear Hj
  go_upto_region 8 with fail
  go_cut [113] (fun v wx => v = .bool false ∧ Below wo.heap.size wo wx)
  case first => as_aux_lemma =>
    have c1 := j1'.cell
    have c2 := j2'.cell
    cases u
    · go_wp2_with fail
      go_meet
      exact ⟨rfl, hbw⟩
    · obtain ⟨⟨q1, q2⟩, ⟨q3, q4⟩, ⟨q5, q6⟩, q7, q8, rfl, rfl⟩ := afterWash_plain HJ.out
      have q9 : (y + n != d + di) = false := by rw [q7]; simp
      have q10 := neI x
      have q11 := neI z
      have q12 : n ≤ 200000000 := by omega
      have q13 : decide (n < 0) = false := by rw [decide_eq_false_iff_not]; omega
      have Q7 := Lib.hid q7; clear q7
      go_wp2_with fail
      go_meet
      exact ⟨rfl, hbw⟩
  case rest => as_aux_lemma =>
    obtain ⟨rfl, hb4⟩ := hcut
    clear hbw hsw j1' j2' HJ i1 i2
    go_wp2_with fail
    refine (DrawWaterNeeded_any A c L _ hI hl (hs.next hb4)).mono ?_; rintro e w1 ⟨v, rfl, ⟨s, d, t, li, rfl, -, i1⟩, hb1⟩
    have z1 := hb1.size
    have z0 := hb4.size
    have i2 := i1.2
    obtain ⟨n, u, hj⟩ := wnV_form s d t li
    have HJ := Lib.hid hj
    have Hj := Lib.hid hj; clear hj
    have k1 := Blk.new w1 25 #[.int .i64 s, .int .i64 d, .int .i64 t]
    go_wp2_with fail
    refine (WaterNeeded_any _ _ _ _ i2 _).mono ?_; rintro e w2 ⟨he, hb2⟩; rw [Hj.out] at he; subst he
    have z2 := hb2.size
    try simp at z2
    have k1' := k1.below' hb2
    have c1 := k1'.cell
    have l1 := k1'.lt
    go_wp2_with fail
    refine (SWaterNeeded_any _ _ _ _ _).mono ?_; rintro e w3 ⟨he, hb3⟩; rw [Hj.out] at he; subst he
    have z3 := hb3.size
    try simp at z3
    have k2' := k1'.below' hb3
    have E1 := neI n
    have E2 := neB u
    have hb03 : Below wo.heap.size wo w3 := by (repeat (first | exact Below.refl _ _ | refine Below.drew ?_ | refine below_drewN ?_ _ | (refine Below.alloc ?_ (by (try simp) <;> omega) _) | (refine Below.setCell ?_ (by (try simp) <;> omega) _) | (refine Below.trans ?_ (Below.mono (by assumption) (by (try simp) <;> omega)))))
    go_upto_region 15 with fail
    clear k1 k1' c1 l1 hb1 hb2 hb3 z1 z2 z3 hb4
    generalize w1.heap.size = p1 at *
    clear z0
    clear w1 w2 wc
    go_cut [143] (fun v wx => v = .bool (u && decide (0 < n)) ∧ wx = w3)
    case first => as_aux_lemma =>
      cases u
      · go_wp2_with fail
        go_meet
        exact ⟨by simp, rfl⟩
      · by_cases hn : 0 < n
        · go_wp2_with fail
          go_meet
          exact ⟨by simp [hn], rfl⟩
        · go_wp2_with fail
          go_meet
          exact ⟨by simp [hn], rfl⟩
    case rest => as_aux_lemma =>
      obtain ⟨rfl, rfl⟩ := hcut
      go_upto_if 143 with fail
      go_cut [] (fun wx => Below wo.heap.size wo wx)
      case first => as_aux_lemma =>
        cases hq : (u && decide (0 < n))
        · go_wp2_with fail
          go_meet
          exact hb03
        · rw [Bool.and_eq_true, decide_eq_true_eq] at hq
          obtain ⟨rfl, hn⟩ := hq
          obtain ⟨⟨y, hy, hyl⟩, hless, hn2⟩ := water_plain HJ.out hn
          have Hy := Lib.hid hy; clear hy
          have Hless := Lib.hid hless; clear hless
          have c1 := k2'.cell
          have l1 := k2'.lt
          have z0 := hb03.size
          go_wp2_with fail
          refine (AfterWash_any _ _ _ _ _ _).mono ?_; rintro e w4 ⟨he, hb4⟩; rw [Hy.out] at he; subst he
          have z4 := hb4.size
          try simp at z4
          have k4 := k2'.below' hb4
          have q1 : decide (li < y) = false := by rw [decide_eq_false_iff_not]; omega
          have c4 := (k4.alloc (.cells #[.int .i64 s, .int .i64 y, .int .i64 t] 25)).cell
          by_cases h1 : 1 < n
          · obtain ⟨y2, hy2, hl2⟩ := Hless.out h1
            have Hy2 := Lib.hid hy2; clear hy2
            have q2 : decide (y2 ≤ li) = false := by rw [decide_eq_false_iff_not]; omega
            go_wp2_with fail
            refine (AfterWash_any _ _ _ _ _ _).mono ?_; rintro e w5 ⟨he, hb5⟩; rw [Hy2.out] at he; subst he
            have z5 := hb5.size
            try simp at z5
            go_wp2_with fail
            go_meet
            (repeat (first | exact Below.refl _ _ | refine Below.drew ?_ | refine below_drewN ?_ _ | (refine Below.alloc ?_ (by (try simp) <;> omega) _) | (refine Below.setCell ?_ (by (try simp) <;> omega) _) | (refine Below.trans ?_ (Below.mono (by assumption) (by (try simp) <;> omega)))))
          · go_wp2_with fail
            go_meet
            (repeat (first | exact Below.refl _ _ | refine Below.drew ?_ | refine below_drewN ?_ _ | (refine Below.alloc ?_ (by (try simp) <;> omega) _) | (refine Below.setCell ?_ (by (try simp) <;> omega) _) | (refine Below.trans ?_ (Below.mono (by assumption) (by (try simp) <;> omega)))))
      case rest => as_aux_lemma =>
        have hb4 := hcut; clear hcut
        clear HJ k2' hb03 E1 E2 i1 i2
        go_wp2_with fail
        refine (DrawAfterStages_any A c L _ hI hl (hs.next hb4)).mono ?_; rintro e w1 ⟨v, rfl, ⟨s, d, t, wa, st, rfl, -, -, -⟩, hb1⟩
        have z1 := hb1.size
        have z0 := hb4.size
        obtain ⟨x, y, z, u, hj⟩ := stagesV_form s d t wa st
        have HJ := Lib.hid hj
        have Hj := Lib.hid hj; clear hj
        have k1 := Blk.new w1 25 #[.int .i64 s, .int .i64 d, .int .i64 t]
        go_wp2_with fail
        refine (AfterStages_any _ _ _ _ _ _).mono ?_; rintro e w2 ⟨he, hb2⟩; rw [Hj.out] at he; subst he
        have z2 := hb2.size
        try simp at z2
        have k1' := k1.below' hb2
        have k2 := Blk.new w2 25 #[.int .i64 x, .int .i64 y, .int .i64 z]
        have c1 := (k1'.alloc (.cells #[.int .i64 x, .int .i64 y, .int .i64 z] 25)).cell
        have l1 := k1'.lt
        go_wp2_with fail
        refine (SAfterStages_any _ _ _ _ _ _).mono ?_; rintro e w3 ⟨he, hb3⟩; rw [Hj.out] at he; subst he
        have z3 := hb3.size
        try simp at z3
        have k1'' := (k1'.alloc (.cells #[.int .i64 x, .int .i64 y, .int .i64 z] 25)).below' hb3
        have k2' := k2.below' hb3
        have k3 := Blk.new w3 25 #[.int .i64 x, .int .i64 y, .int .i64 z]
        have hb03 : Below wo.heap.size wo (w3.alloc (.cells #[.int .i64 x, .int .i64 y, .int .i64 z] 25)) := by (repeat (first | exact Below.refl _ _ | refine Below.drew ?_ | refine below_drewN ?_ _ | (refine Below.alloc ?_ (by (try simp) <;> omega) _) | (refine Below.setCell ?_ (by (try simp) <;> omega) _) | (refine Below.trans ?_ (Below.mono (by assumption) (by (try simp) <;> omega)))))
        have j1 := k1''.alloc (.cells #[.int .i64 x, .int .i64 y, .int .i64 z] 25)
        have j2 := k2'.alloc (.cells #[.int .i64 x, .int .i64 y, .int .i64 z] 25)
        go_upto_region 26 with fail
        clear k1 k1' k1'' k2 k2' c1 l1 hb1 hb2 hb3 z0 z1 z2 z3 hb4 Hj
        generalize w1.heap.size = p1 at *
        generalize w2.heap.size = p2 at *
        generalize w3.heap.size = p3 at *
        generalize w3.alloc (.cells #[.int .i64 x, .int .i64 y, .int .i64 z] 25) = W at *
        clear w1 w2 w3
        go_cut [214] (fun v wx => v = .bool false ∧ Below wo.heap.size wo wx)
        case first => as_aux_lemma =>
          have c1 := j1.cell
          have c2 := j2.cell
          have c3 := k3.cell
          cases u
          · go_wp2_with fail
            go_meet
            exact ⟨rfl, hb03⟩
          · have q1 := stages_plain HJ.out
            have q2 : decide (d < y) = false := by rw [decide_eq_false_iff_not]; omega
            go_wp2_with fail
            go_meet
            exact ⟨rfl, hb03⟩
        case rest => as_aux_lemma =>
          obtain ⟨rfl, hb4⟩ := hcut
          clear HJ j1 j2 k3 hb03
          go_wp2_with fail
          refine (DrawStagesNeeded_any A c L _ hI hl (hs.next hb4)).mono ?_; rintro e w1 ⟨v, rfl, ⟨s, d, t, wa, li, rfl, -, -, i2⟩, hb1⟩
          have z1 := hb1.size
          have z0 := hb4.size
          have i3 := i2.2
          obtain ⟨n, u, hj⟩ := snV_form s d t wa li
          have HJ := Lib.hid hj
          have Hj := Lib.hid hj; clear hj
          have k1 := Blk.new w1 25 #[.int .i64 s, .int .i64 d, .int .i64 t]
          go_wp2_with fail
          refine (StagesNeeded_any _ _ _ _ _ _).mono ?_; rintro e w2 ⟨he, hb2⟩; rw [Hj.out] at he; subst he
          have z2 := hb2.size
          try simp at z2
          have k1' := k1.below' hb2
          have c1 := k1'.cell
          have l1 := k1'.lt
          go_wp2_with fail
          refine (SStagesNeeded_any _ _ _ _ _ _).mono ?_; rintro e w3 ⟨he, hb3⟩; rw [Hj.out] at he; subst he
          have z3 := hb3.size
          try simp at z3
          have k2' := k1'.below' hb3
          have E1 := neI n
          have E2 := neB u
          have hb03 : Below wo.heap.size wo w3 := by (repeat (first | exact Below.refl _ _ | refine Below.drew ?_ | refine below_drewN ?_ _ | (refine Below.alloc ?_ (by (try simp) <;> omega) _) | (refine Below.setCell ?_ (by (try simp) <;> omega) _) | (refine Below.trans ?_ (Below.mono (by assumption) (by (try simp) <;> omega)))))
          go_upto_region 33 with fail
          clear k1 k1' c1 l1 hb1 hb2 hb3 z0 z1 z2 z3 hb4 Hj
          generalize w1.heap.size = p1 at *
          clear w1 w2 wc
          have c1 := k2'.cell
          have l1 := k2'.lt
          have z0 := hb03.size
          cases u
          · go_wp2
            go_ret
            exact ⟨rfl, hb03⟩
          · obtain ⟨y, hy, hle⟩ := needed_plain HJ.out
            have Hy := Lib.hid hy; clear hy
            have q1 : decide (y ≤ li) = true := by rw [decide_eq_true_eq]; omega
            go_wp2_with fail
            refine (AfterStages_any _ _ _ _ _ _).mono ?_; rintro e w4 ⟨he, hb4⟩; rw [Hy.out] at he; subst he
            have z4 := hb4.size
            try simp at z4
            go_wp2
            go_ret
            exact ⟨rfl, by (repeat (first | exact Below.refl _ _ | refine Below.drew ?_ | refine below_drewN ?_ _ | (refine Below.alloc ?_ (by (try simp) <;> omega) _) | (refine Below.setCell ?_ (by (try simp) <;> omega) _) | (refine Below.trans ?_ (Below.mono (by assumption) (by (try simp) <;> omega)))))⟩
end Go.Proofs.Ytpgoenhekmoedaa

