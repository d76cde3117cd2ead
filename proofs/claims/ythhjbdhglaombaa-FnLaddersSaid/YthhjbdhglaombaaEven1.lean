/-
  EvenLadder: both programs.
-/
import Derived.Test.YthhjbdhglaombaaHRung
import Derived.Test.YthhjbdhglaombaaAppend
import Derived.Test.YthhjbdhglaombaaLad0
import Derived.WalkKit
import Derived.WalkSpells
import Derived.WalkLawsBesides
import Derived.Lib.Hide
import Derived.Deep.QuietTactic
import Derived.BigQuiet
import Derived.StillTailTactics
namespace Go.Proofs.Ythhjbdhglaombaa
open Go.RowKit

theorem NoPanL {P : Program} {ops : Array Oper} {Q : Exit → Act → World → Prop} {l : List Oper} {a : Act} {w : World} (h : wpList P ops Q l a w) : wpList P ops Q l a w := h
def evenB (n low high : Int) : Bool := inB n 1 8 && inB low 0 high && decide (high ≤ 1000)
def evenL (n low high : Int) : List (Int × Int) := if evenB n low high then tab n.toNat fun i => (low + (high - low) * i / n, low + (high - low) * (i + 1) / n) else []
theorem evenL_no {n low high : Int} (h : evenB n low high = false) : evenL n low high = [] := by simp [evenL, h]

set_option maxHeartbeats 4000000 in
theorem EvenLadder_any (n low high : Int) (w : World) :
    Calls Try.prog 20 #[.int .i64 n, .int .i64 low, .int .i64 high] w (NewSl2 f2 2 67 w (evenL n low high) (evenB n low high)) := by
  obtain ⟨i0, hi, hz0, hz1, hz2⟩ := info_parts infoRung
  cases h1 : inB n 1 8
  · have Hb := Lib.hid (show evenB n low high = false by simp [evenB, h1])
    have Hl := Lib.hid (evenL_no Hb.out)
    go_enter Try.func20, Try.ntmps20
    go_wp2_with fail
    refine (within_any _ _ _ _).mono ?_; rintro e w' ⟨rfl, rfl⟩
    rw [h1]
    go_wp2
    go_ret2
    exact ⟨_, 0, by rw [Hb.out, Hl.out]; rfl, by rw [Hl.out]; exact OwnR.nil, by (repeat (first | exact Below.refl _ _ | refine Below.drew ?_ | refine below_drewN ?_ _ | (refine Below.alloc ?_ (by (try simp) <;> omega) _) | (refine Below.setCell ?_ (by (try simp) <;> omega) _) | (refine Below.trans ?_ (Below.mono (by assumption) (by (try simp) <;> omega)))))⟩
  cases h2 : decide (low < 0)
  case true =>
    have Hb := Lib.hid (show evenB n low high = false by simp [evenB, inB]; simp at h2; omega)
    have Hl := Lib.hid (evenL_no Hb.out)
    go_enter Try.func20, Try.ntmps20
    go_wp2_with fail
    refine (within_any _ _ _ _).mono ?_; rintro e w' ⟨rfl, rfl⟩
    rw [h1]
    go_wp2
    go_ret2
    exact ⟨_, 0, by rw [Hb.out, Hl.out]; rfl, by rw [Hl.out]; exact OwnR.nil, by (repeat (first | exact Below.refl _ _ | refine Below.drew ?_ | refine below_drewN ?_ _ | (refine Below.alloc ?_ (by (try simp) <;> omega) _) | (refine Below.setCell ?_ (by (try simp) <;> omega) _) | (refine Below.trans ?_ (Below.mono (by assumption) (by (try simp) <;> omega)))))⟩
  cases h3 : decide (low > high)
  case true =>
    have Hb := Lib.hid (show evenB n low high = false by simp [evenB, inB]; simp at h3; omega)
    have Hl := Lib.hid (evenL_no Hb.out)
    go_enter Try.func20, Try.ntmps20
    go_wp2_with fail
    refine (within_any _ _ _ _).mono ?_; rintro e w' ⟨rfl, rfl⟩
    rw [h1]
    go_wp2
    go_ret2
    exact ⟨_, 0, by rw [Hb.out, Hl.out]; rfl, by rw [Hl.out]; exact OwnR.nil, by (repeat (first | exact Below.refl _ _ | refine Below.drew ?_ | refine below_drewN ?_ _ | (refine Below.alloc ?_ (by (try simp) <;> omega) _) | (refine Below.setCell ?_ (by (try simp) <;> omega) _) | (refine Below.trans ?_ (Below.mono (by assumption) (by (try simp) <;> omega)))))⟩
  cases h4 : decide (high > 1000)
  case true =>
    have Hb := Lib.hid (show evenB n low high = false by simp [evenB, inB]; simp at h4; omega)
    have Hl := Lib.hid (evenL_no Hb.out)
    go_enter Try.func20, Try.ntmps20
    go_wp2_with fail
    refine (within_any _ _ _ _).mono ?_; rintro e w' ⟨rfl, rfl⟩
    rw [h1]
    go_wp2
    go_ret2
    exact ⟨_, 0, by rw [Hb.out, Hl.out]; rfl, by rw [Hl.out]; exact OwnR.nil, by (repeat (first | exact Below.refl _ _ | refine Below.drew ?_ | refine below_drewN ?_ _ | (refine Below.alloc ?_ (by (try simp) <;> omega) _) | (refine Below.setCell ?_ (by (try simp) <;> omega) _) | (refine Below.trans ?_ (Below.mono (by assumption) (by (try simp) <;> omega)))))⟩
  simp at h2 h3 h4
  obtain ⟨D, rfl⟩ : ∃ D, high = low + D := ⟨high - low, by omega⟩
  have Hb := Lib.hid (show evenB n low (low + D) = true by have := inB_iff.1 h1; simp [evenB, inB]; omega)
  have Hl := Lib.hid (show evenL n low (low + D) = tab n.toNat fun i => (low + D * i / n, low + D * (i + 1) / n) by rw [evenL, Hb.out, show low + D - low = D by omega]; rfl)
  have hn := inB_iff.1 h1
  have hD : low + D - low = D := by omega
  have h3' : decide (low > low + D) = false := by simp; omega
  have h2' : decide (low < 0) = false := by simp; omega
  have h4' : decide (low + D > 1000) = false := by simp; omega
  go_enter Try.func20, Try.ntmps20
  go_wp2_with fail
  refine (within_any _ _ _ _).mono ?_; rintro e w' ⟨rfl, rfl⟩
  rw [h1]
  go_wp2
  go_loopw [27, 8] (fun i v wr => ∃ k : Nat, i = .int .i64 k ∧ (k : Int) ≤ n ∧ Gath f2 2 67 wr w.heap.size v (tab k fun i => (low + D * i / n, low + D * (i + 1) / n)) ∧ Below w.heap.size w wr) (fun i _ _ => (n - intOf i).toNat)
  case atStart => exact ⟨0, rfl, by omega, Gath.nil, by (repeat (first | exact Below.refl _ _ | refine Below.drew ?_ | refine below_drewN ?_ _ | (refine Below.alloc ?_ (by (try simp) <;> omega) _) | (refine Below.setCell ?_ (by (try simp) <;> omega) _) | (refine Below.trans ?_ (Below.mono (by assumption) (by (try simp) <;> omega)))))⟩
  case round =>
    obtain ⟨k, rfl, hk, hG, hb⟩ := hrel
    have zr := hb.size
    by_cases hlt : (k : Int) < n
    · have hk0 : (0 : Int) ≤ (k : Int) := by omega
      have hk8 : (k : Int) ≤ 8 := by omega
      have m0 : 0 ≤ D * (k : Int) := Int.mul_nonneg (by omega) (by omega)
      have m1 : D * (k : Int) ≤ 1000 * 8 := Int.mul_le_mul (by omega) (by omega) (by omega) (by omega)
      have m2 : 0 ≤ D * ((k : Int) + 1) := Int.mul_nonneg (by omega) (by omega)
      have m3 : D * ((k : Int) + 1) ≤ 1000 * 9 := Int.mul_le_mul (by omega) (by omega) (by omega) (by omega)
      have q0 : 0 ≤ D * (k : Int) / n := Int.ediv_nonneg m0 (by omega)
      have q1 : D * (k : Int) / n ≤ D * (k : Int) := Int.ediv_le_self _ m0
      have q2 : 0 ≤ D * ((k : Int) + 1) / n := Int.ediv_nonneg m2 (by omega)
      have q3 : D * ((k : Int) + 1) / n ≤ D * ((k : Int) + 1) := Int.ediv_le_self _ m2
      have hG0 := Lib.hid hG
      clear hG
      go_wp2
      refine wp_region_grow [.fix u8, .fix (.int .i64 low), .fix (.int .i64 (low + D)), .fix (.int .i64 low), .val (.int .i64 D), .fix (.int .i64 k), .val (.int .i64 (D * k)), .fix (.int .i64 n), .val (.int .i64 (D * k / n)), .val (.int .i64 (low + D * k / n)), .fix (.int .i64 low), .fix (.int .i64 (low + D)), .fix (.int .i64 low), .val (.int .i64 D), .fix (.int .i64 k), .val (.int .i64 (k + 1)), .val (.int .i64 (D * (k + 1))), .fix (.int .i64 n), .val (.int .i64 (D * (k + 1) / n)), .val (.int .i64 (low + D * (k + 1) / n)), .val (.agg #[.int .i64 (low + D * k / n), .int .i64 (low + D * (k + 1) / n)]), .pred (fun v w' => ∃ g, v = .slice (some ⟨g, 0, none⟩) 1 1 ∧ wr.heap.size ≤ g ∧ Blk w' g 67 #[.int .i64 (low + D * k / n), .int .i64 (low + D * (k + 1) / n)])] mixed (by kernel_rfl) ?_
      refine SeqG.fixStep (.inl ⟨rfl, fun _ => rfl⟩) ?_
      simp only [Act.put, List.setIfInBounds_toArray, List.set_cons_zero, List.set_cons_succ]
      refine SeqG.fixStep (.inl ⟨rfl, fun _ => rfl⟩) ?_
      simp only [Act.put, List.setIfInBounds_toArray, List.set_cons_zero, List.set_cons_succ]
      refine SeqG.fixStep (.inl ⟨rfl, fun _ => rfl⟩) ?_
      simp only [Act.put, List.setIfInBounds_toArray, List.set_cons_zero, List.set_cons_succ]
      refine SeqG.fixStep (.inl ⟨rfl, fun _ => rfl⟩) ?_
      simp only [Act.put, List.setIfInBounds_toArray, List.set_cons_zero, List.set_cons_succ]
      refine SeqG.valStep (fun wv hbv hpv => ?_) ?_
      · skip
        go_wp2_with fail
        exact post_val (Below.refl _ _)
      simp only [Act.put, List.setIfInBounds_toArray, List.set_cons_zero, List.set_cons_succ]
      refine SeqG.fixStep (.inl ⟨rfl, fun _ => rfl⟩) ?_
      simp only [Act.put, List.setIfInBounds_toArray, List.set_cons_zero, List.set_cons_succ]
      refine SeqG.valStep (fun wv hbv hpv => ?_) ?_
      · skip
        go_wp2_with fail
        exact post_val (Below.refl _ _)
      simp only [Act.put, List.setIfInBounds_toArray, List.set_cons_zero, List.set_cons_succ]
      refine SeqG.fixStep (.inl ⟨rfl, fun _ => rfl⟩) ?_
      simp only [Act.put, List.setIfInBounds_toArray, List.set_cons_zero, List.set_cons_succ]
      refine SeqG.valStep (fun wv hbv hpv => ?_) ?_
      · skip
        go_wp2_with fail
        exact post_val (Below.refl _ _)
      simp only [Act.put, List.setIfInBounds_toArray, List.set_cons_zero, List.set_cons_succ]
      refine SeqG.valStep (fun wv hbv hpv => ?_) ?_
      · skip
        go_wp2_with fail
        exact post_val (Below.refl _ _)
      simp only [Act.put, List.setIfInBounds_toArray, List.set_cons_zero, List.set_cons_succ]
      refine SeqG.fixStep (.inl ⟨rfl, fun _ => rfl⟩) ?_
      simp only [Act.put, List.setIfInBounds_toArray, List.set_cons_zero, List.set_cons_succ]
      refine SeqG.fixStep (.inl ⟨rfl, fun _ => rfl⟩) ?_
      simp only [Act.put, List.setIfInBounds_toArray, List.set_cons_zero, List.set_cons_succ]
      refine SeqG.fixStep (.inl ⟨rfl, fun _ => rfl⟩) ?_
      simp only [Act.put, List.setIfInBounds_toArray, List.set_cons_zero, List.set_cons_succ]
      refine SeqG.valStep (fun wv hbv hpv => ?_) ?_
      · skip
        go_wp2_with fail
        exact post_val (Below.refl _ _)
      simp only [Act.put, List.setIfInBounds_toArray, List.set_cons_zero, List.set_cons_succ]
      refine SeqG.fixStep (.inl ⟨rfl, fun _ => rfl⟩) ?_
      simp only [Act.put, List.setIfInBounds_toArray, List.set_cons_zero, List.set_cons_succ]
      refine SeqG.valStep (fun wv hbv hpv => ?_) ?_
      · skip
        go_wp2_with fail
        exact post_val (Below.refl _ _)
      simp only [Act.put, List.setIfInBounds_toArray, List.set_cons_zero, List.set_cons_succ]
      refine SeqG.valStep (fun wv hbv hpv => ?_) ?_
      · skip
        go_wp2_with fail
        exact post_val (Below.refl _ _)
      simp only [Act.put, List.setIfInBounds_toArray, List.set_cons_zero, List.set_cons_succ]
      refine SeqG.fixStep (.inl ⟨rfl, fun _ => rfl⟩) ?_
      simp only [Act.put, List.setIfInBounds_toArray, List.set_cons_zero, List.set_cons_succ]
      refine SeqG.valStep (fun wv hbv hpv => ?_) ?_
      · skip
        go_wp2_with fail
        exact post_val (Below.refl _ _)
      simp only [Act.put, List.setIfInBounds_toArray, List.set_cons_zero, List.set_cons_succ]
      refine SeqG.valStep (fun wv hbv hpv => ?_) ?_
      · skip
        go_wp2_with fail
        exact post_val (Below.refl _ _)
      simp only [Act.put, List.setIfInBounds_toArray, List.set_cons_zero, List.set_cons_succ]
      refine SeqG.valStep (fun wv hbv hpv => ?_) ?_
      · skip
        go_wp2_with fail
        exact post_val (Below.refl _ _)
      simp only [Act.put, List.setIfInBounds_toArray, List.set_cons_zero, List.set_cons_succ]
      refine SeqG.predStep (fun v w1 w2 hb h => by obtain ⟨g, h1, h2, h3⟩ := h; exact ⟨g, h1, h2, h3.below' hb⟩) (fun wv hbv hpv => ?_) (fun v => ?_)
      · go_wp2_with fail
        exact post_pred _ (by (repeat (first | exact Below.refl _ _ | refine Below.drew ?_ | refine below_drewN ?_ _ | (refine Below.alloc ?_ (by (try simp) <;> omega) _) | (refine Below.setCell ?_ (by (try simp) <;> omega) _) | (refine Below.trans ?_ (Below.mono (by assumption) (by (try simp) <;> omega)))))) ⟨_, rfl, hbv.size, Blk.new _ _ _⟩
      simp only [Act.put, List.setIfInBounds_toArray, List.set_cons_zero, List.set_cons_succ]
      refine SeqG.done fun wv hbv hpv => ?_
      obtain ⟨g, rfl, hg, kg⟩ := hpv _ (.head _)
      have hG := hG0.out.below hbv
      have zv := hbv.size
      have hbw : Below w.heap.size w wv := hb.trans (hbv.mono (by omega))
      clear hpv
      refine NoPanL ?_
      refine wpList_append_own _ rfl _ _ 25 rfl w.heap.size 67 i0 (.agg #[.int .i64 0, .int .i64 0]) 2 16 Try.underlying25 hi hz0 hz1 hz2 rfl (by decide) _ _ _ rfl hG ⟨g, 0, none⟩ 1 1 [.int .i64 (low + D * k / n), .int .i64 (low + D * (k + 1) / n)] rfl rfl ?_ ?_ ?_ ?_ ?_ ?_
      · intro j u hj
        rw [Go.WideShapes.add_plain, kg.cell]
        match j, hj with
        | 0, hj => simpa using hj
        | 1, hj => simpa using hj
      · intro u hu
        simp at hu
        rcases hu with rfl | rfl <;> rfl
      · rw [tab_len]; unfold maxLen; omega
      · rw [tab_len]; omega
      · omega
      intro v' w1 hown hgrow _
      have hG1 : Gath f2 2 67 w1 w.heap.size v' (tab (k + 1) fun i => (low + D * i / n, low + D * (i + 1) / n)) := by
        rw [tab_succ]
        exact Gath.snoc hown
      have hb1 : Below w.heap.size w w1 := below_grown' hbw hgrow hG (Nat.le_refl _) (by omega)
      have hG2 := Lib.hid hG1
      clear hown hG hG0 hG1 hgrow hbv hbw kg
      go_wp2_with fail
      refine NoPan.normal ?_
      go_wp2
      go_roundw
      case rel => exact ⟨k + 1, by go_num, by omega, hG2.out, hb1⟩
      case measure => simp only [intOf]; omega
    · have hkn : (k : Int) = n := by omega
      have hkN : k = n.toNat := by omega
      obtain ⟨A, c, rfl, hO⟩ := Gath.own (f := f2) (m := 2) (fun _ => rfl) hG
      have Hl' := Lib.hid (show evenL n low (low + D) = tab k fun i => (low + D * i / n, low + D * (i + 1) / n) by rw [Hl.out, hkN])
      have hO1 := Lib.hid hO
      clear hO hG
      rw [tab_len]
      clear hkN hkn
      go_wp2
      go_ret2
      exact ⟨A, c, by rw [Hb.out, Hl'.out, tab_len]; rfl, by rw [Hl'.out]; exact hO1.out, hb⟩
end Go.Proofs.Ythhjbdhglaombaa
