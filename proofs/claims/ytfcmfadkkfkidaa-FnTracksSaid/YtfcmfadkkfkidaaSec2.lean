/-
  SectionTimes: the reference.
-/
import Derived.Test.YtfcmfadkkfkidaaSec1
import Derived.WalkKit
import Derived.WalkSpells
import Derived.WalkLawsBesides
import Derived.Lib.Hide
import Derived.Deep.QuietTactic
import Derived.BigQuiet
import Derived.StillTailTactics
namespace Go.Proofs.Ytfcmfadkkfkidaa
open Go.RowKit

set_option maxHeartbeats 4000000 in
theorem l11Enters_any (a b c d g s : Int) (w : World) (hb : 0 ≤ b ∧ b ≤ 9) (hc : 0 ≤ c ∧ c ≤ 9) (hd : 0 ≤ d ∧ d ≤ 1440) (hs : 0 ≤ s ∧ s ≤ 8) :
    Calls Try.prog 72 #[tripV a b c d g, .int .i64 s] w fun e w' => e = .returned (.int .i64 (entB b c d s)) ∧ Below w.heap.size w w' := by
  obtain ⟨b0, b9⟩ := hb
  obtain ⟨c0, c9⟩ := hc
  obtain ⟨d0, d9⟩ := hd
  obtain ⟨s0, s9⟩ := hs
  have k1 := Blk.new w 25 #[.int .i64 a, .int .i64 b, .int .i64 c, .int .i64 d, .int .i64 g]
  have e1 := k1.cell
  have hb1 : Below w.heap.size w (w.alloc (.cells #[.int .i64 a, .int .i64 b, .int .i64 c, .int .i64 d, .int .i64 g] 25)) := by (repeat (first | exact Below.refl _ _ | refine Below.drew ?_ | refine below_drewN ?_ _ | (refine Below.alloc ?_ (by (try simp) <;> omega) _) | (refine Below.setCell ?_ (by (try simp) <;> omega) _) | (refine Below.trans ?_ (Below.mono (by assumption) (by (try simp) <;> omega)))))
  by_cases h1 : b ≤ s ∧ s < c
  · have Hv := Lib.hid (show entB b c d s = d + 4 * (s - b) from if_pos h1)
    obtain ⟨h1, h2⟩ := h1
    go_enter Try.func72, Try.ntmps72
    go_wp2
    go_ret
    exact ⟨by rw [Hv.out]; rfl, hb1⟩
  · by_cases h2 : c ≤ s ∧ s < b
    · have Hv := Lib.hid (show entB b c d s = d + 4 * (b - 1 - s) by unfold entB; rw [if_neg h1, if_pos h2])
      obtain ⟨h2, h3⟩ := h2
      have h4 : ¬ b ≤ s := by omega
      clear h1
      go_enter Try.func72, Try.ntmps72
      go_wp2
      go_ret
      exact ⟨by rw [Hv.out]; rfl, hb1⟩
    · have Hv := Lib.hid (show entB b c d s = -1 by unfold entB; rw [if_neg h1, if_neg h2])
      by_cases h3 : b ≤ s
      · have h4 : ¬ s < c := by omega
        have h5 : c ≤ s := by omega
        have h6 : ¬ s < b := by omega
        clear h1 h2
        go_enter Try.func72, Try.ntmps72
        go_wp2
        go_ret
        exact ⟨by rw [Hv.out]; rfl, hb1⟩
      · have h4 : ¬ c ≤ s := by omega
        clear h1 h2
        go_enter Try.func72, Try.ntmps72
        go_wp2
        go_ret
        exact ⟨by rw [Hv.out]; rfl, hb1⟩

set_option maxRecDepth 20000 in
set_option maxHeartbeats 8000000 in
theorem SSectionTimes_any (a b c d g : Int) (w : World) :
    Calls Try.prog 28 #[tripV a b c d g] w (NewSS2 w (if tripB a b c d g then secL b c d else []) (tripB a b c d g)) := by
  obtain ⟨i0, hi, hz0, hz1, hz2⟩ := info_parts infoRow
  have HI := Lib.hid hi; have HZ0 := Lib.hid hz0; have HZ1 := Lib.hid hz1; have HZ2 := Lib.hid hz2
  clear hi hz0 hz1 hz2
  have k1 := Blk.new w 25 #[.int .i64 a, .int .i64 b, .int .i64 c, .int .i64 d, .int .i64 g]
  have e1 := k1.cell
  have hb1 : Below w.heap.size w ((w.alloc (.cells #[.int .i64 a, .int .i64 b, .int .i64 c, .int .i64 d, .int .i64 g] 25)).alloc (.cells #[] 44 (0, 0))) := by (repeat (first | exact Below.refl _ _ | refine Below.drew ?_ | refine below_drewN ?_ _ | (refine Below.alloc ?_ (by (try simp) <;> omega) _) | (refine Below.setCell ?_ (by (try simp) <;> omega) _) | (refine Below.trans ?_ (Below.mono (by assumption) (by (try simp) <;> omega)))))
  have k2 := k1.alloc (.cells #[] 44 (0, 0))
  have hz1 : ((w.alloc (.cells #[.int .i64 a, .int .i64 b, .int .i64 c, .int .i64 d, .int .i64 g] 25)).alloc (.cells #[] 44 (0, 0))).heap.size = w.heap.size + 2 := by simp
  have hG1 : GathS ((w.alloc (.cells #[.int .i64 a, .int .i64 b, .int .i64 c, .int .i64 d, .int .i64 g] 25)).alloc (.cells #[] 44 (0, 0))) (w.heap.size + 1) (.slice (some ⟨w.heap.size + 1, 0, none⟩) 0 0) [] := by
    have := GathS.made (w := w.alloc (.cells #[.int .i64 a, .int .i64 b, .int .i64 c, .int .i64 d, .int .i64 g] 25)) (B := w.heap.size + 1) (by simp)
    simpa using this
  have HZZ := Lib.hid hz1; clear hz1
  cases h : tripB a b c d g
  · go_enter Try.func28, Try.ntmps28
    go_wp2_with fail
    refine (l11One_any _ _ _ _ _ _).mono ?_; rintro e w2 ⟨rfl, hb2⟩
    rw [h]
    go_wp2
    go_ret2
    exact ⟨some ⟨w.heap.size + 1, 0, none⟩, 0, [], rfl, rfl, OwnSS.nil, hb1.trans (hb2.mono hb1.size)⟩
  obtain ⟨_, ⟨b0, b9⟩, ⟨c0, c9⟩, _, ⟨d0, d9⟩, ha, _⟩ := tripB_bounds h
  have hN := secN_le ⟨b0, b9⟩ ⟨c0, c9⟩
  have HA := Lib.hid (arr_secN b c d)
  have HN := Lib.hid (show (∀ k, k < secN b c → ∀ s, (entB b c d s = d + 4 * k ↔ s = secLo b c k)) ∧ ∀ k, k < secN b c → 0 ≤ secLo b c k ∧ secLo b c k ≤ 8 from ⟨fun k hk s => ent_iff d0 hk, fun k hk => lo_bd ⟨b0, b9⟩ ⟨c0, c9⟩ hk⟩)
  have HL := Lib.hid (show secL b c d = secK b c d (secN b c) from rfl)
  have hac : Hid (arr b c d = d + 4 * (secN b c : Int)) := HA
  generalize secN b c = n at *
  go_enter Try.func28, Try.ntmps28
  go_wp2_with fail
  clear e1
  refine (l11One_any _ _ _ _ _ _).mono ?_; rintro e w2 ⟨rfl, hb2⟩
  rw [h]
  have k3 := k2.below' hb2
  have e3 := k3.cell
  have hG2 := Lib.hid (hG1.below hb2)
  have hb02 := hb1.trans (hb2.mono hb1.size)
  have z2 := hb2.size
  rw [HZZ.out] at z2
  clear hb1 hb2 hG1 k1 k2 HZZ
  generalize hq : w.heap.size = q at *
  have Hq := Lib.hid hq; clear hq
  have kb := k3.lt
  have hn0 : (0 : Int) ≤ n := by omega
  go_wp2
  go_loopw [4, 5, 6] (fun v4 v5 v6 wr => ∃ (k : Nat) (M : List Elt), v5 = .int .i64 (d + 4 * (k : Int)) ∧ k ≤ n ∧ Hid (lls M = secK b c d k) ∧ Hid (GathS wr (q + 1) v4 M) ∧ Below (q + 1) w2 wr) (fun _ v5 _ _ => (d + 4 * n - intOf v5).toNat)
  case atStart => exact ⟨0, [], by simp, by omega, rfl, hG2, Below.refl _ _⟩
  case round =>
    obtain ⟨k, M, rfl, hk, hM, hG, hb⟩ := hrel
    have k4 := k3.below hb (Nat.lt_succ_self q)
    have e4 := k4.cell
    have zr := hb.size
    have hk0 : (0 : Int) ≤ (k : Int) := by omega
    go_wp2_with fail
    refine (l11Arrives_any _ _ _ _ _ _ ⟨b0, b9⟩ ⟨c0, c9⟩ ⟨d0, d9⟩).mono ?_; rintro e w5 ⟨rfl, hb5⟩
    rw [HA.out]
    have hb05 := hb.trans (hb5.mono (by omega))
    have k5 := k4.below' hb5
    have hG5 := Lib.hid (hG.out.below hb5)
    have z5 := hb05.size
    clear hG hb5 e4 k4
    by_cases hlt : k < n
    · have HLo := Lib.hid (HN.out.2 k hlt)
      have HE := Lib.hid (HN.out.1 k hlt)
      have hdk : d + 4 * (k : Int) < d + 4 * (n : Int) := by omega
      go_wp2
      go_loopw [4, 6] (fun v4 v6 wr => ∃ (s : Nat) (M : List Elt), v6 = .int .i64 s ∧ s ≤ 9 ∧ Hid (lls M = if secLo b c k < s then secK b c d (k + 1) else secK b c d k) ∧ Hid (GathS wr (q + 1) v4 M) ∧ Below (q + 1) w2 wr) (fun _ v6 _ => (9 - intOf v6).toNat)
      case atStart => exact ⟨0, M, rfl, by omega, (by rw [if_neg (by have := HLo.out.1; omega)]; exact hM.out : lls M = if secLo b c k < ((0 : Nat) : Int) then secK b c d (k + 1) else secK b c d k), hG5, hb05⟩
      case round =>
        clear hM hG5 hb05 k5 z5 hb zr
        obtain ⟨s, M, rfl, hs, hM, hG, hb⟩ := hrel
        have k6 := k3.below hb (Nat.lt_succ_self q)
        have e6 := k6.cell
        have zr := hb.size
        have hs0 : (0 : Int) ≤ (s : Int) := by omega
        by_cases hs9 : s < 9
        · have hs8 : (s : Int) ≤ 8 := by omega
          go_wp2_with fail
          refine (l11Enters_any _ _ _ _ _ _ _ ⟨b0, b9⟩ ⟨c0, c9⟩ ⟨d0, d9⟩ ⟨hs0, hs8⟩).mono ?_; rintro e w7 ⟨rfl, hb7⟩
          have hb07 := hb.trans (hb7.mono (by omega))
          have hG7 := Lib.hid (hG.out.below hb7)
          have z7 := hb07.size
          have h1 := HE.out (s : Int)
          clear hG hb7 e6 k6
          by_cases he : (s : Int) = secLo b c k
          · have q1 : (entB b c d s == d + 4 * (k : Int)) = true := by rw [beq_iff_eq]; exact h1.2 he
            have HMl := Lib.hid (show M.length = k by rw [← lls_len, hM.out, if_neg (by omega), secK_len])
            have Hse := Lib.hid he; clear he h1
            have HR := Lib.hid (RowOk.lit w7 [(s : Int), d + 4 * k, d + 4 * k + 4] (q + 1) (by omega))
            have hB2 : Below w7.heap.size w7 ((w7.alloc (.cells #[.int .i64 s, .int .i64 (d + 4 * k), .int .i64 (d + 4 * k + 4)] 3)).alloc (.cells #[.slice (some ⟨w7.heap.size, 0, none⟩) 3 3] 44)) := by (repeat (first | exact Below.refl _ _ | refine Below.drew ?_ | refine below_drewN ?_ _ | (refine Below.alloc ?_ (by (try simp) <;> omega) _) | (refine Below.setCell ?_ (by (try simp) <;> omega) _) | (refine Below.trans ?_ (Below.mono (by assumption) (by (try simp) <;> omega)))))
            have HG := Lib.hid (hG7.out.below hB2)
            have HB3 := Lib.hid (hb07.trans (hB2.mono (by omega)))
            have HR2 := Lib.hid (HR.out.next (w' := (w7.alloc (.cells #[.int .i64 s, .int .i64 (d + 4 * k), .int .i64 (d + 4 * k + 4)] 3)).alloc (.cells #[.slice (some ⟨w7.heap.size, 0, none⟩) 3 3] 44)) ((Below.refl _ _).alloc (Nat.le_refl _) _))
            have Hnew := Lib.hid (show ∀ y ∈ M, y.1 ≠ (some ⟨w7.heap.size, 0, none⟩ : Option Addr) from fun y hy e => by
              obtain ⟨g', hA, _, hlt'⟩ := (hG7.out.rows y hy).lt
              rw [hA] at e; injection e with e; injection e with e; omega)
            clear hB2 hG7 HR hb07
            go_wp2_with (at_builtin; refine wpList_append_own _ rfl _ _ 39 rfl (q + 1) 44 i0 (.slice none 0 0) 1 24 Try.underlying39 HI.out HZ0.out HZ1.out HZ2.out rfl (by decide) _ _ _ rfl HG.out.g ⟨_, 0, none⟩ 1 1 [.slice (some ⟨w7.heap.size, 0, none⟩) 3 3] rfl rfl (lit_cells1 _ _ _ _) (one_okS rfl) ?c3 ?c4 ?c5 ?c6)
            case c3 => unfold maxLen; have := HMl.out; first | omega | (simp; omega)
            case c4 => have := HMl.out; first | omega | (simp; omega)
            case c5 => have := HMl.out; first | omega | (simp; omega)
            case c6 =>
              intro v' w9 hown hgrow _
              have hG9 := Lib.hid (HG.out.snoc (x := (some ⟨w7.heap.size, 0, none⟩, 3, [(s : Int), d + 4 * k, d + 4 * k + 4])) hown hgrow HR2.out Hnew.out)
              have hB9 : Below (q + 1) w2 w9 := below_grown' HB3.out hgrow HG.out.g (Nat.le_refl _) (by simp; omega)
              have HM9 : Hid (lls (M ++ [(some ⟨w7.heap.size, 0, none⟩, 3, [(s : Int), d + 4 * k, d + 4 * k + 4])]) = if secLo b c k < ((s + 1 : Nat) : Int) then secK b c d (k + 1) else secK b c d k) := (by
                rw [lls_snoc, hM.out, if_neg (by have := Hse.out; omega), if_pos (by have := Hse.out; omega), secK_succ]; unfold secRow; rw [← Hse.out] : lls (M ++ [(some ⟨w7.heap.size, 0, none⟩, 3, [(s : Int), d + 4 * k, d + 4 * k + 4])]) = if secLo b c k < ((s + 1 : Nat) : Int) then secK b c d (k + 1) else secK b c d k)
              clear hown hgrow HG HR2 Hnew HB3 hM
              go_wp2
              go_roundw
              case rel => exact ⟨s + 1, _, by go_num, by omega, HM9, hG9, hB9⟩
              case measure => simp only [intOf]; omega
          · have q1 : (entB b c d s == d + 4 * (k : Int)) = false := by rw [beq_eq_false_iff_ne]; exact fun h => he (h1.1 h)
            have HM9 : Hid (lls M = if secLo b c k < ((s + 1 : Nat) : Int) then secK b c d (k + 1) else secK b c d k) := (by
              rw [hM.out]
              by_cases hx : secLo b c k < s
              · rw [if_pos hx, if_pos (by omega)]
              · rw [if_neg hx, if_neg (by omega)] : lls M = if secLo b c k < ((s + 1 : Nat) : Int) then secK b c d (k + 1) else secK b c d k)
            clear hM he h1
            go_wp2
            go_roundw
            case rel => exact ⟨s + 1, M, by go_num, by omega, HM9, hG7, hb07⟩
            case measure => simp only [intOf]; omega
        · obtain rfl : s = 9 := by omega
          have HM9 : Hid (lls M = secK b c d (k + 1)) := (by rw [hM.out, if_pos (by have := HLo.out.2; omega)] : lls M = secK b c d (k + 1))
          clear hM e6
          go_wp2
          go_roundw
          case rel => exact ⟨k + 1, M, congrArg (Value.int .i64) (by omega), by omega, HM9, hG, hb⟩
          case measure => simp only [intOf]; omega
    · obtain rfl : k = n := by omega
      obtain ⟨A9, c9, rfl, ho⟩ := hG5.out.own
      have HO := Lib.hid ho
      clear ho hG5
      go_wp2
      go_ret2
      exact ⟨A9, c9, M, rfl, by rw [HL.out]; exact hM.out, by rw [Hq.out]; exact HO.out.mono (by omega), by rw [Hq.out]; exact hb02.trans (hb05.mono (by omega))⟩
end Go.Proofs.Ytfcmfadkkfkidaa
