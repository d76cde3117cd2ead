/-
  sections and SectionTimes: the program.
-/
import Derived.Test.YtfcmfadkkfkidaaSec0
import Derived.Test.YtfcmfadkkfkidaaTrip2
import Derived.Test.YtfcmfadkkfkidaaGat
import Derived.Deep.DeepCutAuto
import Derived.WalkKit
import Derived.WalkSpells
import Derived.WalkLawsBesides
import Derived.Lib.Hide
import Derived.Deep.QuietTactic
import Derived.BigQuiet
import Derived.StillTailTactics
namespace Go.Proofs.Ytfcmfadkkfkidaa
open Go.RowKit

theorem one_okS {x : Value} (hx : x.oneCell' = true) : ∀ u ∈ [x], u.oneCell' = true := by
  intro u hu; simp at hu; rw [hu]; exact hx

/-- The cells of a literal behind another one. -/
theorem lit_cells1 (w : World) (o : Obj) (t : TypeId) (vs : List Value) : ∀ j u, vs[j]? = some u → ((w.alloc o).alloc (.cells vs.toArray t)).cell? ((⟨w.heap.size + 1, 0, none⟩ : Addr).add j) = some u := by
  have := lit_cells (w.alloc o) t vs
  simpa using this

set_option maxRecDepth 20000 in
set_option maxHeartbeats 8000000 in
theorem sections_any (a b c d g : Int) (w : World) (hb : 0 ≤ b ∧ b ≤ 9) (hc : 0 ≤ c ∧ c ≤ 9) (hd : 0 ≤ d ∧ d ≤ 1440) :
    Calls Try.prog 73 #[tripV a b c d g] w (NewSS w (secL b c d)) := by
  obtain ⟨i0, hi, hz0, hz1, hz2⟩ := info_parts infoRow
  have HI := Lib.hid hi; have HZ0 := Lib.hid hz0; have HZ1 := Lib.hid hz1; have HZ2 := Lib.hid hz2
  clear hi hz0 hz1 hz2
  obtain ⟨b0, b9⟩ := hb
  obtain ⟨c0, c9⟩ := hc
  obtain ⟨d0, d9⟩ := hd
  have hN := secN_le ⟨b0, b9⟩ ⟨c0, c9⟩
  have HN := Lib.hid (show (if c - b < 0 then -(c - b) else c - b) = (secN b c : Int) by unfold secN; split <;> omega)
  have HL := Lib.hid (show secL b c d = secK b c d (secN b c) from rfl)
  generalize secN b c = n at *
  have k1 := Blk.new w 25 #[.int .i64 a, .int .i64 b, .int .i64 c, .int .i64 d, .int .i64 g]
  have e1 := k1.cell
  go_enter Try.func73, Try.ntmps73
  go_wp2_with fail
  refine (abs_any _ _ (by omega)).mono ?_; rintro e w' ⟨rfl, rfl⟩
  rw [HN.out]
  have hb1 : Below w.heap.size w (w.alloc (.cells #[.int .i64 a, .int .i64 b, .int .i64 c, .int .i64 d, .int .i64 g] 25)) := by (repeat (first | exact Below.refl _ _ | refine Below.drew ?_ | refine below_drewN ?_ _ | (refine Below.alloc ?_ (by (try simp) <;> omega) _) | (refine Below.setCell ?_ (by (try simp) <;> omega) _) | (refine Below.trans ?_ (Below.mono (by assumption) (by (try simp) <;> omega)))))
  have hW1 : (w.alloc (.cells #[.int .i64 a, .int .i64 b, .int .i64 c, .int .i64 d, .int .i64 g] 25)).heap.size ≤ w.heap.size + 1 := by simp
  generalize w.alloc (.cells #[.int .i64 a, .int .i64 b, .int .i64 c, .int .i64 d, .int .i64 g] 25) = W at *
  generalize hq : w.heap.size = q at *
  have Hq := Lib.hid hq; clear hq e1
  have hW := k1.lt
  go_wp2
  go_loopw [3, 4, 5, 12] (fun v3 v4 v5 v12 wr => ∃ (k : Nat) (M : List Elt), v12 = .int .i64 k ∧ k ≤ n ∧ Hid (lls M = secK b c d k) ∧ Hid (GathS wr (q + 1) v3 M) ∧ Below W.heap.size W wr) (fun _ _ _ v12 _ => (n - intOf v12).toNat)
  case atStart => exact ⟨0, [], rfl, by omega, rfl, GathS.nil, Below.refl _ _⟩
  case round =>
    obtain ⟨k, M, rfl, hk, hM, hG, hb⟩ := hrel
    have zr := hb.size
    have hMl : M.length = k := by rw [← lls_len, hM.out, secK_len]
    by_cases hlt : k < n
    · have k2 := k1.below' hb
      have e2 := k2.cell
      have hlo : Hid (secLo b c k = if c < b then b - k - 1 else b + k) := rfl
      have hk9 : k < 9 := by omega
      by_cases hcb : c < b
      · have Hlo := Lib.hid (show secLo b c k = b - k - 1 by rw [hlo.out, if_pos hcb])
        clear hlo
        have HMl := Lib.hid hMl; clear hMl
        have HR := Lib.hid (RowOk.lit wr [b - k - 1, d + 4 * k, d + 4 * k + 4] (q + 1) (by omega))
        have hB2 : Below wr.heap.size wr ((wr.alloc (.cells #[.int .i64 (b - k - 1), .int .i64 (d + 4 * k), .int .i64 (d + 4 * k + 4)] 3)).alloc (.cells #[.slice (some ⟨wr.heap.size, 0, none⟩) 3 3] 44)) := by (repeat (first | exact Below.refl _ _ | refine Below.drew ?_ | refine below_drewN ?_ _ | (refine Below.alloc ?_ (by (try simp) <;> omega) _) | (refine Below.setCell ?_ (by (try simp) <;> omega) _) | (refine Below.trans ?_ (Below.mono (by assumption) (by (try simp) <;> omega)))))
        have HG := Lib.hid (hG.out.below hB2)
        have hB3 : Below W.heap.size W ((wr.alloc (.cells #[.int .i64 (b - k - 1), .int .i64 (d + 4 * k), .int .i64 (d + 4 * k + 4)] 3)).alloc (.cells #[.slice (some ⟨wr.heap.size, 0, none⟩) 3 3] 44)) := hb.trans (hB2.mono zr)
        have HB3 := Lib.hid hB3
        have HR2 := Lib.hid (HR.out.next (w' := (wr.alloc (.cells #[.int .i64 (b - k - 1), .int .i64 (d + 4 * k), .int .i64 (d + 4 * k + 4)] 3)).alloc (.cells #[.slice (some ⟨wr.heap.size, 0, none⟩) 3 3] 44)) ((Below.refl _ _).alloc (Nat.le_refl _) _))
        have Hnew := Lib.hid (show ∀ y ∈ M, y.1 ≠ (some ⟨wr.heap.size, 0, none⟩ : Option Addr) from fun y hy e => by
          obtain ⟨g', hA, _, hlt'⟩ := (hG.out.rows y hy).lt
          rw [hA] at e; injection e with e; injection e with e; omega)
        clear hB2 hB3 hG HR
        go_wp2_with (at_builtin; refine wpList_append_own _ rfl _ _ 39 rfl (q + 1) 44 i0 (.slice none 0 0) 1 24 Try.underlying39 HI.out HZ0.out HZ1.out HZ2.out rfl (by decide) _ _ _ rfl HG.out.g ⟨_, 0, none⟩ 1 1 [.slice (some ⟨wr.heap.size, 0, none⟩) 3 3] rfl rfl (lit_cells1 _ _ _ _) (one_okS rfl) ?c3 ?c4 ?c5 ?c6)
        case c3 => unfold maxLen; have := HMl.out; first | omega | (simp; omega)
        case c4 => have := HMl.out; first | omega | (simp; omega)
        case c5 => have := HMl.out; first | omega | (simp; omega)
        case c6 =>
          intro v' w9 hown hgrow _
          have hG9 := Lib.hid (HG.out.snoc (x := (some ⟨wr.heap.size, 0, none⟩, 3, [b - k - 1, d + 4 * k, d + 4 * k + 4])) hown hgrow HR2.out Hnew.out)
          have hB9 : Below W.heap.size W w9 := below_grown' HB3.out hgrow HG.out.g (by omega) (by simp; omega)
          have HM9 : Hid (lls (M ++ [(some ⟨wr.heap.size, 0, none⟩, 3, [b - k - 1, d + 4 * k, d + 4 * k + 4])]) = secK b c d (k + 1)) := (by rw [lls_snoc, hM.out, secK_succ]; unfold secRow; rw [Hlo.out] : lls (M ++ [(some ⟨wr.heap.size, 0, none⟩, 3, [b - k - 1, d + 4 * k, d + 4 * k + 4])]) = secK b c d (k + 1))
          clear hown hgrow HG HR2 Hnew HB3 hM
          go_wp2
          go_roundw
          case rel => exact ⟨k + 1, _, by go_num, by omega, HM9, hG9, hB9⟩
          case measure => simp only [intOf]; omega
      · have Hlo := Lib.hid (show secLo b c k = b + k by rw [hlo.out, if_neg hcb])
        clear hlo
        have HMl := Lib.hid hMl; clear hMl
        have HR := Lib.hid (RowOk.lit wr [b + k, d + 4 * k, d + 4 * k + 4] (q + 1) (by omega))
        have hB2 : Below wr.heap.size wr ((wr.alloc (.cells #[.int .i64 (b + k), .int .i64 (d + 4 * k), .int .i64 (d + 4 * k + 4)] 3)).alloc (.cells #[.slice (some ⟨wr.heap.size, 0, none⟩) 3 3] 44)) := by (repeat (first | exact Below.refl _ _ | refine Below.drew ?_ | refine below_drewN ?_ _ | (refine Below.alloc ?_ (by (try simp) <;> omega) _) | (refine Below.setCell ?_ (by (try simp) <;> omega) _) | (refine Below.trans ?_ (Below.mono (by assumption) (by (try simp) <;> omega)))))
        have HG := Lib.hid (hG.out.below hB2)
        have hB3 : Below W.heap.size W ((wr.alloc (.cells #[.int .i64 (b + k), .int .i64 (d + 4 * k), .int .i64 (d + 4 * k + 4)] 3)).alloc (.cells #[.slice (some ⟨wr.heap.size, 0, none⟩) 3 3] 44)) := hb.trans (hB2.mono zr)
        have HB3 := Lib.hid hB3
        have HR2 := Lib.hid (HR.out.next (w' := (wr.alloc (.cells #[.int .i64 (b + k), .int .i64 (d + 4 * k), .int .i64 (d + 4 * k + 4)] 3)).alloc (.cells #[.slice (some ⟨wr.heap.size, 0, none⟩) 3 3] 44)) ((Below.refl _ _).alloc (Nat.le_refl _) _))
        have Hnew := Lib.hid (show ∀ y ∈ M, y.1 ≠ (some ⟨wr.heap.size, 0, none⟩ : Option Addr) from fun y hy e => by
          obtain ⟨g', hA, _, hlt'⟩ := (hG.out.rows y hy).lt
          rw [hA] at e; injection e with e; injection e with e; omega)
        clear hB2 hB3 hG HR
        go_wp2_with (at_builtin; refine wpList_append_own _ rfl _ _ 39 rfl (q + 1) 44 i0 (.slice none 0 0) 1 24 Try.underlying39 HI.out HZ0.out HZ1.out HZ2.out rfl (by decide) _ _ _ rfl HG.out.g ⟨_, 0, none⟩ 1 1 [.slice (some ⟨wr.heap.size, 0, none⟩) 3 3] rfl rfl (lit_cells1 _ _ _ _) (one_okS rfl) ?c3 ?c4 ?c5 ?c6)
        case c3 => unfold maxLen; have := HMl.out; first | omega | (simp; omega)
        case c4 => have := HMl.out; first | omega | (simp; omega)
        case c5 => have := HMl.out; first | omega | (simp; omega)
        case c6 =>
          intro v' w9 hown hgrow _
          have hG9 := Lib.hid (HG.out.snoc (x := (some ⟨wr.heap.size, 0, none⟩, 3, [b + k, d + 4 * k, d + 4 * k + 4])) hown hgrow HR2.out Hnew.out)
          have hB9 : Below W.heap.size W w9 := below_grown' HB3.out hgrow HG.out.g (by omega) (by simp; omega)
          have HM9 : Hid (lls (M ++ [(some ⟨wr.heap.size, 0, none⟩, 3, [b + k, d + 4 * k, d + 4 * k + 4])]) = secK b c d (k + 1)) := (by rw [lls_snoc, hM.out, secK_succ]; unfold secRow; rw [Hlo.out] : lls (M ++ [(some ⟨wr.heap.size, 0, none⟩, 3, [b + k, d + 4 * k, d + 4 * k + 4])]) = secK b c d (k + 1))
          clear hown hgrow HG HR2 Hnew HB3 hM
          go_wp2
          go_roundw
          case rel => exact ⟨k + 1, _, by go_num, by omega, HM9, hG9, hB9⟩
          case measure => simp only [intOf]; omega
    · obtain rfl : k = n := by omega
      obtain ⟨A9, c9, rfl, ho⟩ := hG.out.own
      have HO := Lib.hid ho
      clear ho hG
      go_wp2
      go_ret
      exact ⟨A9, c9, M, rfl, by rw [HL.out]; exact hM.out, by rw [Hq.out]; exact HO.out.mono (by omega), by rw [Hq.out]; exact hb1.trans (hb.mono (by omega))⟩

set_option maxHeartbeats 4000000 in
theorem SectionTimes_any (a b c d g : Int) (w : World) :
    Calls Try.prog 29 #[tripV a b c d g] w (NewSS2 w (if tripB a b c d g then secL b c d else []) (tripB a b c d g)) := by
  have k1 := Blk.new w 25 #[.int .i64 a, .int .i64 b, .int .i64 c, .int .i64 d, .int .i64 g]
  have e1 := k1.cell
  have hb1 : Below w.heap.size w (w.alloc (.cells #[.int .i64 a, .int .i64 b, .int .i64 c, .int .i64 d, .int .i64 g] 25)) := by (repeat (first | exact Below.refl _ _ | refine Below.drew ?_ | refine below_drewN ?_ _ | (refine Below.alloc ?_ (by (try simp) <;> omega) _) | (refine Below.setCell ?_ (by (try simp) <;> omega) _) | (refine Below.trans ?_ (Below.mono (by assumption) (by (try simp) <;> omega)))))
  cases h : tripB a b c d g
  · go_enter Try.func29, Try.ntmps29
    go_wp2_with fail
    refine (IsTrip_any _ _ _ _ _ _).mono ?_; rintro e w2 ⟨rfl, hb2⟩
    rw [h]
    go_wp2
    go_ret2
    exact ⟨none, 0, [], rfl, rfl, OwnSS.nil, hb1.trans (hb2.mono hb1.size)⟩
  · obtain ⟨_, h1, h2, _, h3, _⟩ := tripB_bounds h
    go_enter Try.func29, Try.ntmps29
    go_wp2_with fail
    refine (IsTrip_any _ _ _ _ _ _).mono ?_; rintro e w2 ⟨rfl, hb2⟩
    rw [h]
    have k2 := k1.below' hb2
    have e2 := k2.cell
    clear e1
    have hb02 := hb1.trans (hb2.mono hb1.size)
    go_wp2_with fail
    refine (sections_any _ _ _ _ _ _ h1 h2 h3).mono ?_; rintro e w3 ⟨A3, c3, M, rfl, hM, ho, hb3⟩
    have hb03 := hb02.trans (hb3.mono hb02.size)
    go_wp2
    go_ret2
    exact ⟨A3, c3, M, rfl, hM, ho.mono hb02.size, hb03⟩
end Go.Proofs.Ytfcmfadkkfkidaa
