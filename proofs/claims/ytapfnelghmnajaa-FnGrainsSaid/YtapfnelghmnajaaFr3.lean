/-
  SieveFor: both programs.
-/
import Derived.Test.YtapfnelghmnajaaFr2
import Derived.WalkKit
import Derived.WalkSpells
import Derived.WalkLawsBesides
import Derived.Lib.Hide
import Derived.Deep.QuietTactic
import Derived.BigQuiet
import Derived.StillTailTactics
namespace Go.Proofs.Ytapfnelghmnajaa
open Go.RowKit

/-- The answer when the openings from n down are tried. -/
def sfR (L : List Int) (p : Int) : Nat → Value
  | 0 => .tuple #[.int .i64 0, .bool false]
  | n + 1 => if 100 * (frA [((n + 1 : Nat) : Int)] L).getD 0 0 ≥ p * (L.length : Int) then .tuple #[.int .i64 ((n : Int) + 1), .bool true] else sfR L p n
theorem sfR_hit {L : List Int} {p : Int} {n : Nat} {v : Int} (hv : (frA [((n + 1 : Nat) : Int)] L).getD 0 0 = v) (h : 100 * v ≥ p * (L.length : Int)) : sfR L p (n + 1) = .tuple #[.int .i64 ((n : Int) + 1), .bool true] := by rw [sfR, hv, if_pos h]
theorem sfR_miss {L : List Int} {p : Int} {n : Nat} {v : Int} (hv : (frA [((n + 1 : Nat) : Int)] L).getD 0 0 = v) (h : ¬ 100 * v ≥ p * (L.length : Int)) : sfR L p (n + 1) = sfR L p n := by rw [sfR, hv, if_neg h]
def sfTop (L : List Int) (p : Int) : Value := sfR L p 200
def sfB (L : List Int) (p : Int) : Bool := smpB L && inB p 1 100
def sfV (L : List Int) (p : Int) : Value := if sfB L p then sfTop L p else .tuple #[.int .i64 0, .bool false]
theorem sfR_form (L : List Int) (p : Int) : ∀ n, ∃ a u, sfR L p n = .tuple #[.int .i64 a, .bool u]
  | 0 => ⟨0, false, rfl⟩
  | n + 1 => by
    rw [sfR]
    split
    · exact ⟨_, _, rfl⟩
    · exact sfR_form L p n
theorem sfV_form (L : List Int) (p : Int) : ∃ a u, sfV L p = .tuple #[.int .i64 a, .bool u] := by
  unfold sfV
  split
  · exact sfR_form L p 200
  · exact ⟨_, _, rfl⟩

set_option maxHeartbeats 4000000 in
theorem SieveFor_any (A : Option Addr) (c : Nat) (L : List Int) (p : Int) (w : World) (hr : SlR f1 1 w w.heap.size A L) (hm : (L.length : Int) ≤ 1048576) :
    Calls Try.prog 26 #[.agg #[.slice A L.length c], .int .i64 p] w fun e w' => e = .returned (sfV L p) ∧ Below w.heap.size w w' := by
  have hrE := hr.alloc (.cells #[.slice A L.length c] 30 (0, 0))
  cases h : smpB L
  · have Hv := Lib.hid (show sfV L p = .tuple #[.int .i64 0, .bool false] by simp [sfV, sfB, h])
    go_enter Try.func26, Try.ntmps26
    go_wp2_with fail
    refine (IsSample_any _ _ _ _ hrE hm).mono ?_; rintro e w1 ⟨rfl, hb1⟩
    have z1 := hb1.size
    try simp at z1
    obtain ⟨c1_0, f1_0⟩ := bblk hb1 (g := w.heap.size) (by (try simp) <;> omega)
    have l1_0 : w.heap.size < w1.heap.size := by omega
    rw [h]
    go_wp2
    go_ret2
    exact ⟨by rw [Hv.out]; rfl, by (repeat (first | exact Below.refl _ _ | refine Below.drew ?_ | refine below_drewN ?_ _ | (refine Below.alloc ?_ (by (try simp) <;> omega) _) | (refine Below.setCell ?_ (by (try simp) <;> omega) _) | (refine Below.trans ?_ (Below.mono (by assumption) (by (try simp) <;> omega)))))⟩
  cases h3 : inB p 1 100
  · have Hv := Lib.hid (show sfV L p = .tuple #[.int .i64 0, .bool false] by simp [sfV, sfB, h, h3])
    go_enter Try.func26, Try.ntmps26
    go_wp2_with fail
    refine (IsSample_any _ _ _ _ hrE hm).mono ?_; rintro e w1 ⟨rfl, hb1⟩
    have z1 := hb1.size
    try simp at z1
    obtain ⟨c1_0, f1_0⟩ := bblk hb1 (g := w.heap.size) (by (try simp) <;> omega)
    have l1_0 : w.heap.size < w1.heap.size := by omega
    rw [h]
    go_wp2_with fail
    refine (within_any _ _ _ _).mono ?_; rintro e w' ⟨rfl, rfl⟩
    rw [h3]
    go_wp2
    go_ret2
    exact ⟨by rw [Hv.out]; rfl, by (repeat (first | exact Below.refl _ _ | refine Below.drew ?_ | refine below_drewN ?_ _ | (refine Below.alloc ?_ (by (try simp) <;> omega) _) | (refine Below.setCell ?_ (by (try simp) <;> omega) _) | (refine Below.trans ?_ (Below.mono (by assumption) (by (try simp) <;> omega)))))⟩
  have Hv := Lib.hid (show sfV L p = sfTop L p by simp [sfV, sfB, h, h3])
  obtain ⟨l1, l2⟩ := smpB_len h
  have hp := inB_iff.1 h3
  have m0 : 0 ≤ p * (L.length : Int) := Int.mul_nonneg (by omega) (by omega)
  have m1 : p * (L.length : Int) ≤ 100 * 20 := Int.mul_le_mul (by omega) (by omega) (by omega) (by omega)
  have hbE : Below w.heap.size w (w.alloc (.cells #[.slice A L.length c] 30 (0, 0))) := by (repeat (first | exact Below.refl _ _ | refine Below.drew ?_ | refine below_drewN ?_ _ | (refine Below.alloc ?_ (by (try simp) <;> omega) _) | (refine Below.setCell ?_ (by (try simp) <;> omega) _) | (refine Below.trans ?_ (Below.mono (by assumption) (by (try simp) <;> omega)))))
  have kE := Lib.hid (show (w.alloc (.cells #[.slice A L.length c] 30 (0, 0))).cell? ⟨w.heap.size, 0, none⟩ = some (.slice A L.length c) by simp)
  have zE : w.heap.size < (w.alloc (.cells #[.slice A L.length c] 30 (0, 0))).heap.size := by simp
  go_enter Try.func26, Try.ntmps26
  go_wp2_with fail
  refine (IsSample_any _ _ _ _ hrE hm).mono ?_; rintro e w1 ⟨rfl, hb1⟩
  have z1 := hb1.size
  try simp at z1
  obtain ⟨c1_0, f1_0⟩ := bblk hb1 (g := w.heap.size) (by (try simp) <;> omega)
  have l1_0 : w.heap.size < w1.heap.size := by omega
  rw [h]
  go_wp2_with fail
  refine (within_any _ _ _ _).mono ?_; rintro e w' ⟨rfl, rfl⟩
  rw [h3]
  generalize w.alloc (.cells #[.slice A L.length c] 30 (0, 0)) = E at *
  clear c1_0 f1_0 h h3
  go_wp2
  go_loopw [6] (fun i wr => ∃ (n : Nat) (o : Int), i = .int .i64 o ∧ o ≤ n ∧ (n : Int) ≤ o ∧ o ≤ 200 ∧ Hid (sfTop L p = sfR L p n) ∧ Below E.heap.size E wr) (fun i _ => (intOf i).toNat)
  case atStart => exact ⟨200, 200, rfl, by omega, by omega, by omega, rfl, hb1⟩
  case round =>
    obtain ⟨n, o, rfl, ho1, ho2, ho3, hs, hb⟩ := hrel
    have zr := hb.size
    have hbz : Below w.heap.size w wr := hbE.trans (hb.mono (by omega))
    match n, ho1, ho2, hs with
    | 0, ho1, ho2, hs =>
      have h1 : ¬ (1 ≤ o) := by omega
      have Hq := Lib.hid (hs.out.trans (show sfR L p 0 = .tuple #[.int .i64 0, .bool false] from rfl))
      go_wp2
      go_ret2
      exact ⟨by rw [Hv.out, Hq.out]; rfl, hbz⟩
    | n + 1, ho1, ho2, hs =>
      obtain ⟨v, hv, v0, v1⟩ := frA_at [o] L (i := 0) (by simp)
      have Ho := Lib.hid (show ((n + 1 : Nat) : Int) = o by omega)
      have ho4 : 1 ≤ o := by omega
      have hn4 : n ≤ 199 := by omega
      clear ho1 ho2
      have HV := Lib.hid hv
      have hf := Lib.hid (show (frA [o] L).length = 2 by rw [frA_len]; rfl)
      have HE1 := Lib.hid (hrE.next hb)
      have kb := Lib.hid (((bblk hb (g := w.heap.size) zE).1 0).trans kE.out)
      clear hv
      obtain ⟨q, hq⟩ : ∃ q, decide (100 * v ≥ p * (L.length : Int)) = q := ⟨_, rfl⟩
      have Hq := Lib.hid hq
      clear hq
      go_wp2
      refine wp_region_grow [.fix (.int .i64 o), .pred (Sl1V o), .val (.agg #[.slice A L.length c]), .pred (SlV f1 1 (frA [o] L)), .pred (PtV v), .val (.int .i64 v), .val (.int .i64 (100 * v)), .fix (.int .i64 p), .val (.pointer (some ⟨w.heap.size, 0, none⟩)), .val (.slice A L.length c), .val (.int .i64 L.length), .val (.int .i64 (p * L.length)), .val (.bool q)] mixed (by kernel_rfl) ?_
      refine SeqG.fixStep (.inl ⟨rfl, fun _ => rfl⟩) ?_
      simp only [Act.put, List.setIfInBounds_toArray, List.set_cons_zero, List.set_cons_succ]
      refine SeqG.predStep Sl1V.next (fun wv hbv hpv => ?_) (fun v0 => ?_)
      · go_wp2_with fail
        exact post_pred (F := Sl1V o) (.slice (some ⟨wv.heap.size, 0, none⟩) 1 1) (by (repeat (first | exact Below.refl _ _ | refine Below.drew ?_ | refine below_drewN ?_ _ | (refine Below.alloc ?_ (by (try simp) <;> omega) _) | (refine Below.setCell ?_ (by (try simp) <;> omega) _) | (refine Below.trans ?_ (Below.mono (by assumption) (by (try simp) <;> omega)))))) ⟨some ⟨wv.heap.size, 0, none⟩, 1, rfl, slR_new1 _ _ _⟩
      simp only [Act.put, List.setIfInBounds_toArray, List.set_cons_zero, List.set_cons_succ]
      refine SeqG.valStep (fun wv hbv hpv => ?_) ?_
      · have e1 := ((bblk hbv (g := w.heap.size) (by omega)).1 0).trans kb.out
        go_wp2_with fail
        exact post_val (Below.refl _ _)
      simp only [Act.put, List.setIfInBounds_toArray, List.set_cons_zero, List.set_cons_succ]
      refine SeqG.predStep SlV.next (fun wv hbv hpv => ?_) (fun v1 => ?_)
      · obtain ⟨B0, d0, rfl, s0⟩ := hpv _ (.head _) (by kernel_rfl)
        clear hpv
        go_wp2_with fail
        refine (fractions_any _ _ _ _ [o] _ _ s0 (by simp) (HE1.out.next hbv) hm).mono ?_; rintro e w1 ⟨B1, d1, rfl, q1, hb1⟩
        have HQ := Lib.hid q1.sl
        clear q1
        go_wp2_with fail
        exact post_pred (F := SlV f1 1 (frA [o] L)) _ hb1 ⟨_, _, rfl, HQ.out⟩
      simp only [Act.put, List.setIfInBounds_toArray, List.set_cons_zero, List.set_cons_succ]
      refine SeqG.predStep PtV.next (fun wv hbv hpv => ?_) (fun v2 => ?_)
      · obtain ⟨B0, d0, rfl, s0⟩ := hpv _ (.head _) (by kernel_rfl)
        clear hpv
        obtain ⟨b, off, rfl, hbl, hC⟩ := s0 (SlR.ne HV.out)
        have k0 := Lib.hid (cells1 hC HV.out)
        rw [hf.out]
        clear hC
        go_wp2_with fail
        exact post_pred _ (Below.refl _ _) ⟨b, off, rfl, hbl, k0.out⟩
      simp only [Act.put, List.setIfInBounds_toArray, List.set_cons_zero, List.set_cons_succ]
      refine SeqG.valStep (fun wv hbv hpv => ?_) ?_
      · obtain ⟨b, o, rfl, hbl, k0⟩ := hpv _ (.head _) (by kernel_rfl)
        clear hpv
        go_wp2_with fail
        exact post_val (Below.refl _ _)
      simp only [Act.put, List.setIfInBounds_toArray, List.set_cons_zero, List.set_cons_succ]
      refine SeqG.valStep (fun wv hbv hpv => ?_) ?_
      · skip
        go_wp2_with fail
        exact post_val (Below.refl _ _)
      simp only [Act.put, List.setIfInBounds_toArray, List.set_cons_zero, List.set_cons_succ]
      refine SeqG.fixStep (.inl ⟨rfl, fun _ => rfl⟩) ?_
      simp only [Act.put, List.setIfInBounds_toArray, List.set_cons_zero, List.set_cons_succ]
      refine SeqG.valStep (fun wv hbv hpv => ?_) ?_
      · skip
        go_wp2_with fail
        exact post_val (Below.refl _ _)
      simp only [Act.put, List.setIfInBounds_toArray, List.set_cons_zero, List.set_cons_succ]
      refine SeqG.valStep (fun wv hbv hpv => ?_) ?_
      · have e1 := ((bblk hbv (g := w.heap.size) (by omega)).1 0).trans kb.out
        go_wp2_with fail
        exact post_val (Below.refl _ _)
      simp only [Act.put, List.setIfInBounds_toArray, List.set_cons_zero, List.set_cons_succ]
      refine SeqG.valStep (fun wv hbv hpv => ?_) ?_
      · skip
        go_wp2_with fail
        exact post_val (Below.refl _ _)
      simp only [Act.put, List.setIfInBounds_toArray, List.set_cons_zero, List.set_cons_succ]
      refine SeqG.valStep (fun wv hbv hpv => ?_) ?_
      · skip
        go_wp2_with fail
        exact post_val (Below.refl _ _)
      simp only [Act.put, List.setIfInBounds_toArray, List.set_cons_zero, List.set_cons_succ]
      refine SeqG.valStep (fun wv hbv hpv => ?_) ?_
      · go_wp2_with fail
        exact post_val_eq (congrArg Value.bool Hq.out) (Below.refl _ _)
      simp only [Act.put, List.setIfInBounds_toArray, List.set_cons_zero, List.set_cons_succ]
      refine SeqG.done fun wv hbv hpv => ?_
      clear hpv
      have zv := hbv.size
      have hby : Below w.heap.size w wv := hbz.trans (hbv.mono (by omega))
      have hbx : Below E.heap.size E wv := hb.trans (hbv.mono (by omega))
      cases q
      case true =>
        have HS := Lib.hid (hs.out.trans ((sfR_hit (v := v) (by rw [Ho.out]; exact getD_of HV.out) (of_decide_eq_true Hq.out)).trans (show Value.tuple #[.int .i64 ((n : Int) + 1), .bool true] = .tuple #[.int .i64 o, .bool true] by rw [← Ho.out]; rfl)))
        clear hs
        go_wp2_with fail
        refine NoPan.normal ?_
        go_wp2
        go_ret2
        exact ⟨by rw [Hv.out, HS.out]; rfl, hby⟩
      case false =>
        have HS : Hid (sfTop L p = sfR L p n) := hs.out.trans (sfR_miss (v := v) (by rw [Ho.out]; exact getD_of HV.out) (of_decide_eq_false Hq.out))
        clear hs
        go_wp2_with fail
        refine NoPan.normal ?_
        go_wp2
        go_roundw
        case rel => exact ⟨n, o - 1, rfl, by have := Ho.out; omega, by have := Ho.out; omega, by omega, HS, hbx⟩
        case measure => simp only [intOf]; omega

set_option maxHeartbeats 4000000 in
theorem SSieveFor_any (A : Option Addr) (c : Nat) (L : List Int) (p : Int) (w : World) (hr : SlR f1 1 w w.heap.size A L) (hm : (L.length : Int) ≤ 1048576) :
    Calls Try.prog 25 #[.agg #[.slice A L.length c], .int .i64 p] w fun e w' => e = .returned (sfV L p) ∧ Below w.heap.size w w' := by
  have hrE := hr.alloc (.cells #[.slice A L.length c] 30 (0, 0))
  cases h : smpB L
  · have Hv := Lib.hid (show sfV L p = .tuple #[.int .i64 0, .bool false] by simp [sfV, sfB, h])
    go_enter Try.func25, Try.ntmps25
    go_wp2_with fail
    refine (l14Sample_any _ _ _ _ hrE hm).mono ?_; rintro e w1 ⟨rfl, hb1⟩
    have z1 := hb1.size
    try simp at z1
    obtain ⟨c1_0, f1_0⟩ := bblk hb1 (g := w.heap.size) (by (try simp) <;> omega)
    have l1_0 : w.heap.size < w1.heap.size := by omega
    rw [h]
    go_wp2
    go_ret2
    exact ⟨by rw [Hv.out]; rfl, by (repeat (first | exact Below.refl _ _ | refine Below.drew ?_ | refine below_drewN ?_ _ | (refine Below.alloc ?_ (by (try simp) <;> omega) _) | (refine Below.setCell ?_ (by (try simp) <;> omega) _) | (refine Below.trans ?_ (Below.mono (by assumption) (by (try simp) <;> omega)))))⟩
  cases h3 : inB p 1 100
  · have Hv := Lib.hid (show sfV L p = .tuple #[.int .i64 0, .bool false] by simp [sfV, sfB, h, h3])
    go_enter Try.func25, Try.ntmps25
    go_wp2_with fail
    refine (l14Sample_any _ _ _ _ hrE hm).mono ?_; rintro e w1 ⟨rfl, hb1⟩
    have z1 := hb1.size
    try simp at z1
    obtain ⟨c1_0, f1_0⟩ := bblk hb1 (g := w.heap.size) (by (try simp) <;> omega)
    have l1_0 : w.heap.size < w1.heap.size := by omega
    rw [h]
    go_wp2_with fail
    refine (l1In_any _ _ _ _).mono ?_; rintro e w' ⟨rfl, rfl⟩
    rw [h3]
    go_wp2
    go_ret2
    exact ⟨by rw [Hv.out]; rfl, by (repeat (first | exact Below.refl _ _ | refine Below.drew ?_ | refine below_drewN ?_ _ | (refine Below.alloc ?_ (by (try simp) <;> omega) _) | (refine Below.setCell ?_ (by (try simp) <;> omega) _) | (refine Below.trans ?_ (Below.mono (by assumption) (by (try simp) <;> omega)))))⟩
  have Hv := Lib.hid (show sfV L p = sfTop L p by simp [sfV, sfB, h, h3])
  obtain ⟨l1, l2⟩ := smpB_len h
  have hp := inB_iff.1 h3
  have m0 : 0 ≤ p * (L.length : Int) := Int.mul_nonneg (by omega) (by omega)
  have m1 : p * (L.length : Int) ≤ 100 * 20 := Int.mul_le_mul (by omega) (by omega) (by omega) (by omega)
  have hbE : Below w.heap.size w (w.alloc (.cells #[.slice A L.length c] 30 (0, 0))) := by (repeat (first | exact Below.refl _ _ | refine Below.drew ?_ | refine below_drewN ?_ _ | (refine Below.alloc ?_ (by (try simp) <;> omega) _) | (refine Below.setCell ?_ (by (try simp) <;> omega) _) | (refine Below.trans ?_ (Below.mono (by assumption) (by (try simp) <;> omega)))))
  have kE := Lib.hid (show (w.alloc (.cells #[.slice A L.length c] 30 (0, 0))).cell? ⟨w.heap.size, 0, none⟩ = some (.slice A L.length c) by simp)
  have zE : w.heap.size < (w.alloc (.cells #[.slice A L.length c] 30 (0, 0))).heap.size := by simp
  go_enter Try.func25, Try.ntmps25
  go_wp2_with fail
  refine (l14Sample_any _ _ _ _ hrE hm).mono ?_; rintro e w1 ⟨rfl, hb1⟩
  have z1 := hb1.size
  try simp at z1
  obtain ⟨c1_0, f1_0⟩ := bblk hb1 (g := w.heap.size) (by (try simp) <;> omega)
  have l1_0 : w.heap.size < w1.heap.size := by omega
  rw [h]
  go_wp2_with fail
  refine (l1In_any _ _ _ _).mono ?_; rintro e w' ⟨rfl, rfl⟩
  rw [h3]
  generalize w.alloc (.cells #[.slice A L.length c] 30 (0, 0)) = E at *
  clear c1_0 f1_0 h h3
  go_wp2
  go_loopw [6] (fun i wr => ∃ (n : Nat) (o : Int), i = .int .i64 o ∧ o ≤ n ∧ (n : Int) ≤ o ∧ o ≤ 200 ∧ Hid (sfTop L p = sfR L p n) ∧ Below E.heap.size E wr) (fun i _ => (intOf i).toNat)
  case atStart => exact ⟨200, 200, rfl, by omega, by omega, by omega, rfl, hb1⟩
  case round =>
    obtain ⟨n, o, rfl, ho1, ho2, ho3, hs, hb⟩ := hrel
    have zr := hb.size
    have hbz : Below w.heap.size w wr := hbE.trans (hb.mono (by omega))
    match n, ho1, ho2, hs with
    | 0, ho1, ho2, hs =>
      have h1 : ¬ (1 ≤ o) := by omega
      have Hq := Lib.hid (hs.out.trans (show sfR L p 0 = .tuple #[.int .i64 0, .bool false] from rfl))
      go_wp2
      go_ret2
      exact ⟨by rw [Hv.out, Hq.out]; rfl, hbz⟩
    | n + 1, ho1, ho2, hs =>
      obtain ⟨v, hv, v0, v1⟩ := frA_at [o] L (i := 0) (by simp)
      have Ho := Lib.hid (show ((n + 1 : Nat) : Int) = o by omega)
      have ho4 : 1 ≤ o := by omega
      have hn4 : n ≤ 199 := by omega
      clear ho1 ho2
      have HV := Lib.hid hv
      have hf := Lib.hid (show (frA [o] L).length = 2 by rw [frA_len]; rfl)
      have HE1 := Lib.hid (hrE.next hb)
      have kb := Lib.hid (((bblk hb (g := w.heap.size) zE).1 0).trans kE.out)
      clear hv
      obtain ⟨q, hq⟩ : ∃ q, decide (100 * v ≥ p * (L.length : Int)) = q := ⟨_, rfl⟩
      have Hq := Lib.hid hq
      clear hq
      go_wp2
      refine wp_region_grow [.fix (.int .i64 o), .pred (Sl1V o), .val (.agg #[.slice A L.length c]), .pred (SlV f1 1 (frA [o] L)), .pred (PtV v), .val (.int .i64 v), .val (.int .i64 (100 * v)), .fix (.int .i64 p), .val (.pointer (some ⟨w.heap.size, 0, none⟩)), .val (.slice A L.length c), .val (.int .i64 L.length), .val (.int .i64 (p * L.length)), .val (.bool q)] mixed (by kernel_rfl) ?_
      refine SeqG.fixStep (.inl ⟨rfl, fun _ => rfl⟩) ?_
      simp only [Act.put, List.setIfInBounds_toArray, List.set_cons_zero, List.set_cons_succ]
      refine SeqG.predStep Sl1V.next (fun wv hbv hpv => ?_) (fun v0 => ?_)
      · go_wp2_with fail
        exact post_pred (F := Sl1V o) (.slice (some ⟨wv.heap.size, 0, none⟩) 1 1) (by (repeat (first | exact Below.refl _ _ | refine Below.drew ?_ | refine below_drewN ?_ _ | (refine Below.alloc ?_ (by (try simp) <;> omega) _) | (refine Below.setCell ?_ (by (try simp) <;> omega) _) | (refine Below.trans ?_ (Below.mono (by assumption) (by (try simp) <;> omega)))))) ⟨some ⟨wv.heap.size, 0, none⟩, 1, rfl, slR_new1 _ _ _⟩
      simp only [Act.put, List.setIfInBounds_toArray, List.set_cons_zero, List.set_cons_succ]
      refine SeqG.valStep (fun wv hbv hpv => ?_) ?_
      · have e1 := ((bblk hbv (g := w.heap.size) (by omega)).1 0).trans kb.out
        go_wp2_with fail
        exact post_val (Below.refl _ _)
      simp only [Act.put, List.setIfInBounds_toArray, List.set_cons_zero, List.set_cons_succ]
      refine SeqG.predStep SlV.next (fun wv hbv hpv => ?_) (fun v1 => ?_)
      · obtain ⟨B0, d0, rfl, s0⟩ := hpv _ (.head _) (by kernel_rfl)
        clear hpv
        go_wp2_with fail
        refine (l14Parts_any _ _ _ _ [o] _ _ s0 (by simp) (HE1.out.next hbv) hm).mono ?_; rintro e w1 ⟨B1, d1, rfl, q1, hb1⟩
        have HQ := Lib.hid q1.sl
        clear q1
        go_wp2_with fail
        exact post_pred (F := SlV f1 1 (frA [o] L)) _ hb1 ⟨_, _, rfl, HQ.out⟩
      simp only [Act.put, List.setIfInBounds_toArray, List.set_cons_zero, List.set_cons_succ]
      refine SeqG.predStep PtV.next (fun wv hbv hpv => ?_) (fun v2 => ?_)
      · obtain ⟨B0, d0, rfl, s0⟩ := hpv _ (.head _) (by kernel_rfl)
        clear hpv
        obtain ⟨b, off, rfl, hbl, hC⟩ := s0 (SlR.ne HV.out)
        have k0 := Lib.hid (cells1 hC HV.out)
        rw [hf.out]
        clear hC
        go_wp2_with fail
        exact post_pred _ (Below.refl _ _) ⟨b, off, rfl, hbl, k0.out⟩
      simp only [Act.put, List.setIfInBounds_toArray, List.set_cons_zero, List.set_cons_succ]
      refine SeqG.valStep (fun wv hbv hpv => ?_) ?_
      · obtain ⟨b, o, rfl, hbl, k0⟩ := hpv _ (.head _) (by kernel_rfl)
        clear hpv
        go_wp2_with fail
        exact post_val (Below.refl _ _)
      simp only [Act.put, List.setIfInBounds_toArray, List.set_cons_zero, List.set_cons_succ]
      refine SeqG.valStep (fun wv hbv hpv => ?_) ?_
      · skip
        go_wp2_with fail
        exact post_val (Below.refl _ _)
      simp only [Act.put, List.setIfInBounds_toArray, List.set_cons_zero, List.set_cons_succ]
      refine SeqG.fixStep (.inl ⟨rfl, fun _ => rfl⟩) ?_
      simp only [Act.put, List.setIfInBounds_toArray, List.set_cons_zero, List.set_cons_succ]
      refine SeqG.valStep (fun wv hbv hpv => ?_) ?_
      · skip
        go_wp2_with fail
        exact post_val (Below.refl _ _)
      simp only [Act.put, List.setIfInBounds_toArray, List.set_cons_zero, List.set_cons_succ]
      refine SeqG.valStep (fun wv hbv hpv => ?_) ?_
      · have e1 := ((bblk hbv (g := w.heap.size) (by omega)).1 0).trans kb.out
        go_wp2_with fail
        exact post_val (Below.refl _ _)
      simp only [Act.put, List.setIfInBounds_toArray, List.set_cons_zero, List.set_cons_succ]
      refine SeqG.valStep (fun wv hbv hpv => ?_) ?_
      · skip
        go_wp2_with fail
        exact post_val (Below.refl _ _)
      simp only [Act.put, List.setIfInBounds_toArray, List.set_cons_zero, List.set_cons_succ]
      refine SeqG.valStep (fun wv hbv hpv => ?_) ?_
      · skip
        go_wp2_with fail
        exact post_val (Below.refl _ _)
      simp only [Act.put, List.setIfInBounds_toArray, List.set_cons_zero, List.set_cons_succ]
      refine SeqG.valStep (fun wv hbv hpv => ?_) ?_
      · go_wp2_with fail
        exact post_val_eq (congrArg Value.bool Hq.out) (Below.refl _ _)
      simp only [Act.put, List.setIfInBounds_toArray, List.set_cons_zero, List.set_cons_succ]
      refine SeqG.done fun wv hbv hpv => ?_
      clear hpv
      have zv := hbv.size
      have hby : Below w.heap.size w wv := hbz.trans (hbv.mono (by omega))
      have hbx : Below E.heap.size E wv := hb.trans (hbv.mono (by omega))
      cases q
      case true =>
        have HS := Lib.hid (hs.out.trans ((sfR_hit (v := v) (by rw [Ho.out]; exact getD_of HV.out) (of_decide_eq_true Hq.out)).trans (show Value.tuple #[.int .i64 ((n : Int) + 1), .bool true] = .tuple #[.int .i64 o, .bool true] by rw [← Ho.out]; rfl)))
        clear hs
        go_wp2_with fail
        refine NoPan.normal ?_
        go_wp2
        go_ret2
        exact ⟨by rw [Hv.out, HS.out]; rfl, hby⟩
      case false =>
        have HS : Hid (sfTop L p = sfR L p n) := hs.out.trans (sfR_miss (v := v) (by rw [Ho.out]; exact getD_of HV.out) (of_decide_eq_false Hq.out))
        clear hs
        go_wp2_with fail
        refine NoPan.normal ?_
        go_wp2
        go_roundw
        case rel => exact ⟨n, o - 1, rfl, by have := Ho.out; omega, by have := Ho.out; omega, by omega, HS, hbx⟩
        case measure => simp only [intOf]; omega
end Go.Proofs.Ytapfnelghmnajaa
