/-
  slices.Grow of nothing, slices.Concat of two slices of ints.
-/
import Derived.Test.YtapfnelghmnajaaBrk1
import Derived.Lib.AppendZeros
import Derived.WalkKit
import Derived.WalkSpells
import Derived.WalkLawsBesides
import Derived.Lib.Hide
import Derived.Deep.QuietTactic
import Derived.BigQuiet
import Derived.StillTailTactics
namespace Go.Proofs.Ytapfnelghmnajaa
open Go.RowKit

set_option maxRecDepth 20000 in
set_option maxHeartbeats 4000000 in
theorem growI_any (n : Nat) (w : World) (hm : (n : Int) ≤ 4194304) :
    Calls Try.prog 83 #[.slice none 0 0, .int .i64 n] w fun e w' => ∃ v, e = .returned v ∧ Gath f1 1 3 w' w.heap.size v [] ∧ Below w.heap.size w w' := by
  obtain ⟨i0, hi, hz0, hz1, hz2⟩ := info_parts infoInt
  have hn0 : (0 : Int) ≤ (n : Int) := by omega
  by_cases h0 : n = 0
  · subst h0
    go_enter Try.func83, Try.ntmps83
    go_wp2
    go_ret
    exact ⟨_, rfl, Gath.nil, Below.refl _ _⟩
  · have hn1 : (0 : Int) < (n : Int) := by omega
    have hrun := Lib.hid (fun ty => Lib.run_append_nil_zeros w 22 3 ty 3 i0 (.int .i64 0) .i64 .i64 Try.underlying22 Try.underlying3 hi hz0 n (by omega) (by rw [hz1]; omega) (by omega) (by rw [hz2]; omega))
    have hle := grownCap_le_maxLen w n 0 3 (by unfold maxLen; omega)
    have hge := grownCap_ge w n 0 3
    generalize hG : grownCap w n 0 3 = G at *
    have hG1 := Lib.hid hG
    clear hG
    go_enter Try.func83, Try.ntmps83
    go_wp2_with (at_builtin; refine Lib.wpList_append_run _ rfl _ _ _ _ rfl _ _ rfl rfl _ _ (hrun.out _) ?_)
    go_ret
    refine ⟨_, rfl, ?_, ((Below.refl _ _).alloc (Nat.le_refl _) _).drew⟩
    have := World.ownsRow_made (base := w.heap.size) (size := 1) (e := 3) w (Builtin.zeroCells #[Value.int .i64 0] n ++ Builtin.zeroCells #[Value.int .i64 0] (G - n)) G (Nat.le_refl _) hle (by simp [Builtin.zeroCells]; omega)
    exact this

theorem Gath.app {t : TypeId} {w : World} {B : Nat} {v : Value} {G L : List Int} (h : w.ownsRow B t 1 v (G.length + L.length) (G.flatMap f1 ++ L.map (Value.int .i64))) : Gath f1 1 t w B v (G ++ L) := by
  unfold Gath
  rw [flat1, List.map_append, List.length_append]
  rw [flat1] at h
  exact h

theorem growZ_any (z : Int) (w : World) (h0 : 0 ≤ z) (hm : z ≤ 4194304) :
    Calls Try.prog 83 #[.slice none 0 0, .int .i64 z] w fun e w' => ∃ v, e = .returned v ∧ Gath f1 1 3 w' w.heap.size v [] ∧ Below w.heap.size w w' := by
  obtain ⟨n, rfl⟩ := Int.eq_ofNat_of_zero_le h0
  exact growI_any n w hm

set_option maxRecDepth 20000 in
set_option maxHeartbeats 8000000 in
/-- Two slices of ints, held in a row of two. -/
theorem concat_any (p : Nat) (b off c b' off' c' : Nat) (L L' : List Int) (w : World) (hp : w.cell? ⟨p, 0, none⟩ = some (.slice (some ⟨b, off, none⟩) L.length c)) (hp' : w.cell? ⟨p, 1, none⟩ = some (.slice (some ⟨b', off', none⟩) L'.length c'))
    (hr : Cells f1 1 w b off L) (hb : b < w.heap.size) (hr' : Cells f1 1 w b' off' L') (hb' : b' < w.heap.size) (hm : (L.length : Int) ≤ 1048576) (hm' : (L'.length : Int) ≤ 1048576) :
    Calls Try.prog 74 #[.slice (some ⟨p, 0, none⟩) 2 2] w fun e w' => ∃ v, e = .returned v ∧ Gath f1 1 3 w' w.heap.size v (L ++ L') ∧ Below w.heap.size w w' := by
  obtain ⟨i0, hi, hz0, hz1, hz2⟩ := info_parts infoInt
  have hpl : p < w.heap.size := World.block_lt_of_cell? w _ hp
  have hl0 : (0 : Int) ≤ (L.length : Int) := by omega
  have hl1 : (0 : Int) ≤ (L'.length : Int) := by omega
  have hC := Lib.hid hr
  have hC' := Lib.hid hr'
  clear hr hr'
  go_enter Try.func74, Try.ntmps74
  go_wp2
  go_loopw [11, 3] (fun i s wr => w = wr ∧ ((i = .int .i64 0 ∧ s = .int .i64 0) ∨ (i = .int .i64 1 ∧ s = .int .i64 L.length) ∨ (i = .int .i64 2 ∧ s = .int .i64 ((L.length : Int) + L'.length)))) (fun i _ _ => (2 - intOf i).toNat)
  case atStart => exact ⟨rfl, .inl ⟨rfl, rfl⟩⟩
  case round =>
    obtain ⟨rfl, ⟨rfl, rfl⟩ | ⟨rfl, rfl⟩ | ⟨rfl, rfl⟩⟩ := hrel
    · go_wp2
      go_roundw
      case rel => exact ⟨trivial, .inr (.inl ⟨by go_num, by go_num⟩)⟩
      case measure => simp only [intOf]; omega
    · go_wp2
      go_roundw
      case rel => exact ⟨trivial, .inr (.inr ⟨by go_num, by go_num⟩)⟩
      case measure => simp only [intOf]; omega
    · go_wp2_with fail
      refine (growZ_any ((L.length : Int) + L'.length) _ (by omega) (by omega)).mono ?_; rintro e w1 ⟨v, rfl, hG, hb1⟩
      have z1 := hb1.size
      have q0 := ((bblk hb1 (g := p) hpl).1 0).trans hp
      have q1 := ((bblk hb1 (g := p) hpl).1 1).trans hp'
      have Q0 := Lib.hid q0
      have Q1 := Lib.hid q1
      have HG := Lib.hid hG
      clear q0 q1 hp hp' hG
      go_wp2
      go_loopw [27, 6] (fun i v wr => Below w.heap.size w1 wr ∧ ((i = .int .i64 0 ∧ Gath f1 1 3 wr w.heap.size v []) ∨ (i = .int .i64 1 ∧ Gath f1 1 3 wr w.heap.size v L) ∨ (i = .int .i64 2 ∧ Gath f1 1 3 wr w.heap.size v (L ++ L')))) (fun i _ _ => (2 - intOf i).toNat)
      case atStart => exact ⟨Below.refl _ _, .inl ⟨rfl, HG.out⟩⟩
      case round =>
        obtain ⟨hb, ⟨rfl, hG⟩ | ⟨rfl, hG⟩ | ⟨rfl, hG⟩⟩ := hrel
        · have zr := hb.size
          have e0 := ((bblk hb (g := p) hpl).1 0).trans Q0.out
          have hbr : b < wr.heap.size := by omega
          have hcr := Lib.hid (fun j u h => drop_news (p := 0) (hC.out.below (Below.trans (hb1.mono (Nat.le_refl _)) (hb.mono (by omega))) (by omega)) j u (by simpa using h) : ∀ j u, (L.map (Value.int .i64))[j]? = some u → wr.cell? ((⟨b, off + 0, none⟩ : Addr).add j) = some u)
          simp only [Nat.add_zero] at hcr
          have HG1 := Lib.hid hG
          clear hG
          go_wp2_with (at_builtin; refine wpList_append_own _ rfl _ _ 22 rfl w.heap.size 3 i0 (.int .i64 0) 1 8 Try.underlying22 hi hz0 hz1 hz2 rfl (by decide) _ _ _ rfl HG1.out ⟨b, off, none⟩ L.length c (L.map (Value.int .i64)) rfl (by simp) hcr.out ints_one ?c3 ?c4 ?c5 ?c6)
          case c3 => unfold maxLen; first | omega | (simp; omega)
          case c4 => first | omega | (simp; omega)
          case c5 => omega
          case c6 =>
            intro v' w9 hown hgrow _
            have hG9 := Lib.hid (show Gath f1 1 3 w9 w.heap.size v' (([] : List Int) ++ L) from Gath.app (by simpa using hown))
            have hb9 : Below w.heap.size w1 w9 := below_grown' hb hgrow HG1.out (Nat.le_refl _) (by omega)
            clear hown hgrow
            go_wp2
            go_roundw
            case rel => exact ⟨hb9, (.inr (.inl ⟨by go_num, hG9.out⟩))⟩
            case measure => simp only [intOf]; omega
        · have zr := hb.size
          have e0 := ((bblk hb (g := p) hpl).1 1).trans Q1.out
          have hbr : b' < wr.heap.size := by omega
          have hcr := Lib.hid (fun j u h => drop_news (p := 0) (hC'.out.below (Below.trans (hb1.mono (Nat.le_refl _)) (hb.mono (by omega))) (by omega)) j u (by simpa using h) : ∀ j u, (L'.map (Value.int .i64))[j]? = some u → wr.cell? ((⟨b', off' + 0, none⟩ : Addr).add j) = some u)
          simp only [Nat.add_zero] at hcr
          have HG1 := Lib.hid hG
          clear hG
          go_wp2_with (at_builtin; refine wpList_append_own _ rfl _ _ 22 rfl w.heap.size 3 i0 (.int .i64 0) 1 8 Try.underlying22 hi hz0 hz1 hz2 rfl (by decide) _ _ _ rfl HG1.out ⟨b', off', none⟩ L'.length c' (L'.map (Value.int .i64)) rfl (by simp) hcr.out ints_one ?c3 ?c4 ?c5 ?c6)
          case c3 => unfold maxLen; first | omega | (simp; omega)
          case c4 => first | omega | (simp; omega)
          case c5 => omega
          case c6 =>
            intro v' w9 hown hgrow _
            have hG9 := Lib.hid (show Gath f1 1 3 w9 w.heap.size v' (L ++ L') from Gath.app hown)
            have hb9 : Below w.heap.size w1 w9 := below_grown' hb hgrow HG1.out (Nat.le_refl _) (by omega)
            clear hown hgrow
            go_wp2
            go_roundw
            case rel => exact ⟨hb9, (.inr (.inr ⟨by go_num, hG9.out⟩))⟩
            case measure => simp only [intOf]; omega
        · have HG1 := Lib.hid hG
          clear hG
          go_wp2
          go_ret
          exact ⟨_, rfl, HG1.out, hb1.trans (hb.mono (by omega))⟩
end Go.Proofs.Ytapfnelghmnajaa
