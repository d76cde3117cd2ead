/-
  l11Free at trips that are only small.
-/
import Derived.Test.YtfcmfadkkfkidaaFree
import Derived.Test.YtfcmfadkkfkidaaRegion
import Derived.Deep.DeepCutAuto
import Derived.WalkKit
import Derived.WalkSpells
import Derived.WalkLawsBesides
import Derived.Lib.Hide
import Derived.Deep.QuietTactic
import Derived.BigQuiet
import Derived.StillTailTactics
namespace Go.Proofs.Ytfcmfadkkfkidaa
open Go.RowKit

/-- A trip of small ints. -/
structure TrW (x : T5) : Prop where
  b : -1000000000 ≤ x.2.1 ∧ x.2.1 ≤ 1000000000
  c : -1000000000 ≤ x.2.2.1 ∧ x.2.2.1 ≤ 1000000000
  d : -1000000000 ≤ x.2.2.2.1 ∧ x.2.2.2.1 ≤ 1000000000
set_option maxHeartbeats 1000000 in
theorem l11ArrivesV_any (a b c d g : Int) (w : World) (hb : -1000000000 ≤ b ∧ b ≤ 1000000000) (hc : -1000000000 ≤ c ∧ c ≤ 1000000000) (hd : -1000000000 ≤ d ∧ d ≤ 1000000000) :
    Calls Try.prog 67 #[tripV a b c d g] w fun e w' => e = .returned (.int .i64 (arr b c d)) ∧ Below w.heap.size w w' := by
  obtain ⟨q, hq, hq0, hq1⟩ : ∃ q : Int, max (b - c) (c - b) = q ∧ 0 ≤ q ∧ q ≤ 2000000000 := ⟨_, rfl, by omega, by omega⟩
  have Hv := Lib.hid (show arr b c d = d + 4 * q by unfold arr; split <;> omega)
  have Hq := Lib.hid hq; clear hq
  go_enter Try.func67, Try.ntmps67
  go_wp2
  go_quiet (exact (l1Most_any _ _ _).mono fun _ _ ⟨he, hw⟩ => ⟨he.trans (by rw [Hq.out]), _, hw.symm⟩)
  go_wp2
  go_ret
  exact ⟨by rw [Hv.out]; rfl, by (repeat (first | exact Below.refl _ _ | refine Below.drew ?_ | refine below_drewN ?_ _ | (refine Below.alloc ?_ (by (try simp) <;> omega) _) | (refine Below.setCell ?_ (by (try simp) <;> omega) _) | (refine Below.trans ?_ (Below.mono (by assumption) (by (try simp) <;> omega)))))⟩


set_option maxHeartbeats 4000000 in
theorem l11EntersV_any (a b c d g s : Int) (w : World) (hb : -1000000000 ≤ b ∧ b ≤ 1000000000) (hc : -1000000000 ≤ c ∧ c ≤ 1000000000) (hd : -1000000000 ≤ d ∧ d ≤ 1000000000) (hs : 0 ≤ s ∧ s ≤ 8) :
    Calls Try.prog 72 #[tripV a b c d g, .int .i64 s] w fun e w' => e = .returned (.int .i64 (entB b c d s)) ∧ Below w.heap.size w w' := by
  obtain ⟨b0, b9⟩ := hb
  obtain ⟨c0, c9⟩ := hc
  obtain ⟨d0, d9⟩ := hd
  obtain ⟨s0, s9⟩ := hs
  have k1 := Blk.new w 25 #[.int .i64 a, .int .i64 b, .int .i64 c, .int .i64 d, .int .i64 g]
  have e1 := k1.cell
  have hb1 : Below w.heap.size w (w.alloc (.cells #[.int .i64 a, .int .i64 b, .int .i64 c, .int .i64 d, .int .i64 g] 25)) := by (repeat (first | exact Below.refl _ _ | refine Below.drew ?_ | refine below_drewN ?_ _ | (refine Below.alloc ?_ (by (try simp) <;> omega) _) | (refine Below.setCell ?_ (by (try simp) <;> omega) _) | (refine Below.trans ?_ (Below.mono (by assumption) (by (try simp) <;> omega)))))
  by_cases h1 : b ≤ s ∧ s < c
  · have Hv := Lib.hid (show entB b c d s = d + 4 * (s - b) from if_pos h1)
    obtain ⟨h1, h2⟩ := h1
    go_enter Try.func72, Try.ntmps72
    go_wp2
    go_ret
    exact ⟨by rw [Hv.out]; rfl, hb1⟩
  · by_cases h2 : c ≤ s ∧ s < b
    · have Hv := Lib.hid (show entB b c d s = d + 4 * (b - 1 - s) by unfold entB; rw [if_neg h1, if_pos h2])
      obtain ⟨h2, h3⟩ := h2
      have h4 : ¬ b ≤ s := by omega
      clear h1
      go_enter Try.func72, Try.ntmps72
      go_wp2
      go_ret
      exact ⟨by rw [Hv.out]; rfl, hb1⟩
    · have Hv := Lib.hid (show entB b c d s = -1 by unfold entB; rw [if_neg h1, if_neg h2])
      by_cases h3 : b ≤ s
      · have h4 : ¬ s < c := by omega
        have h5 : c ≤ s := by omega
        have h6 : ¬ s < b := by omega
        clear h1 h2
        go_enter Try.func72, Try.ntmps72
        go_wp2
        go_ret
        exact ⟨by rw [Hv.out]; rfl, hb1⟩
      · have h4 : ¬ c ≤ s := by omega
        clear h1 h2
        go_enter Try.func72, Try.ntmps72
        go_wp2
        go_ret
        exact ⟨by rw [Hv.out]; rfl, hb1⟩


theorem l11ArrivesW_any (x : T5) (w : World) (h : TrW x) : Calls Try.prog 67 #[tripV x.1 x.2.1 x.2.2.1 x.2.2.2.1 x.2.2.2.2] w fun e w' => e = .returned (.int .i64 (arrT x)) ∧ Below w.heap.size w w' := l11ArrivesV_any _ _ _ _ _ _ h.b h.c h.d
theorem l11EntersW_any (x : T5) (s : Int) (w : World) (h : TrW x) (hs : 0 ≤ s ∧ s ≤ 8) : Calls Try.prog 72 #[tripV x.1 x.2.1 x.2.2.1 x.2.2.2.1 x.2.2.2.2, .int .i64 s] w fun e w' => e = .returned (.int .i64 (entT x s)) ∧ Below w.heap.size w w' := l11EntersV_any _ _ _ _ _ _ _ h.b h.c h.d hs
theorem entTW_bd {x : T5} (h : TrW x) {s : Int} (h0 : 0 ≤ s) (h8 : s ≤ 8) : -10000000000 ≤ entT x s ∧ entT x s ≤ 10000000000 := by
  obtain ⟨hb, hc, hd⟩ := h
  unfold entT entB
  split
  · omega
  · split <;> omega

set_option maxRecDepth 20000 in
set_option maxHeartbeats 8000000 in
theorem l11MeetW_any (x y : T5) (w : World) (hx : TrW x) (hy : TrW y) :
    Calls Try.prog 79 #[tripV x.1 x.2.1 x.2.2.1 x.2.2.2.1 x.2.2.2.2, tripV y.1 y.2.1 y.2.2.1 y.2.2.2.1 y.2.2.2.2] w fun e w' => e = .returned (.bool (meetB x y)) ∧ Below w.heap.size w w' := by
  have kx := (Blk.new w 25 #[.int .i64 x.1, .int .i64 x.2.1, .int .i64 x.2.2.1, .int .i64 x.2.2.2.1, .int .i64 x.2.2.2.2]).alloc (.cells #[.int .i64 y.1, .int .i64 y.2.1, .int .i64 y.2.2.1, .int .i64 y.2.2.2.1, .int .i64 y.2.2.2.2] 25)
  have ky := Blk.new1 w 25 #[.int .i64 y.1, .int .i64 y.2.1, .int .i64 y.2.2.1, .int .i64 y.2.2.2.1, .int .i64 y.2.2.2.2] (.cells #[.int .i64 x.1, .int .i64 x.2.1, .int .i64 x.2.2.1, .int .i64 x.2.2.2.1, .int .i64 x.2.2.2.2] 25)
  have hb0 : Below w.heap.size w ((w.alloc (.cells #[.int .i64 x.1, .int .i64 x.2.1, .int .i64 x.2.2.1, .int .i64 x.2.2.2.1, .int .i64 x.2.2.2.2] 25)).alloc (.cells #[.int .i64 y.1, .int .i64 y.2.1, .int .i64 y.2.2.1, .int .i64 y.2.2.2.1, .int .i64 y.2.2.2.2] 25)) := by (repeat (first | exact Below.refl _ _ | refine Below.drew ?_ | refine below_drewN ?_ _ | (refine Below.alloc ?_ (by (try simp) <;> omega) _) | (refine Below.setCell ?_ (by (try simp) <;> omega) _) | (refine Below.trans ?_ (Below.mono (by assumption) (by (try simp) <;> omega)))))
  go_enter Try.func79, Try.ntmps79
  go_upto_region 1 with fail
  generalize hp : w.heap.size = p at *
  generalize hq : p + 1 = q at *
  have Hp := Lib.hid hp
  clear hp hq
  generalize (w.alloc (.cells #[.int .i64 x.1, .int .i64 x.2.1, .int .i64 x.2.2.1, .int .i64 x.2.2.2.1, .int .i64 x.2.2.2.2] 25)).alloc (.cells #[.int .i64 y.1, .int .i64 y.2.1, .int .i64 y.2.2.1, .int .i64 y.2.2.2.1, .int .i64 y.2.2.2.2] 25) = W at *
  have kx0 := kx
  have ky0 := ky
  go_wp2
  go_loopw [5] (fun v5 wr => ∃ s : Nat, v5 = .int .i64 s ∧ s ≤ 9 ∧ Hid (∀ s' : Nat, s' < s → entM x y s' = false) ∧ Below W.heap.size W wr) (fun v5 _ => (9 - intOf v5).toNat)
  case atStart => exact ⟨0, rfl, by omega, fun s h => by omega, Below.refl _ _⟩
  case round =>
    obtain ⟨s, rfl, hs, hno, hb1⟩ := hrel
    have zr := hb1.size
    have kx := kx0.below' hb1
    have ky := ky0.below' hb1
    have hs0 : (0 : Int) ≤ (s : Int) := by omega
    by_cases hlt : s < 9
    · have hs8 : (s : Int) ≤ 8 := by omega
      obtain ⟨m0, m1⟩ := entTW_bd hx hs0 hs8
      obtain ⟨n0, n1⟩ := entTW_bd hy hs0 hs8
      have hsd : decide ((s : Int) < 9) = true := decide_eq_true (by omega)
      go_wp2
      refine wp_region_grow [.val (.agg #[.int .i64 x.1, .int .i64 x.2.1, .int .i64 x.2.2.1, .int .i64 x.2.2.2.1, .int .i64 x.2.2.2.2]), .fix (.int .i64 (s)), .val (.int .i64 (entT x s)), .val (.agg #[.int .i64 y.1, .int .i64 y.2.1, .int .i64 y.2.2.1, .int .i64 y.2.2.2.1, .int .i64 y.2.2.2.2]), .fix (.int .i64 (s)), .val (.int .i64 (entT y s)), .fix (.int .i64 (entT x s)), .fix (.int .i64 (entT y s))] mixed (by kernel_rfl) ?_
      refine SeqG.valStep (fun wv hbv hpv => ?_) ?_
      · have cx := (kx.below' hbv).cell
        go_wp2_with fail
        exact post_val (Below.refl _ _)
      simp only [Act.put, List.setIfInBounds_toArray, List.set_cons_zero, List.set_cons_succ]
      refine SeqG.fixStep (.inl ⟨rfl, fun _ => rfl⟩) ?_
      simp only [Act.put, List.setIfInBounds_toArray, List.set_cons_zero, List.set_cons_succ]
      refine SeqG.valStep (fun wv hbv hpv => ?_) ?_
      · go_wp2_with fail
        refine (l11EntersW_any x _ _ hx ⟨hs0, hs8⟩).mono ?_; rintro e w' ⟨he, hb⟩; subst he
        go_wp2_with fail
        exact post_val hb
      simp only [Act.put, List.setIfInBounds_toArray, List.set_cons_zero, List.set_cons_succ]
      refine SeqG.valStep (fun wv hbv hpv => ?_) ?_
      · have cy := (ky.below' hbv).cell
        go_wp2_with fail
        exact post_val (Below.refl _ _)
      simp only [Act.put, List.setIfInBounds_toArray, List.set_cons_zero, List.set_cons_succ]
      refine SeqG.fixStep (.inl ⟨rfl, fun _ => rfl⟩) ?_
      simp only [Act.put, List.setIfInBounds_toArray, List.set_cons_zero, List.set_cons_succ]
      refine SeqG.valStep (fun wv hbv hpv => ?_) ?_
      · go_wp2_with fail
        refine (l11EntersW_any y _ _ hy ⟨hs0, hs8⟩).mono ?_; rintro e w' ⟨he, hb⟩; subst he
        go_wp2_with fail
        exact post_val hb
      simp only [Act.put, List.setIfInBounds_toArray, List.set_cons_zero, List.set_cons_succ]
      refine SeqG.fixStep (.inl ⟨rfl, fun _ => rfl⟩) ?_
      simp only [Act.put, List.setIfInBounds_toArray, List.set_cons_zero, List.set_cons_succ]
      refine SeqG.fixStep (.inl ⟨rfl, fun _ => rfl⟩) ?_
      simp only [Act.put, List.setIfInBounds_toArray, List.set_cons_zero, List.set_cons_succ]
      refine SeqG.done fun wv hbv hpv => ?_
      refine NoPan.normal ?_
      clear hpv
      clear hsd
      have hb2 : Below W.heap.size W wv := hb1.trans (hbv.mono zr)
      have hM := entM_iff (x := x) (y := y) (s := (s : Int))
      generalize entT x s = m at *
      generalize entT y s = n at *
      by_cases hh : 0 ≤ m ∧ 0 ≤ n ∧ m < n + 4 ∧ n < m + 4
      · have Hv := Lib.hid (meet_ent hlt (hM.2 hh))
        have hb9 : Below p w wv := hb0.trans (hb2.mono (by have := hb0.size; have := kx0.lt; omega))
        obtain ⟨g1, g2, g3, g4⟩ := hh
        clear hM
        go_wp2
        go_ret
        exact ⟨by rw [Hv.out]; rfl, by rw [Hp.out]; exact hb9⟩
      · have Hn : Hid (∀ s' : Nat, s' < s + 1 → entM x y s' = false) := fun s' hs' => by
          by_cases e : s' = s
          · subst e; rw [Bool.eq_false_iff]; exact fun h => hh (hM.1 h)
          · exact hno.out s' (by omega)
        clear hM hno
        by_cases g1 : 0 ≤ m
        · by_cases g2 : 0 ≤ n
          · by_cases g3 : m < n + 4
            · have g4 : ¬ n < m + 4 := fun h => hh ⟨g1, g2, g3, h⟩
              clear hh
              go_wp2
              go_roundw
              case rel => exact ⟨s + 1, by go_num, by omega, Hn, hb2⟩
              case measure => simp only [intOf]; omega
            · clear hh
              go_wp2
              go_roundw
              case rel => exact ⟨s + 1, by go_num, by omega, Hn, hb2⟩
              case measure => simp only [intOf]; omega
          · clear hh
            go_wp2
            go_roundw
            case rel => exact ⟨s + 1, by go_num, by omega, Hn, hb2⟩
            case measure => simp only [intOf]; omega
        · clear hh
          go_wp2
          go_roundw
          case rel => exact ⟨s + 1, by go_num, by omega, Hn, hb2⟩
          case measure => simp only [intOf]; omega
    · obtain rfl : s = 9 := by omega
      have Hv := Lib.hid (meet_noEnt (fun s hs => hno.out s hs))
      clear hno
      go_wp2
      by_cases h1 : x.2.1 = y.2.1
      · skip
        by_cases h2 : x.2.2.2.1 = y.2.2.2.1
        · skip
          have b1 : (x.2.1 == y.2.1) = true := by simpa using h1
          have b2 : (x.2.2.2.1 == y.2.2.2.1) = true := by simpa using h2
          have HE := Lib.hid (show endsB x y = true by simp [endsB, h1, h2])
          clear h1 h2
          refine wp_region_grow [.val (.pointer (some ⟨p, 1, none⟩)), .val (.int .i64 (x.2.1)), .val (.pointer (some ⟨q, 1, none⟩)), .val (.int .i64 (y.2.1)), .val (.bool true), .fix (.bool true), .val (.pointer (some ⟨p, 3, none⟩)), .val (.int .i64 (x.2.2.2.1)), .val (.pointer (some ⟨q, 3, none⟩)), .val (.int .i64 (y.2.2.2.1)), .val (.bool true), .fix (.bool true), .fix (.bool true), .fix undef, .fix undef, .fix undef, .fix undef, .fix undef, .fix undef, .fix undef, .fix undef, .fix undef, .fix undef, .fix undef, .fix undef, .fix (.bool true), .fix (.bool true)] mixed (by kernel_rfl) ?_
          refine SeqG.valStep (fun wv hbv hpv => ?_) ?_
          · skip
            go_wp2_with fail
            exact post_val (Below.refl _ _)
          simp only [Act.put, List.setIfInBounds_toArray, List.set_cons_zero, List.set_cons_succ]
          refine SeqG.valStep (fun wv hbv hpv => ?_) ?_
          · have cx := (kx.below' hbv).cell
            go_wp2_with fail
            exact post_val (Below.refl _ _)
          simp only [Act.put, List.setIfInBounds_toArray, List.set_cons_zero, List.set_cons_succ]
          refine SeqG.valStep (fun wv hbv hpv => ?_) ?_
          · skip
            go_wp2_with fail
            exact post_val (Below.refl _ _)
          simp only [Act.put, List.setIfInBounds_toArray, List.set_cons_zero, List.set_cons_succ]
          refine SeqG.valStep (fun wv hbv hpv => ?_) ?_
          · have cy := (ky.below' hbv).cell
            go_wp2_with fail
            exact post_val (Below.refl _ _)
          simp only [Act.put, List.setIfInBounds_toArray, List.set_cons_zero, List.set_cons_succ]
          refine SeqG.valStep (fun wv hbv hpv => ?_) ?_
          · skip
            go_wp2_with fail
            exact post_val (Below.refl _ _)
          simp only [Act.put, List.setIfInBounds_toArray, List.set_cons_zero, List.set_cons_succ]
          refine SeqG.fixStep (.inl ⟨rfl, fun _ => rfl⟩) ?_
          simp only [Act.put, List.setIfInBounds_toArray, List.set_cons_zero, List.set_cons_succ]
          refine SeqG.valStep (fun wv hbv hpv => ?_) ?_
          · skip
            go_wp2_with fail
            exact post_val (Below.refl _ _)
          simp only [Act.put, List.setIfInBounds_toArray, List.set_cons_zero, List.set_cons_succ]
          refine SeqG.valStep (fun wv hbv hpv => ?_) ?_
          · have cx := (kx.below' hbv).cell
            go_wp2_with fail
            exact post_val (Below.refl _ _)
          simp only [Act.put, List.setIfInBounds_toArray, List.set_cons_zero, List.set_cons_succ]
          refine SeqG.valStep (fun wv hbv hpv => ?_) ?_
          · skip
            go_wp2_with fail
            exact post_val (Below.refl _ _)
          simp only [Act.put, List.setIfInBounds_toArray, List.set_cons_zero, List.set_cons_succ]
          refine SeqG.valStep (fun wv hbv hpv => ?_) ?_
          · have cy := (ky.below' hbv).cell
            go_wp2_with fail
            exact post_val (Below.refl _ _)
          simp only [Act.put, List.setIfInBounds_toArray, List.set_cons_zero, List.set_cons_succ]
          refine SeqG.valStep (fun wv hbv hpv => ?_) ?_
          · skip
            go_wp2_with fail
            exact post_val (Below.refl _ _)
          simp only [Act.put, List.setIfInBounds_toArray, List.set_cons_zero, List.set_cons_succ]
          refine SeqG.fixStep (.inl ⟨rfl, fun _ => rfl⟩) ?_
          simp only [Act.put, List.setIfInBounds_toArray, List.set_cons_zero, List.set_cons_succ]
          refine SeqG.fixStep (.inl ⟨rfl, fun _ => rfl⟩) ?_
          simp only [Act.put, List.setIfInBounds_toArray, List.set_cons_zero, List.set_cons_succ]
          refine SeqG.fixStep (.inr ⟨rfl, rfl⟩) ?_
          simp only [Act.put, List.setIfInBounds_toArray, List.set_cons_zero, List.set_cons_succ]
          refine SeqG.fixStep (.inr ⟨rfl, rfl⟩) ?_
          simp only [Act.put, List.setIfInBounds_toArray, List.set_cons_zero, List.set_cons_succ]
          refine SeqG.fixStep (.inr ⟨rfl, rfl⟩) ?_
          simp only [Act.put, List.setIfInBounds_toArray, List.set_cons_zero, List.set_cons_succ]
          refine SeqG.fixStep (.inr ⟨rfl, rfl⟩) ?_
          simp only [Act.put, List.setIfInBounds_toArray, List.set_cons_zero, List.set_cons_succ]
          refine SeqG.fixStep (.inr ⟨rfl, rfl⟩) ?_
          simp only [Act.put, List.setIfInBounds_toArray, List.set_cons_zero, List.set_cons_succ]
          refine SeqG.fixStep (.inr ⟨rfl, rfl⟩) ?_
          simp only [Act.put, List.setIfInBounds_toArray, List.set_cons_zero, List.set_cons_succ]
          refine SeqG.fixStep (.inr ⟨rfl, rfl⟩) ?_
          simp only [Act.put, List.setIfInBounds_toArray, List.set_cons_zero, List.set_cons_succ]
          refine SeqG.fixStep (.inr ⟨rfl, rfl⟩) ?_
          simp only [Act.put, List.setIfInBounds_toArray, List.set_cons_zero, List.set_cons_succ]
          refine SeqG.fixStep (.inr ⟨rfl, rfl⟩) ?_
          simp only [Act.put, List.setIfInBounds_toArray, List.set_cons_zero, List.set_cons_succ]
          refine SeqG.fixStep (.inr ⟨rfl, rfl⟩) ?_
          simp only [Act.put, List.setIfInBounds_toArray, List.set_cons_zero, List.set_cons_succ]
          refine SeqG.fixStep (.inr ⟨rfl, rfl⟩) ?_
          simp only [Act.put, List.setIfInBounds_toArray, List.set_cons_zero, List.set_cons_succ]
          refine SeqG.fixStep (.inr ⟨rfl, rfl⟩) ?_
          simp only [Act.put, List.setIfInBounds_toArray, List.set_cons_zero, List.set_cons_succ]
          refine SeqG.fixStep (.inl ⟨rfl, fun _ => rfl⟩) ?_
          simp only [Act.put, List.setIfInBounds_toArray, List.set_cons_zero, List.set_cons_succ]
          refine SeqG.fixStep (.inl ⟨rfl, fun _ => rfl⟩) ?_
          simp only [Act.put, List.setIfInBounds_toArray, List.set_cons_zero, List.set_cons_succ]
          refine SeqG.done fun wv hbv hpv => ?_
          refine NoPan.normal ?_
          clear hpv
          have hb9 : Below p w wv := hb0.trans ((hb1.trans (hbv.mono zr)).mono (by have := hb0.size; have := kx0.lt; omega))
          go_wp2
          go_ret
          exact ⟨by rw [Hv.out, HE.out]; rfl, by rw [Hp.out]; exact hb9⟩
        · skip
          by_cases h3 : x.2.2.1 = y.2.2.1
          · skip
            by_cases h4 : arrT x = arrT y
            · skip
              have b1 : (x.2.1 == y.2.1) = true := by simpa using h1
              have b2 : (x.2.2.2.1 == y.2.2.2.1) = false := by simpa using h2
              have b3 : (x.2.2.1 == y.2.2.1) = true := by simpa using h3
              have b4 : (arrT x == arrT y) = true := by simpa using h4
              have HE := Lib.hid (show endsB x y = true by simp [endsB, h1, h2, h3, h4])
              clear h1 h2 h3 h4
              refine wp_region_grow [.val (.pointer (some ⟨p, 1, none⟩)), .val (.int .i64 (x.2.1)), .val (.pointer (some ⟨q, 1, none⟩)), .val (.int .i64 (y.2.1)), .val (.bool true), .fix (.bool true), .val (.pointer (some ⟨p, 3, none⟩)), .val (.int .i64 (x.2.2.2.1)), .val (.pointer (some ⟨q, 3, none⟩)), .val (.int .i64 (y.2.2.2.1)), .val (.bool false), .fix (.bool false), .fix (.bool false), .val (.pointer (some ⟨p, 2, none⟩)), .val (.int .i64 (x.2.2.1)), .val (.pointer (some ⟨q, 2, none⟩)), .val (.int .i64 (y.2.2.1)), .val (.bool true), .fix (.bool true), .val (.agg #[.int .i64 x.1, .int .i64 x.2.1, .int .i64 x.2.2.1, .int .i64 x.2.2.2.1, .int .i64 x.2.2.2.2]), .val (.int .i64 (arrT x)), .val (.agg #[.int .i64 y.1, .int .i64 y.2.1, .int .i64 y.2.2.1, .int .i64 y.2.2.2.1, .int .i64 y.2.2.2.2]), .val (.int .i64 (arrT y)), .val (.bool true), .fix (.bool true), .fix (.bool true), .fix (.bool true)] mixed (by kernel_rfl) ?_
              refine SeqG.valStep (fun wv hbv hpv => ?_) ?_
              · skip
                go_wp2_with fail
                exact post_val (Below.refl _ _)
              simp only [Act.put, List.setIfInBounds_toArray, List.set_cons_zero, List.set_cons_succ]
              refine SeqG.valStep (fun wv hbv hpv => ?_) ?_
              · have cx := (kx.below' hbv).cell
                go_wp2_with fail
                exact post_val (Below.refl _ _)
              simp only [Act.put, List.setIfInBounds_toArray, List.set_cons_zero, List.set_cons_succ]
              refine SeqG.valStep (fun wv hbv hpv => ?_) ?_
              · skip
                go_wp2_with fail
                exact post_val (Below.refl _ _)
              simp only [Act.put, List.setIfInBounds_toArray, List.set_cons_zero, List.set_cons_succ]
              refine SeqG.valStep (fun wv hbv hpv => ?_) ?_
              · have cy := (ky.below' hbv).cell
                go_wp2_with fail
                exact post_val (Below.refl _ _)
              simp only [Act.put, List.setIfInBounds_toArray, List.set_cons_zero, List.set_cons_succ]
              refine SeqG.valStep (fun wv hbv hpv => ?_) ?_
              · skip
                go_wp2_with fail
                exact post_val (Below.refl _ _)
              simp only [Act.put, List.setIfInBounds_toArray, List.set_cons_zero, List.set_cons_succ]
              refine SeqG.fixStep (.inl ⟨rfl, fun _ => rfl⟩) ?_
              simp only [Act.put, List.setIfInBounds_toArray, List.set_cons_zero, List.set_cons_succ]
              refine SeqG.valStep (fun wv hbv hpv => ?_) ?_
              · skip
                go_wp2_with fail
                exact post_val (Below.refl _ _)
              simp only [Act.put, List.setIfInBounds_toArray, List.set_cons_zero, List.set_cons_succ]
              refine SeqG.valStep (fun wv hbv hpv => ?_) ?_
              · have cx := (kx.below' hbv).cell
                go_wp2_with fail
                exact post_val (Below.refl _ _)
              simp only [Act.put, List.setIfInBounds_toArray, List.set_cons_zero, List.set_cons_succ]
              refine SeqG.valStep (fun wv hbv hpv => ?_) ?_
              · skip
                go_wp2_with fail
                exact post_val (Below.refl _ _)
              simp only [Act.put, List.setIfInBounds_toArray, List.set_cons_zero, List.set_cons_succ]
              refine SeqG.valStep (fun wv hbv hpv => ?_) ?_
              · have cy := (ky.below' hbv).cell
                go_wp2_with fail
                exact post_val (Below.refl _ _)
              simp only [Act.put, List.setIfInBounds_toArray, List.set_cons_zero, List.set_cons_succ]
              refine SeqG.valStep (fun wv hbv hpv => ?_) ?_
              · skip
                go_wp2_with fail
                exact post_val (Below.refl _ _)
              simp only [Act.put, List.setIfInBounds_toArray, List.set_cons_zero, List.set_cons_succ]
              refine SeqG.fixStep (.inl ⟨rfl, fun _ => rfl⟩) ?_
              simp only [Act.put, List.setIfInBounds_toArray, List.set_cons_zero, List.set_cons_succ]
              refine SeqG.fixStep (.inl ⟨rfl, fun _ => rfl⟩) ?_
              simp only [Act.put, List.setIfInBounds_toArray, List.set_cons_zero, List.set_cons_succ]
              refine SeqG.valStep (fun wv hbv hpv => ?_) ?_
              · skip
                go_wp2_with fail
                exact post_val (Below.refl _ _)
              simp only [Act.put, List.setIfInBounds_toArray, List.set_cons_zero, List.set_cons_succ]
              refine SeqG.valStep (fun wv hbv hpv => ?_) ?_
              · have cx := (kx.below' hbv).cell
                go_wp2_with fail
                exact post_val (Below.refl _ _)
              simp only [Act.put, List.setIfInBounds_toArray, List.set_cons_zero, List.set_cons_succ]
              refine SeqG.valStep (fun wv hbv hpv => ?_) ?_
              · skip
                go_wp2_with fail
                exact post_val (Below.refl _ _)
              simp only [Act.put, List.setIfInBounds_toArray, List.set_cons_zero, List.set_cons_succ]
              refine SeqG.valStep (fun wv hbv hpv => ?_) ?_
              · have cy := (ky.below' hbv).cell
                go_wp2_with fail
                exact post_val (Below.refl _ _)
              simp only [Act.put, List.setIfInBounds_toArray, List.set_cons_zero, List.set_cons_succ]
              refine SeqG.valStep (fun wv hbv hpv => ?_) ?_
              · skip
                go_wp2_with fail
                exact post_val (Below.refl _ _)
              simp only [Act.put, List.setIfInBounds_toArray, List.set_cons_zero, List.set_cons_succ]
              refine SeqG.fixStep (.inl ⟨rfl, fun _ => rfl⟩) ?_
              simp only [Act.put, List.setIfInBounds_toArray, List.set_cons_zero, List.set_cons_succ]
              refine SeqG.valStep (fun wv hbv hpv => ?_) ?_
              · have cx := (kx.below' hbv).cell
                go_wp2_with fail
                exact post_val (Below.refl _ _)
              simp only [Act.put, List.setIfInBounds_toArray, List.set_cons_zero, List.set_cons_succ]
              refine SeqG.valStep (fun wv hbv hpv => ?_) ?_
              · go_wp2_with fail
                refine (l11ArrivesW_any x _ hx).mono ?_; rintro e w' ⟨he, hb⟩; subst he
                go_wp2_with fail
                exact post_val hb
              simp only [Act.put, List.setIfInBounds_toArray, List.set_cons_zero, List.set_cons_succ]
              refine SeqG.valStep (fun wv hbv hpv => ?_) ?_
              · have cy := (ky.below' hbv).cell
                go_wp2_with fail
                exact post_val (Below.refl _ _)
              simp only [Act.put, List.setIfInBounds_toArray, List.set_cons_zero, List.set_cons_succ]
              refine SeqG.valStep (fun wv hbv hpv => ?_) ?_
              · go_wp2_with fail
                refine (l11ArrivesW_any y _ hy).mono ?_; rintro e w' ⟨he, hb⟩; subst he
                go_wp2_with fail
                exact post_val hb
              simp only [Act.put, List.setIfInBounds_toArray, List.set_cons_zero, List.set_cons_succ]
              refine SeqG.valStep (fun wv hbv hpv => ?_) ?_
              · skip
                go_wp2_with fail
                exact post_val (Below.refl _ _)
              simp only [Act.put, List.setIfInBounds_toArray, List.set_cons_zero, List.set_cons_succ]
              refine SeqG.fixStep (.inl ⟨rfl, fun _ => rfl⟩) ?_
              simp only [Act.put, List.setIfInBounds_toArray, List.set_cons_zero, List.set_cons_succ]
              refine SeqG.fixStep (.inl ⟨rfl, fun _ => rfl⟩) ?_
              simp only [Act.put, List.setIfInBounds_toArray, List.set_cons_zero, List.set_cons_succ]
              refine SeqG.fixStep (.inl ⟨rfl, fun _ => rfl⟩) ?_
              simp only [Act.put, List.setIfInBounds_toArray, List.set_cons_zero, List.set_cons_succ]
              refine SeqG.done fun wv hbv hpv => ?_
              refine NoPan.normal ?_
              clear hpv
              have hb9 : Below p w wv := hb0.trans ((hb1.trans (hbv.mono zr)).mono (by have := hb0.size; have := kx0.lt; omega))
              go_wp2
              go_ret
              exact ⟨by rw [Hv.out, HE.out]; rfl, by rw [Hp.out]; exact hb9⟩
            · skip
              have b1 : (x.2.1 == y.2.1) = true := by simpa using h1
              have b2 : (x.2.2.2.1 == y.2.2.2.1) = false := by simpa using h2
              have b3 : (x.2.2.1 == y.2.2.1) = true := by simpa using h3
              have b4 : (arrT x == arrT y) = false := by simpa using h4
              have HE := Lib.hid (show endsB x y = false by simp [endsB, h1, h2, h3, h4])
              clear h1 h2 h3 h4
              refine wp_region_grow [.val (.pointer (some ⟨p, 1, none⟩)), .val (.int .i64 (x.2.1)), .val (.pointer (some ⟨q, 1, none⟩)), .val (.int .i64 (y.2.1)), .val (.bool true), .fix (.bool true), .val (.pointer (some ⟨p, 3, none⟩)), .val (.int .i64 (x.2.2.2.1)), .val (.pointer (some ⟨q, 3, none⟩)), .val (.int .i64 (y.2.2.2.1)), .val (.bool false), .fix (.bool false), .fix (.bool false), .val (.pointer (some ⟨p, 2, none⟩)), .val (.int .i64 (x.2.2.1)), .val (.pointer (some ⟨q, 2, none⟩)), .val (.int .i64 (y.2.2.1)), .val (.bool true), .fix (.bool true), .val (.agg #[.int .i64 x.1, .int .i64 x.2.1, .int .i64 x.2.2.1, .int .i64 x.2.2.2.1, .int .i64 x.2.2.2.2]), .val (.int .i64 (arrT x)), .val (.agg #[.int .i64 y.1, .int .i64 y.2.1, .int .i64 y.2.2.1, .int .i64 y.2.2.2.1, .int .i64 y.2.2.2.2]), .val (.int .i64 (arrT y)), .val (.bool false), .fix (.bool false), .fix (.bool false), .fix (.bool false)] mixed (by kernel_rfl) ?_
              refine SeqG.valStep (fun wv hbv hpv => ?_) ?_
              · skip
                go_wp2_with fail
                exact post_val (Below.refl _ _)
              simp only [Act.put, List.setIfInBounds_toArray, List.set_cons_zero, List.set_cons_succ]
              refine SeqG.valStep (fun wv hbv hpv => ?_) ?_
              · have cx := (kx.below' hbv).cell
                go_wp2_with fail
                exact post_val (Below.refl _ _)
              simp only [Act.put, List.setIfInBounds_toArray, List.set_cons_zero, List.set_cons_succ]
              refine SeqG.valStep (fun wv hbv hpv => ?_) ?_
              · skip
                go_wp2_with fail
                exact post_val (Below.refl _ _)
              simp only [Act.put, List.setIfInBounds_toArray, List.set_cons_zero, List.set_cons_succ]
              refine SeqG.valStep (fun wv hbv hpv => ?_) ?_
              · have cy := (ky.below' hbv).cell
                go_wp2_with fail
                exact post_val (Below.refl _ _)
              simp only [Act.put, List.setIfInBounds_toArray, List.set_cons_zero, List.set_cons_succ]
              refine SeqG.valStep (fun wv hbv hpv => ?_) ?_
              · skip
                go_wp2_with fail
                exact post_val (Below.refl _ _)
              simp only [Act.put, List.setIfInBounds_toArray, List.set_cons_zero, List.set_cons_succ]
              refine SeqG.fixStep (.inl ⟨rfl, fun _ => rfl⟩) ?_
              simp only [Act.put, List.setIfInBounds_toArray, List.set_cons_zero, List.set_cons_succ]
              refine SeqG.valStep (fun wv hbv hpv => ?_) ?_
              · skip
                go_wp2_with fail
                exact post_val (Below.refl _ _)
              simp only [Act.put, List.setIfInBounds_toArray, List.set_cons_zero, List.set_cons_succ]
              refine SeqG.valStep (fun wv hbv hpv => ?_) ?_
              · have cx := (kx.below' hbv).cell
                go_wp2_with fail
                exact post_val (Below.refl _ _)
              simp only [Act.put, List.setIfInBounds_toArray, List.set_cons_zero, List.set_cons_succ]
              refine SeqG.valStep (fun wv hbv hpv => ?_) ?_
              · skip
                go_wp2_with fail
                exact post_val (Below.refl _ _)
              simp only [Act.put, List.setIfInBounds_toArray, List.set_cons_zero, List.set_cons_succ]
              refine SeqG.valStep (fun wv hbv hpv => ?_) ?_
              · have cy := (ky.below' hbv).cell
                go_wp2_with fail
                exact post_val (Below.refl _ _)
              simp only [Act.put, List.setIfInBounds_toArray, List.set_cons_zero, List.set_cons_succ]
              refine SeqG.valStep (fun wv hbv hpv => ?_) ?_
              · skip
                go_wp2_with fail
                exact post_val (Below.refl _ _)
              simp only [Act.put, List.setIfInBounds_toArray, List.set_cons_zero, List.set_cons_succ]
              refine SeqG.fixStep (.inl ⟨rfl, fun _ => rfl⟩) ?_
              simp only [Act.put, List.setIfInBounds_toArray, List.set_cons_zero, List.set_cons_succ]
              refine SeqG.fixStep (.inl ⟨rfl, fun _ => rfl⟩) ?_
              simp only [Act.put, List.setIfInBounds_toArray, List.set_cons_zero, List.set_cons_succ]
              refine SeqG.valStep (fun wv hbv hpv => ?_) ?_
              · skip
                go_wp2_with fail
                exact post_val (Below.refl _ _)
              simp only [Act.put, List.setIfInBounds_toArray, List.set_cons_zero, List.set_cons_succ]
              refine SeqG.valStep (fun wv hbv hpv => ?_) ?_
              · have cx := (kx.below' hbv).cell
                go_wp2_with fail
                exact post_val (Below.refl _ _)
              simp only [Act.put, List.setIfInBounds_toArray, List.set_cons_zero, List.set_cons_succ]
              refine SeqG.valStep (fun wv hbv hpv => ?_) ?_
              · skip
                go_wp2_with fail
                exact post_val (Below.refl _ _)
              simp only [Act.put, List.setIfInBounds_toArray, List.set_cons_zero, List.set_cons_succ]
              refine SeqG.valStep (fun wv hbv hpv => ?_) ?_
              · have cy := (ky.below' hbv).cell
                go_wp2_with fail
                exact post_val (Below.refl _ _)
              simp only [Act.put, List.setIfInBounds_toArray, List.set_cons_zero, List.set_cons_succ]
              refine SeqG.valStep (fun wv hbv hpv => ?_) ?_
              · skip
                go_wp2_with fail
                exact post_val (Below.refl _ _)
              simp only [Act.put, List.setIfInBounds_toArray, List.set_cons_zero, List.set_cons_succ]
              refine SeqG.fixStep (.inl ⟨rfl, fun _ => rfl⟩) ?_
              simp only [Act.put, List.setIfInBounds_toArray, List.set_cons_zero, List.set_cons_succ]
              refine SeqG.valStep (fun wv hbv hpv => ?_) ?_
              · have cx := (kx.below' hbv).cell
                go_wp2_with fail
                exact post_val (Below.refl _ _)
              simp only [Act.put, List.setIfInBounds_toArray, List.set_cons_zero, List.set_cons_succ]
              refine SeqG.valStep (fun wv hbv hpv => ?_) ?_
              · go_wp2_with fail
                refine (l11ArrivesW_any x _ hx).mono ?_; rintro e w' ⟨he, hb⟩; subst he
                go_wp2_with fail
                exact post_val hb
              simp only [Act.put, List.setIfInBounds_toArray, List.set_cons_zero, List.set_cons_succ]
              refine SeqG.valStep (fun wv hbv hpv => ?_) ?_
              · have cy := (ky.below' hbv).cell
                go_wp2_with fail
                exact post_val (Below.refl _ _)
              simp only [Act.put, List.setIfInBounds_toArray, List.set_cons_zero, List.set_cons_succ]
              refine SeqG.valStep (fun wv hbv hpv => ?_) ?_
              · go_wp2_with fail
                refine (l11ArrivesW_any y _ hy).mono ?_; rintro e w' ⟨he, hb⟩; subst he
                go_wp2_with fail
                exact post_val hb
              simp only [Act.put, List.setIfInBounds_toArray, List.set_cons_zero, List.set_cons_succ]
              refine SeqG.valStep (fun wv hbv hpv => ?_) ?_
              · skip
                go_wp2_with fail
                exact post_val (Below.refl _ _)
              simp only [Act.put, List.setIfInBounds_toArray, List.set_cons_zero, List.set_cons_succ]
              refine SeqG.fixStep (.inl ⟨rfl, fun _ => rfl⟩) ?_
              simp only [Act.put, List.setIfInBounds_toArray, List.set_cons_zero, List.set_cons_succ]
              refine SeqG.fixStep (.inl ⟨rfl, fun _ => rfl⟩) ?_
              simp only [Act.put, List.setIfInBounds_toArray, List.set_cons_zero, List.set_cons_succ]
              refine SeqG.fixStep (.inl ⟨rfl, fun _ => rfl⟩) ?_
              simp only [Act.put, List.setIfInBounds_toArray, List.set_cons_zero, List.set_cons_succ]
              refine SeqG.done fun wv hbv hpv => ?_
              refine NoPan.normal ?_
              clear hpv
              have hb9 : Below p w wv := hb0.trans ((hb1.trans (hbv.mono zr)).mono (by have := hb0.size; have := kx0.lt; omega))
              go_wp2
              go_ret
              exact ⟨by rw [Hv.out, HE.out]; rfl, by rw [Hp.out]; exact hb9⟩
          · skip
            have b1 : (x.2.1 == y.2.1) = true := by simpa using h1
            have b2 : (x.2.2.2.1 == y.2.2.2.1) = false := by simpa using h2
            have b3 : (x.2.2.1 == y.2.2.1) = false := by simpa using h3
            have HE := Lib.hid (show endsB x y = false by simp [endsB, h1, h2, h3])
            clear h1 h2 h3
            refine wp_region_grow [.val (.pointer (some ⟨p, 1, none⟩)), .val (.int .i64 (x.2.1)), .val (.pointer (some ⟨q, 1, none⟩)), .val (.int .i64 (y.2.1)), .val (.bool true), .fix (.bool true), .val (.pointer (some ⟨p, 3, none⟩)), .val (.int .i64 (x.2.2.2.1)), .val (.pointer (some ⟨q, 3, none⟩)), .val (.int .i64 (y.2.2.2.1)), .val (.bool false), .fix (.bool false), .fix (.bool false), .val (.pointer (some ⟨p, 2, none⟩)), .val (.int .i64 (x.2.2.1)), .val (.pointer (some ⟨q, 2, none⟩)), .val (.int .i64 (y.2.2.1)), .val (.bool false), .fix (.bool false), .fix undef, .fix undef, .fix undef, .fix undef, .fix undef, .fix (.bool false), .fix (.bool false), .fix (.bool false)] mixed (by kernel_rfl) ?_
            refine SeqG.valStep (fun wv hbv hpv => ?_) ?_
            · skip
              go_wp2_with fail
              exact post_val (Below.refl _ _)
            simp only [Act.put, List.setIfInBounds_toArray, List.set_cons_zero, List.set_cons_succ]
            refine SeqG.valStep (fun wv hbv hpv => ?_) ?_
            · have cx := (kx.below' hbv).cell
              go_wp2_with fail
              exact post_val (Below.refl _ _)
            simp only [Act.put, List.setIfInBounds_toArray, List.set_cons_zero, List.set_cons_succ]
            refine SeqG.valStep (fun wv hbv hpv => ?_) ?_
            · skip
              go_wp2_with fail
              exact post_val (Below.refl _ _)
            simp only [Act.put, List.setIfInBounds_toArray, List.set_cons_zero, List.set_cons_succ]
            refine SeqG.valStep (fun wv hbv hpv => ?_) ?_
            · have cy := (ky.below' hbv).cell
              go_wp2_with fail
              exact post_val (Below.refl _ _)
            simp only [Act.put, List.setIfInBounds_toArray, List.set_cons_zero, List.set_cons_succ]
            refine SeqG.valStep (fun wv hbv hpv => ?_) ?_
            · skip
              go_wp2_with fail
              exact post_val (Below.refl _ _)
            simp only [Act.put, List.setIfInBounds_toArray, List.set_cons_zero, List.set_cons_succ]
            refine SeqG.fixStep (.inl ⟨rfl, fun _ => rfl⟩) ?_
            simp only [Act.put, List.setIfInBounds_toArray, List.set_cons_zero, List.set_cons_succ]
            refine SeqG.valStep (fun wv hbv hpv => ?_) ?_
            · skip
              go_wp2_with fail
              exact post_val (Below.refl _ _)
            simp only [Act.put, List.setIfInBounds_toArray, List.set_cons_zero, List.set_cons_succ]
            refine SeqG.valStep (fun wv hbv hpv => ?_) ?_
            · have cx := (kx.below' hbv).cell
              go_wp2_with fail
              exact post_val (Below.refl _ _)
            simp only [Act.put, List.setIfInBounds_toArray, List.set_cons_zero, List.set_cons_succ]
            refine SeqG.valStep (fun wv hbv hpv => ?_) ?_
            · skip
              go_wp2_with fail
              exact post_val (Below.refl _ _)
            simp only [Act.put, List.setIfInBounds_toArray, List.set_cons_zero, List.set_cons_succ]
            refine SeqG.valStep (fun wv hbv hpv => ?_) ?_
            · have cy := (ky.below' hbv).cell
              go_wp2_with fail
              exact post_val (Below.refl _ _)
            simp only [Act.put, List.setIfInBounds_toArray, List.set_cons_zero, List.set_cons_succ]
            refine SeqG.valStep (fun wv hbv hpv => ?_) ?_
            · skip
              go_wp2_with fail
              exact post_val (Below.refl _ _)
            simp only [Act.put, List.setIfInBounds_toArray, List.set_cons_zero, List.set_cons_succ]
            refine SeqG.fixStep (.inl ⟨rfl, fun _ => rfl⟩) ?_
            simp only [Act.put, List.setIfInBounds_toArray, List.set_cons_zero, List.set_cons_succ]
            refine SeqG.fixStep (.inl ⟨rfl, fun _ => rfl⟩) ?_
            simp only [Act.put, List.setIfInBounds_toArray, List.set_cons_zero, List.set_cons_succ]
            refine SeqG.valStep (fun wv hbv hpv => ?_) ?_
            · skip
              go_wp2_with fail
              exact post_val (Below.refl _ _)
            simp only [Act.put, List.setIfInBounds_toArray, List.set_cons_zero, List.set_cons_succ]
            refine SeqG.valStep (fun wv hbv hpv => ?_) ?_
            · have cx := (kx.below' hbv).cell
              go_wp2_with fail
              exact post_val (Below.refl _ _)
            simp only [Act.put, List.setIfInBounds_toArray, List.set_cons_zero, List.set_cons_succ]
            refine SeqG.valStep (fun wv hbv hpv => ?_) ?_
            · skip
              go_wp2_with fail
              exact post_val (Below.refl _ _)
            simp only [Act.put, List.setIfInBounds_toArray, List.set_cons_zero, List.set_cons_succ]
            refine SeqG.valStep (fun wv hbv hpv => ?_) ?_
            · have cy := (ky.below' hbv).cell
              go_wp2_with fail
              exact post_val (Below.refl _ _)
            simp only [Act.put, List.setIfInBounds_toArray, List.set_cons_zero, List.set_cons_succ]
            refine SeqG.valStep (fun wv hbv hpv => ?_) ?_
            · skip
              go_wp2_with fail
              exact post_val (Below.refl _ _)
            simp only [Act.put, List.setIfInBounds_toArray, List.set_cons_zero, List.set_cons_succ]
            refine SeqG.fixStep (.inl ⟨rfl, fun _ => rfl⟩) ?_
            simp only [Act.put, List.setIfInBounds_toArray, List.set_cons_zero, List.set_cons_succ]
            refine SeqG.fixStep (.inr ⟨rfl, rfl⟩) ?_
            simp only [Act.put, List.setIfInBounds_toArray, List.set_cons_zero, List.set_cons_succ]
            refine SeqG.fixStep (.inr ⟨rfl, rfl⟩) ?_
            simp only [Act.put, List.setIfInBounds_toArray, List.set_cons_zero, List.set_cons_succ]
            refine SeqG.fixStep (.inr ⟨rfl, rfl⟩) ?_
            simp only [Act.put, List.setIfInBounds_toArray, List.set_cons_zero, List.set_cons_succ]
            refine SeqG.fixStep (.inr ⟨rfl, rfl⟩) ?_
            simp only [Act.put, List.setIfInBounds_toArray, List.set_cons_zero, List.set_cons_succ]
            refine SeqG.fixStep (.inr ⟨rfl, rfl⟩) ?_
            simp only [Act.put, List.setIfInBounds_toArray, List.set_cons_zero, List.set_cons_succ]
            refine SeqG.fixStep (.inl ⟨rfl, fun _ => rfl⟩) ?_
            simp only [Act.put, List.setIfInBounds_toArray, List.set_cons_zero, List.set_cons_succ]
            refine SeqG.fixStep (.inl ⟨rfl, fun _ => rfl⟩) ?_
            simp only [Act.put, List.setIfInBounds_toArray, List.set_cons_zero, List.set_cons_succ]
            refine SeqG.fixStep (.inl ⟨rfl, fun _ => rfl⟩) ?_
            simp only [Act.put, List.setIfInBounds_toArray, List.set_cons_zero, List.set_cons_succ]
            refine SeqG.done fun wv hbv hpv => ?_
            refine NoPan.normal ?_
            clear hpv
            have hb9 : Below p w wv := hb0.trans ((hb1.trans (hbv.mono zr)).mono (by have := hb0.size; have := kx0.lt; omega))
            go_wp2
            go_ret
            exact ⟨by rw [Hv.out, HE.out]; rfl, by rw [Hp.out]; exact hb9⟩
      · skip
        by_cases h3 : x.2.2.1 = y.2.2.1
        · skip
          by_cases h4 : arrT x = arrT y
          · skip
            have b1 : (x.2.1 == y.2.1) = false := by simpa using h1
            have b3 : (x.2.2.1 == y.2.2.1) = true := by simpa using h3
            have b4 : (arrT x == arrT y) = true := by simpa using h4
            have HE := Lib.hid (show endsB x y = true by simp [endsB, h1, h3, h4])
            clear h1 h3 h4
            refine wp_region_grow [.val (.pointer (some ⟨p, 1, none⟩)), .val (.int .i64 (x.2.1)), .val (.pointer (some ⟨q, 1, none⟩)), .val (.int .i64 (y.2.1)), .val (.bool false), .fix (.bool false), .fix undef, .fix undef, .fix undef, .fix undef, .fix undef, .fix (.bool false), .fix (.bool false), .val (.pointer (some ⟨p, 2, none⟩)), .val (.int .i64 (x.2.2.1)), .val (.pointer (some ⟨q, 2, none⟩)), .val (.int .i64 (y.2.2.1)), .val (.bool true), .fix (.bool true), .val (.agg #[.int .i64 x.1, .int .i64 x.2.1, .int .i64 x.2.2.1, .int .i64 x.2.2.2.1, .int .i64 x.2.2.2.2]), .val (.int .i64 (arrT x)), .val (.agg #[.int .i64 y.1, .int .i64 y.2.1, .int .i64 y.2.2.1, .int .i64 y.2.2.2.1, .int .i64 y.2.2.2.2]), .val (.int .i64 (arrT y)), .val (.bool true), .fix (.bool true), .fix (.bool true), .fix (.bool true)] mixed (by kernel_rfl) ?_
            refine SeqG.valStep (fun wv hbv hpv => ?_) ?_
            · skip
              go_wp2_with fail
              exact post_val (Below.refl _ _)
            simp only [Act.put, List.setIfInBounds_toArray, List.set_cons_zero, List.set_cons_succ]
            refine SeqG.valStep (fun wv hbv hpv => ?_) ?_
            · have cx := (kx.below' hbv).cell
              go_wp2_with fail
              exact post_val (Below.refl _ _)
            simp only [Act.put, List.setIfInBounds_toArray, List.set_cons_zero, List.set_cons_succ]
            refine SeqG.valStep (fun wv hbv hpv => ?_) ?_
            · skip
              go_wp2_with fail
              exact post_val (Below.refl _ _)
            simp only [Act.put, List.setIfInBounds_toArray, List.set_cons_zero, List.set_cons_succ]
            refine SeqG.valStep (fun wv hbv hpv => ?_) ?_
            · have cy := (ky.below' hbv).cell
              go_wp2_with fail
              exact post_val (Below.refl _ _)
            simp only [Act.put, List.setIfInBounds_toArray, List.set_cons_zero, List.set_cons_succ]
            refine SeqG.valStep (fun wv hbv hpv => ?_) ?_
            · skip
              go_wp2_with fail
              exact post_val (Below.refl _ _)
            simp only [Act.put, List.setIfInBounds_toArray, List.set_cons_zero, List.set_cons_succ]
            refine SeqG.fixStep (.inl ⟨rfl, fun _ => rfl⟩) ?_
            simp only [Act.put, List.setIfInBounds_toArray, List.set_cons_zero, List.set_cons_succ]
            refine SeqG.fixStep (.inr ⟨rfl, rfl⟩) ?_
            simp only [Act.put, List.setIfInBounds_toArray, List.set_cons_zero, List.set_cons_succ]
            refine SeqG.fixStep (.inr ⟨rfl, rfl⟩) ?_
            simp only [Act.put, List.setIfInBounds_toArray, List.set_cons_zero, List.set_cons_succ]
            refine SeqG.fixStep (.inr ⟨rfl, rfl⟩) ?_
            simp only [Act.put, List.setIfInBounds_toArray, List.set_cons_zero, List.set_cons_succ]
            refine SeqG.fixStep (.inr ⟨rfl, rfl⟩) ?_
            simp only [Act.put, List.setIfInBounds_toArray, List.set_cons_zero, List.set_cons_succ]
            refine SeqG.fixStep (.inr ⟨rfl, rfl⟩) ?_
            simp only [Act.put, List.setIfInBounds_toArray, List.set_cons_zero, List.set_cons_succ]
            refine SeqG.fixStep (.inl ⟨rfl, fun _ => rfl⟩) ?_
            simp only [Act.put, List.setIfInBounds_toArray, List.set_cons_zero, List.set_cons_succ]
            refine SeqG.fixStep (.inl ⟨rfl, fun _ => rfl⟩) ?_
            simp only [Act.put, List.setIfInBounds_toArray, List.set_cons_zero, List.set_cons_succ]
            refine SeqG.valStep (fun wv hbv hpv => ?_) ?_
            · skip
              go_wp2_with fail
              exact post_val (Below.refl _ _)
            simp only [Act.put, List.setIfInBounds_toArray, List.set_cons_zero, List.set_cons_succ]
            refine SeqG.valStep (fun wv hbv hpv => ?_) ?_
            · have cx := (kx.below' hbv).cell
              go_wp2_with fail
              exact post_val (Below.refl _ _)
            simp only [Act.put, List.setIfInBounds_toArray, List.set_cons_zero, List.set_cons_succ]
            refine SeqG.valStep (fun wv hbv hpv => ?_) ?_
            · skip
              go_wp2_with fail
              exact post_val (Below.refl _ _)
            simp only [Act.put, List.setIfInBounds_toArray, List.set_cons_zero, List.set_cons_succ]
            refine SeqG.valStep (fun wv hbv hpv => ?_) ?_
            · have cy := (ky.below' hbv).cell
              go_wp2_with fail
              exact post_val (Below.refl _ _)
            simp only [Act.put, List.setIfInBounds_toArray, List.set_cons_zero, List.set_cons_succ]
            refine SeqG.valStep (fun wv hbv hpv => ?_) ?_
            · skip
              go_wp2_with fail
              exact post_val (Below.refl _ _)
            simp only [Act.put, List.setIfInBounds_toArray, List.set_cons_zero, List.set_cons_succ]
            refine SeqG.fixStep (.inl ⟨rfl, fun _ => rfl⟩) ?_
            simp only [Act.put, List.setIfInBounds_toArray, List.set_cons_zero, List.set_cons_succ]
            refine SeqG.valStep (fun wv hbv hpv => ?_) ?_
            · have cx := (kx.below' hbv).cell
              go_wp2_with fail
              exact post_val (Below.refl _ _)
            simp only [Act.put, List.setIfInBounds_toArray, List.set_cons_zero, List.set_cons_succ]
            refine SeqG.valStep (fun wv hbv hpv => ?_) ?_
            · go_wp2_with fail
              refine (l11ArrivesW_any x _ hx).mono ?_; rintro e w' ⟨he, hb⟩; subst he
              go_wp2_with fail
              exact post_val hb
            simp only [Act.put, List.setIfInBounds_toArray, List.set_cons_zero, List.set_cons_succ]
            refine SeqG.valStep (fun wv hbv hpv => ?_) ?_
            · have cy := (ky.below' hbv).cell
              go_wp2_with fail
              exact post_val (Below.refl _ _)
            simp only [Act.put, List.setIfInBounds_toArray, List.set_cons_zero, List.set_cons_succ]
            refine SeqG.valStep (fun wv hbv hpv => ?_) ?_
            · go_wp2_with fail
              refine (l11ArrivesW_any y _ hy).mono ?_; rintro e w' ⟨he, hb⟩; subst he
              go_wp2_with fail
              exact post_val hb
            simp only [Act.put, List.setIfInBounds_toArray, List.set_cons_zero, List.set_cons_succ]
            refine SeqG.valStep (fun wv hbv hpv => ?_) ?_
            · skip
              go_wp2_with fail
              exact post_val (Below.refl _ _)
            simp only [Act.put, List.setIfInBounds_toArray, List.set_cons_zero, List.set_cons_succ]
            refine SeqG.fixStep (.inl ⟨rfl, fun _ => rfl⟩) ?_
            simp only [Act.put, List.setIfInBounds_toArray, List.set_cons_zero, List.set_cons_succ]
            refine SeqG.fixStep (.inl ⟨rfl, fun _ => rfl⟩) ?_
            simp only [Act.put, List.setIfInBounds_toArray, List.set_cons_zero, List.set_cons_succ]
            refine SeqG.fixStep (.inl ⟨rfl, fun _ => rfl⟩) ?_
            simp only [Act.put, List.setIfInBounds_toArray, List.set_cons_zero, List.set_cons_succ]
            refine SeqG.done fun wv hbv hpv => ?_
            refine NoPan.normal ?_
            clear hpv
            have hb9 : Below p w wv := hb0.trans ((hb1.trans (hbv.mono zr)).mono (by have := hb0.size; have := kx0.lt; omega))
            go_wp2
            go_ret
            exact ⟨by rw [Hv.out, HE.out]; rfl, by rw [Hp.out]; exact hb9⟩
          · skip
            have b1 : (x.2.1 == y.2.1) = false := by simpa using h1
            have b3 : (x.2.2.1 == y.2.2.1) = true := by simpa using h3
            have b4 : (arrT x == arrT y) = false := by simpa using h4
            have HE := Lib.hid (show endsB x y = false by simp [endsB, h1, h3, h4])
            clear h1 h3 h4
            refine wp_region_grow [.val (.pointer (some ⟨p, 1, none⟩)), .val (.int .i64 (x.2.1)), .val (.pointer (some ⟨q, 1, none⟩)), .val (.int .i64 (y.2.1)), .val (.bool false), .fix (.bool false), .fix undef, .fix undef, .fix undef, .fix undef, .fix undef, .fix (.bool false), .fix (.bool false), .val (.pointer (some ⟨p, 2, none⟩)), .val (.int .i64 (x.2.2.1)), .val (.pointer (some ⟨q, 2, none⟩)), .val (.int .i64 (y.2.2.1)), .val (.bool true), .fix (.bool true), .val (.agg #[.int .i64 x.1, .int .i64 x.2.1, .int .i64 x.2.2.1, .int .i64 x.2.2.2.1, .int .i64 x.2.2.2.2]), .val (.int .i64 (arrT x)), .val (.agg #[.int .i64 y.1, .int .i64 y.2.1, .int .i64 y.2.2.1, .int .i64 y.2.2.2.1, .int .i64 y.2.2.2.2]), .val (.int .i64 (arrT y)), .val (.bool false), .fix (.bool false), .fix (.bool false), .fix (.bool false)] mixed (by kernel_rfl) ?_
            refine SeqG.valStep (fun wv hbv hpv => ?_) ?_
            · skip
              go_wp2_with fail
              exact post_val (Below.refl _ _)
            simp only [Act.put, List.setIfInBounds_toArray, List.set_cons_zero, List.set_cons_succ]
            refine SeqG.valStep (fun wv hbv hpv => ?_) ?_
            · have cx := (kx.below' hbv).cell
              go_wp2_with fail
              exact post_val (Below.refl _ _)
            simp only [Act.put, List.setIfInBounds_toArray, List.set_cons_zero, List.set_cons_succ]
            refine SeqG.valStep (fun wv hbv hpv => ?_) ?_
            · skip
              go_wp2_with fail
              exact post_val (Below.refl _ _)
            simp only [Act.put, List.setIfInBounds_toArray, List.set_cons_zero, List.set_cons_succ]
            refine SeqG.valStep (fun wv hbv hpv => ?_) ?_
            · have cy := (ky.below' hbv).cell
              go_wp2_with fail
              exact post_val (Below.refl _ _)
            simp only [Act.put, List.setIfInBounds_toArray, List.set_cons_zero, List.set_cons_succ]
            refine SeqG.valStep (fun wv hbv hpv => ?_) ?_
            · skip
              go_wp2_with fail
              exact post_val (Below.refl _ _)
            simp only [Act.put, List.setIfInBounds_toArray, List.set_cons_zero, List.set_cons_succ]
            refine SeqG.fixStep (.inl ⟨rfl, fun _ => rfl⟩) ?_
            simp only [Act.put, List.setIfInBounds_toArray, List.set_cons_zero, List.set_cons_succ]
            refine SeqG.fixStep (.inr ⟨rfl, rfl⟩) ?_
            simp only [Act.put, List.setIfInBounds_toArray, List.set_cons_zero, List.set_cons_succ]
            refine SeqG.fixStep (.inr ⟨rfl, rfl⟩) ?_
            simp only [Act.put, List.setIfInBounds_toArray, List.set_cons_zero, List.set_cons_succ]
            refine SeqG.fixStep (.inr ⟨rfl, rfl⟩) ?_
            simp only [Act.put, List.setIfInBounds_toArray, List.set_cons_zero, List.set_cons_succ]
            refine SeqG.fixStep (.inr ⟨rfl, rfl⟩) ?_
            simp only [Act.put, List.setIfInBounds_toArray, List.set_cons_zero, List.set_cons_succ]
            refine SeqG.fixStep (.inr ⟨rfl, rfl⟩) ?_
            simp only [Act.put, List.setIfInBounds_toArray, List.set_cons_zero, List.set_cons_succ]
            refine SeqG.fixStep (.inl ⟨rfl, fun _ => rfl⟩) ?_
            simp only [Act.put, List.setIfInBounds_toArray, List.set_cons_zero, List.set_cons_succ]
            refine SeqG.fixStep (.inl ⟨rfl, fun _ => rfl⟩) ?_
            simp only [Act.put, List.setIfInBounds_toArray, List.set_cons_zero, List.set_cons_succ]
            refine SeqG.valStep (fun wv hbv hpv => ?_) ?_
            · skip
              go_wp2_with fail
              exact post_val (Below.refl _ _)
            simp only [Act.put, List.setIfInBounds_toArray, List.set_cons_zero, List.set_cons_succ]
            refine SeqG.valStep (fun wv hbv hpv => ?_) ?_
            · have cx := (kx.below' hbv).cell
              go_wp2_with fail
              exact post_val (Below.refl _ _)
            simp only [Act.put, List.setIfInBounds_toArray, List.set_cons_zero, List.set_cons_succ]
            refine SeqG.valStep (fun wv hbv hpv => ?_) ?_
            · skip
              go_wp2_with fail
              exact post_val (Below.refl _ _)
            simp only [Act.put, List.setIfInBounds_toArray, List.set_cons_zero, List.set_cons_succ]
            refine SeqG.valStep (fun wv hbv hpv => ?_) ?_
            · have cy := (ky.below' hbv).cell
              go_wp2_with fail
              exact post_val (Below.refl _ _)
            simp only [Act.put, List.setIfInBounds_toArray, List.set_cons_zero, List.set_cons_succ]
            refine SeqG.valStep (fun wv hbv hpv => ?_) ?_
            · skip
              go_wp2_with fail
              exact post_val (Below.refl _ _)
            simp only [Act.put, List.setIfInBounds_toArray, List.set_cons_zero, List.set_cons_succ]
            refine SeqG.fixStep (.inl ⟨rfl, fun _ => rfl⟩) ?_
            simp only [Act.put, List.setIfInBounds_toArray, List.set_cons_zero, List.set_cons_succ]
            refine SeqG.valStep (fun wv hbv hpv => ?_) ?_
            · have cx := (kx.below' hbv).cell
              go_wp2_with fail
              exact post_val (Below.refl _ _)
            simp only [Act.put, List.setIfInBounds_toArray, List.set_cons_zero, List.set_cons_succ]
            refine SeqG.valStep (fun wv hbv hpv => ?_) ?_
            · go_wp2_with fail
              refine (l11ArrivesW_any x _ hx).mono ?_; rintro e w' ⟨he, hb⟩; subst he
              go_wp2_with fail
              exact post_val hb
            simp only [Act.put, List.setIfInBounds_toArray, List.set_cons_zero, List.set_cons_succ]
            refine SeqG.valStep (fun wv hbv hpv => ?_) ?_
            · have cy := (ky.below' hbv).cell
              go_wp2_with fail
              exact post_val (Below.refl _ _)
            simp only [Act.put, List.setIfInBounds_toArray, List.set_cons_zero, List.set_cons_succ]
            refine SeqG.valStep (fun wv hbv hpv => ?_) ?_
            · go_wp2_with fail
              refine (l11ArrivesW_any y _ hy).mono ?_; rintro e w' ⟨he, hb⟩; subst he
              go_wp2_with fail
              exact post_val hb
            simp only [Act.put, List.setIfInBounds_toArray, List.set_cons_zero, List.set_cons_succ]
            refine SeqG.valStep (fun wv hbv hpv => ?_) ?_
            · skip
              go_wp2_with fail
              exact post_val (Below.refl _ _)
            simp only [Act.put, List.setIfInBounds_toArray, List.set_cons_zero, List.set_cons_succ]
            refine SeqG.fixStep (.inl ⟨rfl, fun _ => rfl⟩) ?_
            simp only [Act.put, List.setIfInBounds_toArray, List.set_cons_zero, List.set_cons_succ]
            refine SeqG.fixStep (.inl ⟨rfl, fun _ => rfl⟩) ?_
            simp only [Act.put, List.setIfInBounds_toArray, List.set_cons_zero, List.set_cons_succ]
            refine SeqG.fixStep (.inl ⟨rfl, fun _ => rfl⟩) ?_
            simp only [Act.put, List.setIfInBounds_toArray, List.set_cons_zero, List.set_cons_succ]
            refine SeqG.done fun wv hbv hpv => ?_
            refine NoPan.normal ?_
            clear hpv
            have hb9 : Below p w wv := hb0.trans ((hb1.trans (hbv.mono zr)).mono (by have := hb0.size; have := kx0.lt; omega))
            go_wp2
            go_ret
            exact ⟨by rw [Hv.out, HE.out]; rfl, by rw [Hp.out]; exact hb9⟩
        · skip
          have b1 : (x.2.1 == y.2.1) = false := by simpa using h1
          have b3 : (x.2.2.1 == y.2.2.1) = false := by simpa using h3
          have HE := Lib.hid (show endsB x y = false by simp [endsB, h1, h3])
          clear h1 h3
          refine wp_region_grow [.val (.pointer (some ⟨p, 1, none⟩)), .val (.int .i64 (x.2.1)), .val (.pointer (some ⟨q, 1, none⟩)), .val (.int .i64 (y.2.1)), .val (.bool false), .fix (.bool false), .fix undef, .fix undef, .fix undef, .fix undef, .fix undef, .fix (.bool false), .fix (.bool false), .val (.pointer (some ⟨p, 2, none⟩)), .val (.int .i64 (x.2.2.1)), .val (.pointer (some ⟨q, 2, none⟩)), .val (.int .i64 (y.2.2.1)), .val (.bool false), .fix (.bool false), .fix undef, .fix undef, .fix undef, .fix undef, .fix undef, .fix (.bool false), .fix (.bool false), .fix (.bool false)] mixed (by kernel_rfl) ?_
          refine SeqG.valStep (fun wv hbv hpv => ?_) ?_
          · skip
            go_wp2_with fail
            exact post_val (Below.refl _ _)
          simp only [Act.put, List.setIfInBounds_toArray, List.set_cons_zero, List.set_cons_succ]
          refine SeqG.valStep (fun wv hbv hpv => ?_) ?_
          · have cx := (kx.below' hbv).cell
            go_wp2_with fail
            exact post_val (Below.refl _ _)
          simp only [Act.put, List.setIfInBounds_toArray, List.set_cons_zero, List.set_cons_succ]
          refine SeqG.valStep (fun wv hbv hpv => ?_) ?_
          · skip
            go_wp2_with fail
            exact post_val (Below.refl _ _)
          simp only [Act.put, List.setIfInBounds_toArray, List.set_cons_zero, List.set_cons_succ]
          refine SeqG.valStep (fun wv hbv hpv => ?_) ?_
          · have cy := (ky.below' hbv).cell
            go_wp2_with fail
            exact post_val (Below.refl _ _)
          simp only [Act.put, List.setIfInBounds_toArray, List.set_cons_zero, List.set_cons_succ]
          refine SeqG.valStep (fun wv hbv hpv => ?_) ?_
          · skip
            go_wp2_with fail
            exact post_val (Below.refl _ _)
          simp only [Act.put, List.setIfInBounds_toArray, List.set_cons_zero, List.set_cons_succ]
          refine SeqG.fixStep (.inl ⟨rfl, fun _ => rfl⟩) ?_
          simp only [Act.put, List.setIfInBounds_toArray, List.set_cons_zero, List.set_cons_succ]
          refine SeqG.fixStep (.inr ⟨rfl, rfl⟩) ?_
          simp only [Act.put, List.setIfInBounds_toArray, List.set_cons_zero, List.set_cons_succ]
          refine SeqG.fixStep (.inr ⟨rfl, rfl⟩) ?_
          simp only [Act.put, List.setIfInBounds_toArray, List.set_cons_zero, List.set_cons_succ]
          refine SeqG.fixStep (.inr ⟨rfl, rfl⟩) ?_
          simp only [Act.put, List.setIfInBounds_toArray, List.set_cons_zero, List.set_cons_succ]
          refine SeqG.fixStep (.inr ⟨rfl, rfl⟩) ?_
          simp only [Act.put, List.setIfInBounds_toArray, List.set_cons_zero, List.set_cons_succ]
          refine SeqG.fixStep (.inr ⟨rfl, rfl⟩) ?_
          simp only [Act.put, List.setIfInBounds_toArray, List.set_cons_zero, List.set_cons_succ]
          refine SeqG.fixStep (.inl ⟨rfl, fun _ => rfl⟩) ?_
          simp only [Act.put, List.setIfInBounds_toArray, List.set_cons_zero, List.set_cons_succ]
          refine SeqG.fixStep (.inl ⟨rfl, fun _ => rfl⟩) ?_
          simp only [Act.put, List.setIfInBounds_toArray, List.set_cons_zero, List.set_cons_succ]
          refine SeqG.valStep (fun wv hbv hpv => ?_) ?_
          · skip
            go_wp2_with fail
            exact post_val (Below.refl _ _)
          simp only [Act.put, List.setIfInBounds_toArray, List.set_cons_zero, List.set_cons_succ]
          refine SeqG.valStep (fun wv hbv hpv => ?_) ?_
          · have cx := (kx.below' hbv).cell
            go_wp2_with fail
            exact post_val (Below.refl _ _)
          simp only [Act.put, List.setIfInBounds_toArray, List.set_cons_zero, List.set_cons_succ]
          refine SeqG.valStep (fun wv hbv hpv => ?_) ?_
          · skip
            go_wp2_with fail
            exact post_val (Below.refl _ _)
          simp only [Act.put, List.setIfInBounds_toArray, List.set_cons_zero, List.set_cons_succ]
          refine SeqG.valStep (fun wv hbv hpv => ?_) ?_
          · have cy := (ky.below' hbv).cell
            go_wp2_with fail
            exact post_val (Below.refl _ _)
          simp only [Act.put, List.setIfInBounds_toArray, List.set_cons_zero, List.set_cons_succ]
          refine SeqG.valStep (fun wv hbv hpv => ?_) ?_
          · skip
            go_wp2_with fail
            exact post_val (Below.refl _ _)
          simp only [Act.put, List.setIfInBounds_toArray, List.set_cons_zero, List.set_cons_succ]
          refine SeqG.fixStep (.inl ⟨rfl, fun _ => rfl⟩) ?_
          simp only [Act.put, List.setIfInBounds_toArray, List.set_cons_zero, List.set_cons_succ]
          refine SeqG.fixStep (.inr ⟨rfl, rfl⟩) ?_
          simp only [Act.put, List.setIfInBounds_toArray, List.set_cons_zero, List.set_cons_succ]
          refine SeqG.fixStep (.inr ⟨rfl, rfl⟩) ?_
          simp only [Act.put, List.setIfInBounds_toArray, List.set_cons_zero, List.set_cons_succ]
          refine SeqG.fixStep (.inr ⟨rfl, rfl⟩) ?_
          simp only [Act.put, List.setIfInBounds_toArray, List.set_cons_zero, List.set_cons_succ]
          refine SeqG.fixStep (.inr ⟨rfl, rfl⟩) ?_
          simp only [Act.put, List.setIfInBounds_toArray, List.set_cons_zero, List.set_cons_succ]
          refine SeqG.fixStep (.inr ⟨rfl, rfl⟩) ?_
          simp only [Act.put, List.setIfInBounds_toArray, List.set_cons_zero, List.set_cons_succ]
          refine SeqG.fixStep (.inl ⟨rfl, fun _ => rfl⟩) ?_
          simp only [Act.put, List.setIfInBounds_toArray, List.set_cons_zero, List.set_cons_succ]
          refine SeqG.fixStep (.inl ⟨rfl, fun _ => rfl⟩) ?_
          simp only [Act.put, List.setIfInBounds_toArray, List.set_cons_zero, List.set_cons_succ]
          refine SeqG.fixStep (.inl ⟨rfl, fun _ => rfl⟩) ?_
          simp only [Act.put, List.setIfInBounds_toArray, List.set_cons_zero, List.set_cons_succ]
          refine SeqG.done fun wv hbv hpv => ?_
          refine NoPan.normal ?_
          clear hpv
          have hb9 : Below p w wv := hb0.trans ((hb1.trans (hbv.mono zr)).mono (by have := hb0.size; have := kx0.lt; omega))
          go_wp2
          go_ret
          exact ⟨by rw [Hv.out, HE.out]; rfl, by rw [Hp.out]; exact hb9⟩

set_option maxRecDepth 20000 in
set_option maxHeartbeats 8000000 in
theorem l11FreeW_any (A : Option Addr) (c : Nat) (L : List T5) (t : T5) (w : World) (hr : SlR f5 5 w w.heap.size A L) (hm : (L.length : Int) ≤ 1048576) (hL : ∀ x ∈ L, TrW x) (ht : TrW t) :
    Calls Try.prog 76 #[.slice A L.length c, tripV t.1 t.2.1 t.2.2.1 t.2.2.2.1 t.2.2.2.2] w fun e w' => e = .returned (.bool (!metB L t)) ∧ Below w.heap.size w w' := by
  have kt0 := Blk.new w 25 #[.int .i64 t.1, .int .i64 t.2.1, .int .i64 t.2.2.1, .int .i64 t.2.2.2.1, .int .i64 t.2.2.2.2]
  have hb0 : Below w.heap.size w (w.alloc (.cells #[.int .i64 t.1, .int .i64 t.2.1, .int .i64 t.2.2.1, .int .i64 t.2.2.2.1, .int .i64 t.2.2.2.2] 25)) := by (repeat (first | exact Below.refl _ _ | refine Below.drew ?_ | refine below_drewN ?_ _ | (refine Below.alloc ?_ (by (try simp) <;> omega) _) | (refine Below.setCell ?_ (by (try simp) <;> omega) _) | (refine Below.trans ?_ (Below.mono (by assumption) (by (try simp) <;> omega)))))
  have hr0 := hr.alloc (.cells #[.int .i64 t.1, .int .i64 t.2.1, .int .i64 t.2.2.1, .int .i64 t.2.2.2.1, .int .i64 t.2.2.2.2] 25)
  go_enter Try.func76, Try.ntmps76
  go_upto_region 1 with fail
  generalize w.alloc (.cells #[.int .i64 t.1, .int .i64 t.2.1, .int .i64 t.2.2.1, .int .i64 t.2.2.2.1, .int .i64 t.2.2.2.2] 25) = W at *
  generalize hp : w.heap.size = p at *
  have Hp := Lib.hid hp
  have zp : p ≤ W.heap.size := Nat.le_of_lt kt0.lt
  clear hr hp
  go_wp2
  go_loopw [5] (fun i wr => ∃ k : Nat, i = .int .i64 k ∧ k ≤ L.length ∧ Hid (∀ j y, j < k → L[j]? = some y → anyB t y = false) ∧ Below W.heap.size W wr) (fun i _ => (L.length - intOf i).toNat)
  case atStart => exact ⟨0, rfl, by omega, fun j y h => by omega, Below.refl _ _⟩
  case round =>
    obtain ⟨k, rfl, hk, hs, hb⟩ := hrel
    have zr := hb.size
    by_cases hlt : k < L.length
    · have hx : L[k]? = some L[k] := List.getElem?_eq_getElem hlt
      obtain ⟨b, off, rfl, hB, hcs⟩ := hr0 (SlR.ne hx)
      generalize L[k] = x at *
      have htx := hL x (List.mem_of_getElem? hx)
      have hC := hcs.below hb hB
      have hBr : b < wr.heap.size := by omega
      have kt := kt0.below' hb
      have hk0 : (0 : Int) ≤ (k : Int) := by omega
      have hk1 : (k : Int) < (L.length : Int) := by omega
      by_cases h : x.1 = t.1
      · have hq : (x.1 != t.1) = false := by simpa using h
        have Hn : Hid (∀ j y, j < k + 1 → L[j]? = some y → anyB t y = false) := fun j y hj hy => by
          by_cases e : j = k
          · subst e; rw [hx] at hy; cases hy; simp [anyB, h]
          · exact hs.out j y (by omega) hy
        clear h hs hr0 hcs hlt
        go_wp2
        refine wp_region_grow [.fix (.slice (some ⟨b, off, none⟩) L.length c), .fix (.int .i64 k), .val (.pointer (some ⟨b, off + k * 5, none⟩)), .val (.pointer (some ⟨b, off + k * 5, none⟩)), .val (.int .i64 x.1), .val (.pointer (some ⟨p, 0, none⟩)), .val (.int .i64 t.1), .val (.bool false), .fix (.bool false), .fix undef, .fix undef, .fix undef, .fix undef, .fix undef, .fix undef, .fix (.bool false)] mixed (by kernel_rfl) ?_
        refine SeqG.fixStep (.inl ⟨rfl, fun _ => rfl⟩) ?_
        simp only [Act.put, List.setIfInBounds_toArray, List.set_cons_zero, List.set_cons_succ]
        refine SeqG.fixStep (.inl ⟨rfl, fun _ => rfl⟩) ?_
        simp only [Act.put, List.setIfInBounds_toArray, List.set_cons_zero, List.set_cons_succ]
        refine SeqG.valStep (fun wv hbv hpv => ?_) ?_
        · skip
          go_wp2_with fail
          exact post_val (Below.refl _ _)
        simp only [Act.put, List.setIfInBounds_toArray, List.set_cons_zero, List.set_cons_succ]
        refine SeqG.valStep (fun wv hbv hpv => ?_) ?_
        · skip
          go_wp2_with fail
          exact post_val (Below.refl _ _)
        simp only [Act.put, List.setIfInBounds_toArray, List.set_cons_zero, List.set_cons_succ]
        refine SeqG.valStep (fun wv hbv hpv => ?_) ?_
        · have c0 := (cells5 (hC.below hbv hBr) hx).1
          go_wp2_with fail
          exact post_val (Below.refl _ _)
        simp only [Act.put, List.setIfInBounds_toArray, List.set_cons_zero, List.set_cons_succ]
        refine SeqG.valStep (fun wv hbv hpv => ?_) ?_
        · skip
          go_wp2_with fail
          exact post_val (Below.refl _ _)
        simp only [Act.put, List.setIfInBounds_toArray, List.set_cons_zero, List.set_cons_succ]
        refine SeqG.valStep (fun wv hbv hpv => ?_) ?_
        · have ct := (kt.below' hbv).cell
          go_wp2_with fail
          exact post_val (Below.refl _ _)
        simp only [Act.put, List.setIfInBounds_toArray, List.set_cons_zero, List.set_cons_succ]
        refine SeqG.valStep (fun wv hbv hpv => ?_) ?_
        · skip
          go_wp2_with fail
          exact post_val (Below.refl _ _)
        simp only [Act.put, List.setIfInBounds_toArray, List.set_cons_zero, List.set_cons_succ]
        refine SeqG.fixStep (.inl ⟨rfl, fun _ => rfl⟩) ?_
        simp only [Act.put, List.setIfInBounds_toArray, List.set_cons_zero, List.set_cons_succ]
        refine SeqG.fixStep (.inr ⟨rfl, rfl⟩) ?_
        simp only [Act.put, List.setIfInBounds_toArray, List.set_cons_zero, List.set_cons_succ]
        refine SeqG.fixStep (.inr ⟨rfl, rfl⟩) ?_
        simp only [Act.put, List.setIfInBounds_toArray, List.set_cons_zero, List.set_cons_succ]
        refine SeqG.fixStep (.inr ⟨rfl, rfl⟩) ?_
        simp only [Act.put, List.setIfInBounds_toArray, List.set_cons_zero, List.set_cons_succ]
        refine SeqG.fixStep (.inr ⟨rfl, rfl⟩) ?_
        simp only [Act.put, List.setIfInBounds_toArray, List.set_cons_zero, List.set_cons_succ]
        refine SeqG.fixStep (.inr ⟨rfl, rfl⟩) ?_
        simp only [Act.put, List.setIfInBounds_toArray, List.set_cons_zero, List.set_cons_succ]
        refine SeqG.fixStep (.inr ⟨rfl, rfl⟩) ?_
        simp only [Act.put, List.setIfInBounds_toArray, List.set_cons_zero, List.set_cons_succ]
        refine SeqG.fixStep (.inl ⟨rfl, fun _ => rfl⟩) ?_
        simp only [Act.put, List.setIfInBounds_toArray, List.set_cons_zero, List.set_cons_succ]
        refine SeqG.done fun wv hbv hpv => ?_
        refine NoPan.normal ?_
        clear hpv
        have hb2 : Below W.heap.size W wv := hb.trans (hbv.mono zr)
        go_wp2
        go_roundw
        case rel => exact ⟨k + 1, by go_num, by omega, Hn, hb2⟩
        case measure => simp only [intOf]; omega
      · have hq : (x.1 != t.1) = true := by simpa using h
        have HA := Lib.hid (show anyB t x = meetB x t by simp [anyB, h])
        have HX := Lib.hid hx
        clear h hr0 hcs hlt
        go_wp2
        refine wp_region_grow [.fix (.slice (some ⟨b, off, none⟩) L.length c), .fix (.int .i64 k), .val (.pointer (some ⟨b, off + k * 5, none⟩)), .val (.pointer (some ⟨b, off + k * 5, none⟩)), .val (.int .i64 x.1), .val (.pointer (some ⟨p, 0, none⟩)), .val (.int .i64 t.1), .val (.bool true), .fix (.bool true), .fix (.slice (some ⟨b, off, none⟩) L.length c), .fix (.int .i64 k), .val (.pointer (some ⟨b, off + k * 5, none⟩)), .val (.agg #[.int .i64 x.1, .int .i64 x.2.1, .int .i64 x.2.2.1, .int .i64 x.2.2.2.1, .int .i64 x.2.2.2.2]), .val (.agg #[.int .i64 t.1, .int .i64 t.2.1, .int .i64 t.2.2.1, .int .i64 t.2.2.2.1, .int .i64 t.2.2.2.2]), .val (.bool (meetB x t)), .fix (.bool (meetB x t))] mixed (by kernel_rfl) ?_
        refine SeqG.fixStep (.inl ⟨rfl, fun _ => rfl⟩) ?_
        simp only [Act.put, List.setIfInBounds_toArray, List.set_cons_zero, List.set_cons_succ]
        refine SeqG.fixStep (.inl ⟨rfl, fun _ => rfl⟩) ?_
        simp only [Act.put, List.setIfInBounds_toArray, List.set_cons_zero, List.set_cons_succ]
        refine SeqG.valStep (fun wv hbv hpv => ?_) ?_
        · skip
          go_wp2_with fail
          exact post_val (Below.refl _ _)
        simp only [Act.put, List.setIfInBounds_toArray, List.set_cons_zero, List.set_cons_succ]
        refine SeqG.valStep (fun wv hbv hpv => ?_) ?_
        · skip
          go_wp2_with fail
          exact post_val (Below.refl _ _)
        simp only [Act.put, List.setIfInBounds_toArray, List.set_cons_zero, List.set_cons_succ]
        refine SeqG.valStep (fun wv hbv hpv => ?_) ?_
        · have c0 := (cells5 (hC.below hbv hBr) hx).1
          go_wp2_with fail
          exact post_val (Below.refl _ _)
        simp only [Act.put, List.setIfInBounds_toArray, List.set_cons_zero, List.set_cons_succ]
        refine SeqG.valStep (fun wv hbv hpv => ?_) ?_
        · skip
          go_wp2_with fail
          exact post_val (Below.refl _ _)
        simp only [Act.put, List.setIfInBounds_toArray, List.set_cons_zero, List.set_cons_succ]
        refine SeqG.valStep (fun wv hbv hpv => ?_) ?_
        · have ct := (kt.below' hbv).cell
          go_wp2_with fail
          exact post_val (Below.refl _ _)
        simp only [Act.put, List.setIfInBounds_toArray, List.set_cons_zero, List.set_cons_succ]
        refine SeqG.valStep (fun wv hbv hpv => ?_) ?_
        · skip
          go_wp2_with fail
          exact post_val (Below.refl _ _)
        simp only [Act.put, List.setIfInBounds_toArray, List.set_cons_zero, List.set_cons_succ]
        refine SeqG.fixStep (.inl ⟨rfl, fun _ => rfl⟩) ?_
        simp only [Act.put, List.setIfInBounds_toArray, List.set_cons_zero, List.set_cons_succ]
        refine SeqG.fixStep (.inl ⟨rfl, fun _ => rfl⟩) ?_
        simp only [Act.put, List.setIfInBounds_toArray, List.set_cons_zero, List.set_cons_succ]
        refine SeqG.fixStep (.inl ⟨rfl, fun _ => rfl⟩) ?_
        simp only [Act.put, List.setIfInBounds_toArray, List.set_cons_zero, List.set_cons_succ]
        refine SeqG.valStep (fun wv hbv hpv => ?_) ?_
        · skip
          go_wp2_with fail
          exact post_val (Below.refl _ _)
        simp only [Act.put, List.setIfInBounds_toArray, List.set_cons_zero, List.set_cons_succ]
        refine SeqG.valStep (fun wv hbv hpv => ?_) ?_
        · obtain ⟨c0, c1, c2, c3, c4⟩ := cells5 (hC.below hbv hBr) hx
          go_wp2_with fail
          exact post_val (Below.refl _ _)
        simp only [Act.put, List.setIfInBounds_toArray, List.set_cons_zero, List.set_cons_succ]
        refine SeqG.valStep (fun wv hbv hpv => ?_) ?_
        · have ct := (kt.below' hbv).cell
          go_wp2_with fail
          exact post_val (Below.refl _ _)
        simp only [Act.put, List.setIfInBounds_toArray, List.set_cons_zero, List.set_cons_succ]
        refine SeqG.valStep (fun wv hbv hpv => ?_) ?_
        · go_wp2_with fail
          refine (l11MeetW_any x t _ htx ht).mono ?_; rintro e w' ⟨he, hb⟩; subst he
          go_wp2_with fail
          exact post_val hb
        simp only [Act.put, List.setIfInBounds_toArray, List.set_cons_zero, List.set_cons_succ]
        refine SeqG.fixStep (.inl ⟨rfl, fun _ => rfl⟩) ?_
        simp only [Act.put, List.setIfInBounds_toArray, List.set_cons_zero, List.set_cons_succ]
        refine SeqG.done fun wv hbv hpv => ?_
        refine NoPan.normal ?_
        clear hpv
        have hb2 : Below W.heap.size W wv := hb.trans (hbv.mono zr)
        cases hm : meetB x t
        · have Hn : Hid (∀ j y, j < k + 1 → L[j]? = some y → anyB t y = false) := fun j y hj hy => by
            by_cases e : j = k
            · subst e; have := HX.out; rw [this] at hy; cases hy; rw [HA.out, hm]
            · exact hs.out j y (by omega) hy
          clear hs
          go_wp2
          go_roundw
          case rel => exact ⟨k + 1, by go_num, by omega, Hn, hb2⟩
          case measure => simp only [intOf]; omega
        · have Hv := Lib.hid (show (!metB L t) = false by
            have : metB L t = true := List.any_eq_true.2 ⟨x, List.mem_of_getElem? HX.out, by rw [HA.out, hm]⟩
            rw [this]; rfl)
          clear hs
          go_wp2
          go_ret
          exact ⟨by rw [Hv.out]; rfl, by rw [Hp.out]; exact hb0.trans (hb2.mono zp)⟩
    · obtain rfl : k = L.length := by omega
      have Hv := Lib.hid (show (!metB L t) = true by
        have : metB L t = false := by
          unfold metB
          rw [List.any_eq_false]
          intro y hy
          obtain ⟨j, hj, rfl⟩ := List.getElem_of_mem hy
          rw [hs.out j _ hj (List.getElem?_eq_getElem hj)]
          simp
        rw [this]; rfl)
      clear hs
      go_wp2
      go_ret
      exact ⟨by rw [Hv.out]; rfl, by rw [Hp.out]; exact hb0.trans (hb.mono zp)⟩
end Go.Proofs.Ytfcmfadkkfkidaa
