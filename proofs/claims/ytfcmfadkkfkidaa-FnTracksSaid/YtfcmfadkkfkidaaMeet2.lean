/-
  l11Meet: the reference.
-/
import Derived.Test.YtfcmfadkkfkidaaMeet0
import Derived.Test.YtfcmfadkkfkidaaSec2
import Derived.Test.YtfcmfadkkfkidaaRegion
import Derived.WalkKit
import Derived.WalkSpells
import Derived.WalkLawsBesides
import Derived.Lib.Hide
import Derived.Deep.QuietTactic
import Derived.BigQuiet
import Derived.StillTailTactics
namespace Go.Proofs.Ytfcmfadkkfkidaa
open Go.RowKit

theorem l11ArrivesT_any (x : T5) (w : World) (h : TrOk x) : Calls Try.prog 67 #[tripV x.1 x.2.1 x.2.2.1 x.2.2.2.1 x.2.2.2.2] w fun e w' => e = .returned (.int .i64 (arrT x)) ∧ Below w.heap.size w w' := l11Arrives_any _ _ _ _ _ _ h.b h.c h.d
theorem l11EntersT_any (x : T5) (s : Int) (w : World) (h : TrOk x) (hs : 0 ≤ s ∧ s ≤ 8) : Calls Try.prog 72 #[tripV x.1 x.2.1 x.2.2.1 x.2.2.2.1 x.2.2.2.2, .int .i64 s] w fun e w' => e = .returned (.int .i64 (entT x s)) ∧ Below w.heap.size w w' := l11Enters_any _ _ _ _ _ _ _ h.b h.c h.d hs

set_option maxRecDepth 20000 in
set_option maxHeartbeats 8000000 in
theorem l11Meet_any (x y : T5) (w : World) (hx : TrOk x) (hy : TrOk y) :
    Calls Try.prog 79 #[tripV x.1 x.2.1 x.2.2.1 x.2.2.2.1 x.2.2.2.2, tripV y.1 y.2.1 y.2.2.1 y.2.2.2.1 y.2.2.2.2] w fun e w' => e = .returned (.bool (meetB x y)) ∧ Below w.heap.size w w' := by
  have kx := (Blk.new w 25 #[.int .i64 x.1, .int .i64 x.2.1, .int .i64 x.2.2.1, .int .i64 x.2.2.2.1, .int .i64 x.2.2.2.2]).alloc (.cells #[.int .i64 y.1, .int .i64 y.2.1, .int .i64 y.2.2.1, .int .i64 y.2.2.2.1, .int .i64 y.2.2.2.2] 25)
  have ky := Blk.new1 w 25 #[.int .i64 y.1, .int .i64 y.2.1, .int .i64 y.2.2.1, .int .i64 y.2.2.2.1, .int .i64 y.2.2.2.2] (.cells #[.int .i64 x.1, .int .i64 x.2.1, .int .i64 x.2.2.1, .int .i64 x.2.2.2.1, .int .i64 x.2.2.2.2] 25)
  have hb0 : Below w.heap.size w ((w.alloc (.cells #[.int .i64 x.1, .int .i64 x.2.1, .int .i64 x.2.2.1, .int .i64 x.2.2.2.1, .int .i64 x.2.2.2.2] 25)).alloc (.cells #[.int .i64 y.1, .int .i64 y.2.1, .int .i64 y.2.2.1, .int .i64 y.2.2.2.1, .int .i64 y.2.2.2.2] 25)) := by (repeat (first | exact Below.refl _ _ | refine Below.drew ?_ | refine below_drewN ?_ _ | (refine Below.alloc ?_ (by (try simp) <;> omega) _) | (refine Below.setCell ?_ (by (try simp) <;> omega) _) | (refine Below.trans ?_ (Below.mono (by assumption) (by (try simp) <;> omega)))))
  go_enter Try.func79, Try.ntmps79
  go_upto_region 1 with fail
  generalize hp : w.heap.size = p at *
  generalize hq : p + 1 = q at *
  have Hp := Lib.hid hp
  clear hp hq
  generalize (w.alloc (.cells #[.int .i64 x.1, .int .i64 x.2.1, .int .i64 x.2.2.1, .int .i64 x.2.2.2.1, .int .i64 x.2.2.2.2] 25)).alloc (.cells #[.int .i64 y.1, .int .i64 y.2.1, .int .i64 y.2.2.1, .int .i64 y.2.2.2.1, .int .i64 y.2.2.2.2] 25) = W at *
  have kx0 := kx
  have ky0 := ky
  go_wp2
  go_loopw [5] (fun v5 wr => ∃ s : Nat, v5 = .int .i64 s ∧ s ≤ 9 ∧ Hid (∀ s' : Nat, s' < s → entM x y s' = false) ∧ Below W.heap.size W wr) (fun v5 _ => (9 - intOf v5).toNat)
  case atStart => exact ⟨0, rfl, by omega, fun s h => by omega, Below.refl _ _⟩
  case round =>
    obtain ⟨s, rfl, hs, hno, hb1⟩ := hrel
    have zr := hb1.size
    have kx := kx0.below' hb1
    have ky := ky0.below' hb1
    have hs0 : (0 : Int) ≤ (s : Int) := by omega
    by_cases hlt : s < 9
    · have hs8 : (s : Int) ≤ 8 := by omega
      obtain ⟨m0, m1⟩ := entT_bd hx hs0 hs8
      obtain ⟨n0, n1⟩ := entT_bd hy hs0 hs8
      have hsd : decide ((s : Int) < 9) = true := decide_eq_true (by omega)
      go_wp2
      refine wp_region_grow [.val (.agg #[.int .i64 x.1, .int .i64 x.2.1, .int .i64 x.2.2.1, .int .i64 x.2.2.2.1, .int .i64 x.2.2.2.2]), .fix (.int .i64 (s)), .val (.int .i64 (entT x s)), .val (.agg #[.int .i64 y.1, .int .i64 y.2.1, .int .i64 y.2.2.1, .int .i64 y.2.2.2.1, .int .i64 y.2.2.2.2]), .fix (.int .i64 (s)), .val (.int .i64 (entT y s)), .fix (.int .i64 (entT x s)), .fix (.int .i64 (entT y s))] mixed (by kernel_rfl) ?_
      refine SeqG.valStep (fun wv hbv hpv => ?_) ?_
      · have cx := (kx.below' hbv).cell
        go_wp2_with fail
        exact post_val (Below.refl _ _)
      simp only [Act.put, List.setIfInBounds_toArray, List.set_cons_zero, List.set_cons_succ]
      refine SeqG.fixStep (.inl ⟨rfl, fun _ => rfl⟩) ?_
      simp only [Act.put, List.setIfInBounds_toArray, List.set_cons_zero, List.set_cons_succ]
      refine SeqG.valStep (fun wv hbv hpv => ?_) ?_
      · go_wp2_with fail
        refine (l11EntersT_any x _ _ hx ⟨hs0, hs8⟩).mono ?_; rintro e w' ⟨he, hb⟩; subst he
        go_wp2_with fail
        exact post_val hb
      simp only [Act.put, List.setIfInBounds_toArray, List.set_cons_zero, List.set_cons_succ]
      refine SeqG.valStep (fun wv hbv hpv => ?_) ?_
      · have cy := (ky.below' hbv).cell
        go_wp2_with fail
        exact post_val (Below.refl _ _)
      simp only [Act.put, List.setIfInBounds_toArray, List.set_cons_zero, List.set_cons_succ]
      refine SeqG.fixStep (.inl ⟨rfl, fun _ => rfl⟩) ?_
      simp only [Act.put, List.setIfInBounds_toArray, List.set_cons_zero, List.set_cons_succ]
      refine SeqG.valStep (fun wv hbv hpv => ?_) ?_
      · go_wp2_with fail
        refine (l11EntersT_any y _ _ hy ⟨hs0, hs8⟩).mono ?_; rintro e w' ⟨he, hb⟩; subst he
        go_wp2_with fail
        exact post_val hb
      simp only [Act.put, List.setIfInBounds_toArray, List.set_cons_zero, List.set_cons_succ]
      refine SeqG.fixStep (.inl ⟨rfl, fun _ => rfl⟩) ?_
      simp only [Act.put, List.setIfInBounds_toArray, List.set_cons_zero, List.set_cons_succ]
      refine SeqG.fixStep (.inl ⟨rfl, fun _ => rfl⟩) ?_
      simp only [Act.put, List.setIfInBounds_toArray, List.set_cons_zero, List.set_cons_succ]
      refine SeqG.done fun wv hbv hpv => ?_
      refine NoPan.normal ?_
      clear hpv
      clear hsd
      have hb2 : Below W.heap.size W wv := hb1.trans (hbv.mono zr)
      have hM := entM_iff (x := x) (y := y) (s := (s : Int))
      generalize entT x s = m at *
      generalize entT y s = n at *
      by_cases hh : 0 ≤ m ∧ 0 ≤ n ∧ m < n + 4 ∧ n < m + 4
      · have Hv := Lib.hid (meet_ent hlt (hM.2 hh))
        have hb9 : Below p w wv := hb0.trans (hb2.mono (by have := hb0.size; have := kx0.lt; omega))
        obtain ⟨g1, g2, g3, g4⟩ := hh
        clear hM
        go_wp2
        go_ret
        exact ⟨by rw [Hv.out]; rfl, by rw [Hp.out]; exact hb9⟩
      · have Hn : Hid (∀ s' : Nat, s' < s + 1 → entM x y s' = false) := fun s' hs' => by
          by_cases e : s' = s
          · subst e; rw [Bool.eq_false_iff]; exact fun h => hh (hM.1 h)
          · exact hno.out s' (by omega)
        clear hM hno
        by_cases g1 : 0 ≤ m
        · by_cases g2 : 0 ≤ n
          · by_cases g3 : m < n + 4
            · have g4 : ¬ n < m + 4 := fun h => hh ⟨g1, g2, g3, h⟩
              clear hh
              go_wp2
              go_roundw
              case rel => exact ⟨s + 1, by go_num, by omega, Hn, hb2⟩
              case measure => simp only [intOf]; omega
            · clear hh
              go_wp2
              go_roundw
              case rel => exact ⟨s + 1, by go_num, by omega, Hn, hb2⟩
              case measure => simp only [intOf]; omega
          · clear hh
            go_wp2
            go_roundw
            case rel => exact ⟨s + 1, by go_num, by omega, Hn, hb2⟩
            case measure => simp only [intOf]; omega
        · clear hh
          go_wp2
          go_roundw
          case rel => exact ⟨s + 1, by go_num, by omega, Hn, hb2⟩
          case measure => simp only [intOf]; omega
    · obtain rfl : s = 9 := by omega
      have Hv := Lib.hid (meet_noEnt (fun s hs => hno.out s hs))
      clear hno
      go_wp2
      by_cases h1 : x.2.1 = y.2.1
      · skip
        by_cases h2 : x.2.2.2.1 = y.2.2.2.1
        · skip
          have b1 : (x.2.1 == y.2.1) = true := by simpa using h1
          have b2 : (x.2.2.2.1 == y.2.2.2.1) = true := by simpa using h2
          have HE := Lib.hid (show endsB x y = true by simp [endsB, h1, h2])
          clear h1 h2
          refine wp_region_grow [.val (.pointer (some ⟨p, 1, none⟩)), .val (.int .i64 (x.2.1)), .val (.pointer (some ⟨q, 1, none⟩)), .val (.int .i64 (y.2.1)), .val (.bool true), .fix (.bool true), .val (.pointer (some ⟨p, 3, none⟩)), .val (.int .i64 (x.2.2.2.1)), .val (.pointer (some ⟨q, 3, none⟩)), .val (.int .i64 (y.2.2.2.1)), .val (.bool true), .fix (.bool true), .fix (.bool true), .fix undef, .fix undef, .fix undef, .fix undef, .fix undef, .fix undef, .fix undef, .fix undef, .fix undef, .fix undef, .fix undef, .fix undef, .fix (.bool true), .fix (.bool true)] mixed (by kernel_rfl) ?_
          refine SeqG.valStep (fun wv hbv hpv => ?_) ?_
          · skip
            go_wp2_with fail
            exact post_val (Below.refl _ _)
          simp only [Act.put, List.setIfInBounds_toArray, List.set_cons_zero, List.set_cons_succ]
          refine SeqG.valStep (fun wv hbv hpv => ?_) ?_
          · have cx := (kx.below' hbv).cell
            go_wp2_with fail
            exact post_val (Below.refl _ _)
          simp only [Act.put, List.setIfInBounds_toArray, List.set_cons_zero, List.set_cons_succ]
          refine SeqG.valStep (fun wv hbv hpv => ?_) ?_
          · skip
            go_wp2_with fail
            exact post_val (Below.refl _ _)
          simp only [Act.put, List.setIfInBounds_toArray, List.set_cons_zero, List.set_cons_succ]
          refine SeqG.valStep (fun wv hbv hpv => ?_) ?_
          · have cy := (ky.below' hbv).cell
            go_wp2_with fail
            exact post_val (Below.refl _ _)
          simp only [Act.put, List.setIfInBounds_toArray, List.set_cons_zero, List.set_cons_succ]
          refine SeqG.valStep (fun wv hbv hpv => ?_) ?_
          · skip
            go_wp2_with fail
            exact post_val (Below.refl _ _)
          simp only [Act.put, List.setIfInBounds_toArray, List.set_cons_zero, List.set_cons_succ]
          refine SeqG.fixStep (.inl ⟨rfl, fun _ => rfl⟩) ?_
          simp only [Act.put, List.setIfInBounds_toArray, List.set_cons_zero, List.set_cons_succ]
          refine SeqG.valStep (fun wv hbv hpv => ?_) ?_
          · skip
            go_wp2_with fail
            exact post_val (Below.refl _ _)
          simp only [Act.put, List.setIfInBounds_toArray, List.set_cons_zero, List.set_cons_succ]
          refine SeqG.valStep (fun wv hbv hpv => ?_) ?_
          · have cx := (kx.below' hbv).cell
            go_wp2_with fail
            exact post_val (Below.refl _ _)
          simp only [Act.put, List.setIfInBounds_toArray, List.set_cons_zero, List.set_cons_succ]
          refine SeqG.valStep (fun wv hbv hpv => ?_) ?_
          · skip
            go_wp2_with fail
            exact post_val (Below.refl _ _)
          simp only [Act.put, List.setIfInBounds_toArray, List.set_cons_zero, List.set_cons_succ]
          refine SeqG.valStep (fun wv hbv hpv => ?_) ?_
          · have cy := (ky.below' hbv).cell
            go_wp2_with fail
            exact post_val (Below.refl _ _)
          simp only [Act.put, List.setIfInBounds_toArray, List.set_cons_zero, List.set_cons_succ]
          refine SeqG.valStep (fun wv hbv hpv => ?_) ?_
          · skip
            go_wp2_with fail
            exact post_val (Below.refl _ _)
          simp only [Act.put, List.setIfInBounds_toArray, List.set_cons_zero, List.set_cons_succ]
          refine SeqG.fixStep (.inl ⟨rfl, fun _ => rfl⟩) ?_
          simp only [Act.put, List.setIfInBounds_toArray, List.set_cons_zero, List.set_cons_succ]
          refine SeqG.fixStep (.inl ⟨rfl, fun _ => rfl⟩) ?_
          simp only [Act.put, List.setIfInBounds_toArray, List.set_cons_zero, List.set_cons_succ]
          refine SeqG.fixStep (.inr ⟨rfl, rfl⟩) ?_
          simp only [Act.put, List.setIfInBounds_toArray, List.set_cons_zero, List.set_cons_succ]
          refine SeqG.fixStep (.inr ⟨rfl, rfl⟩) ?_
          simp only [Act.put, List.setIfInBounds_toArray, List.set_cons_zero, List.set_cons_succ]
          refine SeqG.fixStep (.inr ⟨rfl, rfl⟩) ?_
          simp only [Act.put, List.setIfInBounds_toArray, List.set_cons_zero, List.set_cons_succ]
          refine SeqG.fixStep (.inr ⟨rfl, rfl⟩) ?_
          simp only [Act.put, List.setIfInBounds_toArray, List.set_cons_zero, List.set_cons_succ]
          refine SeqG.fixStep (.inr ⟨rfl, rfl⟩) ?_
          simp only [Act.put, List.setIfInBounds_toArray, List.set_cons_zero, List.set_cons_succ]
          refine SeqG.fixStep (.inr ⟨rfl, rfl⟩) ?_
          simp only [Act.put, List.setIfInBounds_toArray, List.set_cons_zero, List.set_cons_succ]
          refine SeqG.fixStep (.inr ⟨rfl, rfl⟩) ?_
          simp only [Act.put, List.setIfInBounds_toArray, List.set_cons_zero, List.set_cons_succ]
          refine SeqG.fixStep (.inr ⟨rfl, rfl⟩) ?_
          simp only [Act.put, List.setIfInBounds_toArray, List.set_cons_zero, List.set_cons_succ]
          refine SeqG.fixStep (.inr ⟨rfl, rfl⟩) ?_
          simp only [Act.put, List.setIfInBounds_toArray, List.set_cons_zero, List.set_cons_succ]
          refine SeqG.fixStep (.inr ⟨rfl, rfl⟩) ?_
          simp only [Act.put, List.setIfInBounds_toArray, List.set_cons_zero, List.set_cons_succ]
          refine SeqG.fixStep (.inr ⟨rfl, rfl⟩) ?_
          simp only [Act.put, List.setIfInBounds_toArray, List.set_cons_zero, List.set_cons_succ]
          refine SeqG.fixStep (.inr ⟨rfl, rfl⟩) ?_
          simp only [Act.put, List.setIfInBounds_toArray, List.set_cons_zero, List.set_cons_succ]
          refine SeqG.fixStep (.inl ⟨rfl, fun _ => rfl⟩) ?_
          simp only [Act.put, List.setIfInBounds_toArray, List.set_cons_zero, List.set_cons_succ]
          refine SeqG.fixStep (.inl ⟨rfl, fun _ => rfl⟩) ?_
          simp only [Act.put, List.setIfInBounds_toArray, List.set_cons_zero, List.set_cons_succ]
          refine SeqG.done fun wv hbv hpv => ?_
          refine NoPan.normal ?_
          clear hpv
          have hb9 : Below p w wv := hb0.trans ((hb1.trans (hbv.mono zr)).mono (by have := hb0.size; have := kx0.lt; omega))
          go_wp2
          go_ret
          exact ⟨by rw [Hv.out, HE.out]; rfl, by rw [Hp.out]; exact hb9⟩
        · skip
          by_cases h3 : x.2.2.1 = y.2.2.1
          · skip
            by_cases h4 : arrT x = arrT y
            · skip
              have b1 : (x.2.1 == y.2.1) = true := by simpa using h1
              have b2 : (x.2.2.2.1 == y.2.2.2.1) = false := by simpa using h2
              have b3 : (x.2.2.1 == y.2.2.1) = true := by simpa using h3
              have b4 : (arrT x == arrT y) = true := by simpa using h4
              have HE := Lib.hid (show endsB x y = true by simp [endsB, h1, h2, h3, h4])
              clear h1 h2 h3 h4
              refine wp_region_grow [.val (.pointer (some ⟨p, 1, none⟩)), .val (.int .i64 (x.2.1)), .val (.pointer (some ⟨q, 1, none⟩)), .val (.int .i64 (y.2.1)), .val (.bool true), .fix (.bool true), .val (.pointer (some ⟨p, 3, none⟩)), .val (.int .i64 (x.2.2.2.1)), .val (.pointer (some ⟨q, 3, none⟩)), .val (.int .i64 (y.2.2.2.1)), .val (.bool false), .fix (.bool false), .fix (.bool false), .val (.pointer (some ⟨p, 2, none⟩)), .val (.int .i64 (x.2.2.1)), .val (.pointer (some ⟨q, 2, none⟩)), .val (.int .i64 (y.2.2.1)), .val (.bool true), .fix (.bool true), .val (.agg #[.int .i64 x.1, .int .i64 x.2.1, .int .i64 x.2.2.1, .int .i64 x.2.2.2.1, .int .i64 x.2.2.2.2]), .val (.int .i64 (arrT x)), .val (.agg #[.int .i64 y.1, .int .i64 y.2.1, .int .i64 y.2.2.1, .int .i64 y.2.2.2.1, .int .i64 y.2.2.2.2]), .val (.int .i64 (arrT y)), .val (.bool true), .fix (.bool true), .fix (.bool true), .fix (.bool true)] mixed (by kernel_rfl) ?_
              refine SeqG.valStep (fun wv hbv hpv => ?_) ?_
              · skip
                go_wp2_with fail
                exact post_val (Below.refl _ _)
              simp only [Act.put, List.setIfInBounds_toArray, List.set_cons_zero, List.set_cons_succ]
              refine SeqG.valStep (fun wv hbv hpv => ?_) ?_
              · have cx := (kx.below' hbv).cell
                go_wp2_with fail
                exact post_val (Below.refl _ _)
              simp only [Act.put, List.setIfInBounds_toArray, List.set_cons_zero, List.set_cons_succ]
              refine SeqG.valStep (fun wv hbv hpv => ?_) ?_
              · skip
                go_wp2_with fail
                exact post_val (Below.refl _ _)
              simp only [Act.put, List.setIfInBounds_toArray, List.set_cons_zero, List.set_cons_succ]
              refine SeqG.valStep (fun wv hbv hpv => ?_) ?_
              · have cy := (ky.below' hbv).cell
                go_wp2_with fail
                exact post_val (Below.refl _ _)
              simp only [Act.put, List.setIfInBounds_toArray, List.set_cons_zero, List.set_cons_succ]
              refine SeqG.valStep (fun wv hbv hpv => ?_) ?_
              · skip
                go_wp2_with fail
                exact post_val (Below.refl _ _)
              simp only [Act.put, List.setIfInBounds_toArray, List.set_cons_zero, List.set_cons_succ]
              refine SeqG.fixStep (.inl ⟨rfl, fun _ => rfl⟩) ?_
              simp only [Act.put, List.setIfInBounds_toArray, List.set_cons_zero, List.set_cons_succ]
              refine SeqG.valStep (fun wv hbv hpv => ?_) ?_
              · skip
                go_wp2_with fail
                exact post_val (Below.refl _ _)
              simp only [Act.put, List.setIfInBounds_toArray, List.set_cons_zero, List.set_cons_succ]
              refine SeqG.valStep (fun wv hbv hpv => ?_) ?_
              · have cx := (kx.below' hbv).cell
                go_wp2_with fail
                exact post_val (Below.refl _ _)
              simp only [Act.put, List.setIfInBounds_toArray, List.set_cons_zero, List.set_cons_succ]
              refine SeqG.valStep (fun wv hbv hpv => ?_) ?_
              · skip
                go_wp2_with fail
                exact post_val (Below.refl _ _)
              simp only [Act.put, List.setIfInBounds_toArray, List.set_cons_zero, List.set_cons_succ]
              refine SeqG.valStep (fun wv hbv hpv => ?_) ?_
              · have cy := (ky.below' hbv).cell
                go_wp2_with fail
                exact post_val (Below.refl _ _)
              simp only [Act.put, List.setIfInBounds_toArray, List.set_cons_zero, List.set_cons_succ]
              refine SeqG.valStep (fun wv hbv hpv => ?_) ?_
              · skip
                go_wp2_with fail
                exact post_val (Below.refl _ _)
              simp only [Act.put, List.setIfInBounds_toArray, List.set_cons_zero, List.set_cons_succ]
              refine SeqG.fixStep (.inl ⟨rfl, fun _ => rfl⟩) ?_
              simp only [Act.put, List.setIfInBounds_toArray, List.set_cons_zero, List.set_cons_succ]
              refine SeqG.fixStep (.inl ⟨rfl, fun _ => rfl⟩) ?_
              simp only [Act.put, List.setIfInBounds_toArray, List.set_cons_zero, List.set_cons_succ]
              refine SeqG.valStep (fun wv hbv hpv => ?_) ?_
              · skip
                go_wp2_with fail
                exact post_val (Below.refl _ _)
              simp only [Act.put, List.setIfInBounds_toArray, List.set_cons_zero, List.set_cons_succ]
              refine SeqG.valStep (fun wv hbv hpv => ?_) ?_
              · have cx := (kx.below' hbv).cell
                go_wp2_with fail
                exact post_val (Below.refl _ _)
              simp only [Act.put, List.setIfInBounds_toArray, List.set_cons_zero, List.set_cons_succ]
              refine SeqG.valStep (fun wv hbv hpv => ?_) ?_
              · skip
                go_wp2_with fail
                exact post_val (Below.refl _ _)
              simp only [Act.put, List.setIfInBounds_toArray, List.set_cons_zero, List.set_cons_succ]
              refine SeqG.valStep (fun wv hbv hpv => ?_) ?_
              · have cy := (ky.below' hbv).cell
                go_wp2_with fail
                exact post_val (Below.refl _ _)
              simp only [Act.put, List.setIfInBounds_toArray, List.set_cons_zero, List.set_cons_succ]
              refine SeqG.valStep (fun wv hbv hpv => ?_) ?_
              · skip
                go_wp2_with fail
                exact post_val (Below.refl _ _)
              simp only [Act.put, List.setIfInBounds_toArray, List.set_cons_zero, List.set_cons_succ]
              refine SeqG.fixStep (.inl ⟨rfl, fun _ => rfl⟩) ?_
              simp only [Act.put, List.setIfInBounds_toArray, List.set_cons_zero, List.set_cons_succ]
              refine SeqG.valStep (fun wv hbv hpv => ?_) ?_
              · have cx := (kx.below' hbv).cell
                go_wp2_with fail
                exact post_val (Below.refl _ _)
              simp only [Act.put, List.setIfInBounds_toArray, List.set_cons_zero, List.set_cons_succ]
              refine SeqG.valStep (fun wv hbv hpv => ?_) ?_
              · go_wp2_with fail
                refine (l11ArrivesT_any x _ hx).mono ?_; rintro e w' ⟨he, hb⟩; subst he
                go_wp2_with fail
                exact post_val hb
              simp only [Act.put, List.setIfInBounds_toArray, List.set_cons_zero, List.set_cons_succ]
              refine SeqG.valStep (fun wv hbv hpv => ?_) ?_
              · have cy := (ky.below' hbv).cell
                go_wp2_with fail
                exact post_val (Below.refl _ _)
              simp only [Act.put, List.setIfInBounds_toArray, List.set_cons_zero, List.set_cons_succ]
              refine SeqG.valStep (fun wv hbv hpv => ?_) ?_
              · go_wp2_with fail
                refine (l11ArrivesT_any y _ hy).mono ?_; rintro e w' ⟨he, hb⟩; subst he
                go_wp2_with fail
                exact post_val hb
              simp only [Act.put, List.setIfInBounds_toArray, List.set_cons_zero, List.set_cons_succ]
              refine SeqG.valStep (fun wv hbv hpv => ?_) ?_
              · skip
                go_wp2_with fail
                exact post_val (Below.refl _ _)
              simp only [Act.put, List.setIfInBounds_toArray, List.set_cons_zero, List.set_cons_succ]
              refine SeqG.fixStep (.inl ⟨rfl, fun _ => rfl⟩) ?_
              simp only [Act.put, List.setIfInBounds_toArray, List.set_cons_zero, List.set_cons_succ]
              refine SeqG.fixStep (.inl ⟨rfl, fun _ => rfl⟩) ?_
              simp only [Act.put, List.setIfInBounds_toArray, List.set_cons_zero, List.set_cons_succ]
              refine SeqG.fixStep (.inl ⟨rfl, fun _ => rfl⟩) ?_
              simp only [Act.put, List.setIfInBounds_toArray, List.set_cons_zero, List.set_cons_succ]
              refine SeqG.done fun wv hbv hpv => ?_
              refine NoPan.normal ?_
              clear hpv
              have hb9 : Below p w wv := hb0.trans ((hb1.trans (hbv.mono zr)).mono (by have := hb0.size; have := kx0.lt; omega))
              go_wp2
              go_ret
              exact ⟨by rw [Hv.out, HE.out]; rfl, by rw [Hp.out]; exact hb9⟩
            · skip
              have b1 : (x.2.1 == y.2.1) = true := by simpa using h1
              have b2 : (x.2.2.2.1 == y.2.2.2.1) = false := by simpa using h2
              have b3 : (x.2.2.1 == y.2.2.1) = true := by simpa using h3
              have b4 : (arrT x == arrT y) = false := by simpa using h4
              have HE := Lib.hid (show endsB x y = false by simp [endsB, h1, h2, h3, h4])
              clear h1 h2 h3 h4
              refine wp_region_grow [.val (.pointer (some ⟨p, 1, none⟩)), .val (.int .i64 (x.2.1)), .val (.pointer (some ⟨q, 1, none⟩)), .val (.int .i64 (y.2.1)), .val (.bool true), .fix (.bool true), .val (.pointer (some ⟨p, 3, none⟩)), .val (.int .i64 (x.2.2.2.1)), .val (.pointer (some ⟨q, 3, none⟩)), .val (.int .i64 (y.2.2.2.1)), .val (.bool false), .fix (.bool false), .fix (.bool false), .val (.pointer (some ⟨p, 2, none⟩)), .val (.int .i64 (x.2.2.1)), .val (.pointer (some ⟨q, 2, none⟩)), .val (.int .i64 (y.2.2.1)), .val (.bool true), .fix (.bool true), .val (.agg #[.int .i64 x.1, .int .i64 x.2.1, .int .i64 x.2.2.1, .int .i64 x.2.2.2.1, .int .i64 x.2.2.2.2]), .val (.int .i64 (arrT x)), .val (.agg #[.int .i64 y.1, .int .i64 y.2.1, .int .i64 y.2.2.1, .int .i64 y.2.2.2.1, .int .i64 y.2.2.2.2]), .val (.int .i64 (arrT y)), .val (.bool false), .fix (.bool false), .fix (.bool false), .fix (.bool false)] mixed (by kernel_rfl) ?_
              refine SeqG.valStep (fun wv hbv hpv => ?_) ?_
              · skip
                go_wp2_with fail
                exact post_val (Below.refl _ _)
              simp only [Act.put, List.setIfInBounds_toArray, List.set_cons_zero, List.set_cons_succ]
              refine SeqG.valStep (fun wv hbv hpv => ?_) ?_
              · have cx := (kx.below' hbv).cell
                go_wp2_with fail
                exact post_val (Below.refl _ _)
              simp only [Act.put, List.setIfInBounds_toArray, List.set_cons_zero, List.set_cons_succ]
              refine SeqG.valStep (fun wv hbv hpv => ?_) ?_
              · skip
                go_wp2_with fail
                exact post_val (Below.refl _ _)
              simp only [Act.put, List.setIfInBounds_toArray, List.set_cons_zero, List.set_cons_succ]
              refine SeqG.valStep (fun wv hbv hpv => ?_) ?_
              · have cy := (ky.below' hbv).cell
                go_wp2_with fail
                exact post_val (Below.refl _ _)
              simp only [Act.put, List.setIfInBounds_toArray, List.set_cons_zero, List.set_cons_succ]
              refine SeqG.valStep (fun wv hbv hpv => ?_) ?_
              · skip
                go_wp2_with fail
                exact post_val (Below.refl _ _)
              simp only [Act.put, List.setIfInBounds_toArray, List.set_cons_zero, List.set_cons_succ]
              refine SeqG.fixStep (.inl ⟨rfl, fun _ => rfl⟩) ?_
              simp only [Act.put, List.setIfInBounds_toArray, List.set_cons_zero, List.set_cons_succ]
              refine SeqG.valStep (fun wv hbv hpv => ?_) ?_
              · skip
                go_wp2_with fail
                exact post_val (Below.refl _ _)
              simp only [Act.put, List.setIfInBounds_toArray, List.set_cons_zero, List.set_cons_succ]
              refine SeqG.valStep (fun wv hbv hpv => ?_) ?_
              · have cx := (kx.below' hbv).cell
                go_wp2_with fail
                exact post_val (Below.refl _ _)
              simp only [Act.put, List.setIfInBounds_toArray, List.set_cons_zero, List.set_cons_succ]
              refine SeqG.valStep (fun wv hbv hpv => ?_) ?_
              · skip
                go_wp2_with fail
                exact post_val (Below.refl _ _)
              simp only [Act.put, List.setIfInBounds_toArray, List.set_cons_zero, List.set_cons_succ]
              refine SeqG.valStep (fun wv hbv hpv => ?_) ?_
              · have cy := (ky.below' hbv).cell
                go_wp2_with fail
                exact post_val (Below.refl _ _)
              simp only [Act.put, List.setIfInBounds_toArray, List.set_cons_zero, List.set_cons_succ]
              refine SeqG.valStep (fun wv hbv hpv => ?_) ?_
              · skip
                go_wp2_with fail
                exact post_val (Below.refl _ _)
              simp only [Act.put, List.setIfInBounds_toArray, List.set_cons_zero, List.set_cons_succ]
              refine SeqG.fixStep (.inl ⟨rfl, fun _ => rfl⟩) ?_
              simp only [Act.put, List.setIfInBounds_toArray, List.set_cons_zero, List.set_cons_succ]
              refine SeqG.fixStep (.inl ⟨rfl, fun _ => rfl⟩) ?_
              simp only [Act.put, List.setIfInBounds_toArray, List.set_cons_zero, List.set_cons_succ]
              refine SeqG.valStep (fun wv hbv hpv => ?_) ?_
              · skip
                go_wp2_with fail
                exact post_val (Below.refl _ _)
              simp only [Act.put, List.setIfInBounds_toArray, List.set_cons_zero, List.set_cons_succ]
              refine SeqG.valStep (fun wv hbv hpv => ?_) ?_
              · have cx := (kx.below' hbv).cell
                go_wp2_with fail
                exact post_val (Below.refl _ _)
              simp only [Act.put, List.setIfInBounds_toArray, List.set_cons_zero, List.set_cons_succ]
              refine SeqG.valStep (fun wv hbv hpv => ?_) ?_
              · skip
                go_wp2_with fail
                exact post_val (Below.refl _ _)
              simp only [Act.put, List.setIfInBounds_toArray, List.set_cons_zero, List.set_cons_succ]
              refine SeqG.valStep (fun wv hbv hpv => ?_) ?_
              · have cy := (ky.below' hbv).cell
                go_wp2_with fail
                exact post_val (Below.refl _ _)
              simp only [Act.put, List.setIfInBounds_toArray, List.set_cons_zero, List.set_cons_succ]
              refine SeqG.valStep (fun wv hbv hpv => ?_) ?_
              · skip
                go_wp2_with fail
                exact post_val (Below.refl _ _)
              simp only [Act.put, List.setIfInBounds_toArray, List.set_cons_zero, List.set_cons_succ]
              refine SeqG.fixStep (.inl ⟨rfl, fun _ => rfl⟩) ?_
              simp only [Act.put, List.setIfInBounds_toArray, List.set_cons_zero, List.set_cons_succ]
              refine SeqG.valStep (fun wv hbv hpv => ?_) ?_
              · have cx := (kx.below' hbv).cell
                go_wp2_with fail
                exact post_val (Below.refl _ _)
              simp only [Act.put, List.setIfInBounds_toArray, List.set_cons_zero, List.set_cons_succ]
              refine SeqG.valStep (fun wv hbv hpv => ?_) ?_
              · go_wp2_with fail
                refine (l11ArrivesT_any x _ hx).mono ?_; rintro e w' ⟨he, hb⟩; subst he
                go_wp2_with fail
                exact post_val hb
              simp only [Act.put, List.setIfInBounds_toArray, List.set_cons_zero, List.set_cons_succ]
              refine SeqG.valStep (fun wv hbv hpv => ?_) ?_
              · have cy := (ky.below' hbv).cell
                go_wp2_with fail
                exact post_val (Below.refl _ _)
              simp only [Act.put, List.setIfInBounds_toArray, List.set_cons_zero, List.set_cons_succ]
              refine SeqG.valStep (fun wv hbv hpv => ?_) ?_
              · go_wp2_with fail
                refine (l11ArrivesT_any y _ hy).mono ?_; rintro e w' ⟨he, hb⟩; subst he
                go_wp2_with fail
                exact post_val hb
              simp only [Act.put, List.setIfInBounds_toArray, List.set_cons_zero, List.set_cons_succ]
              refine SeqG.valStep (fun wv hbv hpv => ?_) ?_
              · skip
                go_wp2_with fail
                exact post_val (Below.refl _ _)
              simp only [Act.put, List.setIfInBounds_toArray, List.set_cons_zero, List.set_cons_succ]
              refine SeqG.fixStep (.inl ⟨rfl, fun _ => rfl⟩) ?_
              simp only [Act.put, List.setIfInBounds_toArray, List.set_cons_zero, List.set_cons_succ]
              refine SeqG.fixStep (.inl ⟨rfl, fun _ => rfl⟩) ?_
              simp only [Act.put, List.setIfInBounds_toArray, List.set_cons_zero, List.set_cons_succ]
              refine SeqG.fixStep (.inl ⟨rfl, fun _ => rfl⟩) ?_
              simp only [Act.put, List.setIfInBounds_toArray, List.set_cons_zero, List.set_cons_succ]
              refine SeqG.done fun wv hbv hpv => ?_
              refine NoPan.normal ?_
              clear hpv
              have hb9 : Below p w wv := hb0.trans ((hb1.trans (hbv.mono zr)).mono (by have := hb0.size; have := kx0.lt; omega))
              go_wp2
              go_ret
              exact ⟨by rw [Hv.out, HE.out]; rfl, by rw [Hp.out]; exact hb9⟩
          · skip
            have b1 : (x.2.1 == y.2.1) = true := by simpa using h1
            have b2 : (x.2.2.2.1 == y.2.2.2.1) = false := by simpa using h2
            have b3 : (x.2.2.1 == y.2.2.1) = false := by simpa using h3
            have HE := Lib.hid (show endsB x y = false by simp [endsB, h1, h2, h3])
            clear h1 h2 h3
            refine wp_region_grow [.val (.pointer (some ⟨p, 1, none⟩)), .val (.int .i64 (x.2.1)), .val (.pointer (some ⟨q, 1, none⟩)), .val (.int .i64 (y.2.1)), .val (.bool true), .fix (.bool true), .val (.pointer (some ⟨p, 3, none⟩)), .val (.int .i64 (x.2.2.2.1)), .val (.pointer (some ⟨q, 3, none⟩)), .val (.int .i64 (y.2.2.2.1)), .val (.bool false), .fix (.bool false), .fix (.bool false), .val (.pointer (some ⟨p, 2, none⟩)), .val (.int .i64 (x.2.2.1)), .val (.pointer (some ⟨q, 2, none⟩)), .val (.int .i64 (y.2.2.1)), .val (.bool false), .fix (.bool false), .fix undef, .fix undef, .fix undef, .fix undef, .fix undef, .fix (.bool false), .fix (.bool false), .fix (.bool false)] mixed (by kernel_rfl) ?_
            refine SeqG.valStep (fun wv hbv hpv => ?_) ?_
            · skip
              go_wp2_with fail
              exact post_val (Below.refl _ _)
            simp only [Act.put, List.setIfInBounds_toArray, List.set_cons_zero, List.set_cons_succ]
            refine SeqG.valStep (fun wv hbv hpv => ?_) ?_
            · have cx := (kx.below' hbv).cell
              go_wp2_with fail
              exact post_val (Below.refl _ _)
            simp only [Act.put, List.setIfInBounds_toArray, List.set_cons_zero, List.set_cons_succ]
            refine SeqG.valStep (fun wv hbv hpv => ?_) ?_
            · skip
              go_wp2_with fail
              exact post_val (Below.refl _ _)
            simp only [Act.put, List.setIfInBounds_toArray, List.set_cons_zero, List.set_cons_succ]
            refine SeqG.valStep (fun wv hbv hpv => ?_) ?_
            · have cy := (ky.below' hbv).cell
              go_wp2_with fail
              exact post_val (Below.refl _ _)
            simp only [Act.put, List.setIfInBounds_toArray, List.set_cons_zero, List.set_cons_succ]
            refine SeqG.valStep (fun wv hbv hpv => ?_) ?_
            · skip
              go_wp2_with fail
              exact post_val (Below.refl _ _)
            simp only [Act.put, List.setIfInBounds_toArray, List.set_cons_zero, List.set_cons_succ]
            refine SeqG.fixStep (.inl ⟨rfl, fun _ => rfl⟩) ?_
            simp only [Act.put, List.setIfInBounds_toArray, List.set_cons_zero, List.set_cons_succ]
            refine SeqG.valStep (fun wv hbv hpv => ?_) ?_
            · skip
              go_wp2_with fail
              exact post_val (Below.refl _ _)
            simp only [Act.put, List.setIfInBounds_toArray, List.set_cons_zero, List.set_cons_succ]
            refine SeqG.valStep (fun wv hbv hpv => ?_) ?_
            · have cx := (kx.below' hbv).cell
              go_wp2_with fail
              exact post_val (Below.refl _ _)
            simp only [Act.put, List.setIfInBounds_toArray, List.set_cons_zero, List.set_cons_succ]
            refine SeqG.valStep (fun wv hbv hpv => ?_) ?_
            · skip
              go_wp2_with fail
              exact post_val (Below.refl _ _)
            simp only [Act.put, List.setIfInBounds_toArray, List.set_cons_zero, List.set_cons_succ]
            refine SeqG.valStep (fun wv hbv hpv => ?_) ?_
            · have cy := (ky.below' hbv).cell
              go_wp2_with fail
              exact post_val (Below.refl _ _)
            simp only [Act.put, List.setIfInBounds_toArray, List.set_cons_zero, List.set_cons_succ]
            refine SeqG.valStep (fun wv hbv hpv => ?_) ?_
            · skip
              go_wp2_with fail
              exact post_val (Below.refl _ _)
            simp only [Act.put, List.setIfInBounds_toArray, List.set_cons_zero, List.set_cons_succ]
            refine SeqG.fixStep (.inl ⟨rfl, fun _ => rfl⟩) ?_
            simp only [Act.put, List.setIfInBounds_toArray, List.set_cons_zero, List.set_cons_succ]
            refine SeqG.fixStep (.inl ⟨rfl, fun _ => rfl⟩) ?_
            simp only [Act.put, List.setIfInBounds_toArray, List.set_cons_zero, List.set_cons_succ]
            refine SeqG.valStep (fun wv hbv hpv => ?_) ?_
            · skip
              go_wp2_with fail
              exact post_val (Below.refl _ _)
            simp only [Act.put, List.setIfInBounds_toArray, List.set_cons_zero, List.set_cons_succ]
            refine SeqG.valStep (fun wv hbv hpv => ?_) ?_
            · have cx := (kx.below' hbv).cell
              go_wp2_with fail
              exact post_val (Below.refl _ _)
            simp only [Act.put, List.setIfInBounds_toArray, List.set_cons_zero, List.set_cons_succ]
            refine SeqG.valStep (fun wv hbv hpv => ?_) ?_
            · skip
              go_wp2_with fail
              exact post_val (Below.refl _ _)
            simp only [Act.put, List.setIfInBounds_toArray, List.set_cons_zero, List.set_cons_succ]
            refine SeqG.valStep (fun wv hbv hpv => ?_) ?_
            · have cy := (ky.below' hbv).cell
              go_wp2_with fail
              exact post_val (Below.refl _ _)
            simp only [Act.put, List.setIfInBounds_toArray, List.set_cons_zero, List.set_cons_succ]
            refine SeqG.valStep (fun wv hbv hpv => ?_) ?_
            · skip
              go_wp2_with fail
              exact post_val (Below.refl _ _)
            simp only [Act.put, List.setIfInBounds_toArray, List.set_cons_zero, List.set_cons_succ]
            refine SeqG.fixStep (.inl ⟨rfl, fun _ => rfl⟩) ?_
            simp only [Act.put, List.setIfInBounds_toArray, List.set_cons_zero, List.set_cons_succ]
            refine SeqG.fixStep (.inr ⟨rfl, rfl⟩) ?_
            simp only [Act.put, List.setIfInBounds_toArray, List.set_cons_zero, List.set_cons_succ]
            refine SeqG.fixStep (.inr ⟨rfl, rfl⟩) ?_
            simp only [Act.put, List.setIfInBounds_toArray, List.set_cons_zero, List.set_cons_succ]
            refine SeqG.fixStep (.inr ⟨rfl, rfl⟩) ?_
            simp only [Act.put, List.setIfInBounds_toArray, List.set_cons_zero, List.set_cons_succ]
            refine SeqG.fixStep (.inr ⟨rfl, rfl⟩) ?_
            simp only [Act.put, List.setIfInBounds_toArray, List.set_cons_zero, List.set_cons_succ]
            refine SeqG.fixStep (.inr ⟨rfl, rfl⟩) ?_
            simp only [Act.put, List.setIfInBounds_toArray, List.set_cons_zero, List.set_cons_succ]
            refine SeqG.fixStep (.inl ⟨rfl, fun _ => rfl⟩) ?_
            simp only [Act.put, List.setIfInBounds_toArray, List.set_cons_zero, List.set_cons_succ]
            refine SeqG.fixStep (.inl ⟨rfl, fun _ => rfl⟩) ?_
            simp only [Act.put, List.setIfInBounds_toArray, List.set_cons_zero, List.set_cons_succ]
            refine SeqG.fixStep (.inl ⟨rfl, fun _ => rfl⟩) ?_
            simp only [Act.put, List.setIfInBounds_toArray, List.set_cons_zero, List.set_cons_succ]
            refine SeqG.done fun wv hbv hpv => ?_
            refine NoPan.normal ?_
            clear hpv
            have hb9 : Below p w wv := hb0.trans ((hb1.trans (hbv.mono zr)).mono (by have := hb0.size; have := kx0.lt; omega))
            go_wp2
            go_ret
            exact ⟨by rw [Hv.out, HE.out]; rfl, by rw [Hp.out]; exact hb9⟩
      · skip
        by_cases h3 : x.2.2.1 = y.2.2.1
        · skip
          by_cases h4 : arrT x = arrT y
          · skip
            have b1 : (x.2.1 == y.2.1) = false := by simpa using h1
            have b3 : (x.2.2.1 == y.2.2.1) = true := by simpa using h3
            have b4 : (arrT x == arrT y) = true := by simpa using h4
            have HE := Lib.hid (show endsB x y = true by simp [endsB, h1, h3, h4])
            clear h1 h3 h4
            refine wp_region_grow [.val (.pointer (some ⟨p, 1, none⟩)), .val (.int .i64 (x.2.1)), .val (.pointer (some ⟨q, 1, none⟩)), .val (.int .i64 (y.2.1)), .val (.bool false), .fix (.bool false), .fix undef, .fix undef, .fix undef, .fix undef, .fix undef, .fix (.bool false), .fix (.bool false), .val (.pointer (some ⟨p, 2, none⟩)), .val (.int .i64 (x.2.2.1)), .val (.pointer (some ⟨q, 2, none⟩)), .val (.int .i64 (y.2.2.1)), .val (.bool true), .fix (.bool true), .val (.agg #[.int .i64 x.1, .int .i64 x.2.1, .int .i64 x.2.2.1, .int .i64 x.2.2.2.1, .int .i64 x.2.2.2.2]), .val (.int .i64 (arrT x)), .val (.agg #[.int .i64 y.1, .int .i64 y.2.1, .int .i64 y.2.2.1, .int .i64 y.2.2.2.1, .int .i64 y.2.2.2.2]), .val (.int .i64 (arrT y)), .val (.bool true), .fix (.bool true), .fix (.bool true), .fix (.bool true)] mixed (by kernel_rfl) ?_
            refine SeqG.valStep (fun wv hbv hpv => ?_) ?_
            · skip
              go_wp2_with fail
              exact post_val (Below.refl _ _)
            simp only [Act.put, List.setIfInBounds_toArray, List.set_cons_zero, List.set_cons_succ]
            refine SeqG.valStep (fun wv hbv hpv => ?_) ?_
            · have cx := (kx.below' hbv).cell
              go_wp2_with fail
              exact post_val (Below.refl _ _)
            simp only [Act.put, List.setIfInBounds_toArray, List.set_cons_zero, List.set_cons_succ]
            refine SeqG.valStep (fun wv hbv hpv => ?_) ?_
            · skip
              go_wp2_with fail
              exact post_val (Below.refl _ _)
            simp only [Act.put, List.setIfInBounds_toArray, List.set_cons_zero, List.set_cons_succ]
            refine SeqG.valStep (fun wv hbv hpv => ?_) ?_
            · have cy := (ky.below' hbv).cell
              go_wp2_with fail
              exact post_val (Below.refl _ _)
            simp only [Act.put, List.setIfInBounds_toArray, List.set_cons_zero, List.set_cons_succ]
            refine SeqG.valStep (fun wv hbv hpv => ?_) ?_
            · skip
              go_wp2_with fail
              exact post_val (Below.refl _ _)
            simp only [Act.put, List.setIfInBounds_toArray, List.set_cons_zero, List.set_cons_succ]
            refine SeqG.fixStep (.inl ⟨rfl, fun _ => rfl⟩) ?_
            simp only [Act.put, List.setIfInBounds_toArray, List.set_cons_zero, List.set_cons_succ]
            refine SeqG.fixStep (.inr ⟨rfl, rfl⟩) ?_
            simp only [Act.put, List.setIfInBounds_toArray, List.set_cons_zero, List.set_cons_succ]
            refine SeqG.fixStep (.inr ⟨rfl, rfl⟩) ?_
            simp only [Act.put, List.setIfInBounds_toArray, List.set_cons_zero, List.set_cons_succ]
            refine SeqG.fixStep (.inr ⟨rfl, rfl⟩) ?_
            simp only [Act.put, List.setIfInBounds_toArray, List.set_cons_zero, List.set_cons_succ]
            refine SeqG.fixStep (.inr ⟨rfl, rfl⟩) ?_
            simp only [Act.put, List.setIfInBounds_toArray, List.set_cons_zero, List.set_cons_succ]
            refine SeqG.fixStep (.inr ⟨rfl, rfl⟩) ?_
            simp only [Act.put, List.setIfInBounds_toArray, List.set_cons_zero, List.set_cons_succ]
            refine SeqG.fixStep (.inl ⟨rfl, fun _ => rfl⟩) ?_
            simp only [Act.put, List.setIfInBounds_toArray, List.set_cons_zero, List.set_cons_succ]
            refine SeqG.fixStep (.inl ⟨rfl, fun _ => rfl⟩) ?_
            simp only [Act.put, List.setIfInBounds_toArray, List.set_cons_zero, List.set_cons_succ]
            refine SeqG.valStep (fun wv hbv hpv => ?_) ?_
            · skip
              go_wp2_with fail
              exact post_val (Below.refl _ _)
            simp only [Act.put, List.setIfInBounds_toArray, List.set_cons_zero, List.set_cons_succ]
            refine SeqG.valStep (fun wv hbv hpv => ?_) ?_
            · have cx := (kx.below' hbv).cell
              go_wp2_with fail
              exact post_val (Below.refl _ _)
            simp only [Act.put, List.setIfInBounds_toArray, List.set_cons_zero, List.set_cons_succ]
            refine SeqG.valStep (fun wv hbv hpv => ?_) ?_
            · skip
              go_wp2_with fail
              exact post_val (Below.refl _ _)
            simp only [Act.put, List.setIfInBounds_toArray, List.set_cons_zero, List.set_cons_succ]
            refine SeqG.valStep (fun wv hbv hpv => ?_) ?_
            · have cy := (ky.below' hbv).cell
              go_wp2_with fail
              exact post_val (Below.refl _ _)
            simp only [Act.put, List.setIfInBounds_toArray, List.set_cons_zero, List.set_cons_succ]
            refine SeqG.valStep (fun wv hbv hpv => ?_) ?_
            · skip
              go_wp2_with fail
              exact post_val (Below.refl _ _)
            simp only [Act.put, List.setIfInBounds_toArray, List.set_cons_zero, List.set_cons_succ]
            refine SeqG.fixStep (.inl ⟨rfl, fun _ => rfl⟩) ?_
            simp only [Act.put, List.setIfInBounds_toArray, List.set_cons_zero, List.set_cons_succ]
            refine SeqG.valStep (fun wv hbv hpv => ?_) ?_
            · have cx := (kx.below' hbv).cell
              go_wp2_with fail
              exact post_val (Below.refl _ _)
            simp only [Act.put, List.setIfInBounds_toArray, List.set_cons_zero, List.set_cons_succ]
            refine SeqG.valStep (fun wv hbv hpv => ?_) ?_
            · go_wp2_with fail
              refine (l11ArrivesT_any x _ hx).mono ?_; rintro e w' ⟨he, hb⟩; subst he
              go_wp2_with fail
              exact post_val hb
            simp only [Act.put, List.setIfInBounds_toArray, List.set_cons_zero, List.set_cons_succ]
            refine SeqG.valStep (fun wv hbv hpv => ?_) ?_
            · have cy := (ky.below' hbv).cell
              go_wp2_with fail
              exact post_val (Below.refl _ _)
            simp only [Act.put, List.setIfInBounds_toArray, List.set_cons_zero, List.set_cons_succ]
            refine SeqG.valStep (fun wv hbv hpv => ?_) ?_
            · go_wp2_with fail
              refine (l11ArrivesT_any y _ hy).mono ?_; rintro e w' ⟨he, hb⟩; subst he
              go_wp2_with fail
              exact post_val hb
            simp only [Act.put, List.setIfInBounds_toArray, List.set_cons_zero, List.set_cons_succ]
            refine SeqG.valStep (fun wv hbv hpv => ?_) ?_
            · skip
              go_wp2_with fail
              exact post_val (Below.refl _ _)
            simp only [Act.put, List.setIfInBounds_toArray, List.set_cons_zero, List.set_cons_succ]
            refine SeqG.fixStep (.inl ⟨rfl, fun _ => rfl⟩) ?_
            simp only [Act.put, List.setIfInBounds_toArray, List.set_cons_zero, List.set_cons_succ]
            refine SeqG.fixStep (.inl ⟨rfl, fun _ => rfl⟩) ?_
            simp only [Act.put, List.setIfInBounds_toArray, List.set_cons_zero, List.set_cons_succ]
            refine SeqG.fixStep (.inl ⟨rfl, fun _ => rfl⟩) ?_
            simp only [Act.put, List.setIfInBounds_toArray, List.set_cons_zero, List.set_cons_succ]
            refine SeqG.done fun wv hbv hpv => ?_
            refine NoPan.normal ?_
            clear hpv
            have hb9 : Below p w wv := hb0.trans ((hb1.trans (hbv.mono zr)).mono (by have := hb0.size; have := kx0.lt; omega))
            go_wp2
            go_ret
            exact ⟨by rw [Hv.out, HE.out]; rfl, by rw [Hp.out]; exact hb9⟩
          · skip
            have b1 : (x.2.1 == y.2.1) = false := by simpa using h1
            have b3 : (x.2.2.1 == y.2.2.1) = true := by simpa using h3
            have b4 : (arrT x == arrT y) = false := by simpa using h4
            have HE := Lib.hid (show endsB x y = false by simp [endsB, h1, h3, h4])
            clear h1 h3 h4
            refine wp_region_grow [.val (.pointer (some ⟨p, 1, none⟩)), .val (.int .i64 (x.2.1)), .val (.pointer (some ⟨q, 1, none⟩)), .val (.int .i64 (y.2.1)), .val (.bool false), .fix (.bool false), .fix undef, .fix undef, .fix undef, .fix undef, .fix undef, .fix (.bool false), .fix (.bool false), .val (.pointer (some ⟨p, 2, none⟩)), .val (.int .i64 (x.2.2.1)), .val (.pointer (some ⟨q, 2, none⟩)), .val (.int .i64 (y.2.2.1)), .val (.bool true), .fix (.bool true), .val (.agg #[.int .i64 x.1, .int .i64 x.2.1, .int .i64 x.2.2.1, .int .i64 x.2.2.2.1, .int .i64 x.2.2.2.2]), .val (.int .i64 (arrT x)), .val (.agg #[.int .i64 y.1, .int .i64 y.2.1, .int .i64 y.2.2.1, .int .i64 y.2.2.2.1, .int .i64 y.2.2.2.2]), .val (.int .i64 (arrT y)), .val (.bool false), .fix (.bool false), .fix (.bool false), .fix (.bool false)] mixed (by kernel_rfl) ?_
            refine SeqG.valStep (fun wv hbv hpv => ?_) ?_
            · skip
              go_wp2_with fail
              exact post_val (Below.refl _ _)
            simp only [Act.put, List.setIfInBounds_toArray, List.set_cons_zero, List.set_cons_succ]
            refine SeqG.valStep (fun wv hbv hpv => ?_) ?_
            · have cx := (kx.below' hbv).cell
              go_wp2_with fail
              exact post_val (Below.refl _ _)
            simp only [Act.put, List.setIfInBounds_toArray, List.set_cons_zero, List.set_cons_succ]
            refine SeqG.valStep (fun wv hbv hpv => ?_) ?_
            · skip
              go_wp2_with fail
              exact post_val (Below.refl _ _)
            simp only [Act.put, List.setIfInBounds_toArray, List.set_cons_zero, List.set_cons_succ]
            refine SeqG.valStep (fun wv hbv hpv => ?_) ?_
            · have cy := (ky.below' hbv).cell
              go_wp2_with fail
              exact post_val (Below.refl _ _)
            simp only [Act.put, List.setIfInBounds_toArray, List.set_cons_zero, List.set_cons_succ]
            refine SeqG.valStep (fun wv hbv hpv => ?_) ?_
            · skip
              go_wp2_with fail
              exact post_val (Below.refl _ _)
            simp only [Act.put, List.setIfInBounds_toArray, List.set_cons_zero, List.set_cons_succ]
            refine SeqG.fixStep (.inl ⟨rfl, fun _ => rfl⟩) ?_
            simp only [Act.put, List.setIfInBounds_toArray, List.set_cons_zero, List.set_cons_succ]
            refine SeqG.fixStep (.inr ⟨rfl, rfl⟩) ?_
            simp only [Act.put, List.setIfInBounds_toArray, List.set_cons_zero, List.set_cons_succ]
            refine SeqG.fixStep (.inr ⟨rfl, rfl⟩) ?_
            simp only [Act.put, List.setIfInBounds_toArray, List.set_cons_zero, List.set_cons_succ]
            refine SeqG.fixStep (.inr ⟨rfl, rfl⟩) ?_
            simp only [Act.put, List.setIfInBounds_toArray, List.set_cons_zero, List.set_cons_succ]
            refine SeqG.fixStep (.inr ⟨rfl, rfl⟩) ?_
            simp only [Act.put, List.setIfInBounds_toArray, List.set_cons_zero, List.set_cons_succ]
            refine SeqG.fixStep (.inr ⟨rfl, rfl⟩) ?_
            simp only [Act.put, List.setIfInBounds_toArray, List.set_cons_zero, List.set_cons_succ]
            refine SeqG.fixStep (.inl ⟨rfl, fun _ => rfl⟩) ?_
            simp only [Act.put, List.setIfInBounds_toArray, List.set_cons_zero, List.set_cons_succ]
            refine SeqG.fixStep (.inl ⟨rfl, fun _ => rfl⟩) ?_
            simp only [Act.put, List.setIfInBounds_toArray, List.set_cons_zero, List.set_cons_succ]
            refine SeqG.valStep (fun wv hbv hpv => ?_) ?_
            · skip
              go_wp2_with fail
              exact post_val (Below.refl _ _)
            simp only [Act.put, List.setIfInBounds_toArray, List.set_cons_zero, List.set_cons_succ]
            refine SeqG.valStep (fun wv hbv hpv => ?_) ?_
            · have cx := (kx.below' hbv).cell
              go_wp2_with fail
              exact post_val (Below.refl _ _)
            simp only [Act.put, List.setIfInBounds_toArray, List.set_cons_zero, List.set_cons_succ]
            refine SeqG.valStep (fun wv hbv hpv => ?_) ?_
            · skip
              go_wp2_with fail
              exact post_val (Below.refl _ _)
            simp only [Act.put, List.setIfInBounds_toArray, List.set_cons_zero, List.set_cons_succ]
            refine SeqG.valStep (fun wv hbv hpv => ?_) ?_
            · have cy := (ky.below' hbv).cell
              go_wp2_with fail
              exact post_val (Below.refl _ _)
            simp only [Act.put, List.setIfInBounds_toArray, List.set_cons_zero, List.set_cons_succ]
            refine SeqG.valStep (fun wv hbv hpv => ?_) ?_
            · skip
              go_wp2_with fail
              exact post_val (Below.refl _ _)
            simp only [Act.put, List.setIfInBounds_toArray, List.set_cons_zero, List.set_cons_succ]
            refine SeqG.fixStep (.inl ⟨rfl, fun _ => rfl⟩) ?_
            simp only [Act.put, List.setIfInBounds_toArray, List.set_cons_zero, List.set_cons_succ]
            refine SeqG.valStep (fun wv hbv hpv => ?_) ?_
            · have cx := (kx.below' hbv).cell
              go_wp2_with fail
              exact post_val (Below.refl _ _)
            simp only [Act.put, List.setIfInBounds_toArray, List.set_cons_zero, List.set_cons_succ]
            refine SeqG.valStep (fun wv hbv hpv => ?_) ?_
            · go_wp2_with fail
              refine (l11ArrivesT_any x _ hx).mono ?_; rintro e w' ⟨he, hb⟩; subst he
              go_wp2_with fail
              exact post_val hb
            simp only [Act.put, List.setIfInBounds_toArray, List.set_cons_zero, List.set_cons_succ]
            refine SeqG.valStep (fun wv hbv hpv => ?_) ?_
            · have cy := (ky.below' hbv).cell
              go_wp2_with fail
              exact post_val (Below.refl _ _)
            simp only [Act.put, List.setIfInBounds_toArray, List.set_cons_zero, List.set_cons_succ]
            refine SeqG.valStep (fun wv hbv hpv => ?_) ?_
            · go_wp2_with fail
              refine (l11ArrivesT_any y _ hy).mono ?_; rintro e w' ⟨he, hb⟩; subst he
              go_wp2_with fail
              exact post_val hb
            simp only [Act.put, List.setIfInBounds_toArray, List.set_cons_zero, List.set_cons_succ]
            refine SeqG.valStep (fun wv hbv hpv => ?_) ?_
            · skip
              go_wp2_with fail
              exact post_val (Below.refl _ _)
            simp only [Act.put, List.setIfInBounds_toArray, List.set_cons_zero, List.set_cons_succ]
            refine SeqG.fixStep (.inl ⟨rfl, fun _ => rfl⟩) ?_
            simp only [Act.put, List.setIfInBounds_toArray, List.set_cons_zero, List.set_cons_succ]
            refine SeqG.fixStep (.inl ⟨rfl, fun _ => rfl⟩) ?_
            simp only [Act.put, List.setIfInBounds_toArray, List.set_cons_zero, List.set_cons_succ]
            refine SeqG.fixStep (.inl ⟨rfl, fun _ => rfl⟩) ?_
            simp only [Act.put, List.setIfInBounds_toArray, List.set_cons_zero, List.set_cons_succ]
            refine SeqG.done fun wv hbv hpv => ?_
            refine NoPan.normal ?_
            clear hpv
            have hb9 : Below p w wv := hb0.trans ((hb1.trans (hbv.mono zr)).mono (by have := hb0.size; have := kx0.lt; omega))
            go_wp2
            go_ret
            exact ⟨by rw [Hv.out, HE.out]; rfl, by rw [Hp.out]; exact hb9⟩
        · skip
          have b1 : (x.2.1 == y.2.1) = false := by simpa using h1
          have b3 : (x.2.2.1 == y.2.2.1) = false := by simpa using h3
          have HE := Lib.hid (show endsB x y = false by simp [endsB, h1, h3])
          clear h1 h3
          refine wp_region_grow [.val (.pointer (some ⟨p, 1, none⟩)), .val (.int .i64 (x.2.1)), .val (.pointer (some ⟨q, 1, none⟩)), .val (.int .i64 (y.2.1)), .val (.bool false), .fix (.bool false), .fix undef, .fix undef, .fix undef, .fix undef, .fix undef, .fix (.bool false), .fix (.bool false), .val (.pointer (some ⟨p, 2, none⟩)), .val (.int .i64 (x.2.2.1)), .val (.pointer (some ⟨q, 2, none⟩)), .val (.int .i64 (y.2.2.1)), .val (.bool false), .fix (.bool false), .fix undef, .fix undef, .fix undef, .fix undef, .fix undef, .fix (.bool false), .fix (.bool false), .fix (.bool false)] mixed (by kernel_rfl) ?_
          refine SeqG.valStep (fun wv hbv hpv => ?_) ?_
          · skip
            go_wp2_with fail
            exact post_val (Below.refl _ _)
          simp only [Act.put, List.setIfInBounds_toArray, List.set_cons_zero, List.set_cons_succ]
          refine SeqG.valStep (fun wv hbv hpv => ?_) ?_
          · have cx := (kx.below' hbv).cell
            go_wp2_with fail
            exact post_val (Below.refl _ _)
          simp only [Act.put, List.setIfInBounds_toArray, List.set_cons_zero, List.set_cons_succ]
          refine SeqG.valStep (fun wv hbv hpv => ?_) ?_
          · skip
            go_wp2_with fail
            exact post_val (Below.refl _ _)
          simp only [Act.put, List.setIfInBounds_toArray, List.set_cons_zero, List.set_cons_succ]
          refine SeqG.valStep (fun wv hbv hpv => ?_) ?_
          · have cy := (ky.below' hbv).cell
            go_wp2_with fail
            exact post_val (Below.refl _ _)
          simp only [Act.put, List.setIfInBounds_toArray, List.set_cons_zero, List.set_cons_succ]
          refine SeqG.valStep (fun wv hbv hpv => ?_) ?_
          · skip
            go_wp2_with fail
            exact post_val (Below.refl _ _)
          simp only [Act.put, List.setIfInBounds_toArray, List.set_cons_zero, List.set_cons_succ]
          refine SeqG.fixStep (.inl ⟨rfl, fun _ => rfl⟩) ?_
          simp only [Act.put, List.setIfInBounds_toArray, List.set_cons_zero, List.set_cons_succ]
          refine SeqG.fixStep (.inr ⟨rfl, rfl⟩) ?_
          simp only [Act.put, List.setIfInBounds_toArray, List.set_cons_zero, List.set_cons_succ]
          refine SeqG.fixStep (.inr ⟨rfl, rfl⟩) ?_
          simp only [Act.put, List.setIfInBounds_toArray, List.set_cons_zero, List.set_cons_succ]
          refine SeqG.fixStep (.inr ⟨rfl, rfl⟩) ?_
          simp only [Act.put, List.setIfInBounds_toArray, List.set_cons_zero, List.set_cons_succ]
          refine SeqG.fixStep (.inr ⟨rfl, rfl⟩) ?_
          simp only [Act.put, List.setIfInBounds_toArray, List.set_cons_zero, List.set_cons_succ]
          refine SeqG.fixStep (.inr ⟨rfl, rfl⟩) ?_
          simp only [Act.put, List.setIfInBounds_toArray, List.set_cons_zero, List.set_cons_succ]
          refine SeqG.fixStep (.inl ⟨rfl, fun _ => rfl⟩) ?_
          simp only [Act.put, List.setIfInBounds_toArray, List.set_cons_zero, List.set_cons_succ]
          refine SeqG.fixStep (.inl ⟨rfl, fun _ => rfl⟩) ?_
          simp only [Act.put, List.setIfInBounds_toArray, List.set_cons_zero, List.set_cons_succ]
          refine SeqG.valStep (fun wv hbv hpv => ?_) ?_
          · skip
            go_wp2_with fail
            exact post_val (Below.refl _ _)
          simp only [Act.put, List.setIfInBounds_toArray, List.set_cons_zero, List.set_cons_succ]
          refine SeqG.valStep (fun wv hbv hpv => ?_) ?_
          · have cx := (kx.below' hbv).cell
            go_wp2_with fail
            exact post_val (Below.refl _ _)
          simp only [Act.put, List.setIfInBounds_toArray, List.set_cons_zero, List.set_cons_succ]
          refine SeqG.valStep (fun wv hbv hpv => ?_) ?_
          · skip
            go_wp2_with fail
            exact post_val (Below.refl _ _)
          simp only [Act.put, List.setIfInBounds_toArray, List.set_cons_zero, List.set_cons_succ]
          refine SeqG.valStep (fun wv hbv hpv => ?_) ?_
          · have cy := (ky.below' hbv).cell
            go_wp2_with fail
            exact post_val (Below.refl _ _)
          simp only [Act.put, List.setIfInBounds_toArray, List.set_cons_zero, List.set_cons_succ]
          refine SeqG.valStep (fun wv hbv hpv => ?_) ?_
          · skip
            go_wp2_with fail
            exact post_val (Below.refl _ _)
          simp only [Act.put, List.setIfInBounds_toArray, List.set_cons_zero, List.set_cons_succ]
          refine SeqG.fixStep (.inl ⟨rfl, fun _ => rfl⟩) ?_
          simp only [Act.put, List.setIfInBounds_toArray, List.set_cons_zero, List.set_cons_succ]
          refine SeqG.fixStep (.inr ⟨rfl, rfl⟩) ?_
          simp only [Act.put, List.setIfInBounds_toArray, List.set_cons_zero, List.set_cons_succ]
          refine SeqG.fixStep (.inr ⟨rfl, rfl⟩) ?_
          simp only [Act.put, List.setIfInBounds_toArray, List.set_cons_zero, List.set_cons_succ]
          refine SeqG.fixStep (.inr ⟨rfl, rfl⟩) ?_
          simp only [Act.put, List.setIfInBounds_toArray, List.set_cons_zero, List.set_cons_succ]
          refine SeqG.fixStep (.inr ⟨rfl, rfl⟩) ?_
          simp only [Act.put, List.setIfInBounds_toArray, List.set_cons_zero, List.set_cons_succ]
          refine SeqG.fixStep (.inr ⟨rfl, rfl⟩) ?_
          simp only [Act.put, List.setIfInBounds_toArray, List.set_cons_zero, List.set_cons_succ]
          refine SeqG.fixStep (.inl ⟨rfl, fun _ => rfl⟩) ?_
          simp only [Act.put, List.setIfInBounds_toArray, List.set_cons_zero, List.set_cons_succ]
          refine SeqG.fixStep (.inl ⟨rfl, fun _ => rfl⟩) ?_
          simp only [Act.put, List.setIfInBounds_toArray, List.set_cons_zero, List.set_cons_succ]
          refine SeqG.fixStep (.inl ⟨rfl, fun _ => rfl⟩) ?_
          simp only [Act.put, List.setIfInBounds_toArray, List.set_cons_zero, List.set_cons_succ]
          refine SeqG.done fun wv hbv hpv => ?_
          refine NoPan.normal ?_
          clear hpv
          have hb9 : Below p w wv := hb0.trans ((hb1.trans (hbv.mono zr)).mono (by have := hb0.size; have := kx0.lt; omega))
          go_wp2
          go_ret
          exact ⟨by rw [Hv.out, HE.out]; rfl, by rw [Hp.out]; exact hb9⟩
end Go.Proofs.Ytfcmfadkkfkidaa
