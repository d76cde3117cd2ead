/-
  doMeet: the program.
-/
import Derived.Test.YtfcmfadkkfkidaaMeet0
import Derived.Test.YtfcmfadkkfkidaaSec1
import Derived.Test.YtfcmfadkkfkidaaSecH
import Derived.Test.YtfcmfadkkfkidaaRegion
import Derived.WalkKit
import Derived.WalkSpells
import Derived.WalkLawsBesides
import Derived.Lib.Hide
import Derived.Deep.QuietTactic
import Derived.BigQuiet
import Derived.StillTailTactics
namespace Go.Proofs.Ytfcmfadkkfkidaa
open Go.RowKit

theorem arrivalT_any (x : T5) (w : World) (h : TrOk x) : Calls Try.prog 65 #[tripV x.1 x.2.1 x.2.2.1 x.2.2.2.1 x.2.2.2.2] w fun e w' => e = .returned (.int .i64 (arrT x)) ∧ Below w.heap.size w w' := arrival_any _ _ _ _ _ _ h.b h.c h.d

set_option maxRecDepth 20000 in
set_option maxHeartbeats 8000000 in
theorem doMeet_any (x y : T5) (w : World) (hx : TrOk x) (hy : TrOk y) :
    Calls Try.prog 80 #[tripV x.1 x.2.1 x.2.2.1 x.2.2.2.1 x.2.2.2.2, tripV y.1 y.2.1 y.2.2.1 y.2.2.2.1 y.2.2.2.2] w fun e w' => e = .returned (.bool (meetB x y)) ∧ Below w.heap.size w w' := by
  have kx := (Blk.new w 25 #[.int .i64 x.1, .int .i64 x.2.1, .int .i64 x.2.2.1, .int .i64 x.2.2.2.1, .int .i64 x.2.2.2.2]).alloc (.cells #[.int .i64 y.1, .int .i64 y.2.1, .int .i64 y.2.2.1, .int .i64 y.2.2.2.1, .int .i64 y.2.2.2.2] 25)
  have ky := Blk.new1 w 25 #[.int .i64 y.1, .int .i64 y.2.1, .int .i64 y.2.2.1, .int .i64 y.2.2.2.1, .int .i64 y.2.2.2.2] (.cells #[.int .i64 x.1, .int .i64 x.2.1, .int .i64 x.2.2.1, .int .i64 x.2.2.2.1, .int .i64 x.2.2.2.2] 25)
  have hb0 : Below w.heap.size w ((w.alloc (.cells #[.int .i64 x.1, .int .i64 x.2.1, .int .i64 x.2.2.1, .int .i64 x.2.2.2.1, .int .i64 x.2.2.2.2] 25)).alloc (.cells #[.int .i64 y.1, .int .i64 y.2.1, .int .i64 y.2.2.1, .int .i64 y.2.2.2.1, .int .i64 y.2.2.2.2] 25)) := by (repeat (first | exact Below.refl _ _ | refine Below.drew ?_ | refine below_drewN ?_ _ | (refine Below.alloc ?_ (by (try simp) <;> omega) _) | (refine Below.setCell ?_ (by (try simp) <;> omega) _) | (refine Below.trans ?_ (Below.mono (by assumption) (by (try simp) <;> omega)))))
  go_enter Try.func80, Try.ntmps80
  go_upto_region 1 with fail
  generalize hp : w.heap.size = p at *
  generalize hq : p + 1 = q at *
  have Hp := Lib.hid hp
  clear hp hq
  generalize (w.alloc (.cells #[.int .i64 x.1, .int .i64 x.2.1, .int .i64 x.2.2.1, .int .i64 x.2.2.2.1, .int .i64 x.2.2.2.2] 25)).alloc (.cells #[.int .i64 y.1, .int .i64 y.2.1, .int .i64 y.2.2.1, .int .i64 y.2.2.2.1, .int .i64 y.2.2.2.2] 25) = W at *
  go_cut [34] (fun v wx => v = .bool (endsB x y) ∧ Below W.heap.size W wx)
  case first => as_aux_lemma =>
    by_cases h1 : x.2.1 = y.2.1
    · skip
      by_cases h2 : x.2.2.2.1 = y.2.2.2.1
      · skip
        have b1 : (x.2.1 == y.2.1) = true := by simpa using h1
        have b2 : (x.2.2.2.1 == y.2.2.2.1) = true := by simpa using h2
        have HE := Lib.hid (show endsB x y = true by simp [endsB, h1, h2])
        clear h1 h2
        refine wp_region_grow [.val (.pointer (some ⟨p, 1, none⟩)), .val (.int .i64 (x.2.1)), .val (.pointer (some ⟨q, 1, none⟩)), .val (.int .i64 (y.2.1)), .val (.bool true), .fix (.bool true), .val (.pointer (some ⟨p, 3, none⟩)), .val (.int .i64 (x.2.2.2.1)), .val (.pointer (some ⟨q, 3, none⟩)), .val (.int .i64 (y.2.2.2.1)), .val (.bool true), .fix (.bool true), .fix (.bool true), .fix undef, .fix undef, .fix undef, .fix undef, .fix undef, .fix undef, .fix undef, .fix undef, .fix undef, .fix undef, .fix undef, .fix undef, .fix (.bool true)] mixed (by kernel_rfl) ?_
        refine SeqG.valStep (fun wv hbv hpv => ?_) ?_
        · skip
          go_wp2_with fail
          exact post_val (Below.refl _ _)
        simp only [Act.put, List.setIfInBounds_toArray, List.set_cons_zero, List.set_cons_succ]
        refine SeqG.valStep (fun wv hbv hpv => ?_) ?_
        · have cx := (kx.below' hbv).cell
          go_wp2_with fail
          exact post_val (Below.refl _ _)
        simp only [Act.put, List.setIfInBounds_toArray, List.set_cons_zero, List.set_cons_succ]
        refine SeqG.valStep (fun wv hbv hpv => ?_) ?_
        · skip
          go_wp2_with fail
          exact post_val (Below.refl _ _)
        simp only [Act.put, List.setIfInBounds_toArray, List.set_cons_zero, List.set_cons_succ]
        refine SeqG.valStep (fun wv hbv hpv => ?_) ?_
        · have cy := (ky.below' hbv).cell
          go_wp2_with fail
          exact post_val (Below.refl _ _)
        simp only [Act.put, List.setIfInBounds_toArray, List.set_cons_zero, List.set_cons_succ]
        refine SeqG.valStep (fun wv hbv hpv => ?_) ?_
        · skip
          go_wp2_with fail
          exact post_val (Below.refl _ _)
        simp only [Act.put, List.setIfInBounds_toArray, List.set_cons_zero, List.set_cons_succ]
        refine SeqG.fixStep (.inl ⟨rfl, fun _ => rfl⟩) ?_
        simp only [Act.put, List.setIfInBounds_toArray, List.set_cons_zero, List.set_cons_succ]
        refine SeqG.valStep (fun wv hbv hpv => ?_) ?_
        · skip
          go_wp2_with fail
          exact post_val (Below.refl _ _)
        simp only [Act.put, List.setIfInBounds_toArray, List.set_cons_zero, List.set_cons_succ]
        refine SeqG.valStep (fun wv hbv hpv => ?_) ?_
        · have cx := (kx.below' hbv).cell
          go_wp2_with fail
          exact post_val (Below.refl _ _)
        simp only [Act.put, List.setIfInBounds_toArray, List.set_cons_zero, List.set_cons_succ]
        refine SeqG.valStep (fun wv hbv hpv => ?_) ?_
        · skip
          go_wp2_with fail
          exact post_val (Below.refl _ _)
        simp only [Act.put, List.setIfInBounds_toArray, List.set_cons_zero, List.set_cons_succ]
        refine SeqG.valStep (fun wv hbv hpv => ?_) ?_
        · have cy := (ky.below' hbv).cell
          go_wp2_with fail
          exact post_val (Below.refl _ _)
        simp only [Act.put, List.setIfInBounds_toArray, List.set_cons_zero, List.set_cons_succ]
        refine SeqG.valStep (fun wv hbv hpv => ?_) ?_
        · skip
          go_wp2_with fail
          exact post_val (Below.refl _ _)
        simp only [Act.put, List.setIfInBounds_toArray, List.set_cons_zero, List.set_cons_succ]
        refine SeqG.fixStep (.inl ⟨rfl, fun _ => rfl⟩) ?_
        simp only [Act.put, List.setIfInBounds_toArray, List.set_cons_zero, List.set_cons_succ]
        refine SeqG.fixStep (.inl ⟨rfl, fun _ => rfl⟩) ?_
        simp only [Act.put, List.setIfInBounds_toArray, List.set_cons_zero, List.set_cons_succ]
        refine SeqG.fixStep (.inr ⟨rfl, rfl⟩) ?_
        simp only [Act.put, List.setIfInBounds_toArray, List.set_cons_zero, List.set_cons_succ]
        refine SeqG.fixStep (.inr ⟨rfl, rfl⟩) ?_
        simp only [Act.put, List.setIfInBounds_toArray, List.set_cons_zero, List.set_cons_succ]
        refine SeqG.fixStep (.inr ⟨rfl, rfl⟩) ?_
        simp only [Act.put, List.setIfInBounds_toArray, List.set_cons_zero, List.set_cons_succ]
        refine SeqG.fixStep (.inr ⟨rfl, rfl⟩) ?_
        simp only [Act.put, List.setIfInBounds_toArray, List.set_cons_zero, List.set_cons_succ]
        refine SeqG.fixStep (.inr ⟨rfl, rfl⟩) ?_
        simp only [Act.put, List.setIfInBounds_toArray, List.set_cons_zero, List.set_cons_succ]
        refine SeqG.fixStep (.inr ⟨rfl, rfl⟩) ?_
        simp only [Act.put, List.setIfInBounds_toArray, List.set_cons_zero, List.set_cons_succ]
        refine SeqG.fixStep (.inr ⟨rfl, rfl⟩) ?_
        simp only [Act.put, List.setIfInBounds_toArray, List.set_cons_zero, List.set_cons_succ]
        refine SeqG.fixStep (.inr ⟨rfl, rfl⟩) ?_
        simp only [Act.put, List.setIfInBounds_toArray, List.set_cons_zero, List.set_cons_succ]
        refine SeqG.fixStep (.inr ⟨rfl, rfl⟩) ?_
        simp only [Act.put, List.setIfInBounds_toArray, List.set_cons_zero, List.set_cons_succ]
        refine SeqG.fixStep (.inr ⟨rfl, rfl⟩) ?_
        simp only [Act.put, List.setIfInBounds_toArray, List.set_cons_zero, List.set_cons_succ]
        refine SeqG.fixStep (.inr ⟨rfl, rfl⟩) ?_
        simp only [Act.put, List.setIfInBounds_toArray, List.set_cons_zero, List.set_cons_succ]
        refine SeqG.fixStep (.inr ⟨rfl, rfl⟩) ?_
        simp only [Act.put, List.setIfInBounds_toArray, List.set_cons_zero, List.set_cons_succ]
        refine SeqG.fixStep (.inl ⟨rfl, fun _ => rfl⟩) ?_
        simp only [Act.put, List.setIfInBounds_toArray, List.set_cons_zero, List.set_cons_succ]
        refine SeqG.done fun wv hbv hpv => ?_
        refine NoPan.normal ?_
        clear hpv
        go_wp2_with fail
        go_meet
        exact ⟨by rw [HE.out], hbv⟩
      · skip
        by_cases h3 : x.2.2.1 = y.2.2.1
        · skip
          by_cases h4 : arrT x = arrT y
          · skip
            have b1 : (x.2.1 == y.2.1) = true := by simpa using h1
            have b2 : (x.2.2.2.1 == y.2.2.2.1) = false := by simpa using h2
            have b3 : (x.2.2.1 == y.2.2.1) = true := by simpa using h3
            have b4 : (arrT x == arrT y) = true := by simpa using h4
            have HE := Lib.hid (show endsB x y = true by simp [endsB, h1, h2, h3, h4])
            clear h1 h2 h3 h4
            refine wp_region_grow [.val (.pointer (some ⟨p, 1, none⟩)), .val (.int .i64 (x.2.1)), .val (.pointer (some ⟨q, 1, none⟩)), .val (.int .i64 (y.2.1)), .val (.bool true), .fix (.bool true), .val (.pointer (some ⟨p, 3, none⟩)), .val (.int .i64 (x.2.2.2.1)), .val (.pointer (some ⟨q, 3, none⟩)), .val (.int .i64 (y.2.2.2.1)), .val (.bool false), .fix (.bool false), .fix (.bool false), .val (.pointer (some ⟨p, 2, none⟩)), .val (.int .i64 (x.2.2.1)), .val (.pointer (some ⟨q, 2, none⟩)), .val (.int .i64 (y.2.2.1)), .val (.bool true), .fix (.bool true), .val (.agg #[.int .i64 x.1, .int .i64 x.2.1, .int .i64 x.2.2.1, .int .i64 x.2.2.2.1, .int .i64 x.2.2.2.2]), .val (.int .i64 (arrT x)), .val (.agg #[.int .i64 y.1, .int .i64 y.2.1, .int .i64 y.2.2.1, .int .i64 y.2.2.2.1, .int .i64 y.2.2.2.2]), .val (.int .i64 (arrT y)), .val (.bool true), .fix (.bool true), .fix (.bool true)] mixed (by kernel_rfl) ?_
            refine SeqG.valStep (fun wv hbv hpv => ?_) ?_
            · skip
              go_wp2_with fail
              exact post_val (Below.refl _ _)
            simp only [Act.put, List.setIfInBounds_toArray, List.set_cons_zero, List.set_cons_succ]
            refine SeqG.valStep (fun wv hbv hpv => ?_) ?_
            · have cx := (kx.below' hbv).cell
              go_wp2_with fail
              exact post_val (Below.refl _ _)
            simp only [Act.put, List.setIfInBounds_toArray, List.set_cons_zero, List.set_cons_succ]
            refine SeqG.valStep (fun wv hbv hpv => ?_) ?_
            · skip
              go_wp2_with fail
              exact post_val (Below.refl _ _)
            simp only [Act.put, List.setIfInBounds_toArray, List.set_cons_zero, List.set_cons_succ]
            refine SeqG.valStep (fun wv hbv hpv => ?_) ?_
            · have cy := (ky.below' hbv).cell
              go_wp2_with fail
              exact post_val (Below.refl _ _)
            simp only [Act.put, List.setIfInBounds_toArray, List.set_cons_zero, List.set_cons_succ]
            refine SeqG.valStep (fun wv hbv hpv => ?_) ?_
            · skip
              go_wp2_with fail
              exact post_val (Below.refl _ _)
            simp only [Act.put, List.setIfInBounds_toArray, List.set_cons_zero, List.set_cons_succ]
            refine SeqG.fixStep (.inl ⟨rfl, fun _ => rfl⟩) ?_
            simp only [Act.put, List.setIfInBounds_toArray, List.set_cons_zero, List.set_cons_succ]
            refine SeqG.valStep (fun wv hbv hpv => ?_) ?_
            · skip
              go_wp2_with fail
              exact post_val (Below.refl _ _)
            simp only [Act.put, List.setIfInBounds_toArray, List.set_cons_zero, List.set_cons_succ]
            refine SeqG.valStep (fun wv hbv hpv => ?_) ?_
            · have cx := (kx.below' hbv).cell
              go_wp2_with fail
              exact post_val (Below.refl _ _)
            simp only [Act.put, List.setIfInBounds_toArray, List.set_cons_zero, List.set_cons_succ]
            refine SeqG.valStep (fun wv hbv hpv => ?_) ?_
            · skip
              go_wp2_with fail
              exact post_val (Below.refl _ _)
            simp only [Act.put, List.setIfInBounds_toArray, List.set_cons_zero, List.set_cons_succ]
            refine SeqG.valStep (fun wv hbv hpv => ?_) ?_
            · have cy := (ky.below' hbv).cell
              go_wp2_with fail
              exact post_val (Below.refl _ _)
            simp only [Act.put, List.setIfInBounds_toArray, List.set_cons_zero, List.set_cons_succ]
            refine SeqG.valStep (fun wv hbv hpv => ?_) ?_
            · skip
              go_wp2_with fail
              exact post_val (Below.refl _ _)
            simp only [Act.put, List.setIfInBounds_toArray, List.set_cons_zero, List.set_cons_succ]
            refine SeqG.fixStep (.inl ⟨rfl, fun _ => rfl⟩) ?_
            simp only [Act.put, List.setIfInBounds_toArray, List.set_cons_zero, List.set_cons_succ]
            refine SeqG.fixStep (.inl ⟨rfl, fun _ => rfl⟩) ?_
            simp only [Act.put, List.setIfInBounds_toArray, List.set_cons_zero, List.set_cons_succ]
            refine SeqG.valStep (fun wv hbv hpv => ?_) ?_
            · skip
              go_wp2_with fail
              exact post_val (Below.refl _ _)
            simp only [Act.put, List.setIfInBounds_toArray, List.set_cons_zero, List.set_cons_succ]
            refine SeqG.valStep (fun wv hbv hpv => ?_) ?_
            · have cx := (kx.below' hbv).cell
              go_wp2_with fail
              exact post_val (Below.refl _ _)
            simp only [Act.put, List.setIfInBounds_toArray, List.set_cons_zero, List.set_cons_succ]
            refine SeqG.valStep (fun wv hbv hpv => ?_) ?_
            · skip
              go_wp2_with fail
              exact post_val (Below.refl _ _)
            simp only [Act.put, List.setIfInBounds_toArray, List.set_cons_zero, List.set_cons_succ]
            refine SeqG.valStep (fun wv hbv hpv => ?_) ?_
            · have cy := (ky.below' hbv).cell
              go_wp2_with fail
              exact post_val (Below.refl _ _)
            simp only [Act.put, List.setIfInBounds_toArray, List.set_cons_zero, List.set_cons_succ]
            refine SeqG.valStep (fun wv hbv hpv => ?_) ?_
            · skip
              go_wp2_with fail
              exact post_val (Below.refl _ _)
            simp only [Act.put, List.setIfInBounds_toArray, List.set_cons_zero, List.set_cons_succ]
            refine SeqG.fixStep (.inl ⟨rfl, fun _ => rfl⟩) ?_
            simp only [Act.put, List.setIfInBounds_toArray, List.set_cons_zero, List.set_cons_succ]
            refine SeqG.valStep (fun wv hbv hpv => ?_) ?_
            · have cx := (kx.below' hbv).cell
              go_wp2_with fail
              exact post_val (Below.refl _ _)
            simp only [Act.put, List.setIfInBounds_toArray, List.set_cons_zero, List.set_cons_succ]
            refine SeqG.valStep (fun wv hbv hpv => ?_) ?_
            · go_wp2_with fail
              refine (arrivalT_any x _ hx).mono ?_; rintro e w' ⟨he, hb⟩; subst he
              go_wp2_with fail
              exact post_val hb
            simp only [Act.put, List.setIfInBounds_toArray, List.set_cons_zero, List.set_cons_succ]
            refine SeqG.valStep (fun wv hbv hpv => ?_) ?_
            · have cy := (ky.below' hbv).cell
              go_wp2_with fail
              exact post_val (Below.refl _ _)
            simp only [Act.put, List.setIfInBounds_toArray, List.set_cons_zero, List.set_cons_succ]
            refine SeqG.valStep (fun wv hbv hpv => ?_) ?_
            · go_wp2_with fail
              refine (arrivalT_any y _ hy).mono ?_; rintro e w' ⟨he, hb⟩; subst he
              go_wp2_with fail
              exact post_val hb
            simp only [Act.put, List.setIfInBounds_toArray, List.set_cons_zero, List.set_cons_succ]
            refine SeqG.valStep (fun wv hbv hpv => ?_) ?_
            · skip
              go_wp2_with fail
              exact post_val (Below.refl _ _)
            simp only [Act.put, List.setIfInBounds_toArray, List.set_cons_zero, List.set_cons_succ]
            refine SeqG.fixStep (.inl ⟨rfl, fun _ => rfl⟩) ?_
            simp only [Act.put, List.setIfInBounds_toArray, List.set_cons_zero, List.set_cons_succ]
            refine SeqG.fixStep (.inl ⟨rfl, fun _ => rfl⟩) ?_
            simp only [Act.put, List.setIfInBounds_toArray, List.set_cons_zero, List.set_cons_succ]
            refine SeqG.done fun wv hbv hpv => ?_
            refine NoPan.normal ?_
            clear hpv
            go_wp2_with fail
            go_meet
            exact ⟨by rw [HE.out], hbv⟩
          · skip
            have b1 : (x.2.1 == y.2.1) = true := by simpa using h1
            have b2 : (x.2.2.2.1 == y.2.2.2.1) = false := by simpa using h2
            have b3 : (x.2.2.1 == y.2.2.1) = true := by simpa using h3
            have b4 : (arrT x == arrT y) = false := by simpa using h4
            have HE := Lib.hid (show endsB x y = false by simp [endsB, h1, h2, h3, h4])
            clear h1 h2 h3 h4
            refine wp_region_grow [.val (.pointer (some ⟨p, 1, none⟩)), .val (.int .i64 (x.2.1)), .val (.pointer (some ⟨q, 1, none⟩)), .val (.int .i64 (y.2.1)), .val (.bool true), .fix (.bool true), .val (.pointer (some ⟨p, 3, none⟩)), .val (.int .i64 (x.2.2.2.1)), .val (.pointer (some ⟨q, 3, none⟩)), .val (.int .i64 (y.2.2.2.1)), .val (.bool false), .fix (.bool false), .fix (.bool false), .val (.pointer (some ⟨p, 2, none⟩)), .val (.int .i64 (x.2.2.1)), .val (.pointer (some ⟨q, 2, none⟩)), .val (.int .i64 (y.2.2.1)), .val (.bool true), .fix (.bool true), .val (.agg #[.int .i64 x.1, .int .i64 x.2.1, .int .i64 x.2.2.1, .int .i64 x.2.2.2.1, .int .i64 x.2.2.2.2]), .val (.int .i64 (arrT x)), .val (.agg #[.int .i64 y.1, .int .i64 y.2.1, .int .i64 y.2.2.1, .int .i64 y.2.2.2.1, .int .i64 y.2.2.2.2]), .val (.int .i64 (arrT y)), .val (.bool false), .fix (.bool false), .fix (.bool false)] mixed (by kernel_rfl) ?_
            refine SeqG.valStep (fun wv hbv hpv => ?_) ?_
            · skip
              go_wp2_with fail
              exact post_val (Below.refl _ _)
            simp only [Act.put, List.setIfInBounds_toArray, List.set_cons_zero, List.set_cons_succ]
            refine SeqG.valStep (fun wv hbv hpv => ?_) ?_
            · have cx := (kx.below' hbv).cell
              go_wp2_with fail
              exact post_val (Below.refl _ _)
            simp only [Act.put, List.setIfInBounds_toArray, List.set_cons_zero, List.set_cons_succ]
            refine SeqG.valStep (fun wv hbv hpv => ?_) ?_
            · skip
              go_wp2_with fail
              exact post_val (Below.refl _ _)
            simp only [Act.put, List.setIfInBounds_toArray, List.set_cons_zero, List.set_cons_succ]
            refine SeqG.valStep (fun wv hbv hpv => ?_) ?_
            · have cy := (ky.below' hbv).cell
              go_wp2_with fail
              exact post_val (Below.refl _ _)
            simp only [Act.put, List.setIfInBounds_toArray, List.set_cons_zero, List.set_cons_succ]
            refine SeqG.valStep (fun wv hbv hpv => ?_) ?_
            · skip
              go_wp2_with fail
              exact post_val (Below.refl _ _)
            simp only [Act.put, List.setIfInBounds_toArray, List.set_cons_zero, List.set_cons_succ]
            refine SeqG.fixStep (.inl ⟨rfl, fun _ => rfl⟩) ?_
            simp only [Act.put, List.setIfInBounds_toArray, List.set_cons_zero, List.set_cons_succ]
            refine SeqG.valStep (fun wv hbv hpv => ?_) ?_
            · skip
              go_wp2_with fail
              exact post_val (Below.refl _ _)
            simp only [Act.put, List.setIfInBounds_toArray, List.set_cons_zero, List.set_cons_succ]
            refine SeqG.valStep (fun wv hbv hpv => ?_) ?_
            · have cx := (kx.below' hbv).cell
              go_wp2_with fail
              exact post_val (Below.refl _ _)
            simp only [Act.put, List.setIfInBounds_toArray, List.set_cons_zero, List.set_cons_succ]
            refine SeqG.valStep (fun wv hbv hpv => ?_) ?_
            · skip
              go_wp2_with fail
              exact post_val (Below.refl _ _)
            simp only [Act.put, List.setIfInBounds_toArray, List.set_cons_zero, List.set_cons_succ]
            refine SeqG.valStep (fun wv hbv hpv => ?_) ?_
            · have cy := (ky.below' hbv).cell
              go_wp2_with fail
              exact post_val (Below.refl _ _)
            simp only [Act.put, List.setIfInBounds_toArray, List.set_cons_zero, List.set_cons_succ]
            refine SeqG.valStep (fun wv hbv hpv => ?_) ?_
            · skip
              go_wp2_with fail
              exact post_val (Below.refl _ _)
            simp only [Act.put, List.setIfInBounds_toArray, List.set_cons_zero, List.set_cons_succ]
            refine SeqG.fixStep (.inl ⟨rfl, fun _ => rfl⟩) ?_
            simp only [Act.put, List.setIfInBounds_toArray, List.set_cons_zero, List.set_cons_succ]
            refine SeqG.fixStep (.inl ⟨rfl, fun _ => rfl⟩) ?_
            simp only [Act.put, List.setIfInBounds_toArray, List.set_cons_zero, List.set_cons_succ]
            refine SeqG.valStep (fun wv hbv hpv => ?_) ?_
            · skip
              go_wp2_with fail
              exact post_val (Below.refl _ _)
            simp only [Act.put, List.setIfInBounds_toArray, List.set_cons_zero, List.set_cons_succ]
            refine SeqG.valStep (fun wv hbv hpv => ?_) ?_
            · have cx := (kx.below' hbv).cell
              go_wp2_with fail
              exact post_val (Below.refl _ _)
            simp only [Act.put, List.setIfInBounds_toArray, List.set_cons_zero, List.set_cons_succ]
            refine SeqG.valStep (fun wv hbv hpv => ?_) ?_
            · skip
              go_wp2_with fail
              exact post_val (Below.refl _ _)
            simp only [Act.put, List.setIfInBounds_toArray, List.set_cons_zero, List.set_cons_succ]
            refine SeqG.valStep (fun wv hbv hpv => ?_) ?_
            · have cy := (ky.below' hbv).cell
              go_wp2_with fail
              exact post_val (Below.refl _ _)
            simp only [Act.put, List.setIfInBounds_toArray, List.set_cons_zero, List.set_cons_succ]
            refine SeqG.valStep (fun wv hbv hpv => ?_) ?_
            · skip
              go_wp2_with fail
              exact post_val (Below.refl _ _)
            simp only [Act.put, List.setIfInBounds_toArray, List.set_cons_zero, List.set_cons_succ]
            refine SeqG.fixStep (.inl ⟨rfl, fun _ => rfl⟩) ?_
            simp only [Act.put, List.setIfInBounds_toArray, List.set_cons_zero, List.set_cons_succ]
            refine SeqG.valStep (fun wv hbv hpv => ?_) ?_
            · have cx := (kx.below' hbv).cell
              go_wp2_with fail
              exact post_val (Below.refl _ _)
            simp only [Act.put, List.setIfInBounds_toArray, List.set_cons_zero, List.set_cons_succ]
            refine SeqG.valStep (fun wv hbv hpv => ?_) ?_
            · go_wp2_with fail
              refine (arrivalT_any x _ hx).mono ?_; rintro e w' ⟨he, hb⟩; subst he
              go_wp2_with fail
              exact post_val hb
            simp only [Act.put, List.setIfInBounds_toArray, List.set_cons_zero, List.set_cons_succ]
            refine SeqG.valStep (fun wv hbv hpv => ?_) ?_
            · have cy := (ky.below' hbv).cell
              go_wp2_with fail
              exact post_val (Below.refl _ _)
            simp only [Act.put, List.setIfInBounds_toArray, List.set_cons_zero, List.set_cons_succ]
            refine SeqG.valStep (fun wv hbv hpv => ?_) ?_
            · go_wp2_with fail
              refine (arrivalT_any y _ hy).mono ?_; rintro e w' ⟨he, hb⟩; subst he
              go_wp2_with fail
              exact post_val hb
            simp only [Act.put, List.setIfInBounds_toArray, List.set_cons_zero, List.set_cons_succ]
            refine SeqG.valStep (fun wv hbv hpv => ?_) ?_
            · skip
              go_wp2_with fail
              exact post_val (Below.refl _ _)
            simp only [Act.put, List.setIfInBounds_toArray, List.set_cons_zero, List.set_cons_succ]
            refine SeqG.fixStep (.inl ⟨rfl, fun _ => rfl⟩) ?_
            simp only [Act.put, List.setIfInBounds_toArray, List.set_cons_zero, List.set_cons_succ]
            refine SeqG.fixStep (.inl ⟨rfl, fun _ => rfl⟩) ?_
            simp only [Act.put, List.setIfInBounds_toArray, List.set_cons_zero, List.set_cons_succ]
            refine SeqG.done fun wv hbv hpv => ?_
            refine NoPan.normal ?_
            clear hpv
            go_wp2_with fail
            go_meet
            exact ⟨by rw [HE.out], hbv⟩
        · skip
          have b1 : (x.2.1 == y.2.1) = true := by simpa using h1
          have b2 : (x.2.2.2.1 == y.2.2.2.1) = false := by simpa using h2
          have b3 : (x.2.2.1 == y.2.2.1) = false := by simpa using h3
          have HE := Lib.hid (show endsB x y = false by simp [endsB, h1, h2, h3])
          clear h1 h2 h3
          refine wp_region_grow [.val (.pointer (some ⟨p, 1, none⟩)), .val (.int .i64 (x.2.1)), .val (.pointer (some ⟨q, 1, none⟩)), .val (.int .i64 (y.2.1)), .val (.bool true), .fix (.bool true), .val (.pointer (some ⟨p, 3, none⟩)), .val (.int .i64 (x.2.2.2.1)), .val (.pointer (some ⟨q, 3, none⟩)), .val (.int .i64 (y.2.2.2.1)), .val (.bool false), .fix (.bool false), .fix (.bool false), .val (.pointer (some ⟨p, 2, none⟩)), .val (.int .i64 (x.2.2.1)), .val (.pointer (some ⟨q, 2, none⟩)), .val (.int .i64 (y.2.2.1)), .val (.bool false), .fix (.bool false), .fix undef, .fix undef, .fix undef, .fix undef, .fix undef, .fix (.bool false), .fix (.bool false)] mixed (by kernel_rfl) ?_
          refine SeqG.valStep (fun wv hbv hpv => ?_) ?_
          · skip
            go_wp2_with fail
            exact post_val (Below.refl _ _)
          simp only [Act.put, List.setIfInBounds_toArray, List.set_cons_zero, List.set_cons_succ]
          refine SeqG.valStep (fun wv hbv hpv => ?_) ?_
          · have cx := (kx.below' hbv).cell
            go_wp2_with fail
            exact post_val (Below.refl _ _)
          simp only [Act.put, List.setIfInBounds_toArray, List.set_cons_zero, List.set_cons_succ]
          refine SeqG.valStep (fun wv hbv hpv => ?_) ?_
          · skip
            go_wp2_with fail
            exact post_val (Below.refl _ _)
          simp only [Act.put, List.setIfInBounds_toArray, List.set_cons_zero, List.set_cons_succ]
          refine SeqG.valStep (fun wv hbv hpv => ?_) ?_
          · have cy := (ky.below' hbv).cell
            go_wp2_with fail
            exact post_val (Below.refl _ _)
          simp only [Act.put, List.setIfInBounds_toArray, List.set_cons_zero, List.set_cons_succ]
          refine SeqG.valStep (fun wv hbv hpv => ?_) ?_
          · skip
            go_wp2_with fail
            exact post_val (Below.refl _ _)
          simp only [Act.put, List.setIfInBounds_toArray, List.set_cons_zero, List.set_cons_succ]
          refine SeqG.fixStep (.inl ⟨rfl, fun _ => rfl⟩) ?_
          simp only [Act.put, List.setIfInBounds_toArray, List.set_cons_zero, List.set_cons_succ]
          refine SeqG.valStep (fun wv hbv hpv => ?_) ?_
          · skip
            go_wp2_with fail
            exact post_val (Below.refl _ _)
          simp only [Act.put, List.setIfInBounds_toArray, List.set_cons_zero, List.set_cons_succ]
          refine SeqG.valStep (fun wv hbv hpv => ?_) ?_
          · have cx := (kx.below' hbv).cell
            go_wp2_with fail
            exact post_val (Below.refl _ _)
          simp only [Act.put, List.setIfInBounds_toArray, List.set_cons_zero, List.set_cons_succ]
          refine SeqG.valStep (fun wv hbv hpv => ?_) ?_
          · skip
            go_wp2_with fail
            exact post_val (Below.refl _ _)
          simp only [Act.put, List.setIfInBounds_toArray, List.set_cons_zero, List.set_cons_succ]
          refine SeqG.valStep (fun wv hbv hpv => ?_) ?_
          · have cy := (ky.below' hbv).cell
            go_wp2_with fail
            exact post_val (Below.refl _ _)
          simp only [Act.put, List.setIfInBounds_toArray, List.set_cons_zero, List.set_cons_succ]
          refine SeqG.valStep (fun wv hbv hpv => ?_) ?_
          · skip
            go_wp2_with fail
            exact post_val (Below.refl _ _)
          simp only [Act.put, List.setIfInBounds_toArray, List.set_cons_zero, List.set_cons_succ]
          refine SeqG.fixStep (.inl ⟨rfl, fun _ => rfl⟩) ?_
          simp only [Act.put, List.setIfInBounds_toArray, List.set_cons_zero, List.set_cons_succ]
          refine SeqG.fixStep (.inl ⟨rfl, fun _ => rfl⟩) ?_
          simp only [Act.put, List.setIfInBounds_toArray, List.set_cons_zero, List.set_cons_succ]
          refine SeqG.valStep (fun wv hbv hpv => ?_) ?_
          · skip
            go_wp2_with fail
            exact post_val (Below.refl _ _)
          simp only [Act.put, List.setIfInBounds_toArray, List.set_cons_zero, List.set_cons_succ]
          refine SeqG.valStep (fun wv hbv hpv => ?_) ?_
          · have cx := (kx.below' hbv).cell
            go_wp2_with fail
            exact post_val (Below.refl _ _)
          simp only [Act.put, List.setIfInBounds_toArray, List.set_cons_zero, List.set_cons_succ]
          refine SeqG.valStep (fun wv hbv hpv => ?_) ?_
          · skip
            go_wp2_with fail
            exact post_val (Below.refl _ _)
          simp only [Act.put, List.setIfInBounds_toArray, List.set_cons_zero, List.set_cons_succ]
          refine SeqG.valStep (fun wv hbv hpv => ?_) ?_
          · have cy := (ky.below' hbv).cell
            go_wp2_with fail
            exact post_val (Below.refl _ _)
          simp only [Act.put, List.setIfInBounds_toArray, List.set_cons_zero, List.set_cons_succ]
          refine SeqG.valStep (fun wv hbv hpv => ?_) ?_
          · skip
            go_wp2_with fail
            exact post_val (Below.refl _ _)
          simp only [Act.put, List.setIfInBounds_toArray, List.set_cons_zero, List.set_cons_succ]
          refine SeqG.fixStep (.inl ⟨rfl, fun _ => rfl⟩) ?_
          simp only [Act.put, List.setIfInBounds_toArray, List.set_cons_zero, List.set_cons_succ]
          refine SeqG.fixStep (.inr ⟨rfl, rfl⟩) ?_
          simp only [Act.put, List.setIfInBounds_toArray, List.set_cons_zero, List.set_cons_succ]
          refine SeqG.fixStep (.inr ⟨rfl, rfl⟩) ?_
          simp only [Act.put, List.setIfInBounds_toArray, List.set_cons_zero, List.set_cons_succ]
          refine SeqG.fixStep (.inr ⟨rfl, rfl⟩) ?_
          simp only [Act.put, List.setIfInBounds_toArray, List.set_cons_zero, List.set_cons_succ]
          refine SeqG.fixStep (.inr ⟨rfl, rfl⟩) ?_
          simp only [Act.put, List.setIfInBounds_toArray, List.set_cons_zero, List.set_cons_succ]
          refine SeqG.fixStep (.inr ⟨rfl, rfl⟩) ?_
          simp only [Act.put, List.setIfInBounds_toArray, List.set_cons_zero, List.set_cons_succ]
          refine SeqG.fixStep (.inl ⟨rfl, fun _ => rfl⟩) ?_
          simp only [Act.put, List.setIfInBounds_toArray, List.set_cons_zero, List.set_cons_succ]
          refine SeqG.fixStep (.inl ⟨rfl, fun _ => rfl⟩) ?_
          simp only [Act.put, List.setIfInBounds_toArray, List.set_cons_zero, List.set_cons_succ]
          refine SeqG.done fun wv hbv hpv => ?_
          refine NoPan.normal ?_
          clear hpv
          go_wp2_with fail
          go_meet
          exact ⟨by rw [HE.out], hbv⟩
    · skip
      by_cases h3 : x.2.2.1 = y.2.2.1
      · skip
        by_cases h4 : arrT x = arrT y
        · skip
          have b1 : (x.2.1 == y.2.1) = false := by simpa using h1
          have b3 : (x.2.2.1 == y.2.2.1) = true := by simpa using h3
          have b4 : (arrT x == arrT y) = true := by simpa using h4
          have HE := Lib.hid (show endsB x y = true by simp [endsB, h1, h3, h4])
          clear h1 h3 h4
          refine wp_region_grow [.val (.pointer (some ⟨p, 1, none⟩)), .val (.int .i64 (x.2.1)), .val (.pointer (some ⟨q, 1, none⟩)), .val (.int .i64 (y.2.1)), .val (.bool false), .fix (.bool false), .fix undef, .fix undef, .fix undef, .fix undef, .fix undef, .fix (.bool false), .fix (.bool false), .val (.pointer (some ⟨p, 2, none⟩)), .val (.int .i64 (x.2.2.1)), .val (.pointer (some ⟨q, 2, none⟩)), .val (.int .i64 (y.2.2.1)), .val (.bool true), .fix (.bool true), .val (.agg #[.int .i64 x.1, .int .i64 x.2.1, .int .i64 x.2.2.1, .int .i64 x.2.2.2.1, .int .i64 x.2.2.2.2]), .val (.int .i64 (arrT x)), .val (.agg #[.int .i64 y.1, .int .i64 y.2.1, .int .i64 y.2.2.1, .int .i64 y.2.2.2.1, .int .i64 y.2.2.2.2]), .val (.int .i64 (arrT y)), .val (.bool true), .fix (.bool true), .fix (.bool true)] mixed (by kernel_rfl) ?_
          refine SeqG.valStep (fun wv hbv hpv => ?_) ?_
          · skip
            go_wp2_with fail
            exact post_val (Below.refl _ _)
          simp only [Act.put, List.setIfInBounds_toArray, List.set_cons_zero, List.set_cons_succ]
          refine SeqG.valStep (fun wv hbv hpv => ?_) ?_
          · have cx := (kx.below' hbv).cell
            go_wp2_with fail
            exact post_val (Below.refl _ _)
          simp only [Act.put, List.setIfInBounds_toArray, List.set_cons_zero, List.set_cons_succ]
          refine SeqG.valStep (fun wv hbv hpv => ?_) ?_
          · skip
            go_wp2_with fail
            exact post_val (Below.refl _ _)
          simp only [Act.put, List.setIfInBounds_toArray, List.set_cons_zero, List.set_cons_succ]
          refine SeqG.valStep (fun wv hbv hpv => ?_) ?_
          · have cy := (ky.below' hbv).cell
            go_wp2_with fail
            exact post_val (Below.refl _ _)
          simp only [Act.put, List.setIfInBounds_toArray, List.set_cons_zero, List.set_cons_succ]
          refine SeqG.valStep (fun wv hbv hpv => ?_) ?_
          · skip
            go_wp2_with fail
            exact post_val (Below.refl _ _)
          simp only [Act.put, List.setIfInBounds_toArray, List.set_cons_zero, List.set_cons_succ]
          refine SeqG.fixStep (.inl ⟨rfl, fun _ => rfl⟩) ?_
          simp only [Act.put, List.setIfInBounds_toArray, List.set_cons_zero, List.set_cons_succ]
          refine SeqG.fixStep (.inr ⟨rfl, rfl⟩) ?_
          simp only [Act.put, List.setIfInBounds_toArray, List.set_cons_zero, List.set_cons_succ]
          refine SeqG.fixStep (.inr ⟨rfl, rfl⟩) ?_
          simp only [Act.put, List.setIfInBounds_toArray, List.set_cons_zero, List.set_cons_succ]
          refine SeqG.fixStep (.inr ⟨rfl, rfl⟩) ?_
          simp only [Act.put, List.setIfInBounds_toArray, List.set_cons_zero, List.set_cons_succ]
          refine SeqG.fixStep (.inr ⟨rfl, rfl⟩) ?_
          simp only [Act.put, List.setIfInBounds_toArray, List.set_cons_zero, List.set_cons_succ]
          refine SeqG.fixStep (.inr ⟨rfl, rfl⟩) ?_
          simp only [Act.put, List.setIfInBounds_toArray, List.set_cons_zero, List.set_cons_succ]
          refine SeqG.fixStep (.inl ⟨rfl, fun _ => rfl⟩) ?_
          simp only [Act.put, List.setIfInBounds_toArray, List.set_cons_zero, List.set_cons_succ]
          refine SeqG.fixStep (.inl ⟨rfl, fun _ => rfl⟩) ?_
          simp only [Act.put, List.setIfInBounds_toArray, List.set_cons_zero, List.set_cons_succ]
          refine SeqG.valStep (fun wv hbv hpv => ?_) ?_
          · skip
            go_wp2_with fail
            exact post_val (Below.refl _ _)
          simp only [Act.put, List.setIfInBounds_toArray, List.set_cons_zero, List.set_cons_succ]
          refine SeqG.valStep (fun wv hbv hpv => ?_) ?_
          · have cx := (kx.below' hbv).cell
            go_wp2_with fail
            exact post_val (Below.refl _ _)
          simp only [Act.put, List.setIfInBounds_toArray, List.set_cons_zero, List.set_cons_succ]
          refine SeqG.valStep (fun wv hbv hpv => ?_) ?_
          · skip
            go_wp2_with fail
            exact post_val (Below.refl _ _)
          simp only [Act.put, List.setIfInBounds_toArray, List.set_cons_zero, List.set_cons_succ]
          refine SeqG.valStep (fun wv hbv hpv => ?_) ?_
          · have cy := (ky.below' hbv).cell
            go_wp2_with fail
            exact post_val (Below.refl _ _)
          simp only [Act.put, List.setIfInBounds_toArray, List.set_cons_zero, List.set_cons_succ]
          refine SeqG.valStep (fun wv hbv hpv => ?_) ?_
          · skip
            go_wp2_with fail
            exact post_val (Below.refl _ _)
          simp only [Act.put, List.setIfInBounds_toArray, List.set_cons_zero, List.set_cons_succ]
          refine SeqG.fixStep (.inl ⟨rfl, fun _ => rfl⟩) ?_
          simp only [Act.put, List.setIfInBounds_toArray, List.set_cons_zero, List.set_cons_succ]
          refine SeqG.valStep (fun wv hbv hpv => ?_) ?_
          · have cx := (kx.below' hbv).cell
            go_wp2_with fail
            exact post_val (Below.refl _ _)
          simp only [Act.put, List.setIfInBounds_toArray, List.set_cons_zero, List.set_cons_succ]
          refine SeqG.valStep (fun wv hbv hpv => ?_) ?_
          · go_wp2_with fail
            refine (arrivalT_any x _ hx).mono ?_; rintro e w' ⟨he, hb⟩; subst he
            go_wp2_with fail
            exact post_val hb
          simp only [Act.put, List.setIfInBounds_toArray, List.set_cons_zero, List.set_cons_succ]
          refine SeqG.valStep (fun wv hbv hpv => ?_) ?_
          · have cy := (ky.below' hbv).cell
            go_wp2_with fail
            exact post_val (Below.refl _ _)
          simp only [Act.put, List.setIfInBounds_toArray, List.set_cons_zero, List.set_cons_succ]
          refine SeqG.valStep (fun wv hbv hpv => ?_) ?_
          · go_wp2_with fail
            refine (arrivalT_any y _ hy).mono ?_; rintro e w' ⟨he, hb⟩; subst he
            go_wp2_with fail
            exact post_val hb
          simp only [Act.put, List.setIfInBounds_toArray, List.set_cons_zero, List.set_cons_succ]
          refine SeqG.valStep (fun wv hbv hpv => ?_) ?_
          · skip
            go_wp2_with fail
            exact post_val (Below.refl _ _)
          simp only [Act.put, List.setIfInBounds_toArray, List.set_cons_zero, List.set_cons_succ]
          refine SeqG.fixStep (.inl ⟨rfl, fun _ => rfl⟩) ?_
          simp only [Act.put, List.setIfInBounds_toArray, List.set_cons_zero, List.set_cons_succ]
          refine SeqG.fixStep (.inl ⟨rfl, fun _ => rfl⟩) ?_
          simp only [Act.put, List.setIfInBounds_toArray, List.set_cons_zero, List.set_cons_succ]
          refine SeqG.done fun wv hbv hpv => ?_
          refine NoPan.normal ?_
          clear hpv
          go_wp2_with fail
          go_meet
          exact ⟨by rw [HE.out], hbv⟩
        · skip
          have b1 : (x.2.1 == y.2.1) = false := by simpa using h1
          have b3 : (x.2.2.1 == y.2.2.1) = true := by simpa using h3
          have b4 : (arrT x == arrT y) = false := by simpa using h4
          have HE := Lib.hid (show endsB x y = false by simp [endsB, h1, h3, h4])
          clear h1 h3 h4
          refine wp_region_grow [.val (.pointer (some ⟨p, 1, none⟩)), .val (.int .i64 (x.2.1)), .val (.pointer (some ⟨q, 1, none⟩)), .val (.int .i64 (y.2.1)), .val (.bool false), .fix (.bool false), .fix undef, .fix undef, .fix undef, .fix undef, .fix undef, .fix (.bool false), .fix (.bool false), .val (.pointer (some ⟨p, 2, none⟩)), .val (.int .i64 (x.2.2.1)), .val (.pointer (some ⟨q, 2, none⟩)), .val (.int .i64 (y.2.2.1)), .val (.bool true), .fix (.bool true), .val (.agg #[.int .i64 x.1, .int .i64 x.2.1, .int .i64 x.2.2.1, .int .i64 x.2.2.2.1, .int .i64 x.2.2.2.2]), .val (.int .i64 (arrT x)), .val (.agg #[.int .i64 y.1, .int .i64 y.2.1, .int .i64 y.2.2.1, .int .i64 y.2.2.2.1, .int .i64 y.2.2.2.2]), .val (.int .i64 (arrT y)), .val (.bool false), .fix (.bool false), .fix (.bool false)] mixed (by kernel_rfl) ?_
          refine SeqG.valStep (fun wv hbv hpv => ?_) ?_
          · skip
            go_wp2_with fail
            exact post_val (Below.refl _ _)
          simp only [Act.put, List.setIfInBounds_toArray, List.set_cons_zero, List.set_cons_succ]
          refine SeqG.valStep (fun wv hbv hpv => ?_) ?_
          · have cx := (kx.below' hbv).cell
            go_wp2_with fail
            exact post_val (Below.refl _ _)
          simp only [Act.put, List.setIfInBounds_toArray, List.set_cons_zero, List.set_cons_succ]
          refine SeqG.valStep (fun wv hbv hpv => ?_) ?_
          · skip
            go_wp2_with fail
            exact post_val (Below.refl _ _)
          simp only [Act.put, List.setIfInBounds_toArray, List.set_cons_zero, List.set_cons_succ]
          refine SeqG.valStep (fun wv hbv hpv => ?_) ?_
          · have cy := (ky.below' hbv).cell
            go_wp2_with fail
            exact post_val (Below.refl _ _)
          simp only [Act.put, List.setIfInBounds_toArray, List.set_cons_zero, List.set_cons_succ]
          refine SeqG.valStep (fun wv hbv hpv => ?_) ?_
          · skip
            go_wp2_with fail
            exact post_val (Below.refl _ _)
          simp only [Act.put, List.setIfInBounds_toArray, List.set_cons_zero, List.set_cons_succ]
          refine SeqG.fixStep (.inl ⟨rfl, fun _ => rfl⟩) ?_
          simp only [Act.put, List.setIfInBounds_toArray, List.set_cons_zero, List.set_cons_succ]
          refine SeqG.fixStep (.inr ⟨rfl, rfl⟩) ?_
          simp only [Act.put, List.setIfInBounds_toArray, List.set_cons_zero, List.set_cons_succ]
          refine SeqG.fixStep (.inr ⟨rfl, rfl⟩) ?_
          simp only [Act.put, List.setIfInBounds_toArray, List.set_cons_zero, List.set_cons_succ]
          refine SeqG.fixStep (.inr ⟨rfl, rfl⟩) ?_
          simp only [Act.put, List.setIfInBounds_toArray, List.set_cons_zero, List.set_cons_succ]
          refine SeqG.fixStep (.inr ⟨rfl, rfl⟩) ?_
          simp only [Act.put, List.setIfInBounds_toArray, List.set_cons_zero, List.set_cons_succ]
          refine SeqG.fixStep (.inr ⟨rfl, rfl⟩) ?_
          simp only [Act.put, List.setIfInBounds_toArray, List.set_cons_zero, List.set_cons_succ]
          refine SeqG.fixStep (.inl ⟨rfl, fun _ => rfl⟩) ?_
          simp only [Act.put, List.setIfInBounds_toArray, List.set_cons_zero, List.set_cons_succ]
          refine SeqG.fixStep (.inl ⟨rfl, fun _ => rfl⟩) ?_
          simp only [Act.put, List.setIfInBounds_toArray, List.set_cons_zero, List.set_cons_succ]
          refine SeqG.valStep (fun wv hbv hpv => ?_) ?_
          · skip
            go_wp2_with fail
            exact post_val (Below.refl _ _)
          simp only [Act.put, List.setIfInBounds_toArray, List.set_cons_zero, List.set_cons_succ]
          refine SeqG.valStep (fun wv hbv hpv => ?_) ?_
          · have cx := (kx.below' hbv).cell
            go_wp2_with fail
            exact post_val (Below.refl _ _)
          simp only [Act.put, List.setIfInBounds_toArray, List.set_cons_zero, List.set_cons_succ]
          refine SeqG.valStep (fun wv hbv hpv => ?_) ?_
          · skip
            go_wp2_with fail
            exact post_val (Below.refl _ _)
          simp only [Act.put, List.setIfInBounds_toArray, List.set_cons_zero, List.set_cons_succ]
          refine SeqG.valStep (fun wv hbv hpv => ?_) ?_
          · have cy := (ky.below' hbv).cell
            go_wp2_with fail
            exact post_val (Below.refl _ _)
          simp only [Act.put, List.setIfInBounds_toArray, List.set_cons_zero, List.set_cons_succ]
          refine SeqG.valStep (fun wv hbv hpv => ?_) ?_
          · skip
            go_wp2_with fail
            exact post_val (Below.refl _ _)
          simp only [Act.put, List.setIfInBounds_toArray, List.set_cons_zero, List.set_cons_succ]
          refine SeqG.fixStep (.inl ⟨rfl, fun _ => rfl⟩) ?_
          simp only [Act.put, List.setIfInBounds_toArray, List.set_cons_zero, List.set_cons_succ]
          refine SeqG.valStep (fun wv hbv hpv => ?_) ?_
          · have cx := (kx.below' hbv).cell
            go_wp2_with fail
            exact post_val (Below.refl _ _)
          simp only [Act.put, List.setIfInBounds_toArray, List.set_cons_zero, List.set_cons_succ]
          refine SeqG.valStep (fun wv hbv hpv => ?_) ?_
          · go_wp2_with fail
            refine (arrivalT_any x _ hx).mono ?_; rintro e w' ⟨he, hb⟩; subst he
            go_wp2_with fail
            exact post_val hb
          simp only [Act.put, List.setIfInBounds_toArray, List.set_cons_zero, List.set_cons_succ]
          refine SeqG.valStep (fun wv hbv hpv => ?_) ?_
          · have cy := (ky.below' hbv).cell
            go_wp2_with fail
            exact post_val (Below.refl _ _)
          simp only [Act.put, List.setIfInBounds_toArray, List.set_cons_zero, List.set_cons_succ]
          refine SeqG.valStep (fun wv hbv hpv => ?_) ?_
          · go_wp2_with fail
            refine (arrivalT_any y _ hy).mono ?_; rintro e w' ⟨he, hb⟩; subst he
            go_wp2_with fail
            exact post_val hb
          simp only [Act.put, List.setIfInBounds_toArray, List.set_cons_zero, List.set_cons_succ]
          refine SeqG.valStep (fun wv hbv hpv => ?_) ?_
          · skip
            go_wp2_with fail
            exact post_val (Below.refl _ _)
          simp only [Act.put, List.setIfInBounds_toArray, List.set_cons_zero, List.set_cons_succ]
          refine SeqG.fixStep (.inl ⟨rfl, fun _ => rfl⟩) ?_
          simp only [Act.put, List.setIfInBounds_toArray, List.set_cons_zero, List.set_cons_succ]
          refine SeqG.fixStep (.inl ⟨rfl, fun _ => rfl⟩) ?_
          simp only [Act.put, List.setIfInBounds_toArray, List.set_cons_zero, List.set_cons_succ]
          refine SeqG.done fun wv hbv hpv => ?_
          refine NoPan.normal ?_
          clear hpv
          go_wp2_with fail
          go_meet
          exact ⟨by rw [HE.out], hbv⟩
      · skip
        have b1 : (x.2.1 == y.2.1) = false := by simpa using h1
        have b3 : (x.2.2.1 == y.2.2.1) = false := by simpa using h3
        have HE := Lib.hid (show endsB x y = false by simp [endsB, h1, h3])
        clear h1 h3
        refine wp_region_grow [.val (.pointer (some ⟨p, 1, none⟩)), .val (.int .i64 (x.2.1)), .val (.pointer (some ⟨q, 1, none⟩)), .val (.int .i64 (y.2.1)), .val (.bool false), .fix (.bool false), .fix undef, .fix undef, .fix undef, .fix undef, .fix undef, .fix (.bool false), .fix (.bool false), .val (.pointer (some ⟨p, 2, none⟩)), .val (.int .i64 (x.2.2.1)), .val (.pointer (some ⟨q, 2, none⟩)), .val (.int .i64 (y.2.2.1)), .val (.bool false), .fix (.bool false), .fix undef, .fix undef, .fix undef, .fix undef, .fix undef, .fix (.bool false), .fix (.bool false)] mixed (by kernel_rfl) ?_
        refine SeqG.valStep (fun wv hbv hpv => ?_) ?_
        · skip
          go_wp2_with fail
          exact post_val (Below.refl _ _)
        simp only [Act.put, List.setIfInBounds_toArray, List.set_cons_zero, List.set_cons_succ]
        refine SeqG.valStep (fun wv hbv hpv => ?_) ?_
        · have cx := (kx.below' hbv).cell
          go_wp2_with fail
          exact post_val (Below.refl _ _)
        simp only [Act.put, List.setIfInBounds_toArray, List.set_cons_zero, List.set_cons_succ]
        refine SeqG.valStep (fun wv hbv hpv => ?_) ?_
        · skip
          go_wp2_with fail
          exact post_val (Below.refl _ _)
        simp only [Act.put, List.setIfInBounds_toArray, List.set_cons_zero, List.set_cons_succ]
        refine SeqG.valStep (fun wv hbv hpv => ?_) ?_
        · have cy := (ky.below' hbv).cell
          go_wp2_with fail
          exact post_val (Below.refl _ _)
        simp only [Act.put, List.setIfInBounds_toArray, List.set_cons_zero, List.set_cons_succ]
        refine SeqG.valStep (fun wv hbv hpv => ?_) ?_
        · skip
          go_wp2_with fail
          exact post_val (Below.refl _ _)
        simp only [Act.put, List.setIfInBounds_toArray, List.set_cons_zero, List.set_cons_succ]
        refine SeqG.fixStep (.inl ⟨rfl, fun _ => rfl⟩) ?_
        simp only [Act.put, List.setIfInBounds_toArray, List.set_cons_zero, List.set_cons_succ]
        refine SeqG.fixStep (.inr ⟨rfl, rfl⟩) ?_
        simp only [Act.put, List.setIfInBounds_toArray, List.set_cons_zero, List.set_cons_succ]
        refine SeqG.fixStep (.inr ⟨rfl, rfl⟩) ?_
        simp only [Act.put, List.setIfInBounds_toArray, List.set_cons_zero, List.set_cons_succ]
        refine SeqG.fixStep (.inr ⟨rfl, rfl⟩) ?_
        simp only [Act.put, List.setIfInBounds_toArray, List.set_cons_zero, List.set_cons_succ]
        refine SeqG.fixStep (.inr ⟨rfl, rfl⟩) ?_
        simp only [Act.put, List.setIfInBounds_toArray, List.set_cons_zero, List.set_cons_succ]
        refine SeqG.fixStep (.inr ⟨rfl, rfl⟩) ?_
        simp only [Act.put, List.setIfInBounds_toArray, List.set_cons_zero, List.set_cons_succ]
        refine SeqG.fixStep (.inl ⟨rfl, fun _ => rfl⟩) ?_
        simp only [Act.put, List.setIfInBounds_toArray, List.set_cons_zero, List.set_cons_succ]
        refine SeqG.fixStep (.inl ⟨rfl, fun _ => rfl⟩) ?_
        simp only [Act.put, List.setIfInBounds_toArray, List.set_cons_zero, List.set_cons_succ]
        refine SeqG.valStep (fun wv hbv hpv => ?_) ?_
        · skip
          go_wp2_with fail
          exact post_val (Below.refl _ _)
        simp only [Act.put, List.setIfInBounds_toArray, List.set_cons_zero, List.set_cons_succ]
        refine SeqG.valStep (fun wv hbv hpv => ?_) ?_
        · have cx := (kx.below' hbv).cell
          go_wp2_with fail
          exact post_val (Below.refl _ _)
        simp only [Act.put, List.setIfInBounds_toArray, List.set_cons_zero, List.set_cons_succ]
        refine SeqG.valStep (fun wv hbv hpv => ?_) ?_
        · skip
          go_wp2_with fail
          exact post_val (Below.refl _ _)
        simp only [Act.put, List.setIfInBounds_toArray, List.set_cons_zero, List.set_cons_succ]
        refine SeqG.valStep (fun wv hbv hpv => ?_) ?_
        · have cy := (ky.below' hbv).cell
          go_wp2_with fail
          exact post_val (Below.refl _ _)
        simp only [Act.put, List.setIfInBounds_toArray, List.set_cons_zero, List.set_cons_succ]
        refine SeqG.valStep (fun wv hbv hpv => ?_) ?_
        · skip
          go_wp2_with fail
          exact post_val (Below.refl _ _)
        simp only [Act.put, List.setIfInBounds_toArray, List.set_cons_zero, List.set_cons_succ]
        refine SeqG.fixStep (.inl ⟨rfl, fun _ => rfl⟩) ?_
        simp only [Act.put, List.setIfInBounds_toArray, List.set_cons_zero, List.set_cons_succ]
        refine SeqG.fixStep (.inr ⟨rfl, rfl⟩) ?_
        simp only [Act.put, List.setIfInBounds_toArray, List.set_cons_zero, List.set_cons_succ]
        refine SeqG.fixStep (.inr ⟨rfl, rfl⟩) ?_
        simp only [Act.put, List.setIfInBounds_toArray, List.set_cons_zero, List.set_cons_succ]
        refine SeqG.fixStep (.inr ⟨rfl, rfl⟩) ?_
        simp only [Act.put, List.setIfInBounds_toArray, List.set_cons_zero, List.set_cons_succ]
        refine SeqG.fixStep (.inr ⟨rfl, rfl⟩) ?_
        simp only [Act.put, List.setIfInBounds_toArray, List.set_cons_zero, List.set_cons_succ]
        refine SeqG.fixStep (.inr ⟨rfl, rfl⟩) ?_
        simp only [Act.put, List.setIfInBounds_toArray, List.set_cons_zero, List.set_cons_succ]
        refine SeqG.fixStep (.inl ⟨rfl, fun _ => rfl⟩) ?_
        simp only [Act.put, List.setIfInBounds_toArray, List.set_cons_zero, List.set_cons_succ]
        refine SeqG.fixStep (.inl ⟨rfl, fun _ => rfl⟩) ?_
        simp only [Act.put, List.setIfInBounds_toArray, List.set_cons_zero, List.set_cons_succ]
        refine SeqG.done fun wv hbv hpv => ?_
        refine NoPan.normal ?_
        clear hpv
        go_wp2_with fail
        go_meet
        exact ⟨by rw [HE.out], hbv⟩
  case rest => as_aux_lemma =>
    obtain ⟨rfl, hb1⟩ := hcut
    have hb01 := hb0.trans (hb1.mono (by have := hb0.size; have := kx.lt; omega))
    cases he : endsB x y
    case true =>
      have Hv := Lib.hid (meet_ends he)
      go_wp2
      go_ret
      exact ⟨by rw [Hv.out]; rfl, by rw [Hp.out]; exact hb01⟩
    have HE := Lib.hid he; clear he
    have kx1 := kx.below' hb1
    have ky1 := ky.below' hb1
    have cx := kx1.cell
    clear hb0 hb1 kx ky
    go_wp2_with fail
    refine (sections_any _ _ _ _ _ _ hx.b hx.c hx.d).mono ?_; rintro e w2 ⟨A2, c2, M, rfl, hM, oM, hb2⟩
    have hMl : M.length = nsec x := by rw [← lls_len, hM]; exact secsT_len x
    have hM' : Hid (lls M = secsT x) := hM
    have sM := Lib.hid oM.sl
    have hb02 := hb01.trans (hb2.mono (by have := hb01.size; have := kx1.lt; omega))
    have zp : p ≤ w2.heap.size := by have := hb02.size; have := Hp.out; omega
    have ky2 := ky1.below' hb2
    have hn9 : nsec x ≤ 9 := secN_le hx.b hx.c
    have hm9 : nsec y ≤ 9 := secN_le hy.b hy.c
    have HMl := Lib.hid hMl
    have hl9 : M.length ≤ 9 := by omega
    clear hM oM hb2 hb01 kx1 ky1 cx hMl
    go_wp2
    go_loopw [38] (fun v38 wr => ∃ i : Nat, v38 = .int .i64 i ∧ i ≤ M.length ∧ Hid (∀ i', i' < i → ∀ j, j < nsec y → hitAt x y i' j = false) ∧ Below w2.heap.size w2 wr) (fun v38 _ => (M.length - intOf v38).toNat)
    case atStart => exact ⟨0, rfl, by omega, fun i' h => by omega, Below.refl _ _⟩
    case round =>
      obtain ⟨i, rfl, hi, hno, hbr⟩ := hrel
      by_cases hlt : i < M.length
      · have hg : M[i]? = some M[i] := List.getElem?_eq_getElem hlt
        generalize M[i] = r at hg
        have hin : i < nsec x := by have := HMl.out; omega
        have hr2 : r.2.2 = [losec x i, x.2.2.2.1 + 4 * i, x.2.2.2.1 + 4 * i + 4] := by
          have h1 : (lls M)[i]? = some r.2.2 := by simp [lls, hg]
          rw [hM'.out, secsT_get hin] at h1
          exact (Option.some.inj h1).symm
        obtain ⟨b, off, rfl, hbB, hC⟩ := sM.out.sl (SlR.ne hg)
        have c0 := cellS (hC.below hbr hbB) hg
        have hrl : r.2.2.length = 3 := by rw [hr2]; rfl
        rw [hrl] at c0
        have Rx := Lib.hid (show SlR f1 1 wr wr.heap.size r.1 [losec x i, x.2.2.2.1 + 4 * i, x.2.2.2.1 + 4 * i + 4] by rw [← hr2]; exact (sM.out.rows r (List.mem_of_getElem? hg)).next hbr)
        have hi0 : (0 : Int) ≤ (i : Int) := by omega
        have hi1 : (i : Int) < (M.length : Int) := by omega
        have hi9 : (i : Int) < 9 := by omega
        have ky3 := ky2.below' hbr
        have cy := ky3.cell
        have zr := hbr.size
        clear hC hg hr2 hrl hlt
        go_wp2_with fail
        refine (sections_any _ _ _ _ _ _ hy.b hy.c hy.d).mono ?_; rintro e w3 ⟨A3, c3, N, rfl, hN, oN, hb3⟩
        have hNl : N.length = nsec y := by rw [← lls_len, hN]; exact secsT_len y
        have hN' : Hid (lls N = secsT y) := hN
        have sN := Lib.hid oN.sl
        have hbr3 := hbr.trans (hb3.mono zr)
        have hk9 : N.length ≤ 9 := by omega
        have HNl := Lib.hid hNl
        have Rx3 := Lib.hid (Rx.out.next hb3)
        clear hN oN hb3 hbr Rx ky3 cy c0 hNl
        go_wp2
        go_loopw [45] (fun v45 wr => ∃ j : Nat, v45 = .int .i64 j ∧ j ≤ N.length ∧ Hid (∀ j', j' < j → hitAt x y i j' = false) ∧ Below w3.heap.size w3 wr) (fun v45 _ => (N.length - intOf v45).toNat)
        case atStart => exact ⟨0, rfl, by omega, fun j h => by omega, Below.refl _ _⟩
        case round =>
          obtain ⟨j, rfl, hj, hnj, hbs⟩ := hrel
          by_cases hlt : j < N.length
          · have hg : N[j]? = some N[j] := List.getElem?_eq_getElem hlt
            generalize N[j] = r2 at hg
            have hjn : j < nsec y := by have := HNl.out; omega
            have hr2 : r2.2.2 = [losec y j, y.2.2.2.1 + 4 * j, y.2.2.2.1 + 4 * j + 4] := by
              have h1 : (lls N)[j]? = some r2.2.2 := by simp [lls, hg]
              rw [hN'.out, secsT_get hjn] at h1
              exact (Option.some.inj h1).symm
            obtain ⟨b', off', rfl, hbB', hC'⟩ := sN.out.sl (SlR.ne hg)
            have c0 := cellS (hC'.below hbs hbB') hg
            have hrl : r2.2.2.length = 3 := by rw [hr2]; rfl
            rw [hrl] at c0
            have Ry : SlR f1 1 wr wr.heap.size r2.1 [losec y j, y.2.2.2.1 + 4 * j, y.2.2.2.1 + 4 * j + 4] := by rw [← hr2]; exact (sN.out.rows r2 (List.mem_of_getElem? hg)).next hbs
            have Rx4 := Rx3.out.next hbs
            obtain ⟨b1, o1, e1, _, hC1⟩ := Rx4 (by simp)
            obtain ⟨b2, o2, e2, _, hC2⟩ := Ry (by simp)
            rw [e1]
            rw [e2] at c0
            have p0 := cells1 hC1 (k := 0) rfl
            have p1 := cells1 hC1 (k := 1) rfl
            have p2 := cells1 hC1 (k := 2) rfl
            have q0 := cells1 hC2 (k := 0) rfl
            have q1 := cells1 hC2 (k := 1) rfl
            have q2 := cells1 hC2 (k := 2) rfl
            simp only [Nat.add_zero] at p0 q0
            have hj0 : (0 : Int) ≤ (j : Int) := by omega
            have hj1 : (j : Int) < (N.length : Int) := by omega
            have hj9 : (j : Int) < 9 := by omega
            have dx := hx.d
            have dy := hy.d
            clear hC' hg hr2 hrl hlt Ry Rx4 hC1 hC2 e1 e2
            by_cases h1 : losec x i = losec y j
            · have g1 : (losec x i == losec y j) = true := by simpa using h1
              by_cases h2 : max (x.2.2.2.1 + 4 * i) (y.2.2.2.1 + 4 * j) < min (x.2.2.2.1 + 4 * i + 4) (y.2.2.2.1 + 4 * j + 4)
              · have Hv := Lib.hid (meet_hit hx hy hin hjn (hit_iff.2 ⟨h1, h2⟩))
                clear h1
                go_wp2
                go_quiet (fail)
                go_wp2
                all_goals
                  go_ret
                  exact ⟨by rw [Hv.out]; rfl, by rw [Hp.out]; exact below_drewN (hb02.trans ((hbr3.trans (hbs.mono (by have := hbr3.size; omega))).mono zp)) _⟩
              · have Hn : Hid (∀ j', j' < j + 1 → hitAt x y i j' = false) := fun j' hj' => by
                  by_cases e : j' = j
                  · subst e; rw [Bool.eq_false_iff]; exact fun h => h2 (hit_iff.1 h).2
                  · exact hnj.out j' (by omega)
                clear h1 hnj
                go_wp2
                go_quiet (fail)
                go_wp2
                all_goals
                  go_roundw
                  case rel => exact ⟨j + 1, by go_num, by omega, Hn, below_drewN hbs _⟩
                  case measure => simp only [intOf]; omega
            · have g1 : (losec x i == losec y j) = false := by simpa using h1
              have Hn : Hid (∀ j', j' < j + 1 → hitAt x y i j' = false) := fun j' hj' => by
                by_cases e : j' = j
                · subst e; rw [Bool.eq_false_iff]; exact fun h => h1 (hit_iff.1 h).1
                · exact hnj.out j' (by omega)
              clear h1 hnj
              go_wp2
              go_quiet (fail)
              go_wp2
              go_roundw
              case rel => exact ⟨j + 1, by go_num, by omega, Hn, below_drewN hbs _⟩
              case measure => simp only [intOf]; omega
          · obtain rfl : j = N.length := by omega
            have Hn : Hid (∀ i', i' < i + 1 → ∀ j, j < nsec y → hitAt x y i' j = false) := fun i' hi' j hj => by
              by_cases e : i' = i
              · subst e; exact hnj.out j (by have := HNl.out; omega)
              · exact hno.out i' (by omega) j hj
            clear hnj hno
            go_wp2
            go_roundw
            case rel => exact ⟨i + 1, by go_num, by omega, Hn, hbr3.trans (hbs.mono (by have := hbr3.size; omega))⟩
            case measure => simp only [intOf]; omega
      · obtain rfl : i = M.length := by omega
        have Hv := Lib.hid (meet_none hx hy HE.out (fun i hi j hj => hno.out i (by have := HMl.out; omega) j hj))
        go_wp2
        go_ret
        exact ⟨by rw [Hv.out]; rfl, by rw [Hp.out]; exact hb02.trans (hbr.mono zp)⟩
end Go.Proofs.Ytfcmfadkkfkidaa
