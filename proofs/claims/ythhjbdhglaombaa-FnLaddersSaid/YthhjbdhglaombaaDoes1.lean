/-
  Does a brine with a mass stand on the rung with an index: both programs.
-/
import Derived.Test.YthhjbdhglaombaaBrine1
import Derived.WalkKit
import Derived.WalkSpells
import Derived.WalkLawsBesides
import Derived.Lib.Hide
import Derived.Deep.QuietTactic
import Derived.BigQuiet
import Derived.StillTailTactics
namespace Go.Proofs.Ythhjbdhglaombaa
open Go.RowKit

def askB (L : List (Int × Int)) (i a s : Int) : Bool := ladB L && inB i 0 (L.length - 1) && briB a s && decide (a + s > 0) && (match L[i.toNat]? with
  | none => false
  | some x => staB x.1 x.2 a s)

set_option maxHeartbeats 4000000 in
theorem doesStand_any (A : Option Addr) (c : Nat) (L : List (Int × Int)) (i a s : Int) (w : World) (hr : SlR f2 2 w w.heap.size A L) (hm : (L.length : Int) ≤ 1048576) :
    Calls Try.prog 63 #[.slice A L.length c, .int .i64 i, briV a s] w fun e w' => e = .returned (.bool (askB L i a s)) ∧ Below w.heap.size w w' := by
  have hr' := hr.alloc (.cells #[.int .i64 a, .int .i64 s] 38 (0, 0))
  cases h1 : ladB L
  case false =>
    have Hv := Lib.hid (show askB L i a s = false by simp [askB, h1])
    go_enter Try.func63, Try.ntmps63
    go_wp2
    refine wp_region_grow [.fix (.slice A L.length c), .val (.bool false), .fix (.bool false), .fix undef, .fix undef, .fix undef, .fix undef, .fix undef, .fix (.bool false), .fix (.bool false), .fix undef, .fix undef, .fix (.bool false), .fix (.bool false), .fix undef, .fix undef, .fix undef, .fix (.bool false), .fix (.bool false), .fix undef, .fix undef, .fix undef, .fix undef, .fix undef, .fix undef, .fix (.bool false)] mixed (by kernel_rfl) ?_
    refine SeqG.fixStep (.inl ⟨rfl, fun _ => rfl⟩) ?_
    simp only [Act.put, List.setIfInBounds_toArray, List.set_cons_zero, List.set_cons_succ]
    refine SeqG.valStep (fun wv hbv hpv => ?_) ?_
    · go_wp2_with fail
      refine (IsLadder_any _ _ _ _ (hr'.next hbv) (by omega)).mono ?_; rintro e w' ⟨he, hb⟩; rw [h1] at he; subst he
      go_wp2_with fail
      exact post_val hb
    simp only [Act.put, List.setIfInBounds_toArray, List.set_cons_zero, List.set_cons_succ]
    refine SeqG.fixStep (.inl ⟨rfl, fun _ => rfl⟩) ?_
    simp only [Act.put, List.setIfInBounds_toArray, List.set_cons_zero, List.set_cons_succ]
    refine SeqG.fixStep (.inr ⟨rfl, rfl⟩) ?_
    simp only [Act.put, List.setIfInBounds_toArray, List.set_cons_zero, List.set_cons_succ]
    refine SeqG.fixStep (.inr ⟨rfl, rfl⟩) ?_
    simp only [Act.put, List.setIfInBounds_toArray, List.set_cons_zero, List.set_cons_succ]
    refine SeqG.fixStep (.inr ⟨rfl, rfl⟩) ?_
    simp only [Act.put, List.setIfInBounds_toArray, List.set_cons_zero, List.set_cons_succ]
    refine SeqG.fixStep (.inr ⟨rfl, rfl⟩) ?_
    simp only [Act.put, List.setIfInBounds_toArray, List.set_cons_zero, List.set_cons_succ]
    refine SeqG.fixStep (.inr ⟨rfl, rfl⟩) ?_
    simp only [Act.put, List.setIfInBounds_toArray, List.set_cons_zero, List.set_cons_succ]
    refine SeqG.fixStep (.inl ⟨rfl, fun _ => rfl⟩) ?_
    simp only [Act.put, List.setIfInBounds_toArray, List.set_cons_zero, List.set_cons_succ]
    refine SeqG.fixStep (.inl ⟨rfl, fun _ => rfl⟩) ?_
    simp only [Act.put, List.setIfInBounds_toArray, List.set_cons_zero, List.set_cons_succ]
    refine SeqG.fixStep (.inr ⟨rfl, rfl⟩) ?_
    simp only [Act.put, List.setIfInBounds_toArray, List.set_cons_zero, List.set_cons_succ]
    refine SeqG.fixStep (.inr ⟨rfl, rfl⟩) ?_
    simp only [Act.put, List.setIfInBounds_toArray, List.set_cons_zero, List.set_cons_succ]
    refine SeqG.fixStep (.inl ⟨rfl, fun _ => rfl⟩) ?_
    simp only [Act.put, List.setIfInBounds_toArray, List.set_cons_zero, List.set_cons_succ]
    refine SeqG.fixStep (.inl ⟨rfl, fun _ => rfl⟩) ?_
    simp only [Act.put, List.setIfInBounds_toArray, List.set_cons_zero, List.set_cons_succ]
    refine SeqG.fixStep (.inr ⟨rfl, rfl⟩) ?_
    simp only [Act.put, List.setIfInBounds_toArray, List.set_cons_zero, List.set_cons_succ]
    refine SeqG.fixStep (.inr ⟨rfl, rfl⟩) ?_
    simp only [Act.put, List.setIfInBounds_toArray, List.set_cons_zero, List.set_cons_succ]
    refine SeqG.fixStep (.inr ⟨rfl, rfl⟩) ?_
    simp only [Act.put, List.setIfInBounds_toArray, List.set_cons_zero, List.set_cons_succ]
    refine SeqG.fixStep (.inl ⟨rfl, fun _ => rfl⟩) ?_
    simp only [Act.put, List.setIfInBounds_toArray, List.set_cons_zero, List.set_cons_succ]
    refine SeqG.fixStep (.inl ⟨rfl, fun _ => rfl⟩) ?_
    simp only [Act.put, List.setIfInBounds_toArray, List.set_cons_zero, List.set_cons_succ]
    refine SeqG.fixStep (.inr ⟨rfl, rfl⟩) ?_
    simp only [Act.put, List.setIfInBounds_toArray, List.set_cons_zero, List.set_cons_succ]
    refine SeqG.fixStep (.inr ⟨rfl, rfl⟩) ?_
    simp only [Act.put, List.setIfInBounds_toArray, List.set_cons_zero, List.set_cons_succ]
    refine SeqG.fixStep (.inr ⟨rfl, rfl⟩) ?_
    simp only [Act.put, List.setIfInBounds_toArray, List.set_cons_zero, List.set_cons_succ]
    refine SeqG.fixStep (.inr ⟨rfl, rfl⟩) ?_
    simp only [Act.put, List.setIfInBounds_toArray, List.set_cons_zero, List.set_cons_succ]
    refine SeqG.fixStep (.inr ⟨rfl, rfl⟩) ?_
    simp only [Act.put, List.setIfInBounds_toArray, List.set_cons_zero, List.set_cons_succ]
    refine SeqG.fixStep (.inr ⟨rfl, rfl⟩) ?_
    simp only [Act.put, List.setIfInBounds_toArray, List.set_cons_zero, List.set_cons_succ]
    refine SeqG.fixStep (.inl ⟨rfl, fun _ => rfl⟩) ?_
    simp only [Act.put, List.setIfInBounds_toArray, List.set_cons_zero, List.set_cons_succ]
    refine SeqG.done fun wv hbv hpv => ?_
    clear hpv
    go_wp2_with fail
    refine NoPan.normal ?_
    go_wp2
    go_ret
    exact ⟨by rw [Hv.out]; rfl, by (repeat (first | exact Below.refl _ _ | refine Below.drew ?_ | refine below_drewN ?_ _ | (refine Below.alloc ?_ (by (try simp) <;> omega) _) | (refine Below.setCell ?_ (by (try simp) <;> omega) _) | (refine Below.trans ?_ (Below.mono (by assumption) (by (try simp) <;> omega)))))⟩
  have hl8 := ladB_len h1
  cases h2 : inB i 0 (L.length - 1)
  case false =>
    have Hv := Lib.hid (show askB L i a s = false by simp [askB, h1, h2])
    go_enter Try.func63, Try.ntmps63
    go_wp2
    refine wp_region_grow [.fix (.slice A L.length c), .val (.bool true), .fix (.bool true), .fix (.int .i64 i), .fix (.slice A L.length c), .val (.int .i64 L.length), .val (.int .i64 (L.length - 1)), .val (.bool false), .fix (.bool false), .fix (.bool false), .fix undef, .fix undef, .fix (.bool false), .fix (.bool false), .fix undef, .fix undef, .fix undef, .fix (.bool false), .fix (.bool false), .fix undef, .fix undef, .fix undef, .fix undef, .fix undef, .fix undef, .fix (.bool false)] mixed (by kernel_rfl) ?_
    refine SeqG.fixStep (.inl ⟨rfl, fun _ => rfl⟩) ?_
    simp only [Act.put, List.setIfInBounds_toArray, List.set_cons_zero, List.set_cons_succ]
    refine SeqG.valStep (fun wv hbv hpv => ?_) ?_
    · go_wp2_with fail
      refine (IsLadder_any _ _ _ _ (hr'.next hbv) (by omega)).mono ?_; rintro e w' ⟨he, hb⟩; rw [h1] at he; subst he
      go_wp2_with fail
      exact post_val hb
    simp only [Act.put, List.setIfInBounds_toArray, List.set_cons_zero, List.set_cons_succ]
    refine SeqG.fixStep (.inl ⟨rfl, fun _ => rfl⟩) ?_
    simp only [Act.put, List.setIfInBounds_toArray, List.set_cons_zero, List.set_cons_succ]
    refine SeqG.fixStep (.inl ⟨rfl, fun _ => rfl⟩) ?_
    simp only [Act.put, List.setIfInBounds_toArray, List.set_cons_zero, List.set_cons_succ]
    refine SeqG.fixStep (.inl ⟨rfl, fun _ => rfl⟩) ?_
    simp only [Act.put, List.setIfInBounds_toArray, List.set_cons_zero, List.set_cons_succ]
    refine SeqG.valStep (fun wv hbv hpv => ?_) ?_
    · skip
      go_wp2_with fail
      exact post_val (Below.refl _ _)
    simp only [Act.put, List.setIfInBounds_toArray, List.set_cons_zero, List.set_cons_succ]
    refine SeqG.valStep (fun wv hbv hpv => ?_) ?_
    · skip
      go_wp2_with fail
      exact post_val (Below.refl _ _)
    simp only [Act.put, List.setIfInBounds_toArray, List.set_cons_zero, List.set_cons_succ]
    refine SeqG.valStep (fun wv hbv hpv => ?_) ?_
    · go_wp2_with fail
      refine (within_any _ _ _ _).mono ?_; rintro e w' ⟨he, rfl⟩; rw [h2] at he; subst he
      go_wp2_with fail
      exact post_val (Below.refl _ _)
    simp only [Act.put, List.setIfInBounds_toArray, List.set_cons_zero, List.set_cons_succ]
    refine SeqG.fixStep (.inl ⟨rfl, fun _ => rfl⟩) ?_
    simp only [Act.put, List.setIfInBounds_toArray, List.set_cons_zero, List.set_cons_succ]
    refine SeqG.fixStep (.inl ⟨rfl, fun _ => rfl⟩) ?_
    simp only [Act.put, List.setIfInBounds_toArray, List.set_cons_zero, List.set_cons_succ]
    refine SeqG.fixStep (.inr ⟨rfl, rfl⟩) ?_
    simp only [Act.put, List.setIfInBounds_toArray, List.set_cons_zero, List.set_cons_succ]
    refine SeqG.fixStep (.inr ⟨rfl, rfl⟩) ?_
    simp only [Act.put, List.setIfInBounds_toArray, List.set_cons_zero, List.set_cons_succ]
    refine SeqG.fixStep (.inl ⟨rfl, fun _ => rfl⟩) ?_
    simp only [Act.put, List.setIfInBounds_toArray, List.set_cons_zero, List.set_cons_succ]
    refine SeqG.fixStep (.inl ⟨rfl, fun _ => rfl⟩) ?_
    simp only [Act.put, List.setIfInBounds_toArray, List.set_cons_zero, List.set_cons_succ]
    refine SeqG.fixStep (.inr ⟨rfl, rfl⟩) ?_
    simp only [Act.put, List.setIfInBounds_toArray, List.set_cons_zero, List.set_cons_succ]
    refine SeqG.fixStep (.inr ⟨rfl, rfl⟩) ?_
    simp only [Act.put, List.setIfInBounds_toArray, List.set_cons_zero, List.set_cons_succ]
    refine SeqG.fixStep (.inr ⟨rfl, rfl⟩) ?_
    simp only [Act.put, List.setIfInBounds_toArray, List.set_cons_zero, List.set_cons_succ]
    refine SeqG.fixStep (.inl ⟨rfl, fun _ => rfl⟩) ?_
    simp only [Act.put, List.setIfInBounds_toArray, List.set_cons_zero, List.set_cons_succ]
    refine SeqG.fixStep (.inl ⟨rfl, fun _ => rfl⟩) ?_
    simp only [Act.put, List.setIfInBounds_toArray, List.set_cons_zero, List.set_cons_succ]
    refine SeqG.fixStep (.inr ⟨rfl, rfl⟩) ?_
    simp only [Act.put, List.setIfInBounds_toArray, List.set_cons_zero, List.set_cons_succ]
    refine SeqG.fixStep (.inr ⟨rfl, rfl⟩) ?_
    simp only [Act.put, List.setIfInBounds_toArray, List.set_cons_zero, List.set_cons_succ]
    refine SeqG.fixStep (.inr ⟨rfl, rfl⟩) ?_
    simp only [Act.put, List.setIfInBounds_toArray, List.set_cons_zero, List.set_cons_succ]
    refine SeqG.fixStep (.inr ⟨rfl, rfl⟩) ?_
    simp only [Act.put, List.setIfInBounds_toArray, List.set_cons_zero, List.set_cons_succ]
    refine SeqG.fixStep (.inr ⟨rfl, rfl⟩) ?_
    simp only [Act.put, List.setIfInBounds_toArray, List.set_cons_zero, List.set_cons_succ]
    refine SeqG.fixStep (.inr ⟨rfl, rfl⟩) ?_
    simp only [Act.put, List.setIfInBounds_toArray, List.set_cons_zero, List.set_cons_succ]
    refine SeqG.fixStep (.inl ⟨rfl, fun _ => rfl⟩) ?_
    simp only [Act.put, List.setIfInBounds_toArray, List.set_cons_zero, List.set_cons_succ]
    refine SeqG.done fun wv hbv hpv => ?_
    clear hpv
    go_wp2_with fail
    refine NoPan.normal ?_
    go_wp2
    go_ret
    exact ⟨by rw [Hv.out]; rfl, by (repeat (first | exact Below.refl _ _ | refine Below.drew ?_ | refine below_drewN ?_ _ | (refine Below.alloc ?_ (by (try simp) <;> omega) _) | (refine Below.setCell ?_ (by (try simp) <;> omega) _) | (refine Below.trans ?_ (Below.mono (by assumption) (by (try simp) <;> omega)))))⟩
  have hi := inB_iff.1 h2
  cases h3 : briB a s
  case false =>
    have Hv := Lib.hid (show askB L i a s = false by simp [askB, h1, h2, h3])
    go_enter Try.func63, Try.ntmps63
    go_wp2
    refine wp_region_grow [.fix (.slice A L.length c), .val (.bool true), .fix (.bool true), .fix (.int .i64 i), .fix (.slice A L.length c), .val (.int .i64 L.length), .val (.int .i64 (L.length - 1)), .val (.bool true), .fix (.bool true), .fix (.bool true), .val (briV a s), .val (.bool false), .fix (.bool false), .fix (.bool false), .fix undef, .fix undef, .fix undef, .fix (.bool false), .fix (.bool false), .fix undef, .fix undef, .fix undef, .fix undef, .fix undef, .fix undef, .fix (.bool false)] mixed (by kernel_rfl) ?_
    refine SeqG.fixStep (.inl ⟨rfl, fun _ => rfl⟩) ?_
    simp only [Act.put, List.setIfInBounds_toArray, List.set_cons_zero, List.set_cons_succ]
    refine SeqG.valStep (fun wv hbv hpv => ?_) ?_
    · go_wp2_with fail
      refine (IsLadder_any _ _ _ _ (hr'.next hbv) (by omega)).mono ?_; rintro e w' ⟨he, hb⟩; rw [h1] at he; subst he
      go_wp2_with fail
      exact post_val hb
    simp only [Act.put, List.setIfInBounds_toArray, List.set_cons_zero, List.set_cons_succ]
    refine SeqG.fixStep (.inl ⟨rfl, fun _ => rfl⟩) ?_
    simp only [Act.put, List.setIfInBounds_toArray, List.set_cons_zero, List.set_cons_succ]
    refine SeqG.fixStep (.inl ⟨rfl, fun _ => rfl⟩) ?_
    simp only [Act.put, List.setIfInBounds_toArray, List.set_cons_zero, List.set_cons_succ]
    refine SeqG.fixStep (.inl ⟨rfl, fun _ => rfl⟩) ?_
    simp only [Act.put, List.setIfInBounds_toArray, List.set_cons_zero, List.set_cons_succ]
    refine SeqG.valStep (fun wv hbv hpv => ?_) ?_
    · skip
      go_wp2_with fail
      exact post_val (Below.refl _ _)
    simp only [Act.put, List.setIfInBounds_toArray, List.set_cons_zero, List.set_cons_succ]
    refine SeqG.valStep (fun wv hbv hpv => ?_) ?_
    · skip
      go_wp2_with fail
      exact post_val (Below.refl _ _)
    simp only [Act.put, List.setIfInBounds_toArray, List.set_cons_zero, List.set_cons_succ]
    refine SeqG.valStep (fun wv hbv hpv => ?_) ?_
    · go_wp2_with fail
      refine (within_any _ _ _ _).mono ?_; rintro e w' ⟨he, rfl⟩; rw [h2] at he; subst he
      go_wp2_with fail
      exact post_val (Below.refl _ _)
    simp only [Act.put, List.setIfInBounds_toArray, List.set_cons_zero, List.set_cons_succ]
    refine SeqG.fixStep (.inl ⟨rfl, fun _ => rfl⟩) ?_
    simp only [Act.put, List.setIfInBounds_toArray, List.set_cons_zero, List.set_cons_succ]
    refine SeqG.fixStep (.inl ⟨rfl, fun _ => rfl⟩) ?_
    simp only [Act.put, List.setIfInBounds_toArray, List.set_cons_zero, List.set_cons_succ]
    refine SeqG.valStep (fun wv hbv hpv => ?_) ?_
    · obtain ⟨cc, ff⟩ := bblk hbv (g := w.heap.size) (by simp)
      go_wp2_with fail
      exact post_val (Below.refl _ _)
    simp only [Act.put, List.setIfInBounds_toArray, List.set_cons_zero, List.set_cons_succ]
    refine SeqG.valStep (fun wv hbv hpv => ?_) ?_
    · go_wp2_with fail
      refine (IsBrine_any _ _ _).mono ?_; rintro e w' ⟨he, hb⟩; rw [h3] at he; subst he
      go_wp2_with fail
      exact post_val hb
    simp only [Act.put, List.setIfInBounds_toArray, List.set_cons_zero, List.set_cons_succ]
    refine SeqG.fixStep (.inl ⟨rfl, fun _ => rfl⟩) ?_
    simp only [Act.put, List.setIfInBounds_toArray, List.set_cons_zero, List.set_cons_succ]
    refine SeqG.fixStep (.inl ⟨rfl, fun _ => rfl⟩) ?_
    simp only [Act.put, List.setIfInBounds_toArray, List.set_cons_zero, List.set_cons_succ]
    refine SeqG.fixStep (.inr ⟨rfl, rfl⟩) ?_
    simp only [Act.put, List.setIfInBounds_toArray, List.set_cons_zero, List.set_cons_succ]
    refine SeqG.fixStep (.inr ⟨rfl, rfl⟩) ?_
    simp only [Act.put, List.setIfInBounds_toArray, List.set_cons_zero, List.set_cons_succ]
    refine SeqG.fixStep (.inr ⟨rfl, rfl⟩) ?_
    simp only [Act.put, List.setIfInBounds_toArray, List.set_cons_zero, List.set_cons_succ]
    refine SeqG.fixStep (.inl ⟨rfl, fun _ => rfl⟩) ?_
    simp only [Act.put, List.setIfInBounds_toArray, List.set_cons_zero, List.set_cons_succ]
    refine SeqG.fixStep (.inl ⟨rfl, fun _ => rfl⟩) ?_
    simp only [Act.put, List.setIfInBounds_toArray, List.set_cons_zero, List.set_cons_succ]
    refine SeqG.fixStep (.inr ⟨rfl, rfl⟩) ?_
    simp only [Act.put, List.setIfInBounds_toArray, List.set_cons_zero, List.set_cons_succ]
    refine SeqG.fixStep (.inr ⟨rfl, rfl⟩) ?_
    simp only [Act.put, List.setIfInBounds_toArray, List.set_cons_zero, List.set_cons_succ]
    refine SeqG.fixStep (.inr ⟨rfl, rfl⟩) ?_
    simp only [Act.put, List.setIfInBounds_toArray, List.set_cons_zero, List.set_cons_succ]
    refine SeqG.fixStep (.inr ⟨rfl, rfl⟩) ?_
    simp only [Act.put, List.setIfInBounds_toArray, List.set_cons_zero, List.set_cons_succ]
    refine SeqG.fixStep (.inr ⟨rfl, rfl⟩) ?_
    simp only [Act.put, List.setIfInBounds_toArray, List.set_cons_zero, List.set_cons_succ]
    refine SeqG.fixStep (.inr ⟨rfl, rfl⟩) ?_
    simp only [Act.put, List.setIfInBounds_toArray, List.set_cons_zero, List.set_cons_succ]
    refine SeqG.fixStep (.inl ⟨rfl, fun _ => rfl⟩) ?_
    simp only [Act.put, List.setIfInBounds_toArray, List.set_cons_zero, List.set_cons_succ]
    refine SeqG.done fun wv hbv hpv => ?_
    clear hpv
    go_wp2_with fail
    refine NoPan.normal ?_
    go_wp2
    go_ret
    exact ⟨by rw [Hv.out]; rfl, by (repeat (first | exact Below.refl _ _ | refine Below.drew ?_ | refine below_drewN ?_ _ | (refine Below.alloc ?_ (by (try simp) <;> omega) _) | (refine Below.setCell ?_ (by (try simp) <;> omega) _) | (refine Below.trans ?_ (Below.mono (by assumption) (by (try simp) <;> omega)))))⟩
  have hbr := briB_bounds h3
  cases h4 : decide (a + s > 0)
  case false =>
    have Hv := Lib.hid (show askB L i a s = false by simp only [askB, h1, h2, h3, h4]; rfl)
    go_enter Try.func63, Try.ntmps63
    go_wp2
    refine wp_region_grow [.fix (.slice A L.length c), .val (.bool true), .fix (.bool true), .fix (.int .i64 i), .fix (.slice A L.length c), .val (.int .i64 L.length), .val (.int .i64 (L.length - 1)), .val (.bool true), .fix (.bool true), .fix (.bool true), .val (briV a s), .val (.bool true), .fix (.bool true), .fix (.bool true), .val (briV a s), .val (.int .i64 (a + s)), .val (.bool false), .fix (.bool false), .fix (.bool false), .fix undef, .fix undef, .fix undef, .fix undef, .fix undef, .fix undef, .fix (.bool false)] mixed (by kernel_rfl) ?_
    refine SeqG.fixStep (.inl ⟨rfl, fun _ => rfl⟩) ?_
    simp only [Act.put, List.setIfInBounds_toArray, List.set_cons_zero, List.set_cons_succ]
    refine SeqG.valStep (fun wv hbv hpv => ?_) ?_
    · go_wp2_with fail
      refine (IsLadder_any _ _ _ _ (hr'.next hbv) (by omega)).mono ?_; rintro e w' ⟨he, hb⟩; rw [h1] at he; subst he
      go_wp2_with fail
      exact post_val hb
    simp only [Act.put, List.setIfInBounds_toArray, List.set_cons_zero, List.set_cons_succ]
    refine SeqG.fixStep (.inl ⟨rfl, fun _ => rfl⟩) ?_
    simp only [Act.put, List.setIfInBounds_toArray, List.set_cons_zero, List.set_cons_succ]
    refine SeqG.fixStep (.inl ⟨rfl, fun _ => rfl⟩) ?_
    simp only [Act.put, List.setIfInBounds_toArray, List.set_cons_zero, List.set_cons_succ]
    refine SeqG.fixStep (.inl ⟨rfl, fun _ => rfl⟩) ?_
    simp only [Act.put, List.setIfInBounds_toArray, List.set_cons_zero, List.set_cons_succ]
    refine SeqG.valStep (fun wv hbv hpv => ?_) ?_
    · skip
      go_wp2_with fail
      exact post_val (Below.refl _ _)
    simp only [Act.put, List.setIfInBounds_toArray, List.set_cons_zero, List.set_cons_succ]
    refine SeqG.valStep (fun wv hbv hpv => ?_) ?_
    · skip
      go_wp2_with fail
      exact post_val (Below.refl _ _)
    simp only [Act.put, List.setIfInBounds_toArray, List.set_cons_zero, List.set_cons_succ]
    refine SeqG.valStep (fun wv hbv hpv => ?_) ?_
    · go_wp2_with fail
      refine (within_any _ _ _ _).mono ?_; rintro e w' ⟨he, rfl⟩; rw [h2] at he; subst he
      go_wp2_with fail
      exact post_val (Below.refl _ _)
    simp only [Act.put, List.setIfInBounds_toArray, List.set_cons_zero, List.set_cons_succ]
    refine SeqG.fixStep (.inl ⟨rfl, fun _ => rfl⟩) ?_
    simp only [Act.put, List.setIfInBounds_toArray, List.set_cons_zero, List.set_cons_succ]
    refine SeqG.fixStep (.inl ⟨rfl, fun _ => rfl⟩) ?_
    simp only [Act.put, List.setIfInBounds_toArray, List.set_cons_zero, List.set_cons_succ]
    refine SeqG.valStep (fun wv hbv hpv => ?_) ?_
    · obtain ⟨cc, ff⟩ := bblk hbv (g := w.heap.size) (by simp)
      go_wp2_with fail
      exact post_val (Below.refl _ _)
    simp only [Act.put, List.setIfInBounds_toArray, List.set_cons_zero, List.set_cons_succ]
    refine SeqG.valStep (fun wv hbv hpv => ?_) ?_
    · go_wp2_with fail
      refine (IsBrine_any _ _ _).mono ?_; rintro e w' ⟨he, hb⟩; rw [h3] at he; subst he
      go_wp2_with fail
      exact post_val hb
    simp only [Act.put, List.setIfInBounds_toArray, List.set_cons_zero, List.set_cons_succ]
    refine SeqG.fixStep (.inl ⟨rfl, fun _ => rfl⟩) ?_
    simp only [Act.put, List.setIfInBounds_toArray, List.set_cons_zero, List.set_cons_succ]
    refine SeqG.fixStep (.inl ⟨rfl, fun _ => rfl⟩) ?_
    simp only [Act.put, List.setIfInBounds_toArray, List.set_cons_zero, List.set_cons_succ]
    refine SeqG.valStep (fun wv hbv hpv => ?_) ?_
    · obtain ⟨cc, ff⟩ := bblk hbv (g := w.heap.size) (by simp)
      go_wp2_with fail
      exact post_val (Below.refl _ _)
    simp only [Act.put, List.setIfInBounds_toArray, List.set_cons_zero, List.set_cons_succ]
    refine SeqG.valStep (fun wv hbv hpv => ?_) ?_
    · go_wp2_with fail
      refine (mass_any _ _ _ hbr.1 hbr.2).mono ?_; rintro e w' ⟨he, hb⟩; subst he
      go_wp2_with fail
      exact post_val hb
    simp only [Act.put, List.setIfInBounds_toArray, List.set_cons_zero, List.set_cons_succ]
    refine SeqG.valStep (fun wv hbv hpv => ?_) ?_
    · skip
      go_wp2_with fail
      exact post_val (Below.refl _ _)
    simp only [Act.put, List.setIfInBounds_toArray, List.set_cons_zero, List.set_cons_succ]
    refine SeqG.fixStep (.inl ⟨rfl, fun _ => rfl⟩) ?_
    simp only [Act.put, List.setIfInBounds_toArray, List.set_cons_zero, List.set_cons_succ]
    refine SeqG.fixStep (.inl ⟨rfl, fun _ => rfl⟩) ?_
    simp only [Act.put, List.setIfInBounds_toArray, List.set_cons_zero, List.set_cons_succ]
    refine SeqG.fixStep (.inr ⟨rfl, rfl⟩) ?_
    simp only [Act.put, List.setIfInBounds_toArray, List.set_cons_zero, List.set_cons_succ]
    refine SeqG.fixStep (.inr ⟨rfl, rfl⟩) ?_
    simp only [Act.put, List.setIfInBounds_toArray, List.set_cons_zero, List.set_cons_succ]
    refine SeqG.fixStep (.inr ⟨rfl, rfl⟩) ?_
    simp only [Act.put, List.setIfInBounds_toArray, List.set_cons_zero, List.set_cons_succ]
    refine SeqG.fixStep (.inr ⟨rfl, rfl⟩) ?_
    simp only [Act.put, List.setIfInBounds_toArray, List.set_cons_zero, List.set_cons_succ]
    refine SeqG.fixStep (.inr ⟨rfl, rfl⟩) ?_
    simp only [Act.put, List.setIfInBounds_toArray, List.set_cons_zero, List.set_cons_succ]
    refine SeqG.fixStep (.inr ⟨rfl, rfl⟩) ?_
    simp only [Act.put, List.setIfInBounds_toArray, List.set_cons_zero, List.set_cons_succ]
    refine SeqG.fixStep (.inl ⟨rfl, fun _ => rfl⟩) ?_
    simp only [Act.put, List.setIfInBounds_toArray, List.set_cons_zero, List.set_cons_succ]
    refine SeqG.done fun wv hbv hpv => ?_
    clear hpv
    go_wp2_with fail
    refine NoPan.normal ?_
    go_wp2
    go_ret
    exact ⟨by rw [Hv.out]; rfl, by (repeat (first | exact Below.refl _ _ | refine Below.drew ?_ | refine below_drewN ?_ _ | (refine Below.alloc ?_ (by (try simp) <;> omega) _) | (refine Below.setCell ?_ (by (try simp) <;> omega) _) | (refine Below.trans ?_ (Below.mono (by assumption) (by (try simp) <;> omega)))))⟩
  obtain ⟨k, rfl⟩ := Int.eq_ofNat_of_zero_le hi.1
  have hkl : k < L.length := by omega
  have hx : L[k]? = some L[k] := List.getElem?_eq_getElem hkl
  obtain ⟨b, off, rfl, hB, hcs⟩ := hr (SlR.ne hx)
  have hC := hcs.below ((Below.refl w.heap.size w).alloc (Nat.le_refl _) (.cells #[.int .i64 a, .int .i64 s] 38 (0, 0))) hB
  have hBr : b < (w.alloc (.cells #[.int .i64 a, .int .i64 s] 38 (0, 0))).heap.size := by simp; omega
  have hg := ladB_rung h1 hx
  have hk0 : (0 : Int) ≤ (k : Int) := by omega
  have hk1 : (k : Int) < (L.length : Int) := by omega
  have Hv := Lib.hid (show askB L k a s = staB L[k].1 L[k].2 a s by simp only [askB, h1, h2, h3, h4, Int.toNat_natCast, hx]; simp)
  generalize L[k] = x at *
  go_enter Try.func63, Try.ntmps63
  go_wp2
  refine wp_region_grow [.fix (.slice (some ⟨b, off, none⟩) L.length c), .val (.bool true), .fix (.bool true), .fix (.int .i64 k), .fix (.slice (some ⟨b, off, none⟩) L.length c), .val (.int .i64 L.length), .val (.int .i64 (L.length - 1)), .val (.bool true), .fix (.bool true), .fix (.bool true), .val (briV a s), .val (.bool true), .fix (.bool true), .fix (.bool true), .val (briV a s), .val (.int .i64 (a + s)), .val (.bool true), .fix (.bool true), .fix (.bool true), .fix (.slice (some ⟨b, off, none⟩) L.length c), .fix (.int .i64 k), .val (.pointer (some ⟨b, off + k * 2, none⟩)), .val (.agg #[.int .i64 x.1, .int .i64 x.2]), .val (briV a s), .val (.bool (staB x.1 x.2 a s)), .fix (.bool (staB x.1 x.2 a s))] mixed (by kernel_rfl) ?_
  refine SeqG.fixStep (.inl ⟨rfl, fun _ => rfl⟩) ?_
  simp only [Act.put, List.setIfInBounds_toArray, List.set_cons_zero, List.set_cons_succ]
  refine SeqG.valStep (fun wv hbv hpv => ?_) ?_
  · go_wp2_with fail
    refine (IsLadder_any _ _ _ _ (hr'.next hbv) (by omega)).mono ?_; rintro e w' ⟨he, hb⟩; rw [h1] at he; subst he
    go_wp2_with fail
    exact post_val hb
  simp only [Act.put, List.setIfInBounds_toArray, List.set_cons_zero, List.set_cons_succ]
  refine SeqG.fixStep (.inl ⟨rfl, fun _ => rfl⟩) ?_
  simp only [Act.put, List.setIfInBounds_toArray, List.set_cons_zero, List.set_cons_succ]
  refine SeqG.fixStep (.inl ⟨rfl, fun _ => rfl⟩) ?_
  simp only [Act.put, List.setIfInBounds_toArray, List.set_cons_zero, List.set_cons_succ]
  refine SeqG.fixStep (.inl ⟨rfl, fun _ => rfl⟩) ?_
  simp only [Act.put, List.setIfInBounds_toArray, List.set_cons_zero, List.set_cons_succ]
  refine SeqG.valStep (fun wv hbv hpv => ?_) ?_
  · skip
    go_wp2_with fail
    exact post_val (Below.refl _ _)
  simp only [Act.put, List.setIfInBounds_toArray, List.set_cons_zero, List.set_cons_succ]
  refine SeqG.valStep (fun wv hbv hpv => ?_) ?_
  · skip
    go_wp2_with fail
    exact post_val (Below.refl _ _)
  simp only [Act.put, List.setIfInBounds_toArray, List.set_cons_zero, List.set_cons_succ]
  refine SeqG.valStep (fun wv hbv hpv => ?_) ?_
  · go_wp2_with fail
    refine (within_any _ _ _ _).mono ?_; rintro e w' ⟨he, rfl⟩; rw [h2] at he; subst he
    go_wp2_with fail
    exact post_val (Below.refl _ _)
  simp only [Act.put, List.setIfInBounds_toArray, List.set_cons_zero, List.set_cons_succ]
  refine SeqG.fixStep (.inl ⟨rfl, fun _ => rfl⟩) ?_
  simp only [Act.put, List.setIfInBounds_toArray, List.set_cons_zero, List.set_cons_succ]
  refine SeqG.fixStep (.inl ⟨rfl, fun _ => rfl⟩) ?_
  simp only [Act.put, List.setIfInBounds_toArray, List.set_cons_zero, List.set_cons_succ]
  refine SeqG.valStep (fun wv hbv hpv => ?_) ?_
  · obtain ⟨cc, ff⟩ := bblk hbv (g := w.heap.size) (by simp)
    go_wp2_with fail
    exact post_val (Below.refl _ _)
  simp only [Act.put, List.setIfInBounds_toArray, List.set_cons_zero, List.set_cons_succ]
  refine SeqG.valStep (fun wv hbv hpv => ?_) ?_
  · go_wp2_with fail
    refine (IsBrine_any _ _ _).mono ?_; rintro e w' ⟨he, hb⟩; rw [h3] at he; subst he
    go_wp2_with fail
    exact post_val hb
  simp only [Act.put, List.setIfInBounds_toArray, List.set_cons_zero, List.set_cons_succ]
  refine SeqG.fixStep (.inl ⟨rfl, fun _ => rfl⟩) ?_
  simp only [Act.put, List.setIfInBounds_toArray, List.set_cons_zero, List.set_cons_succ]
  refine SeqG.fixStep (.inl ⟨rfl, fun _ => rfl⟩) ?_
  simp only [Act.put, List.setIfInBounds_toArray, List.set_cons_zero, List.set_cons_succ]
  refine SeqG.valStep (fun wv hbv hpv => ?_) ?_
  · obtain ⟨cc, ff⟩ := bblk hbv (g := w.heap.size) (by simp)
    go_wp2_with fail
    exact post_val (Below.refl _ _)
  simp only [Act.put, List.setIfInBounds_toArray, List.set_cons_zero, List.set_cons_succ]
  refine SeqG.valStep (fun wv hbv hpv => ?_) ?_
  · go_wp2_with fail
    refine (mass_any _ _ _ hbr.1 hbr.2).mono ?_; rintro e w' ⟨he, hb⟩; subst he
    go_wp2_with fail
    exact post_val hb
  simp only [Act.put, List.setIfInBounds_toArray, List.set_cons_zero, List.set_cons_succ]
  refine SeqG.valStep (fun wv hbv hpv => ?_) ?_
  · skip
    go_wp2_with fail
    exact post_val (Below.refl _ _)
  simp only [Act.put, List.setIfInBounds_toArray, List.set_cons_zero, List.set_cons_succ]
  refine SeqG.fixStep (.inl ⟨rfl, fun _ => rfl⟩) ?_
  simp only [Act.put, List.setIfInBounds_toArray, List.set_cons_zero, List.set_cons_succ]
  refine SeqG.fixStep (.inl ⟨rfl, fun _ => rfl⟩) ?_
  simp only [Act.put, List.setIfInBounds_toArray, List.set_cons_zero, List.set_cons_succ]
  refine SeqG.fixStep (.inl ⟨rfl, fun _ => rfl⟩) ?_
  simp only [Act.put, List.setIfInBounds_toArray, List.set_cons_zero, List.set_cons_succ]
  refine SeqG.fixStep (.inl ⟨rfl, fun _ => rfl⟩) ?_
  simp only [Act.put, List.setIfInBounds_toArray, List.set_cons_zero, List.set_cons_succ]
  refine SeqG.valStep (fun wv hbv hpv => ?_) ?_
  · skip
    go_wp2_with fail
    exact post_val (Below.refl _ _)
  simp only [Act.put, List.setIfInBounds_toArray, List.set_cons_zero, List.set_cons_succ]
  refine SeqG.valStep (fun wv hbv hpv => ?_) ?_
  · obtain ⟨c0, c1⟩ := cells2 (hC.below hbv hBr) hx
    go_wp2_with fail
    exact post_val (Below.refl _ _)
  simp only [Act.put, List.setIfInBounds_toArray, List.set_cons_zero, List.set_cons_succ]
  refine SeqG.valStep (fun wv hbv hpv => ?_) ?_
  · obtain ⟨cc, ff⟩ := bblk hbv (g := w.heap.size) (by simp)
    go_wp2_with fail
    exact post_val (Below.refl _ _)
  simp only [Act.put, List.setIfInBounds_toArray, List.set_cons_zero, List.set_cons_succ]
  refine SeqG.valStep (fun wv hbv hpv => ?_) ?_
  · go_wp2_with fail
    refine (stands_any _ _ _ _ _ (by omega) (by omega) hbr.1 hbr.2).mono ?_; rintro e w' ⟨he, hb⟩; subst he
    go_wp2_with fail
    exact post_val hb
  simp only [Act.put, List.setIfInBounds_toArray, List.set_cons_zero, List.set_cons_succ]
  refine SeqG.fixStep (.inl ⟨rfl, fun _ => rfl⟩) ?_
  simp only [Act.put, List.setIfInBounds_toArray, List.set_cons_zero, List.set_cons_succ]
  refine SeqG.done fun wv hbv hpv => ?_
  clear hpv
  go_wp2_with fail
  refine NoPan.normal ?_
  go_wp2
  go_ret
  exact ⟨by rw [Hv.out]; rfl, by (repeat (first | exact Below.refl _ _ | refine Below.drew ?_ | refine below_drewN ?_ _ | (refine Below.alloc ?_ (by (try simp) <;> omega) _) | (refine Below.setCell ?_ (by (try simp) <;> omega) _) | (refine Below.trans ?_ (Below.mono (by assumption) (by (try simp) <;> omega)))))⟩

set_option maxHeartbeats 4000000 in
theorem l13Asked_any (A : Option Addr) (c : Nat) (L : List (Int × Int)) (i a s : Int) (w : World) (hr : SlR f2 2 w w.heap.size A L) (hm : (L.length : Int) ≤ 1048576) :
    Calls Try.prog 60 #[.slice A L.length c, .int .i64 i, briV a s] w fun e w' => e = .returned (.bool (askB L i a s)) ∧ Below w.heap.size w w' := by
  have hr' := hr.alloc (.cells #[.int .i64 a, .int .i64 s] 38 (0, 0))
  cases h1 : ladB L
  case false =>
    have Hv := Lib.hid (show askB L i a s = false by simp [askB, h1])
    go_enter Try.func60, Try.ntmps60
    go_wp2
    refine wp_region_grow [.fix (.slice A L.length c), .val (.bool false), .fix (.bool false), .fix undef, .fix undef, .fix undef, .fix undef, .fix undef, .fix (.bool false), .fix (.bool false), .fix undef, .fix undef, .fix (.bool false), .fix (.bool false), .fix undef, .fix undef, .fix undef, .fix (.bool false), .fix (.bool false), .fix undef, .fix undef, .fix undef, .fix undef, .fix undef, .fix undef, .fix (.bool false)] mixed (by kernel_rfl) ?_
    refine SeqG.fixStep (.inl ⟨rfl, fun _ => rfl⟩) ?_
    simp only [Act.put, List.setIfInBounds_toArray, List.set_cons_zero, List.set_cons_succ]
    refine SeqG.valStep (fun wv hbv hpv => ?_) ?_
    · go_wp2_with fail
      refine (l13Good_any _ _ _ _ (hr'.next hbv) (by omega)).mono ?_; rintro e w' ⟨he, hb⟩; rw [h1] at he; subst he
      go_wp2_with fail
      exact post_val hb
    simp only [Act.put, List.setIfInBounds_toArray, List.set_cons_zero, List.set_cons_succ]
    refine SeqG.fixStep (.inl ⟨rfl, fun _ => rfl⟩) ?_
    simp only [Act.put, List.setIfInBounds_toArray, List.set_cons_zero, List.set_cons_succ]
    refine SeqG.fixStep (.inr ⟨rfl, rfl⟩) ?_
    simp only [Act.put, List.setIfInBounds_toArray, List.set_cons_zero, List.set_cons_succ]
    refine SeqG.fixStep (.inr ⟨rfl, rfl⟩) ?_
    simp only [Act.put, List.setIfInBounds_toArray, List.set_cons_zero, List.set_cons_succ]
    refine SeqG.fixStep (.inr ⟨rfl, rfl⟩) ?_
    simp only [Act.put, List.setIfInBounds_toArray, List.set_cons_zero, List.set_cons_succ]
    refine SeqG.fixStep (.inr ⟨rfl, rfl⟩) ?_
    simp only [Act.put, List.setIfInBounds_toArray, List.set_cons_zero, List.set_cons_succ]
    refine SeqG.fixStep (.inr ⟨rfl, rfl⟩) ?_
    simp only [Act.put, List.setIfInBounds_toArray, List.set_cons_zero, List.set_cons_succ]
    refine SeqG.fixStep (.inl ⟨rfl, fun _ => rfl⟩) ?_
    simp only [Act.put, List.setIfInBounds_toArray, List.set_cons_zero, List.set_cons_succ]
    refine SeqG.fixStep (.inl ⟨rfl, fun _ => rfl⟩) ?_
    simp only [Act.put, List.setIfInBounds_toArray, List.set_cons_zero, List.set_cons_succ]
    refine SeqG.fixStep (.inr ⟨rfl, rfl⟩) ?_
    simp only [Act.put, List.setIfInBounds_toArray, List.set_cons_zero, List.set_cons_succ]
    refine SeqG.fixStep (.inr ⟨rfl, rfl⟩) ?_
    simp only [Act.put, List.setIfInBounds_toArray, List.set_cons_zero, List.set_cons_succ]
    refine SeqG.fixStep (.inl ⟨rfl, fun _ => rfl⟩) ?_
    simp only [Act.put, List.setIfInBounds_toArray, List.set_cons_zero, List.set_cons_succ]
    refine SeqG.fixStep (.inl ⟨rfl, fun _ => rfl⟩) ?_
    simp only [Act.put, List.setIfInBounds_toArray, List.set_cons_zero, List.set_cons_succ]
    refine SeqG.fixStep (.inr ⟨rfl, rfl⟩) ?_
    simp only [Act.put, List.setIfInBounds_toArray, List.set_cons_zero, List.set_cons_succ]
    refine SeqG.fixStep (.inr ⟨rfl, rfl⟩) ?_
    simp only [Act.put, List.setIfInBounds_toArray, List.set_cons_zero, List.set_cons_succ]
    refine SeqG.fixStep (.inr ⟨rfl, rfl⟩) ?_
    simp only [Act.put, List.setIfInBounds_toArray, List.set_cons_zero, List.set_cons_succ]
    refine SeqG.fixStep (.inl ⟨rfl, fun _ => rfl⟩) ?_
    simp only [Act.put, List.setIfInBounds_toArray, List.set_cons_zero, List.set_cons_succ]
    refine SeqG.fixStep (.inl ⟨rfl, fun _ => rfl⟩) ?_
    simp only [Act.put, List.setIfInBounds_toArray, List.set_cons_zero, List.set_cons_succ]
    refine SeqG.fixStep (.inr ⟨rfl, rfl⟩) ?_
    simp only [Act.put, List.setIfInBounds_toArray, List.set_cons_zero, List.set_cons_succ]
    refine SeqG.fixStep (.inr ⟨rfl, rfl⟩) ?_
    simp only [Act.put, List.setIfInBounds_toArray, List.set_cons_zero, List.set_cons_succ]
    refine SeqG.fixStep (.inr ⟨rfl, rfl⟩) ?_
    simp only [Act.put, List.setIfInBounds_toArray, List.set_cons_zero, List.set_cons_succ]
    refine SeqG.fixStep (.inr ⟨rfl, rfl⟩) ?_
    simp only [Act.put, List.setIfInBounds_toArray, List.set_cons_zero, List.set_cons_succ]
    refine SeqG.fixStep (.inr ⟨rfl, rfl⟩) ?_
    simp only [Act.put, List.setIfInBounds_toArray, List.set_cons_zero, List.set_cons_succ]
    refine SeqG.fixStep (.inr ⟨rfl, rfl⟩) ?_
    simp only [Act.put, List.setIfInBounds_toArray, List.set_cons_zero, List.set_cons_succ]
    refine SeqG.fixStep (.inl ⟨rfl, fun _ => rfl⟩) ?_
    simp only [Act.put, List.setIfInBounds_toArray, List.set_cons_zero, List.set_cons_succ]
    refine SeqG.done fun wv hbv hpv => ?_
    clear hpv
    go_wp2_with fail
    refine NoPan.normal ?_
    go_wp2
    go_ret
    exact ⟨by rw [Hv.out]; rfl, by (repeat (first | exact Below.refl _ _ | refine Below.drew ?_ | refine below_drewN ?_ _ | (refine Below.alloc ?_ (by (try simp) <;> omega) _) | (refine Below.setCell ?_ (by (try simp) <;> omega) _) | (refine Below.trans ?_ (Below.mono (by assumption) (by (try simp) <;> omega)))))⟩
  have hl8 := ladB_len h1
  cases h2 : inB i 0 (L.length - 1)
  case false =>
    have Hv := Lib.hid (show askB L i a s = false by simp [askB, h1, h2])
    go_enter Try.func60, Try.ntmps60
    go_wp2
    refine wp_region_grow [.fix (.slice A L.length c), .val (.bool true), .fix (.bool true), .fix (.int .i64 i), .fix (.slice A L.length c), .val (.int .i64 L.length), .val (.int .i64 (L.length - 1)), .val (.bool false), .fix (.bool false), .fix (.bool false), .fix undef, .fix undef, .fix (.bool false), .fix (.bool false), .fix undef, .fix undef, .fix undef, .fix (.bool false), .fix (.bool false), .fix undef, .fix undef, .fix undef, .fix undef, .fix undef, .fix undef, .fix (.bool false)] mixed (by kernel_rfl) ?_
    refine SeqG.fixStep (.inl ⟨rfl, fun _ => rfl⟩) ?_
    simp only [Act.put, List.setIfInBounds_toArray, List.set_cons_zero, List.set_cons_succ]
    refine SeqG.valStep (fun wv hbv hpv => ?_) ?_
    · go_wp2_with fail
      refine (l13Good_any _ _ _ _ (hr'.next hbv) (by omega)).mono ?_; rintro e w' ⟨he, hb⟩; rw [h1] at he; subst he
      go_wp2_with fail
      exact post_val hb
    simp only [Act.put, List.setIfInBounds_toArray, List.set_cons_zero, List.set_cons_succ]
    refine SeqG.fixStep (.inl ⟨rfl, fun _ => rfl⟩) ?_
    simp only [Act.put, List.setIfInBounds_toArray, List.set_cons_zero, List.set_cons_succ]
    refine SeqG.fixStep (.inl ⟨rfl, fun _ => rfl⟩) ?_
    simp only [Act.put, List.setIfInBounds_toArray, List.set_cons_zero, List.set_cons_succ]
    refine SeqG.fixStep (.inl ⟨rfl, fun _ => rfl⟩) ?_
    simp only [Act.put, List.setIfInBounds_toArray, List.set_cons_zero, List.set_cons_succ]
    refine SeqG.valStep (fun wv hbv hpv => ?_) ?_
    · skip
      go_wp2_with fail
      exact post_val (Below.refl _ _)
    simp only [Act.put, List.setIfInBounds_toArray, List.set_cons_zero, List.set_cons_succ]
    refine SeqG.valStep (fun wv hbv hpv => ?_) ?_
    · skip
      go_wp2_with fail
      exact post_val (Below.refl _ _)
    simp only [Act.put, List.setIfInBounds_toArray, List.set_cons_zero, List.set_cons_succ]
    refine SeqG.valStep (fun wv hbv hpv => ?_) ?_
    · go_wp2_with fail
      refine (l1In_any _ _ _ _).mono ?_; rintro e w' ⟨he, rfl⟩; rw [h2] at he; subst he
      go_wp2_with fail
      exact post_val (Below.refl _ _)
    simp only [Act.put, List.setIfInBounds_toArray, List.set_cons_zero, List.set_cons_succ]
    refine SeqG.fixStep (.inl ⟨rfl, fun _ => rfl⟩) ?_
    simp only [Act.put, List.setIfInBounds_toArray, List.set_cons_zero, List.set_cons_succ]
    refine SeqG.fixStep (.inl ⟨rfl, fun _ => rfl⟩) ?_
    simp only [Act.put, List.setIfInBounds_toArray, List.set_cons_zero, List.set_cons_succ]
    refine SeqG.fixStep (.inr ⟨rfl, rfl⟩) ?_
    simp only [Act.put, List.setIfInBounds_toArray, List.set_cons_zero, List.set_cons_succ]
    refine SeqG.fixStep (.inr ⟨rfl, rfl⟩) ?_
    simp only [Act.put, List.setIfInBounds_toArray, List.set_cons_zero, List.set_cons_succ]
    refine SeqG.fixStep (.inl ⟨rfl, fun _ => rfl⟩) ?_
    simp only [Act.put, List.setIfInBounds_toArray, List.set_cons_zero, List.set_cons_succ]
    refine SeqG.fixStep (.inl ⟨rfl, fun _ => rfl⟩) ?_
    simp only [Act.put, List.setIfInBounds_toArray, List.set_cons_zero, List.set_cons_succ]
    refine SeqG.fixStep (.inr ⟨rfl, rfl⟩) ?_
    simp only [Act.put, List.setIfInBounds_toArray, List.set_cons_zero, List.set_cons_succ]
    refine SeqG.fixStep (.inr ⟨rfl, rfl⟩) ?_
    simp only [Act.put, List.setIfInBounds_toArray, List.set_cons_zero, List.set_cons_succ]
    refine SeqG.fixStep (.inr ⟨rfl, rfl⟩) ?_
    simp only [Act.put, List.setIfInBounds_toArray, List.set_cons_zero, List.set_cons_succ]
    refine SeqG.fixStep (.inl ⟨rfl, fun _ => rfl⟩) ?_
    simp only [Act.put, List.setIfInBounds_toArray, List.set_cons_zero, List.set_cons_succ]
    refine SeqG.fixStep (.inl ⟨rfl, fun _ => rfl⟩) ?_
    simp only [Act.put, List.setIfInBounds_toArray, List.set_cons_zero, List.set_cons_succ]
    refine SeqG.fixStep (.inr ⟨rfl, rfl⟩) ?_
    simp only [Act.put, List.setIfInBounds_toArray, List.set_cons_zero, List.set_cons_succ]
    refine SeqG.fixStep (.inr ⟨rfl, rfl⟩) ?_
    simp only [Act.put, List.setIfInBounds_toArray, List.set_cons_zero, List.set_cons_succ]
    refine SeqG.fixStep (.inr ⟨rfl, rfl⟩) ?_
    simp only [Act.put, List.setIfInBounds_toArray, List.set_cons_zero, List.set_cons_succ]
    refine SeqG.fixStep (.inr ⟨rfl, rfl⟩) ?_
    simp only [Act.put, List.setIfInBounds_toArray, List.set_cons_zero, List.set_cons_succ]
    refine SeqG.fixStep (.inr ⟨rfl, rfl⟩) ?_
    simp only [Act.put, List.setIfInBounds_toArray, List.set_cons_zero, List.set_cons_succ]
    refine SeqG.fixStep (.inr ⟨rfl, rfl⟩) ?_
    simp only [Act.put, List.setIfInBounds_toArray, List.set_cons_zero, List.set_cons_succ]
    refine SeqG.fixStep (.inl ⟨rfl, fun _ => rfl⟩) ?_
    simp only [Act.put, List.setIfInBounds_toArray, List.set_cons_zero, List.set_cons_succ]
    refine SeqG.done fun wv hbv hpv => ?_
    clear hpv
    go_wp2_with fail
    refine NoPan.normal ?_
    go_wp2
    go_ret
    exact ⟨by rw [Hv.out]; rfl, by (repeat (first | exact Below.refl _ _ | refine Below.drew ?_ | refine below_drewN ?_ _ | (refine Below.alloc ?_ (by (try simp) <;> omega) _) | (refine Below.setCell ?_ (by (try simp) <;> omega) _) | (refine Below.trans ?_ (Below.mono (by assumption) (by (try simp) <;> omega)))))⟩
  have hi := inB_iff.1 h2
  cases h3 : briB a s
  case false =>
    have Hv := Lib.hid (show askB L i a s = false by simp [askB, h1, h2, h3])
    go_enter Try.func60, Try.ntmps60
    go_wp2
    refine wp_region_grow [.fix (.slice A L.length c), .val (.bool true), .fix (.bool true), .fix (.int .i64 i), .fix (.slice A L.length c), .val (.int .i64 L.length), .val (.int .i64 (L.length - 1)), .val (.bool true), .fix (.bool true), .fix (.bool true), .val (briV a s), .val (.bool false), .fix (.bool false), .fix (.bool false), .fix undef, .fix undef, .fix undef, .fix (.bool false), .fix (.bool false), .fix undef, .fix undef, .fix undef, .fix undef, .fix undef, .fix undef, .fix (.bool false)] mixed (by kernel_rfl) ?_
    refine SeqG.fixStep (.inl ⟨rfl, fun _ => rfl⟩) ?_
    simp only [Act.put, List.setIfInBounds_toArray, List.set_cons_zero, List.set_cons_succ]
    refine SeqG.valStep (fun wv hbv hpv => ?_) ?_
    · go_wp2_with fail
      refine (l13Good_any _ _ _ _ (hr'.next hbv) (by omega)).mono ?_; rintro e w' ⟨he, hb⟩; rw [h1] at he; subst he
      go_wp2_with fail
      exact post_val hb
    simp only [Act.put, List.setIfInBounds_toArray, List.set_cons_zero, List.set_cons_succ]
    refine SeqG.fixStep (.inl ⟨rfl, fun _ => rfl⟩) ?_
    simp only [Act.put, List.setIfInBounds_toArray, List.set_cons_zero, List.set_cons_succ]
    refine SeqG.fixStep (.inl ⟨rfl, fun _ => rfl⟩) ?_
    simp only [Act.put, List.setIfInBounds_toArray, List.set_cons_zero, List.set_cons_succ]
    refine SeqG.fixStep (.inl ⟨rfl, fun _ => rfl⟩) ?_
    simp only [Act.put, List.setIfInBounds_toArray, List.set_cons_zero, List.set_cons_succ]
    refine SeqG.valStep (fun wv hbv hpv => ?_) ?_
    · skip
      go_wp2_with fail
      exact post_val (Below.refl _ _)
    simp only [Act.put, List.setIfInBounds_toArray, List.set_cons_zero, List.set_cons_succ]
    refine SeqG.valStep (fun wv hbv hpv => ?_) ?_
    · skip
      go_wp2_with fail
      exact post_val (Below.refl _ _)
    simp only [Act.put, List.setIfInBounds_toArray, List.set_cons_zero, List.set_cons_succ]
    refine SeqG.valStep (fun wv hbv hpv => ?_) ?_
    · go_wp2_with fail
      refine (l1In_any _ _ _ _).mono ?_; rintro e w' ⟨he, rfl⟩; rw [h2] at he; subst he
      go_wp2_with fail
      exact post_val (Below.refl _ _)
    simp only [Act.put, List.setIfInBounds_toArray, List.set_cons_zero, List.set_cons_succ]
    refine SeqG.fixStep (.inl ⟨rfl, fun _ => rfl⟩) ?_
    simp only [Act.put, List.setIfInBounds_toArray, List.set_cons_zero, List.set_cons_succ]
    refine SeqG.fixStep (.inl ⟨rfl, fun _ => rfl⟩) ?_
    simp only [Act.put, List.setIfInBounds_toArray, List.set_cons_zero, List.set_cons_succ]
    refine SeqG.valStep (fun wv hbv hpv => ?_) ?_
    · obtain ⟨cc, ff⟩ := bblk hbv (g := w.heap.size) (by simp)
      go_wp2_with fail
      exact post_val (Below.refl _ _)
    simp only [Act.put, List.setIfInBounds_toArray, List.set_cons_zero, List.set_cons_succ]
    refine SeqG.valStep (fun wv hbv hpv => ?_) ?_
    · go_wp2_with fail
      refine (l2Brine_any _ _ _).mono ?_; rintro e w' ⟨he, hb⟩; rw [h3] at he; subst he
      go_wp2_with fail
      exact post_val hb
    simp only [Act.put, List.setIfInBounds_toArray, List.set_cons_zero, List.set_cons_succ]
    refine SeqG.fixStep (.inl ⟨rfl, fun _ => rfl⟩) ?_
    simp only [Act.put, List.setIfInBounds_toArray, List.set_cons_zero, List.set_cons_succ]
    refine SeqG.fixStep (.inl ⟨rfl, fun _ => rfl⟩) ?_
    simp only [Act.put, List.setIfInBounds_toArray, List.set_cons_zero, List.set_cons_succ]
    refine SeqG.fixStep (.inr ⟨rfl, rfl⟩) ?_
    simp only [Act.put, List.setIfInBounds_toArray, List.set_cons_zero, List.set_cons_succ]
    refine SeqG.fixStep (.inr ⟨rfl, rfl⟩) ?_
    simp only [Act.put, List.setIfInBounds_toArray, List.set_cons_zero, List.set_cons_succ]
    refine SeqG.fixStep (.inr ⟨rfl, rfl⟩) ?_
    simp only [Act.put, List.setIfInBounds_toArray, List.set_cons_zero, List.set_cons_succ]
    refine SeqG.fixStep (.inl ⟨rfl, fun _ => rfl⟩) ?_
    simp only [Act.put, List.setIfInBounds_toArray, List.set_cons_zero, List.set_cons_succ]
    refine SeqG.fixStep (.inl ⟨rfl, fun _ => rfl⟩) ?_
    simp only [Act.put, List.setIfInBounds_toArray, List.set_cons_zero, List.set_cons_succ]
    refine SeqG.fixStep (.inr ⟨rfl, rfl⟩) ?_
    simp only [Act.put, List.setIfInBounds_toArray, List.set_cons_zero, List.set_cons_succ]
    refine SeqG.fixStep (.inr ⟨rfl, rfl⟩) ?_
    simp only [Act.put, List.setIfInBounds_toArray, List.set_cons_zero, List.set_cons_succ]
    refine SeqG.fixStep (.inr ⟨rfl, rfl⟩) ?_
    simp only [Act.put, List.setIfInBounds_toArray, List.set_cons_zero, List.set_cons_succ]
    refine SeqG.fixStep (.inr ⟨rfl, rfl⟩) ?_
    simp only [Act.put, List.setIfInBounds_toArray, List.set_cons_zero, List.set_cons_succ]
    refine SeqG.fixStep (.inr ⟨rfl, rfl⟩) ?_
    simp only [Act.put, List.setIfInBounds_toArray, List.set_cons_zero, List.set_cons_succ]
    refine SeqG.fixStep (.inr ⟨rfl, rfl⟩) ?_
    simp only [Act.put, List.setIfInBounds_toArray, List.set_cons_zero, List.set_cons_succ]
    refine SeqG.fixStep (.inl ⟨rfl, fun _ => rfl⟩) ?_
    simp only [Act.put, List.setIfInBounds_toArray, List.set_cons_zero, List.set_cons_succ]
    refine SeqG.done fun wv hbv hpv => ?_
    clear hpv
    go_wp2_with fail
    refine NoPan.normal ?_
    go_wp2
    go_ret
    exact ⟨by rw [Hv.out]; rfl, by (repeat (first | exact Below.refl _ _ | refine Below.drew ?_ | refine below_drewN ?_ _ | (refine Below.alloc ?_ (by (try simp) <;> omega) _) | (refine Below.setCell ?_ (by (try simp) <;> omega) _) | (refine Below.trans ?_ (Below.mono (by assumption) (by (try simp) <;> omega)))))⟩
  have hbr := briB_bounds h3
  cases h4 : decide (a + s > 0)
  case false =>
    have Hv := Lib.hid (show askB L i a s = false by simp only [askB, h1, h2, h3, h4]; rfl)
    go_enter Try.func60, Try.ntmps60
    go_wp2
    refine wp_region_grow [.fix (.slice A L.length c), .val (.bool true), .fix (.bool true), .fix (.int .i64 i), .fix (.slice A L.length c), .val (.int .i64 L.length), .val (.int .i64 (L.length - 1)), .val (.bool true), .fix (.bool true), .fix (.bool true), .val (briV a s), .val (.bool true), .fix (.bool true), .fix (.bool true), .val (briV a s), .val (.int .i64 (a + s)), .val (.bool false), .fix (.bool false), .fix (.bool false), .fix undef, .fix undef, .fix undef, .fix undef, .fix undef, .fix undef, .fix (.bool false)] mixed (by kernel_rfl) ?_
    refine SeqG.fixStep (.inl ⟨rfl, fun _ => rfl⟩) ?_
    simp only [Act.put, List.setIfInBounds_toArray, List.set_cons_zero, List.set_cons_succ]
    refine SeqG.valStep (fun wv hbv hpv => ?_) ?_
    · go_wp2_with fail
      refine (l13Good_any _ _ _ _ (hr'.next hbv) (by omega)).mono ?_; rintro e w' ⟨he, hb⟩; rw [h1] at he; subst he
      go_wp2_with fail
      exact post_val hb
    simp only [Act.put, List.setIfInBounds_toArray, List.set_cons_zero, List.set_cons_succ]
    refine SeqG.fixStep (.inl ⟨rfl, fun _ => rfl⟩) ?_
    simp only [Act.put, List.setIfInBounds_toArray, List.set_cons_zero, List.set_cons_succ]
    refine SeqG.fixStep (.inl ⟨rfl, fun _ => rfl⟩) ?_
    simp only [Act.put, List.setIfInBounds_toArray, List.set_cons_zero, List.set_cons_succ]
    refine SeqG.fixStep (.inl ⟨rfl, fun _ => rfl⟩) ?_
    simp only [Act.put, List.setIfInBounds_toArray, List.set_cons_zero, List.set_cons_succ]
    refine SeqG.valStep (fun wv hbv hpv => ?_) ?_
    · skip
      go_wp2_with fail
      exact post_val (Below.refl _ _)
    simp only [Act.put, List.setIfInBounds_toArray, List.set_cons_zero, List.set_cons_succ]
    refine SeqG.valStep (fun wv hbv hpv => ?_) ?_
    · skip
      go_wp2_with fail
      exact post_val (Below.refl _ _)
    simp only [Act.put, List.setIfInBounds_toArray, List.set_cons_zero, List.set_cons_succ]
    refine SeqG.valStep (fun wv hbv hpv => ?_) ?_
    · go_wp2_with fail
      refine (l1In_any _ _ _ _).mono ?_; rintro e w' ⟨he, rfl⟩; rw [h2] at he; subst he
      go_wp2_with fail
      exact post_val (Below.refl _ _)
    simp only [Act.put, List.setIfInBounds_toArray, List.set_cons_zero, List.set_cons_succ]
    refine SeqG.fixStep (.inl ⟨rfl, fun _ => rfl⟩) ?_
    simp only [Act.put, List.setIfInBounds_toArray, List.set_cons_zero, List.set_cons_succ]
    refine SeqG.fixStep (.inl ⟨rfl, fun _ => rfl⟩) ?_
    simp only [Act.put, List.setIfInBounds_toArray, List.set_cons_zero, List.set_cons_succ]
    refine SeqG.valStep (fun wv hbv hpv => ?_) ?_
    · obtain ⟨cc, ff⟩ := bblk hbv (g := w.heap.size) (by simp)
      go_wp2_with fail
      exact post_val (Below.refl _ _)
    simp only [Act.put, List.setIfInBounds_toArray, List.set_cons_zero, List.set_cons_succ]
    refine SeqG.valStep (fun wv hbv hpv => ?_) ?_
    · go_wp2_with fail
      refine (l2Brine_any _ _ _).mono ?_; rintro e w' ⟨he, hb⟩; rw [h3] at he; subst he
      go_wp2_with fail
      exact post_val hb
    simp only [Act.put, List.setIfInBounds_toArray, List.set_cons_zero, List.set_cons_succ]
    refine SeqG.fixStep (.inl ⟨rfl, fun _ => rfl⟩) ?_
    simp only [Act.put, List.setIfInBounds_toArray, List.set_cons_zero, List.set_cons_succ]
    refine SeqG.fixStep (.inl ⟨rfl, fun _ => rfl⟩) ?_
    simp only [Act.put, List.setIfInBounds_toArray, List.set_cons_zero, List.set_cons_succ]
    refine SeqG.valStep (fun wv hbv hpv => ?_) ?_
    · obtain ⟨cc, ff⟩ := bblk hbv (g := w.heap.size) (by simp)
      go_wp2_with fail
      exact post_val (Below.refl _ _)
    simp only [Act.put, List.setIfInBounds_toArray, List.set_cons_zero, List.set_cons_succ]
    refine SeqG.valStep (fun wv hbv hpv => ?_) ?_
    · go_wp2_with fail
      refine (l2Mass_any _ _ _ hbr.1 hbr.2).mono ?_; rintro e w' ⟨he, hb⟩; subst he
      go_wp2_with fail
      exact post_val hb
    simp only [Act.put, List.setIfInBounds_toArray, List.set_cons_zero, List.set_cons_succ]
    refine SeqG.valStep (fun wv hbv hpv => ?_) ?_
    · skip
      go_wp2_with fail
      exact post_val (Below.refl _ _)
    simp only [Act.put, List.setIfInBounds_toArray, List.set_cons_zero, List.set_cons_succ]
    refine SeqG.fixStep (.inl ⟨rfl, fun _ => rfl⟩) ?_
    simp only [Act.put, List.setIfInBounds_toArray, List.set_cons_zero, List.set_cons_succ]
    refine SeqG.fixStep (.inl ⟨rfl, fun _ => rfl⟩) ?_
    simp only [Act.put, List.setIfInBounds_toArray, List.set_cons_zero, List.set_cons_succ]
    refine SeqG.fixStep (.inr ⟨rfl, rfl⟩) ?_
    simp only [Act.put, List.setIfInBounds_toArray, List.set_cons_zero, List.set_cons_succ]
    refine SeqG.fixStep (.inr ⟨rfl, rfl⟩) ?_
    simp only [Act.put, List.setIfInBounds_toArray, List.set_cons_zero, List.set_cons_succ]
    refine SeqG.fixStep (.inr ⟨rfl, rfl⟩) ?_
    simp only [Act.put, List.setIfInBounds_toArray, List.set_cons_zero, List.set_cons_succ]
    refine SeqG.fixStep (.inr ⟨rfl, rfl⟩) ?_
    simp only [Act.put, List.setIfInBounds_toArray, List.set_cons_zero, List.set_cons_succ]
    refine SeqG.fixStep (.inr ⟨rfl, rfl⟩) ?_
    simp only [Act.put, List.setIfInBounds_toArray, List.set_cons_zero, List.set_cons_succ]
    refine SeqG.fixStep (.inr ⟨rfl, rfl⟩) ?_
    simp only [Act.put, List.setIfInBounds_toArray, List.set_cons_zero, List.set_cons_succ]
    refine SeqG.fixStep (.inl ⟨rfl, fun _ => rfl⟩) ?_
    simp only [Act.put, List.setIfInBounds_toArray, List.set_cons_zero, List.set_cons_succ]
    refine SeqG.done fun wv hbv hpv => ?_
    clear hpv
    go_wp2_with fail
    refine NoPan.normal ?_
    go_wp2
    go_ret
    exact ⟨by rw [Hv.out]; rfl, by (repeat (first | exact Below.refl _ _ | refine Below.drew ?_ | refine below_drewN ?_ _ | (refine Below.alloc ?_ (by (try simp) <;> omega) _) | (refine Below.setCell ?_ (by (try simp) <;> omega) _) | (refine Below.trans ?_ (Below.mono (by assumption) (by (try simp) <;> omega)))))⟩
  obtain ⟨k, rfl⟩ := Int.eq_ofNat_of_zero_le hi.1
  have hkl : k < L.length := by omega
  have hx : L[k]? = some L[k] := List.getElem?_eq_getElem hkl
  obtain ⟨b, off, rfl, hB, hcs⟩ := hr (SlR.ne hx)
  have hC := hcs.below ((Below.refl w.heap.size w).alloc (Nat.le_refl _) (.cells #[.int .i64 a, .int .i64 s] 38 (0, 0))) hB
  have hBr : b < (w.alloc (.cells #[.int .i64 a, .int .i64 s] 38 (0, 0))).heap.size := by simp; omega
  have hg := ladB_rung h1 hx
  have hk0 : (0 : Int) ≤ (k : Int) := by omega
  have hk1 : (k : Int) < (L.length : Int) := by omega
  have Hv := Lib.hid (show askB L k a s = staB L[k].1 L[k].2 a s by simp only [askB, h1, h2, h3, h4, Int.toNat_natCast, hx]; simp)
  generalize L[k] = x at *
  go_enter Try.func60, Try.ntmps60
  go_wp2
  refine wp_region_grow [.fix (.slice (some ⟨b, off, none⟩) L.length c), .val (.bool true), .fix (.bool true), .fix (.int .i64 k), .fix (.slice (some ⟨b, off, none⟩) L.length c), .val (.int .i64 L.length), .val (.int .i64 (L.length - 1)), .val (.bool true), .fix (.bool true), .fix (.bool true), .val (briV a s), .val (.bool true), .fix (.bool true), .fix (.bool true), .val (briV a s), .val (.int .i64 (a + s)), .val (.bool true), .fix (.bool true), .fix (.bool true), .fix (.slice (some ⟨b, off, none⟩) L.length c), .fix (.int .i64 k), .val (.pointer (some ⟨b, off + k * 2, none⟩)), .val (.agg #[.int .i64 x.1, .int .i64 x.2]), .val (briV a s), .val (.bool (staB x.1 x.2 a s)), .fix (.bool (staB x.1 x.2 a s))] mixed (by kernel_rfl) ?_
  refine SeqG.fixStep (.inl ⟨rfl, fun _ => rfl⟩) ?_
  simp only [Act.put, List.setIfInBounds_toArray, List.set_cons_zero, List.set_cons_succ]
  refine SeqG.valStep (fun wv hbv hpv => ?_) ?_
  · go_wp2_with fail
    refine (l13Good_any _ _ _ _ (hr'.next hbv) (by omega)).mono ?_; rintro e w' ⟨he, hb⟩; rw [h1] at he; subst he
    go_wp2_with fail
    exact post_val hb
  simp only [Act.put, List.setIfInBounds_toArray, List.set_cons_zero, List.set_cons_succ]
  refine SeqG.fixStep (.inl ⟨rfl, fun _ => rfl⟩) ?_
  simp only [Act.put, List.setIfInBounds_toArray, List.set_cons_zero, List.set_cons_succ]
  refine SeqG.fixStep (.inl ⟨rfl, fun _ => rfl⟩) ?_
  simp only [Act.put, List.setIfInBounds_toArray, List.set_cons_zero, List.set_cons_succ]
  refine SeqG.fixStep (.inl ⟨rfl, fun _ => rfl⟩) ?_
  simp only [Act.put, List.setIfInBounds_toArray, List.set_cons_zero, List.set_cons_succ]
  refine SeqG.valStep (fun wv hbv hpv => ?_) ?_
  · skip
    go_wp2_with fail
    exact post_val (Below.refl _ _)
  simp only [Act.put, List.setIfInBounds_toArray, List.set_cons_zero, List.set_cons_succ]
  refine SeqG.valStep (fun wv hbv hpv => ?_) ?_
  · skip
    go_wp2_with fail
    exact post_val (Below.refl _ _)
  simp only [Act.put, List.setIfInBounds_toArray, List.set_cons_zero, List.set_cons_succ]
  refine SeqG.valStep (fun wv hbv hpv => ?_) ?_
  · go_wp2_with fail
    refine (l1In_any _ _ _ _).mono ?_; rintro e w' ⟨he, rfl⟩; rw [h2] at he; subst he
    go_wp2_with fail
    exact post_val (Below.refl _ _)
  simp only [Act.put, List.setIfInBounds_toArray, List.set_cons_zero, List.set_cons_succ]
  refine SeqG.fixStep (.inl ⟨rfl, fun _ => rfl⟩) ?_
  simp only [Act.put, List.setIfInBounds_toArray, List.set_cons_zero, List.set_cons_succ]
  refine SeqG.fixStep (.inl ⟨rfl, fun _ => rfl⟩) ?_
  simp only [Act.put, List.setIfInBounds_toArray, List.set_cons_zero, List.set_cons_succ]
  refine SeqG.valStep (fun wv hbv hpv => ?_) ?_
  · obtain ⟨cc, ff⟩ := bblk hbv (g := w.heap.size) (by simp)
    go_wp2_with fail
    exact post_val (Below.refl _ _)
  simp only [Act.put, List.setIfInBounds_toArray, List.set_cons_zero, List.set_cons_succ]
  refine SeqG.valStep (fun wv hbv hpv => ?_) ?_
  · go_wp2_with fail
    refine (l2Brine_any _ _ _).mono ?_; rintro e w' ⟨he, hb⟩; rw [h3] at he; subst he
    go_wp2_with fail
    exact post_val hb
  simp only [Act.put, List.setIfInBounds_toArray, List.set_cons_zero, List.set_cons_succ]
  refine SeqG.fixStep (.inl ⟨rfl, fun _ => rfl⟩) ?_
  simp only [Act.put, List.setIfInBounds_toArray, List.set_cons_zero, List.set_cons_succ]
  refine SeqG.fixStep (.inl ⟨rfl, fun _ => rfl⟩) ?_
  simp only [Act.put, List.setIfInBounds_toArray, List.set_cons_zero, List.set_cons_succ]
  refine SeqG.valStep (fun wv hbv hpv => ?_) ?_
  · obtain ⟨cc, ff⟩ := bblk hbv (g := w.heap.size) (by simp)
    go_wp2_with fail
    exact post_val (Below.refl _ _)
  simp only [Act.put, List.setIfInBounds_toArray, List.set_cons_zero, List.set_cons_succ]
  refine SeqG.valStep (fun wv hbv hpv => ?_) ?_
  · go_wp2_with fail
    refine (l2Mass_any _ _ _ hbr.1 hbr.2).mono ?_; rintro e w' ⟨he, hb⟩; subst he
    go_wp2_with fail
    exact post_val hb
  simp only [Act.put, List.setIfInBounds_toArray, List.set_cons_zero, List.set_cons_succ]
  refine SeqG.valStep (fun wv hbv hpv => ?_) ?_
  · skip
    go_wp2_with fail
    exact post_val (Below.refl _ _)
  simp only [Act.put, List.setIfInBounds_toArray, List.set_cons_zero, List.set_cons_succ]
  refine SeqG.fixStep (.inl ⟨rfl, fun _ => rfl⟩) ?_
  simp only [Act.put, List.setIfInBounds_toArray, List.set_cons_zero, List.set_cons_succ]
  refine SeqG.fixStep (.inl ⟨rfl, fun _ => rfl⟩) ?_
  simp only [Act.put, List.setIfInBounds_toArray, List.set_cons_zero, List.set_cons_succ]
  refine SeqG.fixStep (.inl ⟨rfl, fun _ => rfl⟩) ?_
  simp only [Act.put, List.setIfInBounds_toArray, List.set_cons_zero, List.set_cons_succ]
  refine SeqG.fixStep (.inl ⟨rfl, fun _ => rfl⟩) ?_
  simp only [Act.put, List.setIfInBounds_toArray, List.set_cons_zero, List.set_cons_succ]
  refine SeqG.valStep (fun wv hbv hpv => ?_) ?_
  · skip
    go_wp2_with fail
    exact post_val (Below.refl _ _)
  simp only [Act.put, List.setIfInBounds_toArray, List.set_cons_zero, List.set_cons_succ]
  refine SeqG.valStep (fun wv hbv hpv => ?_) ?_
  · obtain ⟨c0, c1⟩ := cells2 (hC.below hbv hBr) hx
    go_wp2_with fail
    exact post_val (Below.refl _ _)
  simp only [Act.put, List.setIfInBounds_toArray, List.set_cons_zero, List.set_cons_succ]
  refine SeqG.valStep (fun wv hbv hpv => ?_) ?_
  · obtain ⟨cc, ff⟩ := bblk hbv (g := w.heap.size) (by simp)
    go_wp2_with fail
    exact post_val (Below.refl _ _)
  simp only [Act.put, List.setIfInBounds_toArray, List.set_cons_zero, List.set_cons_succ]
  refine SeqG.valStep (fun wv hbv hpv => ?_) ?_
  · go_wp2_with fail
    refine (l13Stands_any _ _ _ _ _ (by omega) (by omega) hbr.1 hbr.2).mono ?_; rintro e w' ⟨he, hb⟩; subst he
    go_wp2_with fail
    exact post_val hb
  simp only [Act.put, List.setIfInBounds_toArray, List.set_cons_zero, List.set_cons_succ]
  refine SeqG.fixStep (.inl ⟨rfl, fun _ => rfl⟩) ?_
  simp only [Act.put, List.setIfInBounds_toArray, List.set_cons_zero, List.set_cons_succ]
  refine SeqG.done fun wv hbv hpv => ?_
  clear hpv
  go_wp2_with fail
  refine NoPan.normal ?_
  go_wp2
  go_ret
  exact ⟨by rw [Hv.out]; rfl, by (repeat (first | exact Below.refl _ _ | refine Below.drew ?_ | refine below_drewN ?_ _ | (refine Below.alloc ?_ (by (try simp) <;> omega) _) | (refine Below.setCell ?_ (by (try simp) <;> omega) _) | (refine Below.trans ?_ (Below.mono (by assumption) (by (try simp) <;> omega)))))⟩
end Go.Proofs.Ythhjbdhglaombaa
