/-
  The law FnGrains, walked.
-/
import Derived.Test.YtapfnelghmnajaaDrawV3
import Derived.Test.YtapfnelghmnajaaFngM
import Derived.Test.YtapfnelghmnajaaRsum
import Derived.Test.YtapfnelghmnajaaJs2
import Derived.Test.YtapfnelghmnajaaBrk2
import Derived.Test.YtapfnelghmnajaaSmp2
import Derived.Test.YtapfnelghmnajaaFr3
import Derived.Deep.DeepCutAuto
import Derived.WalkKit
import Derived.WalkSpells
import Derived.WalkLawsBesides
import Derived.Lib.Hide
import Derived.Deep.QuietTactic
import Derived.BigQuiet
import Derived.StillTailTactics
namespace Go.Proofs.Ytapfnelghmnajaa
open Go.RowKit

theorem fra_sum {S M : List Int} (h : fraB S M = true) (hM : M.length ≤ 22) : isum (fraL S M) = M.length ∧ ∀ x ∈ fraL S M, 0 ≤ x ∧ x ≤ 1000000 := by
  rw [fraL_yes h]
  exact ⟨frA_sum S M, fun x hx => by have := frA_bd S M hx; omega⟩

theorem smp_all {L : List Int} (h : smpB L = true) : ∀ x ∈ L, 0 ≤ x ∧ x ≤ 1000000 := fun x hx => by
  obtain ⟨k, hk, rfl⟩ := List.getElem_of_mem hx
  have := smpB_one h (List.getElem?_eq_getElem hk)
  omega
theorem jsR_inI {X Y : List Int} {n m : Nat} (hX : FewOk n X) (hY : FewOk m Y) : ∀ x ∈ jsR X Y, InI1 x := fun x hx => by
  unfold jsR at hx
  split at hx
  · unfold okL at hx
    split at hx
    · have h1 := sortL_mem hx
      rcases List.mem_append.1 h1 with h | h
      · exact hX.inI x h
      · exact hY.inI x h
    · cases hx
  · cases hx

set_option maxHeartbeats 16000000 in
set_option maxRecDepth 100000 in
theorem walk_FnGrains (A : Option Addr) (c : Nat) (L : List Int) (hI : ∀ x ∈ L, 0 ≤ x ∧ x ≤ 255) (wo : World) (hs : SlR fb 1 wo wo.heap.size A L) :
    Calls Try.prog 13 #[.slice A L.length c] wo fun e w' => e = .returned (.bool true) ∧ Below wo.heap.size wo w' := by
  by_cases hl : (65536 : Int) < L.length
  · go_enter Try.func13, Try.ntmps13
    go_wp2_with (go_at_call 47; refine (rBig_any _ _ _ _).mono ?_; rintro e w' ⟨rfl, rfl⟩)
    go_ret
    exact ⟨rfl, Below.refl _ _⟩
  have hl : (L.length : Int) ≤ 65536 := by omega
  have hz0 : (0 : Int) ≤ L.length := by omega
  go_enter Try.func13, Try.ntmps13
  go_wp2_with (go_at_call 47; refine (rBig_any _ _ _ _).mono ?_; rintro e w' ⟨rfl, rfl⟩)
  refine (DrawFractions_any A c L _ hI hl hs).mono ?_; rintro e w1 ⟨v, rfl, ⟨A1, c1, S, A2, c2, M, rfl, ⟨hS, s1⟩, hM, s2⟩, hb1⟩
  go_upto_region 4 with fail
  have k1 := Blk.new w1 30 #[.slice A2 M.length c2]
  have hb02 : Below wo.heap.size wo (w1.alloc (.cells #[.slice A2 M.length c2] 30 (0, 0))) := hb1.alloc hb1.size _
  have s3 := s1.alloc (.cells #[.slice A2 M.length c2] 30 (0, 0))
  have s4 := s2.alloc (.cells #[.slice A2 M.length c2] 30 (0, 0))
  clear s1 s2 hb1
  generalize w1.heap.size = p1 at *
  generalize w1.alloc (.cells #[.slice A2 M.length c2] 30 (0, 0)) = W2 at *
  clear w1
  have hS6 := hS.1
  have hM22 := hM.1
  have d1 := k1.cell
  go_wp2_with fail
  refine (Fractions_any _ _ S _ _ M _ s3 (by omega) hS.inI s4 (by omega) hM.inI).mono ?_; rintro e w3 ⟨A3, c3, rfl, o3, hb3⟩
  have hb03 := hb02.trans (hb3.mono hb02.size)
  have k3 := k1.below' hb3
  have s5 := s3.next hb3
  have s6 := s4.next hb3
  clear d1 k1 s3 s4 hb3 hb02
  have d3 := k3.cell
  go_wp2_with fail
  refine (SFractions_any _ _ S _ _ M _ s5 (by omega) hS.inI s6 (by omega) hM.inI).mono ?_; rintro e w5 ⟨A5, c5, rfl, o5, hb5⟩
  have hb05 := hb03.trans (hb5.mono hb03.size)
  have k5 := k3.below' hb5
  have s7 := s5.next hb5
  have r3 := (o3.next hb5).sl
  have r5 := o5.sl
  have HP := Lib.hid (fun h : fraB S M = true => fra_sum h hM22)
  have hRl := fraL_len S M
  clear d3 k3 s5 s6 hb5 hb03 o3 o5
  generalize fraL S M = R at *
  generalize hu : fraB S M = u at *
  have hM0 : (0 : Int) ≤ M.length := by omega
  go_upto_region 6 with fail
  go_cut [81] (fun v wx => v = .bool false ∧ Below w5.heap.size w5 wx)
  case first => as_aux_lemma =>
    have E1 := neI (M.length : Int)
    cases u
    · clear HP
      refine wp_region_grow [.fix (.bool false), .fix (.bool false), .val (.bool false), .fix (.bool false), .fix (.slice A3 R.length c3), .fix (.slice A5 R.length c5), .val (.bool true), .val (.bool false), .fix (.bool false), .fix (.bool false), .fix (.bool false), .fix (.bool false), .fix undef, .fix undef, .fix undef, .fix undef, .fix undef, .fix undef, .fix (.bool false), .fix (.bool false)] mixed (by kernel_rfl) ?_
      refine SeqG.fixStep (.inl ⟨rfl, fun _ => rfl⟩) ?_
      simp only [Act.put, List.setIfInBounds_toArray, List.set_cons_zero, List.set_cons_succ]
      refine SeqG.fixStep (.inl ⟨rfl, fun _ => rfl⟩) ?_
      simp only [Act.put, List.setIfInBounds_toArray, List.set_cons_zero, List.set_cons_succ]
      refine SeqG.valStep (fun wv hbv hpv => ?_) ?_
      · skip
        go_wp2_with fail
        exact post_val (Below.refl _ _)
      simp only [Act.put, List.setIfInBounds_toArray, List.set_cons_zero, List.set_cons_succ]
      refine SeqG.fixStep (.inl ⟨rfl, fun _ => rfl⟩) ?_
      simp only [Act.put, List.setIfInBounds_toArray, List.set_cons_zero, List.set_cons_succ]
      refine SeqG.fixStep (.inl ⟨rfl, fun _ => rfl⟩) ?_
      simp only [Act.put, List.setIfInBounds_toArray, List.set_cons_zero, List.set_cons_succ]
      refine SeqG.fixStep (.inl ⟨rfl, fun _ => rfl⟩) ?_
      simp only [Act.put, List.setIfInBounds_toArray, List.set_cons_zero, List.set_cons_succ]
      refine SeqG.valStep (fun wv hbv hpv => ?_) ?_
      · go_wp2_with fail
        refine (rInts_same _ _ _ _ R _ (r3.next hbv) (r5.next hbv) (by omega)).mono ?_; rintro e w' ⟨he, hb⟩; subst he
        go_wp2_with fail
        exact post_val hb
      simp only [Act.put, List.setIfInBounds_toArray, List.set_cons_zero, List.set_cons_succ]
      refine SeqG.valStep (fun wv hbv hpv => ?_) ?_
      · skip
        go_wp2_with fail
        exact post_val (Below.refl _ _)
      simp only [Act.put, List.setIfInBounds_toArray, List.set_cons_zero, List.set_cons_succ]
      refine SeqG.fixStep (.inl ⟨rfl, fun _ => rfl⟩) ?_
      simp only [Act.put, List.setIfInBounds_toArray, List.set_cons_zero, List.set_cons_succ]
      refine SeqG.fixStep (.inl ⟨rfl, fun _ => rfl⟩) ?_
      simp only [Act.put, List.setIfInBounds_toArray, List.set_cons_zero, List.set_cons_succ]
      refine SeqG.fixStep (.inl ⟨rfl, fun _ => rfl⟩) ?_
      simp only [Act.put, List.setIfInBounds_toArray, List.set_cons_zero, List.set_cons_succ]
      refine SeqG.fixStep (.inl ⟨rfl, fun _ => rfl⟩) ?_
      simp only [Act.put, List.setIfInBounds_toArray, List.set_cons_zero, List.set_cons_succ]
      refine SeqG.fixStep (.inr ⟨rfl, rfl⟩) ?_
      simp only [Act.put, List.setIfInBounds_toArray, List.set_cons_zero, List.set_cons_succ]
      refine SeqG.fixStep (.inr ⟨rfl, rfl⟩) ?_
      simp only [Act.put, List.setIfInBounds_toArray, List.set_cons_zero, List.set_cons_succ]
      refine SeqG.fixStep (.inr ⟨rfl, rfl⟩) ?_
      simp only [Act.put, List.setIfInBounds_toArray, List.set_cons_zero, List.set_cons_succ]
      refine SeqG.fixStep (.inr ⟨rfl, rfl⟩) ?_
      simp only [Act.put, List.setIfInBounds_toArray, List.set_cons_zero, List.set_cons_succ]
      refine SeqG.fixStep (.inr ⟨rfl, rfl⟩) ?_
      simp only [Act.put, List.setIfInBounds_toArray, List.set_cons_zero, List.set_cons_succ]
      refine SeqG.fixStep (.inr ⟨rfl, rfl⟩) ?_
      simp only [Act.put, List.setIfInBounds_toArray, List.set_cons_zero, List.set_cons_succ]
      refine SeqG.fixStep (.inl ⟨rfl, fun _ => rfl⟩) ?_
      simp only [Act.put, List.setIfInBounds_toArray, List.set_cons_zero, List.set_cons_succ]
      refine SeqG.fixStep (.inl ⟨rfl, fun _ => rfl⟩) ?_
      simp only [Act.put, List.setIfInBounds_toArray, List.set_cons_zero, List.set_cons_succ]
      refine SeqG.done fun wv hbv hpv => ?_
      refine NoPan.normal ?_
      clear hpv
      go_wp2_with fail
      go_meet
      exact ⟨rfl, hbv⟩
    · obtain ⟨PS, PB⟩ := HP.out rfl
      refine wp_region_grow [.fix (.bool true), .fix (.bool true), .val (.bool false), .fix (.bool false), .fix (.slice A3 R.length c3), .fix (.slice A5 R.length c5), .val (.bool true), .val (.bool false), .fix (.bool false), .fix (.bool false), .fix (.bool true), .fix (.bool true), .fix (.slice A3 R.length c3), .val (.int .i64 (M.length)), .val (.pointer (some ⟨p1, 0, none⟩)), .val (.slice A2 M.length c2), .val (.int .i64 (M.length)), .val (.bool false), .fix (.bool false), .fix (.bool false)] mixed (by kernel_rfl) ?_
      refine SeqG.fixStep (.inl ⟨rfl, fun _ => rfl⟩) ?_
      simp only [Act.put, List.setIfInBounds_toArray, List.set_cons_zero, List.set_cons_succ]
      refine SeqG.fixStep (.inl ⟨rfl, fun _ => rfl⟩) ?_
      simp only [Act.put, List.setIfInBounds_toArray, List.set_cons_zero, List.set_cons_succ]
      refine SeqG.valStep (fun wv hbv hpv => ?_) ?_
      · skip
        go_wp2_with fail
        exact post_val (Below.refl _ _)
      simp only [Act.put, List.setIfInBounds_toArray, List.set_cons_zero, List.set_cons_succ]
      refine SeqG.fixStep (.inl ⟨rfl, fun _ => rfl⟩) ?_
      simp only [Act.put, List.setIfInBounds_toArray, List.set_cons_zero, List.set_cons_succ]
      refine SeqG.fixStep (.inl ⟨rfl, fun _ => rfl⟩) ?_
      simp only [Act.put, List.setIfInBounds_toArray, List.set_cons_zero, List.set_cons_succ]
      refine SeqG.fixStep (.inl ⟨rfl, fun _ => rfl⟩) ?_
      simp only [Act.put, List.setIfInBounds_toArray, List.set_cons_zero, List.set_cons_succ]
      refine SeqG.valStep (fun wv hbv hpv => ?_) ?_
      · go_wp2_with fail
        refine (rInts_same _ _ _ _ R _ (r3.next hbv) (r5.next hbv) (by omega)).mono ?_; rintro e w' ⟨he, hb⟩; subst he
        go_wp2_with fail
        exact post_val hb
      simp only [Act.put, List.setIfInBounds_toArray, List.set_cons_zero, List.set_cons_succ]
      refine SeqG.valStep (fun wv hbv hpv => ?_) ?_
      · skip
        go_wp2_with fail
        exact post_val (Below.refl _ _)
      simp only [Act.put, List.setIfInBounds_toArray, List.set_cons_zero, List.set_cons_succ]
      refine SeqG.fixStep (.inl ⟨rfl, fun _ => rfl⟩) ?_
      simp only [Act.put, List.setIfInBounds_toArray, List.set_cons_zero, List.set_cons_succ]
      refine SeqG.fixStep (.inl ⟨rfl, fun _ => rfl⟩) ?_
      simp only [Act.put, List.setIfInBounds_toArray, List.set_cons_zero, List.set_cons_succ]
      refine SeqG.fixStep (.inl ⟨rfl, fun _ => rfl⟩) ?_
      simp only [Act.put, List.setIfInBounds_toArray, List.set_cons_zero, List.set_cons_succ]
      refine SeqG.fixStep (.inl ⟨rfl, fun _ => rfl⟩) ?_
      simp only [Act.put, List.setIfInBounds_toArray, List.set_cons_zero, List.set_cons_succ]
      refine SeqG.fixStep (.inl ⟨rfl, fun _ => rfl⟩) ?_
      simp only [Act.put, List.setIfInBounds_toArray, List.set_cons_zero, List.set_cons_succ]
      refine SeqG.valStep (fun wv hbv hpv => ?_) ?_
      · go_wp2_with fail
        refine (rSum_any _ _ R _ (r3.next hbv) (by omega) PB).mono ?_; rintro e w' ⟨he, hb⟩; rw [PS] at he; subst he
        go_wp2_with fail
        exact post_val hb
      simp only [Act.put, List.setIfInBounds_toArray, List.set_cons_zero, List.set_cons_succ]
      refine SeqG.valStep (fun wv hbv hpv => ?_) ?_
      · skip
        go_wp2_with fail
        exact post_val (Below.refl _ _)
      simp only [Act.put, List.setIfInBounds_toArray, List.set_cons_zero, List.set_cons_succ]
      refine SeqG.valStep (fun wv hbv hpv => ?_) ?_
      · have cx := (k5.below' hbv).cell
        go_wp2_with fail
        exact post_val (Below.refl _ _)
      simp only [Act.put, List.setIfInBounds_toArray, List.set_cons_zero, List.set_cons_succ]
      refine SeqG.valStep (fun wv hbv hpv => ?_) ?_
      · skip
        go_wp2_with fail
        exact post_val (Below.refl _ _)
      simp only [Act.put, List.setIfInBounds_toArray, List.set_cons_zero, List.set_cons_succ]
      refine SeqG.valStep (fun wv hbv hpv => ?_) ?_
      · skip
        go_wp2_with fail
        exact post_val (Below.refl _ _)
      simp only [Act.put, List.setIfInBounds_toArray, List.set_cons_zero, List.set_cons_succ]
      refine SeqG.fixStep (.inl ⟨rfl, fun _ => rfl⟩) ?_
      simp only [Act.put, List.setIfInBounds_toArray, List.set_cons_zero, List.set_cons_succ]
      refine SeqG.fixStep (.inl ⟨rfl, fun _ => rfl⟩) ?_
      simp only [Act.put, List.setIfInBounds_toArray, List.set_cons_zero, List.set_cons_succ]
      refine SeqG.done fun wv hbv hpv => ?_
      refine NoPan.normal ?_
      clear hpv
      go_wp2_with fail
      go_meet
      exact ⟨rfl, hbv⟩

  case rest => as_aux_lemma =>
    obtain ⟨rfl, hb6⟩ := hcut
    have hb06 := hb05.trans (hb6.mono hb05.size)
    have s8 := s7.next hb6
    clear hb6 hb05 s7 r3 r5 k5 HP hRl hM0 hu hM hM22
    go_wp2_with fail
    refine (DrawJoinSamples_any A c L _ hI hl (hs.next hb06)).mono ?_; rintro e w1 ⟨v, rfl, ⟨B1, d1, X, B2, d2, Y, rfl, ⟨hX, j1⟩, hY, j2⟩, hb1⟩
    go_upto_region 9 with fail
    have k1 := (Blk.new w1 30 #[.slice B1 X.length d1]).alloc (.cells #[.slice B2 Y.length d2] 30 (0, 0))
    have k2 := Blk.new1 w1 30 #[.slice B2 Y.length d2] (.cells #[.slice B1 X.length d1] 30 (0, 0))
    have hb02 : Below wo.heap.size wo ((w1.alloc (.cells #[.slice B1 X.length d1] 30 (0, 0))).alloc (.cells #[.slice B2 Y.length d2] 30 (0, 0))) := ((hb06.trans (hb1.mono hb06.size)).alloc (hb06.trans (hb1.mono hb06.size)).size _).alloc (by have := (hb06.trans (hb1.mono hb06.size)).size; simp; omega) _
    have s9 := ((s8.next hb1).alloc (.cells #[.slice B1 X.length d1] 30 (0, 0))).alloc (.cells #[.slice B2 Y.length d2] 30 (0, 0))
    have j3 := (j1.alloc (.cells #[.slice B1 X.length d1] 30 (0, 0))).alloc (.cells #[.slice B2 Y.length d2] 30 (0, 0))
    have j4 := (j2.alloc (.cells #[.slice B1 X.length d1] 30 (0, 0))).alloc (.cells #[.slice B2 Y.length d2] 30 (0, 0))
    clear s8 j1 j2 hb1 hb06
    generalize w1.heap.size = p1 at *
    generalize (w1.alloc (.cells #[.slice B1 X.length d1] 30 (0, 0))).alloc (.cells #[.slice B2 Y.length d2] 30 (0, 0)) = W2 at *
    clear w1
    have hX22 := hX.1
    have hY22 := hY.1
    have e1 := k1.cell
    have e2 := k2.cell
    go_wp2_with fail
    refine (JoinSamples_any _ _ X _ _ Y _ j3 (by omega) j4 (by omega)).mono ?_; rintro e w3 ⟨B3, d3, rfl, o3, hb3⟩
    have hb03 := hb02.trans (hb3.mono hb02.size)
    go_upto_region 10 with fail
    have k3 := (k1.below' hb3).alloc (.cells #[.slice B3 (jsR X Y).length d3] 30 (0, 0))
    have k4 := (k2.below' hb3).alloc (.cells #[.slice B3 (jsR X Y).length d3] 30 (0, 0))
    have k5 := Blk.new w3 30 #[.slice B3 (jsR X Y).length d3]
    have hb04 : Below wo.heap.size wo (w3.alloc (.cells #[.slice B3 (jsR X Y).length d3] 30 (0, 0))) := hb03.alloc hb03.size _
    have s10 := (s9.next hb3).alloc (.cells #[.slice B3 (jsR X Y).length d3] 30 (0, 0))
    have j5 := (j3.next hb3).alloc (.cells #[.slice B3 (jsR X Y).length d3] 30 (0, 0))
    have j6 := (j4.next hb3).alloc (.cells #[.slice B3 (jsR X Y).length d3] 30 (0, 0))
    have q3 := o3.sl.alloc (.cells #[.slice B3 (jsR X Y).length d3] 30 (0, 0))
    clear e1 e2 k1 k2 s9 j3 j4 hb3 hb02 hb03 o3
    generalize w3.heap.size = p3 at *
    generalize w3.alloc (.cells #[.slice B3 (jsR X Y).length d3] 30 (0, 0)) = W4 at *
    clear w3
    have e1 := k3.cell
    have e2 := k4.cell
    go_wp2_with fail
    refine (SJoinSamples_any _ _ X _ _ Y _ j5 (by omega) j6 (by omega)).mono ?_; rintro e w5 ⟨B5, d5, rfl, o5, hb5⟩
    have hb05 := hb04.trans (hb5.mono hb04.size)
    go_upto_region 11 with fail
    have k6 := (k3.below' hb5).alloc (.cells #[.slice B5 (jsR X Y).length d5] 30 (0, 0))
    have k7 := (k4.below' hb5).alloc (.cells #[.slice B5 (jsR X Y).length d5] 30 (0, 0))
    have k8 := (k5.below' hb5).alloc (.cells #[.slice B5 (jsR X Y).length d5] 30 (0, 0))
    have k9 := Blk.new w5 30 #[.slice B5 (jsR X Y).length d5]
    have hb06 : Below wo.heap.size wo (w5.alloc (.cells #[.slice B5 (jsR X Y).length d5] 30 (0, 0))) := hb05.alloc hb05.size _
    have s11 := (s10.next hb5).alloc (.cells #[.slice B5 (jsR X Y).length d5] 30 (0, 0))
    have j7 := (j5.next hb5).alloc (.cells #[.slice B5 (jsR X Y).length d5] 30 (0, 0))
    have j8 := (j6.next hb5).alloc (.cells #[.slice B5 (jsR X Y).length d5] 30 (0, 0))
    have q4 := (q3.next hb5).alloc (.cells #[.slice B5 (jsR X Y).length d5] 30 (0, 0))
    have q5 := o5.sl.alloc (.cells #[.slice B5 (jsR X Y).length d5] 30 (0, 0))
    clear e1 e2 k3 k4 k5 s10 j5 j6 q3 hb5 hb04 hb05 o5
    generalize w5.heap.size = p5 at *
    generalize w5.alloc (.cells #[.slice B5 (jsR X Y).length d5] 30 (0, 0)) = W6 at *
    clear w5
    have hRl := jsR_len X Y
    have HJ := Lib.hid (fun (h1 : jsU X Y = true) (h2 : fraB S X = true) => fra_join h1 h2)
    generalize jsU X Y = ju at *
    have e8 := k8.cell
    have e9 := k9.cell
    have E1 := neB ju
    go_wp2_with fail
    refine (rInts_same _ _ _ _ (jsR X Y) _ (by exact q4) (by exact q5) (by omega)).mono ?_; rintro e w7 ⟨rfl, hb7⟩
    have hb07 := hb06.trans (hb7.mono hb06.size)
    have s12 := s11.next hb7
    have j9 := j7.next hb7
    have j10 := j8.next hb7
    have q6 := q4.next hb7
    have k10 := k6.below' hb7
    have k11 := k7.below' hb7
    have k12 := k8.below' hb7
    clear e8 e9 E1 k6 k7 k8 k9 s11 j7 j8 q4 q5 hb7 hb06
    have e10 := k10.cell
    go_wp2_with fail
    refine (Fractions_any _ _ S _ _ X _ s12 (by omega) hS.inI j9 (by omega) hX.inI).mono ?_; rintro e w8 ⟨B8, d8, rfl, o8, hb8⟩
    have hb08 := hb07.trans (hb8.mono hb07.size)
    have s13 := s12.next hb8
    have j11 := j10.next hb8
    have q7 := q6.next hb8
    have k13 := k11.below' hb8
    have k14 := k12.below' hb8
    clear e10 k10 k11 k12 s12 j9 j10 q6 hb8 hb07
    generalize fraB S X = fx at *
    go_upto_region 14 with fail
    go_cut [119] (fun v wx => v = .bool (ju && fx) ∧ Below w8.heap.size w8 wx)
    case first => as_aux_lemma =>
      cases ju
      · go_wp2_with fail
        go_meet
        exact ⟨rfl, Below.refl _ _⟩
      · go_wp2_with fail
        go_meet
        exact ⟨rfl, Below.refl _ _⟩
    case rest => as_aux_lemma =>
      obtain ⟨rfl, hb9⟩ := hcut
      have hb09 := hb08.trans (hb9.mono hb08.size)
      have s14 := s13.next hb9
      have j12 := j11.next hb9
      have q8 := q7.next hb9
      have k15 := k13.below' hb9
      have k16 := k14.below' hb9
      have o9 := o8.next hb9
      clear hb9 hb08 s13 j11 q7 k13 k14 o8
      go_upto_if 119 with fail
      go_cut [] (fun wx => Below wo.heap.size wo wx)
      case first => as_aux_lemma =>
        cases ju
        · simp only [Bool.false_and]
          go_wp2_with fail
          go_meet
          exact hb09
        cases fx
        · simp only [Bool.and_false]
          go_wp2_with fail
          go_meet
          exact hb09
        simp only [Bool.and_true]
        obtain ⟨f1, f2, f3, f4, f5⟩ := HJ.out rfl rfl
        have HC := Lib.hid (fun i (hi : i < (frA S (sortL (X ++ Y))).length) => frA_join S X Y hi)
        have HX9 := Lib.hid (fun x (hx : x ∈ frA S X) => frA_bd S X hx)
        have HY9 := Lib.hid (fun x (hx : x ∈ frA S Y) => frA_bd S Y hx)
        obtain ⟨N, hN⟩ : ∃ N, S.length + 1 = N := ⟨_, rfl⟩
        have hN7 : N ≤ 7 := by have := hS.1; omega
        have L1 : (frA S X).length = N := by rw [frA_len, hN]
        have L2 : (frA S Y).length = N := by rw [frA_len, hN]
        have L3 : (frA S (sortL (X ++ Y))).length = N := by rw [frA_len, hN]
        clear hN
        rw [f3] at o9 ⊢
        have q9 := o9.sl
        have e15 := k15.cell
        have e16 := k16.cell
        go_wp2_with fail
        refine (Fractions_any _ _ S _ _ Y _ s14 (by omega) hS.inI j12 (by omega) hY.inI).mono ?_; rintro e w1 ⟨C1, g1, rfl, o1, hb1⟩
        rw [f1, f4]
        rw [f4] at o1
        have hb01 := hb09.trans (hb1.mono hb09.size)
        have s15 := s14.next hb1
        have q10 := q8.next hb1
        have q11 := q9.next hb1
        have e17 := (k16.below' hb1).cell
        clear e15 e16 k15 k16 j12 q8 q9 o9 s14
        go_wp2_with fail
        refine (Fractions_any _ _ S _ _ (jsR X Y) _ s15 (by omega) hS.inI q10 (by omega) (fun x hx => jsR_inI hX hY x hx)).mono ?_; rintro e w2 ⟨C2, g2, rfl, o2, hb2⟩
        rw [f2, f5]
        rw [f5] at o2
        have hb02 := hb01.trans (hb2.mono hb01.size)
        have t1 := q11.next hb2
        have t2 := (o1.next hb2).sl
        have t3 := o2.sl
        have HF3 := Lib.hid f3
        clear e17 s15 q10 q11 o1 o2 hb1 hb2 hb01 hb09 f1 f2 f3 f4 f5
        generalize frA S X = FX at *
        generalize frA S Y = FY at *
        generalize frA S (sortL (X ++ Y)) = FZ at *
        simp only [L3]
        have hN0 : (0 : Int) ≤ N := by omega
        have HL := Lib.hid (And.intro L1 (And.intro L2 L3))
        have E1 := neI (N : Int)
        clear L1 L2 L3
        go_wp2
        go_loopw [21] (fun v wr => ∃ k : Nat, v = .int .i64 k ∧ k ≤ N ∧ Below w2.heap.size w2 wr) (fun v _ => (N - intOf v).toNat)
        case atStart => exact ⟨0, rfl, by omega, Below.refl _ _⟩
        case round =>
          obtain ⟨k, rfl, hk, hbw⟩ := hrel
          by_cases hlt : k < N
          · obtain ⟨x, y, z, hx, hy, hz, rfl⟩ := HC.out k (by have := HL.out.2.2; omega)
            have bx := HX9.out x (List.mem_of_getElem? hx)
            have bY := HY9.out y (List.mem_of_getElem? hy)
            obtain ⟨b, off, rfl, hB, hcs⟩ := t1 (SlR.ne hx)
            obtain ⟨b', off', rfl, hB', hcs'⟩ := t2 (SlR.ne hy)
            obtain ⟨b'', off'', rfl, hB'', hcs''⟩ := t3 (SlR.ne hz)
            have n0 := cells1 (hcs.below hbw hB) hx
            have n1 := cells1 (hcs'.below hbw hB') hy
            have n2 := cells1 (hcs''.below hbw hB'') hz
            have zw := hbw.size
            have m0 : b < wr.heap.size := by omega
            have m1 : b' < wr.heap.size := by omega
            have m2 : b'' < wr.heap.size := by omega
            have hk0 : (0 : Int) ≤ (k : Int) := by omega
            have hk1 : (k : Int) < (N : Int) := by omega
            have E2 := neI (x + y)
            have bx1 := bx.1
            have bx2 : x ≤ 22 := by omega
            have by1 := bY.1
            have by2 : y ≤ 22 := by omega
            clear hcs hcs' hcs'' t1 t2 t3 hx hy hz bx bY E1
            go_wp2
            go_quiet (fail)
            go_wp2
            go_roundw
            case rel => exact ⟨k + 1, by go_num, by omega, by first | exact hbw | exact below_drewN hbw _⟩
            case measure => simp only [intOf]; omega
          · obtain rfl : k = N := by omega
            clear t1 t2 t3 E1
            go_wp2
            rw [← HL.out.1, ← HF3.out]
            go_meet
            exact hb02.trans (hbw.mono hb02.size)
      case rest => as_aux_lemma =>
        have hb4 := hcut; clear hcut
        clear HJ s14 j12 q8 k15 k16 o9 hb09
        go_wp2_with fail
        refine (DrawSieveFor_any A c L _ hI hl (hs.next hb4)).mono ?_; rintro e w1 ⟨v, rfl, ⟨B1, d1, T, pc, rfl, ⟨hT, j1⟩, hpc⟩, hb1⟩
        go_upto_region 25 with fail
        have k1 := Blk.new w1 30 #[.slice B1 T.length d1]
        have hb02 : Below wo.heap.size wo (w1.alloc (.cells #[.slice B1 T.length d1] 30 (0, 0))) := (hb4.trans (hb1.mono hb4.size)).alloc (hb4.trans (hb1.mono hb4.size)).size _
        have j3 := j1.alloc (.cells #[.slice B1 T.length d1] 30 (0, 0))
        clear j1 hb1 hb4
        generalize w1.heap.size = p1 at *
        generalize w1.alloc (.cells #[.slice B1 T.length d1] 30 (0, 0)) = W2 at *
        clear w1
        have hT22 := hT.1
        obtain ⟨so, su, hj⟩ := sfV_form T pc
        have HJ := Lib.hid hj; clear hj
        have hT0 : (0 : Int) ≤ T.length := by omega
        have e1 := k1.cell
        go_wp2_with fail
        refine (SieveFor_any _ _ T pc _ j3 (by omega)).mono ?_; rintro e w3 ⟨he, hb3⟩; rw [HJ.out] at he; subst he
        have hb03 := hb02.trans (hb3.mono hb02.size)
        have k3 := k1.below' hb3
        have j4 := j3.next hb3
        clear e1 k1 j3 hb3 hb02
        have e3 := k3.cell
        go_wp2_with fail
        refine (SSieveFor_any _ _ T pc _ j4 (by omega)).mono ?_; rintro e w5 ⟨he, hb5⟩; rw [HJ.out] at he; subst he
        have hb05 := hb03.trans (hb5.mono hb03.size)
        have k5 := k3.below' hb5
        have j5 := j4.next hb5
        clear e3 k3 j4 hb5 hb03
        have E1 := neI so
        have E2 := neB su
        go_upto_if 197 with fail
        clear E1 E2
        go_cut [] (fun wx => Below w5.heap.size w5 wx)
        case first => as_aux_lemma =>
          cases su
          · clear HJ
            go_wp2_with fail
            go_meet
            exact Below.refl _ _
          obtain ⟨⟨g1, g2⟩, ⟨g3, g4⟩, g5, g6, g7, g8⟩ := sf_plain HJ.out
          obtain ⟨v0, hv0, v1, v2⟩ := frA_at [so] T (i := 0) (by simp)
          rw [getD_of hv0] at g6
          have HV0 := Lib.hid hv0
          have G7 := Lib.hid g7
          have L1 : (frA [so] T).length = 2 := by rw [frA_len]; rfl
          have hP0 : 0 ≤ pc * (T.length : Int) := Int.mul_nonneg (by omega) hT0
          have hP1 : pc * (T.length : Int) ≤ 2000 := by
            have h1 : pc * (T.length : Int) ≤ 100 * (T.length : Int) := Int.mul_le_mul_of_nonneg_right g2 hT0
            omega
          have HL1 := Lib.hid L1
          have q6 : decide (100 * v0 < pc * (T.length : Int)) = false := by rw [decide_eq_false_iff_not]; omega
          have e5 := k5.cell
          have l5 := k5.lt
          clear HJ hv0 g7 L1 g6
          go_wp2_with fail
          refine (Fractions_any _ _ [so] _ _ T _ (slR_new1 _ _ _) (by simp) (fun x hx => by rw [List.mem_singleton] at hx; subst hx; exact ⟨by show _ ≤ x; omega, by show x ≤ _; omega⟩) (j5.alloc _) (by omega) hT.inI).mono ?_; rintro e w6 ⟨C1, h1, rfl, o1, hb6⟩
          rw [g5, fraL_yes g5]
          rw [fraL_yes g5] at o1
          have zb6 := hb6.size
          simp at zb6
          have hb6' : Below w5.heap.size w5 w6 := ((Below.refl w5.heap.size w5).alloc (Nat.le_refl _) (.cells #[.int .i64 so] 3 (0, 0))).trans (hb6.mono (by simp))
          have e6 := (k5.below' hb6').cell
          have l6 := (k5.below' hb6').lt
          have j6 := j5.next hb6'
          clear e5 l5 hb6
          go_wp2_with fail
          refine (Fractions_any _ _ [so + 1] _ _ T _ (slR_new1 _ _ _) (by simp) (fun x hx => by rw [List.mem_singleton] at hx; subst hx; exact ⟨by omega, by omega⟩) (j6.alloc _) (by omega) hT.inI).mono ?_; rintro e w7 ⟨C2, h2, rfl, o2, hb7⟩
          have zb7 := hb7.size
          simp at zb7
          have hb7' : Below w6.heap.size w6 w7 := ((Below.refl w6.heap.size w6).alloc (Nat.le_refl _) (.cells #[.int .i64 (so + 1)] 3 (0, 0))).trans (hb7.mono (by simp))
          have o1' := (o1.next hb7').sl
          have o2' := o2.sl
          have e7 := ((k5.below' hb6').below' hb7').cell
          have l7 := ((k5.below' hb6').below' hb7').lt
          have hB7 := hb6'.trans (hb7'.mono hb6'.size)
          obtain ⟨b1, of1, rfl, hl1, hc1⟩ := o1' (SlR.ne HV0.out)
          have n0 := cells1 hc1 HV0.out
          rw [Nat.add_zero] at n0
          rw [HL1.out]
          clear e6 l6 j6 hb6' hb7' hb7 o1 o2 o1' hc1 g5
          cases hw : fraB [so + 1] T
          · rw [fraL_no hw]
            clear o2'
            go_wp2_with fail
            go_meet
            exact hB7
          · obtain ⟨v3, hv3, v4, v5⟩ := frA_at [so + 1] T (i := 0) (by simp)
            have g7 := G7.out hw
            rw [getD_of hv3] at g7
            have L2 : (frA [so + 1] T).length = 2 := by rw [frA_len]; rfl
            rw [fraL_yes hw] at o2' ⊢
            rw [L2]
            obtain ⟨b2, of2, rfl, hl2, hc2⟩ := o2' (SlR.ne hv3)
            have n1 := cells1 hc2 hv3
            rw [Nat.add_zero] at n1
            have q7 : decide (pc * (T.length : Int) ≤ 100 * v3) = false := by rw [decide_eq_false_iff_not]; omega
            clear hc2 o2' hv3 L2 g7 hw
            go_wp2_with fail
            go_meet
            exact hB7
        case rest => as_aux_lemma =>
          have hb6 := hcut; clear hcut
          have hb06 := hb05.trans (hb6.mono hb05.size)
          have k6 := k5.below' hb6
          have j6 := j5.next hb6
          clear HJ hb6 hb05 k5 j5
          go_wp2_with fail
          refine (DrawBrokenGrains_any A c L _ hI hl (hs.next hb06)).mono ?_; rintro e w7 ⟨v, rfl, ⟨D1, f1, U, zz, rfl, ⟨hU, y1⟩, hzz⟩, hb7⟩
          go_upto_region 36 with fail
          have k7 := Blk.new w7 30 #[.slice D1 U.length f1]
          have k8 := (k6.below' hb7).alloc (.cells #[.slice D1 U.length f1] 30 (0, 0))
          have j8 := (j6.next hb7).alloc (.cells #[.slice D1 U.length f1] 30 (0, 0))
          have y3 := y1.alloc (.cells #[.slice D1 U.length f1] 30 (0, 0))
          have hb08 : Below wo.heap.size wo (w7.alloc (.cells #[.slice D1 U.length f1] 30 (0, 0))) := (hb06.trans (hb7.mono hb06.size)).alloc (hb06.trans (hb7.mono hb06.size)).size _
          clear k6 j6 y1 hb7 hb06
          generalize w7.heap.size = p7 at *
          generalize w7.alloc (.cells #[.slice D1 U.length f1] 30 (0, 0)) = W8 at *
          clear w7
          have hU22 := hU.1
          have e7 := k7.cell
          have HB := Lib.hid (fun h : brkU U zz = true => brk_plain h)
          have hRl := brkR_len U zz
          go_wp2_with fail
          refine (BrokenGrains_any _ _ U zz _ y3 (by omega)).mono ?_; rintro e w9 ⟨D3, f3, rfl, o9, hb9⟩
          go_upto_region 37 with fail
          have k9 := Blk.new w9 30 #[.slice D3 (brkR U zz).length f3]
          have k10 := (k7.below' hb9).alloc (.cells #[.slice D3 (brkR U zz).length f3] 30 (0, 0))
          have k11 := (k8.below' hb9).alloc (.cells #[.slice D3 (brkR U zz).length f3] 30 (0, 0))
          have j11 := (j8.next hb9).alloc (.cells #[.slice D3 (brkR U zz).length f3] 30 (0, 0))
          have y4 := (y3.next hb9).alloc (.cells #[.slice D3 (brkR U zz).length f3] 30 (0, 0))
          have r4 := o9.sl.alloc (.cells #[.slice D3 (brkR U zz).length f3] 30 (0, 0))
          have hb10 : Below wo.heap.size wo (w9.alloc (.cells #[.slice D3 (brkR U zz).length f3] 30 (0, 0))) := (hb08.trans (hb9.mono hb08.size)).alloc (hb08.trans (hb9.mono hb08.size)).size _
          clear e7 k7 k8 j8 y3 hb9 hb08 o9
          generalize w9.heap.size = p9 at *
          generalize w9.alloc (.cells #[.slice D3 (brkR U zz).length f3] 30 (0, 0)) = W10 at *
          clear w9
          have e10 := k10.cell
          go_wp2_with fail
          refine (SBrokenGrains_any _ _ U zz _ y4 (by omega)).mono ?_; rintro e w11 ⟨D5, f5, rfl, o11, hb11⟩
          go_upto_region 38 with fail
          have k12 := Blk.new w11 30 #[.slice D5 (brkR U zz).length f5]
          have k13 := (k9.below' hb11).alloc (.cells #[.slice D5 (brkR U zz).length f5] 30 (0, 0))
          have k14 := (k10.below' hb11).alloc (.cells #[.slice D5 (brkR U zz).length f5] 30 (0, 0))
          have k15 := (k11.below' hb11).alloc (.cells #[.slice D5 (brkR U zz).length f5] 30 (0, 0))
          have j15 := (j11.next hb11).alloc (.cells #[.slice D5 (brkR U zz).length f5] 30 (0, 0))
          have y5 := (y4.next hb11).alloc (.cells #[.slice D5 (brkR U zz).length f5] 30 (0, 0))
          have r5 := (r4.next hb11).alloc (.cells #[.slice D5 (brkR U zz).length f5] 30 (0, 0))
          have r6 := o11.sl.alloc (.cells #[.slice D5 (brkR U zz).length f5] 30 (0, 0))
          have hb12 : Below wo.heap.size wo (w11.alloc (.cells #[.slice D5 (brkR U zz).length f5] 30 (0, 0))) := (hb10.trans (hb11.mono hb10.size)).alloc (hb10.trans (hb11.mono hb10.size)).size _
          clear e10 k9 k10 k11 j11 y4 r4 hb11 hb10 o11
          generalize w11.heap.size = p11 at *
          generalize w11.alloc (.cells #[.slice D5 (brkR U zz).length f5] 30 (0, 0)) = W12 at *
          clear w11
          generalize brkR U zz = R2 at *
          generalize brkU U zz = bu at *
          go_cut [290] (fun v wx => v = .bool false ∧ Below W12.heap.size W12 wx)
          case first => as_aux_lemma =>
            cases bu
            · clear HB
              refine wp_region_grow [.fix (.bool false), .fix (.bool false), .val (.bool false), .fix (.bool false), .val (.pointer (some ⟨p9, 0, none⟩)), .val (.slice D3 R2.length f3), .val (.pointer (some ⟨p11, 0, none⟩)), .val (.slice D5 R2.length f5), .val (.bool true), .val (.bool false), .fix (.bool false), .fix (.bool false), .fix (.bool false), .fix (.bool false), .fix undef, .fix undef, .fix undef, .fix undef, .fix undef, .fix undef, .fix undef, .fix (.bool false), .fix (.bool false)] mixed (by kernel_rfl) ?_
              refine SeqG.fixStep (.inl ⟨rfl, fun _ => rfl⟩) ?_
              simp only [Act.put, List.setIfInBounds_toArray, List.set_cons_zero, List.set_cons_succ]
              refine SeqG.fixStep (.inl ⟨rfl, fun _ => rfl⟩) ?_
              simp only [Act.put, List.setIfInBounds_toArray, List.set_cons_zero, List.set_cons_succ]
              refine SeqG.valStep (fun wv hbv hpv => ?_) ?_
              · skip
                go_wp2_with fail
                exact post_val (Below.refl _ _)
              simp only [Act.put, List.setIfInBounds_toArray, List.set_cons_zero, List.set_cons_succ]
              refine SeqG.fixStep (.inl ⟨rfl, fun _ => rfl⟩) ?_
              simp only [Act.put, List.setIfInBounds_toArray, List.set_cons_zero, List.set_cons_succ]
              refine SeqG.valStep (fun wv hbv hpv => ?_) ?_
              · skip
                go_wp2_with fail
                exact post_val (Below.refl _ _)
              simp only [Act.put, List.setIfInBounds_toArray, List.set_cons_zero, List.set_cons_succ]
              refine SeqG.valStep (fun wv hbv hpv => ?_) ?_
              · have cx := (k13.below' hbv).cell
                go_wp2_with fail
                exact post_val (Below.refl _ _)
              simp only [Act.put, List.setIfInBounds_toArray, List.set_cons_zero, List.set_cons_succ]
              refine SeqG.valStep (fun wv hbv hpv => ?_) ?_
              · skip
                go_wp2_with fail
                exact post_val (Below.refl _ _)
              simp only [Act.put, List.setIfInBounds_toArray, List.set_cons_zero, List.set_cons_succ]
              refine SeqG.valStep (fun wv hbv hpv => ?_) ?_
              · have cx := (k12.below' hbv).cell
                go_wp2_with fail
                exact post_val (Below.refl _ _)
              simp only [Act.put, List.setIfInBounds_toArray, List.set_cons_zero, List.set_cons_succ]
              refine SeqG.valStep (fun wv hbv hpv => ?_) ?_
              · go_wp2_with fail
                refine (rInts_same _ _ _ _ R2 _ (r5.next hbv) (r6.next hbv) (by omega)).mono ?_; rintro e w' ⟨he, hb⟩; subst he
                go_wp2_with fail
                exact post_val hb
              simp only [Act.put, List.setIfInBounds_toArray, List.set_cons_zero, List.set_cons_succ]
              refine SeqG.valStep (fun wv hbv hpv => ?_) ?_
              · skip
                go_wp2_with fail
                exact post_val (Below.refl _ _)
              simp only [Act.put, List.setIfInBounds_toArray, List.set_cons_zero, List.set_cons_succ]
              refine SeqG.fixStep (.inl ⟨rfl, fun _ => rfl⟩) ?_
              simp only [Act.put, List.setIfInBounds_toArray, List.set_cons_zero, List.set_cons_succ]
              refine SeqG.fixStep (.inl ⟨rfl, fun _ => rfl⟩) ?_
              simp only [Act.put, List.setIfInBounds_toArray, List.set_cons_zero, List.set_cons_succ]
              refine SeqG.fixStep (.inl ⟨rfl, fun _ => rfl⟩) ?_
              simp only [Act.put, List.setIfInBounds_toArray, List.set_cons_zero, List.set_cons_succ]
              refine SeqG.fixStep (.inl ⟨rfl, fun _ => rfl⟩) ?_
              simp only [Act.put, List.setIfInBounds_toArray, List.set_cons_zero, List.set_cons_succ]
              refine SeqG.fixStep (.inr ⟨rfl, rfl⟩) ?_
              simp only [Act.put, List.setIfInBounds_toArray, List.set_cons_zero, List.set_cons_succ]
              refine SeqG.fixStep (.inr ⟨rfl, rfl⟩) ?_
              simp only [Act.put, List.setIfInBounds_toArray, List.set_cons_zero, List.set_cons_succ]
              refine SeqG.fixStep (.inr ⟨rfl, rfl⟩) ?_
              simp only [Act.put, List.setIfInBounds_toArray, List.set_cons_zero, List.set_cons_succ]
              refine SeqG.fixStep (.inr ⟨rfl, rfl⟩) ?_
              simp only [Act.put, List.setIfInBounds_toArray, List.set_cons_zero, List.set_cons_succ]
              refine SeqG.fixStep (.inr ⟨rfl, rfl⟩) ?_
              simp only [Act.put, List.setIfInBounds_toArray, List.set_cons_zero, List.set_cons_succ]
              refine SeqG.fixStep (.inr ⟨rfl, rfl⟩) ?_
              simp only [Act.put, List.setIfInBounds_toArray, List.set_cons_zero, List.set_cons_succ]
              refine SeqG.fixStep (.inr ⟨rfl, rfl⟩) ?_
              simp only [Act.put, List.setIfInBounds_toArray, List.set_cons_zero, List.set_cons_succ]
              refine SeqG.fixStep (.inl ⟨rfl, fun _ => rfl⟩) ?_
              simp only [Act.put, List.setIfInBounds_toArray, List.set_cons_zero, List.set_cons_succ]
              refine SeqG.fixStep (.inl ⟨rfl, fun _ => rfl⟩) ?_
              simp only [Act.put, List.setIfInBounds_toArray, List.set_cons_zero, List.set_cons_succ]
              refine SeqG.done fun wv hbv hpv => ?_
              refine NoPan.normal ?_
              clear hpv
              go_wp2_with fail
              go_meet
              exact ⟨rfl, hbv⟩
            · obtain ⟨PS, PU, PR⟩ := HB.out rfl
              have B1 := smp_all PU
              have B2 := smp_all PR
              have E1 := neI (isum U)
              refine wp_region_grow [.fix (.bool true), .fix (.bool true), .val (.bool false), .fix (.bool false), .val (.pointer (some ⟨p9, 0, none⟩)), .val (.slice D3 R2.length f3), .val (.pointer (some ⟨p11, 0, none⟩)), .val (.slice D5 R2.length f5), .val (.bool true), .val (.bool false), .fix (.bool false), .fix (.bool false), .fix (.bool true), .fix (.bool true), .val (.pointer (some ⟨p9, 0, none⟩)), .val (.slice D3 R2.length f3), .val (.int .i64 (isum U)), .val (.pointer (some ⟨p7, 0, none⟩)), .val (.slice D1 U.length f1), .val (.int .i64 (isum U)), .val (.bool false), .fix (.bool false), .fix (.bool false)] mixed (by kernel_rfl) ?_
              refine SeqG.fixStep (.inl ⟨rfl, fun _ => rfl⟩) ?_
              simp only [Act.put, List.setIfInBounds_toArray, List.set_cons_zero, List.set_cons_succ]
              refine SeqG.fixStep (.inl ⟨rfl, fun _ => rfl⟩) ?_
              simp only [Act.put, List.setIfInBounds_toArray, List.set_cons_zero, List.set_cons_succ]
              refine SeqG.valStep (fun wv hbv hpv => ?_) ?_
              · skip
                go_wp2_with fail
                exact post_val (Below.refl _ _)
              simp only [Act.put, List.setIfInBounds_toArray, List.set_cons_zero, List.set_cons_succ]
              refine SeqG.fixStep (.inl ⟨rfl, fun _ => rfl⟩) ?_
              simp only [Act.put, List.setIfInBounds_toArray, List.set_cons_zero, List.set_cons_succ]
              refine SeqG.valStep (fun wv hbv hpv => ?_) ?_
              · skip
                go_wp2_with fail
                exact post_val (Below.refl _ _)
              simp only [Act.put, List.setIfInBounds_toArray, List.set_cons_zero, List.set_cons_succ]
              refine SeqG.valStep (fun wv hbv hpv => ?_) ?_
              · have cx := (k13.below' hbv).cell
                go_wp2_with fail
                exact post_val (Below.refl _ _)
              simp only [Act.put, List.setIfInBounds_toArray, List.set_cons_zero, List.set_cons_succ]
              refine SeqG.valStep (fun wv hbv hpv => ?_) ?_
              · skip
                go_wp2_with fail
                exact post_val (Below.refl _ _)
              simp only [Act.put, List.setIfInBounds_toArray, List.set_cons_zero, List.set_cons_succ]
              refine SeqG.valStep (fun wv hbv hpv => ?_) ?_
              · have cx := (k12.below' hbv).cell
                go_wp2_with fail
                exact post_val (Below.refl _ _)
              simp only [Act.put, List.setIfInBounds_toArray, List.set_cons_zero, List.set_cons_succ]
              refine SeqG.valStep (fun wv hbv hpv => ?_) ?_
              · go_wp2_with fail
                refine (rInts_same _ _ _ _ R2 _ (r5.next hbv) (r6.next hbv) (by omega)).mono ?_; rintro e w' ⟨he, hb⟩; subst he
                go_wp2_with fail
                exact post_val hb
              simp only [Act.put, List.setIfInBounds_toArray, List.set_cons_zero, List.set_cons_succ]
              refine SeqG.valStep (fun wv hbv hpv => ?_) ?_
              · skip
                go_wp2_with fail
                exact post_val (Below.refl _ _)
              simp only [Act.put, List.setIfInBounds_toArray, List.set_cons_zero, List.set_cons_succ]
              refine SeqG.fixStep (.inl ⟨rfl, fun _ => rfl⟩) ?_
              simp only [Act.put, List.setIfInBounds_toArray, List.set_cons_zero, List.set_cons_succ]
              refine SeqG.fixStep (.inl ⟨rfl, fun _ => rfl⟩) ?_
              simp only [Act.put, List.setIfInBounds_toArray, List.set_cons_zero, List.set_cons_succ]
              refine SeqG.fixStep (.inl ⟨rfl, fun _ => rfl⟩) ?_
              simp only [Act.put, List.setIfInBounds_toArray, List.set_cons_zero, List.set_cons_succ]
              refine SeqG.fixStep (.inl ⟨rfl, fun _ => rfl⟩) ?_
              simp only [Act.put, List.setIfInBounds_toArray, List.set_cons_zero, List.set_cons_succ]
              refine SeqG.valStep (fun wv hbv hpv => ?_) ?_
              · skip
                go_wp2_with fail
                exact post_val (Below.refl _ _)
              simp only [Act.put, List.setIfInBounds_toArray, List.set_cons_zero, List.set_cons_succ]
              refine SeqG.valStep (fun wv hbv hpv => ?_) ?_
              · have cx := (k13.below' hbv).cell
                go_wp2_with fail
                exact post_val (Below.refl _ _)
              simp only [Act.put, List.setIfInBounds_toArray, List.set_cons_zero, List.set_cons_succ]
              refine SeqG.valStep (fun wv hbv hpv => ?_) ?_
              · go_wp2_with fail
                refine (rSum_any _ _ R2 _ (r5.next hbv) (by omega) B2).mono ?_; rintro e w' ⟨he, hb⟩; rw [PS] at he; subst he
                go_wp2_with fail
                exact post_val hb
              simp only [Act.put, List.setIfInBounds_toArray, List.set_cons_zero, List.set_cons_succ]
              refine SeqG.valStep (fun wv hbv hpv => ?_) ?_
              · skip
                go_wp2_with fail
                exact post_val (Below.refl _ _)
              simp only [Act.put, List.setIfInBounds_toArray, List.set_cons_zero, List.set_cons_succ]
              refine SeqG.valStep (fun wv hbv hpv => ?_) ?_
              · have cx := (k14.below' hbv).cell
                go_wp2_with fail
                exact post_val (Below.refl _ _)
              simp only [Act.put, List.setIfInBounds_toArray, List.set_cons_zero, List.set_cons_succ]
              refine SeqG.valStep (fun wv hbv hpv => ?_) ?_
              · go_wp2_with fail
                refine (rSum_any _ _ U _ (y5.next hbv) (by omega) B1).mono ?_; rintro e w' ⟨he, hb⟩; subst he
                go_wp2_with fail
                exact post_val hb
              simp only [Act.put, List.setIfInBounds_toArray, List.set_cons_zero, List.set_cons_succ]
              refine SeqG.valStep (fun wv hbv hpv => ?_) ?_
              · skip
                go_wp2_with fail
                exact post_val (Below.refl _ _)
              simp only [Act.put, List.setIfInBounds_toArray, List.set_cons_zero, List.set_cons_succ]
              refine SeqG.fixStep (.inl ⟨rfl, fun _ => rfl⟩) ?_
              simp only [Act.put, List.setIfInBounds_toArray, List.set_cons_zero, List.set_cons_succ]
              refine SeqG.fixStep (.inl ⟨rfl, fun _ => rfl⟩) ?_
              simp only [Act.put, List.setIfInBounds_toArray, List.set_cons_zero, List.set_cons_succ]
              refine SeqG.done fun wv hbv hpv => ?_
              refine NoPan.normal ?_
              clear hpv
              go_wp2_with fail
              go_meet
              exact ⟨rfl, hbv⟩
          case rest => as_aux_lemma =>
            obtain ⟨rfl, hb13⟩ := hcut
            have hb14 := hb12.trans (hb13.mono hb12.size)
            have k16 := k15.below' hb13
            have j16 := j15.next hb13
            clear HB hRl hb13 hb12 k15 j15 k12 k13 k14 y5 r5 r6
            have e16 := k16.cell
            go_wp2_with fail
            refine (MedianSize_any _ _ T _ j16 (by omega)).mono ?_; rintro e w15 ⟨rfl, hb15⟩
            have hb15' := hb14.trans (hb15.mono hb14.size)
            have k17 := k16.below' hb15
            have j17 := j16.next hb15
            clear e16 k16 j16 hb15 hb14
            have e17 := k17.cell
            go_wp2_with fail
            refine (SMedianSize_any _ _ T _ j17 (by omega)).mono ?_; rintro e w17 ⟨rfl, hb17⟩
            have hb17' := hb15'.trans (hb17.mono hb15'.size)
            have k18 := k17.below' hb17
            have j18 := j17.next hb17
            clear e17 k17 j17 hb17 hb15'
            have e18 := k18.cell
            go_wp2_with fail
            refine (IsSample_any _ _ T _ j18 (by omega)).mono ?_; rintro e w19 ⟨rfl, hb19⟩
            have hb20 := hb17'.trans (hb19.mono hb17'.size)
            go_wp2
            go_ret
            exact ⟨rfl, hb20⟩

end Go.Proofs.Ytapfnelghmnajaa
