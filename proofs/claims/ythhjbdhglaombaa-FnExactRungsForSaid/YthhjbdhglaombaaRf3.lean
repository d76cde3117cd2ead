/-
  The law on RungsFor, walked.
-/
import Derived.Test.YthhjbdhglaombaaRf2
namespace Go.Proofs.Ythhjbdhglaombaa
open Go.RowKit

/-- A slice value that reads as L. -/
def SlV {α : Type} (f : α → List Value) (m : Nat) (L : List α) (v : Value) (w : World) : Prop := ∃ A c, v = .slice A L.length c ∧ SlR f m w w.heap.size A L
theorem SlV.next {α : Type} {f : α → List Value} {m : Nat} {L : List α} : ∀ (v : Value) (w w' : World), Below w.heap.size w w' → SlV f m L v w → SlV f m L v w' := fun v w w' hb h => by
  obtain ⟨A, c, hv, hs⟩ := h
  exact ⟨A, c, hv, hs.next hb⟩

/-- A pair of a slice that reads as L and a Bool. -/
def TuV {α : Type} (f : α → List Value) (m : Nat) (L : List α) (u : Bool) (v : Value) (w : World) : Prop := ∃ A c, v = .tuple #[.slice A L.length c, .bool u] ∧ SlR f m w w.heap.size A L
theorem TuV.next {α : Type} {f : α → List Value} {m : Nat} {L : List α} {u : Bool} : ∀ (v : Value) (w w' : World), Below w.heap.size w w' → TuV f m L u v w → TuV f m L u v w' := fun v w w' hb h => by
  obtain ⟨A, c, hv, hs⟩ := h
  exact ⟨A, c, hv, hs.next hb⟩

set_option maxHeartbeats 4000000 in
theorem walk_RungsFor (A : Option Addr) (c : Nat) (L : List (Int × Int)) (hn : (L.length : Int) ≤ 9223372036854775807) (_hI : ∀ x ∈ L, InI2 x) (a s : Int) (_ha : InI a ∧ InI s) (w : World) (hr : SlR f2 2 w w.heap.size A L) :
    Calls Try.prog 9 #[.slice A L.length c, .agg #[.int .i64 a, .int .i64 s]] w fun e w' => e = .returned (.bool true) ∧ Below w.heap.size w w' := by
  clear _hI _ha
  by_cases hs : (1048576 : Int) - L.length < 0
  · have Hv := Lib.hid (show szV 1048576 L.length = -1 from if_pos hs)
    go_enter Try.func9, Try.ntmps9
    go_wp2_with fail
    refine (szRungS_any _ _ _ _ _ hn (by omega) (by omega)).mono ?_; rintro e w' ⟨rfl, rfl⟩
    rw [Hv.out]
    go_wp2
    go_ret
    exact ⟨rfl, by (repeat (first | exact Below.refl _ _ | refine Below.drew ?_ | refine below_drewN ?_ _ | (refine Below.alloc ?_ (by (try simp) <;> omega) _) | (refine Below.setCell ?_ (by (try simp) <;> omega) _) | (refine Below.trans ?_ (Below.mono (by assumption) (by (try simp) <;> omega)))))⟩
  have Hv := Lib.hid (show szV 1048576 L.length = 1048576 - L.length from if_neg hs)
  have hm : (L.length : Int) ≤ 1048576 := by omega
  have C1 := Lib.hid (fun A c w hr => SRungsFor_any A c L a s w hr hm)
  have C2 := Lib.hid (fun A c w hr => RungsFor_any A c L a s w hr hm)
  have hl := runL_len L a s
  generalize runL L a s = R at *
  generalize runB L a s = u at *
  have hm1 : (R.length : Int) ≤ 1048576 := by omega
  have hm2 : (R.length : Int) ≤ 9223372036854775807 := by omega
  have hm3 : (0 : Int) ≤ (R.length : Int) := by omega
  have hm4 : (0 : Int) ≤ (L.length : Int) := by omega
  have E1 := Lib.hid (eqL_refl L)
  have E2 := Lib.hid (eqL_refl R)
  have nb := neB u
  have nm := neI (1 + 1 * (R.length : Int))
  have nm' := neI (1 + (R.length : Int))
  go_enter Try.func9, Try.ntmps9
  go_wp2_with fail
  refine (szRungS_any _ _ _ _ _ hn (by omega) (by omega)).mono ?_; rintro e w' ⟨rfl, rfl⟩
  rw [Hv.out]
  go_wp2_with fail
  have hrW := hr.alloc (.cells #[.int .i64 a, .int .i64 s] 36 (0, 0))
  have ka : (w.alloc (.cells #[.int .i64 a, .int .i64 s] 36 (0, 0))).cell? ⟨w.heap.size, 0, none⟩ = some (.int .i64 a) := by simp
  have kb : (w.alloc (.cells #[.int .i64 a, .int .i64 s] 36 (0, 0))).cell? ⟨w.heap.size, 1, none⟩ = some (.int .i64 s) := by simp
  have hW : Below w.heap.size w (w.alloc (.cells #[.int .i64 a, .int .i64 s] 36 (0, 0))) := by (repeat (first | exact Below.refl _ _ | refine Below.drew ?_ | refine below_drewN ?_ _ | (refine Below.alloc ?_ (by (try simp) <;> omega) _) | (refine Below.setCell ?_ (by (try simp) <;> omega) _) | (refine Below.trans ?_ (Below.mono (by assumption) (by (try simp) <;> omega)))))
  have zW : w.heap.size < (w.alloc (.cells #[.int .i64 a, .int .i64 s] 36 (0, 0))).heap.size := by simp
  generalize w.alloc (.cells #[.int .i64 a, .int .i64 s] 36 (0, 0)) = W at *
  generalize hg : w.heap.size = g at *
  refine wp_region_grow [.fix (.slice A L.length c), .pred (SlV f2 2 L), .val (briV a s), .val (briV a s), .pred (TuV f1 1 R u), .pred (TuV f1 1 R u), .pred (SlV f1 1 R), .val (.bool u), .pred (SlV f1 1 R), .val (.bool u)] mixed (by kernel_rfl) ?_
  refine SeqG.fixStep (.inl ⟨rfl, fun _ => rfl⟩) ?_
  simp only [Act.put, List.setIfInBounds_toArray, List.set_cons_zero, List.set_cons_succ]
  refine SeqG.predStep SlV.next (fun wv hbv hpv => ?_) (fun v => ?_)
  · go_wp2_with fail
    refine (toRungS_any _ _ _ _ (hrW.below hbv |>.mono hbv.size) hm).mono ?_; rintro e w1 ⟨A1, c1, rfl, o1, hb1⟩
    go_wp2_with fail
    exact post_pred _ hb1 ⟨_, _, rfl, o1.sl⟩
  simp only [Act.put, List.setIfInBounds_toArray, List.set_cons_zero, List.set_cons_succ]
  refine SeqG.valStep (fun wv hbv hpv => ?_) ?_
  · have k1 := (hbv.cell (p := ⟨g, 0, none⟩) zW).trans ka; have k2 := (hbv.cell (p := ⟨g, 1, none⟩) zW).trans kb
    go_wp2_with fail
    exact post_val (Below.refl _ _)
  simp only [Act.put, List.setIfInBounds_toArray, List.set_cons_zero, List.set_cons_succ]
  refine SeqG.valStep (fun wv hbv hpv => ?_) ?_
  · go_wp2_with fail
    refine (toBrine_any _ _ _).mono ?_; rintro e w' ⟨he, hb⟩; subst he
    go_wp2_with fail
    exact post_val hb
  simp only [Act.put, List.setIfInBounds_toArray, List.set_cons_zero, List.set_cons_succ]
  refine SeqG.predStep TuV.next (fun wv hbv hpv => ?_) (fun v2 => ?_)
  · obtain ⟨A1, c1, rfl, s1⟩ := hpv _ (.head _) (by kernel_rfl)
    clear hpv
    go_wp2_with fail
    refine (C1.out _ _ _ s1).mono ?_; rintro e w2 ⟨A2, c2, rfl, o2, hb2⟩
    go_wp2_with fail
    exact post_pred _ hb2 ⟨_, _, rfl, o2.sl⟩
  simp only [Act.put, List.setIfInBounds_toArray, List.set_cons_zero, List.set_cons_succ]
  refine SeqG.predStep TuV.next (fun wv hbv hpv => ?_) (fun v3 => ?_)
  · have h1 := hpv _ (.head _) (by kernel_rfl)
    clear hpv
    go_wp2_with fail
    exact post_pred _ (Below.refl _ _) h1
  simp only [Act.put, List.setIfInBounds_toArray, List.set_cons_zero, List.set_cons_succ]
  refine SeqG.predStep SlV.next (fun wv hbv hpv => ?_) (fun v4 => ?_)
  · obtain ⟨A1, c1, rfl, s1⟩ := hpv _ (.head _) (by kernel_rfl)
    clear hpv
    go_wp2_with fail
    exact post_pred _ (Below.refl _ _) ⟨_, _, rfl, s1⟩
  simp only [Act.put, List.setIfInBounds_toArray, List.set_cons_zero, List.set_cons_succ]
  refine SeqG.valStep (fun wv hbv hpv => ?_) ?_
  · obtain ⟨A1, c1, rfl, s1⟩ := hpv _ (.tail _ (.head _)) (by kernel_rfl)
    clear hpv
    go_wp2_with fail
    exact post_val (Below.refl _ _)
  simp only [Act.put, List.setIfInBounds_toArray, List.set_cons_zero, List.set_cons_succ]
  refine SeqG.predStep SlV.next (fun wv hbv hpv => ?_) (fun v5 => ?_)
  · obtain ⟨A1, c1, rfl, s1⟩ := hpv _ (.head _) (by kernel_rfl)
    clear hpv
    go_wp2_with fail
    exact post_pred _ (Below.refl _ _) ⟨_, _, rfl, s1⟩
  simp only [Act.put, List.setIfInBounds_toArray, List.set_cons_zero, List.set_cons_succ]
  refine SeqG.valStep (fun wv hbv hpv => ?_) ?_
  · skip
    go_wp2_with fail
    exact post_val (Below.refl _ _)
  simp only [Act.put, List.setIfInBounds_toArray, List.set_cons_zero, List.set_cons_succ]
  refine SeqG.done fun w2 hb2 hpv => ?_
  obtain ⟨A2, c2, rfl, r2⟩ := hpv _ (.head _)
  clear hpv
  have z2 := hb2.size
  go_wp2_with fail
  refine NoPan.normal ?_
  have s2 := hrW.below hb2
  have t2 : Below W.heap.size W w2 := hb2
  have ka2 := (t2.cell (p := ⟨g, 0, none⟩) zW).trans ka
  have kb2 := (t2.cell (p := ⟨g, 1, none⟩) zW).trans kb
  go_wp2_with fail
  refine (toRungS_any _ _ _ _ (s2.mono z2) hm).mono ?_; rintro e w3 ⟨A3, c3, rfl, o3, hb3⟩
  have z3 := hb3.size
  have t3 := t2.trans (hb3.mono z2)
  have s3 := s2.below (hb3.mono z2)
  have ka3 := (t3.cell (p := ⟨g, 0, none⟩) zW).trans ka
  have kb3 := (t3.cell (p := ⟨g, 1, none⟩) zW).trans kb
  go_wp2_with fail
  refine (toBrine_any _ _ _).mono ?_; rintro e w4 ⟨rfl, hb4⟩
  have z4 := hb4.size
  have t4 := t3.trans (hb4.mono (by omega))
  go_wp2_with fail
  refine (C2.out _ _ _ (o3.next hb4).sl).mono ?_; rintro e w5 ⟨A5, c5, rfl, o5, hb5⟩
  have z5 := hb5.size
  have t5 := t4.trans (hb5.mono (by omega))
  have r5 := (r2.below (hb3.trans (hb4.mono z3))).below (hb5.mono (by omega))
  have s5 := (s3.below (hb4.mono (by omega))).below (hb5.mono (by omega))
  go_wp2_with fail
  have x5 := (o3.next hb4).next hb5
  have y3 := o3.sl.mono z4
  refine (eqIntS_any _ _ _ _ _ _ _ o5.sl (r5.mono (by omega)) hm2).mono ?_; rintro e w6 ⟨rfl, hb6⟩
  rw [E2.out]
  have z6 := hb6.size
  have t6 := t5.trans (hb6.mono (by omega))
  have s6 := s5.below (hb6.mono (by omega))
  have r6 := r5.below (hb6.mono (by omega))
  have x6 := x5.next hb6
  have o6 := o5.next hb6
  go_wp2_with fail
  refine (toRungS_any _ _ _ _ (s6.mono (by omega)) hm).mono ?_; rintro e w7 ⟨A7, c7, rfl, o7, hb7⟩
  have z7 := hb7.size
  have t7 := t6.trans (hb7.mono (by omega))
  have s7 := s6.below (hb7.mono (by omega))
  have r7 := r6.below (hb7.mono (by omega))
  have x7 := x6.next hb7
  have o7' := o6.next hb7
  go_wp2_with fail
  refine (eqRungS_any _ _ _ _ _ _ _ x7.sl o7.sl hn).mono ?_; rintro e w8 ⟨rfl, hb8⟩
  rw [E1.out]
  have z8 := hb8.size
  have t8 := t7.trans (hb8.mono (by omega))
  have s8 := s7.below (hb8.mono (by omega))
  have r8 := r7.below (hb8.mono (by omega))
  have x8 := x7.next hb8
  have o8 := o7'.next hb8
  go_wp2_with fail
  refine (markRungS_any _ _ _ _ _ _ x8 hm (by omega) (by omega)).mono ?_; rintro e w9 ⟨rfl, x9, ox9, on9⟩
  have hb9 : Below w2.heap.size w8 w9 := x8.onlyBelow ox9 on9
  have z9 := ox9.size
  have o9 := o8.keep ox9 on9 y3
  have t9 := t8.trans (hb9.mono z2)
  have s9 := s8.below (hb9.mono z2)
  have r9 := r8.below hb9
  clear ox9 on9 x9 x8
  go_wp2_with fail
  refine (eqIntS_any _ _ _ _ _ _ _ o9.sl (r9.mono (by omega)) hm2).mono ?_; rintro e w10 ⟨rfl, hb10⟩
  rw [E2.out]
  have z10 := hb10.size
  have t10 := t9.trans (hb10.mono (by omega))
  have s10 := s9.below (hb10.mono (by omega))
  have r10 := r9.below (hb10.mono (by omega))
  have o10 := o9.next hb10
  go_wp2_with fail
  refine (markIntS_any _ _ _ _ _ _ o10 hm1 (by omega) (by omega)).mono ?_; rintro e w11 ⟨rfl, o11, oo11, on11⟩
  have hb11 : Below w4.heap.size w10 w11 := o10.onlyBelow oo11 on11
  have z11 := oo11.size
  have t11 := t10.trans (hb11.mono (by omega))
  have s11 := s10.below (hb11.mono (by omega))
  have r11 := r10.below (hb11.mono (by omega))
  clear oo11 on11
  go_wp2_with fail
  refine (heldIntS_any _ _ _ _ _ o11.sl hm1 (by omega) (by omega)).mono ?_; rintro e w' ⟨rfl, rfl⟩
  have ka11 := (t11.cell (p := ⟨g, 0, none⟩) zW).trans ka
  have kb11 := (t11.cell (p := ⟨g, 1, none⟩) zW).trans kb
  go_wp2_with fail
  have z11g : g < w11.heap.size := by have := t11.size; omega
  refine wp_region_grow [.fix (.slice A L.length c), .pred (SlV f2 2 L), .val (briV a s), .val (briV a s), .pred (TuV f1 1 R u), .pred (TuV f1 1 R u), .pred (SlV f1 1 R), .val (.bool u), .pred (SlV f1 1 R), .val (.bool u)] mixed (by kernel_rfl) ?_
  refine SeqG.fixStep (.inl ⟨rfl, fun _ => rfl⟩) ?_
  simp only [Act.put, List.setIfInBounds_toArray, List.set_cons_zero, List.set_cons_succ]
  refine SeqG.predStep SlV.next (fun wv hbv hpv => ?_) (fun v => ?_)
  · go_wp2_with fail
    refine (toRungS_any _ _ _ _ ((s11.below (hbv.mono t11.size)).mono (by have := hbv.size; have := t11.size; omega)) hm).mono ?_; rintro e w1 ⟨A1, c1, rfl, o1, hb1⟩
    go_wp2_with fail
    exact post_pred _ hb1 ⟨_, _, rfl, o1.sl⟩
  simp only [Act.put, List.setIfInBounds_toArray, List.set_cons_zero, List.set_cons_succ]
  refine SeqG.valStep (fun wv hbv hpv => ?_) ?_
  · have k1 := (hbv.cell (p := ⟨g, 0, none⟩) z11g).trans ka11; have k2 := (hbv.cell (p := ⟨g, 1, none⟩) z11g).trans kb11
    go_wp2_with fail
    exact post_val (Below.refl _ _)
  simp only [Act.put, List.setIfInBounds_toArray, List.set_cons_zero, List.set_cons_succ]
  refine SeqG.valStep (fun wv hbv hpv => ?_) ?_
  · go_wp2_with fail
    refine (toBrine_any _ _ _).mono ?_; rintro e w' ⟨he, hb⟩; subst he
    go_wp2_with fail
    exact post_val hb
  simp only [Act.put, List.setIfInBounds_toArray, List.set_cons_zero, List.set_cons_succ]
  refine SeqG.predStep TuV.next (fun wv hbv hpv => ?_) (fun v2 => ?_)
  · obtain ⟨A1, c1, rfl, s1⟩ := hpv _ (.head _) (by kernel_rfl)
    clear hpv
    go_wp2_with fail
    refine (C2.out _ _ _ s1).mono ?_; rintro e w2 ⟨A2, c2, rfl, o2, hb2⟩
    go_wp2_with fail
    exact post_pred _ hb2 ⟨_, _, rfl, o2.sl⟩
  simp only [Act.put, List.setIfInBounds_toArray, List.set_cons_zero, List.set_cons_succ]
  refine SeqG.predStep TuV.next (fun wv hbv hpv => ?_) (fun v3 => ?_)
  · have h1 := hpv _ (.head _) (by kernel_rfl)
    clear hpv
    go_wp2_with fail
    exact post_pred _ (Below.refl _ _) h1
  simp only [Act.put, List.setIfInBounds_toArray, List.set_cons_zero, List.set_cons_succ]
  refine SeqG.predStep SlV.next (fun wv hbv hpv => ?_) (fun v4 => ?_)
  · obtain ⟨A1, c1, rfl, s1⟩ := hpv _ (.head _) (by kernel_rfl)
    clear hpv
    go_wp2_with fail
    exact post_pred _ (Below.refl _ _) ⟨_, _, rfl, s1⟩
  simp only [Act.put, List.setIfInBounds_toArray, List.set_cons_zero, List.set_cons_succ]
  refine SeqG.valStep (fun wv hbv hpv => ?_) ?_
  · obtain ⟨A1, c1, rfl, s1⟩ := hpv _ (.tail _ (.head _)) (by kernel_rfl)
    clear hpv
    go_wp2_with fail
    exact post_val (Below.refl _ _)
  simp only [Act.put, List.setIfInBounds_toArray, List.set_cons_zero, List.set_cons_succ]
  refine SeqG.predStep SlV.next (fun wv hbv hpv => ?_) (fun v5 => ?_)
  · obtain ⟨A1, c1, rfl, s1⟩ := hpv _ (.head _) (by kernel_rfl)
    clear hpv
    go_wp2_with fail
    exact post_pred _ (Below.refl _ _) ⟨_, _, rfl, s1⟩
  simp only [Act.put, List.setIfInBounds_toArray, List.set_cons_zero, List.set_cons_succ]
  refine SeqG.valStep (fun wv hbv hpv => ?_) ?_
  · skip
    go_wp2_with fail
    exact post_val (Below.refl _ _)
  simp only [Act.put, List.setIfInBounds_toArray, List.set_cons_zero, List.set_cons_succ]
  refine SeqG.done fun w12 hb12 hpv => ?_
  obtain ⟨A12, c12, rfl, p12⟩ := hpv _ (.head _)
  clear hpv
  have z12 := hb12.size
  have t12 := t11.trans (hb12.mono t11.size)
  have r12 := r11.below (hb12.mono (by omega))
  have o12 := o11.next hb12
  go_wp2_with fail
  refine NoPan.normal ?_
  go_wp2_with fail
  refine (eqIntS_any _ _ _ _ _ _ _ p12 (r12.mono (by omega)) hm2).mono ?_; rintro e w13 ⟨rfl, hb13⟩
  rw [E2.out]
  have t13 := t12.trans (hb13.mono t12.size)
  have o13 := o12.next hb13
  go_wp2_with fail
  refine (heldIntS_any _ _ _ _ _ o13.sl hm1 (by omega) (by omega)).mono ?_; rintro e w' ⟨rfl, rfl⟩
  go_wp2
  go_ret
  exact ⟨rfl, by rw [hg]; exact hW.trans (t13.mono (by omega))⟩
end Go.Proofs.Ythhjbdhglaombaa
