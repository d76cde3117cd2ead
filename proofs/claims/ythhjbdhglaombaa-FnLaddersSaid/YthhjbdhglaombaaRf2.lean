/-
  RungsFor: the reference.
-/
import Derived.Test.YthhjbdhglaombaaRf1
namespace Go.Proofs.Ythhjbdhglaombaa
open Go.RowKit

set_option maxHeartbeats 4000000 in
theorem SRungsFor_any (A : Option Addr) (c : Nat) (L : List (Int × Int)) (a s : Int) (w : World) (hr : SlR f2 2 w w.heap.size A L) (hm : (L.length : Int) ≤ 1048576) :
    Calls Try.prog 32 #[.slice A L.length c, briV a s] w (NewSl2 f1 1 3 w (runL L a s) (runB L a s)) := by
  obtain ⟨i0, hi, hz0, hz1, hz2⟩ := info_parts infoI
  have hr' := (hr.alloc (.cells #[.int .i64 a, .int .i64 s] 38 (0, 0))).alloc (.cells #[] 3 (0, 0))
  have hmade : Gath f1 1 3 ((w.alloc (.cells #[.int .i64 a, .int .i64 s] 38 (0, 0))).alloc (.cells #[] 3 (0, 0))) (w.heap.size + 1) (.slice (some ⟨w.heap.size + 1, 0, none⟩) 0 0) ([] : List Int) := by
    have := Gath.made (f := f1) (m := 1) (t := 3) (B := w.heap.size + 1) (w := (w.alloc (.cells #[.int .i64 a, .int .i64 s] 38 (0, 0)))) (by simp)
    simpa using this
  have Hmade := Lib.hid hmade
  clear hmade
  cases h : ladB L
  · have Hb := Lib.hid (show runB L a s = false by simp [runB, h])
    have Hl := Lib.hid (runL_no Hb.out)
    go_enter Try.func32, Try.ntmps32
    go_wp2_with fail
    refine (l13Good_any _ _ _ _ hr' (by omega)).mono ?_; rintro e w1 ⟨rfl, hb1⟩
    have z1 := hb1.size
    try simp at z1
    obtain ⟨c1_0, f1_0⟩ := bblk hb1 (g := w.heap.size) (by (try simp) <;> omega)
    have l1_0 : w.heap.size < w1.heap.size := by omega
    rw [h]
    go_wp2
    go_ret2
    exact ⟨_, 0, by rw [Hb.out, Hl.out]; rfl, by rw [Hl.out]; exact OwnR.nil, by (repeat (first | exact Below.refl _ _ | refine Below.drew ?_ | refine below_drewN ?_ _ | (refine Below.alloc ?_ (by (try simp) <;> omega) _) | (refine Below.setCell ?_ (by (try simp) <;> omega) _) | (refine Below.trans ?_ (Below.mono (by assumption) (by (try simp) <;> omega)))))⟩
  cases h3 : briB a s
  · have Hb := Lib.hid (show runB L a s = false by simp [runB, h, h3])
    have Hl := Lib.hid (runL_no Hb.out)
    go_enter Try.func32, Try.ntmps32
    go_wp2_with fail
    refine (l13Good_any _ _ _ _ hr' (by omega)).mono ?_; rintro e w1 ⟨rfl, hb1⟩
    have z1 := hb1.size
    try simp at z1
    obtain ⟨c1_0, f1_0⟩ := bblk hb1 (g := w.heap.size) (by (try simp) <;> omega)
    have l1_0 : w.heap.size < w1.heap.size := by omega
    rw [h]
    go_wp2_with fail
    refine (l2Brine_any _ _ _).mono ?_; rintro e w2 ⟨rfl, hb2⟩
    have z2 := hb2.size
    try simp at z2
    obtain ⟨c2_0, f2_0⟩ := bblk hb2 (g := w.heap.size) (by (try simp) <;> omega)
    have l2_0 : w.heap.size < w2.heap.size := by omega
    rw [h3]
    go_wp2
    go_ret2
    exact ⟨_, 0, by rw [Hb.out, Hl.out]; rfl, by rw [Hl.out]; exact OwnR.nil, by (repeat (first | exact Below.refl _ _ | refine Below.drew ?_ | refine below_drewN ?_ _ | (refine Below.alloc ?_ (by (try simp) <;> omega) _) | (refine Below.setCell ?_ (by (try simp) <;> omega) _) | (refine Below.trans ?_ (Below.mono (by assumption) (by (try simp) <;> omega)))))⟩
  have Hb := Lib.hid (show runB L a s = true by simp [runB, h, h3])
  have Hl := Lib.hid (runL_yes Hb.out)
  have Hg := Lib.hid (fun (k : Nat) (x : Int × Int) (hx : L[k]? = some x) => ladB_rung h hx)
  have hl10 := ladB_len h
  have hbr := briB_bounds h3
  go_enter Try.func32, Try.ntmps32
  go_wp2_with fail
  refine (l13Good_any _ _ _ _ hr' (by omega)).mono ?_; rintro e w1 ⟨rfl, hb1⟩
  have z1 := hb1.size
  try simp at z1
  obtain ⟨c1_0, f1_0⟩ := bblk hb1 (g := w.heap.size) (by (try simp) <;> omega)
  have l1_0 : w.heap.size < w1.heap.size := by omega
  rw [h]
  go_wp2_with fail
  refine (l2Brine_any _ _ _).mono ?_; rintro e w2 ⟨rfl, hb2⟩
  have z2 := hb2.size
  try simp at z2
  obtain ⟨c2_0, f2_0⟩ := bblk hb2 (g := w.heap.size) (by (try simp) <;> omega)
  have l2_0 : w.heap.size < w2.heap.size := by omega
  rw [h3]
  clear h h3
  go_wp2
  go_loopw [7, 6] (fun i v wr => ∃ k : Nat, i = .int .i64 k ∧ k ≤ L.length ∧ Gath f1 1 3 wr (w.heap.size + 1) v (rfL L a s k) ∧ Below (w.heap.size + 1) (w.alloc (.cells #[.int .i64 a, .int .i64 s] 38 (0, 0))) wr) (fun i _ _ => (L.length - intOf i).toNat)
  case atStart => exact ⟨0, rfl, by omega, (Hmade.out.below hb1).below hb2, ((Below.refl _ (w.alloc (.cells #[.int .i64 a, .int .i64 s] 38 (0, 0)))).alloc (by simp) (.cells #[] 3 (0, 0))).trans ((hb1.trans (hb2.mono hb1.size)).mono (by simp))⟩
  case round =>
    obtain ⟨k, rfl, hk, hG, hb⟩ := hrel
    have zr := hb.size
    simp at zr
    have cB0 : wr.cell? ⟨w.heap.size, 0, none⟩ = some (.int .i64 a) := by rw [hb.cell (by simp)]; simp
    have cB1 : wr.cell? ⟨w.heap.size, 1, none⟩ = some (.int .i64 s) := by rw [hb.cell (by simp)]; simp
    have hne : w.heap.size < wr.heap.size := by omega
    by_cases hlt : k < L.length
    · have hx : L[k]? = some L[k] := List.getElem?_eq_getElem hlt
      obtain ⟨b, off, rfl, hB, hcs⟩ := hr (SlR.ne hx)
      have hC := hcs.below (((Below.refl w.heap.size w).alloc (Nat.le_refl _) _).trans (hb.mono (by omega))) hB
      have hk0 : (0 : Int) ≤ (k : Int) := by omega
      have hk1 : (k : Int) < (L.length : Int) := by omega
      have hBr : b < wr.heap.size := by omega
      obtain ⟨g0, g1, g2⟩ := Hg.out k _ hx
      generalize L[k] = x at *
      clear hr hr' hcs hlt Hg Hmade
      have hl9 := rfL_len L a s k
      cases h5 : staB x.1 x.2 a s
      case false =>
        have Hn := Lib.hid (rfL_no hx h5)
        generalize rfL L a s k = G at *
        have HG := Lib.hid hG
        clear hG
        go_wp2
        refine wp_region_grow [.fix (.slice (some ⟨b, off, none⟩) L.length c), .fix (.int .i64 k), .val (.pointer (some ⟨b, off + k * 2, none⟩)), .val (.agg #[.int .i64 x.1, .int .i64 x.2]), .val (briV a s), .val (.bool false)] mixed (by kernel_rfl) ?_
        refine SeqG.fixStep (.inl ⟨rfl, fun _ => rfl⟩) ?_
        simp only [Act.put, List.setIfInBounds_toArray, List.set_cons_zero, List.set_cons_succ]
        refine SeqG.fixStep (.inl ⟨rfl, fun _ => rfl⟩) ?_
        simp only [Act.put, List.setIfInBounds_toArray, List.set_cons_zero, List.set_cons_succ]
        refine SeqG.valStep (fun wv hbv hpv => ?_) ?_
        · skip
          go_wp2_with fail
          exact post_val (Below.refl _ _)
        simp only [Act.put, List.setIfInBounds_toArray, List.set_cons_zero, List.set_cons_succ]
        refine SeqG.valStep (fun wv hbv hpv => ?_) ?_
        · obtain ⟨c0, c1⟩ := cells2 (hC.below hbv hBr) hx
          go_wp2_with fail
          exact post_val (Below.refl _ _)
        simp only [Act.put, List.setIfInBounds_toArray, List.set_cons_zero, List.set_cons_succ]
        refine SeqG.valStep (fun wv hbv hpv => ?_) ?_
        · obtain ⟨cc, ff⟩ := bblk hbv (g := w.heap.size) hne
          go_wp2_with fail
          exact post_val (Below.refl _ _)
        simp only [Act.put, List.setIfInBounds_toArray, List.set_cons_zero, List.set_cons_succ]
        refine SeqG.valStep (fun wv hbv hpv => ?_) ?_
        · go_wp2_with fail
          refine (l13Stands_any _ _ _ _ _ (by omega) (by omega) hbr.1 hbr.2).mono ?_; rintro e w' ⟨he, hb⟩; rw [h5] at he; subst he
          go_wp2_with fail
          exact post_val hb
        simp only [Act.put, List.setIfInBounds_toArray, List.set_cons_zero, List.set_cons_succ]
        refine SeqG.done fun wv hbv hpv => ?_
        refine NoPan.normal ?_
        clear hpv
        have zv := hbv.size
        have hG2 := Lib.hid (HG.out.below hbv)
        have hbw : Below (w.heap.size + 1) (w.alloc (.cells #[.int .i64 a, .int .i64 s] 38 (0, 0))) wv := hb.trans (hbv.mono (by omega))
        clear hx hC HG hbv
        go_wp2
        go_roundw
        case rel => exact ⟨k + 1, by go_num, by omega, by rw [Hn.out]; exact hG2.out, hbw⟩
        case measure => simp only [intOf]; omega
      case true =>
        have Hn := Lib.hid (rfL_yes hx h5)
        generalize rfL L a s k = G at *
        have HG := Lib.hid hG
        clear hG
        go_wp2
        refine wp_region_grow [.fix (.slice (some ⟨b, off, none⟩) L.length c), .fix (.int .i64 k), .val (.pointer (some ⟨b, off + k * 2, none⟩)), .val (.agg #[.int .i64 x.1, .int .i64 x.2]), .val (briV a s), .val (.bool true)] mixed (by kernel_rfl) ?_
        refine SeqG.fixStep (.inl ⟨rfl, fun _ => rfl⟩) ?_
        simp only [Act.put, List.setIfInBounds_toArray, List.set_cons_zero, List.set_cons_succ]
        refine SeqG.fixStep (.inl ⟨rfl, fun _ => rfl⟩) ?_
        simp only [Act.put, List.setIfInBounds_toArray, List.set_cons_zero, List.set_cons_succ]
        refine SeqG.valStep (fun wv hbv hpv => ?_) ?_
        · skip
          go_wp2_with fail
          exact post_val (Below.refl _ _)
        simp only [Act.put, List.setIfInBounds_toArray, List.set_cons_zero, List.set_cons_succ]
        refine SeqG.valStep (fun wv hbv hpv => ?_) ?_
        · obtain ⟨c0, c1⟩ := cells2 (hC.below hbv hBr) hx
          go_wp2_with fail
          exact post_val (Below.refl _ _)
        simp only [Act.put, List.setIfInBounds_toArray, List.set_cons_zero, List.set_cons_succ]
        refine SeqG.valStep (fun wv hbv hpv => ?_) ?_
        · obtain ⟨cc, ff⟩ := bblk hbv (g := w.heap.size) hne
          go_wp2_with fail
          exact post_val (Below.refl _ _)
        simp only [Act.put, List.setIfInBounds_toArray, List.set_cons_zero, List.set_cons_succ]
        refine SeqG.valStep (fun wv hbv hpv => ?_) ?_
        · go_wp2_with fail
          refine (l13Stands_any _ _ _ _ _ (by omega) (by omega) hbr.1 hbr.2).mono ?_; rintro e w' ⟨he, hb⟩; rw [h5] at he; subst he
          go_wp2_with fail
          exact post_val hb
        simp only [Act.put, List.setIfInBounds_toArray, List.set_cons_zero, List.set_cons_succ]
        refine SeqG.done fun wv hbv hpv => ?_
        refine NoPan.normal ?_
        clear hpv
        have zv := hbv.size
        have hG2 := Lib.hid (HG.out.below hbv)
        have hbw : Below (w.heap.size + 1) (w.alloc (.cells #[.int .i64 a, .int .i64 s] 38 (0, 0))) wv := hb.trans (hbv.mono (by omega))
        clear hx hC HG hbv
        go_wp2_with (at_builtin; refine wpList_append_own _ rfl _ _ 43 rfl (w.heap.size + 1) 3 i0 (.int .i64 0) 1 8 Try.underlying43 hi hz0 hz1 hz2 rfl (by decide) _ _ _ rfl (hG2.out.alloc _) ⟨wv.heap.size, 0, none⟩ 1 1 [.int .i64 k] rfl rfl ?c1 ?c2 ?c3 ?c4 ?c5 ?c6)
        case c1 => exact one_cell (by simp)
        case c2 => exact one_ok
        case c3 => unfold maxLen; omega
        case c4 => omega
        case c5 => simp; omega
        case c6 =>
          intro v' w9 hown hgrow _
          have hG9 : Gath f1 1 3 w9 (w.heap.size + 1) v' (G ++ [(k : Int)]) := Gath.snoc hown
          have hb9 : Below (w.heap.size + 1) (w.alloc (.cells #[.int .i64 a, .int .i64 s] 38 (0, 0))) w9 := below_grown' (hbw.alloc (by omega) _) hgrow (hG2.out.alloc _) (Nat.le_refl _) (by simp; omega)
          have HG9 := Lib.hid hG9
          clear hown hG9 hgrow hbw hG2
          go_wp2
          go_roundw
          case rel => exact ⟨k + 1, by go_num, by omega, by rw [Hn.out]; exact HG9.out, hb9⟩
          case measure => simp only [intOf]; omega
    · obtain rfl : k = L.length := by omega
      obtain ⟨A', c', rfl, hO⟩ := Gath.own (f := f1) (m := 1) (fun _ => rfl) hG
      have hO1 := Lib.hid (hO.mono (Nat.le_succ w.heap.size))
      clear hO hG
      rw [← Hl.out] at hO1
      rw [← Hl.out]
      have hbz : Below w.heap.size w wr := ((Below.refl w.heap.size w).alloc (Nat.le_refl _) _).trans (hb.mono (by omega))
      go_wp2
      go_ret2
      exact ⟨A', c', by rw [Hb.out]; rfl, hO1.out, hbz⟩
end Go.Proofs.Ythhjbdhglaombaa
