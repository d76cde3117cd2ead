/-
  JoinLadders: the reference.
-/
import Derived.Test.YthhjbdhglaombaaJoin1
import Derived.Test.YthhjbdhglaombaaLad4
import Derived.Test.YthhjbdhglaombaaPred
import Derived.WalkKit
import Derived.WalkSpells
import Derived.WalkLawsBesides
import Derived.Lib.Hide
import Derived.Deep.QuietTactic
import Derived.BigQuiet
import Derived.StillTailTactics
namespace Go.Proofs.Ythhjbdhglaombaa
open Go.RowKit


set_option maxRecDepth 20000 in
set_option maxHeartbeats 4000000 in
theorem SJoinLadders_any (A : Option Addr) (c : Nat) (a : List (Int × Int)) (A' : Option Addr) (c' : Nat) (b : List (Int × Int)) (w : World) (hr : SlR f2 2 w w.heap.size A a) (hm : (a.length : Int) ≤ 1048576) (hr' : SlR f2 2 w w.heap.size A' b) (hm' : (b.length : Int) ≤ 1048576) :
    Calls Try.prog 30 #[.slice A a.length c, .slice A' b.length c'] w (NewSl2 f2 2 67 w (jnR a b) (jnU a b)) := by
  obtain ⟨i0, hi, hz0, hz1, hz2⟩ := info_parts infoRung
  have hq := hr.alloc (.cells #[] 67 (0, 0))
  have hq' := hr'.alloc (.cells #[] 67 (0, 0))
  have Hmade := Lib.hid (Gath.made (f := f2) (m := 2) (t := 67) (w := w) (Nat.le_refl _))
  cases h1 : ladB a
  · skip
    have Hb := Lib.hid (show jnU a b = false by simp [jnU, h1])
    have Hl := Lib.hid (jnR_no Hb.out)
    go_enter Try.func30, Try.ntmps30
    go_wp2_with fail
    refine (l13Good_any _ _ _ _ hq (by omega)).mono ?_; rintro e w1 ⟨rfl, hb1⟩
    have z1 := hb1.size
    try simp at z1
    rw [h1]
    go_wp2
    go_ret2
    exact ⟨_, 0, by rw [Hb.out, Hl.out]; rfl, by rw [Hl.out]; exact OwnR.nil, by (repeat (first | exact Below.refl _ _ | refine Below.drew ?_ | refine below_drewN ?_ _ | (refine Below.alloc ?_ (by (try simp) <;> omega) _) | (refine Below.setCell ?_ (by (try simp) <;> omega) _) | (refine Below.trans ?_ (Below.mono (by assumption) (by (try simp) <;> omega)))))⟩
  cases h2 : ladB b
  · skip
    have Hb := Lib.hid (show jnU a b = false by simp [jnU, h1, h2])
    have Hl := Lib.hid (jnR_no Hb.out)
    go_enter Try.func30, Try.ntmps30
    go_wp2_with fail
    refine (l13Good_any _ _ _ _ hq (by omega)).mono ?_; rintro e w1 ⟨rfl, hb1⟩
    have z1 := hb1.size
    try simp at z1
    rw [h1]
    go_wp2_with fail
    refine (l13Good_any _ _ _ _ (hq'.next hb1) (by omega)).mono ?_; rintro e w2 ⟨rfl, hb2⟩
    have z2 := hb2.size
    try simp at z2
    rw [h2]
    go_wp2
    go_ret2
    exact ⟨_, 0, by rw [Hb.out, Hl.out]; rfl, by rw [Hl.out]; exact OwnR.nil, by (repeat (first | exact Below.refl _ _ | refine Below.drew ?_ | refine below_drewN ?_ _ | (refine Below.alloc ?_ (by (try simp) <;> omega) _) | (refine Below.setCell ?_ (by (try simp) <;> omega) _) | (refine Below.trans ?_ (Below.mono (by assumption) (by (try simp) <;> omega)))))⟩
  by_cases h3 : a.length = b.length
  case neg =>
    have hbn : ((a.length : Int) != (b.length : Int)) = true := by rw [bne_iff_ne]; omega
    have Hb := Lib.hid (show jnU a b = false by simp [jnU, h1, h2, h3])
    have Hl := Lib.hid (jnR_no Hb.out)
    go_enter Try.func30, Try.ntmps30
    go_wp2_with fail
    refine (l13Good_any _ _ _ _ hq (by omega)).mono ?_; rintro e w1 ⟨rfl, hb1⟩
    have z1 := hb1.size
    try simp at z1
    rw [h1]
    go_wp2_with fail
    refine (l13Good_any _ _ _ _ (hq'.next hb1) (by omega)).mono ?_; rintro e w2 ⟨rfl, hb2⟩
    have z2 := hb2.size
    try simp at z2
    rw [h2]
    go_wp2
    go_ret2
    exact ⟨_, 0, by rw [Hb.out, Hl.out]; rfl, by rw [Hl.out]; exact OwnR.nil, by (repeat (first | exact Below.refl _ _ | refine Below.drew ?_ | refine below_drewN ?_ _ | (refine Below.alloc ?_ (by (try simp) <;> omega) _) | (refine Below.setCell ?_ (by (try simp) <;> omega) _) | (refine Below.trans ?_ (Below.mono (by assumption) (by (try simp) <;> omega)))))⟩
  have hbn : ((a.length : Int) != (b.length : Int)) = false := by simp [h3]
  have HU := Lib.hid (show jnU a b = ladB (jnL a b a.length) by simp [jnU, h1, h2, h3])
  have Hg := Lib.hid (fun (k : Nat) (x : Int × Int) (hx : a[k]? = some x) => ladB_rung h1 hx)
  have Hg' := Lib.hid (fun (k : Nat) (x : Int × Int) (hx : b[k]? = some x) => ladB_rung h2 hx)
  have hl8 := ladB_len h1
  have Hlen := Lib.hid h3
  clear h3
  go_enter Try.func30, Try.ntmps30
  go_wp2_with fail
  refine (l13Good_any _ _ _ _ hq (by omega)).mono ?_; rintro e w1 ⟨rfl, hb1⟩
  have z1 := hb1.size
  try simp at z1
  rw [h1]
  go_wp2_with fail
  refine (l13Good_any _ _ _ _ (hq'.next hb1) (by omega)).mono ?_; rintro e w2 ⟨rfl, hb2⟩
  have z2 := hb2.size
  try simp at z2
  rw [h2]
  clear h1 h2
  go_wp2
  go_loopw [7, 6] (fun i v wr => ∃ k : Nat, i = .int .i64 k ∧ k ≤ a.length ∧ Gath f2 2 67 wr w.heap.size v (jnL a b k) ∧ Below w.heap.size w wr) (fun i _ _ => (a.length - intOf i).toNat)
  case atStart => exact ⟨0, rfl, by omega, (Hmade.out.below hb1).below hb2, by (repeat (first | exact Below.refl _ _ | refine Below.drew ?_ | refine below_drewN ?_ _ | (refine Below.alloc ?_ (by (try simp) <;> omega) _) | (refine Below.setCell ?_ (by (try simp) <;> omega) _) | (refine Below.trans ?_ (Below.mono (by assumption) (by (try simp) <;> omega)))))⟩
  case round =>
    obtain ⟨k, rfl, hk, hG, hb⟩ := hrel
    have zr := hb.size
    by_cases hlt : k < a.length
    · have hx : a[k]? = some a[k] := List.getElem?_eq_getElem hlt
      have hlt' : k < b.length := by have := Hlen.out; omega
      have hy : b[k]? = some b[k] := List.getElem?_eq_getElem hlt'
      obtain ⟨ba, oa, rfl, hBa', hca⟩ := hr (SlR.ne hx)
      obtain ⟨bb, ob, rfl, hBb', hcb⟩ := hr' (SlR.ne hy)
      have hCa := hca.below hb hBa'
      have hCb := hcb.below hb hBb'
      have hBa : ba < wr.heap.size := by omega
      have hBb : bb < wr.heap.size := by omega
      have hk0 : (0 : Int) ≤ (k : Int) := by omega
      have hk1 : (k : Int) < (a.length : Int) := by omega
      have hk2 : (k : Int) < (b.length : Int) := by omega
      obtain ⟨g0, g1, g2⟩ := Hg.out k _ hx
      obtain ⟨g0', g1', g2'⟩ := Hg'.out k _ hy
      generalize a[k] = x at *
      generalize b[k] = y at *
      obtain ⟨M, hM⟩ : ∃ M, max x.1 y.1 = M := ⟨_, rfl⟩
      obtain ⟨m, hmm⟩ : ∃ m, min x.2 y.2 = m := ⟨_, rfl⟩
      have Hn := Lib.hid (show jnL a b (k + 1) = jnL a b k ++ [(M, m)] by rw [jnL_succ hx hy, hM, hmm])
      have HM := Lib.hid hM
      have Hm := Lib.hid hmm
      have hl9 := jnL_len a b k
      clear hM hmm hr hr' hq hq' hca hcb hlt hlt' Hg Hg'
      generalize jnL a b k = G at *
      have hG0 := Lib.hid hG
      clear hG
      go_wp2
      refine wp_region_grow [.fix u6, .fix (.slice (some ⟨ba, oa, none⟩) a.length c), .fix (.int .i64 k), .val (.pointer (some ⟨ba, oa + k * 2, none⟩)), .val (.pointer (some ⟨ba, oa + k * 2, none⟩)), .val (.int .i64 x.1), .fix (.slice (some ⟨bb, ob, none⟩) b.length c'), .fix (.int .i64 k), .val (.pointer (some ⟨bb, ob + k * 2, none⟩)), .val (.pointer (some ⟨bb, ob + k * 2, none⟩)), .val (.int .i64 y.1), .val (.int .i64 M), .fix (.slice (some ⟨ba, oa, none⟩) a.length c), .fix (.int .i64 k), .val (.pointer (some ⟨ba, oa + k * 2, none⟩)), .val (.pointer (some ⟨ba, oa + k * 2 + 1, none⟩)), .val (.int .i64 x.2), .fix (.slice (some ⟨bb, ob, none⟩) b.length c'), .fix (.int .i64 k), .val (.pointer (some ⟨bb, ob + k * 2, none⟩)), .val (.pointer (some ⟨bb, ob + k * 2 + 1, none⟩)), .val (.int .i64 y.2), .val (.int .i64 m), .val (.agg #[.int .i64 M, .int .i64 m]), .pred (fun v w' => ∃ g, v = .slice (some ⟨g, 0, none⟩) 1 1 ∧ wr.heap.size ≤ g ∧ Blk w' g 67 #[.int .i64 M, .int .i64 m])] mixed (by kernel_rfl) ?_
      refine SeqG.fixStep (.inl ⟨rfl, fun _ => rfl⟩) ?_
      simp only [Act.put, List.setIfInBounds_toArray, List.set_cons_zero, List.set_cons_succ]
      refine SeqG.fixStep (.inl ⟨rfl, fun _ => rfl⟩) ?_
      simp only [Act.put, List.setIfInBounds_toArray, List.set_cons_zero, List.set_cons_succ]
      refine SeqG.fixStep (.inl ⟨rfl, fun _ => rfl⟩) ?_
      simp only [Act.put, List.setIfInBounds_toArray, List.set_cons_zero, List.set_cons_succ]
      refine SeqG.valStep (fun wv hbv hpv => ?_) ?_
      · skip
        go_wp2_with fail
        exact post_val (Below.refl _ _)
      simp only [Act.put, List.setIfInBounds_toArray, List.set_cons_zero, List.set_cons_succ]
      refine SeqG.valStep (fun wv hbv hpv => ?_) ?_
      · skip
        go_wp2_with fail
        exact post_val (Below.refl _ _)
      simp only [Act.put, List.setIfInBounds_toArray, List.set_cons_zero, List.set_cons_succ]
      refine SeqG.valStep (fun wv hbv hpv => ?_) ?_
      · obtain ⟨c0, c1⟩ := cells2 (hCa.below hbv hBa) hx
        go_wp2_with fail
        exact post_val (Below.refl _ _)
      simp only [Act.put, List.setIfInBounds_toArray, List.set_cons_zero, List.set_cons_succ]
      refine SeqG.fixStep (.inl ⟨rfl, fun _ => rfl⟩) ?_
      simp only [Act.put, List.setIfInBounds_toArray, List.set_cons_zero, List.set_cons_succ]
      refine SeqG.fixStep (.inl ⟨rfl, fun _ => rfl⟩) ?_
      simp only [Act.put, List.setIfInBounds_toArray, List.set_cons_zero, List.set_cons_succ]
      refine SeqG.valStep (fun wv hbv hpv => ?_) ?_
      · skip
        go_wp2_with fail
        exact post_val (Below.refl _ _)
      simp only [Act.put, List.setIfInBounds_toArray, List.set_cons_zero, List.set_cons_succ]
      refine SeqG.valStep (fun wv hbv hpv => ?_) ?_
      · skip
        go_wp2_with fail
        exact post_val (Below.refl _ _)
      simp only [Act.put, List.setIfInBounds_toArray, List.set_cons_zero, List.set_cons_succ]
      refine SeqG.valStep (fun wv hbv hpv => ?_) ?_
      · obtain ⟨c0, c1⟩ := cells2 (hCb.below hbv hBb) hy
        go_wp2_with fail
        exact post_val (Below.refl _ _)
      simp only [Act.put, List.setIfInBounds_toArray, List.set_cons_zero, List.set_cons_succ]
      refine SeqG.valStep (fun wv hbv hpv => ?_) ?_
      · go_wp2_with fail
        refine (l1Most_any _ _ _).mono ?_; rintro e w' ⟨he, rfl⟩; rw [HM.out] at he; subst he
        go_wp2_with fail
        exact post_val (Below.refl _ _)
      simp only [Act.put, List.setIfInBounds_toArray, List.set_cons_zero, List.set_cons_succ]
      refine SeqG.fixStep (.inl ⟨rfl, fun _ => rfl⟩) ?_
      simp only [Act.put, List.setIfInBounds_toArray, List.set_cons_zero, List.set_cons_succ]
      refine SeqG.fixStep (.inl ⟨rfl, fun _ => rfl⟩) ?_
      simp only [Act.put, List.setIfInBounds_toArray, List.set_cons_zero, List.set_cons_succ]
      refine SeqG.valStep (fun wv hbv hpv => ?_) ?_
      · skip
        go_wp2_with fail
        exact post_val (Below.refl _ _)
      simp only [Act.put, List.setIfInBounds_toArray, List.set_cons_zero, List.set_cons_succ]
      refine SeqG.valStep (fun wv hbv hpv => ?_) ?_
      · skip
        go_wp2_with fail
        exact post_val (Below.refl _ _)
      simp only [Act.put, List.setIfInBounds_toArray, List.set_cons_zero, List.set_cons_succ]
      refine SeqG.valStep (fun wv hbv hpv => ?_) ?_
      · obtain ⟨c0, c1⟩ := cells2 (hCa.below hbv hBa) hx
        go_wp2_with fail
        exact post_val (Below.refl _ _)
      simp only [Act.put, List.setIfInBounds_toArray, List.set_cons_zero, List.set_cons_succ]
      refine SeqG.fixStep (.inl ⟨rfl, fun _ => rfl⟩) ?_
      simp only [Act.put, List.setIfInBounds_toArray, List.set_cons_zero, List.set_cons_succ]
      refine SeqG.fixStep (.inl ⟨rfl, fun _ => rfl⟩) ?_
      simp only [Act.put, List.setIfInBounds_toArray, List.set_cons_zero, List.set_cons_succ]
      refine SeqG.valStep (fun wv hbv hpv => ?_) ?_
      · skip
        go_wp2_with fail
        exact post_val (Below.refl _ _)
      simp only [Act.put, List.setIfInBounds_toArray, List.set_cons_zero, List.set_cons_succ]
      refine SeqG.valStep (fun wv hbv hpv => ?_) ?_
      · skip
        go_wp2_with fail
        exact post_val (Below.refl _ _)
      simp only [Act.put, List.setIfInBounds_toArray, List.set_cons_zero, List.set_cons_succ]
      refine SeqG.valStep (fun wv hbv hpv => ?_) ?_
      · obtain ⟨c0, c1⟩ := cells2 (hCb.below hbv hBb) hy
        go_wp2_with fail
        exact post_val (Below.refl _ _)
      simp only [Act.put, List.setIfInBounds_toArray, List.set_cons_zero, List.set_cons_succ]
      refine SeqG.valStep (fun wv hbv hpv => ?_) ?_
      · go_wp2_with fail
        refine (l1Least_any _ _ _).mono ?_; rintro e w' ⟨he, rfl⟩; rw [Hm.out] at he; subst he
        go_wp2_with fail
        exact post_val (Below.refl _ _)
      simp only [Act.put, List.setIfInBounds_toArray, List.set_cons_zero, List.set_cons_succ]
      refine SeqG.valStep (fun wv hbv hpv => ?_) ?_
      · skip
        go_wp2_with fail
        exact post_val (Below.refl _ _)
      simp only [Act.put, List.setIfInBounds_toArray, List.set_cons_zero, List.set_cons_succ]
      refine SeqG.predStep (fun v w1 w2 hb h => by obtain ⟨g, h1, h2, h3⟩ := h; exact ⟨g, h1, h2, h3.below' hb⟩) (fun wv hbv hpv => ?_) (fun v => ?_)
      · go_wp2_with fail
        exact post_pred _ (by (repeat (first | exact Below.refl _ _ | refine Below.drew ?_ | refine below_drewN ?_ _ | (refine Below.alloc ?_ (by (try simp) <;> omega) _) | (refine Below.setCell ?_ (by (try simp) <;> omega) _) | (refine Below.trans ?_ (Below.mono (by assumption) (by (try simp) <;> omega)))))) ⟨_, rfl, hbv.size, Blk.new _ _ _⟩
      simp only [Act.put, List.setIfInBounds_toArray, List.set_cons_zero, List.set_cons_succ]
      refine SeqG.done fun wv hbv hpv => ?_
      obtain ⟨g, rfl, hg, kg⟩ := hpv _ (.head _)
      have hG := hG0.out.below hbv
      have zv := hbv.size
      have hbw : Below w.heap.size w wv := hb.trans (hbv.mono (by omega))
      clear hpv
      refine NoPanL ?_
      refine wpList_append_own _ rfl _ _ 25 rfl w.heap.size 67 i0 (.agg #[.int .i64 0, .int .i64 0]) 2 16 Try.underlying25 hi hz0 hz1 hz2 rfl (by decide) _ _ _ rfl hG ⟨g, 0, none⟩ 1 1 [.int .i64 M, .int .i64 m] rfl rfl ?_ ?_ ?_ ?_ ?_ ?_
      · intro j u hj
        rw [Go.WideShapes.add_plain, kg.cell]
        match j, hj with
        | 0, hj => simpa using hj
        | 1, hj => simpa using hj
      · intro u hu
        simp at hu
        rcases hu with rfl | rfl <;> rfl
      · unfold maxLen; omega
      · omega
      · omega
      intro v' w1 hown hgrow _
      have hG1 : Gath f2 2 67 w1 w.heap.size v' (G ++ [(M, m)]) := Gath.snoc hown
      have hb1 : Below w.heap.size w w1 := below_grown' hbw hgrow hG (Nat.le_refl _) (by omega)
      have hG2 := Lib.hid hG1
      clear hown hG hG0 hG1 hgrow hbv hbw kg
      go_wp2_with fail
      refine NoPan.normal ?_
      go_wp2
      go_roundw
      case rel => exact ⟨k + 1, by go_num, by omega, by rw [Hn.out]; exact hG2.out, hb1⟩
      case measure => simp only [intOf]; omega
    · obtain rfl : k = a.length := by omega
      obtain ⟨A1, c1, rfl, hO⟩ := Gath.own (f := f2) (m := 2) (fun _ => rfl) hG
      have hl9 := jnL_len a b a.length
      have HO := Lib.hid hO
      have hs9 := hO.sl
      clear hO hG
      cases h5 : ladB (jnL a b a.length)
      · have Hb := Lib.hid (show jnU a b = false by rw [HU.out, h5])
        have Hl := Lib.hid (jnR_no Hb.out)
        go_wp2_with fail
        refine (l13Good_any _ _ _ _ hs9 (by omega)).mono ?_; rintro e w5 ⟨rfl, hb5⟩
        rw [h5]
        have z5 := hb5.size
        go_wp2
        go_ret2
        exact ⟨_, 0, by rw [Hb.out, Hl.out]; rfl, by rw [Hl.out]; exact OwnR.nil, by (repeat (first | exact Below.refl _ _ | refine Below.drew ?_ | refine below_drewN ?_ _ | (refine Below.alloc ?_ (by (try simp) <;> omega) _) | (refine Below.setCell ?_ (by (try simp) <;> omega) _) | (refine Below.trans ?_ (Below.mono (by assumption) (by (try simp) <;> omega)))))⟩
      · have Hb := Lib.hid (show jnU a b = true by rw [HU.out, h5])
        have Hl := Lib.hid (jnR_yes Hb.out)
        go_wp2_with fail
        refine (l13Good_any _ _ _ _ hs9 (by omega)).mono ?_; rintro e w5 ⟨rfl, hb5⟩
        rw [h5]
        have z5 := hb5.size
        have HO5 := Lib.hid (HO.out.next hb5)
        clear hs9 HO
        go_wp2
        go_ret2
        exact ⟨A1, c1, by rw [Hb.out, Hl.out]; rfl, by rw [Hl.out]; exact HO5.out, by (repeat (first | exact Below.refl _ _ | refine Below.drew ?_ | refine below_drewN ?_ _ | (refine Below.alloc ?_ (by (try simp) <;> omega) _) | (refine Below.setCell ?_ (by (try simp) <;> omega) _) | (refine Below.trans ?_ (Below.mono (by assumption) (by (try simp) <;> omega)))))⟩
end Go.Proofs.Ythhjbdhglaombaa
