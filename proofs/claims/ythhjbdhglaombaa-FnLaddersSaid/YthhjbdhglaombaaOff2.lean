/-
  OffRungs: the reference; DoesKeep: both programs.
-/
import Derived.Test.YthhjbdhglaombaaOff1
import Derived.WalkKit
import Derived.WalkSpells
import Derived.WalkLawsBesides
import Derived.Lib.Hide
import Derived.Deep.QuietTactic
import Derived.BigQuiet
import Derived.StillTailTactics
namespace Go.Proofs.Ythhjbdhglaombaa
open Go.RowKit

set_option maxRecDepth 4000 in
set_option maxHeartbeats 4000000 in
theorem l13Off_any (A : Option Addr) (c : Nat) (a : List (Int × Int)) (A' : Option Addr) (c' : Nat) (b : List (Int × Int × Int)) (w : World) (hr : SlR f2 2 w w.heap.size A a) (hm : (a.length : Int) ≤ 1048576) (hr' : SlR f3 3 w w.heap.size A' b) (hm' : (b.length : Int) ≤ 1048576) (h : matB a b = true) :
    Calls Try.prog 72 #[.slice A a.length c, .slice A' b.length c'] w (NewSl f1 1 3 w (offL a b a.length)) := by
  obtain ⟨i0, hi, hz0, hz1, hz2⟩ := info_parts infoI
  have Hmade := Lib.hid (Gath.made (f := f1) (m := 1) (t := 3) (w := w) (Nat.le_refl _))
  obtain ⟨h1, h2, h3⟩ := matB_parts h
  have Hg := Lib.hid (fun (k : Nat) (x : Int × Int) (hx : a[k]? = some x) => ladB_rung h1 hx)
  have Hg' := Lib.hid (fun (k : Nat) (x : Int × Int × Int) (hx : b[k]? = some x) => serB_one h2 hx)
  have hl8 := ladB_len h1
  have Hlen := Lib.hid h3
  clear h1 h2 h3 h
  go_enter Try.func72, Try.ntmps72
  go_wp2
  go_loopw [6, 5] (fun i v wr => ∃ k : Nat, i = .int .i64 k ∧ k ≤ a.length ∧ Gath f1 1 3 wr w.heap.size v (offL a b k) ∧ Below w.heap.size w wr) (fun i _ _ => (a.length - intOf i).toNat)
  case atStart => exact ⟨0, rfl, by omega, Hmade.out, by (repeat (first | exact Below.refl _ _ | refine Below.drew ?_ | refine below_drewN ?_ _ | (refine Below.alloc ?_ (by (try simp) <;> omega) _) | (refine Below.setCell ?_ (by (try simp) <;> omega) _) | (refine Below.trans ?_ (Below.mono (by assumption) (by (try simp) <;> omega)))))⟩
  case round =>
    obtain ⟨k, rfl, hk, hG, hb⟩ := hrel
    have zr := hb.size
    by_cases hlt : k < a.length
    · have hx : a[k]? = some a[k] := List.getElem?_eq_getElem hlt
      have hlt' : k < b.length := by have := Hlen.out; omega
      have hy : b[k]? = some b[k] := List.getElem?_eq_getElem hlt'
      obtain ⟨ba, oa, rfl, hBa', hca⟩ := hr (SlR.ne hx)
      obtain ⟨bb, ob, rfl, hBb', hcb⟩ := hr' (SlR.ne hy)
      have hCa := hca.below hb hBa'
      have hCb0 := Lib.hid (hcb.below hb hBb')
      have hBa : ba < wr.heap.size := by omega
      have hBb : bb < wr.heap.size := by omega
      have hk0 : (0 : Int) ≤ (k : Int) := by omega
      have hk1 : (k : Int) < (a.length : Int) := by omega
      have hk2 : (k : Int) < (b.length : Int) := by omega
      obtain ⟨g0, g1, g2⟩ := Hg.out k _ hx
      have gy := (Hg'.out k _ hy).2
      generalize a[k] = x at *
      generalize b[k] = y at *
      skip
      clear hr hr' hca hcb hlt hlt' Hg Hg'
      cases h5 : staB x.1 x.2 y.2.1 y.2.2
      case true =>
        have Hn := Lib.hid (offL_yes hx hy h5)
        have hl9 := offL_len a b k
        generalize offL a b k = G at *
        have HG := Lib.hid hG
        clear hG
        have hCb := hCb0.out
        go_wp2
        refine wp_region_grow [.fix (.slice (some ⟨ba, oa, none⟩) a.length c), .fix (.int .i64 k), .val (.pointer (some ⟨ba, oa + k * 2, none⟩)), .val (.agg #[.int .i64 x.1, .int .i64 x.2]), .fix (.slice (some ⟨bb, ob, none⟩) b.length c'), .fix (.int .i64 k), .val (.pointer (some ⟨bb, ob + k * 3, none⟩)), .val (.pointer (some ⟨bb, ob + k * 3 + 1, none⟩)), .val (briV y.2.1 y.2.2), .val (.bool true), .val (.bool false)] mixed (by kernel_rfl) ?_
        refine SeqG.fixStep (.inl ⟨rfl, fun _ => rfl⟩) ?_
        simp only [Act.put, List.setIfInBounds_toArray, List.set_cons_zero, List.set_cons_succ]
        refine SeqG.fixStep (.inl ⟨rfl, fun _ => rfl⟩) ?_
        simp only [Act.put, List.setIfInBounds_toArray, List.set_cons_zero, List.set_cons_succ]
        refine SeqG.valStep (fun wv hbv hpv => ?_) ?_
        · skip
          go_wp2_with fail
          exact post_val (Below.refl _ _)
        simp only [Act.put, List.setIfInBounds_toArray, List.set_cons_zero, List.set_cons_succ]
        refine SeqG.valStep (fun wv hbv hpv => ?_) ?_
        · obtain ⟨d0, d1⟩ := cells2 (hCa.below hbv hBa) hx
          go_wp2_with fail
          exact post_val (Below.refl _ _)
        simp only [Act.put, List.setIfInBounds_toArray, List.set_cons_zero, List.set_cons_succ]
        refine SeqG.fixStep (.inl ⟨rfl, fun _ => rfl⟩) ?_
        simp only [Act.put, List.setIfInBounds_toArray, List.set_cons_zero, List.set_cons_succ]
        refine SeqG.fixStep (.inl ⟨rfl, fun _ => rfl⟩) ?_
        simp only [Act.put, List.setIfInBounds_toArray, List.set_cons_zero, List.set_cons_succ]
        refine SeqG.valStep (fun wv hbv hpv => ?_) ?_
        · skip
          go_wp2_with fail
          exact post_val (Below.refl _ _)
        simp only [Act.put, List.setIfInBounds_toArray, List.set_cons_zero, List.set_cons_succ]
        refine SeqG.valStep (fun wv hbv hpv => ?_) ?_
        · skip
          go_wp2_with fail
          exact post_val (Below.refl _ _)
        simp only [Act.put, List.setIfInBounds_toArray, List.set_cons_zero, List.set_cons_succ]
        refine SeqG.valStep (fun wv hbv hpv => ?_) ?_
        · obtain ⟨d0, d1, d2⟩ := cells3 (hCb.below hbv hBb) hy
          go_wp2_with fail
          exact post_val (Below.refl _ _)
        simp only [Act.put, List.setIfInBounds_toArray, List.set_cons_zero, List.set_cons_succ]
        refine SeqG.valStep (fun wv hbv hpv => ?_) ?_
        · go_wp2_with fail
          refine (l13Stands_any _ _ _ _ _ (by omega) (by omega) gy.1 gy.2).mono ?_; rintro e w' ⟨he, hb⟩; rw [h5] at he; subst he
          go_wp2_with fail
          exact post_val hb
        simp only [Act.put, List.setIfInBounds_toArray, List.set_cons_zero, List.set_cons_succ]
        refine SeqG.valStep (fun wv hbv hpv => ?_) ?_
        · skip
          go_wp2_with fail
          exact post_val (Below.refl _ _)
        simp only [Act.put, List.setIfInBounds_toArray, List.set_cons_zero, List.set_cons_succ]
        refine SeqG.done fun wv hbv hpv => ?_
        clear hpv
        have zv := hbv.size
        have hG2 := Lib.hid (HG.out.below hbv)
        have hbw : Below w.heap.size w wv := hb.trans (hbv.mono (by omega))
        clear hbv HG hCb hy hCa hx
        go_wp2_with fail
        refine NoPan.normal ?_
        go_wp2
        go_roundw
        case rel => exact ⟨k + 1, by go_num, by omega, by rw [Hn.out]; exact hG2.out, hbw⟩
        case measure => simp only [intOf]; omega
      case false =>
        have Hn := Lib.hid (offL_no hx hy h5)
        have hl9 := offL_len a b k
        generalize offL a b k = G at *
        have HG := Lib.hid hG
        clear hG
        have hCb := hCb0.out
        go_wp2
        refine wp_region_grow [.fix (.slice (some ⟨ba, oa, none⟩) a.length c), .fix (.int .i64 k), .val (.pointer (some ⟨ba, oa + k * 2, none⟩)), .val (.agg #[.int .i64 x.1, .int .i64 x.2]), .fix (.slice (some ⟨bb, ob, none⟩) b.length c'), .fix (.int .i64 k), .val (.pointer (some ⟨bb, ob + k * 3, none⟩)), .val (.pointer (some ⟨bb, ob + k * 3 + 1, none⟩)), .val (briV y.2.1 y.2.2), .val (.bool false), .val (.bool true)] mixed (by kernel_rfl) ?_
        refine SeqG.fixStep (.inl ⟨rfl, fun _ => rfl⟩) ?_
        simp only [Act.put, List.setIfInBounds_toArray, List.set_cons_zero, List.set_cons_succ]
        refine SeqG.fixStep (.inl ⟨rfl, fun _ => rfl⟩) ?_
        simp only [Act.put, List.setIfInBounds_toArray, List.set_cons_zero, List.set_cons_succ]
        refine SeqG.valStep (fun wv hbv hpv => ?_) ?_
        · skip
          go_wp2_with fail
          exact post_val (Below.refl _ _)
        simp only [Act.put, List.setIfInBounds_toArray, List.set_cons_zero, List.set_cons_succ]
        refine SeqG.valStep (fun wv hbv hpv => ?_) ?_
        · obtain ⟨d0, d1⟩ := cells2 (hCa.below hbv hBa) hx
          go_wp2_with fail
          exact post_val (Below.refl _ _)
        simp only [Act.put, List.setIfInBounds_toArray, List.set_cons_zero, List.set_cons_succ]
        refine SeqG.fixStep (.inl ⟨rfl, fun _ => rfl⟩) ?_
        simp only [Act.put, List.setIfInBounds_toArray, List.set_cons_zero, List.set_cons_succ]
        refine SeqG.fixStep (.inl ⟨rfl, fun _ => rfl⟩) ?_
        simp only [Act.put, List.setIfInBounds_toArray, List.set_cons_zero, List.set_cons_succ]
        refine SeqG.valStep (fun wv hbv hpv => ?_) ?_
        · skip
          go_wp2_with fail
          exact post_val (Below.refl _ _)
        simp only [Act.put, List.setIfInBounds_toArray, List.set_cons_zero, List.set_cons_succ]
        refine SeqG.valStep (fun wv hbv hpv => ?_) ?_
        · skip
          go_wp2_with fail
          exact post_val (Below.refl _ _)
        simp only [Act.put, List.setIfInBounds_toArray, List.set_cons_zero, List.set_cons_succ]
        refine SeqG.valStep (fun wv hbv hpv => ?_) ?_
        · obtain ⟨d0, d1, d2⟩ := cells3 (hCb.below hbv hBb) hy
          go_wp2_with fail
          exact post_val (Below.refl _ _)
        simp only [Act.put, List.setIfInBounds_toArray, List.set_cons_zero, List.set_cons_succ]
        refine SeqG.valStep (fun wv hbv hpv => ?_) ?_
        · go_wp2_with fail
          refine (l13Stands_any _ _ _ _ _ (by omega) (by omega) gy.1 gy.2).mono ?_; rintro e w' ⟨he, hb⟩; rw [h5] at he; subst he
          go_wp2_with fail
          exact post_val hb
        simp only [Act.put, List.setIfInBounds_toArray, List.set_cons_zero, List.set_cons_succ]
        refine SeqG.valStep (fun wv hbv hpv => ?_) ?_
        · skip
          go_wp2_with fail
          exact post_val (Below.refl _ _)
        simp only [Act.put, List.setIfInBounds_toArray, List.set_cons_zero, List.set_cons_succ]
        refine SeqG.done fun wv hbv hpv => ?_
        clear hpv
        have zv := hbv.size
        have hG2 := Lib.hid (HG.out.below hbv)
        have hbw : Below w.heap.size w wv := hb.trans (hbv.mono (by omega))
        clear hbv HG hCb hy hCa hx
        go_wp2_with fail
        refine NoPan.normal ?_
        go_wp2_with (at_builtin; refine wpList_append_own _ rfl _ _ 43 rfl w.heap.size 3 i0 (.int .i64 0) 1 8 Try.underlying43 hi hz0 hz1 hz2 rfl (by decide) _ _ _ rfl (hG2.out.alloc _) ⟨wv.heap.size, 0, none⟩ 1 1 [.int .i64 k] rfl rfl ?c1 ?c2 ?c3 ?c4 ?c5 ?c6)
        case c1 => exact one_cell (by simp)
        case c2 => exact one_ok
        case c3 => unfold maxLen; omega
        case c4 => omega
        case c5 => simp; omega
        case c6 =>
          intro v' w9 hown hgrow _
          have hG9 : Gath f1 1 3 w9 w.heap.size v' (G ++ [(k : Int)]) := Gath.snoc hown
          have hb9 : Below w.heap.size w w9 := below_grown' (hbw.alloc (by omega) _) hgrow (hG2.out.alloc _) (Nat.le_refl _) (by simp; omega)
          have HG9 := Lib.hid hG9
          clear hown hG9 hgrow hbw hG2
          go_wp2
          go_roundw
          case rel => exact ⟨k + 1, by go_num, by omega, by rw [Hn.out]; exact HG9.out, hb9⟩
          case measure => simp only [intOf]; omega
    · obtain rfl : k = a.length := by omega
      obtain ⟨A1, c1, rfl, hO⟩ := Gath.own (f := f1) (m := 1) (fun _ => rfl) hG
      have hO1 := Lib.hid hO
      clear hO hG
      go_wp2
      go_ret
      exact ⟨A1, c1, rfl, hO1.out, hb⟩

set_option maxHeartbeats 1000000 in
theorem SOffRungs_any (A : Option Addr) (c : Nat) (a : List (Int × Int)) (A' : Option Addr) (c' : Nat) (b : List (Int × Int × Int)) (w : World) (hr : SlR f2 2 w w.heap.size A a) (hm : (a.length : Int) ≤ 1048576) (hr' : SlR f3 3 w w.heap.size A' b) (hm' : (b.length : Int) ≤ 1048576) :
    Calls Try.prog 42 #[.slice A a.length c, .slice A' b.length c'] w (NewSl2 f1 1 3 w (offR a b) (matB a b)) := by
  cases h : matB a b
  · have Hl := Lib.hid (offR_no h)
    go_enter Try.func42, Try.ntmps42
    go_wp2_with fail
    refine (l13Both_any _ _ _ _ _ _ _ hr hm hr' hm').mono ?_; rintro e w1 ⟨rfl, hb1⟩
    have z1 := hb1.size
    try simp at z1
    rw [h]
    go_wp2
    go_ret2
    exact ⟨_, 0, by rw [Hl.out]; rfl, by rw [Hl.out]; exact OwnR.nil, by (repeat (first | exact Below.refl _ _ | refine Below.drew ?_ | refine below_drewN ?_ _ | (refine Below.alloc ?_ (by (try simp) <;> omega) _) | (refine Below.setCell ?_ (by (try simp) <;> omega) _) | (refine Below.trans ?_ (Below.mono (by assumption) (by (try simp) <;> omega)))))⟩
  have Hl := Lib.hid (offR_yes h)
  have h' := h
  go_enter Try.func42, Try.ntmps42
  go_wp2_with fail
  refine (l13Both_any _ _ _ _ _ _ _ hr hm hr' hm').mono ?_; rintro e w1 ⟨rfl, hb1⟩
  have z1 := hb1.size
  try simp at z1
  rw [h]
  go_wp2_with fail
  refine (l13Off_any _ _ _ _ _ _ _ (hr.next hb1) hm (hr'.next hb1) hm' h').mono ?_; rintro e w3 ⟨A3, c3, rfl, o3, hb3⟩
  have HO := Lib.hid (show OwnR f1 1 3 w3 w.heap.size A3 (offR a b) by rw [Hl.out]; exact o3.mono (by omega))
  have z3 := hb3.size
  clear o3
  go_wp2
  go_ret2
  exact ⟨A3, c3, by rw [Hl.out]; rfl, HO.out, hb1.trans (hb3.mono (by omega))⟩

set_option maxHeartbeats 1000000 in
theorem SDoesKeep_any (A : Option Addr) (c : Nat) (a : List (Int × Int)) (A' : Option Addr) (c' : Nat) (b : List (Int × Int × Int)) (w : World) (hr : SlR f2 2 w w.heap.size A a) (hm : (a.length : Int) ≤ 1048576) (hr' : SlR f3 3 w w.heap.size A' b) (hm' : (b.length : Int) ≤ 1048576) :
    Calls Try.prog 38 #[.slice A a.length c, .slice A' b.length c'] w fun e w' => e = .returned (.tuple #[.bool (keepB a b), .bool (matB a b)]) ∧ Below w.heap.size w w' := by
  cases h : matB a b
  · have Hl := Lib.hid (show keepB a b = false by simp [keepB, h])
    go_enter Try.func38, Try.ntmps38
    go_wp2_with fail
    refine (l13Both_any _ _ _ _ _ _ _ hr hm hr' hm').mono ?_; rintro e w1 ⟨rfl, hb1⟩
    have z1 := hb1.size
    try simp at z1
    rw [h]
    go_wp2
    go_ret2
    exact ⟨by rw [Hl.out]; rfl, by (repeat (first | exact Below.refl _ _ | refine Below.drew ?_ | refine below_drewN ?_ _ | (refine Below.alloc ?_ (by (try simp) <;> omega) _) | (refine Below.setCell ?_ (by (try simp) <;> omega) _) | (refine Below.trans ?_ (Below.mono (by assumption) (by (try simp) <;> omega)))))⟩
  have Hl := Lib.hid (show keepB a b = (((offL a b a.length).length : Int) == 0) by rw [keepB, h, offR_yes h, Bool.true_and, Bool.eq_iff_iff]; simp)
  have h' := h
  go_enter Try.func38, Try.ntmps38
  go_wp2_with fail
  refine (l13Both_any _ _ _ _ _ _ _ hr hm hr' hm').mono ?_; rintro e w1 ⟨rfl, hb1⟩
  have z1 := hb1.size
  try simp at z1
  rw [h]
  go_wp2_with fail
  refine (l13Off_any _ _ _ _ _ _ _ (hr.next hb1) hm (hr'.next hb1) hm' h').mono ?_; rintro e w3 ⟨A3, c3, rfl, o3, hb3⟩
  have z3 := hb3.size
  clear o3
  generalize offL a b a.length = G at *
  generalize hq : ((G.length : Int) == 0) = q at *
  go_wp2
  go_ret2
  exact ⟨by rw [Hl.out]; rfl, hb1.trans (hb3.mono (by omega))⟩

set_option maxHeartbeats 1000000 in
theorem DoesKeep_any (A : Option Addr) (c : Nat) (a : List (Int × Int)) (A' : Option Addr) (c' : Nat) (b : List (Int × Int × Int)) (w : World) (hr : SlR f2 2 w w.heap.size A a) (hm : (a.length : Int) ≤ 1048576) (hr' : SlR f3 3 w w.heap.size A' b) (hm' : (b.length : Int) ≤ 1048576) :
    Calls Try.prog 40 #[.slice A a.length c, .slice A' b.length c'] w fun e w' => e = .returned (.tuple #[.bool (keepB a b), .bool (matB a b)]) ∧ Below w.heap.size w w' := by
  cases h : matB a b
  · have Hl := Lib.hid (show keepB a b = false by simp [keepB, h])
    go_enter Try.func40, Try.ntmps40
    go_wp2_with fail
    refine (OffRungs_any _ _ _ _ _ _ _ hr hm hr' hm').mono ?_; rintro e w3 ⟨A3, c3, rfl, o3, hb3⟩
    rw [h]
    clear o3
    go_wp2
    go_ret2
    exact ⟨by rw [Hl.out]; rfl, hb3⟩
  have Hl := Lib.hid (show keepB a b = (((offR a b).length : Int) == 0) by rw [keepB, h, Bool.true_and, Bool.eq_iff_iff]; simp)
  go_enter Try.func40, Try.ntmps40
  go_wp2_with fail
  refine (OffRungs_any _ _ _ _ _ _ _ hr hm hr' hm').mono ?_; rintro e w3 ⟨A3, c3, rfl, o3, hb3⟩
  rw [h]
  clear o3
  generalize offR a b = G at *
  generalize hq : ((G.length : Int) == 0) = q at *
  go_wp2
  go_ret2
  exact ⟨by rw [Hl.out]; rfl, hb3⟩
end Go.Proofs.Ythhjbdhglaombaa
