/-
  OffRungs: the program.
-/
import Derived.Test.YthhjbdhglaombaaSer1
import Derived.Test.YthhjbdhglaombaaRf1
import Derived.Test.YthhjbdhglaombaaPred
import Derived.Test.YthhjbdhglaombaaHBasin
import Derived.WalkKit
import Derived.WalkSpells
import Derived.WalkLawsBesides
import Derived.Lib.Hide
import Derived.Deep.QuietTactic
import Derived.BigQuiet
import Derived.StillTailTactics
namespace Go.Proofs.Ythhjbdhglaombaa
open Go.RowKit

/-- The places of the rungs on which their basins' brines do not stand. -/
def offL (a : List (Int × Int)) (b : List (Int × Int × Int)) : Nat → List Int
  | 0 => []
  | k + 1 => match a[k]?, b[k]? with
    | some x, some y => if staB x.1 x.2 y.2.1 y.2.2 then offL a b k else offL a b k ++ [(k : Int)]
    | _, _ => offL a b k
theorem offL_yes {a : List (Int × Int)} {b : List (Int × Int × Int)} {k : Nat} {x y} (hx : a[k]? = some x) (hy : b[k]? = some y) (h : staB x.1 x.2 y.2.1 y.2.2 = true) : offL a b (k + 1) = offL a b k := by rw [offL, hx, hy]; simp only [h]; rfl
theorem offL_no {a : List (Int × Int)} {b : List (Int × Int × Int)} {k : Nat} {x y} (hx : a[k]? = some x) (hy : b[k]? = some y) (h : staB x.1 x.2 y.2.1 y.2.2 = false) : offL a b (k + 1) = offL a b k ++ [(k : Int)] := by rw [offL, hx, hy]; simp only [h]; rfl
theorem offL_len (a : List (Int × Int)) (b : List (Int × Int × Int)) : ∀ k, (offL a b k).length ≤ k
  | 0 => Nat.le_refl 0
  | k + 1 => by
    have ih := offL_len a b k
    rw [offL]
    split
    · split
      · omega
      · rw [List.length_append]; simp; omega
    · omega
def offR (a : List (Int × Int)) (b : List (Int × Int × Int)) : List Int := if matB a b then offL a b a.length else []
theorem offR_no {a : List (Int × Int)} {b : List (Int × Int × Int)} (h : matB a b = false) : offR a b = [] := by simp [offR, h]
theorem offR_yes {a : List (Int × Int)} {b : List (Int × Int × Int)} (h : matB a b = true) : offR a b = offL a b a.length := by simp [offR, h]
theorem offR_len (a : List (Int × Int)) (b : List (Int × Int × Int)) : (offR a b).length ≤ 8 := by
  unfold offR
  split
  · rename_i h
    simp only [matB, Bool.and_eq_true] at h
    have := offL_len a b a.length
    have := ladB_len h.1.1
    omega
  · simp
def keepB (a : List (Int × Int)) (b : List (Int × Int × Int)) : Bool := matB a b && decide ((offR a b).length = 0)
theorem matB_parts {a : List (Int × Int)} {b : List (Int × Int × Int)} (h : matB a b = true) : ladB a = true ∧ serB b = true ∧ a.length = b.length := by
  simp only [matB, Bool.and_eq_true, decide_eq_true_eq] at h
  exact ⟨h.1.1, h.1.2, h.2⟩

set_option maxRecDepth 4000 in
set_option maxHeartbeats 4000000 in
theorem OffRungs_any (A : Option Addr) (c : Nat) (a : List (Int × Int)) (A' : Option Addr) (c' : Nat) (b : List (Int × Int × Int)) (w : World) (hr : SlR f2 2 w w.heap.size A a) (hm : (a.length : Int) ≤ 1048576) (hr' : SlR f3 3 w w.heap.size A' b) (hm' : (b.length : Int) ≤ 1048576) :
    Calls Try.prog 43 #[.slice A a.length c, .slice A' b.length c'] w (NewSl2 f1 1 3 w (offR a b) (matB a b)) := by
  obtain ⟨i0, hi, hz0, hz1, hz2⟩ := info_parts infoI
  cases h : matB a b
  · have Hl := Lib.hid (offR_no h)
    go_enter Try.func43, Try.ntmps43
    go_wp2_with fail
    refine (areMatched_any _ _ _ _ _ _ _ hr hm hr' hm').mono ?_; rintro e w1 ⟨rfl, hb1⟩
    have z1 := hb1.size
    try simp at z1
    rw [h]
    go_wp2
    go_ret2
    exact ⟨_, 0, by rw [Hl.out]; rfl, by rw [Hl.out]; exact OwnR.nil, by (repeat (first | exact Below.refl _ _ | refine Below.drew ?_ | refine below_drewN ?_ _ | (refine Below.alloc ?_ (by (try simp) <;> omega) _) | (refine Below.setCell ?_ (by (try simp) <;> omega) _) | (refine Below.trans ?_ (Below.mono (by assumption) (by (try simp) <;> omega)))))⟩
  obtain ⟨h1, h2, h3⟩ := matB_parts h
  have Hl := Lib.hid (offR_yes h)
  have Hg := Lib.hid (fun (k : Nat) (x : Int × Int) (hx : a[k]? = some x) => ladB_rung h1 hx)
  have Hg' := Lib.hid (fun (k : Nat) (x : Int × Int × Int) (hx : b[k]? = some x) => serB_one h2 hx)
  have hl8 := ladB_len h1
  have Hlen := Lib.hid h3
  clear h1 h2 h3
  go_enter Try.func43, Try.ntmps43
  go_wp2_with fail
  refine (areMatched_any _ _ _ _ _ _ _ hr hm hr' hm').mono ?_; rintro e w1 ⟨rfl, hb1⟩
  have z1 := hb1.size
  try simp at z1
  rw [h]
  clear h
  go_wp2
  go_loopw [15, 6] (fun i v wr => ∃ k : Nat, i = .int .i64 k ∧ k ≤ a.length ∧ Gath f1 1 3 wr w.heap.size v (offL a b k) ∧ Below w.heap.size w wr) (fun i _ _ => (a.length - intOf i).toNat)
  case atStart => exact ⟨0, rfl, by omega, Gath.nil, by (repeat (first | exact Below.refl _ _ | refine Below.drew ?_ | refine below_drewN ?_ _ | (refine Below.alloc ?_ (by (try simp) <;> omega) _) | (refine Below.setCell ?_ (by (try simp) <;> omega) _) | (refine Below.trans ?_ (Below.mono (by assumption) (by (try simp) <;> omega)))))⟩
  case round =>
    obtain ⟨k, rfl, hk, hG, hb⟩ := hrel
    have zr := hb.size
    by_cases hlt : k < a.length
    · have hx : a[k]? = some a[k] := List.getElem?_eq_getElem hlt
      have hlt' : k < b.length := by have := Hlen.out; omega
      have hy : b[k]? = some b[k] := List.getElem?_eq_getElem hlt'
      obtain ⟨ba, oa, rfl, hBa', hca⟩ := hr (SlR.ne hx)
      obtain ⟨bb, ob, rfl, hBb', hcb⟩ := hr' (SlR.ne hy)
      have hCa := hca.below hb hBa'
      have hCb0 := Lib.hid (hcb.below hb hBb')
      have hBa : ba < wr.heap.size := by omega
      have hBb : bb < wr.heap.size := by omega
      have hk0 : (0 : Int) ≤ (k : Int) := by omega
      have hk1 : (k : Int) < (a.length : Int) := by omega
      have hk2 : (k : Int) < (b.length : Int) := by omega
      obtain ⟨g0, g1, g2⟩ := Hg.out k _ hx
      have gy := (Hg'.out k _ hy).2
      generalize a[k] = x at *
      generalize b[k] = y at *
      obtain ⟨c0, c1⟩ := cells2 hCa hx
      clear hr hr' hca hcb hlt hlt' Hg Hg'
      cases h5 : staB x.1 x.2 y.2.1 y.2.2
      case true =>
        have Hn := Lib.hid (offL_yes hx hy h5)
        have hl9 := offL_len a b k
        generalize offL a b k = G at *
        have HG := Lib.hid hG
        clear hG
        have hbq : Below wr.heap.size wr (wr.alloc (.cells #[.int .i64 x.1, .int .i64 x.2] 67 (0, 0))) := (Below.refl _ _).alloc (Nat.le_refl _) _
        have q0 : (wr.alloc (.cells #[.int .i64 x.1, .int .i64 x.2] 67 (0, 0))).cell? ⟨wr.heap.size, 0, none⟩ = some (.int .i64 x.1) := by simp
        have q1 : (wr.alloc (.cells #[.int .i64 x.1, .int .i64 x.2] 67 (0, 0))).cell? ⟨wr.heap.size, 1, none⟩ = some (.int .i64 x.2) := by simp
        have zq : wr.heap.size + 1 ≤ (wr.alloc (.cells #[.int .i64 x.1, .int .i64 x.2] 67 (0, 0))).heap.size := by simp
        go_wp2
        generalize wr.alloc (.cells #[.int .i64 x.1, .int .i64 x.2] 67 (0, 0)) = wq at *
        have hBq : bb < wq.heap.size := by omega
        have hCb := hCb0.out.below hbq (by omega)
        refine wp_region_grow [.val (.agg #[.int .i64 x.1, .int .i64 x.2]), .fix (.slice (some ⟨bb, ob, none⟩) b.length c'), .fix (.int .i64 k), .val (.pointer (some ⟨bb, ob + k * 3, none⟩)), .val (.pointer (some ⟨bb, ob + k * 3 + 1, none⟩)), .val (briV y.2.1 y.2.2), .val (.bool true), .val (.bool false)] mixed (by kernel_rfl) ?_
        refine SeqG.valStep (fun wv hbv hpv => ?_) ?_
        · obtain ⟨cc, ff⟩ := bblk hbv (g := wr.heap.size) (by omega); have e0 := (cc 0).trans q0; have e1 := (cc 1).trans q1
          go_wp2_with fail
          exact post_val (Below.refl _ _)
        simp only [Act.put, List.setIfInBounds_toArray, List.set_cons_zero, List.set_cons_succ]
        refine SeqG.fixStep (.inl ⟨rfl, fun _ => rfl⟩) ?_
        simp only [Act.put, List.setIfInBounds_toArray, List.set_cons_zero, List.set_cons_succ]
        refine SeqG.fixStep (.inl ⟨rfl, fun _ => rfl⟩) ?_
        simp only [Act.put, List.setIfInBounds_toArray, List.set_cons_zero, List.set_cons_succ]
        refine SeqG.valStep (fun wv hbv hpv => ?_) ?_
        · skip
          go_wp2_with fail
          exact post_val (Below.refl _ _)
        simp only [Act.put, List.setIfInBounds_toArray, List.set_cons_zero, List.set_cons_succ]
        refine SeqG.valStep (fun wv hbv hpv => ?_) ?_
        · skip
          go_wp2_with fail
          exact post_val (Below.refl _ _)
        simp only [Act.put, List.setIfInBounds_toArray, List.set_cons_zero, List.set_cons_succ]
        refine SeqG.valStep (fun wv hbv hpv => ?_) ?_
        · obtain ⟨d0, d1, d2⟩ := cells3 (hCb.below hbv hBq) hy
          go_wp2_with fail
          exact post_val (Below.refl _ _)
        simp only [Act.put, List.setIfInBounds_toArray, List.set_cons_zero, List.set_cons_succ]
        refine SeqG.valStep (fun wv hbv hpv => ?_) ?_
        · go_wp2_with fail
          refine (stands_any _ _ _ _ _ (by omega) (by omega) gy.1 gy.2).mono ?_; rintro e w' ⟨he, hb⟩; rw [h5] at he; subst he
          go_wp2_with fail
          exact post_val hb
        simp only [Act.put, List.setIfInBounds_toArray, List.set_cons_zero, List.set_cons_succ]
        refine SeqG.valStep (fun wv hbv hpv => ?_) ?_
        · skip
          go_wp2_with fail
          exact post_val (Below.refl _ _)
        simp only [Act.put, List.setIfInBounds_toArray, List.set_cons_zero, List.set_cons_succ]
        refine SeqG.done fun wv hbv hpv => ?_
        clear hpv
        have zv := hbv.size
        have hG2 := Lib.hid ((HG.out.below hbq).below hbv)
        have hbw : Below w.heap.size w wv := hb.trans ((hbq.mono (by omega)).trans (hbv.mono (by omega)))
        clear hbv HG hbq q0 q1 hCb hy hCa hx
        go_wp2_with fail
        refine NoPan.normal ?_
        go_wp2
        go_roundw
        case rel => exact ⟨k + 1, by go_num, by omega, by rw [Hn.out]; exact hG2.out, hbw⟩
        case measure => simp only [intOf]; omega
      case false =>
        have Hn := Lib.hid (offL_no hx hy h5)
        have hl9 := offL_len a b k
        generalize offL a b k = G at *
        have HG := Lib.hid hG
        clear hG
        have hbq : Below wr.heap.size wr (wr.alloc (.cells #[.int .i64 x.1, .int .i64 x.2] 67 (0, 0))) := (Below.refl _ _).alloc (Nat.le_refl _) _
        have q0 : (wr.alloc (.cells #[.int .i64 x.1, .int .i64 x.2] 67 (0, 0))).cell? ⟨wr.heap.size, 0, none⟩ = some (.int .i64 x.1) := by simp
        have q1 : (wr.alloc (.cells #[.int .i64 x.1, .int .i64 x.2] 67 (0, 0))).cell? ⟨wr.heap.size, 1, none⟩ = some (.int .i64 x.2) := by simp
        have zq : wr.heap.size + 1 ≤ (wr.alloc (.cells #[.int .i64 x.1, .int .i64 x.2] 67 (0, 0))).heap.size := by simp
        go_wp2
        generalize wr.alloc (.cells #[.int .i64 x.1, .int .i64 x.2] 67 (0, 0)) = wq at *
        have hBq : bb < wq.heap.size := by omega
        have hCb := hCb0.out.below hbq (by omega)
        refine wp_region_grow [.val (.agg #[.int .i64 x.1, .int .i64 x.2]), .fix (.slice (some ⟨bb, ob, none⟩) b.length c'), .fix (.int .i64 k), .val (.pointer (some ⟨bb, ob + k * 3, none⟩)), .val (.pointer (some ⟨bb, ob + k * 3 + 1, none⟩)), .val (briV y.2.1 y.2.2), .val (.bool false), .val (.bool true)] mixed (by kernel_rfl) ?_
        refine SeqG.valStep (fun wv hbv hpv => ?_) ?_
        · obtain ⟨cc, ff⟩ := bblk hbv (g := wr.heap.size) (by omega); have e0 := (cc 0).trans q0; have e1 := (cc 1).trans q1
          go_wp2_with fail
          exact post_val (Below.refl _ _)
        simp only [Act.put, List.setIfInBounds_toArray, List.set_cons_zero, List.set_cons_succ]
        refine SeqG.fixStep (.inl ⟨rfl, fun _ => rfl⟩) ?_
        simp only [Act.put, List.setIfInBounds_toArray, List.set_cons_zero, List.set_cons_succ]
        refine SeqG.fixStep (.inl ⟨rfl, fun _ => rfl⟩) ?_
        simp only [Act.put, List.setIfInBounds_toArray, List.set_cons_zero, List.set_cons_succ]
        refine SeqG.valStep (fun wv hbv hpv => ?_) ?_
        · skip
          go_wp2_with fail
          exact post_val (Below.refl _ _)
        simp only [Act.put, List.setIfInBounds_toArray, List.set_cons_zero, List.set_cons_succ]
        refine SeqG.valStep (fun wv hbv hpv => ?_) ?_
        · skip
          go_wp2_with fail
          exact post_val (Below.refl _ _)
        simp only [Act.put, List.setIfInBounds_toArray, List.set_cons_zero, List.set_cons_succ]
        refine SeqG.valStep (fun wv hbv hpv => ?_) ?_
        · obtain ⟨d0, d1, d2⟩ := cells3 (hCb.below hbv hBq) hy
          go_wp2_with fail
          exact post_val (Below.refl _ _)
        simp only [Act.put, List.setIfInBounds_toArray, List.set_cons_zero, List.set_cons_succ]
        refine SeqG.valStep (fun wv hbv hpv => ?_) ?_
        · go_wp2_with fail
          refine (stands_any _ _ _ _ _ (by omega) (by omega) gy.1 gy.2).mono ?_; rintro e w' ⟨he, hb⟩; rw [h5] at he; subst he
          go_wp2_with fail
          exact post_val hb
        simp only [Act.put, List.setIfInBounds_toArray, List.set_cons_zero, List.set_cons_succ]
        refine SeqG.valStep (fun wv hbv hpv => ?_) ?_
        · skip
          go_wp2_with fail
          exact post_val (Below.refl _ _)
        simp only [Act.put, List.setIfInBounds_toArray, List.set_cons_zero, List.set_cons_succ]
        refine SeqG.done fun wv hbv hpv => ?_
        clear hpv
        have zv := hbv.size
        have hG2 := Lib.hid ((HG.out.below hbq).below hbv)
        have hbw : Below w.heap.size w wv := hb.trans ((hbq.mono (by omega)).trans (hbv.mono (by omega)))
        clear hbv HG hbq q0 q1 hCb hy hCa hx
        go_wp2_with fail
        refine NoPan.normal ?_
        go_wp2_with (at_builtin; refine wpList_append_own _ rfl _ _ 43 rfl w.heap.size 3 i0 (.int .i64 0) 1 8 Try.underlying43 hi hz0 hz1 hz2 rfl (by decide) _ _ _ rfl (hG2.out.alloc _) ⟨wv.heap.size, 0, none⟩ 1 1 [.int .i64 k] rfl rfl ?c1 ?c2 ?c3 ?c4 ?c5 ?c6)
        case c1 => exact one_cell (by simp)
        case c2 => exact one_ok
        case c3 => unfold maxLen; omega
        case c4 => omega
        case c5 => simp; omega
        case c6 =>
          intro v' w9 hown hgrow _
          have hG9 : Gath f1 1 3 w9 w.heap.size v' (G ++ [(k : Int)]) := Gath.snoc hown
          have hb9 : Below w.heap.size w w9 := below_grown' (hbw.alloc (by omega) _) hgrow (hG2.out.alloc _) (Nat.le_refl _) (by simp; omega)
          have HG9 := Lib.hid hG9
          clear hown hG9 hgrow hbw hG2
          go_wp2
          go_roundw
          case rel => exact ⟨k + 1, by go_num, by omega, by rw [Hn.out]; exact HG9.out, hb9⟩
          case measure => simp only [intOf]; omega
    · obtain rfl : k = a.length := by omega
      obtain ⟨A1, c1, rfl, hO⟩ := Gath.own (f := f1) (m := 1) (fun _ => rfl) hG
      have hO1 := Lib.hid hO
      clear hO hG
      rw [← Hl.out] at hO1
      rw [← Hl.out]
      go_wp2
      go_ret2
      exact ⟨A1, c1, rfl, hO1.out, hb⟩
end Go.Proofs.Ythhjbdhglaombaa
