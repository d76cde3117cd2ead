/-
  The cursor's set of sieves.
-/
import Derived.Test.YtapfnelghmnajaaDoorDrw
import Derived.Test.YtapfnelghmnajaaDoorAppend
import Derived.Test.YtapfnelghmnajaaDoorHInt
import Derived.WalkKit
import Derived.WalkSpells
import Derived.WalkLawsBesides
import Derived.Lib.Hide
import Derived.Deep.QuietTactic
import Derived.BigQuiet
import Derived.StillTailTactics
namespace Go.Proofs.YtapfnelghmnajaaDoor
open Go.RowKit

theorem one_ok {x : Int} : ∀ u ∈ [Value.int .i64 x], u.oneCell' = true := by
  intro u hu; simp at hu; subst hu; rfl
/-- A list of a few small ints. -/
def FewOk (n : Nat) (M : List Int) : Prop := M.length ≤ n ∧ ∀ x ∈ M, Small x
theorem FewOk.nil {n : Nat} : FewOk n [] := ⟨Nat.zero_le _, fun x h => by cases h⟩
theorem FewOk.snoc {n : Nat} {M : List Int} {x : Int} (h : FewOk n M) (hx : Small x) : FewOk (n + 1) (M ++ [x]) :=
  ⟨by rw [List.length_append]; have := h.1; simp; omega, fun z hz => by
    rcases List.mem_append.1 hz with hz | hz
    · exact h.2 z hz
    · rw [List.mem_singleton] at hz; subst hz; exact hx⟩
theorem FewOk.mono {n m : Nat} {M : List Int} (h : FewOk n M) (hm : n ≤ m) : FewOk m M := ⟨Nat.le_trans h.1 hm, h.2⟩
theorem FewOk.inI {n : Nat} {M : List Int} (h : FewOk n M) : ∀ x ∈ M, InI1 x := fun x hx => (h.2 x hx).inI
theorem mem3 {x a b c : Int} (h : x ∈ [a, b, c]) : x = a ∨ x = b ∨ x = c := by simpa using h

/-- A literal of ints is the call's own. -/
theorem lit_own {t : TypeId} {B : Nat} {w : World} (M : List Int) (hB : B ≤ w.heap.size) : OwnR f1 1 t (w.alloc (.cells (M.map (Value.int .i64)).toArray t)) B (some ⟨w.heap.size, 0, none⟩) M := fun _ => by
  refine ⟨w.heap.size, rfl, hB, ⟨(M.map (Value.int .i64)).toArray, Blk.new w t _, by simp⟩, fun k x hx j u hu => ?_⟩
  have hj : j = 0 := by
    have := (List.getElem?_eq_some_iff.1 hu).1
    simp [f1] at this; omega
  subst hj
  simp [f1] at hu; subst hu
  have := (Blk.new w t (M.map (Value.int .i64)).toArray).cell k
  rw [show 0 + k * 1 + 0 = k by omega, this]
  simp [hx]

set_option maxRecDepth 20000 in
set_option maxHeartbeats 8000000 in
theorem set14_any (A : Option Addr) (c : Nat) (L : List Int) (g nn : Nat) (w : World) (hI : ∀ x ∈ L, 0 ≤ x ∧ x ≤ 255) (hl : (L.length : Int) ≤ 65536) (hnn : nn ≤ 100000) (hc : Cur A c L g nn w) :
    Calls Tryd.prog 34 #[.pointer (some ⟨g, 0, none⟩)] w (CurL f1 1 3 A c L g (nn + 30) w (FewOk 6)) := by
  obtain ⟨i0, hi, hz0, hz1, hz2⟩ := info_parts infoInt
  have HI := Lib.hid hi; have HZ0 := Lib.hid hz0; have HZ1 := Lib.hid hz1; have HZ2 := Lib.hid hz2
  clear hi hz0 hz1 hz2
  have g0 := hc.lt
  have hG0 := Gath.made (f := f1) (m := 1) (t := 3) (B := w.heap.size) (w := w) (Nat.le_refl _)
  go_enter Tryd.func34, Tryd.ntmps34
  go_wp2_with fail
  refine (among_any [200, 80, 40] A c L g (nn) _ _ _ _ hI hl (by omega) (hc.next (by (repeat (first | exact Below.refl _ _ | refine Below.drew ?_ | refine below_drewN ?_ _ | (refine Below.alloc ?_ (by (try simp) <;> omega) _) | (refine Below.setCell ?_ (by (try simp) <;> omega) _) | (refine Below.trans ?_ (Below.mono (by assumption) (by (try simp) <;> omega))))))) (by rfl) (by omega) (by omega) (by first | exact Blk.new _ _ _ | exact Blk.new1 _ _ _ _) (by have := hc.lt; (try simp); omega)).mono ?_; rintro e w1 ⟨x1, rfl, hx1, hc1, hb1⟩
  have G1 : ButG g w w1 := ButG.refl.trans ((ButG.of (by (repeat (first | exact Below.refl _ _ | refine Below.drew ?_ | refine below_drewN ?_ _ | (refine Below.alloc ?_ (by (try simp) <;> omega) _) | (refine Below.setCell ?_ (by (try simp) <;> omega) _) | (refine Below.trans ?_ (Below.mono (by assumption) (by (try simp) <;> omega)))))) : ButG g w _).trans hb1)
  have hG1 := Gath.but (Gath.alloc hG0 _) g0 hb1
  have m1 := mem_small hx1 (by decide)
  have m1' : 0 < x1 ∧ x1 ≤ 200 := by rcases mem3 hx1 with h | h | h <;> omega
  go_wp2_with fail
  refine (pick_any A c L g (nn + 2) (5) _ hI hl (by omega) (by omega) (hc1.next (by (repeat (first | exact Below.refl _ _ | refine Below.drew ?_ | refine below_drewN ?_ _ | (refine Below.alloc ?_ (by (try simp) <;> omega) _) | (refine Below.setCell ?_ (by (try simp) <;> omega) _) | (refine Below.trans ?_ (Below.mono (by assumption) (by (try simp) <;> omega)))))))).mono ?_; rintro e w2 ⟨x2, rfl, hx2, hc2, hb2⟩
  have G2 : ButG g w w2 := G1.trans ((ButG.of (by (repeat (first | exact Below.refl _ _ | refine Below.drew ?_ | refine below_drewN ?_ _ | (refine Below.alloc ?_ (by (try simp) <;> omega) _) | (refine Below.setCell ?_ (by (try simp) <;> omega) _) | (refine Below.trans ?_ (Below.mono (by assumption) (by (try simp) <;> omega)))))) : ButG g w1 _).trans hb2)
  have hG2 := Gath.but hG1 g0 hb2
  obtain ⟨u2, v2⟩ := hx2
  clear hb1 hb2 hc1 hG0 hG1 G1 m1 hx1
  go_wp2
  go_loopw [3, 4, 5] (fun v3 v4 v5 wr => ∃ (M : List Int) (o j : Int), v4 = .int .i64 o ∧ v5 = .int .i64 j ∧ (0 ≤ j ∧ M.length + j ≤ 5 ∧ 1 ≤ M.length + j) ∧ (-1000 ≤ o ∧ o ≤ 200) ∧ (M = [] → 0 < o) ∧ Hid (FewOk M.length M) ∧ Gath f1 1 3 wr w.heap.size v3 M ∧ Cur A c L g (nn + 4 + 2 * M.length) wr ∧ ButG g w wr) (fun _ _ v5 _ => (intOf v5).toNat)
  case atStart => exact ⟨[], x1, 1 + x2, rfl, rfl, ⟨by omega, by simp; omega, by simp; omega⟩, ⟨by omega, by omega⟩, fun _ => m1'.1, FewOk.nil, hG2, hc2, G2⟩
  case round =>
    obtain ⟨M, o, j, rfl, rfl, ⟨hj, hMj, hMj1⟩, ⟨ho1, ho2⟩, hM0, hM, hG, hcr, hB⟩ := hrel
    have zr := hB.size
    have hc9 := hcr
    have G9 := hB
    generalize wr = w9 at *
    clear hc2 hG2 G2 hcr hB m1'
    have hn5 : M.length ≤ 5 := by omega
    by_cases hlt : 0 < j ∧ 0 < o
    · obtain ⟨hj0, ho0⟩ := hlt
      have HG := Lib.hid (Gath.alloc hG (.cells #[.int .i64 o] 3))
      have HG0 := Lib.hid hG
      clear hG
      go_wp2_with (at_builtin; refine wpList_append_own _ rfl _ _ 22 rfl w.heap.size 3 i0 (.int .i64 0) 1 8 Tryd.underlying22 HI.out HZ0.out HZ1.out HZ2.out rfl (by decide) _ _ _ rfl HG.out ⟨_, 0, none⟩ 1 1 [.int .i64 o] rfl rfl (lit_cells _ _ _) one_ok ?c3 ?c4 ?c5 ?c6)
      case c3 => unfold maxLen; first | omega | (simp; omega)
      case c4 => first | omega | (simp; omega)
      case c5 => first | omega | (simp; omega)
      case c6 =>
        intro v' w8 hown hgrow _
        have hG8 : Gath f1 1 3 w8 w.heap.size v' (M ++ [o]) := Gath.snoc hown
        have hc8 : Cur A c L g (nn + 4 + 2 * M.length) w8 := (hc9.next (by (repeat (first | exact Below.refl _ _ | refine Below.drew ?_ | refine below_drewN ?_ _ | (refine Below.alloc ?_ (by (try simp) <;> omega) _) | (refine Below.setCell ?_ (by (try simp) <;> omega) _) | (refine Below.trans ?_ (Below.mono (by assumption) (by (try simp) <;> omega)))))) : Cur A c L g (nn + 4 + 2 * M.length) (w9.alloc (.cells #[.int .i64 o] 3))).grown hgrow (fun k hk => by have := HG0.out.rowGe k hk; omega)
        have G8 : ButG g w w8 := (G9.alloc _).grown hgrow (fun k hk => HG0.out.rowGe k hk)
        have hl8 : (M ++ [o]).length = M.length + 1 := by simp
        have HL8 := Lib.hid hl8
        have hl9 : ((M ++ [o]).length : Int) ≤ M.length + 1 ∧ (M.length : Int) + 1 ≤ (M ++ [o]).length := by omega
        have hM8 : Hid (FewOk (M ++ [o]).length (M ++ [o])) := by rw [hl8]; exact hM.out.snoc ⟨by omega, by omega⟩
        clear hown hgrow HG HG0 hc9 G9 hl8
        go_wp2_with fail
        refine (among_any [o - 1, o / 2, o - 10] A c L g (nn + 4 + 2 * M.length) _ _ _ _ hI hl (by omega) (hc8.next (by (repeat (first | exact Below.refl _ _ | refine Below.drew ?_ | refine below_drewN ?_ _ | (refine Below.alloc ?_ (by (try simp) <;> omega) _) | (refine Below.setCell ?_ (by (try simp) <;> omega) _) | (refine Below.trans ?_ (Below.mono (by assumption) (by (try simp) <;> omega))))))) (by rfl) (by omega) (by omega) (by first | exact Blk.new _ _ _ | exact Blk.new1 _ _ _ _) (by have := hc8.lt; (try simp); omega)).mono ?_; rintro e w3 ⟨x3, rfl, hx3, hc3, hb3⟩
        have G3 : ButG g w w3 := G8.trans ((ButG.of (by (repeat (first | exact Below.refl _ _ | refine Below.drew ?_ | refine below_drewN ?_ _ | (refine Below.alloc ?_ (by (try simp) <;> omega) _) | (refine Below.setCell ?_ (by (try simp) <;> omega) _) | (refine Below.trans ?_ (Below.mono (by assumption) (by (try simp) <;> omega)))))) : ButG g w8 _).trans hb3)
        have hG3 := Gath.but (Gath.alloc hG8 _) g0 hb3
        have m3 : -1000 ≤ x3 ∧ x3 ≤ 200 := by rcases mem3 hx3 with h | h | h <;> omega
        clear hG8 hb3 hc8 G8 hx3
        go_wp2
        go_roundw
        case rel => exact ⟨M ++ [o], x3, j - 1, rfl, by go_num, ⟨by omega, by omega, by omega⟩, m3, fun e => by simp at e, hM8, hG3, hc3.mono (by have := HL8.out; omega), G3⟩
        case measure => simp only [intOf]; omega
    · have hM1 : 1 ≤ M.length := by
        cases M with
        | nil => exact absurd ⟨by simp at hMj1; omega, hM0 rfl⟩ hlt
        | cons y r => simp
      have hcase : j ≤ 0 ∨ (0 < j ∧ o ≤ 0) := by omega
      clear hlt hM0 hMj1
      rcases hcase with hj0 | ⟨hj0, ho0⟩
      all_goals
        go_wp2_with fail
        refine (pick_any A c L g (nn + 4 + 2 * M.length) (50) _ hI hl (by omega) (by omega) (hc9.next (by (repeat (first | exact Below.refl _ _ | refine Below.drew ?_ | refine below_drewN ?_ _ | (refine Below.alloc ?_ (by (try simp) <;> omega) _) | (refine Below.setCell ?_ (by (try simp) <;> omega) _) | (refine Below.trans ?_ (Below.mono (by assumption) (by (try simp) <;> omega)))))))).mono ?_; rintro e w5 ⟨x5, rfl, hx5, hc5, hb5⟩
        have G5 : ButG g w w5 := G9.trans ((ButG.of (by (repeat (first | exact Below.refl _ _ | refine Below.drew ?_ | refine below_drewN ?_ _ | (refine Below.alloc ?_ (by (try simp) <;> omega) _) | (refine Below.setCell ?_ (by (try simp) <;> omega) _) | (refine Below.trans ?_ (Below.mono (by assumption) (by (try simp) <;> omega)))))) : ButG g w9 _).trans hb5)
        have hG5 := Gath.but hG g0 hb5
        have z5 := G5.size
        obtain ⟨hx50, hx51⟩ := hx5
        clear G9 hc9 hG hb5
        by_cases h0 : x5 = 0
        · have q0 : (x5 == 0) = true := by simpa using h0
          have H0 := Lib.hid h0; clear h0 hx50 hx51
          obtain ⟨A9, c9, rfl, ho9⟩ := Gath.own (f := f1) (m := 1) (fun _ => rfl) hG5
          have hMl : (0 : Int) < M.length := by omega
          have hx : M[0]? = some (M[0]'(by omega)) := List.getElem?_eq_getElem _
          generalize M[0]'(by omega) = x at hx
          have hxs := hM.out.2 x (List.mem_of_getElem? hx)
          obtain ⟨g', rfl, hg', hR, hC⟩ := ho9 (SlR.ne hx)
          have e0 := cells1 hC hx
          simp only [Nat.zero_add] at e0
          have lg5 := hR.lt
          clear hR hC hx
          go_wp2_with fail
          refine (among_any [0, 201, x] A c L g (nn + 4 + 2 * M.length + 2) _ _ _ _ hI hl (by omega) (hc5.next (by (repeat (first | exact Below.refl _ _ | refine Below.drew ?_ | refine below_drewN ?_ _ | (refine Below.alloc ?_ (by (try simp) <;> omega) _) | (refine Below.setCell ?_ (by (try simp) <;> omega) _) | (refine Below.trans ?_ (Below.mono (by assumption) (by (try simp) <;> omega))))))) (by rfl) (by omega) (by omega) (by first | exact Blk.new _ _ _ | exact Blk.new1 _ _ _ _) (by have := hc5.lt; (try simp); omega)).mono ?_; rintro e w6 ⟨x6, rfl, hx6, hc6, hb6⟩
          have G6 : ButG g w w6 := G5.trans ((ButG.of (by (repeat (first | exact Below.refl _ _ | refine Below.drew ?_ | refine below_drewN ?_ _ | (refine Below.alloc ?_ (by (try simp) <;> omega) _) | (refine Below.setCell ?_ (by (try simp) <;> omega) _) | (refine Below.trans ?_ (Below.mono (by assumption) (by (try simp) <;> omega)))))) : ButG g w5 _).trans hb6)
          have hG6 := Gath.but (Gath.alloc hG5 _) g0 hb6
          have m6 : Small x6 := by rcases mem3 hx6 with h | h | h <;> subst h <;> first | exact hxs | exact ⟨by omega, by omega⟩
          have z6 := G6.size
          have HG := Lib.hid (Gath.alloc hG6 (.cells #[.int .i64 x6] 3))
          have HG6 := Lib.hid hG6
          clear hG5 hG6 hb6 hc5 G5 hx6 e0
          go_wp2_with (at_builtin; refine wpList_append_own _ rfl _ _ 22 rfl w.heap.size 3 i0 (.int .i64 0) 1 8 Tryd.underlying22 HI.out HZ0.out HZ1.out HZ2.out rfl (by decide) _ _ _ rfl HG.out ⟨_, 0, none⟩ 1 1 [.int .i64 x6] rfl rfl (lit_cells _ _ _) one_ok ?c3 ?c4 ?c5 ?c6)
          case c3 => unfold maxLen; first | omega | (simp; omega)
          case c4 => first | omega | (simp; omega)
          case c5 => first | omega | (simp; omega)
          case c6 =>
            intro v' w8 hown hgrow _
            have hG8 : Gath f1 1 3 w8 w.heap.size v' (M ++ [x6]) := Gath.snoc hown
            have hc8 : Cur A c L g (nn + 4 + 2 * M.length + 2 + 2) w8 := (hc6.next (by (repeat (first | exact Below.refl _ _ | refine Below.drew ?_ | refine below_drewN ?_ _ | (refine Below.alloc ?_ (by (try simp) <;> omega) _) | (refine Below.setCell ?_ (by (try simp) <;> omega) _) | (refine Below.trans ?_ (Below.mono (by assumption) (by (try simp) <;> omega)))))) : Cur A c L g (nn + 4 + 2 * M.length + 2 + 2) (w6.alloc (.cells #[.int .i64 x6] 3))).grown hgrow (fun k hk => by have := HG6.out.rowGe k hk; omega)
            have G8 : ButG g w w8 := (G6.alloc _).grown hgrow (fun k hk => HG6.out.rowGe k hk)
            clear hown hgrow HG HG6
            have hM9 := hM.out.snoc m6
            obtain ⟨A9, c9, rfl, ho9⟩ := Gath.own (f := f1) (m := 1) (fun _ => rfl) hG8
            go_wp2
            go_ret
            exact ⟨A9, c9, _, rfl, hM9.mono (by omega), ho9, hc8.mono (by omega), G8⟩
        have q0 : (x5 == 0) = false := by simpa using h0
        by_cases h1 : x5 = 1
        · have q1 : (x5 == 1) = true := by simpa using h1
          have H1 := Lib.hid h1; clear h1 h0 hx50 hx51
          have hc8 : Cur A c L g (nn + 4 + 2 * M.length + 2) (w5.alloc (.cells #[.int .i64 60, .int .i64 50, .int .i64 40, .int .i64 30, .int .i64 20, .int .i64 10] 3)) := hc5.next (by (repeat (first | exact Below.refl _ _ | refine Below.drew ?_ | refine below_drewN ?_ _ | (refine Below.alloc ?_ (by (try simp) <;> omega) _) | (refine Below.setCell ?_ (by (try simp) <;> omega) _) | (refine Below.trans ?_ (Below.mono (by assumption) (by (try simp) <;> omega))))))
          have G8 := G5.alloc (.cells #[.int .i64 60, .int .i64 50, .int .i64 40, .int .i64 30, .int .i64 20, .int .i64 10] 3)
          have o8 := lit_own (B := w.heap.size) (t := 3) (w := w5) [60, 50, 40, 30, 20, 10] z5
          go_wp2
          go_ret
          exact ⟨some ⟨w5.heap.size, 0, none⟩, 6, [60, 50, 40, 30, 20, 10], rfl, ⟨by decide, fun x hx => mem_small hx (by decide)⟩, o8, hc8.mono (by omega), G8⟩
        have q1 : (x5 == 1) = false := by simpa using h1
        by_cases h2 : x5 = 2
        · have q2 : (x5 == 2) = true := by simpa using h2
          have H2 := Lib.hid h2; clear h2 h1 h0 hx50 hx51
          obtain ⟨A9, c9, rfl, ho9⟩ := Gath.own (f := f1) (m := 1) (fun _ => rfl) hG5
          obtain ⟨g', rfl, hg', hR, hC⟩ := ho9 (by intro e; subst e; simp at hM1)
          clear hR hC ho9
          go_wp2
          go_ret
          exact ⟨_, _, [], rfl, FewOk.nil, OwnR.nil, hc5.mono (by omega), G5⟩
        have q2 : (x5 == 2) = false := by simpa using h2
        clear h0 h1 h2 hx50 hx51
        obtain ⟨A9, c9, rfl, ho9⟩ := Gath.own (f := f1) (m := 1) (fun _ => rfl) hG5
        have HM := hM
        go_wp2
        go_ret
        exact ⟨A9, c9, _, rfl, HM.out.mono (by omega), ho9, hc5.mono (by omega), G5⟩
end Go.Proofs.YtapfnelghmnajaaDoor
