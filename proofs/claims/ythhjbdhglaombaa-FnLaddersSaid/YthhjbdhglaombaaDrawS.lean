/-
  The cursor's series: a list of basins; the Draw functions of ladders with series.
-/
import Derived.Test.YthhjbdhglaombaaDrawL2
import Derived.Test.YthhjbdhglaombaaHBasin
import Derived.Test.YthhjbdhglaombaaPut
namespace Go.Proofs.Ythhjbdhglaombaa
open Go.RowKit

/-- The cursor hands back a series of twenty basins at most. -/
def SerOk (M : List (Int × Int × Int)) : Prop := M.length ≤ 20

set_option maxRecDepth 20000 in
set_option maxHeartbeats 8000000 in
theorem series_any (A : Option Addr) (c : Nat) (L : List Int) (g nn : Nat) (w : World) (hI : ∀ x ∈ L, 0 ≤ x ∧ x ≤ 255) (hl : (L.length : Int) ≤ 65536) (hnn : nn ≤ 100000) (hc : Cur A c L g nn w) :
    Calls Try.prog 83 #[.pointer (some ⟨g, 0, none⟩)] w (CurL f3 3 87 A c L g (nn + 100) w SerOk) := by
  obtain ⟨i0, hi, hz0, hz1, hz2⟩ := info_parts infoBasin
  have HI := Lib.hid hi; have HZ0 := Lib.hid hz0; have HZ1 := Lib.hid hz1; have HZ2 := Lib.hid hz2
  clear hi hz0 hz1 hz2
  have g0 := hc.lt
  have hG0 := Gath.made (f := f3) (m := 3) (t := 87) (B := w.heap.size) (w := w) (Nat.le_refl _)
  go_enter Try.func83, Try.ntmps83
  go_wp2_with fail
  refine (pick_any A c L g (nn) (5) _ hI hl (by omega) (by omega) (hc.next (by (repeat (first | exact Below.refl _ _ | refine Below.drew ?_ | refine below_drewN ?_ _ | (refine Below.alloc ?_ (by (try simp) <;> omega) _) | (refine Below.setCell ?_ (by (try simp) <;> omega) _) | (refine Below.trans ?_ (Below.mono (by assumption) (by (try simp) <;> omega)))))))).mono ?_; rintro e w1 ⟨x1, rfl, hx1, hc1, hb1⟩
  have G1 : ButG g w w1 := ButG.refl.trans ((ButG.of (by (repeat (first | exact Below.refl _ _ | refine Below.drew ?_ | refine below_drewN ?_ _ | (refine Below.alloc ?_ (by (try simp) <;> omega) _) | (refine Below.setCell ?_ (by (try simp) <;> omega) _) | (refine Below.trans ?_ (Below.mono (by assumption) (by (try simp) <;> omega)))))) : ButG g w _).trans hb1)
  have hG1 := Gath.but hG0 g0 hb1
  obtain ⟨u1, v1⟩ := hx1
  have v1' : x1 < 5 := by omega
  clear hb1 hG0 v1
  go_wp2
  go_loopw [3, 4] (fun v3 v4 wr => ∃ (M : List (Int × Int × Int)) (j : Int), v4 = .int .i64 j ∧ (0 ≤ j ∧ M.length + j ≤ 5 ∧ 1 ≤ M.length + j) ∧ Gath f3 3 87 wr w.heap.size v3 M ∧ Cur A c L g (nn + 2 + 6 * M.length) wr ∧ ButG g w wr) (fun _ v4 _ => (intOf v4).toNat)
  case atStart => exact ⟨[], 1 + x1, rfl, ⟨by omega, by simp; omega, by simp; omega⟩, hG1, hc1, G1⟩
  case round =>
    obtain ⟨M, j, rfl, ⟨hj, hMj, hMj1⟩, hG, hc9, G9⟩ := hrel
    have zr := G9.size
    generalize wr = w9 at *
    clear hc1 hG1 G1
    have HN := Lib.hid (show M.length ≤ 5 by omega)
    have hn5 : M.length ≤ 5 := HN.out
    by_cases hlt : 0 < j
    · go_wp2_with fail
      refine (among_any [1, 10, 50, 100, 1000] A c L g (nn + 2 + 6 * M.length) _ _ _ _ hI hl (by omega) (hc9.next (by (repeat (first | exact Below.refl _ _ | refine Below.drew ?_ | refine below_drewN ?_ _ | (refine Below.alloc ?_ (by (try simp) <;> omega) _) | (refine Below.setCell ?_ (by (try simp) <;> omega) _) | (refine Below.trans ?_ (Below.mono (by assumption) (by (try simp) <;> omega))))))) (by rfl) (by omega) (by omega) (by first | exact Blk.new _ _ _ | exact Blk.new1 _ _ _ _) (by have := hc9.lt; (try simp); omega)).mono ?_; rintro e w2 ⟨x2, rfl, hx2, hc2, hb2⟩
      have G2 : ButG g w w2 := G9.trans ((ButG.of (by (repeat (first | exact Below.refl _ _ | refine Below.drew ?_ | refine below_drewN ?_ _ | (refine Below.alloc ?_ (by (try simp) <;> omega) _) | (refine Below.setCell ?_ (by (try simp) <;> omega) _) | (refine Below.trans ?_ (Below.mono (by assumption) (by (try simp) <;> omega)))))) : ButG g w9 _).trans hb2)
      have hG2 := Gath.but (Gath.alloc hG _) g0 hb2
      go_wp2_with fail
      refine (among_any [0, 0, 90, 500, 1000, 7000] A c L g (nn + 2 + 6 * M.length + 2) _ _ _ _ hI hl (by omega) (hc2.next (by (repeat (first | exact Below.refl _ _ | refine Below.drew ?_ | refine below_drewN ?_ _ | (refine Below.alloc ?_ (by (try simp) <;> omega) _) | (refine Below.setCell ?_ (by (try simp) <;> omega) _) | (refine Below.trans ?_ (Below.mono (by assumption) (by (try simp) <;> omega))))))) (by rfl) (by omega) (by omega) (by first | exact Blk.new _ _ _ | exact Blk.new1 _ _ _ _) (by have := hc2.lt; (try simp); omega)).mono ?_; rintro e w3 ⟨x3, rfl, hx3, hc3, hb3⟩
      have G3 : ButG g w w3 := G2.trans ((ButG.of (by (repeat (first | exact Below.refl _ _ | refine Below.drew ?_ | refine below_drewN ?_ _ | (refine Below.alloc ?_ (by (try simp) <;> omega) _) | (refine Below.setCell ?_ (by (try simp) <;> omega) _) | (refine Below.trans ?_ (Below.mono (by assumption) (by (try simp) <;> omega)))))) : ButG g w2 _).trans hb3)
      have hG3 := Gath.but (Gath.alloc hG2 _) g0 hb3
      go_wp2_with fail
      refine (among_any [0, 10, 35, 100, 300] A c L g (nn + 2 + 6 * M.length + 2 + 2) _ _ _ _ hI hl (by omega) (hc3.next (by (repeat (first | exact Below.refl _ _ | refine Below.drew ?_ | refine below_drewN ?_ _ | (refine Below.alloc ?_ (by (try simp) <;> omega) _) | (refine Below.setCell ?_ (by (try simp) <;> omega) _) | (refine Below.trans ?_ (Below.mono (by assumption) (by (try simp) <;> omega))))))) (by rfl) (by omega) (by omega) (by first | exact Blk.new _ _ _ | exact Blk.new1 _ _ _ _) (by have := hc3.lt; (try simp); omega)).mono ?_; rintro e w4 ⟨x4, rfl, hx4, hc4, hb4⟩
      have G4 : ButG g w w4 := G3.trans ((ButG.of (by (repeat (first | exact Below.refl _ _ | refine Below.drew ?_ | refine below_drewN ?_ _ | (refine Below.alloc ?_ (by (try simp) <;> omega) _) | (refine Below.setCell ?_ (by (try simp) <;> omega) _) | (refine Below.trans ?_ (Below.mono (by assumption) (by (try simp) <;> omega)))))) : ButG g w3 _).trans hb4)
      have hG4 := Gath.but (Gath.alloc hG3 _) g0 hb4
      have HG := Lib.hid (Gath.alloc hG4 (.cells #[.int .i64 x2, .int .i64 x3, .int .i64 x4] 87))
      have HG0 := Lib.hid hG4
      have z4 := G4.size
      clear hG hG2 hG3 hG4 hb2 hb3 hb4 hc9 hc2 hc3 G9 G2 G3 hx2 hx3 hx4
      go_wp2_with (at_builtin; refine wpList_append_own _ rfl _ _ 53 rfl w.heap.size 87 i0 (.agg #[.int .i64 0, .int .i64 0, .int .i64 0]) 3 24 Try.underlying53 HI.out HZ0.out HZ1.out HZ2.out rfl (by decide) _ _ _ rfl HG.out ⟨_, 0, none⟩ 1 1 [.int .i64 x2, .int .i64 x3, .int .i64 x4] rfl rfl (lit_cells _ _ _) three_ok ?c3 ?c4 ?c5 ?c6)
      case c3 => unfold maxLen; first | omega | (simp; omega)
      case c4 => first | omega | (simp; omega)
      case c5 => first | omega | (simp; omega)
      case c6 =>
        intro v' w8 hown hgrow _
        have hG8 : Gath f3 3 87 w8 w.heap.size v' (M ++ [(x2, x3, x4)]) := Gath.snoc hown
        have hc8 : Cur A c L g (nn + 2 + 6 * M.length + 2 + 2 + 2) w8 := (hc4.next (by (repeat (first | exact Below.refl _ _ | refine Below.drew ?_ | refine below_drewN ?_ _ | (refine Below.alloc ?_ (by (try simp) <;> omega) _) | (refine Below.setCell ?_ (by (try simp) <;> omega) _) | (refine Below.trans ?_ (Below.mono (by assumption) (by (try simp) <;> omega)))))) : Cur A c L g (nn + 2 + 6 * M.length + 2 + 2 + 2) (w4.alloc (.cells #[.int .i64 x2, .int .i64 x3, .int .i64 x4] 87))).grown hgrow (fun k hk => by have := HG0.out.rowGe k hk; omega)
        have G8 : ButG g w w8 := (G4.alloc _).grown hgrow (fun k hk => HG0.out.rowGe k hk)
        have hl8 : (M ++ [(x2, x3, x4)]).length = M.length + 1 := by simp
        have HL8 := Lib.hid hl8
        have hl9 : ((M ++ [(x2, x3, x4)]).length : Int) ≤ M.length + 1 ∧ (M.length : Int) + 1 ≤ (M ++ [(x2, x3, x4)]).length := by omega
        clear hown hgrow HG HG0 hc4 G4 hl8
        go_wp2
        go_roundw
        case rel => exact ⟨M ++ [(x2, x3, x4)], j - 1, by go_num, ⟨by omega, by omega, by omega⟩, hG8, hc8.mono (by have := HL8.out; omega), G8⟩
        case measure => simp only [intOf]; omega
    · have hj0 : j ≤ 0 := by omega
      go_wp2_with fail
      refine (pick_any A c L g (nn + 2 + 6 * M.length) (32) _ hI hl (by omega) (by omega) (hc9.next (by (repeat (first | exact Below.refl _ _ | refine Below.drew ?_ | refine below_drewN ?_ _ | (refine Below.alloc ?_ (by (try simp) <;> omega) _) | (refine Below.setCell ?_ (by (try simp) <;> omega) _) | (refine Below.trans ?_ (Below.mono (by assumption) (by (try simp) <;> omega)))))))).mono ?_; rintro e w5 ⟨x5, rfl, hx5, hc5, hb5⟩
      have G5 : ButG g w w5 := G9.trans ((ButG.of (by (repeat (first | exact Below.refl _ _ | refine Below.drew ?_ | refine below_drewN ?_ _ | (refine Below.alloc ?_ (by (try simp) <;> omega) _) | (refine Below.setCell ?_ (by (try simp) <;> omega) _) | (refine Below.trans ?_ (Below.mono (by assumption) (by (try simp) <;> omega)))))) : ButG g w9 _).trans hb5)
      have hG5 := Gath.but hG g0 hb5
      have z5 := G5.size
      obtain ⟨hx50, hx51⟩ := hx5
      have hM1 : 1 ≤ M.length := by omega
      clear G9 hc9 hG hb5 hMj hMj1
      by_cases h0 : x5 = 0
      · have q0 : (x5 == 0) = true := by simpa using h0
        have H0 := Lib.hid h0; clear h0 hx50 hx51
        obtain ⟨A9, c9, rfl, ho9⟩ := Gath.own (f := f3) (m := 3) (fun _ => rfl) hG5
        have hMl : (0 : Int) < M.length := by omega
        have hx : M[0]? = some (M[0]'(by omega)) := List.getElem?_eq_getElem _
        generalize M[0]'(by omega) = x at hx
        have hne : M ≠ [] := SlR.ne hx
        go_wp2_with fail
        refine (among_any [0, 100000, 100001] A c L g (nn + 2 + 6 * M.length + 2) _ _ _ _ hI hl (by omega) (hc5.next (by (repeat (first | exact Below.refl _ _ | refine Below.drew ?_ | refine below_drewN ?_ _ | (refine Below.alloc ?_ (by (try simp) <;> omega) _) | (refine Below.setCell ?_ (by (try simp) <;> omega) _) | (refine Below.trans ?_ (Below.mono (by assumption) (by (try simp) <;> omega))))))) (by rfl) (by omega) (by omega) (by first | exact Blk.new _ _ _ | exact Blk.new1 _ _ _ _) (by have := hc5.lt; (try simp); omega)).mono ?_; rintro e w6 ⟨x6, rfl, hx6, hc6, hb6⟩
        have G6 : ButG g w w6 := G5.trans ((ButG.of (by (repeat (first | exact Below.refl _ _ | refine Below.drew ?_ | refine below_drewN ?_ _ | (refine Below.alloc ?_ (by (try simp) <;> omega) _) | (refine Below.setCell ?_ (by (try simp) <;> omega) _) | (refine Below.trans ?_ (Below.mono (by assumption) (by (try simp) <;> omega)))))) : ButG g w5 _).trans hb6)
        have ho6 : OwnR f3 3 87 w6 w.heap.size A9 M := OwnR.but (OwnR.next ho9 (by (repeat (first | exact Below.refl _ _ | refine Below.drew ?_ | refine below_drewN ?_ _ | (refine Below.alloc ?_ (by (try simp) <;> omega) _) | (refine Below.setCell ?_ (by (try simp) <;> omega) _) | (refine Below.trans ?_ (Below.mono (by assumption) (by (try simp) <;> omega))))))) g0 hb6
        obtain ⟨g', rfl, hg', hR, hC⟩ := ho6 hne
        obtain ⟨e0, e1, e2⟩ := cells3 hC hx
        simp only [Nat.zero_mul, Nat.zero_add] at e0 e1 e2
        have ff := hR.frozen
        have hC8 := Cells.put (x' := (x6, x.2.1, x.2.2)) (u := .int .i64 x6) hR hC (fun _ => rfl) hx (show 0 < 3 by omega) rfl (Nat.le_refl _)
        have hR8 := hR.set ⟨g', 0 * 3 + 0, none⟩ (.int .i64 x6)
        have G8 := butNew G6 hg' 0 (.int .i64 x6)
        have hc8 := cur_far hc6 (show g < g' by omega) 0 (.int .i64 x6)
        have HL : Hid (M.length ≤ 5) := HN
        have HX : Hid (OwnR f3 3 87 (w6.setCell ⟨g', 0, none⟩ (.int .i64 x6)) w.heap.size (some ⟨g', 0, none⟩) (M.set 0 (x6, x.2.1, x.2.2))) := (fun _ => ⟨g', rfl, hg', by rw [List.length_set]; exact hR8, hC8⟩ : OwnR f3 3 87 (w6.setCell ⟨g', 0, none⟩ (.int .i64 x6)) w.heap.size (some ⟨g', 0, none⟩) (M.set 0 (x6, x.2.1, x.2.2)))
        clear hC8 hR8 hC hR ho6 ho9 hx hb6 hc6 hc5 G5 G6
        go_wp2
        go_ret
        exact ⟨some ⟨g', 0, none⟩, c9, M.set 0 (x6, x.2.1, x.2.2), by rw [List.length_set]; rfl, (by unfold SerOk; rw [List.length_set]; exact Nat.le_trans HL.out (by decide)), HX.out, hc8.mono (by have := HL.out; omega), G8⟩
      have q0 : (x5 == 0) = false := by simpa using h0
      by_cases h1 : x5 = 1
      · have q1 : (x5 == 1) = true := by simpa using h1
        have H1 := Lib.hid h1; clear h1 h0 hx50 hx51
        obtain ⟨A9, c9, rfl, ho9⟩ := Gath.own (f := f3) (m := 3) (fun _ => rfl) hG5
        have hMl : (0 : Int) < M.length := by omega
        have hx : M[0]? = some (M[0]'(by omega)) := List.getElem?_eq_getElem _
        generalize M[0]'(by omega) = x at hx
        have hne : M ≠ [] := SlR.ne hx
        go_wp2_with fail
        refine (among_any [-1, 1000000, 1000001] A c L g (nn + 2 + 6 * M.length + 2) _ _ _ _ hI hl (by omega) (hc5.next (by (repeat (first | exact Below.refl _ _ | refine Below.drew ?_ | refine below_drewN ?_ _ | (refine Below.alloc ?_ (by (try simp) <;> omega) _) | (refine Below.setCell ?_ (by (try simp) <;> omega) _) | (refine Below.trans ?_ (Below.mono (by assumption) (by (try simp) <;> omega))))))) (by rfl) (by omega) (by omega) (by first | exact Blk.new _ _ _ | exact Blk.new1 _ _ _ _) (by have := hc5.lt; (try simp); omega)).mono ?_; rintro e w6 ⟨x6, rfl, hx6, hc6, hb6⟩
        have G6 : ButG g w w6 := G5.trans ((ButG.of (by (repeat (first | exact Below.refl _ _ | refine Below.drew ?_ | refine below_drewN ?_ _ | (refine Below.alloc ?_ (by (try simp) <;> omega) _) | (refine Below.setCell ?_ (by (try simp) <;> omega) _) | (refine Below.trans ?_ (Below.mono (by assumption) (by (try simp) <;> omega)))))) : ButG g w5 _).trans hb6)
        have ho6 : OwnR f3 3 87 w6 w.heap.size A9 M := OwnR.but (OwnR.next ho9 (by (repeat (first | exact Below.refl _ _ | refine Below.drew ?_ | refine below_drewN ?_ _ | (refine Below.alloc ?_ (by (try simp) <;> omega) _) | (refine Below.setCell ?_ (by (try simp) <;> omega) _) | (refine Below.trans ?_ (Below.mono (by assumption) (by (try simp) <;> omega))))))) g0 hb6
        obtain ⟨g', rfl, hg', hR, hC⟩ := ho6 hne
        obtain ⟨e0, e1, e2⟩ := cells3 hC hx
        simp only [Nat.zero_mul, Nat.zero_add] at e0 e1 e2
        have ff := hR.frozen
        have hC7 := Cells.put (x' := (x.1, x6, x.2.2)) (u := .int .i64 x6) hR hC (fun _ => rfl) hx (show 1 < 3 by omega) rfl (Nat.le_refl _)
        have hR7 := hR.set ⟨g', 0 * 3 + 1, none⟩ (.int .i64 x6)
        have hC8 := Cells.put (k := 0) (x := (x.1, x6, x.2.2)) (x' := (x.1, x6, 0)) (u := .int .i64 0) hR7 hC7 (fun _ => rfl) (by rw [List.getElem?_set_self (by omega)]) (show 2 < 3 by omega) rfl (by rw [List.length_set]; exact Nat.le_refl _)
        rw [List.set_set] at hC8
        have hR8 := hR7.set ⟨g', 0 * 3 + 2, none⟩ (.int .i64 0)
        have G8 := butNew (butNew G6 hg' 1 (.int .i64 x6)) hg' 2 (.int .i64 0)
        have hc8 := cur_far (cur_far hc6 (show g < g' by omega) 1 (.int .i64 x6)) (show g < g' by omega) 2 (.int .i64 0)
        have HL : Hid (M.length ≤ 5) := HN
        have HX : Hid (OwnR f3 3 87 ((w6.setCell ⟨g', 1, none⟩ (.int .i64 x6)).setCell ⟨g', 2, none⟩ (.int .i64 0)) w.heap.size (some ⟨g', 0, none⟩) (M.set 0 (x.1, x6, 0))) := (fun _ => ⟨g', rfl, hg', by rw [List.length_set]; exact hR8, hC8⟩ : OwnR f3 3 87 ((w6.setCell ⟨g', 1, none⟩ (.int .i64 x6)).setCell ⟨g', 2, none⟩ (.int .i64 0)) w.heap.size (some ⟨g', 0, none⟩) (M.set 0 (x.1, x6, 0)))
        clear hC8 hR8 hC7 hR7 hC hR ho6 ho9 hx hb6 hc6 hc5 G5 G6
        go_wp2
        go_ret
        exact ⟨some ⟨g', 0, none⟩, c9, M.set 0 (x.1, x6, 0), by rw [List.length_set]; rfl, (by unfold SerOk; rw [List.length_set]; exact Nat.le_trans HL.out (by decide)), HX.out, hc8.mono (by have := HL.out; omega), G8⟩
      have q1 : (x5 == 1) = false := by simpa using h1
      by_cases h2 : x5 = 2
      · have q2 : (x5 == 2) = true := by simpa using h2
        have H2 := Lib.hid h2; clear h2 h1 h0 hx50 hx51
        have hc8 : Cur A c L g (nn + 2 + 6 * M.length + 2) (w5.alloc (.cells #[] 87)) := hc5.next (by (repeat (first | exact Below.refl _ _ | refine Below.drew ?_ | refine below_drewN ?_ _ | (refine Below.alloc ?_ (by (try simp) <;> omega) _) | (refine Below.setCell ?_ (by (try simp) <;> omega) _) | (refine Below.trans ?_ (Below.mono (by assumption) (by (try simp) <;> omega))))))
        have G8 := G5.alloc (.cells #[] 87)
        go_wp2
        go_ret
        exact ⟨some ⟨w5.heap.size, 0, none⟩, 0, [], rfl, Nat.zero_le _, OwnR.nil, hc8.mono (by omega), G8⟩
      have q2 : (x5 == 2) = false := by simpa using h2
      by_cases h3 : x5 = 3
      rotate_left
      · have q3 : (x5 == 3) = false := by simpa using h3
        clear h0 h1 h2 h3 hx50 hx51
        obtain ⟨A9, c9, rfl, ho9⟩ := Gath.own (f := f3) (m := 3) (fun _ => rfl) hG5
        go_wp2
        go_ret
        exact ⟨A9, c9, _, rfl, (by unfold SerOk; omega), ho9, hc5.mono (by omega), G5⟩
      have q3 : (x5 == 3) = true := by simpa using h3
      have H3 := Lib.hid h3; clear h0 h1 h2 h3 hx50 hx51
      go_wp2
      go_loopw [3] (fun v3 wr => ∃ M : List (Int × Int × Int), M.length ≤ 20 ∧ Gath f3 3 87 wr w.heap.size v3 M ∧ Cur A c L g (nn + 34 + 2 * M.length) wr ∧ ButG g w wr) (fun v3 _ => (20 - lenOf v3).toNat)
      case atStart => exact ⟨M, by omega, hG5, hc5.mono (by omega), G5⟩
      case round =>
        clear hc5 hG5 G5 z5 zr
        obtain ⟨M9, hM9, hG, hcr, hB⟩ := hrel
        obtain ⟨A8, c8, rfl, ho8⟩ := Gath.own (f := f3) (m := 3) (fun _ => rfl) hG
        have zr := hB.size
        have hM0l : (0 : Int) ≤ M9.length := by omega
        have HG := Lib.hid hG
        have G6 := hB
        have hc6 := hcr
        generalize wr = w6 at *
        clear hG ho8 hcr hB
        go_wp2_with fail
        refine (pick_any A c L g (nn + 34 + 2 * M9.length) (2) _ hI hl (by omega) (by omega) (hc6.next (by (repeat (first | exact Below.refl _ _ | refine Below.drew ?_ | refine below_drewN ?_ _ | (refine Below.alloc ?_ (by (try simp) <;> omega) _) | (refine Below.setCell ?_ (by (try simp) <;> omega) _) | (refine Below.trans ?_ (Below.mono (by assumption) (by (try simp) <;> omega)))))))).mono ?_; rintro e w7 ⟨x7, rfl, hx7, hc7, hb7⟩
        have G7 : ButG g w w7 := G6.trans ((ButG.of (by (repeat (first | exact Below.refl _ _ | refine Below.drew ?_ | refine below_drewN ?_ _ | (refine Below.alloc ?_ (by (try simp) <;> omega) _) | (refine Below.setCell ?_ (by (try simp) <;> omega) _) | (refine Below.trans ?_ (Below.mono (by assumption) (by (try simp) <;> omega)))))) : ButG g w6 _).trans hb7)
        have hG7 := Gath.but HG.out g0 hb7
        have z7 := G7.size
        obtain ⟨hx70, hx71⟩ := hx7
        clear HG hb7 hc6 G6
        by_cases hlt : (M9.length : Int) < 8 + x7
        · have HG := Lib.hid (Gath.alloc hG7 (.cells #[.int .i64 5, .int .i64 0, .int .i64 0] 87))
          have HG7 := Lib.hid hG7
          clear hG7
          go_wp2_with (at_builtin; refine wpList_append_own _ rfl _ _ 53 rfl w.heap.size 87 i0 (.agg #[.int .i64 0, .int .i64 0, .int .i64 0]) 3 24 Try.underlying53 HI.out HZ0.out HZ1.out HZ2.out rfl (by decide) _ _ _ rfl HG.out ⟨_, 0, none⟩ 1 1 [.int .i64 5, .int .i64 0, .int .i64 0] rfl rfl (lit_cells _ _ _) three_ok ?c3 ?c4 ?c5 ?c6)
          case c3 => unfold maxLen; first | omega | (simp; omega)
          case c4 => first | omega | (simp; omega)
          case c5 => first | omega | (simp; omega)
          case c6 =>
            intro v' w8 hown hgrow _
            have hG8 : Gath f3 3 87 w8 w.heap.size v' (M9 ++ [(5, 0, 0)]) := Gath.snoc hown
            have hc8 : Cur A c L g (nn + 34 + 2 * M9.length + 2) w8 := (hc7.next (by (repeat (first | exact Below.refl _ _ | refine Below.drew ?_ | refine below_drewN ?_ _ | (refine Below.alloc ?_ (by (try simp) <;> omega) _) | (refine Below.setCell ?_ (by (try simp) <;> omega) _) | (refine Below.trans ?_ (Below.mono (by assumption) (by (try simp) <;> omega)))))) : Cur A c L g (nn + 34 + 2 * M9.length + 2) (w7.alloc (.cells #[.int .i64 5, .int .i64 0, .int .i64 0] 87))).grown hgrow (fun k hk => by have := HG7.out.rowGe k hk; omega)
            have G8 : ButG g w w8 := (G7.alloc _).grown hgrow (fun k hk => HG7.out.rowGe k hk)
            clear hown hgrow HG HG7
            obtain ⟨A9, c9, rfl, ho9⟩ := Gath.own (f := f3) (m := 3) (fun _ => rfl) hG8
            have hlen : (M9 ++ [((5 : Int), (0 : Int), (0 : Int))]).length = M9.length + 1 := by simp
            have HL := Lib.hid hlen
            generalize M9 ++ [((5 : Int), (0 : Int), (0 : Int))] = M8 at *
            have hlen2 : (M8.length : Int) ≤ M9.length + 1 ∧ (M9.length : Int) + 1 ≤ M8.length := by omega
            have hM8 : M8.length ≤ 20 := by omega
            clear hlen
            go_wp2
            go_roundw
            case rel => exact ⟨M8, hM8, hG8, hc8.mono (by have := HL.out; omega), G8⟩
            case measure => simp only [lenOf]; omega
        · obtain ⟨A9, c9, e9, ho9⟩ := Gath.own (f := f3) (m := 3) (fun _ => rfl) hG7
          cases e9
          have HM9 := Lib.hid hM9
          go_wp2
          go_ret
          exact ⟨_, _, M9, rfl, HM9.out, ho9, hc7.mono (by have := HM9.out; omega), G7⟩

def IsLadSer (v : Value) (w : World) : Prop := ∃ A c M A' c' M', v = .tuple #[.slice A M.length c, .slice A' M'.length c'] ∧ (RungsOk 100 M ∧ SlR f2 2 w w.heap.size A M) ∧ SerOk M' ∧ SlR f3 3 w w.heap.size A' M'

set_option maxHeartbeats 4000000 in
theorem DrawDoesKeep_any (A : Option Addr) (c : Nat) (L : List Int) (wo : World) (hI : ∀ x ∈ L, 0 ≤ x ∧ x ≤ 255) (hl : (L.length : Int) ≤ 65536) (hs : SlR fb 1 wo wo.heap.size A L) :
    Calls Try.prog 54 #[.slice A L.length c] wo (DrW IsLadSer wo) := by
  have hc := cur_new (c := c) (W := wo) hs (Below.refl _ _)
  have hB : Below wo.heap.size wo (wo.alloc (.cells #[.slice A L.length c, .int .i64 0, .int .u64 0] 95)) := by (repeat (first | exact Below.refl _ _ | refine Below.drew ?_ | refine below_drewN ?_ _ | (refine Below.alloc ?_ (by (try simp) <;> omega) _) | (refine Below.setCell ?_ (by (try simp) <;> omega) _) | (refine Below.trans ?_ (Below.mono (by assumption) (by (try simp) <;> omega)))))
  go_enter Try.func54, Try.ntmps54
  go_upto_region 2 with fail
  generalize wo.alloc (.cells #[.slice A L.length c, .int .i64 0, .int .u64 0] 95) = w at *
  generalize hq : wo.heap.size = g at *
  have Hq := Lib.hid hq; clear hq hs
  have hqg : g ≤ g := Nat.le_refl _
  have gg := hc.lt
  go_wp2_with fail
  refine (series_any A c L g 0 _ hI hl (by omega) (hc.next (by (repeat (first | exact Below.refl _ _ | refine Below.drew ?_ | refine below_drewN ?_ _ | (refine Below.alloc ?_ (by (try simp) <;> omega) _) | (refine Below.setCell ?_ (by (try simp) <;> omega) _) | (refine Below.trans ?_ (Below.mono (by assumption) (by (try simp) <;> omega)))))))).mono ?_; rintro e w1 ⟨A1, c1, M1, rfl, hM1, o1, hc1, hb1⟩
  have G1 : ButG g w w1 := (ButG.of (by (repeat (first | exact Below.refl _ _ | refine Below.drew ?_ | refine below_drewN ?_ _ | (refine Below.alloc ?_ (by (try simp) <;> omega) _) | (refine Below.setCell ?_ (by (try simp) <;> omega) _) | (refine Below.trans ?_ (Below.mono (by assumption) (by (try simp) <;> omega)))))) : ButG g w _).trans hb1
  have hl1 : M1.length ≤ 20 := hM1
  go_wp2_with fail
  refine (ladder_any A c L g (0 + 100) M1.length _ hI hl (by omega) (by omega) (hc1.next (by (repeat (first | exact Below.refl _ _ | refine Below.drew ?_ | refine below_drewN ?_ _ | (refine Below.alloc ?_ (by (try simp) <;> omega) _) | (refine Below.setCell ?_ (by (try simp) <;> omega) _) | (refine Below.trans ?_ (Below.mono (by assumption) (by (try simp) <;> omega)))))))).mono ?_; rintro e w2 ⟨A2, c2, M2, rfl, hM2, o2, hc2, hb2⟩
  have G2 : ButG g w w2 := G1.trans ((ButG.of (by (repeat (first | exact Below.refl _ _ | refine Below.drew ?_ | refine below_drewN ?_ _ | (refine Below.alloc ?_ (by (try simp) <;> omega) _) | (refine Below.setCell ?_ (by (try simp) <;> omega) _) | (refine Below.trans ?_ (Below.mono (by assumption) (by (try simp) <;> omega)))))) : ButG g w1 _).trans hb2)
  have o3 : OwnR f3 3 87 w2 w.heap.size A1 M1 := OwnR.but o1 gg hb2
  go_wp2
  go_ret2
  exact ⟨_, rfl, ⟨A2, c2, M2, A1, c1, M1, rfl, ⟨hM2.mono (by omega), o2.sl⟩, hM1, o3.sl⟩, by have := hB.trans (G2.below hqg gg); rw [Hq.out]; exact this⟩
end Go.Proofs.Ythhjbdhglaombaa
