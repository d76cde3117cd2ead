/-
  The cursor's ladder: a list of rungs.
-/
import Derived.Test.YthhjbdhglaombaaGat
import Derived.Test.YthhjbdhglaombaaEven1
namespace Go.Proofs.Ythhjbdhglaombaa
open Go.RowKit

theorem mem4 {x : Int} {M : List Int} (h : x ∈ M) (lo hi : Int) (hM : (M.all fun y => decide (lo ≤ y) && decide (y ≤ hi)) = true) : lo ≤ x ∧ x ≤ hi := by
  rw [List.all_eq_true] at hM
  have := hM x h
  simpa using this
def RungsOk (n : Nat) (M : List (Int × Int)) : Prop := M.length ≤ n ∧ ∀ x ∈ M, InI2 x
theorem RungsOk.snoc {n : Nat} {M : List (Int × Int)} {x y : Int} (h : RungsOk n M) (hx : -10000 ≤ x ∧ x ≤ 10000) (hy : -10000 ≤ y ∧ y ≤ 10000) : RungsOk (n + 1) (M ++ [(x, y)]) :=
  ⟨by rw [List.length_append]; have := h.1; simp; omega, fun z hz => by
    rcases List.mem_append.1 hz with hz | hz
    · exact h.2 z hz
    · rw [List.mem_singleton] at hz; subst hz; exact ⟨⟨by show _ ≤ x; omega, by show x ≤ _; omega⟩, ⟨by show _ ≤ y; omega, by show y ≤ _; omega⟩⟩⟩
theorem RungsOk.mono {n m : Nat} {M : List (Int × Int)} (h : RungsOk n M) (hm : n ≤ m) : RungsOk m M := ⟨Nat.le_trans h.1 hm, h.2⟩

set_option maxRecDepth 20000 in
set_option maxHeartbeats 8000000 in
theorem ladder_any (A : Option Addr) (c : Nat) (L : List Int) (g nn n : Nat) (w : World) (hI : ∀ x ∈ L, 0 ≤ x ∧ x ≤ 255) (hl : (L.length : Int) ≤ 65536) (hnn : nn ≤ 100000) (hn : n ≤ 1000) (hc : Cur A c L g nn w) :
    Calls Try.prog 76 #[.pointer (some ⟨g, 0, none⟩), .int .i64 n] w (CurL f2 2 67 A c L g (nn + 6 * n + 60) w (RungsOk (n + 11))) := by
  obtain ⟨i0, hi, hz0, hz1, hz2⟩ := info_parts infoRung
  have HI := Lib.hid hi; have HZ0 := Lib.hid hz0; have HZ1 := Lib.hid hz1; have HZ2 := Lib.hid hz2
  clear hi hz0 hz1 hz2
  have g0 := hc.lt
  have hG0 := Gath.made (f := f2) (m := 2) (t := 67) (B := w.heap.size) (w := w) (Nat.le_refl _)
  go_enter Try.func76, Try.ntmps76
  go_wp2_with fail
  refine (among_any [0, 0, 10, 30] A c L g (nn) _ _ _ _ hI hl (by omega) (hc.next (by (repeat (first | exact Below.refl _ _ | refine Below.drew ?_ | refine below_drewN ?_ _ | (refine Below.alloc ?_ (by (try simp) <;> omega) _) | (refine Below.setCell ?_ (by (try simp) <;> omega) _) | (refine Below.trans ?_ (Below.mono (by assumption) (by (try simp) <;> omega))))))) (by rfl) (by omega) (by omega) (by first | exact Blk.new _ _ _ | exact Blk.new1 _ _ _ _) (by have := hc.lt; (try simp); omega)).mono ?_; rintro e w1 ⟨x1, rfl, hx1, hc1, hb1⟩
  have G1 : ButG g w w1 := ButG.refl.trans ((ButG.of (by (repeat (first | exact Below.refl _ _ | refine Below.drew ?_ | refine below_drewN ?_ _ | (refine Below.alloc ?_ (by (try simp) <;> omega) _) | (refine Below.setCell ?_ (by (try simp) <;> omega) _) | (refine Below.trans ?_ (Below.mono (by assumption) (by (try simp) <;> omega)))))) : ButG g w _).trans hb1)
  have hG1 := Gath.but (Gath.alloc hG0 (.cells #[.int .i64 0, .int .i64 0, .int .i64 10, .int .i64 30] 3)) g0 hb1
  go_wp2_with fail
  refine (among_any [50, 100, 300, 1000] A c L g (nn + 2) _ _ _ _ hI hl (by omega) (hc1.next (by (repeat (first | exact Below.refl _ _ | refine Below.drew ?_ | refine below_drewN ?_ _ | (refine Below.alloc ?_ (by (try simp) <;> omega) _) | (refine Below.setCell ?_ (by (try simp) <;> omega) _) | (refine Below.trans ?_ (Below.mono (by assumption) (by (try simp) <;> omega))))))) (by rfl) (by omega) (by omega) (by first | exact Blk.new _ _ _ | exact Blk.new1 _ _ _ _) (by have := hc1.lt; (try simp); omega)).mono ?_; rintro e w2 ⟨x2, rfl, hx2, hc2, hb2⟩
  have G2 : ButG g w w2 := G1.trans ((ButG.of (by (repeat (first | exact Below.refl _ _ | refine Below.drew ?_ | refine below_drewN ?_ _ | (refine Below.alloc ?_ (by (try simp) <;> omega) _) | (refine Below.setCell ?_ (by (try simp) <;> omega) _) | (refine Below.trans ?_ (Below.mono (by assumption) (by (try simp) <;> omega)))))) : ButG g w1 _).trans hb2)
  have hG2 := Gath.but (Gath.alloc hG1 _) g0 hb2
  have m1 := mem4 hx1 0 30 (by decide)
  have m2 := mem4 hx2 0 1000 (by decide)
  clear hb1 hb2 hc1 hG0 hG1 G1
  go_wp2
  go_loopw [5, 6, 7, 8] (fun v5 v6 v7 v8 wr => ∃ (k : Nat) (M : List (Int × Int)) (lo hi : Int), v6 = .int .i64 lo ∧ v7 = .int .i64 hi ∧ v8 = .int .i64 k ∧ k ≤ n ∧ (0 ≤ lo ∧ lo ≤ 1000) ∧ (0 ≤ hi ∧ hi ≤ 1000) ∧ Hid (RungsOk k M) ∧ Gath f2 2 67 wr w.heap.size v5 M ∧ Cur A c L g (nn + 4 + 4 * k) wr ∧ ButG g w wr) (fun _ _ _ v8 _ => (n - intOf v8).toNat)
  case atStart => exact ⟨0, [], x1, x2, rfl, rfl, rfl, by omega, by omega, by omega, (⟨by simp, by simp⟩ : RungsOk 0 []), hG2, hc2, G2⟩
  case round =>
    obtain ⟨k, M, lo, hi, rfl, rfl, rfl, hk, hlo, hhi, hM, hG, hcr, hB⟩ := hrel
    have hMl := hM.out.1
    have zr := hB.size
    clear hc2 hG2 G2 m1 m2 hx1 hx2
    by_cases hlt : k < n
    · have HG := Lib.hid (Gath.alloc hG (.cells #[.int .i64 lo, .int .i64 hi] 67))
      have HG0 := Lib.hid hG
      clear hG
      go_wp2_with (at_builtin; refine wpList_append_own _ rfl _ _ 25 rfl w.heap.size 67 i0 (.agg #[.int .i64 0, .int .i64 0]) 2 16 Try.underlying25 HI.out HZ0.out HZ1.out HZ2.out rfl (by decide) _ _ _ rfl HG.out ⟨_, 0, none⟩ 1 1 [.int .i64 lo, .int .i64 hi] rfl rfl (lit_cells _ _ _) two_ok ?c3 ?c4 ?c5 ?c6)
      case c3 => unfold maxLen; first | omega | (simp; omega)
      case c4 => first | omega | (simp; omega)
      case c5 => first | omega | (simp; omega)
      case c6 =>
        intro v' w9 hown hgrow _
        have hG9 : Gath f2 2 67 w9 w.heap.size v' (M ++ [(lo, hi)]) := Gath.snoc hown
        have hc9 : Cur A c L g (nn + 4 + 4 * k) w9 := (hcr.next (by (repeat (first | exact Below.refl _ _ | refine Below.drew ?_ | refine below_drewN ?_ _ | (refine Below.alloc ?_ (by (try simp) <;> omega) _) | (refine Below.setCell ?_ (by (try simp) <;> omega) _) | (refine Below.trans ?_ (Below.mono (by assumption) (by (try simp) <;> omega)))))) : Cur A c L g (nn + 4 + 4 * k) (wr.alloc (.cells #[.int .i64 lo, .int .i64 hi] 67))).grown hgrow (fun k hk => by have := HG0.out.rowGe k hk; omega)
        have G9 : ButG g w w9 := (hB.alloc _).grown hgrow (fun k hk => HG0.out.rowGe k hk)
        clear hown hgrow HG HG0
        have hM9 := Lib.hid (hM.out.snoc (x := lo) (y := hi) (by omega) (by omega))
        go_wp2_with fail
        refine (among_any [0, 10, 50, 100] A c L g (nn + 4 + 4 * k) _ _ _ _ hI hl (by omega) (hc9.next (by (repeat (first | exact Below.refl _ _ | refine Below.drew ?_ | refine below_drewN ?_ _ | (refine Below.alloc ?_ (by (try simp) <;> omega) _) | (refine Below.setCell ?_ (by (try simp) <;> omega) _) | (refine Below.trans ?_ (Below.mono (by assumption) (by (try simp) <;> omega))))))) (by rfl) (by omega) (by omega) (by first | exact Blk.new _ _ _ | exact Blk.new1 _ _ _ _) (by have := hc9.lt; (try simp); omega)).mono ?_; rintro e w3 ⟨x3, rfl, hx3, hc3, hb3⟩
        have G3 : ButG g w w3 := G9.trans ((ButG.of (by (repeat (first | exact Below.refl _ _ | refine Below.drew ?_ | refine below_drewN ?_ _ | (refine Below.alloc ?_ (by (try simp) <;> omega) _) | (refine Below.setCell ?_ (by (try simp) <;> omega) _) | (refine Below.trans ?_ (Below.mono (by assumption) (by (try simp) <;> omega)))))) : ButG g w9 _).trans hb3)
        have hG3 := Gath.but (Gath.alloc hG9 _) g0 hb3
        have m3 := mem4 hx3 0 100 (by decide)
        clear hb3 hc9 hG9 hx3
        go_wp2_with fail
        refine (l1Least_any _ _ _).mono ?_; rintro e w' ⟨rfl, rfl⟩
        go_wp2_with fail
        refine (among_any [0, 50, 100, 200] A c L g (nn + 4 + 4 * k + 2) _ _ _ _ hI hl (by omega) (hc3.next (by (repeat (first | exact Below.refl _ _ | refine Below.drew ?_ | refine below_drewN ?_ _ | (refine Below.alloc ?_ (by (try simp) <;> omega) _) | (refine Below.setCell ?_ (by (try simp) <;> omega) _) | (refine Below.trans ?_ (Below.mono (by assumption) (by (try simp) <;> omega))))))) (by rfl) (by omega) (by omega) (by first | exact Blk.new _ _ _ | exact Blk.new1 _ _ _ _) (by have := hc3.lt; (try simp); omega)).mono ?_; rintro e w4 ⟨x4, rfl, hx4, hc4, hb4⟩
        have G4 : ButG g w w4 := G3.trans ((ButG.of (by (repeat (first | exact Below.refl _ _ | refine Below.drew ?_ | refine below_drewN ?_ _ | (refine Below.alloc ?_ (by (try simp) <;> omega) _) | (refine Below.setCell ?_ (by (try simp) <;> omega) _) | (refine Below.trans ?_ (Below.mono (by assumption) (by (try simp) <;> omega)))))) : ButG g w3 _).trans hb4)
        have hG4 := Gath.but (Gath.alloc hG3 _) g0 hb4
        have m4 := mem4 hx4 0 200 (by decide)
        clear hb4 hc3 hG3 hx4
        go_wp2_with fail
        refine (l1Least_any _ _ _).mono ?_; rintro e w' ⟨rfl, rfl⟩
        go_wp2
        go_roundw
        case rel => exact ⟨k + 1, M ++ [(lo, hi)], _, _, rfl, rfl, by go_num, by omega, by omega, by omega, hM9.out, hG4, hc4.mono (by omega), G4⟩
        case measure => simp only [intOf]; omega
    · have HG := Lib.hid hG
      clear hG
      have hkn : ¬ (k : Int) < (n : Int) := by omega
      have G9 := hB
      have hc9 := hcr
      generalize wr = w9 at *
      go_wp2_with fail
      refine (pick_any A c L g (nn + 4 + 4 * k) (32) _ hI hl (by omega) (by omega) (hc9.next (by (repeat (first | exact Below.refl _ _ | refine Below.drew ?_ | refine below_drewN ?_ _ | (refine Below.alloc ?_ (by (try simp) <;> omega) _) | (refine Below.setCell ?_ (by (try simp) <;> omega) _) | (refine Below.trans ?_ (Below.mono (by assumption) (by (try simp) <;> omega)))))))).mono ?_; rintro e w5 ⟨x5, rfl, hx5, hc5, hb5⟩
      have G5 : ButG g w w5 := G9.trans ((ButG.of (by (repeat (first | exact Below.refl _ _ | refine Below.drew ?_ | refine below_drewN ?_ _ | (refine Below.alloc ?_ (by (try simp) <;> omega) _) | (refine Below.setCell ?_ (by (try simp) <;> omega) _) | (refine Below.trans ?_ (Below.mono (by assumption) (by (try simp) <;> omega)))))) : ButG g w9 _).trans hb5)
      have hG5 := Gath.but HG.out g0 hb5
      have z5 := G5.size
      obtain ⟨hx50, hx51⟩ := hx5
      clear G9 hc9 HG hb5 hB hcr
      by_cases h0 : x5 = 0
      · have q0 : (x5 == 0) = true := by simpa using h0
        have H0 := Lib.hid h0; clear h0 hx50 hx51
        have HG5 := Lib.hid hG5; clear hG5
        go_wp2_with fail
        refine (among_any [-1, 0] A c L g (nn + 4 + 4 * k + 2) _ _ _ _ hI hl (by omega) (hc5.next (by (repeat (first | exact Below.refl _ _ | refine Below.drew ?_ | refine below_drewN ?_ _ | (refine Below.alloc ?_ (by (try simp) <;> omega) _) | (refine Below.setCell ?_ (by (try simp) <;> omega) _) | (refine Below.trans ?_ (Below.mono (by assumption) (by (try simp) <;> omega))))))) (by rfl) (by omega) (by omega) (by first | exact Blk.new _ _ _ | exact Blk.new1 _ _ _ _) (by have := hc5.lt; (try simp); omega)).mono ?_; rintro e w6 ⟨x6, rfl, hx6, hc6, hb6⟩
        have G6 : ButG g w w6 := G5.trans ((ButG.of (by (repeat (first | exact Below.refl _ _ | refine Below.drew ?_ | refine below_drewN ?_ _ | (refine Below.alloc ?_ (by (try simp) <;> omega) _) | (refine Below.setCell ?_ (by (try simp) <;> omega) _) | (refine Below.trans ?_ (Below.mono (by assumption) (by (try simp) <;> omega)))))) : ButG g w5 _).trans hb6)
        have hG6 := Gath.but (Gath.alloc HG5.out _) g0 hb6
        have m6 := mem4 hx6 (-1) 0 (by decide)
        go_wp2_with fail
        refine (among_any [1001, 5] A c L g (nn + 4 + 4 * k + 2 + 2) _ _ _ _ hI hl (by omega) (hc6.next (by (repeat (first | exact Below.refl _ _ | refine Below.drew ?_ | refine below_drewN ?_ _ | (refine Below.alloc ?_ (by (try simp) <;> omega) _) | (refine Below.setCell ?_ (by (try simp) <;> omega) _) | (refine Below.trans ?_ (Below.mono (by assumption) (by (try simp) <;> omega))))))) (by rfl) (by omega) (by omega) (by first | exact Blk.new _ _ _ | exact Blk.new1 _ _ _ _) (by have := hc6.lt; (try simp); omega)).mono ?_; rintro e w7 ⟨x7, rfl, hx7, hc7, hb7⟩
        have G7 : ButG g w w7 := G6.trans ((ButG.of (by (repeat (first | exact Below.refl _ _ | refine Below.drew ?_ | refine below_drewN ?_ _ | (refine Below.alloc ?_ (by (try simp) <;> omega) _) | (refine Below.setCell ?_ (by (try simp) <;> omega) _) | (refine Below.trans ?_ (Below.mono (by assumption) (by (try simp) <;> omega)))))) : ButG g w6 _).trans hb7)
        have hG7 := Gath.but (Gath.alloc hG6 _) g0 hb7
        have m7 := mem4 hx7 5 1001 (by decide)
        have z7 := G7.size
        have HG := Lib.hid (Gath.alloc hG7 (.cells #[.int .i64 x6, .int .i64 x7] 67))
        have HG7 := Lib.hid hG7
        clear hG6 hG7 hb6 hb7 hc5 hc6 G5 G6 hx6 hx7 HG5
        go_wp2_with (at_builtin; refine wpList_append_own _ rfl _ _ 25 rfl w.heap.size 67 i0 (.agg #[.int .i64 0, .int .i64 0]) 2 16 Try.underlying25 HI.out HZ0.out HZ1.out HZ2.out rfl (by decide) _ _ _ rfl HG.out ⟨_, 0, none⟩ 1 1 [.int .i64 x6, .int .i64 x7] rfl rfl (lit_cells _ _ _) two_ok ?c3 ?c4 ?c5 ?c6)
        case c3 => unfold maxLen; first | omega | (simp; omega)
        case c4 => first | omega | (simp; omega)
        case c5 => first | omega | (simp; omega)
        case c6 =>
          intro v' w9 hown hgrow _
          have hG9 : Gath f2 2 67 w9 w.heap.size v' (M ++ [(x6, x7)]) := Gath.snoc hown
          have hc9 : Cur A c L g (nn + 4 + 4 * k + 2 + 2 + 2) w9 := (hc7.next (by (repeat (first | exact Below.refl _ _ | refine Below.drew ?_ | refine below_drewN ?_ _ | (refine Below.alloc ?_ (by (try simp) <;> omega) _) | (refine Below.setCell ?_ (by (try simp) <;> omega) _) | (refine Below.trans ?_ (Below.mono (by assumption) (by (try simp) <;> omega)))))) : Cur A c L g (nn + 4 + 4 * k + 2 + 2 + 2) (w7.alloc (.cells #[.int .i64 x6, .int .i64 x7] 67))).grown hgrow (fun k hk => by have := HG7.out.rowGe k hk; omega)
          have G9 : ButG g w w9 := (G7.alloc _).grown hgrow (fun k hk => HG7.out.rowGe k hk)
          clear hown hgrow HG HG7
          have hM9 := hM.out.snoc (x := x6) (y := x7) (by omega) (by omega)
          obtain ⟨A9, c9, rfl, ho9⟩ := Gath.own (f := f2) (m := 2) (fun _ => rfl) hG9
          go_wp2
          go_ret
          exact ⟨A9, c9, _, rfl, hM9.mono (by omega), ho9, hc9.mono (by omega), G9⟩
      have q0 : (x5 == 0) = false := by simpa using h0
      by_cases h1 : x5 = 1
      · have q1 : (x5 == 1) = true := by simpa using h1
        have H1 := Lib.hid h1; clear h1 h0 hx50 hx51
        have hG9 := Gath.made (f := f2) (m := 2) (t := 67) (B := w.heap.size) (w := w5) G5.size
        have hc9 : Cur A c L g (nn + 4 + 4 * k + 2) (w5.alloc (.cells #[] 67)) := hc5.next (by (repeat (first | exact Below.refl _ _ | refine Below.drew ?_ | refine below_drewN ?_ _ | (refine Below.alloc ?_ (by (try simp) <;> omega) _) | (refine Below.setCell ?_ (by (try simp) <;> omega) _) | (refine Below.trans ?_ (Below.mono (by assumption) (by (try simp) <;> omega))))))
        have G9 := G5.alloc (.cells #[] 67)
        go_wp2
        go_ret
        exact ⟨some ⟨w5.heap.size, 0, none⟩, 0, [], rfl, ⟨by simp, by simp⟩, OwnR.nil, hc9.mono (by omega), G9⟩
      have q1 : (x5 == 1) = false := by simpa using h1
      by_cases h2 : x5 = 2
      rotate_left
      · have q2 : (x5 == 2) = false := by simpa using h2
        clear h0 h1 h2 hx50 hx51
        obtain ⟨A9, c9, rfl, ho9⟩ := Gath.own (f := f2) (m := 2) (fun _ => rfl) hG5
        have hM9 := hM.out
        go_wp2
        go_ret
        exact ⟨A9, c9, _, rfl, hM9.mono (by omega), ho9, hc5.mono (by omega), G5⟩
      have q2 : (x5 == 2) = true := by simpa using h2
      have H2 := Lib.hid h2; clear h0 h1 h2 hx50 hx51
      have hM0 := Lib.hid (hM.out.mono (show k ≤ n + 11 by omega))
      go_wp2
      go_loopw [5] (fun v5 wr => ∃ M : List (Int × Int), Hid (RungsOk (n + 11) M) ∧ Gath f2 2 67 wr w.heap.size v5 M ∧ Cur A c L g (nn + 4 + 4 * n + 2 + 2 * M.length) wr ∧ ButG g w wr) (fun v5 _ => (20 - lenOf v5).toNat)
      case atStart => exact ⟨M, hM0, hG5, hc5.mono (by omega), G5⟩
      case round =>
        obtain ⟨M, hM, hG, hcr, hB⟩ := hrel
        obtain ⟨A8, c8, rfl, ho8⟩ := Gath.own (f := f2) (m := 2) (fun _ => rfl) hG
        have zr := hB.size
        have hMl := hM.out.1
        have hM0l : (0 : Int) ≤ M.length := by omega
        have HG := Lib.hid hG
        have G6 := hB
        have hc6 := hcr
        generalize wr = w6 at *
        clear hG ho8 hM0 hG5 hc5 G5
        clear hcr hB
        go_wp2_with fail
        refine (pick_any A c L g (nn + 4 + 4 * n + 2 + 2 * M.length) (2) _ hI hl (by omega) (by omega) (hc6.next (by (repeat (first | exact Below.refl _ _ | refine Below.drew ?_ | refine below_drewN ?_ _ | (refine Below.alloc ?_ (by (try simp) <;> omega) _) | (refine Below.setCell ?_ (by (try simp) <;> omega) _) | (refine Below.trans ?_ (Below.mono (by assumption) (by (try simp) <;> omega)))))))).mono ?_; rintro e w7 ⟨x7, rfl, hx7, hc7, hb7⟩
        have G7 : ButG g w w7 := G6.trans ((ButG.of (by (repeat (first | exact Below.refl _ _ | refine Below.drew ?_ | refine below_drewN ?_ _ | (refine Below.alloc ?_ (by (try simp) <;> omega) _) | (refine Below.setCell ?_ (by (try simp) <;> omega) _) | (refine Below.trans ?_ (Below.mono (by assumption) (by (try simp) <;> omega)))))) : ButG g w6 _).trans hb7)
        have hG7 := Gath.but HG.out g0 hb7
        have z7 := G7.size
        obtain ⟨hx70, hx71⟩ := hx7
        clear HG hb7 hc6 G6
        by_cases hlt : (M.length : Int) < 8 + x7
        · have HG := Lib.hid (Gath.alloc hG7 (.cells #[.int .i64 1000, .int .i64 1000] 67))
          have HG7 := Lib.hid hG7
          clear hG7
          go_wp2_with (at_builtin; refine wpList_append_own _ rfl _ _ 25 rfl w.heap.size 67 i0 (.agg #[.int .i64 0, .int .i64 0]) 2 16 Try.underlying25 HI.out HZ0.out HZ1.out HZ2.out rfl (by decide) _ _ _ rfl HG.out ⟨_, 0, none⟩ 1 1 [.int .i64 1000, .int .i64 1000] rfl rfl (lit_cells _ _ _) two_ok ?c3 ?c4 ?c5 ?c6)
          case c3 => unfold maxLen; first | omega | (simp; omega)
          case c4 => first | omega | (simp; omega)
          case c5 => first | omega | (simp; omega)
          case c6 =>
            intro v' w9 hown hgrow _
            have hG9 : Gath f2 2 67 w9 w.heap.size v' (M ++ [(1000, 1000)]) := Gath.snoc hown
            have hc9 : Cur A c L g (nn + 4 + 4 * n + 2 + 2 * M.length + 2) w9 := (hc7.next (by (repeat (first | exact Below.refl _ _ | refine Below.drew ?_ | refine below_drewN ?_ _ | (refine Below.alloc ?_ (by (try simp) <;> omega) _) | (refine Below.setCell ?_ (by (try simp) <;> omega) _) | (refine Below.trans ?_ (Below.mono (by assumption) (by (try simp) <;> omega)))))) : Cur A c L g (nn + 4 + 4 * n + 2 + 2 * M.length + 2) (w7.alloc (.cells #[.int .i64 1000, .int .i64 1000] 67))).grown hgrow (fun k hk => by have := HG7.out.rowGe k hk; omega)
            have G9 : ButG g w w9 := (G7.alloc _).grown hgrow (fun k hk => HG7.out.rowGe k hk)
            clear hown hgrow HG HG7
            have hM9 : RungsOk (n + 11) (M ++ [(1000, 1000)]) := ⟨by rw [List.length_append]; simp; omega, fun z hz => by
              rcases List.mem_append.1 hz with hz | hz
              · exact hM.out.2 z hz
              · rw [List.mem_singleton] at hz; subst hz; exact ⟨⟨by decide, by decide⟩, ⟨by decide, by decide⟩⟩⟩
            obtain ⟨A9, c9, rfl, ho9⟩ := Gath.own (f := f2) (m := 2) (fun _ => rfl) hG9
            have hlen : (M ++ [((1000 : Int), (1000 : Int))]).length = M.length + 1 := by simp
            have HL := Lib.hid hlen
            generalize M ++ [((1000 : Int), (1000 : Int))] = M9 at *
            have HM9 := Lib.hid hM9
            have hlen2 : (M9.length : Int) ≤ M.length + 1 ∧ (M.length : Int) + 1 ≤ M9.length := by omega
            clear hlen hM9
            go_wp2
            go_roundw
            case rel => exact ⟨M9, HM9.out, hG9, hc9.mono (by have := HL.out; omega), G9⟩
            case measure => simp only [lenOf]; omega
        · obtain ⟨A9, c9, e9, ho9⟩ := Gath.own (f := f2) (m := 2) (fun _ => rfl) hG7
          cases e9
          have HM9 := hM.out
          go_wp2
          go_ret
          exact ⟨_, _, M, rfl, HM9, ho9, hc7.mono (by omega), G7⟩
end Go.Proofs.Ythhjbdhglaombaa
