/-
  OnTheWay: both programs.
-/
import Derived.Test.YtfcmfadkkfkidaaTrip5
import Derived.Test.YtfcmfadkkfkidaaAppend
import Derived.Test.YtfcmfadkkfkidaaHInt
import Derived.WalkKit
import Derived.WalkSpells
import Derived.WalkLawsBesides
import Derived.Lib.Hide
import Derived.Deep.QuietTactic
import Derived.BigQuiet
import Derived.StillTailTactics
namespace Go.Proofs.Ytfcmfadkkfkidaa
open Go.RowKit

abbrev T5 := Int × Int × Int × Int × Int
def onB (x : T5) (q : Int) : Bool := decide (x.2.2.2.1 ≤ q) && decide (arr x.2.1 x.2.2.1 x.2.2.2.1 > q)
def onL (L : List T5) (q : Int) : Nat → List Int
  | 0 => []
  | k + 1 => match L[k]? with
    | none => onL L q k
    | some x => if onB x q then onL L q k ++ [x.1] else onL L q k
theorem onL_yes {L : List T5} {q : Int} {k : Nat} {x : T5} (hx : L[k]? = some x) (h : onB x q = true) : onL L q (k + 1) = onL L q k ++ [x.1] := by rw [onL, hx]; simp only [h]; rfl
theorem onL_no {L : List T5} {q : Int} {k : Nat} {x : T5} (hx : L[k]? = some x) (h : onB x q = false) : onL L q (k + 1) = onL L q k := by rw [onL, hx]; simp only [h]; rfl
theorem onL_len (L : List T5) (q : Int) : ∀ k, (onL L q k).length ≤ k
  | 0 => Nat.le_refl 0
  | k + 1 => by
    have ih := onL_len L q k
    rw [onL]
    split
    · omega
    · split
      · rw [List.length_append]; simp; omega
      · omega
def otwB (L : List T5) (q : Int) : Bool := tripsB L && inB q 0 1440
def otwL (L : List T5) (q : Int) : List Int := if otwB L q then onL L q L.length else []
theorem otwL_no {L : List T5} {q : Int} (h : otwB L q = false) : otwL L q = [] := by simp [otwL, h]
theorem otwL_yes {L : List T5} {q : Int} (h : otwB L q = true) : otwL L q = onL L q L.length := by simp [otwL, h]
theorem otwL_len (L : List T5) (q : Int) : (otwL L q).length ≤ 10 := by
  unfold otwL
  split
  · rename_i h
    rw [otwB, Bool.and_eq_true] at h
    have := onL_len L q L.length
    have := tripsB_len h.1
    omega
  · simp
theorem arr_nonneg {b c d : Int} (h : 0 ≤ d) : 0 ≤ arr b c d := by unfold arr; split <;> omega
theorem infoI : (Try.prog.info? 3).map (fun i => (i.zero, i.size, i.bytes)) = some (some (.int .i64 0), 1, 8) := by kernel_rfl
theorem one_cell {w : World} {g : Nat} {x : Int} (h : w.cell? ⟨g, 0, none⟩ = some (.int .i64 x)) : ∀ j u, [Value.int .i64 x][j]? = some u → w.cell? ((⟨g, 0, none⟩ : Addr).add j) = some u := by
  intro j u hj
  rw [Go.WideShapes.add_plain]
  match j, hj with
  | 0, hj => rw [h]; simpa using hj
theorem one_ok {x : Int} : ∀ u ∈ [Value.int .i64 x], u.oneCell' = true := by
  intro u hu; simp at hu; subst hu; rfl

set_option maxHeartbeats 4000000 in
theorem OnTheWay_any (A : Option Addr) (c : Nat) (L : List T5) (q : Int) (w : World) (hr : SlR f5 5 w w.heap.size A L) (hm : (L.length : Int) ≤ 1048576) (_hI : ∀ x ∈ L, InI5 x) :
    Calls Try.prog 34 #[.slice A L.length c, .int .i64 q] w (NewSl2 f1 1 3 w (otwL L q) (otwB L q)) := by
  obtain ⟨i0, hi, hz0, hz1, hz2⟩ := info_parts infoI
  have hII := Lib.hid _hI
  clear _hI
  cases h : tripsB L
  · have Hb := Lib.hid (show otwB L q = false by simp [otwB, h])
    have Hl := Lib.hid (otwL_no Hb.out)
    go_enter Try.func34, Try.ntmps34
    go_wp2_with fail
    refine (AreTrips_any _ _ _ _ hr (by omega) hII.out).mono ?_; rintro e w1 ⟨rfl, hb1⟩
    have z1 := hb1.size
    try simp at z1
    rw [h]
    go_wp2
    go_ret2
    exact ⟨_, 0, by rw [Hb.out, Hl.out]; rfl, by rw [Hl.out]; exact OwnR.nil, by (repeat (first | exact Below.refl _ _ | refine Below.drew ?_ | refine below_drewN ?_ _ | (refine Below.alloc ?_ (by (try simp) <;> omega) _) | (refine Below.setCell ?_ (by (try simp) <;> omega) _) | (refine Below.trans ?_ (Below.mono (by assumption) (by (try simp) <;> omega)))))⟩
  cases h3 : inB q 0 1440
  · have Hb := Lib.hid (show otwB L q = false by simp [otwB, h, h3])
    have Hl := Lib.hid (otwL_no Hb.out)
    go_enter Try.func34, Try.ntmps34
    go_wp2_with fail
    refine (AreTrips_any _ _ _ _ hr (by omega) hII.out).mono ?_; rintro e w1 ⟨rfl, hb1⟩
    have z1 := hb1.size
    try simp at z1
    rw [h]
    go_wp2_with fail
    refine (isMinute_any _ _).mono ?_; rintro e w' ⟨rfl, rfl⟩
    rw [h3]
    go_wp2
    go_ret2
    exact ⟨_, 0, by rw [Hb.out, Hl.out]; rfl, by rw [Hl.out]; exact OwnR.nil, by (repeat (first | exact Below.refl _ _ | refine Below.drew ?_ | refine below_drewN ?_ _ | (refine Below.alloc ?_ (by (try simp) <;> omega) _) | (refine Below.setCell ?_ (by (try simp) <;> omega) _) | (refine Below.trans ?_ (Below.mono (by assumption) (by (try simp) <;> omega)))))⟩
  have Hb := Lib.hid (show otwB L q = true by simp [otwB, h, h3])
  have Hl := Lib.hid (otwL_yes Hb.out)
  have Hg := Lib.hid (fun (k : Nat) (x : T5) (hx : L[k]? = some x) => tripB_bounds (tripsB_one h hx))
  have hl10 := tripsB_len h
  go_enter Try.func34, Try.ntmps34
  go_wp2_with fail
  refine (AreTrips_any _ _ _ _ hr (by omega) hII.out).mono ?_; rintro e w1 ⟨rfl, hb1⟩
  have z1 := hb1.size
  try simp at z1
  rw [h]
  go_wp2_with fail
  refine (isMinute_any _ _).mono ?_; rintro e w' ⟨rfl, rfl⟩
  rw [h3]
  clear h h3
  go_wp2
  go_loopw [19, 6] (fun i v wr => ∃ k : Nat, i = .int .i64 k ∧ k ≤ L.length ∧ Gath f1 1 3 wr w.heap.size v (onL L q k) ∧ Below w.heap.size w wr) (fun i _ _ => (L.length - intOf i).toNat)
  case atStart => exact ⟨0, rfl, by omega, Gath.nil, by (repeat (first | exact Below.refl _ _ | refine Below.drew ?_ | refine below_drewN ?_ _ | (refine Below.alloc ?_ (by (try simp) <;> omega) _) | (refine Below.setCell ?_ (by (try simp) <;> omega) _) | (refine Below.trans ?_ (Below.mono (by assumption) (by (try simp) <;> omega)))))⟩
  case round =>
    obtain ⟨k, rfl, hk, hG, hb⟩ := hrel
    have zr := hb.size
    by_cases hlt : k < L.length
    · have hx : L[k]? = some L[k] := List.getElem?_eq_getElem hlt
      obtain ⟨b, off, rfl, hB, hcs⟩ := hr (SlR.ne hx)
      have hC := hcs.below hb hB
      obtain ⟨c0, c1, c2, c3, c4⟩ := cells5 hC hx
      have hk0 : (0 : Int) ≤ (k : Int) := by omega
      have hk1 : (k : Int) < (L.length : Int) := by omega
      have hBr : b < wr.heap.size := by omega
      obtain ⟨g0, g1, g2, -, g3, g4, g5⟩ := Hg.out k _ hx
      have g6 := arr_nonneg (b := L[k].2.1) (c := L[k].2.2.1) g3.1
      generalize L[k] = x at *
      clear hr hcs hlt Hg 
      cases h5 : decide (x.2.2.2.1 ≤ q)
      case false =>
        have Hn := Lib.hid (onL_no (q := q) hx (by simp [onB, h5]))
        generalize onL L q k = G at *
        have HG := Lib.hid (hG.alloc (.cells #[.int .i64 x.1, .int .i64 x.2.1, .int .i64 x.2.2.1, .int .i64 x.2.2.2.1, .int .i64 x.2.2.2.2] 25 (0, 0)))
        clear hx hC hG
        go_wp2
        go_roundw
        case rel => exact ⟨k + 1, by go_num, by omega, by rw [Hn.out]; exact HG.out, by (repeat (first | exact Below.refl _ _ | refine Below.drew ?_ | refine below_drewN ?_ _ | (refine Below.alloc ?_ (by (try simp) <;> omega) _) | (refine Below.setCell ?_ (by (try simp) <;> omega) _) | (refine Below.trans ?_ (Below.mono (by assumption) (by (try simp) <;> omega)))))⟩
        case measure => simp only [intOf]; omega
      cases h6 : decide (arr x.2.1 x.2.2.1 x.2.2.2.1 > q)
      case false =>
        have Hn := Lib.hid (onL_no (q := q) hx (by simp only [onB, h5, h6]; rfl))
        generalize onL L q k = G at *
        have HG := Lib.hid (hG.alloc (.cells #[.int .i64 x.1, .int .i64 x.2.1, .int .i64 x.2.2.1, .int .i64 x.2.2.2.1, .int .i64 x.2.2.2.2] 25 (0, 0)))
        clear hx hC hG
        go_wp2_with fail
        refine (arrival_any _ _ _ _ _ _ g1 g2 g3).mono ?_; rintro e w2 ⟨rfl, hb2⟩
        have z2 := hb2.size
        try simp at z2
        obtain ⟨c2_0, f2_0⟩ := bblk hb2 (g := wr.heap.size) (by (try simp) <;> omega)
        have l2_0 : wr.heap.size < w2.heap.size := by omega
        have hG2 := Lib.hid (HG.out.below hb2)
        go_wp2
        go_roundw
        case rel => exact ⟨k + 1, by go_num, by omega, by rw [Hn.out]; exact hG2.out, by (repeat (first | exact Below.refl _ _ | refine Below.drew ?_ | refine below_drewN ?_ _ | (refine Below.alloc ?_ (by (try simp) <;> omega) _) | (refine Below.setCell ?_ (by (try simp) <;> omega) _) | (refine Below.trans ?_ (Below.mono (by assumption) (by (try simp) <;> omega)))))⟩
        case measure => simp only [intOf]; omega
      have Hn := Lib.hid (onL_yes (q := q) hx (by simp only [onB, h5, h6]; rfl))
      have hl9 := onL_len L q k
      generalize onL L q k = G at *
      have HG := Lib.hid (hG.alloc (.cells #[.int .i64 x.1, .int .i64 x.2.1, .int .i64 x.2.2.1, .int .i64 x.2.2.2.1, .int .i64 x.2.2.2.2] 25 (0, 0)))
      clear hx hC hG
      go_wp2_with fail
      refine (arrival_any _ _ _ _ _ _ g1 g2 g3).mono ?_; rintro e w2 ⟨rfl, hb2⟩
      have z2 := hb2.size
      try simp at z2
      obtain ⟨c2_0, f2_0⟩ := bblk hb2 (g := wr.heap.size) (by (try simp) <;> omega)
      have l2_0 : wr.heap.size < w2.heap.size := by omega
      have hG2 := Lib.hid (HG.out.below hb2)
      have hbw : Below w.heap.size w w2 := by (repeat (first | exact Below.refl _ _ | refine Below.drew ?_ | refine below_drewN ?_ _ | (refine Below.alloc ?_ (by (try simp) <;> omega) _) | (refine Below.setCell ?_ (by (try simp) <;> omega) _) | (refine Below.trans ?_ (Below.mono (by assumption) (by (try simp) <;> omega)))))
      go_wp2_with (at_builtin; refine wpList_append_own _ rfl _ _ 44 rfl w.heap.size 3 i0 (.int .i64 0) 1 8 Try.underlying44 hi hz0 hz1 hz2 rfl (by decide) _ _ _ rfl (hG2.out.alloc _) ⟨w2.heap.size, 0, none⟩ 1 1 [.int .i64 x.1] rfl rfl ?c1 ?c2 ?c3 ?c4 ?c5 ?c6)
      case c1 => exact one_cell (by simp)
      case c2 => exact one_ok
      case c3 => unfold maxLen; omega
      case c4 => omega
      case c5 => simp; omega
      case c6 =>
        intro v' w9 hown hgrow _
        have hG9 : Gath f1 1 3 w9 w.heap.size v' (G ++ [x.1]) := Gath.snoc hown
        have hb9 : Below w.heap.size w w9 := below_grown' (hbw.alloc (by omega) _) hgrow (hG2.out.alloc _) (Nat.le_refl _) (by simp; omega)
        have HG9 := Lib.hid hG9
        clear hown hG9 hgrow hbw hG2
        go_wp2
        go_roundw
        case rel => exact ⟨k + 1, by go_num, by omega, by rw [Hn.out]; exact HG9.out, hb9⟩
        case measure => simp only [intOf]; omega
    · obtain rfl : k = L.length := by omega
      obtain ⟨A', c', rfl, hO⟩ := Gath.own (f := f1) (m := 1) (fun _ => rfl) hG
      have hO1 := Lib.hid hO
      clear hO hG
      rw [← Hl.out] at hO1
      have Hl2 := Lib.hid (congrArg List.length Hl.out)
      rw [← Hl.out]
      go_wp2
      go_ret2
      exact ⟨A', c', by rw [Hb.out]; rfl, hO1.out, hb⟩
end Go.Proofs.Ytfcmfadkkfkidaa
