/-
  RungsFor: both programs.
-/
import Derived.Test.YthhjbdhglaombaaBrine1
import Derived.Test.YthhjbdhglaombaaAppend
import Derived.Test.YthhjbdhglaombaaHInt
import Derived.WalkKit
import Derived.WalkSpells
import Derived.WalkLawsBesides
import Derived.Lib.Hide
import Derived.Deep.QuietTactic
import Derived.BigQuiet
import Derived.StillTailTactics
namespace Go.Proofs.Ythhjbdhglaombaa
open Go.RowKit

def rfL (L : List (Int × Int)) (a s : Int) : Nat → List Int
  | 0 => []
  | k + 1 => match L[k]? with
    | none => rfL L a s k
    | some x => if staB x.1 x.2 a s then rfL L a s k ++ [(k : Int)] else rfL L a s k
theorem rfL_yes {L : List (Int × Int)} {a s : Int} {k : Nat} {x} (hx : L[k]? = some x) (h : staB x.1 x.2 a s = true) : rfL L a s (k + 1) = rfL L a s k ++ [(k : Int)] := by rw [rfL, hx]; simp only [h]; rfl
theorem rfL_no {L : List (Int × Int)} {a s : Int} {k : Nat} {x} (hx : L[k]? = some x) (h : staB x.1 x.2 a s = false) : rfL L a s (k + 1) = rfL L a s k := by rw [rfL, hx]; simp only [h]; rfl
theorem rfL_len (L : List (Int × Int)) (a s : Int) : ∀ k, (rfL L a s k).length ≤ k
  | 0 => Nat.le_refl 0
  | k + 1 => by
    have ih := rfL_len L a s k
    rw [rfL]
    split
    · omega
    · split
      · rw [List.length_append]; simp; omega
      · omega
def runB (L : List (Int × Int)) (a s : Int) : Bool := ladB L && briB a s
def runL (L : List (Int × Int)) (a s : Int) : List Int := if runB L a s then rfL L a s L.length else []
theorem runL_no {L : List (Int × Int)} {a s : Int} (h : runB L a s = false) : runL L a s = [] := by simp [runL, h]
theorem runL_yes {L : List (Int × Int)} {a s : Int} (h : runB L a s = true) : runL L a s = rfL L a s L.length := by simp [runL, h]
theorem runL_len (L : List (Int × Int)) (a s : Int) : (runL L a s).length ≤ 8 := by
  unfold runL
  split
  · rename_i h
    rw [runB, Bool.and_eq_true] at h
    have := rfL_len L a s L.length
    have := ladB_len h.1
    omega
  · simp
theorem infoI : (Try.prog.info? 3).map (fun i => (i.zero, i.size, i.bytes)) = some (some (.int .i64 0), 1, 8) := by kernel_rfl
theorem one_cell {w : World} {g : Nat} {x : Int} (h : w.cell? ⟨g, 0, none⟩ = some (.int .i64 x)) : ∀ j u, [Value.int .i64 x][j]? = some u → w.cell? ((⟨g, 0, none⟩ : Addr).add j) = some u := by
  intro j u hj
  rw [Go.WideShapes.add_plain]
  match j, hj with
  | 0, hj => rw [h]; simpa using hj
theorem one_ok {x : Int} : ∀ u ∈ [Value.int .i64 x], u.oneCell' = true := by
  intro u hu; simp at hu; subst hu; rfl

set_option maxHeartbeats 4000000 in
theorem RungsFor_any (A : Option Addr) (c : Nat) (L : List (Int × Int)) (a s : Int) (w : World) (hr : SlR f2 2 w w.heap.size A L) (hm : (L.length : Int) ≤ 1048576) :
    Calls Try.prog 33 #[.slice A L.length c, briV a s] w (NewSl2 f1 1 3 w (runL L a s) (runB L a s)) := by
  obtain ⟨i0, hi, hz0, hz1, hz2⟩ := info_parts infoI
  have hr' := hr.alloc (.cells #[.int .i64 a, .int .i64 s] 38 (0, 0))
  cases h : ladB L
  · have Hb := Lib.hid (show runB L a s = false by simp [runB, h])
    have Hl := Lib.hid (runL_no Hb.out)
    go_enter Try.func33, Try.ntmps33
    go_wp2_with fail
    refine (IsLadder_any _ _ _ _ hr' (by omega)).mono ?_; rintro e w1 ⟨rfl, hb1⟩
    have z1 := hb1.size
    try simp at z1
    obtain ⟨c1_0, f1_0⟩ := bblk hb1 (g := w.heap.size) (by (try simp) <;> omega)
    have l1_0 : w.heap.size < w1.heap.size := by omega
    rw [h]
    go_wp2
    go_ret2
    exact ⟨_, 0, by rw [Hb.out, Hl.out]; rfl, by rw [Hl.out]; exact OwnR.nil, by (repeat (first | exact Below.refl _ _ | refine Below.drew ?_ | refine below_drewN ?_ _ | (refine Below.alloc ?_ (by (try simp) <;> omega) _) | (refine Below.setCell ?_ (by (try simp) <;> omega) _) | (refine Below.trans ?_ (Below.mono (by assumption) (by (try simp) <;> omega)))))⟩
  cases h3 : briB a s
  · have Hb := Lib.hid (show runB L a s = false by simp [runB, h, h3])
    have Hl := Lib.hid (runL_no Hb.out)
    go_enter Try.func33, Try.ntmps33
    go_wp2_with fail
    refine (IsLadder_any _ _ _ _ hr' (by omega)).mono ?_; rintro e w1 ⟨rfl, hb1⟩
    have z1 := hb1.size
    try simp at z1
    obtain ⟨c1_0, f1_0⟩ := bblk hb1 (g := w.heap.size) (by (try simp) <;> omega)
    have l1_0 : w.heap.size < w1.heap.size := by omega
    rw [h]
    go_wp2_with fail
    refine (IsBrine_any _ _ _).mono ?_; rintro e w2 ⟨rfl, hb2⟩
    have z2 := hb2.size
    try simp at z2
    obtain ⟨c2_0, f2_0⟩ := bblk hb2 (g := w.heap.size) (by (try simp) <;> omega)
    have l2_0 : w.heap.size < w2.heap.size := by omega
    rw [h3]
    go_wp2
    go_ret2
    exact ⟨_, 0, by rw [Hb.out, Hl.out]; rfl, by rw [Hl.out]; exact OwnR.nil, by (repeat (first | exact Below.refl _ _ | refine Below.drew ?_ | refine below_drewN ?_ _ | (refine Below.alloc ?_ (by (try simp) <;> omega) _) | (refine Below.setCell ?_ (by (try simp) <;> omega) _) | (refine Below.trans ?_ (Below.mono (by assumption) (by (try simp) <;> omega)))))⟩
  have Hb := Lib.hid (show runB L a s = true by simp [runB, h, h3])
  have Hl := Lib.hid (runL_yes Hb.out)
  have Hg := Lib.hid (fun (k : Nat) (x : Int × Int) (hx : L[k]? = some x) => ladB_rung h hx)
  have hl10 := ladB_len h
  have hbr := briB_bounds h3
  go_enter Try.func33, Try.ntmps33
  go_wp2_with fail
  refine (IsLadder_any _ _ _ _ hr' (by omega)).mono ?_; rintro e w1 ⟨rfl, hb1⟩
  have z1 := hb1.size
  try simp at z1
  obtain ⟨c1_0, f1_0⟩ := bblk hb1 (g := w.heap.size) (by (try simp) <;> omega)
  have l1_0 : w.heap.size < w1.heap.size := by omega
  rw [h]
  go_wp2_with fail
  refine (IsBrine_any _ _ _).mono ?_; rintro e w2 ⟨rfl, hb2⟩
  have z2 := hb2.size
  try simp at z2
  obtain ⟨c2_0, f2_0⟩ := bblk hb2 (g := w.heap.size) (by (try simp) <;> omega)
  have l2_0 : w.heap.size < w2.heap.size := by omega
  rw [h3]
  clear h h3
  go_wp2
  go_loopw [19, 6] (fun i v wr => ∃ k : Nat, i = .int .i64 k ∧ k ≤ L.length ∧ Gath f1 1 3 wr (w.heap.size + 1) v (rfL L a s k) ∧ Below (w.heap.size + 1) (w.alloc (.cells #[.int .i64 a, .int .i64 s] 38 (0, 0))) wr) (fun i _ _ => (L.length - intOf i).toNat)
  case atStart => exact ⟨0, rfl, by omega, Gath.nil, (hb1.trans (hb2.mono hb1.size)).mono (by simp)⟩
  case round =>
    obtain ⟨k, rfl, hk, hG, hb⟩ := hrel
    have zr := hb.size
    simp at zr
    have cB0 : wr.cell? ⟨w.heap.size, 0, none⟩ = some (.int .i64 a) := by rw [hb.cell (by simp)]; simp
    have cB1 : wr.cell? ⟨w.heap.size, 1, none⟩ = some (.int .i64 s) := by rw [hb.cell (by simp)]; simp
    have hne : w.heap.size < wr.heap.size := by omega
    by_cases hlt : k < L.length
    · have hx : L[k]? = some L[k] := List.getElem?_eq_getElem hlt
      obtain ⟨b, off, rfl, hB, hcs⟩ := hr (SlR.ne hx)
      have hC := hcs.below (((Below.refl w.heap.size w).alloc (Nat.le_refl _) _).trans (hb.mono (by omega))) hB
      obtain ⟨c0, c1⟩ := cells2 hC hx
      have hk0 : (0 : Int) ≤ (k : Int) := by omega
      have hk1 : (k : Int) < (L.length : Int) := by omega
      have hBr : b < wr.heap.size := by omega
      obtain ⟨g0, g1, g2⟩ := Hg.out k _ hx
      generalize L[k] = x at *
      clear hr hr' hcs hlt Hg
      have hl9 := rfL_len L a s k
      cases h5 : staB x.1 x.2 a s
      case false =>
        have Hn := Lib.hid (rfL_no hx h5)
        generalize rfL L a s k = G at *
        have HG := Lib.hid (hG.alloc (.cells #[.int .i64 x.1, .int .i64 x.2] 67 (0, 0)))
        clear hx hC hG
        go_wp2_with fail
        refine (stands_any _ _ _ _ _ (by omega) (by omega) hbr.1 hbr.2).mono ?_; rintro e w4 ⟨rfl, hb4⟩
        have z4 := hb4.size
        try simp at z4
        obtain ⟨c4_0, f4_0⟩ := bblk hb4 (g := wr.heap.size) (by (try simp) <;> omega)
        have l4_0 : wr.heap.size < w4.heap.size := by omega
        obtain ⟨c4_1, f4_1⟩ := bblk hb4 (g := w.heap.size) (by (try simp) <;> omega)
        have l4_1 : w.heap.size < w4.heap.size := by omega
        rw [h5]
        have hG2 := Lib.hid (HG.out.below hb4)
        have hbw : Below (w.heap.size + 1) (w.alloc (.cells #[.int .i64 a, .int .i64 s] 38 (0, 0))) w4 := (hb.alloc (by omega) _).trans (hb4.mono (by simp; omega))
        go_wp2
        go_roundw
        case rel => exact ⟨k + 1, by go_num, by omega, by rw [Hn.out]; exact hG2.out, hbw⟩
        case measure => simp only [intOf]; omega
      case true =>
        have Hn := Lib.hid (rfL_yes hx h5)
        generalize rfL L a s k = G at *
        have HG := Lib.hid (hG.alloc (.cells #[.int .i64 x.1, .int .i64 x.2] 67 (0, 0)))
        clear hx hC hG
        go_wp2_with fail
        refine (stands_any _ _ _ _ _ (by omega) (by omega) hbr.1 hbr.2).mono ?_; rintro e w4 ⟨rfl, hb4⟩
        have z4 := hb4.size
        try simp at z4
        obtain ⟨c4_0, f4_0⟩ := bblk hb4 (g := wr.heap.size) (by (try simp) <;> omega)
        have l4_0 : wr.heap.size < w4.heap.size := by omega
        obtain ⟨c4_1, f4_1⟩ := bblk hb4 (g := w.heap.size) (by (try simp) <;> omega)
        have l4_1 : w.heap.size < w4.heap.size := by omega
        rw [h5]
        have hG2 := Lib.hid (HG.out.below hb4)
        have hbw : Below (w.heap.size + 1) (w.alloc (.cells #[.int .i64 a, .int .i64 s] 38 (0, 0))) w4 := (hb.alloc (by omega) _).trans (hb4.mono (by simp; omega))
        go_wp2_with (at_builtin; refine wpList_append_own _ rfl _ _ 43 rfl (w.heap.size + 1) 3 i0 (.int .i64 0) 1 8 Try.underlying43 hi hz0 hz1 hz2 rfl (by decide) _ _ _ rfl (hG2.out.alloc _) ⟨w4.heap.size, 0, none⟩ 1 1 [.int .i64 k] rfl rfl ?c1 ?c2 ?c3 ?c4 ?c5 ?c6)
        case c1 => exact one_cell (by simp)
        case c2 => exact one_ok
        case c3 => unfold maxLen; omega
        case c4 => omega
        case c5 => simp; omega
        case c6 =>
          intro v' w9 hown hgrow _
          have hG9 : Gath f1 1 3 w9 (w.heap.size + 1) v' (G ++ [(k : Int)]) := Gath.snoc hown
          have hb9 : Below (w.heap.size + 1) (w.alloc (.cells #[.int .i64 a, .int .i64 s] 38 (0, 0))) w9 := below_grown' (hbw.alloc (by omega) _) hgrow (hG2.out.alloc _) (Nat.le_refl _) (by simp; omega)
          have HG9 := Lib.hid hG9
          clear hown hG9 hgrow hbw hG2
          go_wp2
          go_roundw
          case rel => exact ⟨k + 1, by go_num, by omega, by rw [Hn.out]; exact HG9.out, hb9⟩
          case measure => simp only [intOf]; omega
    · obtain rfl : k = L.length := by omega
      obtain ⟨A', c', rfl, hO⟩ := Gath.own (f := f1) (m := 1) (fun _ => rfl) hG
      have hO1 := Lib.hid (hO.mono (Nat.le_succ w.heap.size))
      clear hO hG
      rw [← Hl.out] at hO1
      rw [← Hl.out]
      have hbz : Below w.heap.size w wr := ((Below.refl w.heap.size w).alloc (Nat.le_refl _) _).trans (hb.mono (by omega))
      go_wp2
      go_ret2
      exact ⟨A', c', by rw [Hb.out]; rfl, hO1.out, hbz⟩
end Go.Proofs.Ythhjbdhglaombaa
