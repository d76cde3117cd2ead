/-
  BrokenGrains: the reference.
-/
import Derived.Test.YtapfnelghmnajaaBrk1
import Derived.WalkKit
import Derived.WalkSpells
import Derived.WalkLawsBesides
import Derived.Lib.Hide
import Derived.Deep.QuietTactic
import Derived.BigQuiet
import Derived.StillTailTactics
namespace Go.Proofs.Ytapfnelghmnajaa
open Go.RowKit

set_option maxRecDepth 4000 in
set_option maxHeartbeats 4000000 in
theorem SBrokenGrains_any (A : Option Addr) (c : Nat) (L : List Int) (z : Int) (w : World) (hr : SlR f1 1 w w.heap.size A L) (hm : (L.length : Int) ≤ 1048576) :
    Calls Try.prog 42 #[.agg #[.slice A L.length c], .int .i64 z] w (NewSm2 3 w (brkR L z) (brkU L z)) := by
  obtain ⟨i0, hi, hz0, hz1, hz2⟩ := info_parts infoInt
  have hrE := (hr.alloc (.cells #[.slice A L.length c] 30 (0, 0))).alloc (.cells #[.slice none 0 0] 30 (0, 0))
  have HbE := Lib.hid (show Below w.heap.size w ((w.alloc (.cells #[.slice A L.length c] 30 (0, 0))).alloc (.cells #[.slice none 0 0] 30 (0, 0))) by (repeat (first | exact Below.refl _ _ | refine Below.drew ?_ | refine below_drewN ?_ _ | (refine Below.alloc ?_ (by (try simp) <;> omega) _) | (refine Below.setCell ?_ (by (try simp) <;> omega) _) | (refine Below.trans ?_ (Below.mono (by assumption) (by (try simp) <;> omega))))))
  have zE : ((w.alloc (.cells #[.slice A L.length c] 30 (0, 0))).alloc (.cells #[.slice none 0 0] 30 (0, 0))).heap.size = w.heap.size + 2 := by simp
  have kC : Hid (Blk ((w.alloc (.cells #[.slice A L.length c] 30 (0, 0))).alloc (.cells #[.slice none 0 0] 30 (0, 0))) (w.heap.size + 1) 30 #[.slice none 0 0]) := Lib.hid (by have := Blk.new (w.alloc (.cells #[.slice A L.length c] 30 (0, 0))) 30 #[.slice none 0 0]; simpa using this)
  have kS : ((w.alloc (.cells #[.slice A L.length c] 30 (0, 0))).alloc (.cells #[.slice none 0 0] 30 (0, 0))).cell? ⟨w.heap.size, 0, none⟩ = some (.slice A L.length c) := by simp
  cases h1 : smpB L
  · skip
    have Hb := Lib.hid (show brkB L z = false by simp [brkB, h1])
    have Hu := Lib.hid (show brkU L z = false by simp [brkU, brkB, h1])
    have Hl := Lib.hid (brkR_no Hb.out)
    go_enter Try.func42, Try.ntmps42
    go_wp2_with fail
    generalize ((w.alloc (.cells #[.slice A L.length c] 30 (0, 0))).alloc (.cells #[.slice none 0 0] 30 (0, 0))) = E at *
    refine (l14Sample_any _ _ _ _ hrE hm).mono ?_; rintro e w1 ⟨rfl, hb1⟩
    have z1 := hb1.size
    rw [h1]
    have kD := kC.out.below' hb1
    have b0 := kD.cell 0
    simp at b0
    have fb := kD.frozen
    have l3 : w.heap.size + 1 < w1.heap.size := by omega
    clear kD
    go_wp2
    refine bodyPost_ret (v := .tuple #[.agg #[.slice none 0 0], .bool false]) (by simp [results, Try.results42, go_sem, *] <;> rfl) rfl ?_
    exact ⟨none, 0, by rw [Hu.out, Hl.out]; rfl, by rw [Hl.out]; exact OwnR.nil, (HbE.out.trans (hb1.mono (by omega))).setCell (p := ⟨w.heap.size + 1, 0, none⟩) (by show w.heap.size ≤ w.heap.size + 1; omega) _⟩
  cases h2 : inB z 1 500
  · skip
    have Hb := Lib.hid (show brkB L z = false by simp [brkB, h1, h2])
    have Hu := Lib.hid (show brkU L z = false by simp [brkU, brkB, h1, h2])
    have Hl := Lib.hid (brkR_no Hb.out)
    go_enter Try.func42, Try.ntmps42
    go_wp2_with fail
    generalize ((w.alloc (.cells #[.slice A L.length c] 30 (0, 0))).alloc (.cells #[.slice none 0 0] 30 (0, 0))) = E at *
    refine (l14Sample_any _ _ _ _ hrE hm).mono ?_; rintro e w1 ⟨rfl, hb1⟩
    have z1 := hb1.size
    rw [h1]
    go_wp2_with fail
    refine (l1In_any _ _ _ _).mono ?_; rintro e w' ⟨rfl, rfl⟩
    rw [h2]
    have kD := kC.out.below' hb1
    have b0 := kD.cell 0
    simp at b0
    have fb := kD.frozen
    have l3 : w.heap.size + 1 < w1.heap.size := by omega
    clear kD
    go_wp2
    refine bodyPost_ret (v := .tuple #[.agg #[.slice none 0 0], .bool false]) (by simp [results, Try.results42, go_sem, *] <;> rfl) rfl ?_
    exact ⟨none, 0, by rw [Hu.out, Hl.out]; rfl, by rw [Hl.out]; exact OwnR.nil, (HbE.out.trans (hb1.mono (by omega))).setCell (p := ⟨w.heap.size + 1, 0, none⟩) (by show w.heap.size ≤ w.heap.size + 1; omega) _⟩
  have Hb := Lib.hid (show brkB L z = true by simp [brkB, h1, h2])
  have Hu := Lib.hid (show brkU L z = smpB (sortL (brkL L z L.length)) by simp [brkU, Hb.out])
  have Hl := Lib.hid (brkR_yes Hb.out)
  have Hg := Lib.hid (fun (k : Nat) (x : Int) (hx : L[k]? = some x) => smpB_one h1 hx)
  have hl20 := smpB_len h1
  have hz9 := inB_iff.1 h2
  go_enter Try.func42, Try.ntmps42
  go_wp2_with fail
  generalize ((w.alloc (.cells #[.slice A L.length c] 30 (0, 0))).alloc (.cells #[.slice none 0 0] 30 (0, 0))) = E at *
  refine (l14Sample_any _ _ _ _ hrE hm).mono ?_; rintro e w1 ⟨rfl, hb1⟩
  have z1 := hb1.size
  rw [h1]
  go_wp2_with fail
  refine (l1In_any _ _ _ _).mono ?_; rintro e w' ⟨rfl, rfl⟩
  rw [h2]
  have k1 := ((bblk hb1 (g := w.heap.size) (by omega)).1 0).trans kS
  have l1 : w.heap.size < w1.heap.size := by omega
  have kS0 := Lib.hid kS
  clear h1 h2 kS hrE
  have hG1 := Lib.hid (Gath.made (f := f1) (m := 1) (t := 3) (B := w.heap.size + 2) (w := w1) (by omega))
  go_wp2
  go_loopw [7, 6] (fun i v wr => ∃ k : Nat, i = .int .i64 k ∧ k ≤ L.length ∧ Gath f1 1 3 wr (w.heap.size + 2) v (brkL L z k) ∧ Below (w.heap.size + 2) E wr) (fun i _ _ => (L.length - intOf i).toNat)
  case atStart => exact ⟨0, rfl, by omega, hG1.out, (hb1.mono (by omega)).alloc (by omega) _⟩
  case round =>
    obtain ⟨k, rfl, hk, hG, hb⟩ := hrel
    have zr := hb.size
    have kb := ((bblk hb (g := w.heap.size) (by omega)).1 0).trans kS0.out
    have hnb : w.heap.size < wr.heap.size := by omega
    by_cases hlt : k < L.length
    · have hx : L[k]? = some L[k] := List.getElem?_eq_getElem hlt
      obtain ⟨b, off, rfl, hB, hcs⟩ := hr (SlR.ne hx)
      have hC := (hcs.below HbE.out hB).below hb (by omega)
      have c0 := cells1 hC hx
      have hBr : b < wr.heap.size := by omega
      have hk0 : (0 : Int) ≤ (k : Int) := by omega
      have hk1 : (k : Int) < (L.length : Int) := by omega
      have g0 := Hg.out k _ hx
      generalize L[k] = x at *
      have hl9 := brkL_len L z k
      clear hr hcs hlt Hg hC
      by_cases h5 : x > z
      · obtain ⟨q1, hq1⟩ : ∃ q, (x + 1) / 2 = q := ⟨_, rfl⟩
        obtain ⟨q2, hq2⟩ : ∃ q, x / 2 = q := ⟨_, rfl⟩
        have Hn := Lib.hid (show brkL L z (k + 1) = brkL L z k ++ [q1, q2] by rw [brkL_two hx h5, hq1, hq2])
        generalize brkL L z k = G at *
        have HG := Lib.hid hG
        clear hG hx
        go_wp2_with (at_builtin; refine wpList_append_own _ rfl _ _ 22 rfl (w.heap.size + 2) 3 i0 (.int .i64 0) 1 8 Try.underlying22 hi hz0 hz1 hz2 rfl (by decide) _ _ _ rfl (HG.out.alloc _) ⟨wr.heap.size, 0, none⟩ 2 2 [.int .i64 q1, .int .i64 q2] rfl rfl ?c1 ?c2 ?c3 ?c4 ?c5 ?c6)
        try (case c1 => exact two_cells (by simp) (by simp))
        case c2 => first | exact two_ok | rfl
        case c3 => unfold maxLen; omega
        case c4 => omega
        case c5 => first | omega | (simp; omega)
        case c6 =>
          intro v' w9 hown hgrow _
          have hG9 : Gath f1 1 3 w9 (w.heap.size + 2) v' (G ++ [q1, q2]) := Gath.snoc2 hown
          have hb9 : Below (w.heap.size + 2) E w9 := below_grown' (hb.alloc (by omega) _) hgrow (HG.out.alloc _) (Nat.le_refl _) (by simp; omega)
          have HG9 := Lib.hid hG9
          clear hown hG9 hgrow
          go_wp2
          go_roundw
          case rel => exact ⟨k + 1, by go_num, by omega, by rw [Hn.out]; exact HG9.out, hb9⟩
          case measure => simp only [intOf]; omega
      · have Hn := Lib.hid (brkL_one hx h5)
        generalize brkL L z k = G at *
        have HG := Lib.hid hG
        clear hG hx
        go_wp2_with (at_builtin; refine wpList_append_own _ rfl _ _ 22 rfl (w.heap.size + 2) 3 i0 (.int .i64 0) 1 8 Try.underlying22 hi hz0 hz1 hz2 rfl (by decide) _ _ _ rfl (HG.out.alloc _) ⟨wr.heap.size, 0, none⟩ 1 1 [.int .i64 x] rfl rfl ?c1 ?c2 ?c3 ?c4 ?c5 ?c6)
        try (case c1 => exact one_cell1 (by simp))
        case c2 => first | exact one_ok1 | rfl
        case c3 => unfold maxLen; omega
        case c4 => omega
        case c5 => first | omega | (simp; omega)
        case c6 =>
          intro v' w9 hown hgrow _
          have hG9 : Gath f1 1 3 w9 (w.heap.size + 2) v' (G ++ [x]) := Gath.snoc hown
          have hb9 : Below (w.heap.size + 2) E w9 := below_grown' (hb.alloc (by omega) _) hgrow (HG.out.alloc _) (Nat.le_refl _) (by simp; omega)
          have HG9 := Lib.hid hG9
          clear hown hG9 hgrow
          go_wp2
          go_roundw
          case rel => exact ⟨k + 1, by go_num, by omega, by rw [Hn.out]; exact HG9.out, hb9⟩
          case measure => simp only [intOf]; omega
    · obtain rfl : k = L.length := by omega
      have hl9 := brkL_len L z L.length
      obtain ⟨A1, c1, rfl, hO⟩ := Gath.own (f := f1) (m := 1) (fun _ => rfl) hG
      generalize brkL L z L.length = G at *
      have kD0 := Lib.hid (kC.out.below hb (by omega))
      clear hG
      go_wp2_with fail
      refine (l14Sorted_any A1 c1 G _ hO.sl (by omega)).mono ?_; rintro e w5 ⟨A5, c5, rfl, o5, hb5⟩
      have z5 := hb5.size
      have hmS : ((sortL G).length : Int) ≤ 1048576 := by have := sortL_len G; omega
      have HBw := Lib.hid (HbE.out.trans ((hb.mono (by omega)).trans (hb5.mono (by omega))))
      have kE := Lib.hid ((kD0.out.below hb5 (by omega)).alloc (.cells #[.slice A5 (sortL G).length c5] 30 (0, 0)))
      have o6 := o5.next ((Below.refl _ _).alloc (Nat.le_refl _) (.cells #[.slice A5 (sortL G).length c5] 30 (0, 0)))
      have hb6 : Below w5.heap.size w5 (w5.alloc (.cells #[.slice A5 (sortL G).length c5] 30 (0, 0))) := (Below.refl _ _).alloc (Nat.le_refl _) _
      have q6 : (w5.alloc (.cells #[.slice A5 (sortL G).length c5] 30 (0, 0))).cell? ⟨w5.heap.size, 0, none⟩ = some (.slice A5 (sortL G).length c5) := by simp
      have z6 : (w5.alloc (.cells #[.slice A5 (sortL G).length c5] 30 (0, 0))).heap.size = w5.heap.size + 1 := by simp
      have Hok := Lib.hid (show okL G = if smpB (sortL G) then sortL G else [] from rfl)
      have hs6 := o6.sl
      go_wp2_with fail
      generalize w5.alloc (.cells #[.slice A5 (sortL G).length c5] 30 (0, 0)) = w6 at *
      refine (l14Sample_any _ _ _ _ hs6 hmS).mono ?_; rintro e w7 ⟨rfl, hb7⟩
      have z7 := hb7.size
      have q7 := ((bblk hb7 (g := w5.heap.size) (by omega)).1 0).trans q6
      have kD := kE.out.below' hb7
      have b0 := kD.cell 0
      simp at b0
      have fb := kD.frozen
      have l3 : w.heap.size + 1 < w7.heap.size := by omega
      have l5 : w5.heap.size < w7.heap.size := by omega
      have HO7 := Lib.hid ((o6.next hb7).mono (show w.heap.size + 2 ≤ wr.heap.size by omega))
      have HB7 := Lib.hid (HBw.out.trans ((hb6.mono (by omega)).trans (hb7.mono (by omega))))
      clear kD o5 o6 hO hb5 hb6 hb7 hs6 q6
      generalize sortL G = S at *
      cases h : smpB S
      · rw [h] at Hok Hu
        go_wp2
        refine bodyPost_ret (v := .tuple #[.agg #[.slice none 0 0], .bool false]) (by simp [results, Try.results42, go_sem, *] <;> rfl) rfl ?_
        exact ⟨none, 0, by rw [Hu.out, Hl.out, Hok.out]; rfl, by rw [Hl.out, Hok.out]; exact OwnR.nil, HB7.out.setCell (p := ⟨w.heap.size + 1, 0, none⟩) (by show w.heap.size ≤ w.heap.size + 1; omega) _⟩
      · rw [h] at Hok Hu
        go_wp2
        refine bodyPost_ret (v := .tuple #[.agg #[.slice A5 S.length c5], .bool true]) (by simp [results, Try.results42, go_sem, *] <;> rfl) rfl ?_
        exact ⟨A5, c5, by rw [Hu.out, Hl.out, Hok.out]; rfl, by rw [Hl.out, Hok.out]; exact (HO7.out.farBelow (p := ⟨w.heap.size + 1, 0, none⟩) (by show w.heap.size + 1 < w.heap.size + 2; omega)).mono (by omega), HB7.out.setCell (p := ⟨w.heap.size + 1, 0, none⟩) (by show w.heap.size ≤ w.heap.size + 1; omega) _⟩
end Go.Proofs.Ytapfnelghmnajaa
