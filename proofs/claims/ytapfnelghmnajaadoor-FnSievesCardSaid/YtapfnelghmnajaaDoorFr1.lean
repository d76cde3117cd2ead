/-
  How many grains are in each fraction: both programs.
-/
import Derived.Test.YtapfnelghmnajaaDoorSmp1
import Derived.Deep.LoopGhost
import Derived.WalkKit
import Derived.WalkSpells
import Derived.WalkLawsBesides
import Derived.Lib.Hide
import Derived.Deep.QuietTactic
import Derived.BigQuiet
import Derived.StillTailTactics
namespace Go.Proofs.YtapfnelghmnajaaDoor
open Go.RowKit

set_option maxRecDepth 4000 in
set_option maxHeartbeats 4000000 in
theorem fractions_any (A A' : Option Addr) (c c' : Nat) (S L : List Int) (w : World) (hr : SlR f1 1 w w.heap.size A S) (hm : (S.length : Int) ≤ 1048576) (hr' : SlR f1 1 w w.heap.size A' L) (hm' : (L.length : Int) ≤ 1048576) :
    Calls Tryd.prog 32 #[.slice A S.length c, .agg #[.slice A' L.length c']] w (NewSl f1 1 3 w (frA S L)) := by
  obtain ⟨i0, hi, hz0, hz1, hz2⟩ := info_parts infoInt
  have hb2 : i0.bytes * (S.length + 1) ≤ 281474976710656 := by rw [hz2]; omega
  have hml : S.length + 1 ≤ maxLen := by unfold maxLen; omega
  have hs0 : (0 : Int) ≤ (S.length : Int) := by omega
  have hbE : Below w.heap.size w (w.alloc (.cells #[.slice A' L.length c'] 29 (0, 0))) := by (repeat (first | exact Below.refl _ _ | refine Below.drew ?_ | refine below_drewN ?_ _ | (refine Below.alloc ?_ (by (try simp) <;> omega) _) | (refine Below.setCell ?_ (by (try simp) <;> omega) _) | (refine Below.trans ?_ (Below.mono (by assumption) (by (try simp) <;> omega)))))
  have kb0 : (w.alloc (.cells #[.slice A' L.length c'] 29 (0, 0))).cell? ⟨w.heap.size, 0, none⟩ = some (.slice A' L.length c') := by simp
  have zE : (w.alloc (.cells #[.slice A' L.length c'] 29 (0, 0))).heap.size = w.heap.size + 1 := by simp
  have HA := Lib.hid (frA_len S L)
  go_enter Tryd.func32, Tryd.ntmps32
  go_wp2_with (refine wpList_make_full _ rfl _ _ 22 rfl (w.heap.size + 1) 3 i0 (.int .i64 0) 1 Tryd.underlying22 hi hz0 hz1 .i64 .i64 _ _ (S.length + 1) rfl rfl (by omega) (by omega) hb2 hml (by simp) ?_; intro w1 hown hgrow; have hb00 := below_grown hgrow (fun k h => by cases h); have kb1 := ((bblk hb00 (g := w.heap.size) (by omega)).1 0).trans kb0; have hne1 : w.heap.size < w1.heap.size := by have := hb00.size; omega)
  rw [zE] at hown
  have zE1 : (w.alloc (.cells #[.slice A' L.length c'] 29 (0, 0))).heap.size ≤ w.heap.size + 1 := by omega
  have zE2 : w.heap.size + 1 ≤ (w.alloc (.cells #[.slice A' L.length c'] 29 (0, 0))).heap.size := by omega
  clear zE
  generalize hE : w.alloc (.cells #[.slice A' L.length c'] 29 (0, 0)) = E at *
  clear hE
  have hrow := row_of_own hown
  have hb0 := (below_grown hgrow (fun k h => by cases h)).mono zE2
  have hC0 := cells_made hown
  clear hown hgrow hb2 hml hi hz0 hz1 hz2
  rw [Nat.mul_one] at hrow
  have KB := Lib.hid kb0
  have HbE := Lib.hid hbE
  clear kb0 hbE
  go_loopg [16] L.length (fun g i wr => ∃ k : Nat, k ≤ L.length ∧ g = L.length - k ∧ i = .int .i64 k ∧ Row wr (w.heap.size + 1) 3 (S.length + 1) ∧ Cells f1 1 wr (w.heap.size + 1) 0 (frL S L k) ∧ Below (w.heap.size + 1) E wr)
  case atStart => exact ⟨0, by omega, rfl, rfl, hrow, hC0, hb0⟩
  case round =>
    obtain ⟨k, hk, rfl, rfl, hR, hC, hb⟩ := hrel
    clear hrow hC0 hb0
    have zr := hb.size
    have kb := ((bblk hb (g := w.heap.size) (by omega)).1 0).trans KB.out
    have hne : w.heap.size < wr.heap.size := by omega
    by_cases hlt : k < L.length
    · have hx : L[k]? = some L[k] := List.getElem?_eq_getElem hlt
      obtain ⟨b', off', rfl, hB', hcs'⟩ := hr' (SlR.ne hx)
      have hCL := Lib.hid ((hcs'.below HbE.out hB'))
      have hk0 : (0 : Int) ≤ (k : Int) := by omega
      have hk1 : (k : Int) < (L.length : Int) := by omega
      have c0 := cells1 (hCL.out.below hb (by omega)) hx
      have hBr : b' < wr.heap.size := by omega
      obtain ⟨x, hxx⟩ : ∃ x, L[k] = x := ⟨_, rfl⟩
      rw [hxx] at hx c0
      have Hx := Lib.hid hx
      have Hxl := Lib.hid hlt
      clear hxx hx hcs' hlt
      go_wp2
      go_loopg [8] S.length (fun g i wr => ∃ i' : Nat, i' ≤ S.length ∧ g = S.length - i' ∧ i = .int .i64 i' ∧ Hid (∀ j y, j < i' → S[j]? = some y → x < y) ∧ Row wr (w.heap.size + 1) 3 (S.length + 1) ∧ Cells f1 1 wr (w.heap.size + 1) 0 (frL S L k) ∧ Below (w.heap.size + 1) E wr)
      case atStart => exact ⟨0, by omega, rfl, rfl, fun j y h => by omega, hR, hC, hb⟩
      case round =>
        obtain ⟨i, hi, rfl, rfl, hp, qR, qC, qB⟩ := hrel
        clear hR hC hb zr kb hne c0 hBr
        have zr := qB.size
        have kb := ((bblk qB (g := w.heap.size) (by omega)).1 0).trans KB.out
        have hne : w.heap.size < wr.heap.size := by omega
        have c0 := cells1 (hCL.out.below qB (by omega)) Hx.out
        have hBr : b' < wr.heap.size := by omega
        by_cases hil : i < S.length
        · have hy : S[i]? = some S[i] := List.getElem?_eq_getElem hil
          obtain ⟨b, off, rfl, hB, hcs⟩ := hr (SlR.ne hy)
          have d0 := cells1 ((hcs.below HbE.out hB).below qB (by omega)) hy
          have hBs : b < wr.heap.size := by omega
          have hi0 : (0 : Int) ≤ (i : Int) := by omega
          have hi1 : (i : Int) < (S.length : Int) := by omega
          obtain ⟨y, hyy⟩ : ∃ y, S[i] = y := ⟨_, rfl⟩
          rw [hyy] at hy d0
          clear hyy hcs hil
          cases h4 : decide (x < y)
          case true =>
            have Hp : Hid (∀ j z, j < i + 1 → S[j]? = some z → x < z) := fun j z hj hz => by
              by_cases e : j = i
              · subst e; rw [hy] at hz; cases hz; exact of_decide_eq_true h4
              · exact hp.out j z (by omega) hz
            have QR := Lib.hid qR
            have QC := Lib.hid qC
            clear hy hp qR qC
            go_wp2
            skip
            go_roundg (S.length - (i + 1))
            case measure => omega
            case rel => exact ⟨i + 1, by omega, rfl, by go_num, Hp, QR.out, QC.out, qB⟩
          case false =>
            have hsl : slotOf S x = i := slotOf_is S x i hp.out (by omega) (fun z hz => by rw [hy] at hz; cases hz; exact of_decide_eq_false h4)
            have hil : i < (frL S L k).length := by rw [frL_len]; omega
            obtain ⟨v, hv⟩ : ∃ v, (frL S L k)[i]? = some v := ⟨_, List.getElem?_eq_getElem hil⟩
            have hvb := frL_bd S L k v (List.mem_of_getElem? hv)
            have Hn := Lib.hid (show frL S L (k + 1) = (frL S L k).set i (v + 1) by rw [frL_succ Hx.out, hsl, bumpL, getD_of hv])
            have QR := Lib.hid qR
            have QC := Lib.hid qC
            have Hv := Lib.hid hv
            have Hil := Lib.hid hil
            clear hy hv hil qC qR hp hsl Hx
            have qR : Row wr (w.heap.size + 1) 3 (S.length + 1) := QR.out
            have qC : Cells f1 1 wr (w.heap.size + 1) 0 (frL S L k) := QC.out
            have qB2 : Below (w.heap.size + 1) E wr := by first | exact qB | exact below_drewN qB _
            have cv := cells1 qC Hv.out
            rw [Nat.zero_add] at cv
            have fz := qR.frozen i
            have hlg := qR.lt
            have nC := Lib.hid (cells_put (v := v + 1) qC qR Hil.out (by rw [frL_len]; omega))
            have nR := Lib.hid (row_put (j := i) qR (.int .i64 (v + 1)))
            have nB := Lib.hid (show Below (w.heap.size + 1) E (wr.setCell ⟨w.heap.size + 1, i, none⟩ (.int .i64 (v + 1))) from qB2.setCell (p := ⟨w.heap.size + 1, i, none⟩) (Nat.le_refl _) _)
            have hi0 : (0 : Int) ≤ (i : Int) := by omega
            have hi2 : (i : Int) < (S.length : Int) + 1 := by omega
            clear qC qR
            go_wp2
            go_roundg (L.length - (k + 1))
            case measure => have := Hxl.out; omega
            case rel => exact ⟨k + 1, by have := Hxl.out; omega, rfl, by go_num, nR.out, by rw [Hn.out]; exact nC.out, nB.out⟩
        · obtain rfl : i = S.length := by omega
          have hsl : slotOf S x = S.length := slotOf_is S x S.length hp.out (by omega) (fun z hz => by rw [List.getElem?_eq_none (Nat.le_refl _)] at hz; cases hz)
          have hil : S.length < (frL S L k).length := by rw [frL_len]; omega
          obtain ⟨v, hv⟩ : ∃ v, (frL S L k)[S.length]? = some v := ⟨_, List.getElem?_eq_getElem hil⟩
          have hvb := frL_bd S L k v (List.mem_of_getElem? hv)
          have Hn := Lib.hid (show frL S L (k + 1) = (frL S L k).set S.length (v + 1) by rw [frL_succ Hx.out, hsl, bumpL, getD_of hv])
          have QR := Lib.hid qR
          have QC := Lib.hid qC
          have Hv := Lib.hid hv
          have Hil := Lib.hid hil
          clear hv hil qC qR hp hsl Hx
          have qR : Row wr (w.heap.size + 1) 3 (S.length + 1) := QR.out
          have qC : Cells f1 1 wr (w.heap.size + 1) 0 (frL S L k) := QC.out
          have qB2 : Below (w.heap.size + 1) E wr := by first | exact qB | exact below_drewN qB _
          have cv := cells1 qC Hv.out
          rw [Nat.zero_add] at cv
          have fz := qR.frozen S.length
          have hlg := qR.lt
          have nC := Lib.hid (cells_put (v := v + 1) qC qR Hil.out (by rw [frL_len]; omega))
          have nR := Lib.hid (row_put (j := S.length) qR (.int .i64 (v + 1)))
          have nB := Lib.hid (show Below (w.heap.size + 1) E (wr.setCell ⟨w.heap.size + 1, S.length, none⟩ (.int .i64 (v + 1))) from qB2.setCell (p := ⟨w.heap.size + 1, S.length, none⟩) (Nat.le_refl _) _)
          have hi0 : (0 : Int) ≤ (S.length : Int) := by omega
          have hi2 : (S.length : Int) < (S.length : Int) + 1 := by omega
          clear qC qR
          go_wp2
          go_roundg (L.length - (k + 1))
          case measure => have := Hxl.out; omega
          case rel => exact ⟨k + 1, by have := Hxl.out; omega, rfl, by go_num, nR.out, by rw [Hn.out]; exact nC.out, nB.out⟩
    · obtain rfl : k = L.length := by omega
      have HR := Lib.hid hR
      have HC := Lib.hid hC
      clear hR hC
      go_wp2
      go_ret
      exact ⟨some ⟨w.heap.size + 1, 0, none⟩, S.length + 1, by rw [HA.out]; rfl, fun _ => ⟨w.heap.size + 1, rfl, by omega, by rw [Nat.mul_one, HA.out]; exact HR.out, HC.out⟩, HbE.out.trans (hb.mono (by omega))⟩

set_option maxRecDepth 4000 in
set_option maxHeartbeats 4000000 in
theorem l14Parts_any (A A' : Option Addr) (c c' : Nat) (S L : List Int) (w : World) (hr : SlR f1 1 w w.heap.size A S) (hm : (S.length : Int) ≤ 1048576) (hr' : SlR f1 1 w w.heap.size A' L) (hm' : (L.length : Int) ≤ 1048576) :
    Calls Tryd.prog 28 #[.slice A S.length c, .agg #[.slice A' L.length c']] w (NewSl f1 1 3 w (frA S L)) := by
  obtain ⟨i0, hi, hz0, hz1, hz2⟩ := info_parts infoInt
  have hb2 : i0.bytes * (S.length + 1) ≤ 281474976710656 := by rw [hz2]; omega
  have hml : S.length + 1 ≤ maxLen := by unfold maxLen; omega
  have hs0 : (0 : Int) ≤ (S.length : Int) := by omega
  have hbE : Below w.heap.size w (w.alloc (.cells #[.slice A' L.length c'] 29 (0, 0))) := by (repeat (first | exact Below.refl _ _ | refine Below.drew ?_ | refine below_drewN ?_ _ | (refine Below.alloc ?_ (by (try simp) <;> omega) _) | (refine Below.setCell ?_ (by (try simp) <;> omega) _) | (refine Below.trans ?_ (Below.mono (by assumption) (by (try simp) <;> omega)))))
  have kb0 : (w.alloc (.cells #[.slice A' L.length c'] 29 (0, 0))).cell? ⟨w.heap.size, 0, none⟩ = some (.slice A' L.length c') := by simp
  have zE : (w.alloc (.cells #[.slice A' L.length c'] 29 (0, 0))).heap.size = w.heap.size + 1 := by simp
  have HA := Lib.hid (frA_len S L)
  go_enter Tryd.func28, Tryd.ntmps28
  go_wp2_with (refine wpList_make_full _ rfl _ _ 22 rfl (w.heap.size + 1) 3 i0 (.int .i64 0) 1 Tryd.underlying22 hi hz0 hz1 .i64 .i64 _ _ (S.length + 1) rfl rfl (by omega) (by omega) hb2 hml (by simp) ?_; intro w1 hown hgrow)
  rw [zE] at hown
  have zE1 : (w.alloc (.cells #[.slice A' L.length c'] 29 (0, 0))).heap.size ≤ w.heap.size + 1 := by omega
  have zE2 : w.heap.size + 1 ≤ (w.alloc (.cells #[.slice A' L.length c'] 29 (0, 0))).heap.size := by omega
  clear zE
  generalize hE : w.alloc (.cells #[.slice A' L.length c'] 29 (0, 0)) = E at *
  clear hE
  have hrow := row_of_own hown
  have hb0 := (below_grown hgrow (fun k h => by cases h)).mono zE2
  have hC0 := cells_made hown
  clear hown hgrow hb2 hml hi hz0 hz1 hz2
  rw [Nat.mul_one] at hrow
  have KB := Lib.hid kb0
  have HbE := Lib.hid hbE
  clear kb0 hbE
  go_loopg [6] L.length (fun g i wr => ∃ k : Nat, k ≤ L.length ∧ g = L.length - k ∧ i = .int .i64 k ∧ Row wr (w.heap.size + 1) 3 (S.length + 1) ∧ Cells f1 1 wr (w.heap.size + 1) 0 (frL S L k) ∧ Below (w.heap.size + 1) E wr)
  case atStart => exact ⟨0, by omega, rfl, rfl, hrow, hC0, hb0⟩
  case round =>
    obtain ⟨k, hk, rfl, rfl, hR, hC, hb⟩ := hrel
    clear hrow hC0 hb0
    have zr := hb.size
    have kb := ((bblk hb (g := w.heap.size) (by omega)).1 0).trans KB.out
    have hne : w.heap.size < wr.heap.size := by omega
    by_cases hlt : k < L.length
    · have hx : L[k]? = some L[k] := List.getElem?_eq_getElem hlt
      obtain ⟨b', off', rfl, hB', hcs'⟩ := hr' (SlR.ne hx)
      have hCL := Lib.hid ((hcs'.below HbE.out hB'))
      have hk0 : (0 : Int) ≤ (k : Int) := by omega
      have hk1 : (k : Int) < (L.length : Int) := by omega
      have c0 := cells1 (hCL.out.below hb (by omega)) hx
      have hBr : b' < wr.heap.size := by omega
      obtain ⟨x, hxx⟩ : ∃ x, L[k] = x := ⟨_, rfl⟩
      rw [hxx] at hx c0
      have Hx := Lib.hid hx
      have Hxl := Lib.hid hlt
      clear hxx hx hcs' hlt
      go_wp2
      go_loopg [7] S.length (fun g i wr => ∃ i' : Nat, i' ≤ S.length ∧ g = S.length - i' ∧ i = .int .i64 i' ∧ Hid (∀ j y, j < i' → S[j]? = some y → x < y) ∧ Row wr (w.heap.size + 1) 3 (S.length + 1) ∧ Cells f1 1 wr (w.heap.size + 1) 0 (frL S L k) ∧ Below (w.heap.size + 1) E wr)
      case atStart => exact ⟨0, by omega, rfl, rfl, fun j y h => by omega, hR, hC, hb⟩
      case round =>
        obtain ⟨i, hi, rfl, rfl, hp, qR, qC, qB⟩ := hrel
        clear hR hC hb zr kb hne c0 hBr
        have zr := qB.size
        have kb := ((bblk qB (g := w.heap.size) (by omega)).1 0).trans KB.out
        have hne : w.heap.size < wr.heap.size := by omega
        have c0 := cells1 (hCL.out.below qB (by omega)) Hx.out
        have hBr : b' < wr.heap.size := by omega
        by_cases hil : i < S.length
        · have hy : S[i]? = some S[i] := List.getElem?_eq_getElem hil
          obtain ⟨b, off, rfl, hB, hcs⟩ := hr (SlR.ne hy)
          have d0 := cells1 ((hcs.below HbE.out hB).below qB (by omega)) hy
          have hBs : b < wr.heap.size := by omega
          have hi0 : (0 : Int) ≤ (i : Int) := by omega
          have hi1 : (i : Int) < (S.length : Int) := by omega
          obtain ⟨y, hyy⟩ : ∃ y, S[i] = y := ⟨_, rfl⟩
          rw [hyy] at hy d0
          clear hyy hcs hil
          cases h4 : decide (x < y)
          case true =>
            have Hp : Hid (∀ j z, j < i + 1 → S[j]? = some z → x < z) := fun j z hj hz => by
              by_cases e : j = i
              · subst e; rw [hy] at hz; cases hz; exact of_decide_eq_true h4
              · exact hp.out j z (by omega) hz
            have QR := Lib.hid qR
            have QC := Lib.hid qC
            clear hy hp qR qC
            go_wp2
            go_quiet (fail)
            go_wp2
            go_roundg (S.length - (i + 1))
            case measure => omega
            case rel => exact ⟨i + 1, by omega, rfl, by go_num, Hp, QR.out, QC.out, by (repeat (first | exact Below.refl _ _ | refine Below.drew ?_ | refine below_drewN ?_ _ | (refine Below.alloc ?_ (by (try simp) <;> omega) _) | (refine Below.setCell ?_ (by (try simp) <;> omega) _) | (refine Below.trans ?_ (Below.mono (by assumption) (by (try simp) <;> omega)))))⟩
          case false =>
            have hsl : slotOf S x = i := slotOf_is S x i hp.out (by omega) (fun z hz => by rw [hy] at hz; cases hz; exact of_decide_eq_false h4)
            have hil : i < (frL S L k).length := by rw [frL_len]; omega
            obtain ⟨v, hv⟩ : ∃ v, (frL S L k)[i]? = some v := ⟨_, List.getElem?_eq_getElem hil⟩
            have hvb := frL_bd S L k v (List.mem_of_getElem? hv)
            have Hn := Lib.hid (show frL S L (k + 1) = (frL S L k).set i (v + 1) by rw [frL_succ Hx.out, hsl, bumpL, getD_of hv])
            have QR := Lib.hid qR
            have QC := Lib.hid qC
            have Hv := Lib.hid hv
            have Hil := Lib.hid hil
            clear hy hv hil qC qR hp hsl Hx
            go_wp2
            go_quiet (fail)
            have qR : Row (wr.drewN nq) (w.heap.size + 1) 3 (S.length + 1) := QR.out
            have qC : Cells f1 1 (wr.drewN nq) (w.heap.size + 1) 0 (frL S L k) := QC.out
            have qB2 : Below (w.heap.size + 1) E (wr.drewN nq) := by first | exact qB | exact below_drewN qB _
            have cv := cells1 qC Hv.out
            rw [Nat.zero_add] at cv
            have fz := qR.frozen i
            have hlg := qR.lt
            have nC := Lib.hid (cells_put (v := v + 1) qC qR Hil.out (by rw [frL_len]; omega))
            have nR := Lib.hid (row_put (j := i) qR (.int .i64 (v + 1)))
            have nB := Lib.hid (show Below (w.heap.size + 1) E ((wr.drewN nq).setCell ⟨w.heap.size + 1, i, none⟩ (.int .i64 (v + 1))) from qB2.setCell (p := ⟨w.heap.size + 1, i, none⟩) (Nat.le_refl _) _)
            have hi0 : (0 : Int) ≤ (i : Int) := by omega
            have hi2 : (i : Int) < (S.length : Int) + 1 := by omega
            clear qC qR
            go_wp2
            go_roundg (L.length - (k + 1))
            case measure => have := Hxl.out; omega
            case rel => exact ⟨k + 1, by have := Hxl.out; omega, rfl, by go_num, nR.out, by rw [Hn.out]; exact nC.out, nB.out⟩
        · obtain rfl : i = S.length := by omega
          have hsl : slotOf S x = S.length := slotOf_is S x S.length hp.out (by omega) (fun z hz => by rw [List.getElem?_eq_none (Nat.le_refl _)] at hz; cases hz)
          have hil : S.length < (frL S L k).length := by rw [frL_len]; omega
          obtain ⟨v, hv⟩ : ∃ v, (frL S L k)[S.length]? = some v := ⟨_, List.getElem?_eq_getElem hil⟩
          have hvb := frL_bd S L k v (List.mem_of_getElem? hv)
          have Hn := Lib.hid (show frL S L (k + 1) = (frL S L k).set S.length (v + 1) by rw [frL_succ Hx.out, hsl, bumpL, getD_of hv])
          have QR := Lib.hid qR
          have QC := Lib.hid qC
          have Hv := Lib.hid hv
          have Hil := Lib.hid hil
          clear hv hil qC qR hp hsl Hx
          go_wp2
          go_quiet (fail)
          have qR : Row (wr.drewN nq) (w.heap.size + 1) 3 (S.length + 1) := QR.out
          have qC : Cells f1 1 (wr.drewN nq) (w.heap.size + 1) 0 (frL S L k) := QC.out
          have qB2 : Below (w.heap.size + 1) E (wr.drewN nq) := by first | exact qB | exact below_drewN qB _
          have cv := cells1 qC Hv.out
          rw [Nat.zero_add] at cv
          have fz := qR.frozen S.length
          have hlg := qR.lt
          have nC := Lib.hid (cells_put (v := v + 1) qC qR Hil.out (by rw [frL_len]; omega))
          have nR := Lib.hid (row_put (j := S.length) qR (.int .i64 (v + 1)))
          have nB := Lib.hid (show Below (w.heap.size + 1) E ((wr.drewN nq).setCell ⟨w.heap.size + 1, S.length, none⟩ (.int .i64 (v + 1))) from qB2.setCell (p := ⟨w.heap.size + 1, S.length, none⟩) (Nat.le_refl _) _)
          have hi0 : (0 : Int) ≤ (S.length : Int) := by omega
          have hi2 : (S.length : Int) < (S.length : Int) + 1 := by omega
          clear qC qR
          go_wp2
          go_roundg (L.length - (k + 1))
          case measure => have := Hxl.out; omega
          case rel => exact ⟨k + 1, by have := Hxl.out; omega, rfl, by go_num, nR.out, by rw [Hn.out]; exact nC.out, nB.out⟩
    · obtain rfl : k = L.length := by omega
      have HR := Lib.hid hR
      have HC := Lib.hid hC
      clear hR hC
      go_wp2
      go_ret
      exact ⟨some ⟨w.heap.size + 1, 0, none⟩, S.length + 1, by rw [HA.out]; rfl, fun _ => ⟨w.heap.size + 1, rfl, by omega, by rw [Nat.mul_one, HA.out]; exact HR.out, HC.out⟩, HbE.out.trans (hb.mono (by omega))⟩
end Go.Proofs.YtapfnelghmnajaaDoor
