/-
  JoinSamples: the program.
-/
import Derived.Test.YtapfnelghmnajaaCat1
import Derived.WalkKit
import Derived.WalkSpells
import Derived.WalkLawsBesides
import Derived.Lib.Hide
import Derived.Deep.QuietTactic
import Derived.BigQuiet
import Derived.StillTailTactics
namespace Go.Proofs.Ytapfnelghmnajaa
open Go.RowKit

def jsB (L L' : List Int) : Bool := smpB L && smpB L'
def jsU (L L' : List Int) : Bool := jsB L L' && smpB (sortL (L ++ L'))
def jsR (L L' : List Int) : List Int := if jsB L L' then okL (L ++ L') else []
theorem jsR_no {L L' : List Int} (h : jsB L L' = false) : jsR L L' = [] := by simp [jsR, h]
theorem jsR_yes {L L' : List Int} (h : jsB L L' = true) : jsR L L' = okL (L ++ L') := by simp [jsR, h]
theorem jsR_len (L L' : List Int) : (jsR L L').length ≤ 20 := by
  unfold jsR
  split
  · exact okL_len _
  · simp

set_option maxRecDepth 20000 in
set_option maxHeartbeats 8000000 in
theorem JoinSamples_any (A : Option Addr) (c : Nat) (L : List Int) (A' : Option Addr) (c' : Nat) (L' : List Int) (w : World) (hr : SlR f1 1 w w.heap.size A L) (hm : (L.length : Int) ≤ 1048576) (hr' : SlR f1 1 w w.heap.size A' L') (hm' : (L'.length : Int) ≤ 1048576) :
    Calls Try.prog 46 #[.agg #[.slice A L.length c], .agg #[.slice A' L'.length c']] w (NewSm2 3 w (jsR L L') (jsU L L')) := by
  obtain ⟨i0, hi, hz0, hz1, hz2⟩ := info_parts infoInt
  obtain ⟨E, hE⟩ : ∃ E, ((w.alloc (.cells #[.slice A L.length c] 30 (0, 0))).alloc (.cells #[.slice A' L'.length c'] 30 (0, 0))).alloc (.cells #[.slice none 0 0] 30 (0, 0)) = E := ⟨_, rfl⟩
  have hrE : SlR f1 1 E E.heap.size A L := by rw [← hE]; exact ((hr.alloc _).alloc _).alloc _
  have hrE' : SlR f1 1 E E.heap.size A' L' := by rw [← hE]; exact ((hr'.alloc _).alloc _).alloc _
  have HbE := Lib.hid (show Below w.heap.size w E by rw [← hE]; (repeat (first | exact Below.refl _ _ | refine Below.drew ?_ | refine below_drewN ?_ _ | (refine Below.alloc ?_ (by (try simp) <;> omega) _) | (refine Below.setCell ?_ (by (try simp) <;> omega) _) | (refine Below.trans ?_ (Below.mono (by assumption) (by (try simp) <;> omega))))))
  have zE : E.heap.size = w.heap.size + 3 := by rw [← hE]; simp
  have kC : Hid (Blk E (w.heap.size + 1 + 1) 30 #[.slice none 0 0]) := Lib.hid (by rw [← hE]; have := Blk.new ((w.alloc (.cells #[.slice A L.length c] 30 (0, 0))).alloc (.cells #[.slice A' L'.length c'] 30 (0, 0))) 30 #[.slice none 0 0]; simpa using this)
  have kS : E.cell? ⟨w.heap.size, 0, none⟩ = some (.slice A L.length c) := ((bblk (show Below (w.alloc (.cells #[.slice A L.length c] 30 (0, 0))).heap.size (w.alloc (.cells #[.slice A L.length c] 30 (0, 0))) E by rw [← hE]; exact ((Below.refl _ _).alloc (Nat.le_refl _) _).alloc (by simp) _) (g := w.heap.size) (by simp)).1 0).trans (by simp)
  have kT : E.cell? ⟨w.heap.size + 1, 0, none⟩ = some (.slice A' L'.length c') := ((bblk (show Below ((w.alloc (.cells #[.slice A L.length c] 30 (0, 0))).alloc (.cells #[.slice A' L'.length c'] 30 (0, 0))).heap.size ((w.alloc (.cells #[.slice A L.length c] 30 (0, 0))).alloc (.cells #[.slice A' L'.length c'] 30 (0, 0))) E by rw [← hE]; exact (Below.refl _ _).alloc (Nat.le_refl _) _) (g := w.heap.size + 1) (by simp)).1 0).trans (by simp)
  cases h1 : smpB L
  · skip
    have Hb := Lib.hid (show jsB L L' = false by simp [jsB, h1])
    have Hu := Lib.hid (show jsU L L' = false by simp [jsU, Hb.out])
    have Hl := Lib.hid (jsR_no Hb.out)
    go_enter Try.func46, Try.ntmps46
    go_wp2_with fail
    refine (IsSample_any _ _ _ _ hrE hm).mono ?_; rintro e w1 ⟨rfl, hb1⟩
    have z1 := hb1.size
    rw [h1]
    have kD := kC.out.below' hb1
    have b0 := kD.cell 0
    simp at b0
    have fb := kD.frozen
    have l3 : w.heap.size + 1 + 1 < w1.heap.size := by omega
    clear kD kS kT hE
    go_wp2
    refine bodyPost_ret (v := .tuple #[.agg #[.slice none 0 0], .bool false]) (by simp [results, Try.results46, go_sem, *] <;> rfl) rfl ?_
    exact ⟨none, 0, by rw [Hu.out, Hl.out]; rfl, by rw [Hl.out]; exact OwnR.nil, (HbE.out.trans (hb1.mono (by omega))).setCell (p := ⟨w.heap.size + 1 + 1, 0, none⟩) (by show w.heap.size ≤ w.heap.size + 1 + 1; omega) _⟩
  cases h2 : smpB L'
  · skip
    have Hb := Lib.hid (show jsB L L' = false by simp [jsB, h2])
    have Hu := Lib.hid (show jsU L L' = false by simp [jsU, Hb.out])
    have Hl := Lib.hid (jsR_no Hb.out)
    go_enter Try.func46, Try.ntmps46
    go_wp2_with fail
    refine (IsSample_any _ _ _ _ hrE hm).mono ?_; rintro e w1 ⟨rfl, hb1⟩
    have z1 := hb1.size
    rw [h1]
    have kT1 := ((bblk hb1 (g := w.heap.size + 1) (by omega)).1 0).trans kT
    clear kS kT hE
    go_wp2_with fail
    refine (IsSample_any _ _ _ _ (hrE'.next hb1) hm').mono ?_; rintro e w2 ⟨rfl, hb2⟩
    have z2 := hb2.size
    rw [h2]
    have kD := (kC.out.below' hb1).below' hb2
    have b0 := kD.cell 0
    simp at b0
    have fb := kD.frozen
    have l3 : w.heap.size + 1 + 1 < w2.heap.size := by omega
    clear kD kT1
    go_wp2
    refine bodyPost_ret (v := .tuple #[.agg #[.slice none 0 0], .bool false]) (by simp [results, Try.results46, go_sem, *] <;> rfl) rfl ?_
    exact ⟨none, 0, by rw [Hu.out, Hl.out]; rfl, by rw [Hl.out]; exact OwnR.nil, ((HbE.out.trans (hb1.mono (by omega))).trans (hb2.mono (by omega))).setCell (p := ⟨w.heap.size + 1 + 1, 0, none⟩) (by show w.heap.size ≤ w.heap.size + 1 + 1; omega) _⟩
  have Hb := Lib.hid (show jsB L L' = true by simp [jsB, h1, h2])
  have Hu := Lib.hid (show jsU L L' = smpB (sortL (L ++ L')) by simp [jsU, Hb.out])
  have Hl := Lib.hid (jsR_yes Hb.out)
  have hl20 := smpB_len h1
  have hl20' := smpB_len h2
  obtain ⟨b, off, rfl, hB, hcs⟩ := hrE (fun e => by rw [e] at hl20; simp at hl20)
  obtain ⟨b', off', rfl, hB', hcs'⟩ := hrE' (fun e => by rw [e] at hl20'; simp at hl20')
  have hJ := Lib.hid (show ((L ++ L').length : Int) ≤ 1048576 by rw [List.length_append]; omega)
  go_enter Try.func46, Try.ntmps46
  go_wp2_with fail
  refine (IsSample_any _ _ _ _ hrE hm).mono ?_; rintro e w1 ⟨rfl, hb1⟩
  have z1 := hb1.size
  rw [h1]
  have kT1 := ((bblk hb1 (g := w.heap.size + 1) (by omega)).1 0).trans kT
  have kS1 := ((bblk hb1 (g := w.heap.size) (by omega)).1 0).trans kS
  clear kS kT hE
  go_wp2_with fail
  refine (IsSample_any _ _ _ _ (hrE'.next hb1) hm').mono ?_; rintro e w2 ⟨rfl, hb2⟩
  have z2 := hb2.size
  rw [h2]
  have kT2 := ((bblk hb2 (g := w.heap.size + 1) (by omega)).1 0).trans kT1
  have kS2 := ((bblk hb2 (g := w.heap.size) (by omega)).1 0).trans kS1
  have l1 : w.heap.size < w2.heap.size := by omega
  have l2 : w.heap.size + 1 < w2.heap.size := by omega
  have hbE2 := hb1.trans (hb2.mono z1)
  have hX : Below w2.heap.size w2 (w2.alloc (.cells #[.slice (some ⟨b, off, none⟩) L.length c, .slice (some ⟨b', off', none⟩) L'.length c'] 22 (0, 0))) := by (repeat (first | exact Below.refl _ _ | refine Below.drew ?_ | refine below_drewN ?_ _ | (refine Below.alloc ?_ (by (try simp) <;> omega) _) | (refine Below.setCell ?_ (by (try simp) <;> omega) _) | (refine Below.trans ?_ (Below.mono (by assumption) (by (try simp) <;> omega)))))
  have hC := Lib.hid ((hcs.below hbE2 hB).below hX (by omega))
  have hC' := Lib.hid ((hcs'.below hbE2 hB').below hX (by omega))
  have kC2 := Lib.hid (((kC.out.below' hb1).below' hb2).below' hX)
  have HB2 := Lib.hid (HbE.out.trans ((hbE2.mono (by omega)).trans (hX.mono (by omega))))
  have p0 : (w2.alloc (.cells #[.slice (some ⟨b, off, none⟩) L.length c, .slice (some ⟨b', off', none⟩) L'.length c'] 22 (0, 0))).cell? ⟨w2.heap.size, 0, none⟩ = some (.slice (some ⟨b, off, none⟩) L.length c) := by simp
  have p1 : (w2.alloc (.cells #[.slice (some ⟨b, off, none⟩) L.length c, .slice (some ⟨b', off', none⟩) L'.length c'] 22 (0, 0))).cell? ⟨w2.heap.size, 1, none⟩ = some (.slice (some ⟨b', off', none⟩) L'.length c') := by simp
  have zX : (w2.alloc (.cells #[.slice (some ⟨b, off, none⟩) L.length c, .slice (some ⟨b', off', none⟩) L'.length c'] 22 (0, 0))).heap.size = w2.heap.size + 1 := by simp
  have P0 := Lib.hid p0
  have P1 := Lib.hid p1
  clear p0 p1 kT1 kS1 kC HbE hrE hrE' hcs hcs' hb1 hb2 hbE2 hX h1 h2 hr hr'
  go_wp2_with fail
  generalize (w2.alloc (.cells #[.slice (some ⟨b, off, none⟩) L.length c, .slice (some ⟨b', off', none⟩) L'.length c'] 22 (0, 0))) = X at *
  refine (concat_any w2.heap.size b off c b' off' c' L L' X P0.out P1.out hC.out (by omega) hC'.out (by omega) hm hm').mono ?_; rintro e w3 ⟨v, rfl, hG, hb3⟩
  have z3 := hb3.size
  obtain ⟨A1, c1, rfl, hO⟩ := Gath.own (f := f1) (m := 1) (fun _ => rfl) hG
  have kC3 := Lib.hid (kC2.out.below' hb3)
  have HB3 := Lib.hid (HB2.out.trans (hb3.mono (by omega)))
  clear hG hC hC' P0 P1 kC2 HB2 kT2 kS2 hm hm' hl20 hl20'
  generalize L ++ L' = G at *
  have hS := Lib.hid (sampleOf_any A1 c1 X.heap.size G w3 hO (by omega) hJ.out)
  clear hO hJ
  go_wp2_with fail
  refine hS.out.mono ?_; rintro e w5 ⟨A5, c5, rfl, o5, hb5⟩
  have kD := kC3.out.below hb5 (by omega)
  have b0 := kD.cell 0
  simp at b0
  have fb := kD.frozen
  have z5 := hb5.size
  have l3 : w.heap.size + 1 + 1 < w5.heap.size := by omega
  have HO5 := Lib.hid o5
  have HB5 := Lib.hid (HB3.out.trans (hb5.mono (by omega)))
  have lX : w.heap.size + 1 + 1 < X.heap.size := by omega
  clear kD o5 hb5 hS kC3 HB3 hb3
  rw [← Hl.out]
  rw [← Hl.out] at HO5
  go_wp2
  refine bodyPost_ret (v := .tuple #[.agg #[.slice A5 (jsR L L').length c5], .bool (smpB (sortL G))]) (by simp [results, Try.results46, go_sem, *] <;> rfl) rfl ?_
  exact ⟨A5, c5, by rw [Hu.out], (HO5.out.farBelow (p := ⟨w.heap.size + 1 + 1, 0, none⟩) lX).mono (by omega), HB5.out.setCell (p := ⟨w.heap.size + 1 + 1, 0, none⟩) (by show w.heap.size ≤ w.heap.size + 1 + 1; omega) _⟩
end Go.Proofs.Ytapfnelghmnajaa
