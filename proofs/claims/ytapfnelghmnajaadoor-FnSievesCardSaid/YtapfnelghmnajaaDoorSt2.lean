/-
  SampleText: the program and the reference.
-/
import Derived.Test.YtapfnelghmnajaaDoorSt1
import Derived.WalkKit
import Derived.WalkSpells
import Derived.WalkLawsBesides
import Derived.Lib.Hide
import Derived.Deep.QuietTactic
import Derived.BigQuiet
import Derived.StillTailTactics
namespace Go.Proofs.YtapfnelghmnajaaDoor
open Go.RowKit

/-- " grade " -/
def grT : List UInt8 := [32, 103, 114, 97, 100, 101, 32]
def stO (S L : List Int) : Option (List UInt8) := if fraB S L then some (numT (frA S L) ++ grT ++ decS (gradeN S L)) else none
def stS (S L : List Int) : List UInt8 := match stO S L with | some s => s | none => []
theorem st_no {S L : List Int} (h : fraB S L = false) : stS S L = [] := by simp [stS, stO, h]
theorem st_yes {S L : List Int} (h : fraB S L = true) : stS S L = numT (frA S L) ++ grT ++ decS (gradeN S L) := by simp [stS, stO, h]
theorem st_cat (a b : List UInt8) : (⟨(a ++ grT ++ b).toArray⟩ : ByteArray) = (ByteArray.mk a.toArray) ++ (ByteArray.mk #[32, 103, 114, 97, 100, 101, 32]) ++ (ByteArray.mk b.toArray) := by
  apply ByteArray.ext
  simp [grT]
theorem cat_slash (a b : List UInt8) : (⟨(a ++ [47] ++ b).toArray⟩ : ByteArray) = (ByteArray.mk a.toArray) ++ (ByteArray.mk #[47]) ++ (ByteArray.mk b.toArray) := by
  apply ByteArray.ext
  simp
theorem cat_none (b : List UInt8) : (ByteArray.mk #[]) ++ (ByteArray.mk b.toArray) = ⟨b.toArray⟩ := by
  apply ByteArray.ext
  simp
theorem gradeF_bd (m : Nat) (p0 p1 pl n : Int) : 1 ≤ gradeF m p0 p1 pl n ∧ gradeF m p0 p1 pl n ≤ 4 := by
  unfold gradeF
  repeat' split
  all_goals omega
theorem gradeN_bd (S L : List Int) : 1 ≤ gradeN S L ∧ gradeN S L ≤ 4 := gradeF_bd _ _ _ _ _

set_option maxHeartbeats 4000000 in
theorem SampleText_any (A : Option Addr) (c : Nat) (S : List Int) (A' : Option Addr) (c' : Nat) (L : List Int) (w : World) (hr : SlR f1 1 w w.heap.size A S) (hm : (S.length : Int) ≤ 1048576) (_hI : ∀ x ∈ S, InI1 x) (hr' : SlR f1 1 w w.heap.size A' L) (hm' : (L.length : Int) ≤ 1048576) (_hI' : ∀ x ∈ L, InI1 x) (htab : Lib.TabIs Tryd.prog w "internal/strconv.uint64pow10" .u64 Lib.pow10Tab) :
    Calls Tryd.prog 9 #[.slice A S.length c, .agg #[.slice A' L.length c']] w fun e w' => e = .returned (.tuple #[.string ⟨(stS S L).toArray⟩, .bool (fraB S L)]) ∧ Below w.heap.size w w' := by
  have hII' := Lib.hid _hI'
  have hII := Lib.hid _hI
  have HT := Lib.hid (pow_below htab ((Below.refl w.heap.size w).alloc (Nat.le_refl _) (.cells #[.slice A' L.length c'] 29 (0, 0))))
  clear _hI _hI' htab
  have hrE := hr.alloc (.cells #[.slice A' L.length c'] 29 (0, 0))
  have hrE' := hr'.alloc (.cells #[.slice A' L.length c'] 29 (0, 0))
  have hbE : Below w.heap.size w (w.alloc (.cells #[.slice A' L.length c'] 29 (0, 0))) := by (repeat (first | exact Below.refl _ _ | refine Below.drew ?_ | refine below_drewN ?_ _ | (refine Below.alloc ?_ (by (try simp) <;> omega) _) | (refine Below.setCell ?_ (by (try simp) <;> omega) _) | (refine Below.trans ?_ (Below.mono (by assumption) (by (try simp) <;> omega)))))
  have kE : (w.alloc (.cells #[.slice A' L.length c'] 29 (0, 0))).cell? ⟨w.heap.size, 0, none⟩ = some (.slice A' L.length c') := by simp
  have zE : w.heap.size < (w.alloc (.cells #[.slice A' L.length c'] 29 (0, 0))).heap.size := by simp
  have hl0 : (0 : Int) ≤ (S.length : Int) := by omega
  cases h : fraB S L
  · have Hg := Lib.hid (st_no h)
    go_enter Tryd.func9, Tryd.ntmps9
    go_wp2_with fail
    generalize w.alloc (.cells #[.slice A' L.length c'] 29 (0, 0)) = E at *
    refine (GradeOf_any _ _ _ _ _ _ _ hrE hm hII.out hrE' hm' hII'.out).mono ?_; rintro e w1 ⟨rfl, hb1⟩
    rw [h]
    have t1 := hbE.trans (hb1.mono (by omega))
    generalize gradeI S L = r at *
    go_wp2
    go_ret2
    exact ⟨by rw [Hg.out]; rfl, t1⟩
  have Hv := Lib.hid (st_yes h)
  have Hg := Lib.hid (show gradeI S L = gradeN S L by simp [gradeI, h])
  have hs : smpB L = true := by simp [fraB] at h; exact h.2
  have hs2 : setB S = true := by simp [fraB] at h; exact h.1
  have hll := (smpB_len hs).2
  have hsl := (setB_len hs2).2
  have HF := Lib.hid (frA_len S L)
  have HB := Lib.hid (fun y (hy : y ∈ frA S L) => frA_bd S L hy)
  obtain ⟨g1, g2⟩ := gradeN_bd S L
  have hNk : ∀ k, k ≤ (frA S L).length → ((numT ((frA S L).take k)).length : Int) ≤ 6012 := fun k hk => by
    have := numT_le (frA S L) (fun y hy => ⟨(HB.out y hy).1, by have := (HB.out y hy).2; omega⟩) k hk
    have := HF.out
    omega
  have hN : ((numT (frA S L)).length : Int) ≤ 6012 := by
    have := hNk _ (Nat.le_refl _)
    rwa [List.take_of_length_le (Nat.le_refl _)] at this
  have hD := decS_le (z := gradeN S L) (by omega)
  clear hs hs2 hNk
  go_enter Tryd.func9, Tryd.ntmps9
  go_wp2_with fail
  generalize w.alloc (.cells #[.slice A' L.length c'] 29 (0, 0)) = E at *
  refine (GradeOf_any _ _ _ _ _ _ _ hrE hm hII.out hrE' hm' hII'.out).mono ?_; rintro e w1 ⟨rfl, hb1⟩
  rw [h, Hg.out]
  have z1 := hb1.size
  have e1 := ((bblk hb1 (g := w.heap.size) zE).1 0).trans kE
  have l1 : w.heap.size < w1.heap.size := by omega
  go_wp2_with fail
  refine (fractions_any _ _ _ _ _ _ _ (hrE.next hb1) hm (hrE'.next hb1) hm').mono ?_; rintro e w2 ⟨B2, d2, rfl, o2, hb2⟩
  have z2 := hb2.size
  have t2 := hb1.trans (hb2.mono z1)
  go_wp2_with fail
  refine (decimals_any _ _ _ _ o2.sl (by rw [HF.out]; omega) (by rw [HF.out]; omega) (fun y hy => ⟨(HB.out y hy).1, by have := (HB.out y hy).2; omega⟩) (pow_below HT.out t2)).mono ?_; rintro e w3 ⟨rfl, hb3⟩
  have z3 := hb3.size
  have t3 := t2.trans (hb3.mono (by omega))
  go_wp2_with fail
  refine (decimal_any (gradeN S L) _ (by omega) (by omega) (pow_below HT.out t3)).mono ?_; rintro e w4 ⟨rfl, hb4⟩
  have t4 := hbE.trans ((t3.trans (hb4.mono (by omega))).mono (by omega))
  go_wp2
  go_ret2
  exact ⟨by rw [Hv.out, st_cat]; rfl, t4⟩

set_option maxRecDepth 4000 in
set_option maxHeartbeats 4000000 in
theorem SSampleText_any (A : Option Addr) (c : Nat) (S : List Int) (A' : Option Addr) (c' : Nat) (L : List Int) (w : World) (hr : SlR f1 1 w w.heap.size A S) (hm : (S.length : Int) ≤ 1048576) (_hI : ∀ x ∈ S, InI1 x) (hr' : SlR f1 1 w w.heap.size A' L) (hm' : (L.length : Int) ≤ 1048576) (_hI' : ∀ x ∈ L, InI1 x) :
    Calls Tryd.prog 6 #[.slice A S.length c, .agg #[.slice A' L.length c']] w fun e w' => e = .returned (.tuple #[.string ⟨(stS S L).toArray⟩, .bool (fraB S L)]) ∧ Below w.heap.size w w' := by
  have hII' := Lib.hid _hI'
  have hII := Lib.hid _hI
  clear _hI _hI'
  have hrE := hr.alloc (.cells #[.slice A' L.length c'] 29 (0, 0))
  have hrE' := hr'.alloc (.cells #[.slice A' L.length c'] 29 (0, 0))
  have hbE : Below w.heap.size w (w.alloc (.cells #[.slice A' L.length c'] 29 (0, 0))) := by (repeat (first | exact Below.refl _ _ | refine Below.drew ?_ | refine below_drewN ?_ _ | (refine Below.alloc ?_ (by (try simp) <;> omega) _) | (refine Below.setCell ?_ (by (try simp) <;> omega) _) | (refine Below.trans ?_ (Below.mono (by assumption) (by (try simp) <;> omega)))))
  have kE : (w.alloc (.cells #[.slice A' L.length c'] 29 (0, 0))).cell? ⟨w.heap.size, 0, none⟩ = some (.slice A' L.length c') := by simp
  have zE : w.heap.size < (w.alloc (.cells #[.slice A' L.length c'] 29 (0, 0))).heap.size := by simp
  have hl0 : (0 : Int) ≤ (S.length : Int) := by omega
  cases h : fraB S L
  · have Hg := Lib.hid (st_no h)
    go_enter Tryd.func6, Tryd.ntmps6
    go_wp2_with fail
    generalize w.alloc (.cells #[.slice A' L.length c'] 29 (0, 0)) = E at *
    refine (l14Both_any _ _ _ _ _ _ _ hrE hm hII.out hrE' hm' hII'.out).mono ?_; rintro e w1 ⟨rfl, hb1⟩
    rw [h]
    have t1 := hbE.trans (hb1.mono (by omega))
    go_wp2
    go_ret2
    exact ⟨by rw [Hg.out]; rfl, t1⟩
  have Hv := Lib.hid (st_yes h)
  have hs : smpB L = true := by simp [fraB] at h; exact h.2
  have hs2 : setB S = true := by simp [fraB] at h; exact h.1
  have hll := (smpB_len hs).2
  have hsl := (setB_len hs2).2
  have HF := Lib.hid (frA_len S L)
  have HB := Lib.hid (fun y (hy : y ∈ frA S L) => frA_bd S L hy)
  have HN2 := Lib.hid (List.take_of_length_le (l := frA S L) (Nat.le_refl _))
  obtain ⟨g1, g2⟩ := gradeN_bd S L
  have hNk : ∀ k, k ≤ (frA S L).length → ((numT ((frA S L).take k)).length : Int) ≤ 6012 := fun k hk => by
    have := numT_le (frA S L) (fun y hy => ⟨(HB.out y hy).1, by have := (HB.out y hy).2; omega⟩) k hk
    have := HF.out
    omega
  have hN : ((numT (frA S L)).length : Int) ≤ 6012 := by
    have := hNk _ (Nat.le_refl _)
    rwa [List.take_of_length_le (Nat.le_refl _)] at this
  have hD := decS_le (z := gradeN S L) (by omega)
  have HNK := Lib.hid hNk
  clear hs hs2 hNk
  go_enter Tryd.func6, Tryd.ntmps6
  go_wp2_with fail
  generalize w.alloc (.cells #[.slice A' L.length c'] 29 (0, 0)) = E at *
  refine (l14Both_any _ _ _ _ _ _ _ hrE hm hII.out hrE' hm' hII'.out).mono ?_; rintro e w1 ⟨rfl, hb1⟩
  rw [h]
  have z1 := hb1.size
  have e1 := ((bblk hb1 (g := w.heap.size) zE).1 0).trans kE
  have l1 : w.heap.size < w1.heap.size := by omega
  go_wp2_with fail
  refine (l14Parts_any _ _ _ _ _ _ _ (hrE.next hb1) hm (hrE'.next hb1) hm').mono ?_; rintro e w2 ⟨B2, d2, rfl, o2, hb2⟩
  have z2 := hb2.size
  have t2 := hb1.trans (hb2.mono z1)
  have q2 := o2.sl
  clear o2 e1
  have HP1 := Lib.hid (show (frA S L).length ≤ 6 by rw [HF.out]; omega)
  have hp0 : (0 : Int) ≤ ((frA S L).length : Int) := by omega
  go_wp2
  go_loopg [6, 8] (frA S L).length (fun g t i wr => ∃ k : Nat, k ≤ (frA S L).length ∧ g = (frA S L).length - k ∧ t = .string ⟨(numT ((frA S L).take k)).toArray⟩ ∧ i = .int .i64 k ∧ Below w2.heap.size w2 wr)
  case atStart => exact ⟨0, by omega, rfl, rfl, rfl, Below.refl _ _⟩
  case round =>
    obtain ⟨k, hk, rfl, rfl, rfl, hb⟩ := hrel
    have zr := hb.size
    by_cases hlt : k < (frA S L).length
    · have hx : (frA S L)[k]? = some (frA S L)[k] := List.getElem?_eq_getElem hlt
      have hxb := HB.out _ (List.mem_of_getElem? hx)
      obtain ⟨x, hxx⟩ : ∃ x, (frA S L)[k] = x := ⟨_, rfl⟩
      rw [hxx] at hx hxb
      obtain ⟨b, off, rfl, hB, hcs⟩ := q2 (SlR.ne hx)
      have c0 := cells1 (hcs.below hb hB) hx
      have hBr : b < wr.heap.size := by omega
      have hk0 : (0 : Int) ≤ (k : Int) := by omega
      have hk1 : (k : Int) < ((frA S L).length : Int) := by omega
      obtain ⟨x0, x1⟩ := hxb
      have HL := Lib.hid hlt
      have hDx := decS_le x0
      have hNx := HNK.out k hk
      by_cases hkz : k = 0
      · subst hkz
        have HS := Lib.hid (numT_first hx)
        have hz : (⟨(numT (List.take 0 (frA S L))).toArray⟩ : ByteArray) = ⟨#[]⟩ := rfl
        rw [hz]
        rw [Nat.add_zero] at c0
        clear hx hxx hcs hlt hNx hz
        go_wp2_with fail
        refine (l1Num_any x.toNat x _ (by omega) (Nat.le_refl _) (by omega)).mono ?_; rintro e w3 ⟨rfl, hb3⟩
        go_wp2
        go_roundg ((frA S L).length - 1)
        case measure => have := HL.out; omega
        case rel => exact ⟨1, by have := HL.out; omega, rfl, by rw [HS.out]; exact congrArg Value.string (cat_none _), rfl, hb.trans (hb3.mono zr)⟩
      · have HS := Lib.hid (numT_step hx (by omega))
        have hkp : (0 : Int) < (k : Int) := by omega
        have hk6 := HP1.out
        clear hx hxx hcs hlt
        go_wp2_with fail
        refine (l1Num_any x.toNat x _ (by omega) (Nat.le_refl _) (by omega)).mono ?_; rintro e w3 ⟨rfl, hb3⟩
        go_wp2
        go_roundg ((frA S L).length - (k + 1))
        case measure => have := HL.out; omega
        case rel => exact ⟨k + 1, by have := HL.out; omega, rfl, by rw [HS.out, cat_slash], by go_num, hb.trans (hb3.mono zr)⟩
    · obtain rfl : k = (frA S L).length := by omega
      rw [HN2.out]
      have tr : Below E.heap.size E wr := t2.trans (hb.mono (by omega))
      have e2 := ((bblk tr (g := w.heap.size) zE).1 0).trans kE
      have lr : w.heap.size < wr.heap.size := by omega
      go_wp2_with fail
      refine (l14Grade_any _ _ _ _ _ _ _ ((hrE.next tr)) hm ((hrE'.next tr)) hm').mono ?_; rintro e w4 ⟨rfl, hb4⟩
      have z4 := hb4.size
      go_wp2_with fail
      refine (l1Num_any (gradeN S L).toNat _ _ (by omega) (Nat.le_refl _) (by omega)).mono ?_; rintro e w5 ⟨rfl, hb5⟩
      have t5 := hbE.trans (((tr.trans (hb4.mono (by omega))).trans (hb5.mono (by omega))).mono (by omega))
      go_wp2
      go_ret2
      exact ⟨by rw [Hv.out, st_cat]; rfl, t5⟩
end Go.Proofs.YtapfnelghmnajaaDoor
