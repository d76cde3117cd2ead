/-
  Fractions and GradeOf: both programs.
-/
import Derived.Test.YtapfnelghmnajaaDoorFr1
import Derived.Test.YtapfnelghmnajaaDoorSet1
import Derived.Test.YtapfnelghmnajaaDoorPred
import Derived.WalkKit
import Derived.WalkSpells
import Derived.WalkLawsBesides
import Derived.Lib.Hide
import Derived.Deep.QuietTactic
import Derived.BigQuiet
import Derived.StillTailTactics
namespace Go.Proofs.YtapfnelghmnajaaDoor
open Go.RowKit

def fraB (S L : List Int) : Bool := setB S && smpB L
def fraL (S L : List Int) : List Int := if fraB S L then frA S L else []
theorem fraL_no {S L : List Int} (h : fraB S L = false) : fraL S L = [] := by simp [fraL, h]
theorem fraL_yes {S L : List Int} (h : fraB S L = true) : fraL S L = frA S L := by simp [fraL, h]
theorem setB_len {S : List Int} (h : setB S = true) : 1 ≤ S.length ∧ S.length ≤ 5 := by
  rw [setB, Bool.and_eq_true] at h
  have := inB_iff.1 h.2
  omega
theorem fraL_len (S L : List Int) : (fraL S L).length ≤ 6 := by
  unfold fraL
  split
  · rename_i h
    rw [fraB, Bool.and_eq_true] at h
    have := setB_len h.1
    rw [frA_len]; omega
  · simp
def gradeF (m : Nat) (p0 p1 pl n : Int) : Int :=
  if 1 < m then (if 100 * p0 ≥ 60 * n then 1 else if 100 * (p0 + p1) ≥ 60 * n then 2 else if 100 * pl ≤ 20 * n then 3 else 4)
  else (if 100 * p0 ≥ 60 * n then 1 else if 100 * p0 ≥ 60 * n then 2 else if 100 * pl ≤ 20 * n then 3 else 4)
def gradeN (S L : List Int) : Int := gradeF S.length ((frA S L).getD 0 0) ((frA S L).getD 1 0) ((frA S L).getD S.length 0) L.length
def gradeI (S L : List Int) : Int := if fraB S L then gradeN S L else 0
theorem frA_at (S L : List Int) {i : Nat} (h : i < S.length + 1) : ∃ v, (frA S L)[i]? = some v ∧ 0 ≤ v ∧ v ≤ (L.length : Int) := by
  have hl : i < (frA S L).length := by rw [frA_len]; exact h
  exact ⟨_, List.getElem?_eq_getElem hl, frA_bd S L (List.getElem_mem hl)⟩
theorem grade_parts (S L : List Int) : ∃ p0 p1 pl : Int, (0 ≤ p0 ∧ p0 ≤ (L.length : Int)) ∧ (0 ≤ p1 ∧ p1 ≤ (L.length : Int)) ∧ (0 ≤ pl ∧ pl ≤ (L.length : Int)) ∧ (frA S L)[0]? = some p0 ∧ (1 < S.length → (frA S L)[1]? = some p1) ∧ (frA S L)[S.length]? = some pl ∧ gradeN S L = gradeF S.length p0 p1 pl L.length := by
  obtain ⟨p0, h0, b0⟩ := frA_at S L (i := 0) (by omega)
  obtain ⟨pl, hl, bl⟩ := frA_at S L (i := S.length) (by omega)
  by_cases h : 1 < S.length
  · obtain ⟨p1, h1, b1⟩ := frA_at S L (i := 1) (by omega)
    exact ⟨p0, p1, pl, b0, b1, bl, h0, fun _ => h1, hl, by rw [gradeN, getD_of h0, getD_of h1, getD_of hl]⟩
  · exact ⟨p0, 0, pl, b0, by omega, bl, h0, fun e => absurd e h, hl, by rw [gradeN, getD_of h0, getD_of hl]; unfold gradeF; rw [if_neg h, if_neg h]⟩

set_option maxHeartbeats 1000000 in
theorem Fractions_any (A : Option Addr) (c : Nat) (S : List Int) (A' : Option Addr) (c' : Nat) (L : List Int) (w : World) (hr : SlR f1 1 w w.heap.size A S) (hm : (S.length : Int) ≤ 1048576) (_hI : ∀ x ∈ S, InI1 x) (hr' : SlR f1 1 w w.heap.size A' L) (hm' : (L.length : Int) ≤ 1048576) (_hI' : ∀ x ∈ L, InI1 x) :
    Calls Tryd.prog 17 #[.slice A S.length c, .agg #[.slice A' L.length c']] w (NewSl2 f1 1 3 w (fraL S L) (fraB S L)) := by
  have hII := Lib.hid _hI
  clear _hI _hI'
  have hrE := hr.alloc (.cells #[.slice A' L.length c'] 29 (0, 0))
  have hrE' := hr'.alloc (.cells #[.slice A' L.length c'] 29 (0, 0))
  cases h : setB S
  · have Hb := Lib.hid (show fraB S L = false by simp [fraB, h])
    have Hl := Lib.hid (fraL_no Hb.out)
    go_enter Tryd.func17, Tryd.ntmps17
    go_wp2_with fail
    refine (IsSet_any _ _ _ _ hrE hm hII.out).mono ?_; rintro e w1 ⟨rfl, hb1⟩
    have z1 := hb1.size
    try simp at z1
    obtain ⟨c1_0, f1_0⟩ := bblk hb1 (g := w.heap.size) (by (try simp) <;> omega)
    have l1_0 : w.heap.size < w1.heap.size := by omega
    rw [h]
    go_wp2
    go_ret2
    exact ⟨_, 0, by rw [Hb.out, Hl.out]; rfl, by rw [Hl.out]; exact OwnR.nil, by (repeat (first | exact Below.refl _ _ | refine Below.drew ?_ | refine below_drewN ?_ _ | (refine Below.alloc ?_ (by (try simp) <;> omega) _) | (refine Below.setCell ?_ (by (try simp) <;> omega) _) | (refine Below.trans ?_ (Below.mono (by assumption) (by (try simp) <;> omega)))))⟩
  cases h3 : smpB L
  · have Hb := Lib.hid (show fraB S L = false by simp [fraB, h, h3])
    have Hl := Lib.hid (fraL_no Hb.out)
    go_enter Tryd.func17, Tryd.ntmps17
    go_wp2_with fail
    refine (IsSet_any _ _ _ _ hrE hm hII.out).mono ?_; rintro e w1 ⟨rfl, hb1⟩
    have z1 := hb1.size
    try simp at z1
    obtain ⟨c1_0, f1_0⟩ := bblk hb1 (g := w.heap.size) (by (try simp) <;> omega)
    have l1_0 : w.heap.size < w1.heap.size := by omega
    rw [h]
    go_wp2_with fail
    refine (IsSample_any _ _ _ _ (hrE'.next hb1) hm').mono ?_; rintro e w2 ⟨rfl, hb2⟩
    have z2 := hb2.size
    try simp at z2
    obtain ⟨c2_0, f2_0⟩ := bblk hb2 (g := w.heap.size) (by (try simp) <;> omega)
    have l2_0 : w.heap.size < w2.heap.size := by omega
    rw [h3]
    go_wp2
    go_ret2
    exact ⟨_, 0, by rw [Hb.out, Hl.out]; rfl, by rw [Hl.out]; exact OwnR.nil, by (repeat (first | exact Below.refl _ _ | refine Below.drew ?_ | refine below_drewN ?_ _ | (refine Below.alloc ?_ (by (try simp) <;> omega) _) | (refine Below.setCell ?_ (by (try simp) <;> omega) _) | (refine Below.trans ?_ (Below.mono (by assumption) (by (try simp) <;> omega)))))⟩
  have Hb := Lib.hid (show fraB S L = true by simp [fraB, h, h3])
  have Hl := Lib.hid (fraL_yes Hb.out)
  go_enter Tryd.func17, Tryd.ntmps17
  go_wp2_with fail
  refine (IsSet_any _ _ _ _ hrE hm hII.out).mono ?_; rintro e w1 ⟨rfl, hb1⟩
  have z1 := hb1.size
  try simp at z1
  obtain ⟨c1_0, f1_0⟩ := bblk hb1 (g := w.heap.size) (by (try simp) <;> omega)
  have l1_0 : w.heap.size < w1.heap.size := by omega
  rw [h]
  go_wp2_with fail
  refine (IsSample_any _ _ _ _ (hrE'.next hb1) hm').mono ?_; rintro e w2 ⟨rfl, hb2⟩
  have z2 := hb2.size
  try simp at z2
  obtain ⟨c2_0, f2_0⟩ := bblk hb2 (g := w.heap.size) (by (try simp) <;> omega)
  have l2_0 : w.heap.size < w2.heap.size := by omega
  rw [h3]
  go_wp2_with fail
  refine (fractions_any _ _ _ _ _ _ _ ((hrE.next hb1).next hb2) hm ((hrE'.next hb1).next hb2) hm').mono ?_; rintro e w3 ⟨A3, c3, rfl, o3, hb3⟩
  have z3 := hb3.size
  have HO := Lib.hid (show OwnR f1 1 3 w3 w.heap.size A3 (fraL S L) by rw [Hl.out]; exact o3.mono (by omega))
  clear o3
  go_wp2
  go_ret2
  exact ⟨A3, c3, by rw [Hb.out, Hl.out]; rfl, HO.out, by (repeat (first | exact Below.refl _ _ | refine Below.drew ?_ | refine below_drewN ?_ _ | (refine Below.alloc ?_ (by (try simp) <;> omega) _) | (refine Below.setCell ?_ (by (try simp) <;> omega) _) | (refine Below.trans ?_ (Below.mono (by assumption) (by (try simp) <;> omega)))))⟩

set_option maxHeartbeats 1000000 in
theorem l14Both_any (A : Option Addr) (c : Nat) (S : List Int) (A' : Option Addr) (c' : Nat) (L : List Int) (w : World) (hr : SlR f1 1 w w.heap.size A S) (hm : (S.length : Int) ≤ 1048576) (_hI : ∀ x ∈ S, InI1 x) (hr' : SlR f1 1 w w.heap.size A' L) (hm' : (L.length : Int) ≤ 1048576) (_hI' : ∀ x ∈ L, InI1 x) :
    Calls Tryd.prog 27 #[.slice A S.length c, .agg #[.slice A' L.length c']] w fun e w' => e = .returned (.bool (fraB S L)) ∧ Below w.heap.size w w' := by
  have hII := Lib.hid _hI
  clear _hI _hI'
  have hrE := hr.alloc (.cells #[.slice A' L.length c'] 29 (0, 0))
  have hrE' := hr'.alloc (.cells #[.slice A' L.length c'] 29 (0, 0))
  cases h : setB S
  · have Hb := Lib.hid (show fraB S L = false by simp [fraB, h])
    go_enter Tryd.func27, Tryd.ntmps27
    go_wp2_with fail
    refine (l14Set_any _ _ _ _ hrE hm hII.out).mono ?_; rintro e w1 ⟨rfl, hb1⟩
    have z1 := hb1.size
    try simp at z1
    obtain ⟨c1_0, f1_0⟩ := bblk hb1 (g := w.heap.size) (by (try simp) <;> omega)
    have l1_0 : w.heap.size < w1.heap.size := by omega
    rw [h]
    go_wp2
    go_ret
    exact ⟨by rw [Hb.out]; rfl, by (repeat (first | exact Below.refl _ _ | refine Below.drew ?_ | refine below_drewN ?_ _ | (refine Below.alloc ?_ (by (try simp) <;> omega) _) | (refine Below.setCell ?_ (by (try simp) <;> omega) _) | (refine Below.trans ?_ (Below.mono (by assumption) (by (try simp) <;> omega)))))⟩
  · have Hb := Lib.hid (show fraB S L = smpB L by simp [fraB, h])
    go_enter Tryd.func27, Tryd.ntmps27
    go_wp2_with fail
    refine (l14Set_any _ _ _ _ hrE hm hII.out).mono ?_; rintro e w1 ⟨rfl, hb1⟩
    have z1 := hb1.size
    try simp at z1
    obtain ⟨c1_0, f1_0⟩ := bblk hb1 (g := w.heap.size) (by (try simp) <;> omega)
    have l1_0 : w.heap.size < w1.heap.size := by omega
    rw [h]
    go_wp2_with fail
    refine (l14Sample_any _ _ _ _ (hrE'.next hb1) hm').mono ?_; rintro e w2 ⟨rfl, hb2⟩
    have z2 := hb2.size
    try simp at z2
    obtain ⟨c2_0, f2_0⟩ := bblk hb2 (g := w.heap.size) (by (try simp) <;> omega)
    have l2_0 : w.heap.size < w2.heap.size := by omega
    go_wp2
    go_ret
    exact ⟨by rw [Hb.out]; rfl, by (repeat (first | exact Below.refl _ _ | refine Below.drew ?_ | refine below_drewN ?_ _ | (refine Below.alloc ?_ (by (try simp) <;> omega) _) | (refine Below.setCell ?_ (by (try simp) <;> omega) _) | (refine Below.trans ?_ (Below.mono (by assumption) (by (try simp) <;> omega)))))⟩


set_option maxHeartbeats 4000000 in
theorem GradeOf_any (A : Option Addr) (c : Nat) (S : List Int) (A' : Option Addr) (c' : Nat) (L : List Int) (w : World) (hr : SlR f1 1 w w.heap.size A S) (hm : (S.length : Int) ≤ 1048576) (_hI : ∀ x ∈ S, InI1 x) (hr' : SlR f1 1 w w.heap.size A' L) (hm' : (L.length : Int) ≤ 1048576) (_hI' : ∀ x ∈ L, InI1 x) :
    Calls Tryd.prog 22 #[.slice A S.length c, .agg #[.slice A' L.length c']] w fun e w' => e = .returned (.tuple #[.int .i64 (gradeI S L), .bool (fraB S L)]) ∧ Below w.heap.size w w' := by
  have hII' := Lib.hid _hI'
  have hII := Lib.hid _hI
  clear _hI _hI'
  have hrE := hr.alloc (.cells #[.slice A' L.length c'] 29 (0, 0))
  have hrE' := hr'.alloc (.cells #[.slice A' L.length c'] 29 (0, 0))
  have hl0 : (0 : Int) ≤ (S.length : Int) := by omega
  cases h : fraB S L
  · have Hl := Lib.hid (fraL_no h)
    have Hg := Lib.hid (show gradeI S L = 0 by simp [gradeI, h])
    go_enter Tryd.func22, Tryd.ntmps22
    go_wp2_with fail
    refine (Fractions_any _ _ _ _ _ _ _ hrE hm hII.out hrE' hm' hII'.out).mono ?_; rintro e w1 ⟨A1, c1, rfl, o1, hb1⟩
    rw [h]
    have z1 := hb1.size
    simp at z1
    clear o1
    go_wp2
    go_ret2
    exact ⟨by rw [Hg.out]; rfl, by (repeat (first | exact Below.refl _ _ | refine Below.drew ?_ | refine below_drewN ?_ _ | (refine Below.alloc ?_ (by (try simp) <;> omega) _) | (refine Below.setCell ?_ (by (try simp) <;> omega) _) | (refine Below.trans ?_ (Below.mono (by assumption) (by (try simp) <;> omega)))))⟩
  have Hl := Lib.hid (fraL_yes h)
  have Hg := Lib.hid (show gradeI S L = gradeN S L by simp [gradeI, h])
  obtain ⟨p0, p1, pl, b0, b1, bl, x0, x1, xl, Hv⟩ := grade_parts S L
  have HV := Lib.hid Hv
  have HX := Lib.hid (And.intro x0 (And.intro x1 xl))
  have HF := Lib.hid (frA_len S L)
  clear Hv x0 x1 xl
  go_enter Tryd.func22, Tryd.ntmps22
  go_wp2_with fail
  refine (Fractions_any _ _ _ _ _ _ _ hrE hm hII.out hrE' hm' hII'.out).mono ?_; rintro e w1 ⟨A1, c1, rfl, o1, hb1⟩
  rw [h, Hl.out, HF.out]
  rw [Hl.out] at o1
  obtain ⟨cc, ff⟩ := bblk hb1 (g := w.heap.size) (by simp)
  have z1 := hb1.size
  simp at z1
  have hne : w.heap.size < w1.heap.size := by omega
  obtain ⟨g, rfl, hg, hR, hC⟩ := o1 (by intro e; have := HF.out; rw [e] at this; simp at this)
  have hgl := hR.lt
  have k0 := cells1 hC HX.out.1
  have kl := cells1 hC HX.out.2.2
  simp only [Nat.add_zero, Nat.zero_add] at k0 kl
  cases h1 : decide ((S.length : Int) > 1)
  case false =>
    have Hs : Hid (¬ (1 < S.length)) := by have := of_decide_eq_false h1; exact fun h => this (by omega)
    clear hC hR
    go_wp2
    all_goals
      go_ret2
      exact ⟨by rw [Hg.out, HV.out]; unfold gradeF; rw [if_neg Hs.out]; (repeat' split) <;> first | rfl | (exfalso; omega), by (repeat (first | exact Below.refl _ _ | refine Below.drew ?_ | refine below_drewN ?_ _ | (refine Below.alloc ?_ (by (try simp) <;> omega) _) | (refine Below.setCell ?_ (by (try simp) <;> omega) _) | (refine Below.trans ?_ (Below.mono (by assumption) (by (try simp) <;> omega)))))⟩
  case true =>
    have Hs : Hid (1 < S.length) := by have := of_decide_eq_true h1; show 1 < S.length; omega
    have hs1 : (0 : Int) < (S.length : Int) := by have := Hs.out; omega
    have hs2 : (1 : Int) < (S.length : Int) + 1 := by omega
    have k1 := cells1 hC (HX.out.2.1 Hs.out)
    simp only [Nat.zero_add] at k1
    clear hC hR
    go_wp2
    all_goals
      go_ret2
      exact ⟨by rw [Hg.out, HV.out]; unfold gradeF; rw [if_pos Hs.out]; (repeat' split) <;> first | rfl | (exfalso; omega), by (repeat (first | exact Below.refl _ _ | refine Below.drew ?_ | refine below_drewN ?_ _ | (refine Below.alloc ?_ (by (try simp) <;> omega) _) | (refine Below.setCell ?_ (by (try simp) <;> omega) _) | (refine Below.trans ?_ (Below.mono (by assumption) (by (try simp) <;> omega)))))⟩

set_option maxHeartbeats 4000000 in
theorem l14Grade_any (A : Option Addr) (c : Nat) (S : List Int) (A' : Option Addr) (c' : Nat) (L : List Int) (w : World) (hr : SlR f1 1 w w.heap.size A S) (hm : (S.length : Int) ≤ 1048576) (hr' : SlR f1 1 w w.heap.size A' L) (hm' : (L.length : Int) ≤ 1048576) :
    Calls Tryd.prog 30 #[.slice A S.length c, .agg #[.slice A' L.length c']] w fun e w' => e = .returned (.int .i64 (gradeN S L)) ∧ Below w.heap.size w w' := by
  have hrE := hr.alloc (.cells #[.slice A' L.length c'] 29 (0, 0))
  have hrE' := hr'.alloc (.cells #[.slice A' L.length c'] 29 (0, 0))
  have hl0 : (0 : Int) ≤ (S.length : Int) := by omega
  obtain ⟨p0, p1, pl, b0, b1, bl, x0, x1, xl, Hv⟩ := grade_parts S L
  have HV := Lib.hid Hv
  have HX := Lib.hid (And.intro x0 (And.intro x1 xl))
  have HF := Lib.hid (frA_len S L)
  clear Hv x0 x1 xl
  have hbE : Below w.heap.size w (w.alloc (.cells #[.slice A' L.length c'] 29 (0, 0))) := by (repeat (first | exact Below.refl _ _ | refine Below.drew ?_ | refine below_drewN ?_ _ | (refine Below.alloc ?_ (by (try simp) <;> omega) _) | (refine Below.setCell ?_ (by (try simp) <;> omega) _) | (refine Below.trans ?_ (Below.mono (by assumption) (by (try simp) <;> omega)))))
  have kE : (w.alloc (.cells #[.slice A' L.length c'] 29 (0, 0))).cell? ⟨w.heap.size, 0, none⟩ = some (.slice A' L.length c') := by simp
  have zE : w.heap.size < (w.alloc (.cells #[.slice A' L.length c'] 29 (0, 0))).heap.size := by simp
  go_enter Tryd.func30, Tryd.ntmps30
  go_wp2
  generalize w.alloc (.cells #[.slice A' L.length c'] 29 (0, 0)) = E at *
  refine wp_region_grow [.fix (.slice A S.length c), .val (.agg #[.slice A' L.length c']), .pred (SlV f1 1 (frA S L)), .val (.pointer (some ⟨w.heap.size, 0, none⟩)), .val (.slice A' L.length c'), .val (.int .i64 L.length), .pred (SlV f1 1 (frA S L)), .val (.int .i64 L.length)] mixed (by kernel_rfl) ?_
  refine SeqG.fixStep (.inl ⟨rfl, fun _ => rfl⟩) ?_
  simp only [Act.put, List.setIfInBounds_toArray, List.set_cons_zero, List.set_cons_succ]
  refine SeqG.valStep (fun wv hbv hpv => ?_) ?_
  · have e1 := ((bblk hbv (g := w.heap.size) zE).1 0).trans kE
    go_wp2_with fail
    exact post_val (Below.refl _ _)
  simp only [Act.put, List.setIfInBounds_toArray, List.set_cons_zero, List.set_cons_succ]
  refine SeqG.predStep SlV.next (fun wv hbv hpv => ?_) (fun v0 => ?_)
  · go_wp2_with fail
    refine (l14Parts_any _ _ _ _ _ _ _ (SlR.next hrE hbv) hm (SlR.next hrE' hbv) hm').mono ?_; rintro e w1 ⟨B1, d1, rfl, q1, hb1⟩
    go_wp2_with fail
    exact post_pred _ hb1 ⟨_, _, rfl, q1.sl⟩
  simp only [Act.put, List.setIfInBounds_toArray, List.set_cons_zero, List.set_cons_succ]
  refine SeqG.valStep (fun wv hbv hpv => ?_) ?_
  · skip
    go_wp2_with fail
    exact post_val (Below.refl _ _)
  simp only [Act.put, List.setIfInBounds_toArray, List.set_cons_zero, List.set_cons_succ]
  refine SeqG.valStep (fun wv hbv hpv => ?_) ?_
  · have e1 := ((bblk hbv (g := w.heap.size) zE).1 0).trans kE
    go_wp2_with fail
    exact post_val (Below.refl _ _)
  simp only [Act.put, List.setIfInBounds_toArray, List.set_cons_zero, List.set_cons_succ]
  refine SeqG.valStep (fun wv hbv hpv => ?_) ?_
  · skip
    go_wp2_with fail
    exact post_val (Below.refl _ _)
  simp only [Act.put, List.setIfInBounds_toArray, List.set_cons_zero, List.set_cons_succ]
  refine SeqG.predStep SlV.next (fun wv hbv hpv => ?_) (fun v1 => ?_)
  · obtain ⟨B0, d0, rfl, s0⟩ := hpv _ (.head _) (by kernel_rfl)
    clear hpv
    go_wp2_with fail
    exact post_pred _ (Below.refl _ _) ⟨_, _, rfl, s0⟩
  simp only [Act.put, List.setIfInBounds_toArray, List.set_cons_zero, List.set_cons_succ]
  refine SeqG.valStep (fun wv hbv hpv => ?_) ?_
  · skip
    go_wp2_with fail
    exact post_val (Below.refl _ _)
  simp only [Act.put, List.setIfInBounds_toArray, List.set_cons_zero, List.set_cons_succ]
  refine SeqG.done fun w1 hb1 hpv => ?_
  obtain ⟨P1, d1, rfl, o1⟩ := hpv _ (.head _)
  clear hpv
  rw [HF.out]
  go_wp2_with fail
  refine NoPan.normal ?_
  have z1 := hb1.size
  obtain ⟨g, off, rfl, hg, hC⟩ := o1 (by intro e; have := HF.out; rw [e] at this; simp at this)
  have k0 := cells1 hC HX.out.1
  have kl := cells1 hC HX.out.2.2
  simp only [Nat.add_zero] at k0
  cases h1 : decide ((S.length : Int) > 1)
  case false =>
    have Hs : Hid (¬ (1 < S.length)) := by have := of_decide_eq_false h1; exact fun h => this (by omega)
    clear hC
    go_wp2
    all_goals
      go_ret
      exact ⟨by rw [HV.out]; unfold gradeF; rw [if_neg Hs.out]; (repeat' split) <;> first | rfl | (exfalso; omega), by (repeat (first | exact Below.refl _ _ | refine Below.drew ?_ | refine below_drewN ?_ _ | (refine Below.alloc ?_ (by (try simp) <;> omega) _) | (refine Below.setCell ?_ (by (try simp) <;> omega) _) | (refine Below.trans ?_ (Below.mono (by assumption) (by (try simp) <;> omega)))))⟩
  case true =>
    have Hs : Hid (1 < S.length) := by have := of_decide_eq_true h1; show 1 < S.length; omega
    have hs1 : (0 : Int) < (S.length : Int) := by have := Hs.out; omega
    have hs2 : (1 : Int) < (S.length : Int) + 1 := by omega
    have k1 := cells1 hC (HX.out.2.1 Hs.out)
    clear hC
    go_wp2
    all_goals
      go_ret
      exact ⟨by rw [HV.out]; unfold gradeF; rw [if_pos Hs.out]; (repeat' split) <;> first | rfl | (exfalso; omega), by (repeat (first | exact Below.refl _ _ | refine Below.drew ?_ | refine below_drewN ?_ _ | (refine Below.alloc ?_ (by (try simp) <;> omega) _) | (refine Below.setCell ?_ (by (try simp) <;> omega) _) | (refine Below.trans ?_ (Below.mono (by assumption) (by (try simp) <;> omega)))))⟩

set_option maxHeartbeats 1000000 in
theorem SGradeOf_any (A : Option Addr) (c : Nat) (S : List Int) (A' : Option Addr) (c' : Nat) (L : List Int) (w : World) (hr : SlR f1 1 w w.heap.size A S) (hm : (S.length : Int) ≤ 1048576) (_hI : ∀ x ∈ S, InI1 x) (hr' : SlR f1 1 w w.heap.size A' L) (hm' : (L.length : Int) ≤ 1048576) (_hI' : ∀ x ∈ L, InI1 x) :
    Calls Tryd.prog 23 #[.slice A S.length c, .agg #[.slice A' L.length c']] w fun e w' => e = .returned (.tuple #[.int .i64 (gradeI S L), .bool (fraB S L)]) ∧ Below w.heap.size w w' := by
  have hII' := Lib.hid _hI'
  have hII := Lib.hid _hI
  clear _hI _hI'
  have hrE := hr.alloc (.cells #[.slice A' L.length c'] 29 (0, 0))
  have hrE' := hr'.alloc (.cells #[.slice A' L.length c'] 29 (0, 0))
  cases h : fraB S L
  · have Hg := Lib.hid (show gradeI S L = 0 by simp [gradeI, h])
    go_enter Tryd.func23, Tryd.ntmps23
    go_wp2_with fail
    refine (l14Both_any _ _ _ _ _ _ _ hrE hm hII.out hrE' hm' hII'.out).mono ?_; rintro e w1 ⟨rfl, hb1⟩
    have z1 := hb1.size
    try simp at z1
    obtain ⟨c1_0, f1_0⟩ := bblk hb1 (g := w.heap.size) (by (try simp) <;> omega)
    have l1_0 : w.heap.size < w1.heap.size := by omega
    rw [h]
    go_wp2
    go_ret2
    exact ⟨by rw [Hg.out]; rfl, by (repeat (first | exact Below.refl _ _ | refine Below.drew ?_ | refine below_drewN ?_ _ | (refine Below.alloc ?_ (by (try simp) <;> omega) _) | (refine Below.setCell ?_ (by (try simp) <;> omega) _) | (refine Below.trans ?_ (Below.mono (by assumption) (by (try simp) <;> omega)))))⟩
  have Hg := Lib.hid (show gradeI S L = gradeN S L by simp [gradeI, h])
  go_enter Tryd.func23, Tryd.ntmps23
  go_wp2_with fail
  refine (l14Both_any _ _ _ _ _ _ _ hrE hm hII.out hrE' hm' hII'.out).mono ?_; rintro e w1 ⟨rfl, hb1⟩
  have z1 := hb1.size
  try simp at z1
  obtain ⟨c1_0, f1_0⟩ := bblk hb1 (g := w.heap.size) (by (try simp) <;> omega)
  have l1_0 : w.heap.size < w1.heap.size := by omega
  rw [h]
  go_wp2_with fail
  refine (l14Grade_any _ _ _ _ _ _ _ (hrE.next hb1) hm (hrE'.next hb1) hm').mono ?_; rintro e w2 ⟨rfl, hb2⟩
  have z2 := hb2.size
  try simp at z2
  obtain ⟨c2_0, f2_0⟩ := bblk hb2 (g := w.heap.size) (by (try simp) <;> omega)
  have l2_0 : w.heap.size < w2.heap.size := by omega
  go_wp2
  go_ret2
  exact ⟨by rw [Hg.out]; rfl, by (repeat (first | exact Below.refl _ _ | refine Below.drew ?_ | refine below_drewN ?_ _ | (refine Below.alloc ?_ (by (try simp) <;> omega) _) | (refine Below.setCell ?_ (by (try simp) <;> omega) _) | (refine Below.trans ?_ (Below.mono (by assumption) (by (try simp) <;> omega)))))⟩
end Go.Proofs.YtapfnelghmnajaaDoor
