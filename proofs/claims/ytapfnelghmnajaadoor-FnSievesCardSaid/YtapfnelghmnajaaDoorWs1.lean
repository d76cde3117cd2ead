/-
  WithoutSieve: the program.
-/
import Derived.Test.YtapfnelghmnajaaDoorFr2
import Derived.Test.YtapfnelghmnajaaDoorSrt1
import Derived.WalkKit
import Derived.WalkSpells
import Derived.WalkLawsBesides
import Derived.Lib.Hide
import Derived.Deep.QuietTactic
import Derived.BigQuiet
import Derived.StillTailTactics
namespace Go.Proofs.YtapfnelghmnajaaDoor
open Go.RowKit

def wsB (S L : List Int) (k : Int) : Bool := setB S && smpB L && inB k 0 ((S.length : Int) - 1) && !decide ((S.length : Int) = 1)
def wsR (S L : List Int) (k : Int) : List Int := if wsB S L k then frA (noAt S k.toNat) L else []
theorem wsR_no {S L : List Int} {k : Int} (h : wsB S L k = false) : wsR S L k = [] := by simp [wsR, h]
theorem wsR_yes {S L : List Int} {k : Int} (h : wsB S L k = true) : wsR S L k = frA (noAt S k.toNat) L := by simp [wsR, h]
theorem wsR_len (S L : List Int) (k : Int) : (wsR S L k).length ≤ 6 := by
  unfold wsR
  split
  · rename_i h
    simp only [wsB, Bool.and_eq_true] at h
    have := setB_len h.1.1.1
    have h2 := inB_iff.1 h.1.2
    rw [frA_len, noAt_len (by omega)]; omega
  · simp
/-- A slice of the call's own, from block B on. -/
def OwnV (t : TypeId) (B : Nat) (L : List Int) (v : Value) (w : World) : Prop := ∃ A c, v = .slice A L.length c ∧ OwnR f1 1 t w B A L
theorem OwnV.next {t : TypeId} {B : Nat} {L : List Int} : ∀ (v : Value) (w w' : World), Below w.heap.size w w' → OwnV t B L v w → OwnV t B L v w' := fun _ _ _ hb ⟨A, c, h1, h2⟩ => ⟨A, c, h1, h2.next hb⟩

set_option maxRecDepth 4000 in
set_option maxHeartbeats 8000000 in
theorem WithoutSieve_any (A : Option Addr) (c : Nat) (S : List Int) (A' : Option Addr) (c' : Nat) (L : List Int) (k : Int) (w : World) (hr : SlR f1 1 w w.heap.size A S) (hm : (S.length : Int) ≤ 1048576) (_hI : ∀ x ∈ S, InI1 x) (hcap : S.length ≤ c ∧ ∃ x, A = some x) (hr' : SlR f1 1 w w.heap.size A' L) (hm' : (L.length : Int) ≤ 1048576) (_hI' : ∀ x ∈ L, InI1 x) :
    Calls Tryd.prog 14 #[.slice A S.length c, .agg #[.slice A' L.length c'], .int .i64 k] w (NewSl2 f1 1 3 w (wsR S L k) (wsB S L k)) := by
  have hII := Lib.hid _hI
  have hII' := Lib.hid _hI'
  clear _hI _hI'
  have hrE := hr.alloc (.cells #[.slice A' L.length c'] 29 (0, 0))
  have hrE' := hr'.alloc (.cells #[.slice A' L.length c'] 29 (0, 0))
  cases h1 : setB S
  · skip
    have Hb := Lib.hid (show wsB S L k = false by simp [wsB, h1])
    have Hl := Lib.hid (wsR_no Hb.out)
    go_enter Tryd.func14, Tryd.ntmps14
    go_wp2_with fail
    refine (IsSet_any _ _ _ _ hrE hm hII.out).mono ?_; rintro e w1 ⟨rfl, hb1⟩
    have z1 := hb1.size
    try simp at z1
    obtain ⟨c1_0, f1_0⟩ := bblk hb1 (g := w.heap.size) (by (try simp) <;> omega)
    have l1_0 : w.heap.size < w1.heap.size := by omega
    rw [h1]
    go_wp2
    go_ret2
    exact ⟨_, 0, by rw [Hb.out, Hl.out]; rfl, by rw [Hl.out]; exact OwnR.nil, by (repeat (first | exact Below.refl _ _ | refine Below.drew ?_ | refine below_drewN ?_ _ | (refine Below.alloc ?_ (by (try simp) <;> omega) _) | (refine Below.setCell ?_ (by (try simp) <;> omega) _) | (refine Below.trans ?_ (Below.mono (by assumption) (by (try simp) <;> omega)))))⟩
  cases h2 : smpB L
  · skip
    have Hb := Lib.hid (show wsB S L k = false by simp [wsB, h2])
    have Hl := Lib.hid (wsR_no Hb.out)
    go_enter Tryd.func14, Tryd.ntmps14
    go_wp2_with fail
    refine (IsSet_any _ _ _ _ hrE hm hII.out).mono ?_; rintro e w1 ⟨rfl, hb1⟩
    have z1 := hb1.size
    try simp at z1
    obtain ⟨c1_0, f1_0⟩ := bblk hb1 (g := w.heap.size) (by (try simp) <;> omega)
    have l1_0 : w.heap.size < w1.heap.size := by omega
    rw [h1]
    go_wp2_with fail
    refine (IsSample_any _ _ _ _ (hrE'.next hb1) hm').mono ?_; rintro e w2 ⟨rfl, hb2⟩
    have z2 := hb2.size
    try simp at z2
    obtain ⟨c2_0, f2_0⟩ := bblk hb2 (g := w.heap.size) (by (try simp) <;> omega)
    have l2_0 : w.heap.size < w2.heap.size := by omega
    rw [h2]
    go_wp2
    go_ret2
    exact ⟨_, 0, by rw [Hb.out, Hl.out]; rfl, by rw [Hl.out]; exact OwnR.nil, by (repeat (first | exact Below.refl _ _ | refine Below.drew ?_ | refine below_drewN ?_ _ | (refine Below.alloc ?_ (by (try simp) <;> omega) _) | (refine Below.setCell ?_ (by (try simp) <;> omega) _) | (refine Below.trans ?_ (Below.mono (by assumption) (by (try simp) <;> omega)))))⟩
  by_cases h3 : (S.length : Int) = 1
  · have he : ((S.length : Int) == 1) = true := by simpa using h3
    have h3' := Lib.hid h3
    clear h3
    have Hb := Lib.hid (show wsB S L k = false by simp [wsB, h3'.out])
    have Hl := Lib.hid (wsR_no Hb.out)
    go_enter Tryd.func14, Tryd.ntmps14
    go_wp2_with fail
    refine (IsSet_any _ _ _ _ hrE hm hII.out).mono ?_; rintro e w1 ⟨rfl, hb1⟩
    have z1 := hb1.size
    try simp at z1
    obtain ⟨c1_0, f1_0⟩ := bblk hb1 (g := w.heap.size) (by (try simp) <;> omega)
    have l1_0 : w.heap.size < w1.heap.size := by omega
    rw [h1]
    go_wp2_with fail
    refine (IsSample_any _ _ _ _ (hrE'.next hb1) hm').mono ?_; rintro e w2 ⟨rfl, hb2⟩
    have z2 := hb2.size
    try simp at z2
    obtain ⟨c2_0, f2_0⟩ := bblk hb2 (g := w.heap.size) (by (try simp) <;> omega)
    have l2_0 : w.heap.size < w2.heap.size := by omega
    rw [h2]
    go_wp2
    go_ret2
    exact ⟨_, 0, by rw [Hb.out, Hl.out]; rfl, by rw [Hl.out]; exact OwnR.nil, by (repeat (first | exact Below.refl _ _ | refine Below.drew ?_ | refine below_drewN ?_ _ | (refine Below.alloc ?_ (by (try simp) <;> omega) _) | (refine Below.setCell ?_ (by (try simp) <;> omega) _) | (refine Below.trans ?_ (Below.mono (by assumption) (by (try simp) <;> omega)))))⟩
  have he : ((S.length : Int) == 1) = false := by simpa using h3
  have h3' := Lib.hid h3
  clear h3
  cases h4 : inB k 0 ((S.length : Int) - 1)
  · skip
    have Hb := Lib.hid (show wsB S L k = false by simp [wsB, h4])
    have Hl := Lib.hid (wsR_no Hb.out)
    go_enter Tryd.func14, Tryd.ntmps14
    go_wp2_with fail
    refine (IsSet_any _ _ _ _ hrE hm hII.out).mono ?_; rintro e w1 ⟨rfl, hb1⟩
    have z1 := hb1.size
    try simp at z1
    obtain ⟨c1_0, f1_0⟩ := bblk hb1 (g := w.heap.size) (by (try simp) <;> omega)
    have l1_0 : w.heap.size < w1.heap.size := by omega
    rw [h1]
    go_wp2_with fail
    refine (IsSample_any _ _ _ _ (hrE'.next hb1) hm').mono ?_; rintro e w2 ⟨rfl, hb2⟩
    have z2 := hb2.size
    try simp at z2
    obtain ⟨c2_0, f2_0⟩ := bblk hb2 (g := w.heap.size) (by (try simp) <;> omega)
    have l2_0 : w.heap.size < w2.heap.size := by omega
    rw [h2]
    go_wp2_with fail
    refine (within_any _ _ _ _).mono ?_; rintro e w' ⟨rfl, rfl⟩
    rw [h4]
    go_wp2
    go_ret2
    exact ⟨_, 0, by rw [Hb.out, Hl.out]; rfl, by rw [Hl.out]; exact OwnR.nil, by (repeat (first | exact Below.refl _ _ | refine Below.drew ?_ | refine below_drewN ?_ _ | (refine Below.alloc ?_ (by (try simp) <;> omega) _) | (refine Below.setCell ?_ (by (try simp) <;> omega) _) | (refine Below.trans ?_ (Below.mono (by assumption) (by (try simp) <;> omega)))))⟩
  have HS1 := Lib.hid h1
  have Hb := Lib.hid (show wsB S L k = true by simp [wsB, h1, h2, h3'.out, h4])
  obtain ⟨q, rfl⟩ := Int.eq_ofNat_of_zero_le (inB_iff.1 h4).1
  have Hl := Lib.hid (show wsR S L q = frA (noAt S q) L by rw [wsR_yes Hb.out, Int.toNat_natCast])
  have hql : q < S.length := by have := inB_iff.1 h4; omega
  have hlen := Lib.hid (show (S.take q).length = q by rw [List.length_take]; omega)
  have hdl := Lib.hid (show (S.drop (q + 1)).length = S.length - (q + 1) by rw [List.length_drop])
  have hnl := Lib.hid (noAt_len hql)
  have hS5 := setB_len HS1.out
  have hx : S[q]? = some S[q] := List.getElem?_eq_getElem hql
  obtain ⟨b, off, rfl, hB, hcs⟩ := hr (SlR.ne hx)
  have hcc := hcap.1
  have hq0 : (0 : Int) ≤ (q : Int) := by omega
  have hq1 : (q : Int) < (S.length : Int) := by omega
  have hqc : (q : Int) < (c : Int) := by omega
  have hsc : (S.length : Int) ≤ (c : Int) := by omega
  clear hcap hx
  go_enter Tryd.func14, Tryd.ntmps14
  go_wp2_with fail
  refine (IsSet_any _ _ _ _ hrE hm hII.out).mono ?_; rintro e w1 ⟨rfl, hb1⟩
  have z1 := hb1.size
  try simp at z1
  obtain ⟨c1_0, f1_0⟩ := bblk hb1 (g := w.heap.size) (by (try simp) <;> omega)
  have l1_0 : w.heap.size < w1.heap.size := by omega
  rw [h1]
  go_wp2_with fail
  refine (IsSample_any _ _ _ _ (hrE'.next hb1) hm').mono ?_; rintro e w2 ⟨rfl, hb2⟩
  have z2 := hb2.size
  try simp at z2
  obtain ⟨c2_0, f2_0⟩ := bblk hb2 (g := w.heap.size) (by (try simp) <;> omega)
  have l2_0 : w.heap.size < w2.heap.size := by omega
  rw [h2]
  go_wp2_with fail
  refine (within_any _ _ _ _).mono ?_; rintro e w' ⟨rfl, rfl⟩
  rw [h4]
  have hbW := Lib.hid (show Below w.heap.size w w2 by (repeat (first | exact Below.refl _ _ | refine Below.drew ?_ | refine below_drewN ?_ _ | (refine Below.alloc ?_ (by (try simp) <;> omega) _) | (refine Below.setCell ?_ (by (try simp) <;> omega) _) | (refine Below.trans ?_ (Below.mono (by assumption) (by (try simp) <;> omega))))))
  have hC := Lib.hid (hcs.below hbW.out hB)
  have hL := Lib.hid ((hrE'.next hb1).next hb2)
  have hne : w.heap.size < w2.heap.size := by omega
  have hbl : b < w2.heap.size := by omega
  have kb : w2.cell? ⟨w.heap.size, 0, none⟩ = some (.slice A' L.length c') := by rw [c2_0, c1_0]; simp
  clear hrE hrE' hr hr' hcs c1_0 f1_0 c2_0 f2_0 hb2 hb1
  clear h1 h2 h4 he
  go_wp2
  generalize w2 = wq at *
  refine Ch.wp_region_chain [.fix (.slice (some ⟨b, off, none⟩) S.length c), .pred (GathN 3 wq.heap.size S), .fix (.int .i64 q), .fix (.int .i64 q), .val (.int .i64 (q + 1)), .chain wq.heap.size (SlV f1 1 (noAt S q)), .val (.agg #[.slice A' L.length c']), .pred (OwnV 3 wq.heap.size (frA (noAt S q) L))] mixed (by kernel_rfl) ?_
  refine Ch.SeqG.fixStep (.inl ⟨rfl, fun _ => rfl⟩) ?_
  simp only [Act.put, List.setIfInBounds_toArray, List.set_cons_zero, List.set_cons_succ]
  refine Ch.SeqG.predStep GathN.next (fun wv hbv hpv => ?_) (fun v1 => ?_)
  · go_wp2_with fail
    refine (cloneI_any b off c S wv (hC.out.below hbv hbl) hm).mono ?_; rintro e w1 ⟨v, rfl, hG1, hn1, hb1⟩
    have HG1 := Lib.hid (And.intro (own_mono hG1 hbv.size) hn1)
    clear hG1 hn1
    go_wp2_with fail
    exact Ch.post_pred (F := GathN 3 wq.heap.size S) _ hb1 HG1.out
  simp only [Act.put, List.setIfInBounds_toArray, List.set_cons_zero, List.set_cons_succ]
  refine Ch.SeqG.fixStep (.inl ⟨rfl, fun _ => rfl⟩) ?_
  simp only [Act.put, List.setIfInBounds_toArray, List.set_cons_zero, List.set_cons_succ]
  refine Ch.SeqG.fixStep (.inl ⟨rfl, fun _ => rfl⟩) ?_
  simp only [Act.put, List.setIfInBounds_toArray, List.set_cons_zero, List.set_cons_succ]
  refine Ch.SeqG.valStep (fun wv hbv hpv => ?_) ?_
  · skip
    go_wp2_with fail
    exact Ch.post_val (Below.refl _ _)
  simp only [Act.put, List.setIfInBounds_toArray, List.set_cons_zero, List.set_cons_succ]
  refine Ch.SeqG.chainStep SlV.next (Nat.le_refl _) (fun wv hbv hpv => ?_) (fun v2 => ?_)
  · obtain ⟨hG1, hn1⟩ := hpv _ (.head _) (by kernel_rfl)
    clear hpv
    obtain ⟨g, cg, rfl, hgB, hcg, hcm, hR, hCg⟩ := hG1.form hn1
    clear hG1 hn1
    have hD := Lib.hid (deleteI_any g cg q S wv hql hcg hcm hR hCg)
    clear hR hCg
    go_wp2_with fail
    refine hD.out.mono ?_; rintro e w1 ⟨rfl, hC1, hb1, hg1⟩
    have HS := Lib.hid (show SlV f1 1 (noAt S q) (.slice (some ⟨g, 0, none⟩) (noAt S q).length cg) w1 from ⟨_, _, rfl, fun _ => ⟨g, 0, rfl, hg1, hC1⟩⟩)
    clear hC1 hD
    go_wp2_with fail
    exact Ch.post_chain (F := SlV f1 1 (noAt S q)) _ (hb1.mono hgB) HS.out
  simp only [Act.put, List.setIfInBounds_toArray, List.set_cons_zero, List.set_cons_succ]
  refine Ch.SeqG.valStep (fun wv hbv hpv => ?_) ?_
  · have e1 := ((bblk hbv (g := w.heap.size) hne).1 0).trans kb
    go_wp2_with fail
    exact Ch.post_val (Below.refl _ _)
  simp only [Act.put, List.setIfInBounds_toArray, List.set_cons_zero, List.set_cons_succ]
  refine Ch.SeqG.predStep OwnV.next (fun wv hbv hpv => ?_) (fun v9 => ?_)
  · obtain ⟨B0, d0, rfl, s0⟩ := hpv _ (.head _) (by kernel_rfl)
    clear hpv
    have hF := Lib.hid (fractions_any _ _ d0 c' _ _ _ s0 (by rw [hnl.out]; omega) (hL.out.next hbv) hm')
    clear s0
    go_wp2_with fail
    refine hF.out.mono ?_; rintro e w1 ⟨B1, d1, rfl, q1, hb1⟩
    have HQ := Lib.hid (q1.mono (show wq.heap.size ≤ wv.heap.size from hbv.size))
    clear q1 hF
    go_wp2_with fail
    exact Ch.post_pred (F := OwnV 3 wq.heap.size (frA (noAt S q) L)) _ hb1 ⟨_, _, rfl, HQ.out⟩
  simp only [Act.put, List.setIfInBounds_toArray, List.set_cons_zero, List.set_cons_succ]
  refine Ch.SeqG.done fun wv hbv hpv => ?_
  obtain ⟨A9, c9, rfl, o9⟩ := hpv _ (.head _)
  clear hpv
  have zv := hbv.size
  have HO9 := Lib.hid (show OwnR f1 1 3 wv w.heap.size A9 (wsR S L q) by rw [Hl.out]; exact o9.mono (by omega))
  have HB9 := Lib.hid (hbW.out.trans (hbv.mono (by omega)))
  clear o9 hbv
  go_wp2_with fail
  refine Ch.NoPan.normal ?_
  go_wp2
  go_ret2
  exact ⟨A9, c9, by rw [Hb.out, Hl.out]; rfl, HO9.out, HB9.out⟩
end Go.Proofs.YtapfnelghmnajaaDoor
