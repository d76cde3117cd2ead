/-
  WithoutSieve: the reference.
-/
import Derived.Test.YtapfnelghmnajaaDoorWs1
import Derived.WalkKit
import Derived.WalkSpells
import Derived.WalkLawsBesides
import Derived.Lib.Hide
import Derived.Deep.QuietTactic
import Derived.BigQuiet
import Derived.StillTailTactics
namespace Go.Proofs.YtapfnelghmnajaaDoor
open Go.RowKit

theorem Cells.front' {w : World} {g off q : Nat} {L : List Int} (h : Cells f1 1 w g off L) : Cells f1 1 w g off (L.take q) := h.take q
set_option maxHeartbeats 1000000 in
theorem l1Own_any (b off c : Nat) (L : List Int) (w : World) (hr : Cells f1 1 w b off L) (hm : (L.length : Int) ≤ 1048576) :
    Calls Tryd.prog 42 #[.slice (some ⟨b, off, none⟩) L.length c] w fun e w' => ∃ v, e = .returned v ∧ Gath f1 1 3 w' w.heap.size v L ∧ v ≠ .slice none 0 0 ∧ Below w.heap.size w w' := by
  obtain ⟨i0, hi, hz0, hz1, hz2⟩ := info_parts infoInt
  by_cases hL : L = []
  · subst hL
    have hG0 := Lib.hid (Gath.made (f := f1) (m := 1) (t := 3) (w := w) (Nat.le_refl _))
    go_enter Tryd.func42, Tryd.ntmps42
    go_wp2_with (at_builtin; refine wpList_append_own _ rfl _ _ 22 rfl w.heap.size 3 i0 (.int .i64 0) 1 8 Tryd.underlying22 hi hz0 hz1 hz2 rfl (by decide) _ _ _ rfl hG0.out ⟨b, off, none⟩ 0 c [] rfl rfl (by intro j u hj; simp at hj) (by intro u hu; cases hu) (by unfold maxLen; simp) (by simp) (by simp) ?_; intro v' w1 hown hgrow hnil)
    have HG := Lib.hid (show Gath f1 1 3 w1 w.heap.size v' [] from hown)
    have hb : Below w.heap.size w w1 := below_grown' ((Below.refl _ _).alloc (Nat.le_refl _) _) hgrow hG0.out (Nat.le_refl _) (by simp)
    have hn : v' ≠ .slice none 0 0 := fun e => by cases (hnil.1 e).1
    have Hn := Lib.hid hn
    clear hown hgrow hnil hn
    go_wp2
    go_ret
    exact ⟨v', rfl, HG.out, Hn.out, hb⟩
  have hbl : b < w.heap.size := by
    obtain ⟨x, hx⟩ : ∃ x, L[0]? = some x := by cases L with | nil => exact absurd rfl hL | cons x L => exact ⟨x, rfl⟩
    exact World.block_lt_of_cell? w _ (cells1 hr hx)
  have hG0 := Lib.hid (Gath.made (f := f1) (m := 1) (t := 3) (w := w) (Nat.le_refl _))
  have hb0 : Below w.heap.size w (w.alloc (.cells #[] 3 (0, 0))) := by (repeat (first | exact Below.refl _ _ | refine Below.drew ?_ | refine below_drewN ?_ _ | (refine Below.alloc ?_ (by (try simp) <;> omega) _) | (refine Below.setCell ?_ (by (try simp) <;> omega) _) | (refine Below.trans ?_ (Below.mono (by assumption) (by (try simp) <;> omega)))))
  have hnw := Lib.hid (show ∀ j u, (L.map (Value.int .i64))[j]? = some u → (w.alloc (.cells #[] 3 (0, 0))).cell? ((⟨b, off, none⟩ : Addr).add j) = some u from fun j u h => by
    rw [old_cell hb0 hbl]
    have := drop_news (p := 0) hr j u (by simpa using h)
    simpa using this)
  go_enter Tryd.func42, Tryd.ntmps42
  go_wp2_with (at_builtin; refine wpList_append_own _ rfl _ _ 22 rfl w.heap.size 3 i0 (.int .i64 0) 1 8 Tryd.underlying22 hi hz0 hz1 hz2 rfl (by decide) _ _ _ rfl hG0.out ⟨b, off, none⟩ L.length c (L.map (Value.int .i64)) rfl (by simp) hnw.out ints_one (by unfold maxLen; simp; omega) (by simp; omega) (by simp) ?_; intro v' w1 hown hgrow hnil)
  have HG := Lib.hid (show Gath f1 1 3 w1 w.heap.size v' L from by unfold Gath; rw [flat1]; simpa using hown)
  have hb : Below w.heap.size w w1 := below_grown' hb0 hgrow hG0.out (Nat.le_refl _) (by simp)
  have hn : v' ≠ .slice none 0 0 := fun e => by cases (hnil.1 e).1
  have Hn := Lib.hid hn
  clear hown hgrow hnil hn
  go_wp2
  go_ret
  exact ⟨v', rfl, HG.out, Hn.out, hb⟩

set_option maxRecDepth 20000 in
set_option maxHeartbeats 8000000 in
theorem SWithoutSieve_any (A : Option Addr) (c : Nat) (S : List Int) (A' : Option Addr) (c' : Nat) (L : List Int) (k : Int) (w : World) (hr : SlR f1 1 w w.heap.size A S) (hm : (S.length : Int) ≤ 1048576) (_hI : ∀ x ∈ S, InI1 x) (hcap : S.length ≤ c ∧ ∃ x, A = some x) (hr' : SlR f1 1 w w.heap.size A' L) (hm' : (L.length : Int) ≤ 1048576) (_hI' : ∀ x ∈ L, InI1 x) :
    Calls Tryd.prog 15 #[.slice A S.length c, .agg #[.slice A' L.length c'], .int .i64 k] w (NewSl2 f1 1 3 w (wsR S L k) (wsB S L k)) := by
  obtain ⟨i0, hi, hz0, hz1, hz2⟩ := info_parts infoInt
  have hII := Lib.hid _hI
  have hII' := Lib.hid _hI'
  clear _hI _hI'
  have hrE := hr.alloc (.cells #[.slice A' L.length c'] 29 (0, 0))
  have hrE' := hr'.alloc (.cells #[.slice A' L.length c'] 29 (0, 0))
  cases h1 : fraB S L
  · have Hb := Lib.hid (show wsB S L k = false by rw [wsB, show (setB S && smpB L) = false from h1]; rfl)
    have Hl := Lib.hid (wsR_no Hb.out)
    go_enter Tryd.func15, Tryd.ntmps15
    go_wp2_with fail
    refine (l14Both_any _ _ _ _ _ _ _ hrE hm hII.out hrE' hm' hII'.out).mono ?_; rintro e w1 ⟨rfl, hb1⟩
    have z1 := hb1.size
    try simp at z1
    obtain ⟨c1_0, f1_0⟩ := bblk hb1 (g := w.heap.size) (by (try simp) <;> omega)
    have l1_0 : w.heap.size < w1.heap.size := by omega
    rw [h1]
    go_wp2
    go_ret2
    exact ⟨_, 0, by rw [Hb.out, Hl.out]; rfl, by rw [Hl.out]; exact OwnR.nil, by (repeat (first | exact Below.refl _ _ | refine Below.drew ?_ | refine below_drewN ?_ _ | (refine Below.alloc ?_ (by (try simp) <;> omega) _) | (refine Below.setCell ?_ (by (try simp) <;> omega) _) | (refine Below.trans ?_ (Below.mono (by assumption) (by (try simp) <;> omega)))))⟩
  have h1s : setB S = true := by simp [fraB] at h1; exact h1.1
  have h2s : smpB L = true := by simp [fraB] at h1; exact h1.2
  have HS1 := Lib.hid h1s
  have HS2 := Lib.hid h2s
  clear h1s h2s
  cases h4 : inB k 0 ((S.length : Int) - 1)
  · skip
    have Hb := Lib.hid (show wsB S L k = false by simp [wsB, h4])
    have Hl := Lib.hid (wsR_no Hb.out)
    go_enter Tryd.func15, Tryd.ntmps15
    go_wp2_with fail
    refine (l14Both_any _ _ _ _ _ _ _ hrE hm hII.out hrE' hm' hII'.out).mono ?_; rintro e w1 ⟨rfl, hb1⟩
    have z1 := hb1.size
    try simp at z1
    obtain ⟨c1_0, f1_0⟩ := bblk hb1 (g := w.heap.size) (by (try simp) <;> omega)
    have l1_0 : w.heap.size < w1.heap.size := by omega
    rw [h1]
    go_wp2_with fail
    refine (l1In_any _ _ _ _).mono ?_; rintro e w' ⟨rfl, rfl⟩
    rw [h4]
    go_wp2
    go_ret2
    exact ⟨_, 0, by rw [Hb.out, Hl.out]; rfl, by rw [Hl.out]; exact OwnR.nil, by (repeat (first | exact Below.refl _ _ | refine Below.drew ?_ | refine below_drewN ?_ _ | (refine Below.alloc ?_ (by (try simp) <;> omega) _) | (refine Below.setCell ?_ (by (try simp) <;> omega) _) | (refine Below.trans ?_ (Below.mono (by assumption) (by (try simp) <;> omega)))))⟩
  by_cases h3 : (S.length : Int) = 1
  · have he : ((S.length : Int) == 1) = true := by simpa using h3
    have h3' := Lib.hid h3
    clear h3
    have Hb := Lib.hid (show wsB S L k = false by simp [wsB, h3'.out])
    have Hl := Lib.hid (wsR_no Hb.out)
    go_enter Tryd.func15, Tryd.ntmps15
    go_wp2_with fail
    refine (l14Both_any _ _ _ _ _ _ _ hrE hm hII.out hrE' hm' hII'.out).mono ?_; rintro e w1 ⟨rfl, hb1⟩
    have z1 := hb1.size
    try simp at z1
    obtain ⟨c1_0, f1_0⟩ := bblk hb1 (g := w.heap.size) (by (try simp) <;> omega)
    have l1_0 : w.heap.size < w1.heap.size := by omega
    rw [h1]
    go_wp2_with fail
    refine (l1In_any _ _ _ _).mono ?_; rintro e w' ⟨rfl, rfl⟩
    rw [h4]
    go_wp2
    go_ret2
    exact ⟨_, 0, by rw [Hb.out, Hl.out]; rfl, by rw [Hl.out]; exact OwnR.nil, by (repeat (first | exact Below.refl _ _ | refine Below.drew ?_ | refine below_drewN ?_ _ | (refine Below.alloc ?_ (by (try simp) <;> omega) _) | (refine Below.setCell ?_ (by (try simp) <;> omega) _) | (refine Below.trans ?_ (Below.mono (by assumption) (by (try simp) <;> omega)))))⟩
  have he : ((S.length : Int) == 1) = false := by simpa using h3
  have h3' := Lib.hid h3
  clear h3
  have Hb := Lib.hid (show wsB S L k = true by simp [wsB, HS1.out, HS2.out, h3'.out, h4])
  obtain ⟨q, rfl⟩ := Int.eq_ofNat_of_zero_le (inB_iff.1 h4).1
  have Hl := Lib.hid (show wsR S L q = frA (noAt S q) L by rw [wsR_yes Hb.out, Int.toNat_natCast])
  have hql : q < S.length := by have := inB_iff.1 h4; omega
  have hlen := Lib.hid (show (S.take q).length = q by rw [List.length_take]; omega)
  have hdl := Lib.hid (show (S.drop (q + 1)).length = S.length - (q + 1) by rw [List.length_drop])
  have hnl := Lib.hid (noAt_len hql)
  have hS5 := setB_len HS1.out
  have hx : S[q]? = some S[q] := List.getElem?_eq_getElem hql
  obtain ⟨b, off, rfl, hB, hcs⟩ := hr (SlR.ne hx)
  have hcc := hcap.1
  have hq0 : (0 : Int) ≤ (q : Int) := by omega
  have hq1 : (q : Int) < (S.length : Int) := by omega
  have hqc : (q : Int) < (c : Int) := by omega
  have hsc : (S.length : Int) ≤ (c : Int) := by omega
  clear hcap hx
  have HN0 := Lib.hid hcs
  go_enter Tryd.func15, Tryd.ntmps15
  go_wp2_with fail
  refine (l14Both_any _ _ _ _ _ _ _ hrE hm hII.out hrE' hm' hII'.out).mono ?_; rintro e w1 ⟨rfl, hb1⟩
  have z1 := hb1.size
  try simp at z1
  obtain ⟨c1_0, f1_0⟩ := bblk hb1 (g := w.heap.size) (by (try simp) <;> omega)
  have l1_0 : w.heap.size < w1.heap.size := by omega
  rw [h1]
  go_wp2_with fail
  refine (l1In_any _ _ _ _).mono ?_; rintro e w' ⟨rfl, rfl⟩
  rw [h4]
  have hbW := Lib.hid (show Below w.heap.size w w1 by (repeat (first | exact Below.refl _ _ | refine Below.drew ?_ | refine below_drewN ?_ _ | (refine Below.alloc ?_ (by (try simp) <;> omega) _) | (refine Below.setCell ?_ (by (try simp) <;> omega) _) | (refine Below.trans ?_ (Below.mono (by assumption) (by (try simp) <;> omega))))))
  have hC := Lib.hid (hcs.below hbW.out hB)
  have hL := Lib.hid (hrE'.next hb1)
  have hne : w.heap.size < w1.heap.size := by omega
  have hbl : b < w1.heap.size := by omega
  have kb : w1.cell? ⟨w.heap.size, 0, none⟩ = some (.slice A' L.length c') := by rw [c1_0]; simp
  clear hrE hrE' hr hr' hcs c1_0 f1_0 hb1
  clear h1 h4
  by_cases hpc : q + 1 = c
  · have HN := Lib.hid (show ∀ j u, ((S.drop (q + 1)).map (Value.int .i64))[j]? = some u → w1.cell? ((⟨b, off, none⟩ : Addr).add j) = some u from fun j u h => by rw [List.drop_of_length_le (by omega)] at h; simp at h)
    have HPC := Lib.hid hpc
    clear hpc
    go_wp2
    generalize w1 = wq at *
    refine Ch.wp_region_chain [.fix (.slice (some ⟨b, off, none⟩) S.length c), .fix (.int .i64 q), .val (.slice (some ⟨b, off, none⟩) q c), .pred (GathN 3 wq.heap.size (S.take q)), .fix (.slice (some ⟨b, off, none⟩) S.length c), .fix (.int .i64 q), .val (.int .i64 (q + 1)), .val (.slice (some ⟨b, off, none⟩) 0 0), .chain wq.heap.size (GathN 3 wq.heap.size (noAt S q)), .val (.agg #[.slice A' L.length c']), .pred (OwnV 3 wq.heap.size (frA (noAt S q) L))] mixed (by kernel_rfl) ?_
    refine Ch.SeqG.fixStep (.inl ⟨rfl, fun _ => rfl⟩) ?_
    simp only [Act.put, List.setIfInBounds_toArray, List.set_cons_zero, List.set_cons_succ]
    refine Ch.SeqG.fixStep (.inl ⟨rfl, fun _ => rfl⟩) ?_
    simp only [Act.put, List.setIfInBounds_toArray, List.set_cons_zero, List.set_cons_succ]
    refine Ch.SeqG.valStep (fun wv hbv hpv => ?_) ?_
    · skip
      go_wp2_with fail
      exact Ch.post_val (Below.refl _ _)
    simp only [Act.put, List.setIfInBounds_toArray, List.set_cons_zero, List.set_cons_succ]
    refine Ch.SeqG.predStep GathN.next (fun wv hbv hpv => ?_) (fun v1 => ?_)
    · have hO := l1Own_any b off c (S.take q) wv (hC.out.below hbv hbl).front' (by rw [hlen.out]; omega)
      rw [hlen.out] at hO
      have HO := Lib.hid hO
      clear hO
      go_wp2_with fail
      refine HO.out.mono ?_; rintro e w1 ⟨v, rfl, hG1, hn1, hb1⟩
      have HG1 := Lib.hid (And.intro (own_mono hG1 hbv.size) hn1)
      clear hG1 hn1
      go_wp2_with fail
      exact Ch.post_pred (F := GathN 3 wq.heap.size (S.take q)) _ hb1 HG1.out
    simp only [Act.put, List.setIfInBounds_toArray, List.set_cons_zero, List.set_cons_succ]
    refine Ch.SeqG.fixStep (.inl ⟨rfl, fun _ => rfl⟩) ?_
    simp only [Act.put, List.setIfInBounds_toArray, List.set_cons_zero, List.set_cons_succ]
    refine Ch.SeqG.fixStep (.inl ⟨rfl, fun _ => rfl⟩) ?_
    simp only [Act.put, List.setIfInBounds_toArray, List.set_cons_zero, List.set_cons_succ]
    refine Ch.SeqG.valStep (fun wv hbv hpv => ?_) ?_
    · skip
      go_wp2_with fail
      exact Ch.post_val (Below.refl _ _)
    simp only [Act.put, List.setIfInBounds_toArray, List.set_cons_zero, List.set_cons_succ]
    refine Ch.SeqG.valStep (fun wv hbv hpv => ?_) ?_
    · have hpc := HPC.out
      go_wp2_with fail
      exact Ch.post_val (Below.refl _ _)
    simp only [Act.put, List.setIfInBounds_toArray, List.set_cons_zero, List.set_cons_succ]
    refine Ch.SeqG.chainStep GathN.next (Nat.le_refl _) (fun wv hbv hpv => ?_) (fun v2 => ?_)
    · obtain ⟨hG1, hn1⟩ := hpv _ (.head _) (by kernel_rfl)
      clear hpv
      have hl1 := hlen.out
      have hd1 := hdl.out
      refine wpList_append_own _ rfl _ _ 22 rfl wq.heap.size 3 i0 (.int .i64 0) 1 8 Tryd.underlying22 hi hz0 hz1 hz2 rfl (by decide) _ _ _ rfl hG1 ⟨b, off, none⟩ (S.length - (q + 1)) 0 ((S.drop (q + 1)).map (Value.int .i64)) (by have hpc := HPC.out; have e : S.length - (q + 1) = 0 := (by omega); rw [e]; rfl) (by rw [List.length_map, hd1, Nat.mul_one]) (fun j u h => by rw [old_cell hbv (by exact hbl)]; exact HN.out j u h) ints_one ?_ ?_ hbv.size ?_
      · rw [hl1]; unfold maxLen; omega
      · rw [hl1]; omega
      · intro v' w' hown hgrow hnil
        refine ⟨rfl, v', rfl, below_grown' (Below.refl _ _ |>.mono hbv.size) hgrow hG1 (Nat.le_refl _) hbv.size, ?_, fun e => hn1 (hnil.1 e).1⟩
        unfold Gath noAt; rw [flat1, List.map_append, List.length_append, hd1]; rw [flat1] at hown; exact hown
    simp only [Act.put, List.setIfInBounds_toArray, List.set_cons_zero, List.set_cons_succ]
    refine Ch.SeqG.valStep (fun wv hbv hpv => ?_) ?_
    · have e1 := ((bblk hbv (g := w.heap.size) hne).1 0).trans kb
      go_wp2_with fail
      exact Ch.post_val (Below.refl _ _)
    simp only [Act.put, List.setIfInBounds_toArray, List.set_cons_zero, List.set_cons_succ]
    refine Ch.SeqG.predStep OwnV.next (fun wv hbv hpv => ?_) (fun v9 => ?_)
    · obtain ⟨hG1, hn1⟩ := hpv _ (.head _) (by kernel_rfl)
      clear hpv
      obtain ⟨B0, d0, rfl, o0⟩ := Gath.own (f := f1) (m := 1) (fun _ => rfl) hG1
      have s0 := o0.sl
      clear hG1 hn1 o0
      have hF := Lib.hid (l14Parts_any _ _ d0 c' _ _ _ s0 (by rw [hnl.out]; omega) (hL.out.next hbv) hm')
      clear s0
      go_wp2_with fail
      refine hF.out.mono ?_; rintro e w1 ⟨B1, d1, rfl, q1, hb1⟩
      have HQ := Lib.hid (q1.mono (show wq.heap.size ≤ wv.heap.size from hbv.size))
      clear q1 hF
      go_wp2_with fail
      exact Ch.post_pred (F := OwnV 3 wq.heap.size (frA (noAt S q) L)) _ hb1 ⟨_, _, rfl, HQ.out⟩
    simp only [Act.put, List.setIfInBounds_toArray, List.set_cons_zero, List.set_cons_succ]
    refine Ch.SeqG.done fun wv hbv hpv => ?_
    obtain ⟨A9, c9, rfl, o9⟩ := hpv _ (.head _)
    clear hpv
    have zv := hbv.size
    have HO9 := Lib.hid (show OwnR f1 1 3 wv w.heap.size A9 (wsR S L q) by rw [Hl.out]; exact o9.mono (by omega))
    have HB9 := Lib.hid (hbW.out.trans (hbv.mono (by omega)))
    clear o9 hbv
    go_wp2_with fail
    refine Ch.NoPan.normal ?_
    go_wp2
    go_ret2
    exact ⟨A9, c9, by rw [Hb.out, Hl.out]; rfl, HO9.out, HB9.out⟩
  · have HN := Lib.hid (show ∀ j u, ((S.drop (q + 1)).map (Value.int .i64))[j]? = some u → w1.cell? ((⟨b, off + (q + 1), none⟩ : Addr).add j) = some u from drop_news hC.out)
    have hpi : (q : Int) + 1 < (c : Int) := by omega
    have hpn : q + 1 < c := by omega
    clear hpc
    go_wp2
    generalize w1 = wq at *
    refine Ch.wp_region_chain [.fix (.slice (some ⟨b, off, none⟩) S.length c), .fix (.int .i64 q), .val (.slice (some ⟨b, off, none⟩) q c), .pred (GathN 3 wq.heap.size (S.take q)), .fix (.slice (some ⟨b, off, none⟩) S.length c), .fix (.int .i64 q), .val (.int .i64 (q + 1)), .val (.slice (some ⟨b, off + (q + 1), none⟩) (S.length - (q + 1)) (c - (q + 1))), .chain wq.heap.size (GathN 3 wq.heap.size (noAt S q)), .val (.agg #[.slice A' L.length c']), .pred (OwnV 3 wq.heap.size (frA (noAt S q) L))] mixed (by kernel_rfl) ?_
    refine Ch.SeqG.fixStep (.inl ⟨rfl, fun _ => rfl⟩) ?_
    simp only [Act.put, List.setIfInBounds_toArray, List.set_cons_zero, List.set_cons_succ]
    refine Ch.SeqG.fixStep (.inl ⟨rfl, fun _ => rfl⟩) ?_
    simp only [Act.put, List.setIfInBounds_toArray, List.set_cons_zero, List.set_cons_succ]
    refine Ch.SeqG.valStep (fun wv hbv hpv => ?_) ?_
    · skip
      go_wp2_with fail
      exact Ch.post_val (Below.refl _ _)
    simp only [Act.put, List.setIfInBounds_toArray, List.set_cons_zero, List.set_cons_succ]
    refine Ch.SeqG.predStep GathN.next (fun wv hbv hpv => ?_) (fun v1 => ?_)
    · have hO := l1Own_any b off c (S.take q) wv (hC.out.below hbv hbl).front' (by rw [hlen.out]; omega)
      rw [hlen.out] at hO
      have HO := Lib.hid hO
      clear hO
      go_wp2_with fail
      refine HO.out.mono ?_; rintro e w1 ⟨v, rfl, hG1, hn1, hb1⟩
      have HG1 := Lib.hid (And.intro (own_mono hG1 hbv.size) hn1)
      clear hG1 hn1
      go_wp2_with fail
      exact Ch.post_pred (F := GathN 3 wq.heap.size (S.take q)) _ hb1 HG1.out
    simp only [Act.put, List.setIfInBounds_toArray, List.set_cons_zero, List.set_cons_succ]
    refine Ch.SeqG.fixStep (.inl ⟨rfl, fun _ => rfl⟩) ?_
    simp only [Act.put, List.setIfInBounds_toArray, List.set_cons_zero, List.set_cons_succ]
    refine Ch.SeqG.fixStep (.inl ⟨rfl, fun _ => rfl⟩) ?_
    simp only [Act.put, List.setIfInBounds_toArray, List.set_cons_zero, List.set_cons_succ]
    refine Ch.SeqG.valStep (fun wv hbv hpv => ?_) ?_
    · skip
      go_wp2_with fail
      exact Ch.post_val (Below.refl _ _)
    simp only [Act.put, List.setIfInBounds_toArray, List.set_cons_zero, List.set_cons_succ]
    refine Ch.SeqG.valStep (fun wv hbv hpv => ?_) ?_
    · skip
      go_wp2_with fail
      exact Ch.post_val (Below.refl _ _)
    simp only [Act.put, List.setIfInBounds_toArray, List.set_cons_zero, List.set_cons_succ]
    refine Ch.SeqG.chainStep GathN.next (Nat.le_refl _) (fun wv hbv hpv => ?_) (fun v2 => ?_)
    · obtain ⟨hG1, hn1⟩ := hpv _ (.head _) (by kernel_rfl)
      clear hpv
      have hl1 := hlen.out
      have hd1 := hdl.out
      refine wpList_append_own _ rfl _ _ 22 rfl wq.heap.size 3 i0 (.int .i64 0) 1 8 Tryd.underlying22 hi hz0 hz1 hz2 rfl (by decide) _ _ _ rfl hG1 ⟨b, off + (q + 1), none⟩ (S.length - (q + 1)) (c - (q + 1)) ((S.drop (q + 1)).map (Value.int .i64)) rfl (by rw [List.length_map, hd1, Nat.mul_one]) (fun j u h => by rw [old_cell hbv (by exact hbl)]; exact HN.out j u h) ints_one ?_ ?_ hbv.size ?_
      · rw [hl1]; unfold maxLen; omega
      · rw [hl1]; omega
      · intro v' w' hown hgrow hnil
        refine ⟨rfl, v', rfl, below_grown' (Below.refl _ _ |>.mono hbv.size) hgrow hG1 (Nat.le_refl _) hbv.size, ?_, fun e => hn1 (hnil.1 e).1⟩
        unfold Gath noAt; rw [flat1, List.map_append, List.length_append, hd1]; rw [flat1] at hown; exact hown
    simp only [Act.put, List.setIfInBounds_toArray, List.set_cons_zero, List.set_cons_succ]
    refine Ch.SeqG.valStep (fun wv hbv hpv => ?_) ?_
    · have e1 := ((bblk hbv (g := w.heap.size) hne).1 0).trans kb
      go_wp2_with fail
      exact Ch.post_val (Below.refl _ _)
    simp only [Act.put, List.setIfInBounds_toArray, List.set_cons_zero, List.set_cons_succ]
    refine Ch.SeqG.predStep OwnV.next (fun wv hbv hpv => ?_) (fun v9 => ?_)
    · obtain ⟨hG1, hn1⟩ := hpv _ (.head _) (by kernel_rfl)
      clear hpv
      obtain ⟨B0, d0, rfl, o0⟩ := Gath.own (f := f1) (m := 1) (fun _ => rfl) hG1
      have s0 := o0.sl
      clear hG1 hn1 o0
      have hF := Lib.hid (l14Parts_any _ _ d0 c' _ _ _ s0 (by rw [hnl.out]; omega) (hL.out.next hbv) hm')
      clear s0
      go_wp2_with fail
      refine hF.out.mono ?_; rintro e w1 ⟨B1, d1, rfl, q1, hb1⟩
      have HQ := Lib.hid (q1.mono (show wq.heap.size ≤ wv.heap.size from hbv.size))
      clear q1 hF
      go_wp2_with fail
      exact Ch.post_pred (F := OwnV 3 wq.heap.size (frA (noAt S q) L)) _ hb1 ⟨_, _, rfl, HQ.out⟩
    simp only [Act.put, List.setIfInBounds_toArray, List.set_cons_zero, List.set_cons_succ]
    refine Ch.SeqG.done fun wv hbv hpv => ?_
    obtain ⟨A9, c9, rfl, o9⟩ := hpv _ (.head _)
    clear hpv
    have zv := hbv.size
    have HO9 := Lib.hid (show OwnR f1 1 3 wv w.heap.size A9 (wsR S L q) by rw [Hl.out]; exact o9.mono (by omega))
    have HB9 := Lib.hid (hbW.out.trans (hbv.mono (by omega)))
    clear o9 hbv
    go_wp2_with fail
    refine Ch.NoPan.normal ?_
    go_wp2
    go_ret2
    exact ⟨A9, c9, by rw [Hb.out, Hl.out]; rfl, HO9.out, HB9.out⟩
end Go.Proofs.YtapfnelghmnajaaDoor
