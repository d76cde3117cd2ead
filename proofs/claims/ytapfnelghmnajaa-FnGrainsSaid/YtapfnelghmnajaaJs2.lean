/-
  JoinSamples: the reference.
-/
import Derived.Test.YtapfnelghmnajaaJs1
import Derived.Test.YtapfnelghmnajaaWs2
import Derived.Test.YtapfnelghmnajaaChh
import Derived.WalkKit
import Derived.WalkSpells
import Derived.WalkLawsBesides
import Derived.Lib.Hide
import Derived.Deep.QuietTactic
import Derived.BigQuiet
import Derived.StillTailTactics
namespace Go.Proofs.Ytapfnelghmnajaa
open Go.RowKit

/-- What no turn touches: an empty box of a sample. -/
instance jsRel : Chh.Rel := ⟨fun w w' => ∀ p, Blk w p 30 #[.slice none 0 0] → Blk w' p 30 #[.slice none 0 0]⟩
def NilBox (B : Nat) (v : Value) (w : World) : Prop := ∃ p, v = .pointer (some ⟨p, 0, none⟩) ∧ B ≤ p ∧ Blk w p 30 #[.slice none 0 0]
theorem NilBox.next {B : Nat} : ∀ (v : Value) (w w' : World), Below w.heap.size w w' → NilBox B v w → NilBox B v w' := fun _ _ _ hb ⟨p, h1, h2, h3⟩ => ⟨p, h1, h2, h3.below' hb⟩
theorem NilBox.keep {B : Nat} : ∀ (v : Value) (w w' : World), Chh.Rel.r w w' → NilBox B v w → NilBox B v w' := fun _ _ _ hr ⟨p, h1, h2, h3⟩ => ⟨p, h1, h2, hr p h3⟩
def TuG (R : List Int) (r : Bool) (v : Value) : Prop := ∃ A c, v = .tuple #[.agg #[.slice A R.length c], .bool r]
/-- A sample of the call's own. -/
def SmO (B : Nat) (S : List Int) (v : Value) (w : World) : Prop := ∃ A c, v = .agg #[.slice A S.length c] ∧ OwnR f1 1 3 w B A S
theorem SmO.next {B : Nat} {S : List Int} : ∀ (v : Value) (w w' : World), Below w.heap.size w w' → SmO B S v w → SmO B S v w' := fun _ _ _ hb ⟨A, c, h1, h2⟩ => ⟨A, c, h1, h2.next hb⟩

set_option maxRecDepth 20000 in
set_option maxHeartbeats 8000000 in
theorem SJoinSamples_any (A : Option Addr) (c : Nat) (L : List Int) (A' : Option Addr) (c' : Nat) (L' : List Int) (w : World) (hr : SlR f1 1 w w.heap.size A L) (hm : (L.length : Int) ≤ 1048576) (hr' : SlR f1 1 w w.heap.size A' L') (hm' : (L'.length : Int) ≤ 1048576) :
    Calls Try.prog 45 #[.agg #[.slice A L.length c], .agg #[.slice A' L'.length c']] w (NewSm2 3 w (jsR L L') (jsU L L')) := by
  obtain ⟨i0, hi, hz0, hz1, hz2⟩ := info_parts infoInt
  obtain ⟨E, hE⟩ : ∃ E, ((w.alloc (.cells #[.slice A L.length c] 30 (0, 0))).alloc (.cells #[.slice A' L'.length c'] 30 (0, 0))).alloc (.cells #[.slice none 0 0] 30 (0, 0)) = E := ⟨_, rfl⟩
  have hrE : SlR f1 1 E E.heap.size A L := by rw [← hE]; exact ((hr.alloc _).alloc _).alloc _
  have hrE' : SlR f1 1 E E.heap.size A' L' := by rw [← hE]; exact ((hr'.alloc _).alloc _).alloc _
  have HbE := Lib.hid (show Below w.heap.size w E by rw [← hE]; (repeat (first | exact Below.refl _ _ | refine Below.drew ?_ | refine below_drewN ?_ _ | (refine Below.alloc ?_ (by (try simp) <;> omega) _) | (refine Below.setCell ?_ (by (try simp) <;> omega) _) | (refine Below.trans ?_ (Below.mono (by assumption) (by (try simp) <;> omega))))))
  have zE : E.heap.size = w.heap.size + 3 := by rw [← hE]; simp
  have kC : Hid (Blk E (w.heap.size + 1 + 1) 30 #[.slice none 0 0]) := Lib.hid (by rw [← hE]; have := Blk.new ((w.alloc (.cells #[.slice A L.length c] 30 (0, 0))).alloc (.cells #[.slice A' L'.length c'] 30 (0, 0))) 30 #[.slice none 0 0]; simpa using this)
  have kS : E.cell? ⟨w.heap.size, 0, none⟩ = some (.slice A L.length c) := ((bblk (show Below (w.alloc (.cells #[.slice A L.length c] 30 (0, 0))).heap.size (w.alloc (.cells #[.slice A L.length c] 30 (0, 0))) E by rw [← hE]; exact ((Below.refl _ _).alloc (Nat.le_refl _) _).alloc (by simp) _) (g := w.heap.size) (by simp)).1 0).trans (by simp)
  have kT : E.cell? ⟨w.heap.size + 1, 0, none⟩ = some (.slice A' L'.length c') := ((bblk (show Below ((w.alloc (.cells #[.slice A L.length c] 30 (0, 0))).alloc (.cells #[.slice A' L'.length c'] 30 (0, 0))).heap.size ((w.alloc (.cells #[.slice A L.length c] 30 (0, 0))).alloc (.cells #[.slice A' L'.length c'] 30 (0, 0))) E by rw [← hE]; exact (Below.refl _ _).alloc (Nat.le_refl _) _) (g := w.heap.size + 1) (by simp)).1 0).trans (by simp)
  cases h1 : smpB L
  · skip
    have Hb := Lib.hid (show jsB L L' = false by simp [jsB, h1])
    have Hu := Lib.hid (show jsU L L' = false by simp [jsU, Hb.out])
    have Hl := Lib.hid (jsR_no Hb.out)
    go_enter Try.func45, Try.ntmps45
    go_wp2_with fail
    refine (l14Sample_any _ _ _ _ hrE hm).mono ?_; rintro e w1 ⟨rfl, hb1⟩
    have z1 := hb1.size
    rw [h1]
    have kD := kC.out.below' hb1
    have b0 := kD.cell 0
    simp at b0
    have fb := kD.frozen
    have l3 : w.heap.size + 1 + 1 < w1.heap.size := by omega
    clear kD kS kT hE
    go_wp2
    refine bodyPost_ret (v := .tuple #[.agg #[.slice none 0 0], .bool false]) (by simp [results, Try.results45, go_sem, *] <;> rfl) rfl ?_
    exact ⟨none, 0, by rw [Hu.out, Hl.out]; rfl, by rw [Hl.out]; exact OwnR.nil, (HbE.out.trans (hb1.mono (by omega))).setCell (p := ⟨w.heap.size + 1 + 1, 0, none⟩) (by show w.heap.size ≤ w.heap.size + 1 + 1; omega) _⟩
  cases h2 : smpB L'
  · skip
    have Hb := Lib.hid (show jsB L L' = false by simp [jsB, h2])
    have Hu := Lib.hid (show jsU L L' = false by simp [jsU, Hb.out])
    have Hl := Lib.hid (jsR_no Hb.out)
    go_enter Try.func45, Try.ntmps45
    go_wp2_with fail
    refine (l14Sample_any _ _ _ _ hrE hm).mono ?_; rintro e w1 ⟨rfl, hb1⟩
    have z1 := hb1.size
    rw [h1]
    have kT1 := ((bblk hb1 (g := w.heap.size + 1) (by omega)).1 0).trans kT
    clear kS kT hE
    go_wp2_with fail
    refine (l14Sample_any _ _ _ _ (hrE'.next hb1) hm').mono ?_; rintro e w2 ⟨rfl, hb2⟩
    have z2 := hb2.size
    rw [h2]
    have kD := (kC.out.below' hb1).below' hb2
    have b0 := kD.cell 0
    simp at b0
    have fb := kD.frozen
    have l3 : w.heap.size + 1 + 1 < w2.heap.size := by omega
    clear kD kT1
    go_wp2
    refine bodyPost_ret (v := .tuple #[.agg #[.slice none 0 0], .bool false]) (by simp [results, Try.results45, go_sem, *] <;> rfl) rfl ?_
    exact ⟨none, 0, by rw [Hu.out, Hl.out]; rfl, by rw [Hl.out]; exact OwnR.nil, ((HbE.out.trans (hb1.mono (by omega))).trans (hb2.mono (by omega))).setCell (p := ⟨w.heap.size + 1 + 1, 0, none⟩) (by show w.heap.size ≤ w.heap.size + 1 + 1; omega) _⟩
  have Hb := Lib.hid (show jsB L L' = true by simp [jsB, h1, h2])
  have Hu := Lib.hid (show jsU L L' = smpB (sortL (L ++ L')) by simp [jsU, Hb.out])
  have Hl := Lib.hid (jsR_yes Hb.out)
  have hl20 := smpB_len h1
  have hl20' := smpB_len h2
  obtain ⟨b, off, rfl, hB, hcs⟩ := hrE (fun e => by rw [e] at hl20; simp at hl20)
  obtain ⟨b', off', rfl, hB', hcs'⟩ := hrE' (fun e => by rw [e] at hl20'; simp at hl20')
  have hJ := Lib.hid (show ((L ++ L').length : Int) ≤ 1048576 by rw [List.length_append]; omega)
  go_enter Try.func45, Try.ntmps45
  go_wp2_with fail
  refine (l14Sample_any _ _ _ _ hrE hm).mono ?_; rintro e w1 ⟨rfl, hb1⟩
  have z1 := hb1.size
  rw [h1]
  have kT1 := ((bblk hb1 (g := w.heap.size + 1) (by omega)).1 0).trans kT
  have kS1 := ((bblk hb1 (g := w.heap.size) (by omega)).1 0).trans kS
  clear kS kT hE
  go_wp2_with fail
  refine (l14Sample_any _ _ _ _ (hrE'.next hb1) hm').mono ?_; rintro e w2 ⟨rfl, hb2⟩
  have z2 := hb2.size
  rw [h2]
  have kT2 := ((bblk hb2 (g := w.heap.size + 1) (by omega)).1 0).trans kT1
  have kS2 := ((bblk hb2 (g := w.heap.size) (by omega)).1 0).trans kS1
  have l1 : w.heap.size < w2.heap.size := by omega
  have l2 : w.heap.size + 1 < w2.heap.size := by omega
  have hbE2 := hb1.trans (hb2.mono z1)
  have hC := Lib.hid (hcs.below hbE2 hB)
  have hC' := Lib.hid (hcs'.below hbE2 hB')
  have hbl : b < w2.heap.size := by omega
  have hbl' : b' < w2.heap.size := by omega
  have kC2 := Lib.hid ((kC.out.below' hb1).below' hb2)
  have HB2 := Lib.hid (HbE.out.trans (hbE2.mono (by omega)))
  obtain ⟨G, hG⟩ : ∃ G, L ++ L' = G := ⟨_, rfl⟩
  rw [hG] at hJ Hu Hl
  have HG := Lib.hid hG
  obtain ⟨S, hS⟩ : ∃ S, sortL G = S := ⟨_, rfl⟩
  rw [hS] at Hu
  have HS := Lib.hid hS
  have Hok := Lib.hid (show okL G = if smpB S then S else [] by rw [← HS.out]; rfl)
  have hmS := Lib.hid (show (S.length : Int) ≤ 1048576 by rw [← HS.out, sortL_len]; exact hJ.out)
  have LB := Lib.hid (show w.heap.size + 1 + 1 < w2.heap.size by omega)
  clear hG hS kT1 kS1 kC HbE hrE hrE' hcs hcs' hb1 hb2 hbE2 h1 h2 hr hr'
  go_wp2
  generalize w2 = wq at *
  refine Chh.wp_region_chain [.val (.pointer (some ⟨w.heap.size, 0, none⟩)), .val (.slice (some ⟨b, off, none⟩) L.length c), .pred (GathN 3 wq.heap.size L), .val (.pointer (some ⟨w.heap.size + 1, 0, none⟩)), .val (.slice (some ⟨b', off', none⟩) L'.length c'), .chain wq.heap.size (GathN 3 wq.heap.size G), .pred (SmO wq.heap.size S), .hold (NilBox wq.heap.size)] mixed (by kernel_rfl) ⟨trivial, trivial, trivial, trivial, trivial, trivial, trivial, trivial, trivial⟩ ?_
  refine Chh.SeqG.valStep (fun wv hbv hpv => ?_) ?_
  · skip
    go_wp2_with fail
    exact Chh.post_val (Below.refl _ _)
  simp only [Act.put, List.setIfInBounds_toArray, List.set_cons_zero, List.set_cons_succ]
  refine Chh.SeqG.valStep (fun wv hbv hpv => ?_) ?_
  · have e1 := ((bblk hbv (g := w.heap.size) l1).1 0).trans kS2
    go_wp2_with fail
    exact Chh.post_val (Below.refl _ _)
  simp only [Act.put, List.setIfInBounds_toArray, List.set_cons_zero, List.set_cons_succ]
  refine Chh.SeqG.predStep GathN.next (fun wv hbv hpv => ?_) (fun v1 => ?_)
  · have HO := Lib.hid (l1Own_any b off c L wv (hC.out.below hbv hbl) hm)
    go_wp2_with fail
    refine HO.out.mono ?_; rintro e w1 ⟨v, rfl, hG1, hn1, hb1⟩
    have HG1 := Lib.hid (And.intro (own_mono hG1 hbv.size) hn1)
    clear hG1 hn1
    go_wp2_with fail
    exact Chh.post_pred (F := GathN 3 wq.heap.size L) _ hb1 HG1.out
  simp only [Act.put, List.setIfInBounds_toArray, List.set_cons_zero, List.set_cons_succ]
  refine Chh.SeqG.valStep (fun wv hbv hpv => ?_) ?_
  · skip
    go_wp2_with fail
    exact Chh.post_val (Below.refl _ _)
  simp only [Act.put, List.setIfInBounds_toArray, List.set_cons_zero, List.set_cons_succ]
  refine Chh.SeqG.valStep (fun wv hbv hpv => ?_) ?_
  · have e1 := ((bblk hbv (g := w.heap.size + 1) l2).1 0).trans kT2
    go_wp2_with fail
    exact Chh.post_val (Below.refl _ _)
  simp only [Act.put, List.setIfInBounds_toArray, List.set_cons_zero, List.set_cons_succ]
  refine Chh.SeqG.chainStep GathN.next (Nat.le_refl _) (fun wv hbv hpv => ?_) (fun v2 => ?_)
  · obtain ⟨hG1, hn1⟩ := hpv _ (.head _) (by kernel_rfl)
    clear hpv
    have hF := hG1.form hn1
    have HN := Lib.hid (fun j u h => by have := drop_news (p := 0) (hC'.out.below hbv hbl') j u (by simpa using h); simpa using this : ∀ j u, (L'.map (Value.int .i64))[j]? = some u → wv.cell? ((⟨b', off', none⟩ : Addr).add j) = some u)
    refine wpList_append_own _ rfl _ _ 22 rfl wq.heap.size 3 i0 (.int .i64 0) 1 8 Try.underlying22 hi hz0 hz1 hz2 rfl (by decide) _ _ _ rfl hG1 ⟨b', off', none⟩ L'.length c' (L'.map (Value.int .i64)) rfl (by simp) HN.out ints_one ?_ ?_ hbv.size ?_
    · unfold maxLen; omega
    · omega
    · intro v' w' hown hgrow hnil
      refine ⟨rfl, v', rfl, ⟨below_grown' (Below.refl _ _ |>.mono hbv.size) hgrow hG1 (Nat.le_refl _) hbv.size, fun p hp => (hgrow.block p hp.lt ?_).trans hp⟩, by rw [← HG.out]; exact Gath.app hown, fun e => hn1 (hnil.1 e).1⟩
      obtain ⟨g, cg, e, _, _, _, ⟨cur, hR, _⟩, _⟩ := hF
      intro he
      have he2 : p = g := by have h9 := he.trans (congrArg Value.ownBlock e); simpa [Value.ownBlock] using h9
      subst he2
      have h9 := hp.symm.trans hR
      simp at h9
  simp only [Act.put, List.setIfInBounds_toArray, List.set_cons_zero, List.set_cons_succ]
  refine Chh.SeqG.predStep SmO.next (fun wv hbv hpv => ?_) (fun v3 => ?_)
  · obtain ⟨hG1, hn1⟩ := hpv _ (.head _) (by kernel_rfl)
    clear hpv
    obtain ⟨B0, d0, rfl, o0⟩ := Gath.own (f := f1) (m := 1) (fun _ => rfl) hG1
    have s0 := o0.sl
    clear hG1 hn1 o0
    have hF0 := l14Sorted_any B0 d0 G wv s0 hJ.out
    rw [HS.out] at hF0
    have hF := Lib.hid hF0
    clear s0 hF0
    go_wp2_with fail
    refine hF.out.mono ?_; rintro e w1 ⟨B1, d1, rfl, q1, hb1⟩
    have HQ := Lib.hid (q1.mono (show wq.heap.size ≤ wv.heap.size from hbv.size))
    clear q1 hF
    go_wp2_with fail
    exact Chh.post_pred (F := SmO wq.heap.size S) _ hb1 ⟨_, _, rfl, HQ.out⟩
  simp only [Act.put, List.setIfInBounds_toArray, List.set_cons_zero, List.set_cons_succ]
  refine Chh.SeqG.holdStep NilBox.next NilBox.keep (fun wv hbv hpv => ?_) (fun v4 => ?_)
  · clear hpv
    have kN := Lib.hid (Blk.new wv 30 #[.slice none 0 0])
    have hbN : Below wv.heap.size wv (wv.alloc (.cells #[.slice none 0 0] 30 (0, 0))) := by (repeat (first | exact Below.refl _ _ | refine Below.drew ?_ | refine below_drewN ?_ _ | (refine Below.alloc ?_ (by (try simp) <;> omega) _) | (refine Below.setCell ?_ (by (try simp) <;> omega) _) | (refine Below.trans ?_ (Below.mono (by assumption) (by (try simp) <;> omega)))))
    go_wp2_with fail
    exact Chh.post_hold (F := NilBox wq.heap.size) _ hbN ⟨_, rfl, hbv.size, kN.out⟩
  simp only [Act.put, List.setIfInBounds_toArray, List.set_cons_zero, List.set_cons_succ]
  refine Chh.SeqG.done fun wv hbv hpv => ?_
  obtain ⟨p, rfl, hpB, kp⟩ := hpv _ (.head _)
  obtain ⟨A1, c1, rfl, o1⟩ := hpv _ (.tail _ (.head _))
  clear hpv
  have zv := hbv.size
  have c0 := kp.cell 0
  simp at c0
  have fp := kp.frozen
  have lp := kp.lt
  have o2 : OwnR f1 1 3 (wv.setCell ⟨p, 0, none⟩ (.slice A1 S.length c1)) wq.heap.size A1 S := fun hn => by
    obtain ⟨g, hgA, hgB, hR, hC⟩ := o1 hn
    have hne : g ≠ p := fun e => by
      subst e
      obtain ⟨cur, hR, _⟩ := hR
      have h9 := kp.symm.trans hR
      simp at h9
    exact ⟨g, hgA, hgB, hR.set _ _, hC.far hne⟩
  have kq : Blk (wv.setCell ⟨p, 0, none⟩ (.slice A1 S.length c1)) p 30 #[.slice A1 S.length c1] := by have := kp.set_ 0 (.slice A1 S.length c1); simpa using this
  have hL2 := LB.out
  have kC3 := (kC2.out.below hbv hL2).far (p := ⟨p, 0, none⟩) (by show w.heap.size + 1 + 1 ≠ p; omega) (.slice A1 S.length c1)
  have HB3 := Lib.hid (HB2.out.trans ((hbv.setCell (p := ⟨p, 0, none⟩) hpB (.slice A1 S.length c1)).mono (show w.heap.size ≤ wq.heap.size by omega)))
  have zS : (wv.setCell ⟨p, 0, none⟩ (.slice A1 S.length c1)).heap.size = wv.heap.size := by simp
  have O2 := Lib.hid o2
  have KQ := Lib.hid kq
  have K3 := Lib.hid kC3
  have s2 := Lib.hid (o2.sl)
  clear o1 o2 kp kq kC3 kC2 HB2 hC hC' kS2 kT2 hbv HG hJ hm hm' hl20 hl20'
  go_wp2_with fail
  refine Chh.NoPan.normal ?_
  clear c0 fp
  generalize wv.setCell ⟨p, 0, none⟩ (.slice A1 S.length c1) = wS at *
  have q0 := KQ.out.cell 0
  simp at q0
  have hT := Lib.hid (l14Sample_any A1 c1 S wS s2.out hmS.out)
  clear s2
  go_wp2_with fail
  refine hT.out.mono ?_; rintro e w7 ⟨rfl, hb7⟩
  clear hT
  have z7 := hb7.size
  have q7 := ((bblk hb7 (g := p) (by omega)).1 0).trans q0
  have kD := K3.out.below' hb7
  have b0 := kD.cell 0
  simp at b0
  have fb := kD.frozen
  have l3 : w.heap.size + 1 + 1 < w7.heap.size := by omega
  have l5 : p < w7.heap.size := by omega
  have HO7 := Lib.hid (O2.out.next hb7)
  have HB7 := Lib.hid (HB3.out.trans (hb7.mono (by omega)))
  clear kD hb7 q0 KQ K3 HB3 O2
  cases h : smpB S
  · rw [h] at Hok Hu
    go_wp2
    refine bodyPost_ret (v := .tuple #[.agg #[.slice none 0 0], .bool false]) (by simp [results, Try.results45, go_sem, *] <;> rfl) rfl ?_
    exact ⟨none, 0, by rw [Hu.out, Hl.out, Hok.out]; rfl, by rw [Hl.out, Hok.out]; exact OwnR.nil, HB7.out.setCell (p := ⟨w.heap.size + 1 + 1, 0, none⟩) (by show w.heap.size ≤ w.heap.size + 1 + 1; omega) _⟩
  · rw [h] at Hok Hu
    go_wp2
    refine bodyPost_ret (v := .tuple #[.agg #[.slice A1 S.length c1], .bool true]) (by simp [results, Try.results45, go_sem, *] <;> rfl) rfl ?_
    exact ⟨A1, c1, by rw [Hu.out, Hl.out, Hok.out]; rfl, by rw [Hl.out, Hok.out]; exact (HO7.out.farBelow (p := ⟨w.heap.size + 1 + 1, 0, none⟩) LB.out).mono (by omega), HB7.out.setCell (p := ⟨w.heap.size + 1 + 1, 0, none⟩) (by show w.heap.size ≤ w.heap.size + 1 + 1; omega) _⟩
end Go.Proofs.Ytapfnelghmnajaa
