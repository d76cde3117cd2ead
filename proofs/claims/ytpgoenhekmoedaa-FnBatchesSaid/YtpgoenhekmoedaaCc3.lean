/-
  CounterCurrent of both programs: their contracts.
-/
import Derived.Test.YtpgoenhekmoedaaCc2
import Derived.Deep.DeepCutAuto
namespace Go.Proofs.Ytpgoenhekmoedaa
open Go.RowKit

set_option maxHeartbeats 400000 in
theorem ccPred_any (x : T3) (w : World) :
    Calls Try.prog 61 (#[.agg #[.int .i64 x.1, .int .i64 x.2.1, .int .i64 x.2.2]] ++ #[]) w fun e w' => e = .returned (.bool (!isBatch x.1 x.2.1 x.2.2)) ∧ Below w.heap.size w w' := by
  go_enter Try.func61, Try.ntmps61
  go_wp2_with fail
  refine (IsBatch_any _ _ _ _).mono ?_; rintro e w1 ⟨rfl, hb1⟩
  have z1 := hb1.size
  try simp at z1
  go_wp2
  go_ret
  exact ⟨rfl, by (repeat (first | exact Below.refl _ _ | refine Below.drew ?_ | refine below_drewN ?_ _ | (refine Below.alloc ?_ (by (try simp) <;> omega) _) | (refine Below.setCell ?_ (by (try simp) <;> omega) _) | (refine Below.trans ?_ (Below.mono (by assumption) (by (try simp) <;> omega)))))⟩

/-- The cells of an older slice, behind a new empty block. -/
theorem src_cells {w : World} {b off : Nat} {L : List T3} (hr : Cells f3 3 w b off L) (hb : b < w.heap.size) : ∀ j u, (L.flatMap f3)[j]? = some u → (w.alloc (.cells #[] 25 (0, 0))).cell? ((⟨b, off, none⟩ : Addr).add j) = some u :=
  cells_flat (f := f3) (m := 3) (fun _ => rfl) (by omega) (hr.below (B := w.heap.size) (by (repeat (first | exact Below.refl _ _ | refine Below.drew ?_ | refine below_drewN ?_ _ | (refine Below.alloc ?_ (by (try simp) <;> omega) _) | (refine Below.setCell ?_ (by (try simp) <;> omega) _) | (refine Below.trans ?_ (Below.mono (by assumption) (by (try simp) <;> omega)))))) hb)

set_option maxHeartbeats 1000000 in
theorem cloneBatch_any (b off c : Nat) (L : List T3) (w : World) (hr : Cells f3 3 w b off L) (hb : b < w.heap.size) (hm : (L.length : Int) ≤ 1048576) :
    Calls Try.prog 62 #[.slice (some ⟨b, off, none⟩) L.length c] w fun e w' => ∃ A c', e = .returned (.slice A L.length c') ∧ OwnR f3 3 25 w' w.heap.size A L ∧ Below w.heap.size w w' := by
  obtain ⟨i0, hi, hz0, hz1, hz2⟩ := info_parts infoB
  have hE := Gath.made (f := f3) (m := 3) (t := 25) (B := w.heap.size) (w := w) (Nat.le_refl _)
  have HE := Lib.hid hE; clear hE
  have hb0 : Below w.heap.size w (w.alloc (.cells #[] 25 (0, 0))) := by (repeat (first | exact Below.refl _ _ | refine Below.drew ?_ | refine below_drewN ?_ _ | (refine Below.alloc ?_ (by (try simp) <;> omega) _) | (refine Below.setCell ?_ (by (try simp) <;> omega) _) | (refine Below.trans ?_ (Below.mono (by assumption) (by (try simp) <;> omega)))))
  have HC := Lib.hid (src_cells hr hb)
  have HI := Lib.hid hi; have HZ0 := Lib.hid hz0; have HZ1 := Lib.hid hz1; have HZ2 := Lib.hid hz2
  clear hi hz0 hz1 hz2 hr
  have hnn := @Lib.run_eql_slice_nil
  go_enter Try.func62, Try.ntmps62
  go_wp2_with (at_builtin; refine wpList_append_own _ rfl _ _ 45 rfl w.heap.size 25 i0 (.agg #[.int .i64 0, .int .i64 0, .int .i64 0]) 3 24 Try.underlying45 HI.out HZ0.out HZ1.out HZ2.out rfl (by decide) _ _ _ rfl HE.out ⟨b, off, none⟩ L.length c (L.flatMap f3) rfl (flat_len (f := f3) (m := 3) (fun _ => rfl) L) HC.out (flat_one f3_one) ?c3 ?c4 ?c5 ?c6)
  case c3 => unfold maxLen; first | omega | (simp; omega)
  case c4 => first | omega | (simp; omega)
  case c5 => first | omega | (simp)
  case c6 =>
    intro v' w9 hown hgrow _
    have hG9 : Gath f3 3 25 w9 w.heap.size v' L := by
      unfold Gath; simpa using hown
    have hb9 : Below w.heap.size w w9 := below_grown' hb0 hgrow HE.out (Nat.le_refl _) (by simp)
    obtain ⟨A', c', rfl, ho⟩ := Gath.own (f := f3) (m := 3) (fun _ => rfl) hG9
    clear hown hgrow hG9
    go_wp2
    go_ret
    exact ⟨A', c', rfl, ho, hb9⟩
theorem any_bad {L : List T3} (h : (L.any fun x => !isBatch x.1 x.2.1 x.2.2) = true) {water : Int} : ccT L water = none := by
  rw [List.any_eq_true] at h
  obtain ⟨x, hx, hb⟩ := h
  obtain ⟨k, hk, rfl⟩ := List.getElem_of_mem hx
  unfold ccT
  split
  · exact ccS_bad (List.getElem?_eq_getElem hk) (by simpa using hb)
  · rfl
theorem all_good {L : List T3} (h : (L.any fun x => !isBatch x.1 x.2.1 x.2.2) = false) {k : Nat} {x : T3} (hx : L[k]? = some x) : isBatch x.1 x.2.1 x.2.2 = true := by
  rw [List.any_eq_false] at h
  have := h x (List.mem_of_getElem? hx)
  simpa using this
theorem cc_get {L o : List T3} {m : Nat} {x : T3} (hx : L[m]? = some x) : (L.take (m + 1) ++ o)[m]? = some x := by
  have hk := (List.getElem?_eq_some_iff.1 hx).1
  rw [List.getElem?_append_left (by rw [List.length_take]; omega), List.getElem?_take, if_pos (by omega), hx]
theorem cc_len {L o : List T3} {m : Nat} (h : o.length + (m + 1) = L.length) : (L.take (m + 1) ++ o).length = L.length := by
  rw [List.length_append, List.length_take]; omega
/-- The row of the call's own as the loop has it. -/
def CcR (wr : World) (g : Nat) (L : List T3) (k : Nat) (o : List T3) : Prop := Row wr g 25 (L.length * 3) ∧ Cells f3 3 wr g 0 (L.take k ++ o) ∧ o.length + k = L.length
theorem CcR.below {w w' : World} {g k : Nat} {L o : List T3} (h : CcR w g L k o) (hb : Below w.heap.size w w') : CcR w' g L k o := ⟨h.1.below' hb, h.2.1.below hb h.1.lt, h.2.2⟩
theorem CcR.cells {w : World} {g m : Nat} {L o : List T3} {x : T3} (h : CcR w g L (m + 1) o) (hx : L[m]? = some x) :
    w.cell? ⟨g, m * 3, none⟩ = some (.int .i64 x.1) ∧ w.cell? ⟨g, m * 3 + 1, none⟩ = some (.int .i64 x.2.1) ∧ w.cell? ⟨g, m * 3 + 2, none⟩ = some (.int .i64 x.2.2) := by
  have := cells3 h.2.1 (cc_get (o := o) hx)
  simpa only [Nat.zero_add] using this
theorem CcR.store {w : World} {g m : Nat} {L o : List T3} {x y : T3} (h : CcR w g L (m + 1) o) (hx : L[m]? = some x) :
    CcR (((w.setCell ⟨g, m * 3, none⟩ (.int .i64 y.1)).setCell ⟨g, m * 3 + 1, none⟩ (.int .i64 y.2.1)).setCell ⟨g, m * 3 + 2, none⟩ (.int .i64 y.2.2)) g L m (y :: o) := by
  have hk := (List.getElem?_eq_some_iff.1 hx).1
  have hl := cc_len h.2.2
  have h1 := cells_upd (y := y) h.1 h.2.1 (fun _ => rfl) (show m < (L.take (m + 1) ++ o).length by omega) (by rw [hl]; omega)
  rw [cc_set hk] at h1
  exact ⟨((h.1.set _ _).set _ _).set _ _, h1, by rw [List.length_cons]; have := h.2.2; omega⟩
theorem CcR.done {w : World} {g B : Nat} {L o : List T3} (h : CcR w g L 0 o) (hB : B ≤ g) : OwnR f3 3 25 w B (some ⟨g, 0, none⟩) o := fun _ =>
  ⟨g, rfl, hB, by have := h.2.2; rw [show o.length = L.length by omega]; exact h.1, by simpa using h.2.1⟩

set_option maxHeartbeats 4000000 in
theorem CounterCurrent_any (A : Option Addr) (c : Nat) (L : List T3) (water : Int) (w : World) (hr : SlR f3 3 w w.heap.size A L) (hm : (L.length : Int) ≤ 1048576) :
    Calls Try.prog 35 #[.slice A L.length c, .int .i64 water] w (NewSl3 f3 3 25 w (ccR L water) (ccD L water) (ccB L water)) := by
  have eg : ∀ args w, (callFunc 61 args).run Try.prog w = .ok (.enter 61 args) w := Go.Proofs.enters_of Try.func61 (by kernel_rfl) rfl
  have hm0 : (0 : Int) ≤ L.length := by omega
  cases h1 : inB (L.length : Int) 1 10
  · have Hv := Lib.hid (cc_no (show ccT L water = none by simp [ccT, h1]))
    go_enter Try.func35, Try.ntmps35
    go_wp2_with (go_at_call 50; refine (within_any _ _ _ _).mono ?_; rintro e w' ⟨rfl, rfl⟩)
    go_ret3
    exact ⟨none, 0, by rw [Hv.out.1, Hv.out.2.1, Hv.out.2.2]; rfl, by rw [Hv.out.1]; exact OwnR.nil, by (repeat (first | exact Below.refl _ _ | refine Below.drew ?_ | refine below_drewN ?_ _ | (refine Below.alloc ?_ (by (try simp) <;> omega) _) | (refine Below.setCell ?_ (by (try simp) <;> omega) _) | (refine Below.trans ?_ (Below.mono (by assumption) (by (try simp) <;> omega)))))⟩
  cases h2 : L.any fun x => !isBatch x.1 x.2.1 x.2.2
  case true =>
    have Hv := Lib.hid (cc_no (any_bad (water := water) h2))
    go_enter Try.func35, Try.ntmps35
    go_wp2_with (go_at_call 50; refine (within_any _ _ _ _).mono ?_; rintro e w' ⟨rfl, rfl⟩)
    refine (contBatch_any 61 #[] eg (fun x => !isBatch x.1 x.2.1 x.2.2) A c L w hr hm (fun W x _ => ccPred_any x W)).mono ?_; rintro e w1 ⟨rfl, hb1⟩
    rw [h2]
    go_wp2
    go_ret3
    exact ⟨none, 0, by rw [Hv.out.1, Hv.out.2.1, Hv.out.2.2]; rfl, by rw [Hv.out.1]; exact OwnR.nil, by (repeat (first | exact Below.refl _ _ | refine Below.drew ?_ | refine below_drewN ?_ _ | (refine Below.alloc ?_ (by (try simp) <;> omega) _) | (refine Below.setCell ?_ (by (try simp) <;> omega) _) | (refine Below.trans ?_ (Below.mono (by assumption) (by (try simp) <;> omega)))))⟩
  cases h3 : inB water 1 100000000
  · have Hv := Lib.hid (cc_no (show ccT L water = none by simp [ccT, h3]))
    go_enter Try.func35, Try.ntmps35
    go_wp2_with (go_at_call 50; refine (within_any _ _ _ _).mono ?_; rintro e w' ⟨rfl, rfl⟩)
    refine (contBatch_any 61 #[] eg (fun x => !isBatch x.1 x.2.1 x.2.2) A c L w hr hm (fun W x _ => ccPred_any x W)).mono ?_; rintro e w1 ⟨rfl, hb1⟩
    rw [h2]
    go_wp2_with (go_at_call 57; refine (isWashing_any _ _).mono ?_; rintro e w' ⟨rfl, rfl⟩)
    go_ret3
    exact ⟨none, 0, by rw [Hv.out.1, Hv.out.2.1, Hv.out.2.2]; rfl, by rw [Hv.out.1]; exact OwnR.nil, by (repeat (first | exact Below.refl _ _ | refine Below.drew ?_ | refine below_drewN ?_ _ | (refine Below.alloc ?_ (by (try simp) <;> omega) _) | (refine Below.setCell ?_ (by (try simp) <;> omega) _) | (refine Below.trans ?_ (Below.mono (by assumption) (by (try simp) <;> omega)))))⟩
  have HT := Lib.hid (show ccT L water = ccS water L by simp [ccT, h1, h3])
  obtain ⟨l1, l2⟩ := inB_iff.1 h1
  obtain ⟨g5, g6⟩ := inB_iff.1 h3
  obtain ⟨b, off, rfl, hB, hcs⟩ := hr (by intro e; subst e; simp at l1)
  have H2 := Lib.hid h2
  have HCS := Lib.hid hcs
  clear hcs
  go_enter Try.func35, Try.ntmps35
  go_wp2_with (go_at_call 50; refine (within_any _ _ _ _).mono ?_; rintro e w' ⟨rfl, rfl⟩)
  refine (contBatch_any 61 #[] eg (fun x => !isBatch x.1 x.2.1 x.2.2) _ c L w hr hm (fun W x _ => ccPred_any x W)).mono ?_; rintro e w1 ⟨rfl, hb1⟩
  rw [h2]
  have z1 := hb1.size
  go_wp2_with (go_at_call 57; refine (isWashing_any _ _).mono ?_; rintro e w' ⟨rfl, rfl⟩)
  refine (cloneBatch_any b off c L w1 (HCS.out.below hb1 hB) (by omega) hm).mono ?_; rintro e w2 ⟨A2, c2, rfl, ho2, hb2⟩
  obtain ⟨g, rfl, hg, hR, hC⟩ := ho2 (by intro e; subst e; simp at l1)
  have hcr : Hid (CcR w2 g L L.length []) := (⟨hR, by simpa using hC, by simp⟩ : CcR w2 g L L.length [])
  have hbw : Below w.heap.size w w2 := by (repeat (first | exact Below.refl _ _ | refine Below.drew ?_ | refine below_drewN ?_ _ | (refine Below.alloc ?_ (by (try simp) <;> omega) _) | (refine Below.setCell ?_ (by (try simp) <;> omega) _) | (refine Below.trans ?_ (Below.mono (by assumption) (by (try simp) <;> omega)))))
  have hgw : w.heap.size ≤ g := by omega
  have hl1 : (1 : Int) ≤ L.length := l1
  clear hr hR hC hb1 hb2 z1 H2 HCS eg ho2 h1
  go_wp2
  go_loopw [8, 9] (fun dv iv wr => ∃ (k : Nat) (j d : Int) (o : List T3), dv = .int .i64 d ∧ iv = .int .i64 j ∧ Hid (j = (k : Int) - 1) ∧ (-1 ≤ j ∧ j < L.length) ∧ (0 ≤ d ∧ d ≤ water) ∧ Hid (k ≤ L.length) ∧ Hid (ccS water (L.drop k) = some (o, d)) ∧ Hid (CcR wr g L k o) ∧ Below w.heap.size w wr) (fun _ iv _ => (intOf iv + 1).toNat)
  case atStart => exact ⟨L.length, L.length - 1, 0, [], rfl, rfl, rfl, ⟨by omega, by omega⟩, ⟨by omega, by omega⟩, Nat.le_refl _, (by rw [List.drop_length]; rfl : ccS water (L.drop L.length) = some ([], 0)), hcr, hbw⟩
  case round =>
    obtain ⟨k, j, d, o, rfl, rfl, hj, ⟨j1, j2⟩, ⟨d1, d2⟩, hk, hs, hcc, hb⟩ := hrel
    clear hcr hbw
    have zr := hb.size
    have hgr := hcc.out.1.lt
    by_cases hlt : 0 ≤ j
    · obtain ⟨m, rfl⟩ := Int.eq_ofNat_of_zero_le hlt
      obtain rfl : k = m + 1 := by have := hj.out; omega
      have hx : L[m]? = some (L[m]'(by omega)) := List.getElem?_eq_getElem _
      generalize L[m]'(by omega) = x at hx
      obtain ⟨q1, q2, q3⟩ := hcc.out.cells hx
      obtain ⟨_, ⟨g1, g2⟩, g3, g4⟩ := isBatch_iff.1 (all_good h2 hx)
      have HX := Lib.hid hx
      clear hx
      have hy := Lib.hid (show ccOk water x d = (isBatch x.1 (washD x.2.1 x.2.2 water d) x.2.2 && decide (ccG water x d ≤ water)) by
        have : waterOk x.1 x.2.1 x.2.2 water d = true := waterOk_iff.2 ⟨isBatch_iff.1 (all_good h2 HX.out), ⟨g5, g6⟩, d1, d2⟩
        simp [ccOk, this])
      have hq := washD_bd (d := x.2.1) (dirt := d) (water := water) (by omega) g3 g5
      go_wp2_with fail
      refine (wash_any _ _ _ _ _ _ g1 g2 g3 g4 g5 g6 d1 (by omega)).mono ?_; rintro e w3 ⟨rfl, hb3⟩
      have z3 := hb3.size
      have hc3 := hcc.out.below hb3
      obtain ⟨r1, r2, r3⟩ := hc3.cells HX.out
      have ff3 := hc3.1.frozen
      have hst := hc3.store (y := ccX water x d) HX.out
      have hbs : Below w.heap.size w (((w3.setCell ⟨g, m * 3, none⟩ (.int .i64 x.1)).setCell ⟨g, m * 3 + 1, none⟩ (.int .i64 (washD x.2.1 x.2.2 water d))).setCell ⟨g, m * 3 + 2, none⟩ (.int .i64 x.2.2)) :=
        (((hb.trans (hb3.mono (by omega))).setCell (p := ⟨g, m * 3, none⟩) hgw _).setCell (p := ⟨g, m * 3 + 1, none⟩) hgw _).setCell (p := ⟨g, m * 3 + 2, none⟩) hgw _
      have hgs : g < (((w3.setCell ⟨g, m * 3, none⟩ (.int .i64 x.1)).setCell ⟨g, m * 3 + 1, none⟩ (.int .i64 (washD x.2.1 x.2.2 water d))).setCell ⟨g, m * 3 + 2, none⟩ (.int .i64 x.2.2)).heap.size := hst.1.lt
      have HST : Hid (CcR (((w3.setCell ⟨g, m * 3, none⟩ (.int .i64 x.1)).setCell ⟨g, m * 3 + 1, none⟩ (.int .i64 (washD x.2.1 x.2.2 water d))).setCell ⟨g, m * 3 + 2, none⟩ (.int .i64 x.2.2)) g L m (ccX water x d :: o)) := hst
      clear hst hc3 hcc q1 q2 q3 hb3 hb hj zr hgr
      have hm0 : (0 : Int) ≤ (m : Int) := by omega
      by_cases hgo : water < ccG water x d
      · have HN := Lib.hid (cc_no (show ccT L water = none by rw [HT.out]; exact ccS_stop HX.out hs.out (by rw [hy.out, decide_eq_false (show ¬ ccG water x d ≤ water by omega), Bool.and_false])))
        unfold ccG at hgo
        go_wp2
        go_ret3
        exact ⟨none, 0, by rw [HN.out.1, HN.out.2.1, HN.out.2.2]; rfl, by rw [HN.out.1]; exact OwnR.nil, hbs⟩
      have hgo2 : ccG water x d ≤ water := by omega
      have HGO := Lib.hid hgo2
      have HGB : 0 ≤ ccG water x d ∧ ccG water x d ≤ water := ⟨by unfold ccG; omega, hgo2⟩
      have HGBh := Lib.hid HGB; clear HGB hgo2
      unfold ccG at hgo
      go_wp2_with fail
      generalize (((w3.setCell ⟨g, m * 3, none⟩ (.int .i64 x.1)).setCell ⟨g, m * 3 + 1, none⟩ (.int .i64 (washD x.2.1 x.2.2 water d))).setCell ⟨g, m * 3 + 2, none⟩ (.int .i64 x.2.2)) = W4 at *
      refine (IsBatch_any _ _ _ _).mono ?_; rintro e w5 ⟨rfl, hb5⟩
      have z5 := hb5.size
      have hb6 : Below w.heap.size w w5 := hbs.trans (hb5.mono (by have := hbs.size; omega))
      cases h6 : isBatch x.1 (washD x.2.1 x.2.2 water d) x.2.2
      · have HN := Lib.hid (cc_no (show ccT L water = none by rw [HT.out]; exact ccS_stop HX.out hs.out (by rw [hy.out, h6]; rfl)))
        go_wp2
        go_ret3
        exact ⟨none, 0, by rw [HN.out.1, HN.out.2.1, HN.out.2.2]; rfl, by rw [HN.out.1]; exact OwnR.nil, hb6⟩
      · have HS : Hid (ccS water (L.drop m) = some (ccX water x d :: o, ccG water x d)) := ccS_go HX.out hs.out (by rw [hy.out, h6]; simp [HGO.out])
        have HC := HST.out.below hb5
        clear HST hb5 hbs ff3 r1 r2 r3 hs hy h6
        go_wp2
        go_roundw
        case rel => exact ⟨m, m - 1, ccG water x d, ccX water x d :: o, rfl, by go_num, rfl, ⟨by omega, by omega⟩, HGBh.out, (by have := hk.out; exact Nat.le_of_lt this), HS, HC, hb6⟩
        case measure => simp only [intOf]; omega
    · obtain rfl : k = 0 := by have := hj.out; omega
      have HN := Lib.hid (cc_yes (show ccT L water = some (o, d) by rw [HT.out]; exact hs.out))
      have HO := hcc.out.done (B := w.heap.size) hgw
      have hlen := Lib.hid hcc.out.2.2
      clear hcc hs
      go_wp2
      go_ret3
      exact ⟨some ⟨g, 0, none⟩, c2, by rw [HN.out.1, HN.out.2.1, HN.out.2.2, show o.length = L.length from hlen.out]; rfl, by rw [HN.out.1]; exact HO, hb⟩
end Go.Proofs.Ytpgoenhekmoedaa
