/-
  CounterCurrent of the reference.
-/
import Derived.Test.YtpgoenhekmoedaaCc3
namespace Go.Proofs.Ytpgoenhekmoedaa
open Go.RowKit

set_option maxHeartbeats 4000000 in
theorem SCounterCurrent_any (A : Option Addr) (c : Nat) (L : List T3) (water : Int) (w : World) (hr : SlR f3 3 w w.heap.size A L) (hm : (L.length : Int) ≤ 1048576) :
    Calls Try.prog 33 #[.slice A L.length c, .int .i64 water] w (NewSl3 f3 3 25 w (ccR L water) (ccD L water) (ccB L water)) := by
  have hm0 : (0 : Int) ≤ L.length := by omega
  cases h1 : inB (L.length : Int) 1 10
  · have Hv := Lib.hid (cc_no (show ccT L water = none by simp [ccT, h1]))
    go_enter Try.func33, Try.ntmps33
    go_wp2_with (go_at_call 51; refine (l1In_any _ _ _ _).mono ?_; rintro e w' ⟨rfl, rfl⟩)
    go_ret3
    exact ⟨_, 0, by rw [Hv.out.1, Hv.out.2.1, Hv.out.2.2]; rfl, by rw [Hv.out.1]; exact OwnR.nil, by (repeat (first | exact Below.refl _ _ | refine Below.drew ?_ | refine below_drewN ?_ _ | (refine Below.alloc ?_ (by (try simp) <;> omega) _) | (refine Below.setCell ?_ (by (try simp) <;> omega) _) | (refine Below.trans ?_ (Below.mono (by assumption) (by (try simp) <;> omega)))))⟩
  cases h3 : inB water 1 100000000
  · have Hv := Lib.hid (cc_no (show ccT L water = none by simp [ccT, h3]))
    go_enter Try.func33, Try.ntmps33
    go_wp2_with fail
    refine (l1In_any _ _ _ _).mono ?_; rintro e w' ⟨rfl, rfl⟩
    rw [h1]
    go_wp2_with fail
    refine (l1In_any _ _ _ _).mono ?_; rintro e w' ⟨rfl, rfl⟩
    rw [h3]
    go_wp2
    go_ret3
    exact ⟨_, 0, by rw [Hv.out.1, Hv.out.2.1, Hv.out.2.2]; rfl, by rw [Hv.out.1]; exact OwnR.nil, by (repeat (first | exact Below.refl _ _ | refine Below.drew ?_ | refine below_drewN ?_ _ | (refine Below.alloc ?_ (by (try simp) <;> omega) _) | (refine Below.setCell ?_ (by (try simp) <;> omega) _) | (refine Below.trans ?_ (Below.mono (by assumption) (by (try simp) <;> omega)))))⟩
  have HT := Lib.hid (show ccT L water = ccS water L by simp [ccT, h1, h3])
  obtain ⟨l1, l2⟩ := inB_iff.1 h1
  obtain ⟨g5, g6⟩ := inB_iff.1 h3
  obtain ⟨b, off, rfl, hB, hcs⟩ := hr (by intro e; subst e; simp at l1)
  obtain ⟨i0, hi, hz0, hz1, hz2⟩ := info_parts infoB
  have HE := Lib.hid (Gath.made (f := f3) (m := 3) (t := 25) (B := w.heap.size) (w := w) (Nat.le_refl _))
  have hb0 : Below w.heap.size w (w.alloc (.cells #[] 25 (0, 0))) := by (repeat (first | exact Below.refl _ _ | refine Below.drew ?_ | refine below_drewN ?_ _ | (refine Below.alloc ?_ (by (try simp) <;> omega) _) | (refine Below.setCell ?_ (by (try simp) <;> omega) _) | (refine Below.trans ?_ (Below.mono (by assumption) (by (try simp) <;> omega)))))
  have HC := Lib.hid (src_cells hcs hB)
  have HI := Lib.hid hi; have HZ0 := Lib.hid hz0; have HZ1 := Lib.hid hz1; have HZ2 := Lib.hid hz2
  clear hi hz0 hz1 hz2 hr
  have HCS := Lib.hid hcs
  clear hcs
  go_enter Try.func33, Try.ntmps33
  go_wp2_with fail
  refine (l1In_any _ _ _ _).mono ?_; rintro e w' ⟨rfl, rfl⟩
  rw [h1]
  go_wp2_with fail
  refine (l1In_any _ _ _ _).mono ?_; rintro e w' ⟨rfl, rfl⟩
  rw [h3]
  go_wp2_with (at_builtin; refine wpList_append_own _ rfl _ _ 45 rfl w.heap.size 25 i0 (.agg #[.int .i64 0, .int .i64 0, .int .i64 0]) 3 24 Try.underlying45 HI.out HZ0.out HZ1.out HZ2.out rfl (by decide) _ _ _ rfl HE.out ⟨b, off, none⟩ L.length c (L.flatMap f3) rfl (flat_len (f := f3) (m := 3) (fun _ => rfl) L) HC.out (flat_one f3_one) ?c3 ?c4 ?c5 ?c6)
  case c3 => unfold maxLen; first | omega | (simp; omega)
  case c4 => first | omega | (simp; omega)
  case c5 => first | omega | (simp)
  case c6 =>
    intro v' w2 hown hgrow _
    have hG9 : Gath f3 3 25 w2 w.heap.size v' L := by
      unfold Gath; simpa using hown
    have hbw : Below w.heap.size w w2 := below_grown' hb0 hgrow HE.out (Nat.le_refl _) (by simp)
    obtain ⟨A2, c2, rfl, ho2⟩ := Gath.own (f := f3) (m := 3) (fun _ => rfl) hG9
    clear hown hgrow hG9 hb0 HE HC
    obtain ⟨g, rfl, hgw, hR, hC⟩ := ho2 (by intro e; subst e; simp at l1)
    have hcr : Hid (CcR w2 g L L.length []) := (⟨hR, by simpa using hC, by simp⟩ : CcR w2 g L L.length [])
    have hl1 : (1 : Int) ≤ L.length := l1
    clear hR hC ho2 h1
    go_wp2
    go_loopw [8, 9] (fun dv iv wr => ∃ (k : Nat) (j d : Int) (o : List T3), dv = .int .i64 d ∧ iv = .int .i64 j ∧ Hid (j = (k : Int) - 1) ∧ (-1 ≤ j ∧ j < L.length) ∧ (0 ≤ d ∧ d ≤ water) ∧ Hid (k ≤ L.length) ∧ Hid (ccS water (L.drop k) = some (o, d)) ∧ Hid (CcR wr g L k o) ∧ Below w.heap.size w wr) (fun _ iv _ => (intOf iv + 1).toNat)
    case atStart => exact ⟨L.length, L.length - 1, 0, [], rfl, rfl, rfl, ⟨by omega, by omega⟩, ⟨by omega, by omega⟩, Nat.le_refl _, (by rw [List.drop_length]; rfl : ccS water (L.drop L.length) = some ([], 0)), hcr, hbw⟩
    case round =>
      obtain ⟨k, j, d, o, rfl, rfl, hj, ⟨j1, j2⟩, ⟨d1, d2⟩, hk, hs, hcc, hb⟩ := hrel
      clear hcr hbw
      have zr := hb.size
      have hgr := hcc.out.1.lt
      by_cases hlt : 0 ≤ j
      · obtain ⟨m, rfl⟩ := Int.eq_ofNat_of_zero_le hlt
        obtain rfl : k = m + 1 := by have := hj.out; omega
        have hx : L[m]? = some (L[m]'(by omega)) := List.getElem?_eq_getElem _
        generalize L[m]'(by omega) = x at hx
        have hA := HCS.out.below hb hB
        obtain ⟨q1, q2, q3⟩ := cells3 hA hx
        have hbr : b < wr.heap.size := by omega
        have HX := Lib.hid hx
        have hm0 : (0 : Int) ≤ (m : Int) := by omega
        clear hx hj
        cases h4 : waterOk x.1 x.2.1 x.2.2 water d
        · have HN := Lib.hid (cc_no (show ccT L water = none by rw [HT.out]; exact ccS_stop HX.out hs.out (by simp [ccOk, h4])))
          go_wp2_with fail
          refine (l12Water_any _ _ _ _ _ _).mono ?_; rintro e w3 ⟨rfl, hb3⟩
          have z3 := hb3.size
          rw [h4]
          go_wp2
          go_ret3
          exact ⟨_, 0, by rw [HN.out.1, HN.out.2.1, HN.out.2.2]; rfl, by rw [HN.out.1]; exact OwnR.nil, by (repeat (first | exact Below.refl _ _ | refine Below.drew ?_ | refine below_drewN ?_ _ | (refine Below.alloc ?_ (by (try simp) <;> omega) _) | (refine Below.setCell ?_ (by (try simp) <;> omega) _) | (refine Below.trans ?_ (Below.mono (by assumption) (by (try simp) <;> omega)))))⟩
        obtain ⟨⟨_, ⟨g1, g2⟩, g3, g4⟩, _, _, _⟩ := waterOk_iff.1 h4
        have hy := Lib.hid (show ccOk water x d = (isBatch x.1 (washD x.2.1 x.2.2 water d) x.2.2 && decide (ccG water x d ≤ water)) by simp [ccOk, h4])
        have hq := washD_bd (d := x.2.1) (dirt := d) (water := water) (by omega) g3 g5
        go_wp2_with fail
        refine (l12Water_any _ _ _ _ _ _).mono ?_; rintro e w3 ⟨rfl, hb3⟩
        rw [h4]
        have z3 := hb3.size
        obtain ⟨p1, p2, p3⟩ := cells3 (hA.below hb3 hbr) HX.out
        have hbr3 : b < w3.heap.size := by omega
        have hc3 := hcc.out.below hb3
        clear q1 q2 q3 hcc
        go_wp2_with fail
        refine (l12Wash_any _ _ _ _ _ _ g1 g2 g3 g4 g5 g6 d1 (by omega)).mono ?_; rintro e w4 ⟨rfl, hb4⟩
        have z4 := hb4.size
        have hc4 := (hc3.below hb4).below (w' := w4.alloc (.cells #[.int .i64 x.1, .int .i64 (washD x.2.1 x.2.2 water d), .int .i64 x.2.2] 25)) (by (repeat (first | exact Below.refl _ _ | refine Below.drew ?_ | refine below_drewN ?_ _ | (refine Below.alloc ?_ (by (try simp) <;> omega) _) | (refine Below.setCell ?_ (by (try simp) <;> omega) _) | (refine Below.trans ?_ (Below.mono (by assumption) (by (try simp) <;> omega))))))
        have hb5 : Below w.heap.size w (w4.alloc (.cells #[.int .i64 x.1, .int .i64 (washD x.2.1 x.2.2 water d), .int .i64 x.2.2] 25)) := by
          exact ((hb.trans (hb3.mono (by omega))).trans (hb4.mono (by omega))).alloc (by omega) _
        obtain ⟨r1, r2, r3⟩ := hc4.cells HX.out
        have ff3 := hc4.1.frozen
        have hst := hc4.store (y := ccX water x d) HX.out
        clear hA p1 p2 p3 hc3 hb3 hb4
        have z5 : w4.heap.size < (w4.alloc (.cells #[.int .i64 x.1, .int .i64 (washD x.2.1 x.2.2 water d), .int .i64 x.2.2] 25)).heap.size := by simp
        have hbs : Below w.heap.size w ((((w4.alloc (.cells #[.int .i64 x.1, .int .i64 (washD x.2.1 x.2.2 water d), .int .i64 x.2.2] 25)).setCell ⟨g, m * 3, none⟩ (.int .i64 x.1)).setCell ⟨g, m * 3 + 1, none⟩ (.int .i64 (washD x.2.1 x.2.2 water d))).setCell ⟨g, m * 3 + 2, none⟩ (.int .i64 x.2.2)) :=
          ((hb5.setCell (p := ⟨g, m * 3, none⟩) hgw _).setCell (p := ⟨g, m * 3 + 1, none⟩) hgw _).setCell (p := ⟨g, m * 3 + 2, none⟩) hgw _
        have HST : Hid (CcR ((((w4.alloc (.cells #[.int .i64 x.1, .int .i64 (washD x.2.1 x.2.2 water d), .int .i64 x.2.2] 25)).setCell ⟨g, m * 3, none⟩ (.int .i64 x.1)).setCell ⟨g, m * 3 + 1, none⟩ (.int .i64 (washD x.2.1 x.2.2 water d))).setCell ⟨g, m * 3 + 2, none⟩ (.int .i64 x.2.2)) g L m (ccX water x d :: o)) := hst
        have hgs : g < ((((w4.alloc (.cells #[.int .i64 x.1, .int .i64 (washD x.2.1 x.2.2 water d), .int .i64 x.2.2] 25)).setCell ⟨g, m * 3, none⟩ (.int .i64 x.1)).setCell ⟨g, m * 3 + 1, none⟩ (.int .i64 (washD x.2.1 x.2.2 water d))).setCell ⟨g, m * 3 + 2, none⟩ (.int .i64 x.2.2)).heap.size := hst.1.lt
        clear hst hc4
        go_wp2_with fail
        generalize ((((w4.alloc (.cells #[.int .i64 x.1, .int .i64 (washD x.2.1 x.2.2 water d), .int .i64 x.2.2] 25)).setCell ⟨g, m * 3, none⟩ (.int .i64 x.1)).setCell ⟨g, m * 3 + 1, none⟩ (.int .i64 (washD x.2.1 x.2.2 water d))).setCell ⟨g, m * 3 + 2, none⟩ (.int .i64 x.2.2)) = W4 at *
        refine (l12Good_any _ _ _ _).mono ?_; rintro e w6 ⟨rfl, hb6⟩
        have z6 := hb6.size
        have hb7 : Below w.heap.size w w6 := hbs.trans (hb6.mono (by have := hbs.size; omega))
        cases h6 : isBatch x.1 (washD x.2.1 x.2.2 water d) x.2.2
        · have HN := Lib.hid (cc_no (show ccT L water = none by rw [HT.out]; exact ccS_stop HX.out hs.out (by rw [hy.out, h6]; rfl)))
          go_wp2
          go_ret3
          exact ⟨_, 0, by rw [HN.out.1, HN.out.2.1, HN.out.2.2]; rfl, by rw [HN.out.1]; exact OwnR.nil, by (repeat (first | exact Below.refl _ _ | refine Below.drew ?_ | refine below_drewN ?_ _ | (refine Below.alloc ?_ (by (try simp) <;> omega) _) | (refine Below.setCell ?_ (by (try simp) <;> omega) _) | (refine Below.trans ?_ (Below.mono (by assumption) (by (try simp) <;> omega)))))⟩
        by_cases hgo : water < ccG water x d
        · have HN := Lib.hid (cc_no (show ccT L water = none by rw [HT.out]; exact ccS_stop HX.out hs.out (by rw [hy.out, decide_eq_false (show ¬ ccG water x d ≤ water by omega), Bool.and_false])))
          unfold ccG at hgo
          go_wp2
          go_ret3
          exact ⟨_, 0, by rw [HN.out.1, HN.out.2.1, HN.out.2.2]; rfl, by rw [HN.out.1]; exact OwnR.nil, by (repeat (first | exact Below.refl _ _ | refine Below.drew ?_ | refine below_drewN ?_ _ | (refine Below.alloc ?_ (by (try simp) <;> omega) _) | (refine Below.setCell ?_ (by (try simp) <;> omega) _) | (refine Below.trans ?_ (Below.mono (by assumption) (by (try simp) <;> omega)))))⟩
        · have hgo2 : ccG water x d ≤ water := by omega
          have HGBh := Lib.hid (show 0 ≤ ccG water x d ∧ ccG water x d ≤ water from ⟨by unfold ccG; omega, hgo2⟩)
          have HS : Hid (ccS water (L.drop m) = some (ccX water x d :: o, ccG water x d)) := ccS_go HX.out hs.out (by rw [hy.out, h6]; simp [hgo2])
          have HC := HST.out.below hb6
          clear HST hb6 hbs ff3 r1 r2 r3 hs hy h6 hgo2
          unfold ccG at hgo
          go_wp2
          go_roundw
          case rel => exact ⟨m, m - 1, ccG water x d, ccX water x d :: o, rfl, by go_num, rfl, ⟨by omega, by omega⟩, HGBh.out, (by have := hk.out; exact Nat.le_of_lt this), HS, HC, hb7⟩
          case measure => simp only [intOf]; omega
      · obtain rfl : k = 0 := by have := hj.out; omega
        have HN := Lib.hid (cc_yes (show ccT L water = some (o, d) by rw [HT.out]; exact hs.out))
        have HO := hcc.out.done (B := w.heap.size) hgw
        have hlen := Lib.hid hcc.out.2.2
        clear hcc hs
        go_wp2
        go_ret3
        exact ⟨some ⟨g, 0, none⟩, c2, by rw [HN.out.1, HN.out.2.1, HN.out.2.2, show o.length = L.length from hlen.out]; rfl, by rw [HN.out.1]; exact HO, hb⟩
end Go.Proofs.Ytpgoenhekmoedaa
