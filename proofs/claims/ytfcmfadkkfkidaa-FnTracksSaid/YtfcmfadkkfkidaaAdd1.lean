/-
  AddTrip: the program.
-/
import Derived.Test.YtfcmfadkkfkidaaAdd0
import Derived.Test.YtfcmfadkkfkidaaIns2
import Derived.Test.YtfcmfadkkfkidaaTrip4
import Derived.Test.YtfcmfadkkfkidaaRegion
import Derived.Deep.DeepCutAuto
import Derived.WalkKit
import Derived.WalkSpells
import Derived.WalkLawsBesides
import Derived.Lib.Hide
import Derived.Deep.QuietTactic
import Derived.BigQuiet
import Derived.StillTailTactics
namespace Go.Proofs.Ytfcmfadkkfkidaa
open Go.RowKit

/-- The clone of a list, from block B on. -/
def ClT (B : Nat) (L : List T5) (v : Value) (w : World) : Prop := ∃ A c, v = .slice A L.length c ∧ Gath f5 5 25 w B (.slice A L.length c) L
theorem ClT.next {B : Nat} {L : List T5} : ∀ (v : Value) (w w' : World), Below w.heap.size w w' → ClT B L v w → ClT B L v w' := fun _ _ _ hb ⟨A, c, h1, h2⟩ => ⟨A, c, h1, h2.below hb⟩
/-- The slice literal of one trip. -/
def LitT (B : Nat) (x : T5) (v : Value) (w : World) : Prop := ∃ g, v = .slice (some ⟨g, 0, none⟩) 1 1 ∧ B ≤ g ∧ Blk w g 25 (tripC x)
theorem LitT.next {B : Nat} {x : T5} : ∀ (v : Value) (w w' : World), Below w.heap.size w w' → LitT B x v w → LitT B x v w' := fun _ _ _ hb ⟨g, h1, h2, h3⟩ => ⟨g, h1, h2, h3.below' hb⟩
theorem gath_mono {α : Type} {f : α → List Value} {m B B' : Nat} {t : TypeId} {w : World} {v : Value} {L : List α} (h : Gath f m t w B v L) (hB : B' ≤ B) : Gath f m t w B' v L := by
  obtain ⟨h0, h | ⟨g, cap, cur, hv, hb, r⟩⟩ := h
  · exact ⟨h0, .inl h⟩
  · exact ⟨h0, .inr ⟨g, cap, cur, hv, Nat.le_trans hB hb, r⟩⟩

set_option maxRecDepth 20000 in
set_option maxHeartbeats 8000000 in
theorem AddTrip_any (A : Option Addr) (c : Nat) (L : List T5) (t : T5) (w : World) (hr : SlR f5 5 w w.heap.size A L) (hm : (L.length : Int) ≤ 1048576) (hI : ∀ x ∈ L, InI5 x) (hti : InI5 t) :
    Calls Try.prog 47 #[.slice A L.length c, tripV t.1 t.2.1 t.2.2.1 t.2.2.2.1 t.2.2.2.2] w (NewSl2 f5 5 25 w (addL L t) (addU L t)) := by
  have kt0 := Blk.new w 25 #[.int .i64 t.1, .int .i64 t.2.1, .int .i64 t.2.2.1, .int .i64 t.2.2.2.1, .int .i64 t.2.2.2.2]
  have hb0 : Below w.heap.size w (w.alloc (.cells #[.int .i64 t.1, .int .i64 t.2.1, .int .i64 t.2.2.1, .int .i64 t.2.2.2.1, .int .i64 t.2.2.2.2] 25)) := by (repeat (first | exact Below.refl _ _ | refine Below.drew ?_ | refine below_drewN ?_ _ | (refine Below.alloc ?_ (by (try simp) <;> omega) _) | (refine Below.setCell ?_ (by (try simp) <;> omega) _) | (refine Below.trans ?_ (Below.mono (by assumption) (by (try simp) <;> omega)))))
  have hr0 := hr.alloc (.cells #[.int .i64 t.1, .int .i64 t.2.1, .int .i64 t.2.2.1, .int .i64 t.2.2.2.1, .int .i64 t.2.2.2.2] 25)
  have HI := Lib.hid hI; clear hI
  have hm0 : (0 : Int) ≤ L.length := by omega
  go_enter Try.func47, Try.ntmps47
  go_upto_region 1 with fail
  generalize w.alloc (.cells #[.int .i64 t.1, .int .i64 t.2.1, .int .i64 t.2.2.1, .int .i64 t.2.2.2.1, .int .i64 t.2.2.2.2] 25) = W at *
  generalize hp : w.heap.size = p at *
  have Hp := Lib.hid hp
  have zp : p ≤ W.heap.size := Nat.le_of_lt kt0.lt
  clear hr hp
  go_wp2_with fail
  refine (AreTrips_any _ _ L _ (by exact hr0) hm HI.out).mono ?_; rintro e w3 ⟨rfl, hb3⟩
  cases h1 : tripsB L
  · have Hv := Lib.hid (ad_n1 (t := t) h1)
    go_wp2
    go_ret2
    exact ⟨none, 0, by rw [Hv.out.1, Hv.out.2]; rfl, by rw [Hv.out.1]; exact OwnR.nil, by rw [Hp.out]; exact hb0.trans (hb3.mono zp)⟩
  have H1 := Lib.hid h1
  have HL := Lib.hid (trOk_all h1)
  clear h1
  have c3 := (kt0.below' hb3).cell
  go_wp2_with fail
  refine (IsTrip_any _ _ _ _ _ _).mono ?_; rintro e w4 ⟨rfl, hb4⟩
  have hb04 := hb3.trans (hb4.mono hb3.size)
  clear c3 hb3 hb4
  cases h2 : tripB t.1 t.2.1 t.2.2.1 t.2.2.2.1 t.2.2.2.2
  · have Hv := Lib.hid (ad_n2 (L := L) (t := t) h2)
    go_wp2
    go_ret2
    exact ⟨none, 0, by rw [Hv.out.1, Hv.out.2]; rfl, by rw [Hv.out.1]; exact OwnR.nil, by rw [Hp.out]; exact hb0.trans (hb04.mono zp)⟩
  have H2 : Hid (okT t = true) := h2
  have htr := okT_tr H2.out
  clear h2
  have c4 := (kt0.below' hb04).cell
  go_wp2_with fail
  refine (meetsAny_any _ _ L t _ (by exact hr0.next hb04) hm HL.out htr).mono ?_; rintro e W5 ⟨rfl, hb5⟩
  have hb05 := hb04.trans (hb5.mono hb04.size)
  clear c4 hb04 hb5
  cases h3 : metB L t
  case true =>
    have Hv := Lib.hid (ad_n3 (L := L) (t := t) h3)
    go_wp2
    go_ret2
    exact ⟨none, 0, by rw [Hv.out.1, Hv.out.2]; rfl, by rw [Hv.out.1]; exact OwnR.nil, by rw [Hp.out]; exact hb0.trans (hb05.mono zp)⟩
  have H3 := Lib.hid h3
  clear h3
  have ktW5 := kt0.below' hb05
  have hrW5 := hr0.next hb05
  have zp5 : p ≤ W5.heap.size := by have := hb05.size; omega
  replace hb05 := hb0.trans (hb05.mono zp)
  clear kt0 hr0 hb0 zp HL
  go_wp2
  go_loopw [6] (fun i wr => ∃ k : Nat, i = .int .i64 k ∧ k ≤ L.length ∧ Hid (ldK L t.1 = k + ldK (L.drop k) t.1) ∧ Below W5.heap.size W5 wr) (fun i _ => (L.length - intOf i).toNat)
  case atStart => exact ⟨0, rfl, by omega, by show _ = _; rw [List.drop_zero, Nat.zero_add], Below.refl _ _⟩
  case round =>
    obtain ⟨k, rfl, hk, hs, hb⟩ := hrel
    have zr := hb.size
    have kr := ktW5.below' hb
    have hk0 : (0 : Int) ≤ (k : Int) := by omega
    by_cases hlt : k < L.length
    · have hx : L[k]? = some L[k] := List.getElem?_eq_getElem hlt
      obtain ⟨b, off, hA, hB, hcs⟩ := hrW5 (SlR.ne hx)
      cases hA
      generalize L[k] = x at *
      have hC := hcs.below hb hB
      have hBr : b < wr.heap.size := by omega
      have hk1 : (k : Int) < (L.length : Int) := by omega
      have c0 := (cells5 hC hx).1
      have ct := kr.cell
      cases hd : decide (x.1 < t.1)
      · have HK := Lib.hid (ldK_stop hx hs.out (of_decide_eq_false hd))
        have HC := Lib.hid hC
        clear hs hx hcs hC
        go_wp2
        go_quiet (fail)
        clear hd c0 ct
        have qB : Below W5.heap.size W5 (wr.drewN nq) := by first | exact hb | exact below_drewN hb _
        have HC2 := Lib.hid (show Cells f5 5 (wr.drewN nq) b off L from HC.out)
        have hBz : b < (wr.drewN nq).heap.size := hBr
        clear hb zr kr HC hBr
        generalize hWW : (wr.drewN nq) = wz at *
        clear hWW
        have kz := ktW5.below' qB
        have zz := qB.size
        have hrz := hrW5.next qB
        have hml : L.length ≤ 1048576 := by omega
        have hkk : k ≤ L.length := by omega
        go_wp2
        refine wp_region_grow [.fix (.slice (some ⟨b, off, none⟩) L.length c), .pred (ClT wz.heap.size L), .fix (.int .i64 k), .val (.agg #[.int .i64 t.1, .int .i64 t.2.1, .int .i64 t.2.2.1, .int .i64 t.2.2.2.1, .int .i64 t.2.2.2.2]), .pred (LitT wz.heap.size t)] mixed (by kernel_rfl) ?_
        refine SeqG.fixStep (.inl ⟨rfl, fun _ => rfl⟩) ?_
        simp only [Act.put, List.setIfInBounds_toArray, List.set_cons_zero, List.set_cons_succ]
        refine SeqG.predStep ClT.next (fun wv hbv hpv => ?_) (fun v1 => ?_)
        · have HO := Lib.hid (cloneTripG_any _ c L wv (hrz.next hbv) hm)
          clear hpv
          go_wp2_with fail
          refine HO.out.mono ?_; rintro e w1 ⟨A1, c1, rfl, hG, hb1⟩
          have HG := Lib.hid (gath_mono hG hbv.size)
          clear hG HO
          go_wp2_with fail
          exact post_pred (F := ClT wz.heap.size L) _ hb1 ⟨A1, c1, rfl, HG.out⟩
        simp only [Act.put, List.setIfInBounds_toArray, List.set_cons_zero, List.set_cons_succ]
        refine SeqG.fixStep (.inl ⟨rfl, fun _ => rfl⟩) ?_
        simp only [Act.put, List.setIfInBounds_toArray, List.set_cons_zero, List.set_cons_succ]
        refine SeqG.valStep (fun wv hbv hpv => ?_) ?_
        · have ct := (kz.below' hbv).cell
          go_wp2_with fail
          exact post_val (Below.refl _ _)
        simp only [Act.put, List.setIfInBounds_toArray, List.set_cons_zero, List.set_cons_succ]
        refine SeqG.predStep LitT.next (fun wv hbv hpv => ?_) (fun v2 => ?_)
        · clear hpv
          go_wp2_with fail
          exact post_pred (F := LitT wz.heap.size t) _ (by (repeat (first | exact Below.refl _ _ | refine Below.drew ?_ | refine below_drewN ?_ _ | (refine Below.alloc ?_ (by (try simp) <;> omega) _) | (refine Below.setCell ?_ (by (try simp) <;> omega) _) | (refine Below.trans ?_ (Below.mono (by assumption) (by (try simp) <;> omega)))))) ⟨wv.heap.size, rfl, hbv.size, Blk.new _ _ _⟩
        simp only [Act.put, List.setIfInBounds_toArray, List.set_cons_zero, List.set_cons_succ]
        refine SeqG.done fun wv hbv hpv => ?_
        obtain ⟨q, rfl, hq, kq⟩ := hpv _ (.head _)
        obtain ⟨A1, c1, rfl, hG1⟩ := hpv _ (.tail _ (.head _))
        clear hpv
        have hbz := qB.trans (hbv.mono zz)
        have C9 := Lib.hid (insTrip_any wz.heap.size q k c1 A1 L t wv hG1 hkk hml kq hbv.size)
        have HLn := Lib.hid (insL_len (x := t) hkk)
        clear hG1 hbv kq kz
        go_wp2_with fail
        refine C9.out.mono ?_; rintro e w6 ⟨A6, c6, rfl, o6, hb6⟩
        have hb06 : Below W5.heap.size W5 w6 := hbz.trans (hb6.mono zz)
        have O6 := Lib.hid (o6.mono (show p ≤ wz.heap.size by omega))
        have HI6 : Hid (∀ y ∈ insL L k t, InI5 y) := fun y hy => by
          rcases insL_mem hy with h | h
          · exact HI.out y h
          · rw [h]; exact hti
        clear o6 hb6 C9
        go_wp2_with fail
        refine NoPan.normal ?_
        have C7 := Lib.hid (AreTrips_any A6 c6 (insL L k t) w6 O6.out.sl (by rw [HLn.out]; have := tripsB_len H1.out; omega) HI6.out)
        have hR0 : (0 : Int) ≤ ((insL L k t).length : Int) := by omega
        have hR2 : ((insL L k t).length : Int) ≤ 1048577 := by rw [HLn.out]; omega
        have HE := Lib.hid (show addI L t = insL L k t by unfold addI; rw [HK.out])
        generalize insL L k t = O at *
        go_wp2_with fail
        refine C7.out.mono ?_; rintro e w7 ⟨rfl, hb7⟩
        have O7 := Lib.hid (O6.out.next hb7)
        have hb07 : Below W5.heap.size W5 w7 := hb06.trans (hb7.mono hb06.size)
        clear C7 hb7 hb06
        cases h4 : tripsB O
        · have Hv := Lib.hid (ad_n4 (by rw [HE.out]; exact h4))
          clear h4
          go_wp2
          go_ret2
          exact ⟨none, 0, by rw [Hv.out.1, Hv.out.2]; rfl, by rw [Hv.out.1]; exact OwnR.nil, by rw [Hp.out]; exact hb05.trans (hb07.mono zp5)⟩
        · have Hv := Lib.hid (show addL L t = O ∧ addU L t = true by rw [← HE.out]; exact ad_y H1.out H2.out H3.out (by rw [HE.out]; exact h4))
          clear h4
          go_wp2
          go_ret2
          exact ⟨A6, c6, by rw [Hv.out.1, Hv.out.2]; rfl, by rw [Hv.out.1, Hp.out]; exact O7.out, by rw [Hp.out]; exact hb05.trans (hb07.mono zp5)⟩
      · have HS := Lib.hid (ldK_go hx hs.out (of_decide_eq_true hd))
        clear hs hx hcs hC
        go_wp2
        go_quiet (fail)
        go_wp2
        go_roundw
        case rel => exact ⟨k + 1, by go_num, by omega, HS, by first | exact hb | exact below_drewN hb _⟩
        case measure => simp only [intOf]; omega
    · have hkl : k = L.length := by omega
      have hg0 : decide (k < L.length) = false := decide_eq_false (by omega)
      have HK := Lib.hid (show ldK L t.1 = k by have h := hs.out; rw [hkl] at h ⊢; exact ldK_end h)
      have HKL := Lib.hid hkl
      have hk1 : ¬ (k : Int) < (L.length : Int) := by omega
      clear hs hlt hkl
      go_wp2
      go_quiet (fail)
      clear hg0
      have qB : Below W5.heap.size W5 (wr.drewN nq) := by first | exact hb | exact below_drewN hb _
      clear hb zr kr
      generalize hWW : (wr.drewN nq) = wz at *
      clear hWW
      have kz := ktW5.below' qB
      have zz := qB.size
      have hrz := hrW5.next qB
      have hml : L.length ≤ 1048576 := by omega
      have hkk : k ≤ L.length := by omega
      go_wp2
      refine wp_region_grow [.fix (.slice A L.length c), .pred (ClT wz.heap.size L), .fix (.int .i64 k), .val (.agg #[.int .i64 t.1, .int .i64 t.2.1, .int .i64 t.2.2.1, .int .i64 t.2.2.2.1, .int .i64 t.2.2.2.2]), .pred (LitT wz.heap.size t)] mixed (by kernel_rfl) ?_
      refine SeqG.fixStep (.inl ⟨rfl, fun _ => rfl⟩) ?_
      simp only [Act.put, List.setIfInBounds_toArray, List.set_cons_zero, List.set_cons_succ]
      refine SeqG.predStep ClT.next (fun wv hbv hpv => ?_) (fun v1 => ?_)
      · have HO := Lib.hid (cloneTripG_any _ c L wv (hrz.next hbv) hm)
        clear hpv
        go_wp2_with fail
        refine HO.out.mono ?_; rintro e w1 ⟨A1, c1, rfl, hG, hb1⟩
        have HG := Lib.hid (gath_mono hG hbv.size)
        clear hG HO
        go_wp2_with fail
        exact post_pred (F := ClT wz.heap.size L) _ hb1 ⟨A1, c1, rfl, HG.out⟩
      simp only [Act.put, List.setIfInBounds_toArray, List.set_cons_zero, List.set_cons_succ]
      refine SeqG.fixStep (.inl ⟨rfl, fun _ => rfl⟩) ?_
      simp only [Act.put, List.setIfInBounds_toArray, List.set_cons_zero, List.set_cons_succ]
      refine SeqG.valStep (fun wv hbv hpv => ?_) ?_
      · have ct := (kz.below' hbv).cell
        go_wp2_with fail
        exact post_val (Below.refl _ _)
      simp only [Act.put, List.setIfInBounds_toArray, List.set_cons_zero, List.set_cons_succ]
      refine SeqG.predStep LitT.next (fun wv hbv hpv => ?_) (fun v2 => ?_)
      · clear hpv
        go_wp2_with fail
        exact post_pred (F := LitT wz.heap.size t) _ (by (repeat (first | exact Below.refl _ _ | refine Below.drew ?_ | refine below_drewN ?_ _ | (refine Below.alloc ?_ (by (try simp) <;> omega) _) | (refine Below.setCell ?_ (by (try simp) <;> omega) _) | (refine Below.trans ?_ (Below.mono (by assumption) (by (try simp) <;> omega)))))) ⟨wv.heap.size, rfl, hbv.size, Blk.new _ _ _⟩
      simp only [Act.put, List.setIfInBounds_toArray, List.set_cons_zero, List.set_cons_succ]
      refine SeqG.done fun wv hbv hpv => ?_
      obtain ⟨q, rfl, hq, kq⟩ := hpv _ (.head _)
      obtain ⟨A1, c1, rfl, hG1⟩ := hpv _ (.tail _ (.head _))
      clear hpv
      have hbz := qB.trans (hbv.mono zz)
      have C9 := Lib.hid (insTrip_any wz.heap.size q k c1 A1 L t wv hG1 hkk hml kq hbv.size)
      have HLn := Lib.hid (insL_len (x := t) hkk)
      clear hG1 hbv kq kz
      go_wp2_with fail
      refine C9.out.mono ?_; rintro e w6 ⟨A6, c6, rfl, o6, hb6⟩
      have hb06 : Below W5.heap.size W5 w6 := hbz.trans (hb6.mono zz)
      have O6 := Lib.hid (o6.mono (show p ≤ wz.heap.size by omega))
      have HI6 : Hid (∀ y ∈ insL L k t, InI5 y) := fun y hy => by
        rcases insL_mem hy with h | h
        · exact HI.out y h
        · rw [h]; exact hti
      clear o6 hb6 C9
      go_wp2_with fail
      refine NoPan.normal ?_
      have C7 := Lib.hid (AreTrips_any A6 c6 (insL L k t) w6 O6.out.sl (by rw [HLn.out]; have := tripsB_len H1.out; omega) HI6.out)
      have hR0 : (0 : Int) ≤ ((insL L k t).length : Int) := by omega
      have hR2 : ((insL L k t).length : Int) ≤ 1048577 := by rw [HLn.out]; omega
      have HE := Lib.hid (show addI L t = insL L k t by unfold addI; rw [HK.out])
      generalize insL L k t = O at *
      go_wp2_with fail
      refine C7.out.mono ?_; rintro e w7 ⟨rfl, hb7⟩
      have O7 := Lib.hid (O6.out.next hb7)
      have hb07 : Below W5.heap.size W5 w7 := hb06.trans (hb7.mono hb06.size)
      clear C7 hb7 hb06
      cases h4 : tripsB O
      · have Hv := Lib.hid (ad_n4 (by rw [HE.out]; exact h4))
        clear h4
        go_wp2
        go_ret2
        exact ⟨none, 0, by rw [Hv.out.1, Hv.out.2]; rfl, by rw [Hv.out.1]; exact OwnR.nil, by rw [Hp.out]; exact hb05.trans (hb07.mono zp5)⟩
      · have Hv := Lib.hid (show addL L t = O ∧ addU L t = true by rw [← HE.out]; exact ad_y H1.out H2.out H3.out (by rw [HE.out]; exact h4))
        clear h4
        go_wp2
        go_ret2
        exact ⟨A6, c6, by rw [Hv.out.1, Hv.out.2]; rfl, by rw [Hv.out.1, Hp.out]; exact O7.out, by rw [Hp.out]; exact hb05.trans (hb07.mono zp5)⟩
end Go.Proofs.Ytfcmfadkkfkidaa
