/-
  The cursor's trips.
-/
import Derived.Test.YtfcmfadkkfkidaaDrawT1
import Derived.Test.YtfcmfadkkfkidaaFreeW
import Derived.Test.YtfcmfadkkfkidaaAdd2
import Derived.Test.YtfcmfadkkfkidaaGat
import Derived.Deep.DeepCutAuto
import Derived.WalkKit
import Derived.WalkSpells
import Derived.WalkLawsBesides
import Derived.Lib.Hide
import Derived.Deep.QuietTactic
import Derived.BigQuiet
import Derived.StillTailTactics
namespace Go.Proofs.Ytfcmfadkkfkidaa
open Go.RowKit

/-- A list of small trips. -/
def TripsOk (n : Nat) (M : List T5) : Prop := M.length ≤ n ∧ ∀ x ∈ M, SmT x
theorem TripsOk.nil {n : Nat} : TripsOk n [] := ⟨Nat.zero_le _, fun x h => by cases h⟩
theorem TripsOk.snoc {n : Nat} {M : List T5} {x : T5} (h : TripsOk n M) (hx : SmT x) : TripsOk (n + 1) (M ++ [x]) :=
  ⟨by rw [List.length_append]; have := h.1; simp; omega, fun y hy => by
    rw [List.mem_append] at hy
    rcases hy with hy | hy
    · exact h.2 y hy
    · rw [List.mem_singleton] at hy; rw [hy]; exact hx⟩
theorem TripsOk.mono {n m : Nat} {M : List T5} (h : TripsOk n M) (hm : n ≤ m) : TripsOk m M := ⟨Nat.le_trans h.1 hm, h.2⟩
theorem TripsOk.inI {n : Nat} {M : List T5} (h : TripsOk n M) : ∀ x ∈ M, InI5 x := fun x hx => (h.2 x hx).inI
theorem SmT.trW {t : T5} (h : SmT t) : TrW t := ⟨h.2.1, h.2.2.1, h.2.2.2.1⟩
theorem Gath.form5 {t : TypeId} {w : World} {B : Nat} {v : Value} {L : List T5} (h : Gath f5 5 t w B v L) (hv : v ≠ .slice none 0 0) :
    ∃ g c, v = .slice (some ⟨g, 0, none⟩) L.length c ∧ B ≤ g ∧ L.length ≤ c ∧ g < w.heap.size ∧ Cells f5 5 w g 0 L := by
  obtain ⟨A, c0, e, ho⟩ := Gath.own (f := f5) (m := 5) (fun _ => rfl) h
  obtain ⟨h0, ⟨hn, _⟩ | ⟨g, cap, cur, hv', hB, hh, hn, hcm, hs, ht⟩⟩ := h
  · exact absurd hn hv
  · refine ⟨g, cap, hv', hB, hn, ?_, ?_⟩
    · rcases Nat.lt_or_ge g w.heap.size with h | h
      · exact h
      · rw [Array.getElem?_eq_none h] at hh; cases hh
    · rw [hv'] at e
      injection e with e1 _ _
      intro k x hx
      obtain ⟨g1, e2, _, _, hC⟩ := ho (SlR.ne hx)
      rw [e2] at e1
      injection e1 with e1
      injection e1 with e1
      subst e1
      exact hC k x hx
/-- The cursor hands back a list of small trips, not nil. -/
def CurTs (A : Option Addr) (c : Nat) (L : List Int) (g n : Nat) (w : World) (e : Ending) (w' : World) : Prop :=
  ∃ A' c' M, e = .returned (.slice A' M.length c') ∧ TripsOk 12 M ∧ OwnR f5 5 25 w' w.heap.size A' M ∧ (M.length ≤ c' ∧ ∃ x, A' = some x) ∧ Cur A c L g n w' ∧ ButG g w w'
theorem curTs_end {A : Option Addr} {c : Nat} {L : List Int} {g n n' : Nat} {w w1 : World} {v : Value} {M : List T5} (hG : Gath f5 5 25 w1 w.heap.size v M) (hv : v ≠ .slice none 0 0) (hM : TripsOk 12 M) (hc : Cur A c L g n w1) (hn : n ≤ n') (hB : ButG g w w1) : CurTs A c L g n' w (.returned v) w1 := by
  obtain ⟨q, c5, rfl, h1, h2, h3, h4⟩ := hG.form5 hv
  obtain ⟨A', c', e, ho⟩ := Gath.own (f := f5) (m := 5) (fun _ => rfl) hG
  cases e
  exact ⟨_, _, M, rfl, hM, ho, ⟨h2, _, rfl⟩, hc.mono hn, hB⟩
theorem SeqNoPan {P : Program} {ops : Array Oper} {Q : Exit → Act → World → Prop} {l : List Oper} {a : Act} {w : World} (h : wpList P ops Q l a w) : wpList P ops Q l a w := h

set_option maxRecDepth 20000 in
set_option maxHeartbeats 16000000 in
theorem trips_any (A : Option Addr) (c : Nat) (L : List Int) (g nn : Nat) (w : World) (hI : ∀ x ∈ L, 0 ≤ x ∧ x ≤ 255) (hl : (L.length : Int) ≤ 65536) (hnn : nn ≤ 100000) (hc : Cur A c L g nn w) :
    Calls Try.prog 88 #[.pointer (some ⟨g, 0, none⟩)] w (CurTs A c L g (nn + 200) w) := by
  obtain ⟨i0, hi, hz0, hz1, hz2⟩ := info_parts infoTrip
  have HII := Lib.hid hi; have HZ0 := Lib.hid hz0; have HZ1 := Lib.hid hz1; have HZ2 := Lib.hid hz2
  clear hi hz0 hz1 hz2
  have g0 := hc.lt
  have hG0 := Gath.made (f := f5) (m := 5) (t := 25) (B := w.heap.size) (w := w) (Nat.le_refl _)
  go_enter Try.func88, Try.ntmps88
  go_wp2_with fail
  refine (one_any A c L g (nn) (2) _ hI hl (by omega) (by omega) (hc.next (by (repeat (first | exact Below.refl _ _ | refine Below.drew ?_ | refine below_drewN ?_ _ | (refine Below.alloc ?_ (by (try simp) <;> omega) _) | (refine Below.setCell ?_ (by (try simp) <;> omega) _) | (refine Below.trans ?_ (Below.mono (by assumption) (by (try simp) <;> omega)))))))).mono ?_; rintro e w1 ⟨x1, rfl, hc1, hb1⟩
  have G1 : ButG g w w1 := ButG.refl.trans ((ButG.of (by (repeat (first | exact Below.refl _ _ | refine Below.drew ?_ | refine below_drewN ?_ _ | (refine Below.alloc ?_ (by (try simp) <;> omega) _) | (refine Below.setCell ?_ (by (try simp) <;> omega) _) | (refine Below.trans ?_ (Below.mono (by assumption) (by (try simp) <;> omega)))))) : ButG g w _).trans hb1)
  have hG1 := Gath.but hG0 g0 hb1
  go_wp2_with fail
  refine (pick_any A c L g (nn + 2) (9) _ hI hl (by omega) (by omega) (hc1.next (by (repeat (first | exact Below.refl _ _ | refine Below.drew ?_ | refine below_drewN ?_ _ | (refine Below.alloc ?_ (by (try simp) <;> omega) _) | (refine Below.setCell ?_ (by (try simp) <;> omega) _) | (refine Below.trans ?_ (Below.mono (by assumption) (by (try simp) <;> omega)))))))).mono ?_; rintro e w2 ⟨x2, rfl, hx2, hc2, hb2⟩
  have G2 : ButG g w w2 := G1.trans ((ButG.of (by (repeat (first | exact Below.refl _ _ | refine Below.drew ?_ | refine below_drewN ?_ _ | (refine Below.alloc ?_ (by (try simp) <;> omega) _) | (refine Below.setCell ?_ (by (try simp) <;> omega) _) | (refine Below.trans ?_ (Below.mono (by assumption) (by (try simp) <;> omega)))))) : ButG g w1 _).trans hb2)
  have hG2 := Gath.but hG1 g0 hb2
  obtain ⟨u2, v2⟩ := hx2
  generalize x1 = calm at *
  clear hb1 hb2 hc1 hG0 hG1 G1
  go_wp2
  go_loopw [3, 4, 6] (fun v3 v4 v6 wr => ∃ (M : List T5) (id j : Int), Gath f5 5 25 wr w.heap.size v3 M ∧ v3 ≠ .slice none 0 0 ∧ v4 = .int .i64 id ∧ v6 = .int .i64 j ∧ (0 ≤ j ∧ M.length + j ≤ 8) ∧ (0 ≤ id ∧ id + 2 * j ≤ 16) ∧ Hid (TripsOk M.length M) ∧ Cur A c L g (nn + 4 + 16 * (8 - j).toNat) wr ∧ ButG g w wr) (fun _ _ v6 _ => (intOf v6).toNat)
  case atStart => exact ⟨[], 0, x2, hG2, by simp, rfl, rfl, ⟨by omega, by simp; omega⟩, ⟨by omega, by omega⟩, TripsOk.nil, hc2.mono (by omega), G2⟩
  case round =>
    obtain ⟨M, id, j, hG, hv3, rfl, rfl, ⟨hj, hMj⟩, ⟨hid0, hid1⟩, hM, hcr, hB⟩ := hrel
    have zr := hB.size
    have hc9 := hcr
    have G9 := hB
    generalize wr = w9 at *
    clear hc2 hG2 G2 hcr hB
    have hn8 : M.length ≤ 8 := by omega
    have hn80 : (M.length : Int) ≤ 8 := by omega
    by_cases hj0 : 0 < j
    · go_wp2_with fail
      refine (pick_any A c L g (nn + 4 + 16 * (8 - j).toNat) (2) _ hI hl (by omega) (by omega) (hc9.next (by (repeat (first | exact Below.refl _ _ | refine Below.drew ?_ | refine below_drewN ?_ _ | (refine Below.alloc ?_ (by (try simp) <;> omega) _) | (refine Below.setCell ?_ (by (try simp) <;> omega) _) | (refine Below.trans ?_ (Below.mono (by assumption) (by (try simp) <;> omega)))))))).mono ?_; rintro e w3 ⟨x3, rfl, hx3, hc3, hb3⟩
      have G3 : ButG g w w3 := G9.trans ((ButG.of (by (repeat (first | exact Below.refl _ _ | refine Below.drew ?_ | refine below_drewN ?_ _ | (refine Below.alloc ?_ (by (try simp) <;> omega) _) | (refine Below.setCell ?_ (by (try simp) <;> omega) _) | (refine Below.trans ?_ (Below.mono (by assumption) (by (try simp) <;> omega)))))) : ButG g w9 _).trans hb3)
      obtain ⟨u3, y3⟩ := hx3
      have hG3' := Gath.but hG g0 hb3
      obtain ⟨id', hid'⟩ : ∃ id', id + 1 + x3 = id' := ⟨_, rfl⟩
      have hid3 : 0 ≤ id' ∧ id' + 2 * (j - 1) ≤ 16 := by omega
      go_wp2_with fail
      refine (trip_any A c L g (nn + 4 + 16 * (8 - j).toNat + 2) id' w3 hI hl (by omega) ⟨by omega, by omega⟩ hc3).mono ?_; rintro e w4 ⟨t, rfl, hsm, hc4, hb4⟩
      have hG4 := Gath.but hG3' g0 hb4
      have G4 := G3.trans hb4
      have z4 := G4.size
      clear hid' u3 y3 hb3 hb4 hc3 hc9 hG hG3' G3 G9 hid0 hid1
      have hqg : w4.heap.size ≠ g := by omega
      have KB := Lib.hid (show Blk (w4.alloc (.cells #[.int .i64 t.1, .int .i64 t.2.1, .int .i64 t.2.2.1, .int .i64 t.2.2.2.1, .int .i64 t.2.2.2.2] 25)) w4.heap.size 25 #[.int .i64 t.1, .int .i64 t.2.1, .int .i64 t.2.2.1, .int .i64 t.2.2.2.1, .int .i64 t.2.2.2.2] from Blk.new w4 _ _)
      have HCZ := Lib.hid (show Cur A c L g _ (w4.alloc (.cells #[.int .i64 t.1, .int .i64 t.2.1, .int .i64 t.2.2.1, .int .i64 t.2.2.2.1, .int .i64 t.2.2.2.2] 25)) from hc4.next (by (repeat (first | exact Below.refl _ _ | refine Below.drew ?_ | refine below_drewN ?_ _ | (refine Below.alloc ?_ (by (try simp) <;> omega) _) | (refine Below.setCell ?_ (by (try simp) <;> omega) _) | (refine Below.trans ?_ (Below.mono (by assumption) (by (try simp) <;> omega)))))))
      have HGZ := Lib.hid (show Gath f5 5 25 (w4.alloc (.cells #[.int .i64 t.1, .int .i64 t.2.1, .int .i64 t.2.2.1, .int .i64 t.2.2.2.1, .int .i64 t.2.2.2.2] 25)) w.heap.size _ M from hG4.below (by (repeat (first | exact Below.refl _ _ | refine Below.drew ?_ | refine below_drewN ?_ _ | (refine Below.alloc ?_ (by (try simp) <;> omega) _) | (refine Below.setCell ?_ (by (try simp) <;> omega) _) | (refine Below.trans ?_ (Below.mono (by assumption) (by (try simp) <;> omega)))))))
      have HBZ := Lib.hid (show ButG g w (w4.alloc (.cells #[.int .i64 t.1, .int .i64 t.2.1, .int .i64 t.2.2.1, .int .i64 t.2.2.2.1, .int .i64 t.2.2.2.2] 25)) from G4.trans (.of (by (repeat (first | exact Below.refl _ _ | refine Below.drew ?_ | refine below_drewN ?_ _ | (refine Below.alloc ?_ (by (try simp) <;> omega) _) | (refine Below.setCell ?_ (by (try simp) <;> omega) _) | (refine Below.trans ?_ (Below.mono (by assumption) (by (try simp) <;> omega))))))))
      go_wp2
      generalize w4.alloc (.cells #[.int .i64 t.1, .int .i64 t.2.1, .int .i64 t.2.2.1, .int .i64 t.2.2.2.1, .int .i64 t.2.2.2.2] 25) = wz at *
      generalize w4.heap.size = q at *
      have hcz := HCZ.out
      have hGz := HGZ.out
      have Gz := HBZ.out
      have zz := Gz.size
      have gz := hcz.lt
      obtain ⟨q5, c5, rfl, hq5, hc5, hl5, hC5⟩ := hGz.form5 hv3
      have kz := KB.out
      have HGz := Lib.hid hGz
      have HV3 := Lib.hid hv3
      clear hc4 hG4 G4 z4 HCZ HGZ HBZ KB hGz hv3
      refine wp_region_grow [.pred (EmpT wz.heap.size), .fix (.slice (some ⟨q5, 0, none⟩) M.length c5), .pred (GathT wz.heap.size M), .val (.agg #[.int .i64 t.1, .int .i64 t.2.1, .int .i64 t.2.2.1, .int .i64 t.2.2.2.1, .int .i64 t.2.2.2.2]), .pred (LitT wz.heap.size t)] mixed (by kernel_rfl) ?_
      refine SeqG.predStep EmpT.next (fun wv hbv hpv => ?_) (fun v0 => ?_)
      · clear hpv
        go_wp2_with fail
        exact post_pred (F := EmpT wz.heap.size) _ (by (repeat (first | exact Below.refl _ _ | refine Below.drew ?_ | refine below_drewN ?_ _ | (refine Below.alloc ?_ (by (try simp) <;> omega) _) | (refine Below.setCell ?_ (by (try simp) <;> omega) _) | (refine Below.trans ?_ (Below.mono (by assumption) (by (try simp) <;> omega)))))) ⟨_, rfl, hbv.size, Gath.made hbv.size⟩
      simp only [Act.put, List.setIfInBounds_toArray, List.set_cons_zero, List.set_cons_succ]
      refine SeqG.fixStep (.inl ⟨rfl, fun _ => rfl⟩) ?_
      simp only [Act.put, List.setIfInBounds_toArray, List.set_cons_zero, List.set_cons_succ]
      refine SeqG.predStep GathT.next (fun wv hbv hpv => ?_) (fun v1 => ?_)
      · obtain ⟨g0, rfl, hg0, hE0⟩ := hpv _ (.head _) (by kernel_rfl)
        clear hpv
        have HP := Lib.hid (cells_flat (f := f5) (m := 5) (fun _ => rfl) (by omega) (hC5.below hbv hl5))
        refine wpList_append_arg _ rfl _ _ 33 rfl 25 i0 (.agg #[.int .i64 0, .int .i64 0, .int .i64 0, .int .i64 0, .int .i64 0]) 5 40 Try.underlying33 HII.out HZ0.out HZ1.out HZ2.out rfl (by decide) g0 0 0 0 [] rfl rfl (by intro j u h; simp at h) ⟨q5, 0, none⟩ M.length c5 (M.flatMap f5) rfl (by rw [flat_len (f := f5) (m := 5) (fun _ => rfl)]) HP.out (flat_one f_one5) ?_ ?_ ?_ ?_ ?_
        · intro h; intro j hj; rw [flat_len (f := f5) (m := 5) (fun _ => rfl)] at hj; omega
        · unfold maxLen; omega
        · omega
        · intro h
          have e0 : M = [] := List.length_eq_zero_iff.1 (by omega)
          have hm0 : M.length = 0 := by omega
          rw [e0]
          simp only [List.flatMap_nil, World.setCells]
          exact ⟨rfl, _, by simp [hm0, Act.put], Below.refl _ _, hE0⟩
        · intro h v' w' hown hgrow
          refine ⟨rfl, v', rfl, below_grown hgrow (fun k h => by cases h), ?_⟩
          have := own_mono hown hbv.size
          unfold GathT Gath; simpa using this
      simp only [Act.put, List.setIfInBounds_toArray, List.set_cons_zero, List.set_cons_succ]
      refine SeqG.valStep (fun wv hbv hpv => ?_) ?_
      · have ct := (kz.below' hbv).cell
        go_wp2_with fail
        exact post_val (Below.refl _ _)
      simp only [Act.put, List.setIfInBounds_toArray, List.set_cons_zero, List.set_cons_succ]
      refine SeqG.predStep LitT.next (fun wv hbv hpv => ?_) (fun v2 => ?_)
      · clear hpv
        go_wp2_with fail
        exact post_pred (F := LitT wz.heap.size t) _ (by (repeat (first | exact Below.refl _ _ | refine Below.drew ?_ | refine below_drewN ?_ _ | (refine Below.alloc ?_ (by (try simp) <;> omega) _) | (refine Below.setCell ?_ (by (try simp) <;> omega) _) | (refine Below.trans ?_ (Below.mono (by assumption) (by (try simp) <;> omega)))))) ⟨wv.heap.size, rfl, hbv.size, Blk.new _ _ _⟩
      simp only [Act.put, List.setIfInBounds_toArray, List.set_cons_zero, List.set_cons_succ]
      refine SeqG.done fun wv hbv hpv => ?_
      obtain ⟨g9, rfl, hg9, hc9⟩ := hpv _ (.head _)
      have hG3 : Gath f5 5 25 wv wz.heap.size v1 (M) := hpv _ (.tail _ (.head _))
      clear hpv
      have zv := hbv.size
      refine SeqNoPan ?_
      refine wpList_append_own _ rfl _ _ 33 rfl wz.heap.size 25 i0 (.agg #[.int .i64 0, .int .i64 0, .int .i64 0, .int .i64 0, .int .i64 0]) 5 40 Try.underlying33 HII.out HZ0.out HZ1.out HZ2.out rfl (by decide) _ _ _ rfl hG3 ⟨g9, 0, none⟩ 1 1 (f5 t) rfl rfl (trip_src hc9) (f_one5 t) ?_ ?_ zv ?_
      · unfold maxLen; omega
      · omega
      intro v' w8 hown hgrow hnil
      have hb8 : Below wz.heap.size wz w8 := below_grown' hbv hgrow hG3 (Nat.le_refl _) zv
      have hG8 : Gath f5 5 25 w8 w.heap.size v' (M ++ [t]) := own_mono (Gath.snoc hown) (by omega)
      have hv8 : v' ≠ .slice none 0 0 := fun e => by have := (hnil.1 e).2; omega
      have HG8 := Lib.hid hG8; have HV8 := Lib.hid hv8
      clear hown hgrow hnil hG3 hc9 hG8 hv8 hbv
      go_wp2_with fail
      refine NoPan.normal ?_
      have hc8 := hcz.next hb8
      have G8 := Gz.trans (.of hb8)
      have HGo8 := Lib.hid (HGz.out.below hb8)
      have HGn8 := HG8
      have kq8 := kz.below' hb8
      have HM9 : Hid (TripsOk (M ++ [t]).length (M ++ [t])) := by show TripsOk _ _; have h := hM.out.snoc hsm; rwa [show M.length + 1 = (M ++ [t]).length by simp] at h
      have HL9 := Lib.hid (show ((M ++ [t]).length : Int) = M.length + 1 by simp)
      have HI9 := Lib.hid (TripsOk.inI HM9.out)
      generalize M ++ [t] = O at *
      have HO8 := Lib.hid (show ∃ c8, ∃ A8, v' = .slice A8 O.length c8 ∧ SlR f5 5 w8 w8.heap.size A8 O from by
        obtain ⟨A8, c8, e8, o8⟩ := Gath.own (f := f5) (m := 5) (fun _ => rfl) HG8.out
        exact ⟨c8, A8, e8, o8.sl⟩)
      obtain ⟨c8, A8, rfl, s8⟩ := HO8.out
      have HVo := HV3
      clear HO8 hC5 hcz Gz zz gz HGz HG8 kz hb8 HV3
      have CG := Lib.hid (l11Good_any A8 c8 O w8 s8 (by rw [HL9.out]; omega) HI9.out)
      go_wp2_with fail
      refine CG.out.mono ?_; rintro e w10 ⟨rfl, hb10⟩
      have hc10 := hc8.next hb10
      have G10 := G8.trans (.of hb10)
      have HGn10 := Lib.hid (HGn8.out.below hb10)
      have HGo10 := Lib.hid (HGo8.out.below hb10)
      have kq10 := kq8.below' hb10
      clear CG s8 hb10 hc8 G8 HGn8 HGo8 kq8
      generalize tripsB O = good
      have own10 : ∀ (wx : World), Gath f5 5 25 wx w.heap.size (.slice (some ⟨q5, 0, none⟩) M.length c5) M → SlR f5 5 wx wx.heap.size (some ⟨q5, 0, none⟩) M := fun wx h => by
        obtain ⟨A9, c9, e9, o9⟩ := Gath.own (f := f5) (m := 5) (fun _ => rfl) h
        cases e9; exact o9.sl
      have OWN := Lib.hid own10
      clear own10
      cases good
      case true =>
        have HSo10 := Lib.hid (OWN.out _ HGo10.out)
        cases calm
        case false =>
          go_wp2
          go_roundw
          case rel => exact ⟨O, id', j - 1, HGn10.out, HV8.out, rfl, by go_num, ⟨by omega, by rw [HL9.out]; omega⟩, ⟨by omega, by omega⟩, HM9, hc10.mono (by omega), G10⟩
          case measure => simp only [intOf]; omega
        case true =>
          have C30 := Lib.hid (l11FreeW_any (some ⟨q5, 0, none⟩) c5 M t w10 HSo10.out (by omega) (fun x hx => (hM.out.2 x hx).trW) hsm.trW)
          have e30 := kq10.cell
          go_wp2_with fail
          refine C30.out.mono ?_; rintro e w30 ⟨rfl, hb30⟩
          have hc30 := hc10.next hb30
          have G30 := G10.trans (.of hb30)
          have HGn30 := Lib.hid (HGn10.out.below hb30)
          have HGo30 := Lib.hid (HGo10.out.below hb30)
          clear e30 C30 hb30
          cases metB M t
          case false =>
            go_wp2
            go_roundw
            case rel => exact ⟨O, id', j - 1, HGn30.out, HV8.out, rfl, by go_num, ⟨by omega, by rw [HL9.out]; omega⟩, ⟨by omega, by omega⟩, HM9, hc30.mono (by omega), G30⟩
            case measure => simp only [intOf]; omega
          case true =>
            go_wp2
            go_roundw
            case rel => exact ⟨M, id', j - 1, HGo30.out, HVo.out, rfl, by go_num, ⟨by omega, by omega⟩, ⟨by omega, by omega⟩, hM, hc30.mono (by omega), G30⟩
            case measure => simp only [intOf]; omega
      case false =>
        go_wp2_with fail
        refine (one_any A c L g (nn + 4 + 16 * (8 - j).toNat + 2 + 12) (40) _ hI hl (by omega) (by omega) (hc10.next (by (repeat (first | exact Below.refl _ _ | refine Below.drew ?_ | refine below_drewN ?_ _ | (refine Below.alloc ?_ (by (try simp) <;> omega) _) | (refine Below.setCell ?_ (by (try simp) <;> omega) _) | (refine Below.trans ?_ (Below.mono (by assumption) (by (try simp) <;> omega)))))))).mono ?_; rintro e w11 ⟨x11, rfl, hc11, hb11⟩
        have G11 : ButG g w w11 := G10.trans ((ButG.of (by (repeat (first | exact Below.refl _ _ | refine Below.drew ?_ | refine below_drewN ?_ _ | (refine Below.alloc ?_ (by (try simp) <;> omega) _) | (refine Below.setCell ?_ (by (try simp) <;> omega) _) | (refine Below.trans ?_ (Below.mono (by assumption) (by (try simp) <;> omega)))))) : ButG g w10 _).trans hb11)
        have HGn11 := Lib.hid (Gath.but HGn10.out g0 hb11)
        have HGo11 := Lib.hid (Gath.but HGo10.out g0 hb11)
        have kq11 := kq10.but hb11 hqg
        have HSo11 := Lib.hid (OWN.out _ HGo11.out)
        clear hb11 hc10 G10 kq10
        cases x11
        case false =>
          go_wp2
          go_roundw
          case rel => exact ⟨M, id', j - 1, HGo11.out, HVo.out, rfl, by go_num, ⟨by omega, by omega⟩, ⟨by omega, by omega⟩, hM, hc11.mono (by omega), G11⟩
          case measure => simp only [intOf]; omega
        case true =>
          cases calm
          case false =>
            go_wp2
            go_roundw
            case rel => exact ⟨O, id', j - 1, HGn11.out, HV8.out, rfl, by go_num, ⟨by omega, by rw [HL9.out]; omega⟩, ⟨by omega, by omega⟩, HM9, hc11.mono (by omega), G11⟩
            case measure => simp only [intOf]; omega
          case true =>
            have C30 := Lib.hid (l11FreeW_any (some ⟨q5, 0, none⟩) c5 M t w11 HSo11.out (by omega) (fun x hx => (hM.out.2 x hx).trW) hsm.trW)
            have e30 := kq11.cell
            go_wp2_with fail
            refine C30.out.mono ?_; rintro e w30 ⟨rfl, hb30⟩
            have hc30 := hc11.next hb30
            have G30 := G11.trans (.of hb30)
            have HGn30 := Lib.hid (HGn11.out.below hb30)
            have HGo30 := Lib.hid (HGo11.out.below hb30)
            clear e30 C30 hb30
            cases metB M t
            case false =>
              go_wp2
              go_roundw
              case rel => exact ⟨O, id', j - 1, HGn30.out, HV8.out, rfl, by go_num, ⟨by omega, by rw [HL9.out]; omega⟩, ⟨by omega, by omega⟩, HM9, hc30.mono (by omega), G30⟩
              case measure => simp only [intOf]; omega
            case true =>
              go_wp2
              go_roundw
              case rel => exact ⟨M, id', j - 1, HGo30.out, HVo.out, rfl, by go_num, ⟨by omega, by omega⟩, ⟨by omega, by omega⟩, hM, hc30.mono (by omega), G30⟩
              case measure => simp only [intOf]; omega
    · have hj2 : ¬ 0 < j := hj0
      have hc9' : Cur A c L g (nn + 132) w9 := hc9.mono (by omega)
      clear hc9 hid0 hid1
      have hc9 := hc9'
      clear hc9'
      go_wp2_with fail
      refine (pick_any A c L g (nn + 132) (30) _ hI hl (by omega) (by omega) (hc9.next (by (repeat (first | exact Below.refl _ _ | refine Below.drew ?_ | refine below_drewN ?_ _ | (refine Below.alloc ?_ (by (try simp) <;> omega) _) | (refine Below.setCell ?_ (by (try simp) <;> omega) _) | (refine Below.trans ?_ (Below.mono (by assumption) (by (try simp) <;> omega)))))))).mono ?_; rintro e w12 ⟨x12, rfl, hx12, hc12, hb12⟩
      have G12 : ButG g w w12 := G9.trans ((ButG.of (by (repeat (first | exact Below.refl _ _ | refine Below.drew ?_ | refine below_drewN ?_ _ | (refine Below.alloc ?_ (by (try simp) <;> omega) _) | (refine Below.setCell ?_ (by (try simp) <;> omega) _) | (refine Below.trans ?_ (Below.mono (by assumption) (by (try simp) <;> omega)))))) : ButG g w9 _).trans hb12)
      have hG12 := Gath.but hG g0 hb12
      have z12 := G12.size
      obtain ⟨u12, y12⟩ := hx12
      clear hb12 hc9 G9 hG zr hj hMj hj2 hj0
      by_cases h0 : x12 = 0
      · have q0 : (x12 == 0) = true := by simpa using h0
        have H0 := Lib.hid h0; clear h0 u12 y12
        have hE := Gath.made (f := f5) (m := 5) (t := 25) (B := w.heap.size) (w := w12) z12
        have hcE : Cur A c L g (nn + 134) (w12.alloc (.cells #[] 25 (0, 0))) := hc12.next (by (repeat (first | exact Below.refl _ _ | refine Below.drew ?_ | refine below_drewN ?_ _ | (refine Below.alloc ?_ (by (try simp) <;> omega) _) | (refine Below.setCell ?_ (by (try simp) <;> omega) _) | (refine Below.trans ?_ (Below.mono (by assumption) (by (try simp) <;> omega))))))
        have GE := G12.alloc (.cells #[] 25 (0, 0))
        clear hG12 hc12 G12 hv3
        go_wp2
        go_loopw [3, 9] (fun v3 v9 wr => ∃ (M' : List T5) (n : Int), Gath f5 5 25 wr w.heap.size v3 M' ∧ v3 ≠ .slice none 0 0 ∧ v9 = .int .i64 n ∧ (0 ≤ n ∧ n ≤ 11 ∧ (M'.length : Int) ≤ n) ∧ Hid (∀ x ∈ M', SmT x) ∧ Cur A c L g (nn + 134 + 2 * n.toNat) wr ∧ ButG g w wr) (fun _ v9 _ => (11 - intOf v9).toNat)
        case atStart => exact ⟨[], 0, hE, by simp, rfl, ⟨by omega, by omega, by simp⟩, fun x hx => by (cases hx), hcE.mono (by omega), GE⟩
        case round =>
          obtain ⟨M', n, hG, hv3, rfl, ⟨hn0, hn1, hMn⟩, hM', hcr, hB⟩ := hrel
          have hc20 := hcr
          have G20 := hB
          generalize wr = w20 at *
          clear hE hcE GE hcr hB
          go_wp2_with fail
          refine (pick_any A c L g (nn + 134 + 2 * n.toNat) (2) _ hI hl (by omega) (by omega) (hc20.next (by (repeat (first | exact Below.refl _ _ | refine Below.drew ?_ | refine below_drewN ?_ _ | (refine Below.alloc ?_ (by (try simp) <;> omega) _) | (refine Below.setCell ?_ (by (try simp) <;> omega) _) | (refine Below.trans ?_ (Below.mono (by assumption) (by (try simp) <;> omega)))))))).mono ?_; rintro e w21 ⟨x21, rfl, hx21, hc21, hb21⟩
          have G21 : ButG g w w21 := G20.trans ((ButG.of (by (repeat (first | exact Below.refl _ _ | refine Below.drew ?_ | refine below_drewN ?_ _ | (refine Below.alloc ?_ (by (try simp) <;> omega) _) | (refine Below.setCell ?_ (by (try simp) <;> omega) _) | (refine Below.trans ?_ (Below.mono (by assumption) (by (try simp) <;> omega)))))) : ButG g w20 _).trans hb21)
          have hG21 := Gath.but hG g0 hb21
          have z21 := G21.size
          obtain ⟨u21, y21⟩ := hx21
          clear hb21 hc20 G20 hG
          by_cases hlt : n < 10 + x21
          · have HG := Lib.hid (Gath.alloc hG21 (.cells #[.int .i64 (n + 1), .int .i64 0, .int .i64 2, .int .i64 (480 + 10 * n), .int .i64 2] 25))
            have HG0 := Lib.hid hG21
            clear hG21
            have hMl : M'.length ≤ 11 := by omega
            go_wp2_with (at_builtin; refine wpList_append_own _ rfl _ _ 33 rfl w.heap.size 25 i0 (.agg #[.int .i64 0, .int .i64 0, .int .i64 0, .int .i64 0, .int .i64 0]) 5 40 Try.underlying33 HII.out HZ0.out HZ1.out HZ2.out rfl (by decide) _ _ _ rfl HG.out ⟨_, 0, none⟩ 1 1 (f5 (n + 1, 0, 2, 480 + 10 * n, 2)) rfl rfl (lit_cells _ _ _) (f_one5 _) ?c3 ?c4 ?c5 ?c6)
            case c3 => unfold maxLen; first | omega | (simp; omega)
            case c4 => first | omega | (simp; omega)
            case c5 => first | omega | (simp; omega)
            case c6 =>
              intro v' w8 hown hgrow hnil
              have hG8 : Gath f5 5 25 w8 w.heap.size v' (M' ++ [(n + 1, 0, 2, 480 + 10 * n, 2)]) := Gath.snoc hown
              have hv8 : v' ≠ .slice none 0 0 := by first | exact hnil | exact fun e => by have := (hnil.1 e).2; omega
              have hc8 : Cur A c L g (nn + 134 + 2 * n.toNat + 2) w8 := (hc21.next (by (repeat (first | exact Below.refl _ _ | refine Below.drew ?_ | refine below_drewN ?_ _ | (refine Below.alloc ?_ (by (try simp) <;> omega) _) | (refine Below.setCell ?_ (by (try simp) <;> omega) _) | (refine Below.trans ?_ (Below.mono (by assumption) (by (try simp) <;> omega)))))) : Cur A c L g (nn + 134 + 2 * n.toNat + 2) (w21.alloc (.cells #[.int .i64 (n + 1), .int .i64 0, .int .i64 2, .int .i64 (480 + 10 * n), .int .i64 2] 25))).grown hgrow (fun k hk => by have := HG0.out.rowGe k hk; omega)
              have G8 : ButG g w w8 := (G21.alloc _).grown hgrow (fun k hk => HG0.out.rowGe k hk)
              have HL8 := Lib.hid (show ((M' ++ [(n + 1, 0, 2, 480 + 10 * n, 2)]).length : Int) = M'.length + 1 by simp)
              have HM8 : Hid (∀ x ∈ M' ++ [((n + 1, 0, 2, 480 + 10 * n, 2) : T5)], SmT x) := fun x hx => by
                rw [List.mem_append] at hx
                rcases hx with hx | hx
                · exact hM'.out x hx
                · rw [List.mem_singleton] at hx; subst hx; unfold SmT Small; simp; omega
              clear hown hgrow hnil HG HG0 hc21 G21
              go_wp2
              go_roundw
              case rel => exact ⟨_, n + 1, hG8, hv8, by go_num, ⟨by omega, by omega, by rw [HL8.out]; omega⟩, HM8, hc8.mono (by omega), G8⟩
              case measure => simp only [intOf]; omega
          · have HX := Lib.hid (curTs_end (n' := nn + 200) hG21 hv3 ⟨by omega, hM'.out⟩ hc21 (by omega) G21)
            clear hG21 hv3 hc21 G21
            go_wp2
            go_ret
            exact HX.out
      have q0 : (x12 == 0) = false := by simpa using h0
      by_cases h1 : x12 = 1
      · have q1 : (x12 == 1) = true := by simpa using h1
        have H1 := Lib.hid h1; clear h0 h1 u12 y12
        obtain ⟨q5, c5, rfl, hq5, hc5, hl5, hC5⟩ := hG12.form5 hv3
        by_cases hM1 : 1 < M.length
        · have hM1i : (1 : Int) < (M.length : Int) := by omega
          have hx : M[0]? = some (M[0]'(by omega)) := List.getElem?_eq_getElem _
          generalize M[0]'(by omega) = x0 at hx
          have hxs := hM.out.2 x0 (List.mem_of_getElem? hx)
          have hk1 : ¬ (c5 = 1) := by omega
          have hk2 : (1 : Int) ≤ (c5 : Int) := by omega
          have HX := Lib.hid hx
          have HDL := Lib.hid (show (M.drop 1 ++ [x0]).length ≤ 12 by rw [List.length_append, List.length_drop]; simp; omega)
          have HDM : Hid (∀ x ∈ M.drop 1 ++ [x0], SmT x) := fun x hx => by
            rw [List.mem_append] at hx
            rcases hx with hx | hx
            · exact hM.out.2 x (List.mem_of_mem_drop hx)
            · rw [List.mem_singleton] at hx; rw [hx]; exact hxs
          generalize w12 = wz at *
          clear hx hG12 hv3
          go_wp2
          refine wp_region_grow [.pred (EmpT wz.heap.size), .fix (.slice (some ⟨q5, 0, none⟩) M.length c5), .val (.slice (some ⟨q5, 5, none⟩) (M.length - 1) (c5 - 1)), .pred (GathT wz.heap.size (M.drop 1)), .fix (.slice (some ⟨q5, 0, none⟩) M.length c5), .val (.pointer (some ⟨q5, 0, none⟩)), .val (.agg #[.int .i64 x0.1, .int .i64 x0.2.1, .int .i64 x0.2.2.1, .int .i64 x0.2.2.2.1, .int .i64 x0.2.2.2.2]), .pred (LitT wz.heap.size x0)] mixed (by kernel_rfl) ?_
          refine SeqG.predStep EmpT.next (fun wv hbv hpv => ?_) (fun v0 => ?_)
          · clear hpv
            go_wp2_with fail
            exact post_pred (F := EmpT wz.heap.size) _ (by (repeat (first | exact Below.refl _ _ | refine Below.drew ?_ | refine below_drewN ?_ _ | (refine Below.alloc ?_ (by (try simp) <;> omega) _) | (refine Below.setCell ?_ (by (try simp) <;> omega) _) | (refine Below.trans ?_ (Below.mono (by assumption) (by (try simp) <;> omega)))))) ⟨_, rfl, hbv.size, Gath.made hbv.size⟩
          simp only [Act.put, List.setIfInBounds_toArray, List.set_cons_zero, List.set_cons_succ]
          refine SeqG.fixStep (.inl ⟨rfl, fun _ => rfl⟩) ?_
          simp only [Act.put, List.setIfInBounds_toArray, List.set_cons_zero, List.set_cons_succ]
          refine SeqG.valStep (fun wv hbv hpv => ?_) ?_
          · skip
            go_wp2_with fail
            exact post_val (Below.refl _ _)
          simp only [Act.put, List.setIfInBounds_toArray, List.set_cons_zero, List.set_cons_succ]
          refine SeqG.predStep GathT.next (fun wv hbv hpv => ?_) (fun v1 => ?_)
          · obtain ⟨g0, rfl, hg0, hE0⟩ := hpv _ (.head _) (by kernel_rfl)
            clear hpv
            have HP := Lib.hid (cells_flat (f := f5) (m := 5) (fun _ => rfl) (by omega) (cells_drop (hC5.below hbv hl5) 1))
            refine wpList_append_arg _ rfl _ _ 33 rfl 25 i0 (.agg #[.int .i64 0, .int .i64 0, .int .i64 0, .int .i64 0, .int .i64 0]) 5 40 Try.underlying33 HII.out HZ0.out HZ1.out HZ2.out rfl (by decide) g0 0 0 0 [] rfl rfl (by intro j u h; simp at h) ⟨q5, 5, none⟩ (M.length - 1) (c5 - 1) ((M.drop 1).flatMap f5) rfl (by rw [flat_len (f := f5) (m := 5) (fun _ => rfl), List.length_drop]) HP.out (flat_one f_one5) ?_ ?_ ?_ ?_ ?_
            · intro h; intro j hj; rw [flat_len (f := f5) (m := 5) (fun _ => rfl), List.length_drop] at hj; omega
            · unfold maxLen; omega
            · omega
            · intro h
              have e0 : (M.drop 1) = [] := List.length_eq_zero_iff.1 (by rw [List.length_drop]; omega)
              have hm0 : (M.length - 1) = 0 := by omega
              rw [e0]
              simp only [List.flatMap_nil, World.setCells]
              exact ⟨rfl, _, by simp [hm0, Act.put], Below.refl _ _, hE0⟩
            · intro h v' w' hown hgrow
              refine ⟨rfl, v', rfl, below_grown hgrow (fun k h => by cases h), ?_⟩
              have := own_mono hown hbv.size
              unfold GathT Gath; rw [List.length_drop]; simpa using this
          simp only [Act.put, List.setIfInBounds_toArray, List.set_cons_zero, List.set_cons_succ]
          refine SeqG.fixStep (.inl ⟨rfl, fun _ => rfl⟩) ?_
          simp only [Act.put, List.setIfInBounds_toArray, List.set_cons_zero, List.set_cons_succ]
          refine SeqG.valStep (fun wv hbv hpv => ?_) ?_
          · skip
            go_wp2_with fail
            exact post_val (Below.refl _ _)
          simp only [Act.put, List.setIfInBounds_toArray, List.set_cons_zero, List.set_cons_succ]
          refine SeqG.valStep (fun wv hbv hpv => ?_) ?_
          · obtain ⟨e0, e1, e2, e3, e4⟩ := cells5 (hC5.below hbv hl5) HX.out; simp only [Nat.zero_add, Nat.zero_mul] at e0 e1 e2 e3 e4
            go_wp2_with fail
            exact post_val (Below.refl _ _)
          simp only [Act.put, List.setIfInBounds_toArray, List.set_cons_zero, List.set_cons_succ]
          refine SeqG.predStep LitT.next (fun wv hbv hpv => ?_) (fun v2 => ?_)
          · clear hpv
            go_wp2_with fail
            exact post_pred (F := LitT wz.heap.size x0) _ (by (repeat (first | exact Below.refl _ _ | refine Below.drew ?_ | refine below_drewN ?_ _ | (refine Below.alloc ?_ (by (try simp) <;> omega) _) | (refine Below.setCell ?_ (by (try simp) <;> omega) _) | (refine Below.trans ?_ (Below.mono (by assumption) (by (try simp) <;> omega)))))) ⟨wv.heap.size, rfl, hbv.size, Blk.new _ _ _⟩
          simp only [Act.put, List.setIfInBounds_toArray, List.set_cons_zero, List.set_cons_succ]
          refine SeqG.done fun wv hbv hpv => ?_
          obtain ⟨g9, rfl, hg9, hc9⟩ := hpv _ (.head _)
          have hG3 : Gath f5 5 25 wv wz.heap.size v1 (M.drop 1) := hpv _ (.tail _ (.head _))
          clear hpv
          have zv := hbv.size
          refine SeqNoPan ?_
          refine wpList_append_own _ rfl _ _ 33 rfl wz.heap.size 25 i0 (.agg #[.int .i64 0, .int .i64 0, .int .i64 0, .int .i64 0, .int .i64 0]) 5 40 Try.underlying33 HII.out HZ0.out HZ1.out HZ2.out rfl (by decide) _ _ _ rfl hG3 ⟨g9, 0, none⟩ 1 1 (f5 x0) rfl rfl (trip_src hc9) (f_one5 x0) ?_ ?_ zv ?_
          · rw [List.length_drop]; unfold maxLen; omega
          · rw [List.length_drop]; omega
          intro v' w8 hown hgrow hnil
          have hb8 : Below wz.heap.size wz w8 := below_grown' hbv hgrow hG3 (Nat.le_refl _) zv
          have hG8 : Gath f5 5 25 w8 w.heap.size v' (M.drop 1 ++ [x0]) := own_mono (Gath.snoc hown) (by omega)
          have hv8 : v' ≠ .slice none 0 0 := fun e => by have := (hnil.1 e).2; omega
          have HG8 := Lib.hid hG8; have HV8 := Lib.hid hv8
          clear hown hgrow hnil hG3 hc9 hG8 hv8 hbv
          go_wp2_with fail
          refine NoPan.normal ?_
          have hc8 := hc12.next hb8
          have G8 := G12.trans (.of hb8)
          have HX2 := Lib.hid (curTs_end (n' := nn + 200) HG8.out HV8.out ⟨HDL.out, HDM.out⟩ hc8 (by omega) G8)
          clear hc8 G8 HG8 HV8 hc12 G12 hb8 hC5
          go_wp2
          go_ret
          exact HX2.out
        · have hM1i : ¬ (1 : Int) < (M.length : Int) := by omega
          have HX := Lib.hid (curTs_end (n' := nn + 200) hG12 hv3 ⟨by omega, hM.out.2⟩ hc12 (by omega) G12)
          clear hG12 hv3 hc12 G12 hC5
          go_wp2
          go_ret
          exact HX.out
      have q1 : (x12 == 1) = false := by simpa using h1
      have HX := Lib.hid (curTs_end (n' := nn + 200) hG12 hv3 ⟨by omega, hM.out.2⟩ hc12 (by omega) G12)
      clear h0 h1 hG12 hv3 hc12 G12 u12 y12
      go_wp2
      go_ret
      exact HX.out
end Go.Proofs.Ytfcmfadkkfkidaa
