/-
  MeetingTrips: the reference.
-/
import Derived.Test.YtfcmfadkkfkidaaMt0
import Derived.Test.YtfcmfadkkfkidaaTrip4
import Derived.Test.YtfcmfadkkfkidaaRegion
import Derived.Deep.DeepCutAuto
import Derived.WalkKit
import Derived.WalkSpells
import Derived.WalkLawsBesides
import Derived.Lib.Hide
import Derived.Deep.QuietTactic
import Derived.BigQuiet
import Derived.StillTailTactics
namespace Go.Proofs.Ytfcmfadkkfkidaa
open Go.RowKit

theorem RowOk.blk {w : World} {g B : Nat} {L : List Int} (hk : Blk w g 3 (L.map (Value.int .i64)).toArray) (hB : B ≤ g) (n : Nat) : RowOk w B (some ⟨g, 0, none⟩, n, L) := by
  refine ⟨g, rfl, hB, ⟨_, hk, by simp⟩, fun k y hy j u hu => ?_⟩
  have hj : j = 0 := by
    have := (List.getElem?_eq_some_iff.1 hu).1
    simp [f1] at this; omega
  subst hj
  simp [f1] at hu
  subst hu
  rw [Nat.zero_add, Nat.mul_one, Nat.add_zero, hk.cell]
  simp [hy]

set_option maxRecDepth 20000 in
set_option maxHeartbeats 8000000 in
theorem SMeetingTrips_any (A : Option Addr) (c : Nat) (L : List T5) (w : World) (hr : SlR f5 5 w w.heap.size A L) (hm : (L.length : Int) ≤ 1048576) (hI : ∀ x ∈ L, InI5 x) :
    Calls Try.prog 41 #[.slice A L.length c] w (NewSS2 w (mtL L) (tripsB L)) := by
  obtain ⟨i0, hi, hz0, hz1, hz2⟩ := info_parts infoRow
  have HI := Lib.hid hi; have HZ0 := Lib.hid hz0; have HZ1 := Lib.hid hz1; have HZ2 := Lib.hid hz2
  clear hi hz0 hz1 hz2
  have HII := Lib.hid hI; clear hI
  have hm0 : (0 : Int) ≤ L.length := by omega
  have hr1 := hr.alloc (.cells #[] 44 (0, 0))
  have hG1 := Lib.hid (GathS.made (w := w) (B := w.heap.size) (Nat.le_refl _))
  have hb1 : Below w.heap.size w (w.alloc (.cells #[] 44 (0, 0))) := by (repeat (first | exact Below.refl _ _ | refine Below.drew ?_ | refine below_drewN ?_ _ | (refine Below.alloc ?_ (by (try simp) <;> omega) _) | (refine Below.setCell ?_ (by (try simp) <;> omega) _) | (refine Below.trans ?_ (Below.mono (by assumption) (by (try simp) <;> omega)))))
  cases h1 : tripsB L
  · have Hv := Lib.hid (mtL_no h1)
    go_enter Try.func41, Try.ntmps41
    go_wp2_with fail
    refine (l11Good_any _ _ L _ hr1 hm HII.out).mono ?_; rintro e w2 ⟨rfl, hb2⟩
    rw [h1]
    go_wp2
    go_ret2
    exact ⟨some ⟨w.heap.size, 0, none⟩, 0, [], rfl, by rw [Hv.out]; rfl, OwnSS.nil, hb1.trans (hb2.mono hb1.size)⟩
  have Hv := Lib.hid (mtL_yes h1)
  have HL := Lib.hid (trOk_all h1)
  have hl10 := trips_len h1
  have HP := Lib.hid (fun k n (hk : k ≤ L.length) (hn : n ≤ L.length) => mp_len h1 hk hn)
  go_enter Try.func41, Try.ntmps41
  go_wp2_with fail
  refine (l11Good_any _ _ L _ hr1 hm HII.out).mono ?_; rintro e w2 ⟨rfl, hb2⟩
  rw [h1]
  have hb02 := hb1.trans (hb2.mono hb1.size)
  have hG2 := Lib.hid (hG1.out.below hb2)
  clear h1 hr1 hG1 hb1 hb2
  generalize hB0 : w.heap.size = B0 at *
  have HB0 := Lib.hid hB0; clear hB0
  go_wp2
  go_loopw [4, 5, 6] (fun v4 v5 v6 wr => ∃ (k : Nat) (M : List Elt), v5 = .int .i64 k ∧ k ≤ L.length ∧ Hid (lls M = mpL L k) ∧ Hid (GathS wr B0 v4 M) ∧ Below B0 w wr) (fun _ v5 _ _ => (L.length - intOf v5).toNat)
  case atStart => exact ⟨0, [], rfl, by omega, rfl, hG2, hb02⟩
  case round =>
    obtain ⟨k, M, rfl, hk, hM, hG, hb⟩ := hrel
    by_cases hlt : k < L.length
    · have hx : L[k]? = some L[k] := List.getElem?_eq_getElem hlt
      obtain ⟨b, off, rfl, hB, hcs⟩ := hr (SlR.ne hx)
      generalize L[k] = x at *
      have hk0 : (0 : Int) ≤ (k : Int) := by omega
      have hk1 : (k : Int) < (L.length : Int) := by omega
      have htx : TrOk x := HL.out x (List.mem_of_getElem? hx)
      have HX := Lib.hid hx; clear hx
      go_wp2
      go_loopw [4, 6] (fun v4 v6 wr => ∃ (j : Nat) (M : List Elt), v6 = .int .i64 j ∧ (k + 1 ≤ j ∧ j ≤ L.length) ∧ Hid (lls M = mpL L k ++ mpIn L k (j - (k + 1))) ∧ Hid (GathS wr B0 v4 M) ∧ Below B0 w wr) (fun _ v6 _ => (L.length - intOf v6).toNat)
      case atStart => exact ⟨k + 1, M, by go_num, ⟨Nat.le_refl _, by omega⟩, (by rw [hM.out, Nat.sub_self]; simp [mpIn] : lls M = mpL L k ++ mpIn L k (k + 1 - (k + 1))), hG, hb⟩
      case round =>
        clear hG hb hM
        obtain ⟨j, M, rfl, ⟨hj0, hj⟩, hM, hG, hb⟩ := hrel
        have zr := hb.size
        have zB : B0 ≤ w.heap.size := by have := HB0.out; omega
        by_cases hlt2 : j < L.length
        · have hy : L[j]? = some L[j] := List.getElem?_eq_getElem hlt2
          generalize L[j] = y at *
          have hC := hcs.below hb hB
          have hBr : b < wr.heap.size := by omega
          have hx := HX.out
          have hj1 : (0 : Int) ≤ (j : Int) := by omega
          have hj2 : (j : Int) < (L.length : Int) := by omega
          have hty : TrOk y := HL.out y (List.mem_of_getElem? hy)
          clear hlt hlt2
          go_wp2
          refine wp_region_grow [.fix (.slice (some ⟨b, off, none⟩) L.length c), .fix (.int .i64 k), .val (.pointer (some ⟨b, off + k * 5, none⟩)), .val (.agg #[.int .i64 x.1, .int .i64 x.2.1, .int .i64 x.2.2.1, .int .i64 x.2.2.2.1, .int .i64 x.2.2.2.2]), .fix (.slice (some ⟨b, off, none⟩) L.length c), .fix (.int .i64 j), .val (.pointer (some ⟨b, off + j * 5, none⟩)), .val (.agg #[.int .i64 y.1, .int .i64 y.2.1, .int .i64 y.2.2.1, .int .i64 y.2.2.2.1, .int .i64 y.2.2.2.2]), .val (.bool (meetB x y))] mixed (by kernel_rfl) ?_
          refine SeqG.fixStep (.inl ⟨rfl, fun _ => rfl⟩) ?_
          simp only [Act.put, List.setIfInBounds_toArray, List.set_cons_zero, List.set_cons_succ]
          refine SeqG.fixStep (.inl ⟨rfl, fun _ => rfl⟩) ?_
          simp only [Act.put, List.setIfInBounds_toArray, List.set_cons_zero, List.set_cons_succ]
          refine SeqG.valStep (fun wv hbv hpv => ?_) ?_
          · skip
            go_wp2_with fail
            exact post_val (Below.refl _ _)
          simp only [Act.put, List.setIfInBounds_toArray, List.set_cons_zero, List.set_cons_succ]
          refine SeqG.valStep (fun wv hbv hpv => ?_) ?_
          · obtain ⟨c0, c1, c2, c3, c4⟩ := cells5 (hC.below hbv hBr) hx
            go_wp2_with fail
            exact post_val (Below.refl _ _)
          simp only [Act.put, List.setIfInBounds_toArray, List.set_cons_zero, List.set_cons_succ]
          refine SeqG.fixStep (.inl ⟨rfl, fun _ => rfl⟩) ?_
          simp only [Act.put, List.setIfInBounds_toArray, List.set_cons_zero, List.set_cons_succ]
          refine SeqG.fixStep (.inl ⟨rfl, fun _ => rfl⟩) ?_
          simp only [Act.put, List.setIfInBounds_toArray, List.set_cons_zero, List.set_cons_succ]
          refine SeqG.valStep (fun wv hbv hpv => ?_) ?_
          · skip
            go_wp2_with fail
            exact post_val (Below.refl _ _)
          simp only [Act.put, List.setIfInBounds_toArray, List.set_cons_zero, List.set_cons_succ]
          refine SeqG.valStep (fun wv hbv hpv => ?_) ?_
          · obtain ⟨c0, c1, c2, c3, c4⟩ := cells5 (hC.below hbv hBr) hy
            go_wp2_with fail
            exact post_val (Below.refl _ _)
          simp only [Act.put, List.setIfInBounds_toArray, List.set_cons_zero, List.set_cons_succ]
          refine SeqG.valStep (fun wv hbv hpv => ?_) ?_
          · go_wp2_with fail
            refine (l11Meet_any x y _ htx hty).mono ?_; rintro e w' ⟨he, hb⟩; subst he
            go_wp2_with fail
            exact post_val hb
          simp only [Act.put, List.setIfInBounds_toArray, List.set_cons_zero, List.set_cons_succ]
          refine SeqG.done fun wv hbv hpv => ?_
          refine NoPan.normal ?_
          clear hpv
          have hb2 : Below B0 w wv := hb.trans (hbv.mono (by omega))
          have hG2 := Lib.hid (hG.out.below hbv)
          have z2 := hbv.size
          have hCv := hC.below hbv hBr
          have hBv : b < wv.heap.size := by omega
          clear hb hG hbv hC hBr zr
          have hC := hCv; have hBr := hBv; have hb := hb2; have hG := hG2
          clear hCv hBv hb2 hG2
          generalize hW0 : wv = W0 at *
          clear hW0
          have zr := hb.size
          have hjs : j + 1 - (k + 1) = (j - (k + 1)) + 1 := by omega
          have hjk : k + 1 + (j - (k + 1)) = j := by omega
          cases hmt : meetB x y
          · have HM : Hid (lls M = mpL L k ++ mpIn L k (j + 1 - (k + 1))) := (by rw [hM.out, hjs, mpIn, hjk, mpRow_no hx hy hmt, List.append_nil] : lls M = mpL L k ++ mpIn L k (j + 1 - (k + 1)))
            clear hM hjs hjk hx hy hmt
            go_wp2
            go_roundw
            case rel => exact ⟨j + 1, M, by go_num, ⟨by omega, by omega⟩, HM, hG, hb⟩
            case measure => simp only [intOf]; omega
          · have HMl := Lib.hid (show M.length ≤ 110 by rw [← lls_len, hM.out]; exact HP.out k (j - (k + 1)) (by omega) (by omega))
            have hMl : M.length ≤ 110 := HMl.out
            have HMM : Hid (mpL L k ++ mpIn L k (j + 1 - (k + 1)) = lls M ++ [[x.1, y.1]]) := (by rw [hM.out, hjs, mpIn, hjk, mpRow_yes hx hy hmt, List.append_assoc] : mpL L k ++ mpIn L k (j + 1 - (k + 1)) = lls M ++ [[x.1, y.1]])
            clear hM hjs hjk hmt
            go_wp2
            refine wp_region_grow [.fix (u4), .fix (.slice (some ⟨b, off, none⟩) L.length c), .fix (.int .i64 k), .val (.pointer (some ⟨b, off + k * 5, none⟩)), .val (.pointer (some ⟨b, off + k * 5, none⟩)), .val (.int .i64 x.1), .fix (.slice (some ⟨b, off, none⟩) L.length c), .fix (.int .i64 j), .val (.pointer (some ⟨b, off + j * 5, none⟩)), .val (.pointer (some ⟨b, off + j * 5, none⟩)), .val (.int .i64 y.1), .pred (fun v w' => ∃ g, v = .slice (some ⟨g, 0, none⟩) 2 2 ∧ W0.heap.size ≤ g ∧ Blk w' g 3 #[.int .i64 x.1, .int .i64 y.1]), .pred (fun v w' => ∃ g g', v = .slice (some ⟨g', 0, none⟩) 1 1 ∧ Blk w' g' 44 #[.slice (some ⟨g, 0, none⟩) 2 2] ∧ W0.heap.size ≤ g ∧ Blk w' g 3 #[.int .i64 x.1, .int .i64 y.1])] mixed (by kernel_rfl) ?_
            refine SeqG.fixStep (.inl ⟨rfl, fun _ => rfl⟩) ?_
            simp only [Act.put, List.setIfInBounds_toArray, List.set_cons_zero, List.set_cons_succ]
            refine SeqG.fixStep (.inl ⟨rfl, fun _ => rfl⟩) ?_
            simp only [Act.put, List.setIfInBounds_toArray, List.set_cons_zero, List.set_cons_succ]
            refine SeqG.fixStep (.inl ⟨rfl, fun _ => rfl⟩) ?_
            simp only [Act.put, List.setIfInBounds_toArray, List.set_cons_zero, List.set_cons_succ]
            refine SeqG.valStep (fun wv hbv hpv => ?_) ?_
            · skip
              go_wp2_with fail
              exact post_val (Below.refl _ _)
            simp only [Act.put, List.setIfInBounds_toArray, List.set_cons_zero, List.set_cons_succ]
            refine SeqG.valStep (fun wv hbv hpv => ?_) ?_
            · skip
              go_wp2_with fail
              exact post_val (Below.refl _ _)
            simp only [Act.put, List.setIfInBounds_toArray, List.set_cons_zero, List.set_cons_succ]
            refine SeqG.valStep (fun wv hbv hpv => ?_) ?_
            · have c0 := (cells5 (hC.below hbv hBr) hx).1
              go_wp2_with fail
              exact post_val (Below.refl _ _)
            simp only [Act.put, List.setIfInBounds_toArray, List.set_cons_zero, List.set_cons_succ]
            refine SeqG.fixStep (.inl ⟨rfl, fun _ => rfl⟩) ?_
            simp only [Act.put, List.setIfInBounds_toArray, List.set_cons_zero, List.set_cons_succ]
            refine SeqG.fixStep (.inl ⟨rfl, fun _ => rfl⟩) ?_
            simp only [Act.put, List.setIfInBounds_toArray, List.set_cons_zero, List.set_cons_succ]
            refine SeqG.valStep (fun wv hbv hpv => ?_) ?_
            · skip
              go_wp2_with fail
              exact post_val (Below.refl _ _)
            simp only [Act.put, List.setIfInBounds_toArray, List.set_cons_zero, List.set_cons_succ]
            refine SeqG.valStep (fun wv hbv hpv => ?_) ?_
            · skip
              go_wp2_with fail
              exact post_val (Below.refl _ _)
            simp only [Act.put, List.setIfInBounds_toArray, List.set_cons_zero, List.set_cons_succ]
            refine SeqG.valStep (fun wv hbv hpv => ?_) ?_
            · have c0 := (cells5 (hC.below hbv hBr) hy).1
              go_wp2_with fail
              exact post_val (Below.refl _ _)
            simp only [Act.put, List.setIfInBounds_toArray, List.set_cons_zero, List.set_cons_succ]
            refine SeqG.predStep (fun v w1 w2 hb h => by obtain ⟨g, h1, h2, h3⟩ := h; exact ⟨g, h1, h2, h3.below' hb⟩) (fun wv hbv hpv => ?_) (fun v1 => ?_)
            · go_wp2_with fail
              exact post_pred _ (by (repeat (first | exact Below.refl _ _ | refine Below.drew ?_ | refine below_drewN ?_ _ | (refine Below.alloc ?_ (by (try simp) <;> omega) _) | (refine Below.setCell ?_ (by (try simp) <;> omega) _) | (refine Below.trans ?_ (Below.mono (by assumption) (by (try simp) <;> omega)))))) ⟨_, rfl, hbv.size, Blk.new _ _ _⟩
            simp only [Act.put, List.setIfInBounds_toArray, List.set_cons_zero, List.set_cons_succ]
            refine SeqG.predStep (fun v w1 w2 hb h => by obtain ⟨g, g', h1, h2, h3, h4⟩ := h; exact ⟨g, g', h1, h2.below' hb, h3, h4.below' hb⟩) (fun wv hbv hpv => ?_) (fun v2 => ?_)
            · obtain ⟨g, rfl, hg, kg⟩ := hpv _ (.head _) (by kernel_rfl)
              have kg2 := kg.alloc (.cells #[.slice (some ⟨g, 0, none⟩) 2 2] 44)
              go_wp2_with fail
              exact post_pred _ (by (repeat (first | exact Below.refl _ _ | refine Below.drew ?_ | refine below_drewN ?_ _ | (refine Below.alloc ?_ (by (try simp) <;> omega) _) | (refine Below.setCell ?_ (by (try simp) <;> omega) _) | (refine Below.trans ?_ (Below.mono (by assumption) (by (try simp) <;> omega)))))) ⟨_, _, rfl, Blk.new _ _ _, hg, kg2⟩
            simp only [Act.put, List.setIfInBounds_toArray, List.set_cons_zero, List.set_cons_succ]
            refine SeqG.done fun wv hbv hpv => ?_
            obtain ⟨g, g', rfl, kg', hg, kg⟩ := hpv _ (.head _)
            clear hpv
            have HG := Lib.hid (hG.out.below hbv)
            have hbw : Below B0 w wv := hb.trans (hbv.mono (by omega))
            have HR := Lib.hid (RowOk.blk (L := [x.1, y.1]) kg (show B0 ≤ g by omega) 2)
            have Hnew := Lib.hid (show ∀ y ∈ M, y.1 ≠ (some ⟨g, 0, none⟩ : Option Addr) from fun y hy e => by
              obtain ⟨g2, hA, _, hlt'⟩ := (hG.out.rows y hy).lt
              rw [hA] at e; injection e with e; injection e with e; omega)
            have zv := hbv.size
            refine wpList_append_own _ rfl _ _ 39 rfl B0 44 i0 (.slice none 0 0) 1 24 Try.underlying39 HI.out HZ0.out HZ1.out HZ2.out rfl (by decide) _ _ _ rfl HG.out.g ⟨g', 0, none⟩ 1 1 [.slice (some ⟨g, 0, none⟩) 2 2] rfl rfl ?_ (one_okS rfl) ?_ ?_ ?_ ?_
            · intro j u hj
              rw [Go.WideShapes.add_plain, kg'.cell]
              match j, hj with
              | 0, hj => simpa using hj
            · unfold maxLen; omega
            · omega
            · omega
            intro v' w1 hown hgrow _
            have hG9 := Lib.hid (HG.out.snoc (x := (some ⟨g, 0, none⟩, 2, [x.1, y.1])) hown hgrow HR.out Hnew.out)
            have hB9 : Below B0 w w1 := below_grown' hbw hgrow HG.out.g (Nat.le_refl _) (by omega)
            have HM9 : Hid (lls (M ++ [(some ⟨g, 0, none⟩, 2, [x.1, y.1])]) = mpL L k ++ mpIn L k (j + 1 - (k + 1))) := (by rw [lls_snoc, HMM.out] : lls (M ++ [(some ⟨g, 0, none⟩, 2, [x.1, y.1])]) = mpL L k ++ mpIn L k (j + 1 - (k + 1)))
            clear hown hG HG HR Hnew hgrow hbv hbw kg kg' HMM hx hy hb
            go_wp2_with fail
            refine NoPan.normal ?_
            go_wp2
            go_roundw
            case rel => exact ⟨j + 1, _, by go_num, ⟨by omega, by omega⟩, HM9, hG9, hB9⟩
            case measure => simp only [intOf]; omega
        · obtain rfl : j = L.length := by omega
          have HM : Hid (lls M = mpL L (k + 1)) := (by rw [hM.out, mpL] : lls M = mpL L (k + 1))
          clear hM
          go_wp2
          go_roundw
          case rel => exact ⟨k + 1, M, by go_num, by omega, HM, hG, hb⟩
          case measure => simp only [intOf]; omega
    · obtain rfl : k = L.length := by omega
      obtain ⟨A9, c9, rfl, ho⟩ := hG.out.own
      have HO := Lib.hid ho
      clear ho hG
      go_wp2
      go_ret2
      exact ⟨A9, c9, M, rfl, by rw [Hv.out]; exact hM.out, by rw [HB0.out]; exact HO.out, by rw [HB0.out]; exact hb⟩
end Go.Proofs.Ytfcmfadkkfkidaa
