/-
  MeetingTrips: the program.
-/
import Derived.Test.YtfcmfadkkfkidaaMt0
import Derived.Test.YtfcmfadkkfkidaaTrip4
import Derived.Deep.DeepCutAuto
import Derived.WalkKit
import Derived.WalkSpells
import Derived.WalkLawsBesides
import Derived.Lib.Hide
import Derived.Deep.QuietTactic
import Derived.BigQuiet
import Derived.StillTailTactics
namespace Go.Proofs.Ytfcmfadkkfkidaa
open Go.RowKit

set_option maxRecDepth 20000 in
set_option maxHeartbeats 8000000 in
theorem MeetingTrips_any (A : Option Addr) (c : Nat) (L : List T5) (w : World) (hr : SlR f5 5 w w.heap.size A L) (hm : (L.length : Int) ≤ 1048576) (hI : ∀ x ∈ L, InI5 x) (hc : L.length ≤ c ∧ ∃ x, A = some x) :
    Calls Try.prog 42 #[.slice A L.length c] w (NewSS2 w (mtL L) (tripsB L)) := by
  obtain ⟨i0, hi, hz0, hz1, hz2⟩ := info_parts infoRow
  have HI := Lib.hid hi; have HZ0 := Lib.hid hz0; have HZ1 := Lib.hid hz1; have HZ2 := Lib.hid hz2
  clear hi hz0 hz1 hz2
  have HII := Lib.hid hI; clear hI
  have hm0 : (0 : Int) ≤ L.length := by omega
  obtain ⟨hcl, a0, rfl⟩ := hc
  cases h1 : tripsB L
  · have Hv := Lib.hid (mtL_no h1)
    go_enter Try.func42, Try.ntmps42
    go_wp2_with fail
    refine (AreTrips_any _ _ L _ hr hm HII.out).mono ?_; rintro e w2 ⟨rfl, hb2⟩
    rw [h1]
    go_wp2
    go_ret2
    exact ⟨none, 0, [], rfl, by rw [Hv.out]; rfl, OwnSS.nil, hb2⟩
  have Hv := Lib.hid (mtL_yes h1)
  have HL := Lib.hid (trOk_all h1)
  have hl10 := trips_len h1
  have HP := Lib.hid (fun k n (hk : k ≤ L.length) (hn : n ≤ L.length) => mp_len h1 hk hn)
  go_enter Try.func42, Try.ntmps42
  go_wp2_with fail
  refine (AreTrips_any _ _ L _ hr hm HII.out).mono ?_; rintro e w2 ⟨rfl, hb2⟩
  rw [h1]
  clear h1
  go_wp2
  go_loopw [4, 14] (fun v4 v14 wr => ∃ (k : Nat) (M : List Elt), v14 = .int .i64 k ∧ k ≤ L.length ∧ Hid (lls M = mpL L k) ∧ Hid (GathS wr w.heap.size v4 M) ∧ Below w.heap.size w wr) (fun _ v14 _ => (L.length - intOf v14).toNat)
  case atStart => exact ⟨0, [], rfl, by omega, rfl, GathS.nil, hb2⟩
  case round =>
    obtain ⟨k, M, rfl, hk, hM, hG, hb⟩ := hrel
    have zr := hb.size
    by_cases hlt : k < L.length
    · have hx : L[k]? = some L[k] := List.getElem?_eq_getElem hlt
      obtain ⟨b, off, he, hB, hcs⟩ := hr (SlR.ne hx)
      cases he
      generalize L[k] = x at *
      have hC := hcs.below hb hB
      obtain ⟨c0, c1, c2, c3, c4⟩ := cells5 hC hx
      have hk0 : (0 : Int) ≤ (k : Int) := by omega
      have hk1 : (k : Int) < (L.length : Int) := by omega
      have hk9 : (k : Int) + 1 ≤ (c : Int) := by omega
      have htx : TrOk x := HL.out x (List.mem_of_getElem? hx)
      have HX := Lib.hid hx; clear hx
      by_cases hlast : k + 1 < L.length
      · have hcap : k + 1 < c := by omega
        have hcap2 : (k : Int) + 1 < (c : Int) := by omega
        have kx0 := Blk.new wr 25 #[.int .i64 x.1, .int .i64 x.2.1, .int .i64 x.2.2.1, .int .i64 x.2.2.2.1, .int .i64 x.2.2.2.2]
        have hG0 := Lib.hid (hG.out.below (w' := wr.alloc (.cells #[.int .i64 x.1, .int .i64 x.2.1, .int .i64 x.2.2.1, .int .i64 x.2.2.2.1, .int .i64 x.2.2.2.2] 25)) (by (repeat (first | exact Below.refl _ _ | refine Below.drew ?_ | refine below_drewN ?_ _ | (refine Below.alloc ?_ (by (try simp) <;> omega) _) | (refine Below.setCell ?_ (by (try simp) <;> omega) _) | (refine Below.trans ?_ (Below.mono (by assumption) (by (try simp) <;> omega)))))))
        have hb0 : Below w.heap.size w (wr.alloc (.cells #[.int .i64 x.1, .int .i64 x.2.1, .int .i64 x.2.2.1, .int .i64 x.2.2.2.1, .int .i64 x.2.2.2.2] 25)) := hb.alloc zr _
        go_upto_region 8 with fail
        clear hG hC c0 c1 c2 c3 c4 hb
        generalize wr.heap.size = p at *
        generalize wr.alloc (.cells #[.int .i64 x.1, .int .i64 x.2.1, .int .i64 x.2.2.1, .int .i64 x.2.2.2.1, .int .i64 x.2.2.2.2] 25) = W at *
        have HN := Lib.hid (show k + 1 + (L.length - (k + 1)) = L.length by omega)
        have hN10 : L.length - (k + 1) ≤ 10 := by omega
        generalize L.length - (k + 1) = N at *
        generalize c - (k + 1) = cN at *
        clear hcap hcap2
        go_loopw [4, 24] (fun v4 v24 wr => ∃ (n : Nat) (M : List Elt), v24 = .int .i64 n ∧ n ≤ N ∧ Hid (lls M = mpL L k ++ mpIn L k n) ∧ Hid (GathS wr w.heap.size v4 M) ∧ Hid (Blk wr p 25 #[.int .i64 x.1, .int .i64 x.2.1, .int .i64 x.2.2.1, .int .i64 x.2.2.2.1, .int .i64 x.2.2.2.2]) ∧ Below w.heap.size w wr) (fun _ v24 _ => (N - intOf v24).toNat)
        case atStart => exact ⟨0, M, rfl, by omega, (by rw [hM.out]; simp [mpIn] : lls M = mpL L k ++ mpIn L k 0), hG0, kx0, hb0⟩
        case round =>
          clear hG0 kx0 hb0 hM zr
          obtain ⟨n, M, rfl, hn, hM, hG, hkx, hb⟩ := hrel
          have zr := hb.size
          by_cases hlt2 : n < N
          · have hy : L[k + 1 + n]? = some (L[k + 1 + n]'(by have := HN.out; omega)) := List.getElem?_eq_getElem _
            generalize L[k + 1 + n]'(by have := HN.out; omega) = y at hy
            have hC := hcs.below hb hB
            obtain ⟨c0, c1, c2, c3, c4⟩ := cells5 hC hy
            have ea : off + (k + 1 + n) * 5 = off + (k + 1) * 5 + n * 5 := by omega
            rw [ea] at c0 c1 c2 c3 c4
            clear ea
            have hn0 : (0 : Int) ≤ (n : Int) := by omega
            have hn1 : (n : Int) < (N : Int) := by omega
            have hty : TrOk y := HL.out y (List.mem_of_getElem? hy)
            have HY := Lib.hid hy; clear hy
            have ky0 := Blk.new wr 25 #[.int .i64 y.1, .int .i64 y.2.1, .int .i64 y.2.2.1, .int .i64 y.2.2.2.1, .int .i64 y.2.2.2.2]
            have kx0 := hkx.out.alloc (.cells #[.int .i64 y.1, .int .i64 y.2.1, .int .i64 y.2.2.1, .int .i64 y.2.2.2.1, .int .i64 y.2.2.2.2] 25)
            have hG0 := Lib.hid (hG.out.below (w' := wr.alloc (.cells #[.int .i64 y.1, .int .i64 y.2.1, .int .i64 y.2.2.1, .int .i64 y.2.2.2.1, .int .i64 y.2.2.2.2] 25)) (by (repeat (first | exact Below.refl _ _ | refine Below.drew ?_ | refine below_drewN ?_ _ | (refine Below.alloc ?_ (by (try simp) <;> omega) _) | (refine Below.setCell ?_ (by (try simp) <;> omega) _) | (refine Below.trans ?_ (Below.mono (by assumption) (by (try simp) <;> omega)))))))
            have hb0 : Below w.heap.size w (wr.alloc (.cells #[.int .i64 y.1, .int .i64 y.2.1, .int .i64 y.2.2.1, .int .i64 y.2.2.2.1, .int .i64 y.2.2.2.2] 25)) := hb.alloc zr _
            go_upto_region 10 with fail
            clear hG hC c0 c1 c2 c3 c4 hb hkx
            generalize wr.heap.size = q at *
            generalize wr.alloc (.cells #[.int .i64 y.1, .int .i64 y.2.1, .int .i64 y.2.2.1, .int .i64 y.2.2.2.1, .int .i64 y.2.2.2.2] 25) = W2 at *
            have e0 := kx0.cell
            have e1 := ky0.cell
            have z2 := hb0.size
            go_wp2_with fail
            refine (doMeet_any x y _ htx hty).mono ?_; rintro e w6 ⟨rfl, hb6⟩
            have hb06 := hb0.trans (hb6.mono z2)
            have hG6 := Lib.hid (hG0.out.below hb6)
            have kx6 := kx0.below' hb6
            have ky6 := ky0.below' hb6
            have z6 := hb06.size
            clear e0 e1 hb6 hb0 hG0 kx0 ky0
            cases hmt : meetB x y
            · have HM : Hid (lls M = mpL L k ++ mpIn L k (n + 1)) := (by rw [hM.out, mpIn, mpRow_no HX.out HY.out hmt, List.append_nil] : lls M = mpL L k ++ mpIn L k (n + 1))
              have HKX := Lib.hid kx6
              clear hM kx6 ky6
              go_wp2
              go_roundw
              case rel => exact ⟨n + 1, M, by go_num, by omega, HM, hG6, HKX, hb06⟩
              case measure => simp only [intOf]; omega
            · have HMl := Lib.hid (show M.length ≤ 110 by rw [← lls_len, hM.out]; exact HP.out k n (by omega) (by have := HN.out; omega))
              have hMl : M.length ≤ 110 := HMl.out
              have e6 := kx6.cell
              have e7 := ky6.cell
              have HR := Lib.hid (RowOk.lit w6 [x.1, y.1] w.heap.size z6)
              have hB2 : Below w6.heap.size w6 ((w6.alloc (.cells #[.int .i64 x.1, .int .i64 y.1] 3)).alloc (.cells #[.slice (some ⟨w6.heap.size, 0, none⟩) 2 2] 44)) := by (repeat (first | exact Below.refl _ _ | refine Below.drew ?_ | refine below_drewN ?_ _ | (refine Below.alloc ?_ (by (try simp) <;> omega) _) | (refine Below.setCell ?_ (by (try simp) <;> omega) _) | (refine Below.trans ?_ (Below.mono (by assumption) (by (try simp) <;> omega)))))
              have HG := Lib.hid (hG6.out.below hB2)
              have HB3 := Lib.hid (hb06.trans (hB2.mono z6))
              have HR2 := Lib.hid (HR.out.next (w' := (w6.alloc (.cells #[.int .i64 x.1, .int .i64 y.1] 3)).alloc (.cells #[.slice (some ⟨w6.heap.size, 0, none⟩) 2 2] 44)) ((Below.refl _ _).alloc (Nat.le_refl _) _))
              have Hnew := Lib.hid (show ∀ y ∈ M, y.1 ≠ (some ⟨w6.heap.size, 0, none⟩ : Option Addr) from fun y hy e => by
                obtain ⟨g', hA, _, hlt'⟩ := (hG6.out.rows y hy).lt
                rw [hA] at e; injection e with e; injection e with e; omega)
              have HKX := Lib.hid (kx6.below' hB2)
              clear hB2 hG6 HR hb06 kx6 ky6
              go_wp2_with (at_builtin; refine wpList_append_own _ rfl _ _ 39 rfl w.heap.size 44 i0 (.slice none 0 0) 1 24 Try.underlying39 HI.out HZ0.out HZ1.out HZ2.out rfl (by decide) _ _ _ rfl HG.out.g ⟨_, 0, none⟩ 1 1 [.slice (some ⟨w6.heap.size, 0, none⟩) 2 2] rfl rfl (lit_cells1 _ _ _ _) (one_okS rfl) ?c3 ?c4 ?c5 ?c6)
              case c3 => unfold maxLen; first | omega | (simp; omega)
              case c4 => first | omega | (simp; omega)
              case c5 => first | omega | (simp; omega)
              case c6 =>
                intro v' w9 hown hgrow _
                have hG9 := Lib.hid (HG.out.snoc (x := (some ⟨w6.heap.size, 0, none⟩, 2, [x.1, y.1])) hown hgrow HR2.out Hnew.out)
                have hB9 : Below w.heap.size w w9 := below_grown' HB3.out hgrow HG.out.g (Nat.le_refl _) (by simp; omega)
                have HK9 := Lib.hid (HG.out.blk hgrow HKX.out (by decide))
                have HM9 : Hid (lls (M ++ [(some ⟨w6.heap.size, 0, none⟩, 2, [x.1, y.1])]) = mpL L k ++ mpIn L k (n + 1)) := (by rw [lls_snoc, hM.out, mpIn, mpRow_yes HX.out HY.out hmt, List.append_assoc] : lls (M ++ [(some ⟨w6.heap.size, 0, none⟩, 2, [x.1, y.1])]) = mpL L k ++ mpIn L k (n + 1))
                clear hown hgrow HG HR2 Hnew HB3 hM HKX e6 e7
                go_wp2
                go_roundw
                case rel => exact ⟨n + 1, _, by go_num, by omega, HM9, hG9, HK9, hB9⟩
                case measure => simp only [intOf]; omega
          · obtain rfl : n = N := by omega
            have HM : Hid (lls M = mpL L (k + 1)) := (by rw [hM.out, mpL, show L.length - (k + 1) = n by have := HN.out; omega] : lls M = mpL L (k + 1))
            clear hM hkx
            go_wp2
            go_roundw
            case rel => exact ⟨k + 1, M, by go_num, by omega, HM, hG, hb⟩
            case measure => simp only [intOf]; omega
      · have HM : Hid (lls M = mpL L (k + 1)) := (by rw [hM.out, mpL, show L.length - (k + 1) = 0 by omega]; simp [mpIn] : lls M = mpL L (k + 1))
        have hG0 := Lib.hid (hG.out.below (w' := wr.alloc (.cells #[.int .i64 x.1, .int .i64 x.2.1, .int .i64 x.2.2.1, .int .i64 x.2.2.2.1, .int .i64 x.2.2.2.2] 25)) (by (repeat (first | exact Below.refl _ _ | refine Below.drew ?_ | refine below_drewN ?_ _ | (refine Below.alloc ?_ (by (try simp) <;> omega) _) | (refine Below.setCell ?_ (by (try simp) <;> omega) _) | (refine Below.trans ?_ (Below.mono (by assumption) (by (try simp) <;> omega)))))))
        have hb0 : Below w.heap.size w (wr.alloc (.cells #[.int .i64 x.1, .int .i64 x.2.1, .int .i64 x.2.2.1, .int .i64 x.2.2.2.1, .int .i64 x.2.2.2.2] 25)) := hb.alloc zr _
        clear hM hG
        by_cases hcap : k + 1 < c
        · have hcap2 : (k : Int) + 1 < (c : Int) := by omega
          have hle : (k : Int) + 1 ≤ L.length := by omega
          have HLN := Lib.hid (show L.length = k + 1 by omega)
          go_upto_region 8 with fail
          all_goals
            clear hC c0 c1 c2 c3 c4 hb
            generalize wr.alloc (.cells #[.int .i64 x.1, .int .i64 x.2.1, .int .i64 x.2.2.1, .int .i64 x.2.2.2.1, .int .i64 x.2.2.2.2] 25) = W at *
            have hz : L.length - (k + 1) = 0 := by omega
            try rw [hz]
            clear hle hz
            go_loopw [4, 24] (fun v4 v24 wr => v24 = .int .i64 0 ∧ Hid (GathS wr w.heap.size v4 M) ∧ Below w.heap.size w wr) (fun _ _ _ => 0)
            case atStart => exact ⟨rfl, hG0, hb0⟩
            case round =>
              obtain ⟨rfl, hG, hb⟩ := hrel
              clear hG0 hb0
              go_wp2
              go_roundw
              case rel => first | exact ⟨k + 1, M, by go_num, by omega, HM, hG, hb⟩ | ((repeat apply Exists.intro); exact ⟨⟨k + 1, M, by go_num, by omega, HM, hG, hb⟩, rfl⟩)
              case measure => simp only [intOf]; omega
        · obtain rfl : c = k + 1 := by omega
          have hle : (k : Int) + 1 ≤ L.length := by omega
          have HLN := Lib.hid (show L.length = k + 1 by omega)
          go_upto_region 8 with fail
          all_goals
            clear hC c0 c1 c2 c3 c4 hb
            generalize wr.alloc (.cells #[.int .i64 x.1, .int .i64 x.2.1, .int .i64 x.2.2.1, .int .i64 x.2.2.2.1, .int .i64 x.2.2.2.2] 25) = W at *
            have hz : L.length - (k + 1) = 0 := by omega
            try rw [hz]
            clear hle hz
            go_loopw [4, 24] (fun v4 v24 wr => v24 = .int .i64 0 ∧ Hid (GathS wr w.heap.size v4 M) ∧ Below w.heap.size w wr) (fun _ _ _ => 0)
            case atStart => exact ⟨rfl, hG0, hb0⟩
            case round =>
              obtain ⟨rfl, hG, hb⟩ := hrel
              clear hG0 hb0
              go_wp2
              go_roundw
              case rel => first | exact ⟨k + 1, M, by go_num, by omega, HM, hG, hb⟩ | ((repeat apply Exists.intro); exact ⟨⟨k + 1, M, by go_num, by omega, HM, hG, hb⟩, rfl⟩)
              case measure => simp only [intOf]; omega
    · obtain rfl : k = L.length := by omega
      obtain ⟨A9, c9, rfl, ho⟩ := hG.out.own
      have HO := Lib.hid ho
      clear ho hG
      go_wp2
      go_ret2
      exact ⟨A9, c9, M, rfl, by rw [Hv.out]; exact hM.out, HO.out, hb⟩
end Go.Proofs.Ytfcmfadkkfkidaa
