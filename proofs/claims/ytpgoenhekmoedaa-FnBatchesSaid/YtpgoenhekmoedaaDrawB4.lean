/-
  DrawCounterCurrent: a list of batches and washing water.
-/
import Derived.Test.YtpgoenhekmoedaaGat
import Derived.Test.YtpgoenhekmoedaaDrawB3
import Derived.Test.YtpgoenhekmoedaaCc2
import Derived.Deep.DeepCutAuto
namespace Go.Proofs.Ytpgoenhekmoedaa
open Go.RowKit

/-- At most n batches of small ints. -/
def BatsOk (n : Nat) (M : List (Int × Int × Int)) : Prop := M.length ≤ n ∧ ∀ x ∈ M, Small x.1 ∧ Small x.2.1 ∧ Small x.2.2
theorem BatsOk.snoc {n : Nat} {M : List (Int × Int × Int)} {x : Int × Int × Int} (h : BatsOk n M) (hx : Small x.1 ∧ Small x.2.1 ∧ Small x.2.2) : BatsOk (n + 1) (M ++ [x]) :=
  ⟨by rw [List.length_append]; have := h.1; simp; omega, fun z hz => by
    rcases List.mem_append.1 hz with hz | hz
    · exact h.2 z hz
    · rw [List.mem_singleton] at hz; subst hz; exact hx⟩
theorem BatsOk.mono {n m : Nat} {M : List (Int × Int × Int)} (h : BatsOk n M) (hm : n ≤ m) : BatsOk m M := ⟨Nat.le_trans h.1 hm, h.2⟩
def DrCc (w : World) (e : Ending) (w' : World) : Prop := ∃ A c M x, e = .returned (.tuple #[.slice A M.length c, .int .i64 x]) ∧ BatsOk 20 M ∧ SlR f3 3 w' w'.heap.size A M ∧ Small x ∧ Below w.heap.size w w'

set_option maxRecDepth 20000 in
set_option maxHeartbeats 8000000 in
theorem DrawCounterCurrent_any (A : Option Addr) (c : Nat) (L : List Int) (wo : World) (hI : ∀ x ∈ L, 0 ≤ x ∧ x ≤ 255) (hl : (L.length : Int) ≤ 65536) (hs : SlR fb 1 wo wo.heap.size A L) :
    Calls Try.prog 44 #[.slice A L.length c] wo (DrCc wo) := by
  obtain ⟨i0, hi, hz0, hz1, hz2⟩ := info_parts infoB
  have HI := Lib.hid hi; have HZ0 := Lib.hid hz0; have HZ1 := Lib.hid hz1; have HZ2 := Lib.hid hz2
  clear hi hz0 hz1 hz2
  have hc := cur_new (c := c) (W := wo) hs (Below.refl _ _)
  have hB : Below wo.heap.size wo (wo.alloc (.cells #[.slice A L.length c, .int .i64 0, .int .u64 0] 76)) := by (repeat (first | exact Below.refl _ _ | refine Below.drew ?_ | refine below_drewN ?_ _ | (refine Below.alloc ?_ (by (try simp) <;> omega) _) | (refine Below.setCell ?_ (by (try simp) <;> omega) _) | (refine Below.trans ?_ (Below.mono (by assumption) (by (try simp) <;> omega)))))
  go_enter Try.func44, Try.ntmps44
  go_upto_region 2 with fail
  generalize wo.alloc (.cells #[.slice A L.length c, .int .i64 0, .int .u64 0] 76) = w at *
  generalize hq : wo.heap.size = g at *
  have Hq := Lib.hid hq; clear hq hs
  have hqg : g ≤ g := Nat.le_refl _
  have gg := hc.lt
  have hG0 := Gath.made (f := f3) (m := 3) (t := 25) (B := w.heap.size) (w := w) (Nat.le_refl _)
  go_wp2_with fail
  refine (pick_any A c L g (0) (5) _ hI hl (by omega) (by omega) (hc.next (by (repeat (first | exact Below.refl _ _ | refine Below.drew ?_ | refine below_drewN ?_ _ | (refine Below.alloc ?_ (by (try simp) <;> omega) _) | (refine Below.setCell ?_ (by (try simp) <;> omega) _) | (refine Below.trans ?_ (Below.mono (by assumption) (by (try simp) <;> omega)))))))).mono ?_; rintro e w1 ⟨x1, rfl, hx1, hc1, hb1⟩
  have G1 : ButG g w w1 := ButG.refl.trans ((ButG.of (by (repeat (first | exact Below.refl _ _ | refine Below.drew ?_ | refine below_drewN ?_ _ | (refine Below.alloc ?_ (by (try simp) <;> omega) _) | (refine Below.setCell ?_ (by (try simp) <;> omega) _) | (refine Below.trans ?_ (Below.mono (by assumption) (by (try simp) <;> omega)))))) : ButG g w _).trans hb1)
  obtain ⟨u1, v1⟩ := hx1
  obtain ⟨n, rfl⟩ := Int.eq_ofNat_of_zero_le u1
  have hG1 := Gath.but hG0 gg hb1
  clear hb1 hG0 hc
  go_wp2
  go_loopw [5, 6] (fun v5 v6 wr => ∃ (k : Nat) (M : List (Int × Int × Int)), v6 = .int .i64 k ∧ k ≤ n ∧ Hid (BatsOk 5 M) ∧ M.length + k ≤ 5 ∧ Gath f3 3 25 wr w.heap.size v5 M ∧ Cur A c L g (2 + 10 * M.length) wr ∧ ButG g w wr) (fun _ v6 _ => (intOf v6).toNat)
  case atStart => exact ⟨n, [], rfl, Nat.le_refl _, (⟨by simp, by simp⟩ : BatsOk 5 []), by simp; omega, hG1, hc1.mono (by omega), G1⟩
  case round =>
    obtain ⟨k, M, rfl, hk, hM, hMk, hG, hcr, hR⟩ := hrel
    have hMl := hM.out.1
    have zr := hR.size
    clear hc1 hG1 G1
    by_cases hlt : 0 < k
    · obtain ⟨j, rfl⟩ : ∃ j, k = j + 1 := ⟨k - 1, by omega⟩
      have HG := Lib.hid hG
      clear hG
      go_wp2_with fail
      refine (batch_any A c L g (2 + 10 * M.length) _ hI hl (by omega) hcr).mono ?_; rintro e w2 ⟨s2, d2, t2, rfl, m2, hc2, hb2⟩
      have G2 : ButG g w w2 := hR.trans hb2
      have HG1 := Lib.hid (Gath.alloc (Gath.but HG.out gg hb2) (.cells #[.int .i64 s2, .int .i64 d2, .int .i64 t2] 25))
      have HG0 := Lib.hid (Gath.but HG.out gg hb2)
      have z2 := G2.size
      clear HG hb2 hcr hR
      go_wp2_with (at_builtin; refine wpList_append_own _ rfl _ _ 45 rfl w.heap.size 25 i0 (.agg #[.int .i64 0, .int .i64 0, .int .i64 0]) 3 24 Try.underlying45 HI.out HZ0.out HZ1.out HZ2.out rfl (by decide) _ _ _ rfl HG1.out ⟨_, 0, none⟩ 1 1 [.int .i64 s2, .int .i64 d2, .int .i64 t2] rfl rfl (lit_cells _ _ _) three_ok ?c3 ?c4 ?c5 ?c6)
      case c3 => unfold maxLen; first | omega | (simp; omega)
      case c4 => first | omega | (simp; omega)
      case c5 => first | omega | (simp; omega)
      case c6 =>
        intro v' w9 hown hgrow _
        have hG9 : Gath f3 3 25 w9 w.heap.size v' (M ++ [(s2, d2, t2)]) := Gath.snoc hown
        have hc9 : Cur A c L g (2 + 10 * M.length + 10) w9 := (hc2.next (by (repeat (first | exact Below.refl _ _ | refine Below.drew ?_ | refine below_drewN ?_ _ | (refine Below.alloc ?_ (by (try simp) <;> omega) _) | (refine Below.setCell ?_ (by (try simp) <;> omega) _) | (refine Below.trans ?_ (Below.mono (by assumption) (by (try simp) <;> omega)))))) : Cur A c L g (2 + 10 * M.length + 10) (w2.alloc (.cells #[.int .i64 s2, .int .i64 d2, .int .i64 t2] 25))).grown hgrow (fun k hk => by have := HG0.out.rowGe k hk; omega)
        have G9 : ButG g w w9 := (G2.alloc _).grown hgrow (fun k hk => HG0.out.rowGe k hk)
        clear hown hgrow HG0 HG1
        have hM9 := Lib.hid ((show BatsOk M.length M from ⟨Nat.le_refl _, hM.out.2⟩).snoc (x := (s2, d2, t2)) m2)
        have hlen : (M ++ [(s2, d2, t2)]).length = M.length + 1 := by simp
        have HL := Lib.hid hlen; clear hlen
        generalize M ++ [(s2, d2, t2)] = M9 at *
        go_wp2
        go_roundw
        case rel => exact ⟨j, M9, by go_num, by omega, hM9.out.mono (by omega), by have := HL.out; omega, hG9, hc9.mono (by have := HL.out; omega), G9⟩
        case measure => simp only [intOf]; omega
    · obtain rfl : k = 0 := by omega
      have hM0 := Lib.hid (hM.out.mono (show 5 ≤ 20 by omega))
      have HG := Lib.hid hG
      clear hG
      go_wp2_with fail
      refine (one_any A c L g (2 + 10 * M.length) 16 _ hI hl (by omega) (by omega) hcr).mono ?_; rintro e w2 ⟨x2, rfl, hc2, hb2⟩
      have G2 : ButG g w w2 := hR.trans hb2
      have hG2 := Gath.but HG.out gg hb2
      have z2 := G2.size
      clear HG hb2 hcr hR
      cases x2
      · obtain ⟨A8, c8, rfl, ho8⟩ := Gath.own (f := f3) (m := 3) (fun _ => rfl) hG2
        have O8 := Lib.hid ho8
        clear hG2 ho8
        go_wp2_with fail
        refine (washWater_any A c L g (2 + 10 * M.length + 2) _ hI hl (by omega) hc2).mono ?_; rintro e w3 ⟨x3, rfl, m3, hc3, hb3⟩
        have o3 := (O8.out.but gg hb3).sl
        have hfin : Below g wo w3 := hB.trans ((G2.trans hb3).below hqg gg)
        go_wp2
        go_ret2
        exact ⟨A8, c8, M, x3, rfl, hM0.out, o3, m3, by rw [Hq.out]; exact hfin⟩
      · go_wp2
        go_loopw [5] (fun v5 wr => ∃ M : List (Int × Int × Int), Hid (BatsOk 20 M) ∧ Gath f3 3 25 wr w.heap.size v5 M ∧ Cur A c L g (100 + 2 * M.length) wr ∧ ButG g w wr) (fun v5 _ => (20 - lenOf v5).toNat)
        case atStart => exact ⟨M, hM0, hG2, hc2.mono (by omega), G2⟩
        case round =>
          obtain ⟨M, hM, hG, hcr, hR⟩ := hrel
          obtain ⟨A8, c8, rfl, ho8⟩ := Gath.own (f := f3) (m := 3) (fun _ => rfl) hG
          have zr := hR.size
          have hMl := hM.out.1
          have hM0l : (0 : Int) ≤ M.length := by omega
          have HG := Lib.hid hG
          clear hG ho8 hM0 hG2 hc2 G2
          go_wp2_with fail
          refine (pick_any A c L g (100 + 2 * M.length) 2 _ hI hl (by omega) (by omega) hcr).mono ?_; rintro e w7 ⟨x7, rfl, ⟨hx70, hx71⟩, hc7, hb7⟩
          have G7 : ButG g w w7 := hR.trans hb7
          have hG7 := Gath.but HG.out gg hb7
          have z7 := G7.size
          clear HG hb7 hcr hR
          by_cases hlt : (M.length : Int) < 10 + x7
          · have HG := Lib.hid (Gath.alloc hG7 (.cells #[.int .i64 1, .int .i64 5, .int .i64 10] 25))
            have HG7 := Lib.hid hG7
            clear hG7
            go_wp2_with (at_builtin; refine wpList_append_own _ rfl _ _ 45 rfl w.heap.size 25 i0 (.agg #[.int .i64 0, .int .i64 0, .int .i64 0]) 3 24 Try.underlying45 HI.out HZ0.out HZ1.out HZ2.out rfl (by decide) _ _ _ rfl HG.out ⟨_, 0, none⟩ 1 1 [.int .i64 1, .int .i64 5, .int .i64 10] rfl rfl (lit_cells _ _ _) three_ok ?c3 ?c4 ?c5 ?c6)
            case c3 => unfold maxLen; first | omega | (simp; omega)
            case c4 => first | omega | (simp; omega)
            case c5 => first | omega | (simp; omega)
            case c6 =>
              intro v' w9 hown hgrow _
              have hG9 : Gath f3 3 25 w9 w.heap.size v' (M ++ [(1, 5, 10)]) := Gath.snoc hown
              have hc9 : Cur A c L g (100 + 2 * M.length + 2) w9 := (hc7.next (by (repeat (first | exact Below.refl _ _ | refine Below.drew ?_ | refine below_drewN ?_ _ | (refine Below.alloc ?_ (by (try simp) <;> omega) _) | (refine Below.setCell ?_ (by (try simp) <;> omega) _) | (refine Below.trans ?_ (Below.mono (by assumption) (by (try simp) <;> omega)))))) : Cur A c L g (100 + 2 * M.length + 2) (w7.alloc (.cells #[.int .i64 1, .int .i64 5, .int .i64 10] 25))).grown hgrow (fun k hk => by have := HG7.out.rowGe k hk; omega)
              have G9 : ButG g w w9 := (G7.alloc _).grown hgrow (fun k hk => HG7.out.rowGe k hk)
              clear hown hgrow HG HG7
              have hM9 := Lib.hid ((show BatsOk M.length M from ⟨Nat.le_refl _, hM.out.2⟩).snoc (x := (1, 5, 10)) ⟨⟨by decide, by decide⟩, ⟨by decide, by decide⟩, ⟨by decide, by decide⟩⟩)
              obtain ⟨A9, c9, rfl, ho9⟩ := Gath.own (f := f3) (m := 3) (fun _ => rfl) hG9
              have hlen : (M ++ [((1 : Int), (5 : Int), (10 : Int))]).length = M.length + 1 := by simp
              have HL := Lib.hid hlen
              have hlen2 : ((M ++ [((1 : Int), (5 : Int), (10 : Int))]).length : Int) ≤ M.length + 1 ∧ (M.length : Int) + 1 ≤ ((M ++ [((1 : Int), (5 : Int), (10 : Int))]).length : Int) := by omega
              clear hlen
              generalize M ++ [((1 : Int), (5 : Int), (10 : Int))] = M9 at *
              go_wp2
              go_roundw
              case rel => exact ⟨M9, hM9.out.mono (by omega), hG9, hc9.mono (by have := HL.out; omega), G9⟩
              case measure => simp only [lenOf]; omega
          · obtain ⟨A9, c9, e9, ho9⟩ := Gath.own (f := f3) (m := 3) (fun _ => rfl) hG7
            cases e9
            have O8 := Lib.hid ho9
            clear hG7 ho9
            go_wp2_with fail
            refine (washWater_any A c L g (100 + 2 * M.length + 2) _ hI hl (by omega) hc7).mono ?_; rintro e w3 ⟨x3, rfl, m3, hc3, hb3⟩
            have o3 := (O8.out.but gg hb3).sl
            have hfin : Below g wo w3 := hB.trans ((G7.trans hb3).below hqg gg)
            go_wp2
            go_ret2
            exact ⟨_, _, M, x3, rfl, hM.out, o3, m3, by rw [Hq.out]; exact hfin⟩
end Go.Proofs.Ytpgoenhekmoedaa
