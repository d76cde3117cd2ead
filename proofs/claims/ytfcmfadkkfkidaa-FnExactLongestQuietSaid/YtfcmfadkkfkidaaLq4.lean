/-
  LongestQuiet: the program.
-/
import Derived.Test.YtfcmfadkkfkidaaLq2
import Derived.Test.YtfcmfadkkfkidaaLq3
import Derived.Test.YtfcmfadkkfkidaaMt1
import Derived.Test.YtfcmfadkkfkidaaSec1
import Derived.Test.YtfcmfadkkfkidaaRegion
import Derived.Deep.DeepCutAuto
import Derived.Maps.AppendAt
import Derived.WalkKit
import Derived.WalkSpells
import Derived.WalkLawsBesides
import Derived.Lib.Hide
import Derived.Deep.QuietTactic
import Derived.BigQuiet
import Derived.StillTailTactics
namespace Go.Proofs.Ytfcmfadkkfkidaa
open Go.RowKit

/-- The rows of the times of section s. -/
def rowsE (s : Int) (E : List Int) : List (List Int) := E.map fun m => [s, m, m + 4]
theorem rowsE_snoc (s m : Int) (E : List Int) : rowsE s (E ++ [m]) = rowsE s E ++ [[s, m, m + 4]] := by simp [rowsE]
/-- What the first j sections of a trip have added. -/
def HitP (M : List Elt) (x : T5) (s : Int) (j : Nat) (M' : List Elt) : Prop := (M' = M ∧ ∀ i, i < j → losec x i ≠ s) ∨ (∃ y i, i < j ∧ losec x i = s ∧ M' = M ++ [y] ∧ y.2.2 = [s, x.2.2.2.1 + 4 * i, x.2.2.2.1 + 4 * i + 4])
theorem losec_inj {x : T5} {i j : Nat} (h : losec x i = losec x j) : i = j := by
  unfold losec secLo at h
  split at h <;> omega
theorem hit_no {M M' : List Elt} {x : T5} {s : Int} {j : Nat} (h : HitP M x s j M') (hj : losec x j ≠ s) : HitP M x s (j + 1) M' := by
  rcases h with ⟨h1, h2⟩ | ⟨y, i, h1, h2, h3, h4⟩
  · refine .inl ⟨h1, fun i hi => ?_⟩
    by_cases e : i = j
    · rw [e]; exact hj
    · exact h2 i (by omega)
  · exact .inr ⟨y, i, by omega, h2, h3, h4⟩
theorem hit_same {M M' : List Elt} {x : T5} {s : Int} {j : Nat} (h : HitP M x s j M') (hj : losec x j = s) : M' = M := by
  rcases h with ⟨h1, _⟩ | ⟨y, i, h1, h2, _⟩
  · exact h1
  · have := losec_inj (h2.trans hj.symm); omega
theorem hit_yes {M : List Elt} {x : T5} {s : Int} {j : Nat} {y : Elt} (hj : losec x j = s) (hy : y.2.2 = [losec x j, x.2.2.2.1 + 4 * j, x.2.2.2.1 + 4 * j + 4]) : HitP M x s (j + 1) (M ++ [y]) :=
  .inr ⟨y, j, by omega, hj, rfl, by rw [hy, hj]⟩
theorem hit_end {L : List T5} {M M' : List Elt} {x : T5} {s : Int} {k : Nat} (hx : L[k]? = some x) (hxo : TrOk x) (hM : lls M = rowsE s (entL L s k)) (h : HitP M x s (nsec x) M') : lls M' = rowsE s (entL L s (k + 1)) := by
  rcases h with ⟨rfl, h2⟩ | ⟨y, i, h1, h2, rfl, h4⟩
  · have h0 : ¬ 0 ≤ entT x s := fun h => by
      obtain ⟨i, hi, e⟩ := ent_some h
      exact h2 i hi e.symm
    rw [entL_no hx h0]; exact hM
  · have e : entT x s = x.2.2.2.1 + 4 * i := by rw [← h2]; exact ent_lo h1
    have hd := hxo.d
    rw [entL_yes hx (by omega), rowsE_snoc, lls_snoc, hM, h4, e]
theorem keys_rows {M : List Elt} {s : Int} {E : List Int} (h : lls M = rowsE s E) : M.map keyE = E := by
  have h1 : M.map keyE = (lls M).map (fun l => (l[1]?).getD 0) := by unfold lls; rw [List.map_map]; rfl
  rw [h1, h]
  unfold rowsE
  rw [List.map_map]
  exact List.map_id'' (fun _ => rfl) E
theorem row_of {M : List Elt} {s : Int} {E : List Int} (h : lls M = rowsE s E) : ∀ x ∈ M, x.2.2 = [s, keyE x, keyE x + 4] := fun x hx => by
  have h1 : x.2.2 ∈ rowsE s E := by rw [← h]; exact List.mem_map.2 ⟨x, hx, rfl⟩
  obtain ⟨m, _, h2⟩ := List.mem_map.1 h1
  have : keyE x = m := by unfold keyE; rw [← h2]; rfl
  rw [this]; exact h2.symm
theorem slit_src {w : World} {g : Nat} {u : Value} (h : Blk w g 44 #[u]) : ∀ j v, [u][j]? = some v → w.cell? ((⟨g, 0, none⟩ : Addr).add j) = some v := by
  intro j v hj
  rw [Go.WideShapes.add_plain, Nat.zero_add]
  rw [h.cell j]
  simpa using hj
theorem GathS.formS {w : World} {B : Nat} {v : Value} {M : List Elt} (h : GathS w B v M) (hM : M ≠ []) : ∃ g c, v = .slice (some ⟨g, 0, none⟩) M.length c := by
  obtain ⟨_, ⟨_, hn⟩ | ⟨g, cap, cur, hv, _⟩⟩ := h.g
  · exact absurd (List.length_eq_zero_iff.1 hn) hM
  · exact ⟨g, cap, hv⟩

theorem cell_up {w wv : World} {b k : Nat} (hb : Below w.heap.size w wv) (h : b < w.heap.size) : wv.cell? ⟨b, k, none⟩ = w.cell? ⟨b, k, none⟩ := hb.cell (p := ⟨b, k, none⟩) h
set_option maxRecDepth 20000 in
set_option maxHeartbeats 32000000 in
theorem LongestQuiet_any (A : Option Addr) (c : Nat) (L : List T5) (s : Int) (w : World) (hr : SlR f5 5 w w.heap.size A L) (hm : (L.length : Int) ≤ 1048576) (hI : ∀ x ∈ L, InI5 x) (hc : L.length ≤ c ∧ ∃ x, A = some x) :
    Calls Try.prog 49 #[.slice A L.length c, .int .i64 s] w fun e w' => e = .returned (.tuple #[.int .i64 (lqN L s), .bool (lqB L s)]) ∧ Below w.heap.size w w' := by
  have HI := Lib.hid hI; clear hI
  have hm0 : (0 : Int) ≤ L.length := by omega
  have C1 := Lib.hid (MeetingTrips_any A c L w hr hm HI.out hc)
  clear hc
  go_enter Try.func49, Try.ntmps49
  go_wp2_with fail
  refine C1.out.mono ?_; rintro e w3 ⟨A3, c3, M, rfl, hM, -, hb3⟩
  clear C1
  cases h1 : tripsB L
  · have Hv := Lib.hid (lq_no (L := L) (s := s) (by simp [lqB, h1]))
    clear h1 hM
    go_wp2
    go_ret2
    exact ⟨by rw [Hv.out.1, Hv.out.2]; rfl, hb3⟩
  by_cases h2 : mtL L = []
  case neg =>
    have Hv := Lib.hid (lq_no (mt_noB (s := s) h2))
    have hM0 := mt_pos hM h2
    have hM1 : 0 < M.length := by omega
    clear h2 hM
    go_wp2
    go_ret2
    exact ⟨by rw [Hv.out.1, Hv.out.2]; rfl, hb3⟩
  obtain rfl := mt_nil hM h2
  have H1 := Lib.hid h1; have H2 := Lib.hid h2
  clear h1 h2 hM
  go_wp2_with fail
  refine (within_any _ _ _ _).mono ?_; rintro e w' ⟨rfl, rfl⟩
  cases h3 : inB s 0 8
  · have Hv := Lib.hid (lq_no (L := L) (s := s) (by simp [lqB, h3]))
    clear h3
    go_wp2
    go_ret2
    exact ⟨by rw [Hv.out.1, Hv.out.2]; rfl, hb3⟩
  have Hv := Lib.hid (lq_yes H1.out H2.out h3)
  have hs8 := inB_iff.1 h3
  have HS8 := Lib.hid hs8
  have HL := Lib.hid (trOk_all H1.out)
  have hl10 := trips_len H1.out
  have HBD := Lib.hid (srtE_bd hs8 H1.out H2.out)
  have HSO := Lib.hid (fun D hp hD => srtE_of hs8 H1.out H2.out (D := D) hp hD)
  have HEL := Lib.hid (entL_len L s)
  have hr3 := hr.next hb3
  obtain ⟨i0, hi, hz0, hz1, hz2⟩ := info_parts infoRow
  have HII := Lib.hid hi; have HZ0 := Lib.hid hz0; have HZ1 := Lib.hid hz1; have HZ2 := Lib.hid hz2
  clear hi hz0 hz1 hz2
  clear h3 hr hs8
  go_wp2
  go_loopw [8, 34] (fun v8 v34 wr => ∃ (k : Nat) (M : List Elt), v34 = .int .i64 k ∧ k ≤ L.length ∧ GathS wr w3.heap.size v8 M ∧ Hid (lls M = rowsE s (entL L s k)) ∧ Below w3.heap.size w3 wr) (fun _ v34 _ => (L.length - intOf v34).toNat)
  case atStart => exact ⟨0, [], rfl, by omega, GathS.nil, by show _ = _; rfl, Below.refl _ _⟩
  case round =>
    obtain ⟨k, M, rfl, hk, hG, hM, hb⟩ := hrel
    have zr := hb.size
    have hk0 : (0 : Int) ≤ (k : Int) := by omega
    by_cases hlt : k < L.length
    · have hx : L[k]? = some L[k] := List.getElem?_eq_getElem hlt
      obtain ⟨b, off, hA, hB, hcs⟩ := hr3 (SlR.ne hx)
      cases hA
      generalize L[k] = x at *
      have htx := HL.out x (List.mem_of_getElem? hx)
      obtain ⟨c0, c1, c2, c3', c4⟩ := cells5 (hcs.below hb hB) hx
      have hk1 : (k : Int) < (L.length : Int) := by omega
      have HX := Lib.hid hx
      have HMk := Lib.hid (show M.length ≤ 10 by have h := congrArg List.length hM.out; rw [lls_len] at h; unfold rowsE at h; rw [List.length_map] at h; have := HEL.out k; omega)
      have hG4 := Lib.hid (show GathS (wr.alloc (.cells #[.int .i64 x.1, .int .i64 x.2.1, .int .i64 x.2.2.1, .int .i64 x.2.2.2.1, .int .i64 x.2.2.2.2] 25)) w3.heap.size _ M from hG.below (by (repeat (first | exact Below.refl _ _ | refine Below.drew ?_ | refine below_drewN ?_ _ | (refine Below.alloc ?_ (by (try simp) <;> omega) _) | (refine Below.setCell ?_ (by (try simp) <;> omega) _) | (refine Below.trans ?_ (Below.mono (by assumption) (by (try simp) <;> omega)))))))
      have hb4 := Lib.hid (show Below w3.heap.size w3 (wr.alloc (.cells #[.int .i64 x.1, .int .i64 x.2.1, .int .i64 x.2.2.1, .int .i64 x.2.2.2.1, .int .i64 x.2.2.2.2] 25)) from hb.alloc zr _)
      have kx := Lib.hid (show Blk (wr.alloc (.cells #[.int .i64 x.1, .int .i64 x.2.1, .int .i64 x.2.2.1, .int .i64 x.2.2.2.1, .int .i64 x.2.2.2.2] 25)) wr.heap.size 25 #[.int .i64 x.1, .int .i64 x.2.1, .int .i64 x.2.2.1, .int .i64 x.2.2.2.1, .int .i64 x.2.2.2.2] from Blk.new _ _ _)
      clear hcs hlt hx hG hb
      go_upto_region 8 with fail
      generalize wr.alloc (.cells #[.int .i64 x.1, .int .i64 x.2.1, .int .i64 x.2.2.1, .int .i64 x.2.2.2.1, .int .i64 x.2.2.2.2] 25) = w4 at *
      generalize wr.heap.size = q at *
      have cx := kx.out.cell
      clear c0 c1 c2 c3' c4
      go_wp2_with fail
      refine (sections_any _ _ _ _ _ _ htx.b htx.c htx.d).mono ?_; rintro e w5 ⟨A5, c5, N, rfl, hN, oN, hb5⟩
      have hNl : N.length = nsec x := by rw [← lls_len, hN]; exact secsT_len x
      have hN9 : N.length ≤ 9 := by rw [hNl]; exact secN_le htx.b htx.c
      have hb05 := hb4.out.trans (hb5.mono hb4.out.size)
      have hG5 := hG4.out.below hb5
      have HOLD := Lib.hid (show ∀ y ∈ M, ∃ gy, y.1 = some ⟨gy, 0, none⟩ ∧ gy < w4.heap.size from fun y hy => by
        obtain ⟨gy, h1, _, h2⟩ := (hG4.out.rows y hy).lt
        exact ⟨gy, h1, h2⟩)
      have HOB := Lib.hid (fun b hb => show b < w4.heap.size ∨ w5.heap.size ≤ b from by
        obtain ⟨_, cs, h⟩ := hG4.out.g.ownTy b hb
        refine .inl ?_
        rcases Nat.lt_or_ge b w4.heap.size with h' | h'
        · exact h'
        · rw [Array.getElem?_eq_none h'] at h; cases h)
      have HNl := Lib.hid hNl
      have hN' : Hid (lls N = secsT x) := hN
      have HON := Lib.hid oN
      have z45 := hb5.size
      have z34 := hb4.out.size
      clear hN oN hNl hG4 hb4 kx cx
      go_wp2
      go_loopw [8, 41] (fun v8 v41 wr => ∃ (j : Nat) (M' : List Elt), v41 = .int .i64 j ∧ j ≤ N.length ∧ GathS wr w3.heap.size v8 M' ∧ Hid (HitP M x s j M') ∧ Hid (∀ b, v8.ownBlock = some b → b < w4.heap.size ∨ w5.heap.size ≤ b) ∧ Hid (∀ k, w4.heap.size ≤ k → k < w5.heap.size → wr.heap[k]? = w5.heap[k]?) ∧ w5.heap.size ≤ wr.heap.size ∧ Below w3.heap.size w3 wr) (fun _ v41 _ => (N.length - intOf v41).toNat)
      case atStart => exact ⟨0, M, rfl, by omega, hG5, .inl ⟨rfl, fun i hi => by omega⟩, HOB.out, fun _ _ _ => rfl, Nat.le_refl _, hb05⟩
      case round =>
        obtain ⟨j, M', rfl, hj, hG, hH, hOB, hKE, hsz, hb⟩ := hrel
        clear hG5
        have hj0 : (0 : Int) ≤ (j : Int) := by omega
        by_cases hlt : j < N.length
        · have hg : N[j]? = some N[j] := List.getElem?_eq_getElem hlt
          generalize N[j] = r at hg
          have hin : j < nsec x := by have := HNl.out; omega
          have hr2 : r.2.2 = [losec x j, x.2.2.2.1 + 4 * j, x.2.2.2.1 + 4 * j + 4] := by
            have h1 : (lls N)[j]? = some r.2.2 := by simp [lls, hg]
            rw [hN'.out, secsT_get hin] at h1
            exact (Option.some.inj h1).symm
          obtain ⟨gN, hAN, hBN, hRN, hCN⟩ := HON.out.own (SlR.ne hg)
          cases hAN
          have k0 := cellS hCN hg
          rw [Nat.zero_add] at k0
          have k1 : wr.cell? ⟨gN, j, none⟩ = some (.slice r.1 r.2.2.length r.2.1) := (World.cell?_of_block (a := ⟨gN, j, none⟩) (hKE.out gN hBN hRN.lt)).trans k0
          obtain ⟨gr, hAr, hBr, hRr, hCr⟩ := HON.out.rows r (List.mem_of_getElem? hg)
          have hrok : RowOk wr w4.heap.size r := RowOk.same ⟨gr, hAr, hBr, hRr, hCr⟩ fun g hA => by rw [hAr] at hA; cases hA; exact hKE.out gr hBr hRr.lt
          obtain ⟨gr', hAr', _, hRr2, hCr2⟩ := hrok
          rw [hAr] at hAr'; cases hAr'
          rw [hAr, show r.2.2.length = 3 by rw [hr2]; rfl] at k1
          have p0 := cells1 hCr2 (k := 0) (x := losec x j) (by rw [hr2]; rfl)
          simp only [Nat.zero_add] at p0
          have hj1 : (j : Int) < (N.length : Int) := by omega
          by_cases he : losec x j = s
          · have hq : (losec x j == s) = true := by simpa using he
            obtain rfl := hit_same hH.out he
            have HH := Lib.hid (hit_yes (M := M') he hr2)
            have HR3 := Lib.hid (show r = (some ⟨gr, 0, none⟩, r.2.1, r.2.2) by rw [← hAr])
            have HRL := Lib.hid (show r.2.2.length = 3 by rw [hr2]; rfl)
            have hro : RowOk wr w3.heap.size r := ⟨gr, hAr, by omega, hRr2, hCr2⟩
            have HRO := Lib.hid (hro.next (w' := wr.alloc (.cells #[.slice (some ⟨gr, 0, none⟩) 3 r.2.1] 44)) (by (repeat (first | exact Below.refl _ _ | refine Below.drew ?_ | refine below_drewN ?_ _ | (refine Below.alloc ?_ (by (try simp) <;> omega) _) | (refine Below.setCell ?_ (by (try simp) <;> omega) _) | (refine Below.trans ?_ (Below.mono (by assumption) (by (try simp) <;> omega)))))))
            have HG := Lib.hid (hG.below (w' := wr.alloc (.cells #[.slice (some ⟨gr, 0, none⟩) 3 r.2.1] 44)) (by (repeat (first | exact Below.refl _ _ | refine Below.drew ?_ | refine below_drewN ?_ _ | (refine Below.alloc ?_ (by (try simp) <;> omega) _) | (refine Below.setCell ?_ (by (try simp) <;> omega) _) | (refine Below.trans ?_ (Below.mono (by assumption) (by (try simp) <;> omega)))))))
            have HB := Lib.hid (show Below w3.heap.size w3 (wr.alloc (.cells #[.slice (some ⟨gr, 0, none⟩) 3 r.2.1] 44)) from hb.alloc (by omega) _)
            have HKB := Lib.hid (Blk.new wr 44 #[.slice (some ⟨gr, 0, none⟩) 3 r.2.1])
            have HNEW := Lib.hid (show ∀ y ∈ M', y.1 ≠ r.1 from fun y hy e => by
              obtain ⟨gy, h1, h2⟩ := HOLD.out y hy
              rw [h1, hAr] at e
              injection e with e; injection e with e; omega)
            have HKE2 := Lib.hid (show ∀ k, w4.heap.size ≤ k → k < w5.heap.size → (wr.alloc (.cells #[.slice (some ⟨gr, 0, none⟩) 3 r.2.1] 44)).heap[k]? = w5.heap[k]? from fun k h1 h2 => (((Below.refl wr.heap.size wr).alloc (Nat.le_refl _) (.cells #[.slice (some ⟨gr, 0, none⟩) 3 r.2.1] 44)).block k (by omega)).trans (hKE.out k h1 h2))
            have hMl : M'.length ≤ 10 := HMk.out
            clear hG hb hH hKE hro k0 hCN hRN hCr hRr hCr2 hRr2 hg hr2 he
            go_wp2_with (at_builtin; refine wpList_append_own_at _ rfl _ _ 39 rfl w3.heap.size 44 i0 (.slice none 0 0) 1 24 Try.underlying39 HII.out HZ0.out HZ1.out HZ2.out rfl (by decide) _ _ _ rfl HG.out.g ⟨_, 0, none⟩ 1 1 [.slice (some ⟨gr, 0, none⟩) 3 r.2.1] rfl rfl (slit_src HKB.out) (one_okS rfl) ?c3 ?c4 ?c5 ?c6)
            case c3 => unfold maxLen; first | omega | (simp; omega)
            case c4 => first | omega | (simp; omega)
            case c5 => first | omega | (simp; omega)
            case c6 =>
              intro v' w9 hown hgrow _ hob
              have hfs : fS r = [.slice (some ⟨gr, 0, none⟩) 3 r.2.1] := by unfold fS; rw [hAr, HRL.out]
              have hG9 := Lib.hid (HG.out.snoc (x := r) (by rw [hfs]; exact hown) hgrow HRO.out HNEW.out)
              have hB9 : Below w3.heap.size w3 w9 := below_grown' HB.out hgrow HG.out.g (Nat.le_refl _) HB.out.size
              have HOB9 : Hid (∀ b, v'.ownBlock = some b → b < w4.heap.size ∨ w5.heap.size ≤ b) := fun b hbb => by
                rcases hob with h | h
                · exact hOB.out b (by rw [← h]; exact hbb)
                · rw [h] at hbb; cases hbb; exact .inr (by first | omega | (simp; omega))
              have HKE9 : Hid (∀ k, w4.heap.size ≤ k → k < w5.heap.size → w9.heap[k]? = w5.heap[k]?) := fun k h1 h2 => by
                refine (hgrow.block k (by first | omega | (simp; omega)) (fun e => ?_)).trans (HKE2.out k h1 h2)
                have := hOB.out k e.symm
                omega
              have hs9 : w5.heap.size ≤ w9.heap.size := by have := hgrow.size; first | omega | (simp at this; omega)
              clear hown hgrow hob HG HB HRO HNEW HKE2 HKB k1 p0
              go_wp2
              go_roundw
              case rel => exact ⟨j + 1, _, by go_num, by omega, hG9.out, HH.out, HOB9.out, HKE9.out, hs9, hB9⟩
              case measure => simp only [intOf]; omega
          · have hq : (losec x j == s) = false := by simpa using he
            have HH := Lib.hid (hit_no hH.out he)
            clear hH k0 hCN hRN hCr hRr hCr2 hRr2 hg hr2 he
            go_wp2
            go_roundw
            case rel => exact ⟨j + 1, _, by go_num, by omega, hG, HH.out, hOB.out, hKE.out, hsz, hb⟩
            case measure => simp only [intOf]; omega
        · have hjl : j = nsec x := by have := HNl.out; omega
          have hj1 : ¬ (j : Int) < (N.length : Int) := by omega
          have HH := Lib.hid (hit_end HX.out htx hM.out (by have := hH.out; rw [hjl] at this; exact this))
          clear hH hjl hlt hOB hKE
          go_wp2
          go_roundw
          case rel => exact ⟨k + 1, _, by go_num, by omega, hG, HH.out, hb⟩
          case measure => simp only [intOf]; omega
    · have hkl : k = L.length := by omega
      have hk1 : ¬ (k : Int) < (L.length : Int) := by omega
      have hMM := hM.out
      rw [hkl] at hMM
      have hMl : M.length ≤ 10 := by have h := congrArg List.length hMM; rw [lls_len] at h; unfold rowsE at h; rw [List.length_map] at h; have := HEL.out L.length; omega
      obtain ⟨hSl, hSb⟩ := HBD.out
      have HGB := Lib.hid (gapK_bd hSb)
      have HSB := Lib.hid hSb
      have hkeys := keys_rows hMM
      clear hSb HBD hkl hlt hM
      by_cases hMn : M = []
      · subst hMn
        have hS : srtE L s = [] := (HSO.out [] (by rw [← hkeys]; exact List.Perm.refl _) List.Pairwise.nil).symm
        have HV : Hid (lqN L s = 0 ∧ lqB L s = true) := ⟨by rw [Hv.out.1, hS]; rfl, Hv.out.2⟩
        obtain ⟨A9, c9, rfl, -⟩ := hG.own
        have C9 := Lib.hid (Try.slices_SortFunc_none (α := Int) A9 c9 (.func (.func 86) #[] #[]) wr)
        have HBX := Lib.hid hb
        clear hG hkeys hMM hb hS Hv
        go_wp2_with fail
        refine C9.out.mono ?_; rintro e w' ⟨rfl, rfl⟩
        go_wp2
        go_loopw [13, 14] (fun v13 v14 wr => v14 = .int .i64 1 ∧ v13 = .int .i64 0 ∧ Below w3.heap.size w3 wr) (fun _ _ _ => 0)
        case atStart => exact ⟨rfl, rfl, HBX.out⟩
        case round =>
          obtain ⟨rfl, rfl, hb⟩ := hrel
          go_wp2
          go_ret2
          exact ⟨by rw [HV.out.1, HV.out.2]; rfl, hb3.trans (hb.mono hb3.size)⟩
      · obtain ⟨g, c6, rfl⟩ := hG.formS hMn
        have hrow := row_of hMM
        have C9 := Lib.hid (sortT_any w3.heap.size g c6 M wr hG (fun y hy => by rw [hrow y hy]; rfl) (by omega) hMn)
        have HROW := Lib.hid hrow
        have HKEYS := Lib.hid hkeys
        have HM0 := Lib.hid (List.length_pos_iff.2 hMn)
        have hbb := hb3.trans (hb.mono hb3.size)
        clear hG hkeys hMM hMn hrow
        go_wp2_with fail
        refine C9.out.mono ?_; rintro e w9 ⟨rfl, N, hp, hs9, hCN, hRN, hb9⟩
        have HS : Hid (N.map keyE = srtE L s) := HSO.out _ (by rw [← HKEYS.out]; exact hp.map keyE) (by rw [List.pairwise_map]; exact hs9)
        have hNl : N.length = M.length := hp.length_eq
        have hSl2 : (srtE L s).length = M.length := by rw [← HS.out, List.length_map, hNl]
        have HNl := Lib.hid hNl; have HSl := Lib.hid hSl2
        have HCN := Lib.hid hCN
        have HRN := Lib.hid (fun y (hy : y ∈ N) => And.intro (hRN y (hp.mem_iff.1 hy)) (HROW.out y (hp.mem_iff.1 hy)))
        have HBX := Lib.hid (hb3.trans ((hb.trans hb9).mono hb3.size))
        clear hp hs9 hCN hRN C9 hNl hSl2 hb9 hb hbb
        generalize srtE L s = S at *
        go_wp2
        go_loopw [13, 14] (fun v13 v14 wr => ∃ j : Nat, v14 = .int .i64 j ∧ v13 = .int .i64 (gapK S (j - 1)) ∧ 1 ≤ j ∧ (j ≤ S.length ∨ j = 1) ∧ Below w9.heap.size w9 wr) (fun _ v14 _ => (20 - intOf v14).toNat)
        case atStart => exact ⟨1, rfl, rfl, by omega, .inr rfl, Below.refl _ _⟩
        case round =>
          obtain ⟨j, rfl, rfl, hj1, hj2, hb2⟩ := hrel
          have hj0 : (1 : Int) ≤ (j : Int) := by omega
          have hj11 : (j : Int) ≤ 11 := by omega
          have hM10 : (M.length : Int) ≤ 10 := by omega
          by_cases hjl : j < M.length
          · obtain ⟨q, hq⟩ : ∃ q, q + 1 = j := ⟨j - 1, by omega⟩
            have hga : N[q]? = some (N[q]'(by have := HNl.out; omega)) := List.getElem?_eq_getElem _
            have hgb : N[j]? = some (N[j]'(by have := HNl.out; omega)) := List.getElem?_eq_getElem _
            generalize N[q]'(by have := HNl.out; omega) = ra at hga
            generalize N[j]'(by have := HNl.out; omega) = rb at hgb
            have ha : S[q]? = some (keyE ra) := by rw [← HS.out, List.getElem?_map, hga]; rfl
            have hbb : S[j]? = some (keyE rb) := by rw [← HS.out, List.getElem?_map, hgb]; rfl
            obtain ⟨⟨ga, eA, _, rA, cA⟩, fA⟩ := HRN.out ra (List.mem_of_getElem? hga)
            obtain ⟨⟨gb, eB, _, rB, cB⟩, fB⟩ := HRN.out rb (List.mem_of_getElem? hgb)
            have ka0 := cellS HCN.out hga
            have kb0 := cellS HCN.out hgb
            have hg9 : g < w9.heap.size := block_lt_of_cell ka0
            have pa0 := cells1 cA (k := 2) (x := keyE ra + 4) (by rw [fA]; rfl)
            have pb0 := cells1 cB (k := 1) (x := keyE rb) (by rw [fB]; rfl)
            rw [eA, show ra.2.2.length = 3 by rw [fA]; rfl, Nat.zero_add] at ka0
            rw [eB, show rb.2.2.length = 3 by rw [fB]; rfl, Nat.zero_add] at kb0
            simp only [Nat.zero_add] at pa0 pb0
            have ka := (cell_up hb2 hg9).trans ka0
            have kb := (cell_up hb2 hg9).trans kb0
            have pa := (cell_up hb2 rA.lt).trans pa0
            have pb := (cell_up hb2 rB.lt).trans pb0
            have hgl : g < wr.heap.size := Nat.lt_of_lt_of_le hg9 hb2.size
            have hla : ga < wr.heap.size := Nat.lt_of_lt_of_le rA.lt hb2.size
            have hlb : gb < wr.heap.size := Nat.lt_of_lt_of_le rB.lt hb2.size
            have HN := Lib.hid (show max (gapK S (j - 1)) (keyE rb - (keyE ra + 4)) = gapK S j by
              rw [← hq, Nat.add_sub_cancel]
              rw [← hq] at hbb
              rw [gapK_succ ha hbb, show keyE rb - (keyE ra + 4) = keyE rb - keyE ra - 4 by omega])
            have hab := HGB.out (j - 1)
            have hab1 := HSB.out _ (List.mem_of_getElem? ha)
            have hab2 := HSB.out _ (List.mem_of_getElem? hbb)
            have hjl2 : (j : Int) < (M.length : Int) := by omega
            have htn : ((j : Int) - 1).toNat = q := by omega
            have hw1 : IntKind.i64.wrap ((j : Int) - 1) = (j : Int) - 1 := by rw [IntKind.wrap_i64]; omega
            have hi1 : (0 : Int) ≤ (j : Int) - 1 := by omega
            have hi2 : (j : Int) - 1 < (M.length : Int) := by omega
            generalize ra.2.1 = ca at *
            generalize rb.2.1 = cb at *
            generalize keyE ra = a at *
            generalize keyE rb = b at *
            generalize gapK S (j - 1) = m at *
            clear ka0 kb0 pa0 pb0 cA cB fA fB rA rB eA eB ha hbb hga hgb hq hjl
            go_wp2
            refine wp_region_grow [.fix (.int .i64 m), .fix (.slice (some ⟨g, 0, none⟩) M.length c6), .fix (.int .i64 j), .val (.pointer (some ⟨g, j, none⟩)), .val (.slice (some ⟨gb, 0, none⟩) 3 cb), .val (.pointer (some ⟨gb, 1, none⟩)), .val (.int .i64 b), .fix (.slice (some ⟨g, 0, none⟩) M.length c6), .fix (.int .i64 j), .val (.int .i64 ((j : Int) - 1)), .val (.pointer (some ⟨g, q, none⟩)), .val (.slice (some ⟨ga, 0, none⟩) 3 ca), .val (.pointer (some ⟨ga, 2, none⟩)), .val (.int .i64 (a + 4)), .val (.int .i64 (b - (a + 4))), .val (.int .i64 (max m (b - (a + 4))))] mixed (by kernel_rfl) ?_
            refine SeqG.fixStep (.inl ⟨rfl, fun _ => rfl⟩) ?_
            simp only [Act.put, List.setIfInBounds_toArray, List.set_cons_zero, List.set_cons_succ]
            refine SeqG.fixStep (.inl ⟨rfl, fun _ => rfl⟩) ?_
            simp only [Act.put, List.setIfInBounds_toArray, List.set_cons_zero, List.set_cons_succ]
            refine SeqG.fixStep (.inl ⟨rfl, fun _ => rfl⟩) ?_
            simp only [Act.put, List.setIfInBounds_toArray, List.set_cons_zero, List.set_cons_succ]
            refine SeqG.valStep (fun wv hbv hpv => ?_) ?_
            · skip
              go_wp2_with fail
              exact post_val (Below.refl _ _)
            simp only [Act.put, List.setIfInBounds_toArray, List.set_cons_zero, List.set_cons_succ]
            refine SeqG.valStep (fun wv hbv hpv => ?_) ?_
            · have e1 := (cell_up hbv hgl).trans kb
              go_wp2_with fail
              exact post_val (Below.refl _ _)
            simp only [Act.put, List.setIfInBounds_toArray, List.set_cons_zero, List.set_cons_succ]
            refine SeqG.valStep (fun wv hbv hpv => ?_) ?_
            · skip
              go_wp2_with fail
              exact post_val (Below.refl _ _)
            simp only [Act.put, List.setIfInBounds_toArray, List.set_cons_zero, List.set_cons_succ]
            refine SeqG.valStep (fun wv hbv hpv => ?_) ?_
            · have e1 := (cell_up hbv hlb).trans pb
              go_wp2_with fail
              exact post_val (Below.refl _ _)
            simp only [Act.put, List.setIfInBounds_toArray, List.set_cons_zero, List.set_cons_succ]
            refine SeqG.fixStep (.inl ⟨rfl, fun _ => rfl⟩) ?_
            simp only [Act.put, List.setIfInBounds_toArray, List.set_cons_zero, List.set_cons_succ]
            refine SeqG.fixStep (.inl ⟨rfl, fun _ => rfl⟩) ?_
            simp only [Act.put, List.setIfInBounds_toArray, List.set_cons_zero, List.set_cons_succ]
            refine SeqG.valStep (fun wv hbv hpv => ?_) ?_
            · skip
              go_wp2_with fail
              exact post_val (Below.refl _ _)
            simp only [Act.put, List.setIfInBounds_toArray, List.set_cons_zero, List.set_cons_succ]
            refine SeqG.valStep (fun wv hbv hpv => ?_) ?_
            · skip
              go_wp2_with fail
              exact post_val (Below.refl _ _)
            simp only [Act.put, List.setIfInBounds_toArray, List.set_cons_zero, List.set_cons_succ]
            refine SeqG.valStep (fun wv hbv hpv => ?_) ?_
            · have e1 := (cell_up hbv hgl).trans ka
              go_wp2_with fail
              exact post_val (Below.refl _ _)
            simp only [Act.put, List.setIfInBounds_toArray, List.set_cons_zero, List.set_cons_succ]
            refine SeqG.valStep (fun wv hbv hpv => ?_) ?_
            · skip
              go_wp2_with fail
              exact post_val (Below.refl _ _)
            simp only [Act.put, List.setIfInBounds_toArray, List.set_cons_zero, List.set_cons_succ]
            refine SeqG.valStep (fun wv hbv hpv => ?_) ?_
            · have e1 := (cell_up hbv hla).trans pa
              go_wp2_with fail
              exact post_val (Below.refl _ _)
            simp only [Act.put, List.setIfInBounds_toArray, List.set_cons_zero, List.set_cons_succ]
            refine SeqG.valStep (fun wv hbv hpv => ?_) ?_
            · skip
              go_wp2_with fail
              exact post_val (Below.refl _ _)
            simp only [Act.put, List.setIfInBounds_toArray, List.set_cons_zero, List.set_cons_succ]
            refine SeqG.valStep (fun wv hbv hpv => ?_) ?_
            · skip
              go_wp2_with fail
              exact post_val (Below.refl _ _)
            simp only [Act.put, List.setIfInBounds_toArray, List.set_cons_zero, List.set_cons_succ]
            refine SeqG.done fun wv hbv hpv => ?_
            clear hpv
            have hbw : Below w9.heap.size w9 wv := hb2.trans (hbv.mono hb2.size)
            go_wp2_with fail
            refine NoPan.normal ?_
            rw [HN.out]
            go_wp2
            go_roundw
            case rel => exact ⟨j + 1, by go_num, rfl, by omega, by have := HSl.out; omega, hbw⟩
            case measure => simp only [intOf]; omega
          · have hjl2 : ¬ (j : Int) < (M.length : Int) := by omega
            have HN := Lib.hid (gap_end (S := S) hj1 hj2 (by rw [HSl.out]; exact hjl))
            have hbX := HBX.out.trans (hb2.mono HBX.out.size)
            clear hjl hj2
            go_wp2
            go_ret2
            exact ⟨by rw [Hv.out.1, Hv.out.2, HN.out]; rfl, hbX⟩
end Go.Proofs.Ytfcmfadkkfkidaa
