/-
  slices.Insert of one Trip into a slice of the call's own: all roads.
-/
import Derived.Test.YtfcmfadkkfkidaaIns1
import Derived.WalkKit
import Derived.WalkSpells
import Derived.WalkLawsBesides
import Derived.Lib.Hide
import Derived.Deep.QuietTactic
import Derived.BigQuiet
import Derived.StillTailTactics
namespace Go.Proofs.Ytfcmfadkkfkidaa
open Go.RowKit

theorem insL_end {L : List T5i} {x : T5i} : insL L L.length x = L ++ [x] := by unfold insL; simp

set_option maxHeartbeats 4000000 in
set_option maxRecDepth 20000 in
theorem insTrip_end (B vb c : Nat) (A : Option Addr) (L : List T5i) (x : T5i) (w : World) (hG : Gath f5 5 25 w B (.slice A L.length c) L) (hm : L.length ≤ 1048576) (hv : Blk w vb 25 (tripC x)) (hB : B ≤ w.heap.size) :
    Calls Try.prog 82 #[.slice A L.length c, .int .i64 L.length, .slice (some ⟨vb, 0, none⟩) 1 1] w fun e w' =>
      ∃ A' c', e = .returned (.slice A' (L.length + 1) c') ∧ OwnR f5 5 25 w' B A' (L ++ [x]) ∧ Below B w w' := by
  obtain ⟨i0, hi, hz0, hz1, hz2⟩ := info_parts infoTrip
  have HC := Lib.hid (trip_src hv)
  have HG := Lib.hid hG
  have HI := Lib.hid hi; have HZ0 := Lib.hid hz0; have HZ1 := Lib.hid hz1; have HZ2 := Lib.hid hz2
  have hA : A = none → L.length = 0 ∧ c = 0 := by
    obtain ⟨_, ⟨h1, h2⟩ | ⟨g, cap, cur, h1, _⟩⟩ := hG
    · intro _; injection h1 with _ _ h3; exact ⟨h2, h3⟩
    · intro e; subst e; cases h1
  have hA2 : ∀ a, A = some a → a.off = 0 ∧ a.spot = none ∧ L.length ≤ c := by
    obtain ⟨_, ⟨h1, h2⟩ | ⟨g, cap, cur, h1, _, _, h3, _⟩⟩ := hG
    · intro a e; subst e; cases h1
    · intro a e; subst e; injection h1 with h4 _ h5; injection h4 with h4; subst h4; subst h5; exact ⟨rfl, rfl, h3⟩
  clear hi hz0 hz1 hz2 hG hv
  have hl0 : (0 : Int) ≤ L.length := by omega
  cases A with
  | none =>
    obtain ⟨h1, h2⟩ := hA rfl
    obtain rfl : L = [] := List.length_eq_zero_iff.1 h1
    subst h2
    clear hA hA2 h1
    simp only [List.length_nil] at HG ⊢
    go_enter Try.func82, Try.ntmps82
    go_wp2_with (at_builtin; refine wpList_append_own _ rfl _ _ 33 rfl B 25 i0 (.agg #[.int .i64 0, .int .i64 0, .int .i64 0, .int .i64 0, .int .i64 0]) 5 40 Try.underlying33 HI.out HZ0.out HZ1.out HZ2.out rfl (by decide) _ _ _ rfl HG.out ⟨vb, 0, none⟩ 1 1 (f5 x) rfl rfl HC.out (f_one5 x) ?c3 ?c4 hB ?c6)
    case c3 => simp [maxLen]
    case c4 => simp
    case c6 =>
      intro v' w9 hown hgrow _
      have hG9 : Gath f5 5 25 w9 B v' ([] ++ [x]) := Gath.snoc hown
      have hb9 : Below B w w9 := below_grown' (Below.refl _ _) hgrow HG.out (Nat.le_refl _) hB
      obtain ⟨A', c', rfl, ho⟩ := Gath.own (f := f5) (m := 5) (fun _ => rfl) hG9
      clear hown hgrow hG9
      go_wp2
      go_ret
      exact ⟨A', c', rfl, ho, hb9⟩
  | some a =>
    obtain ⟨h1, h2, h3⟩ := hA2 a rfl
    obtain ⟨g, o, s⟩ := a
    simp only [] at h1 h2
    subst h1; subst h2
    clear hA hA2
    by_cases hc : c = L.length
    · subst hc
      go_enter Try.func82, Try.ntmps82
      go_wp2_with (at_builtin; refine wpList_append_own _ rfl _ _ 33 rfl B 25 i0 (.agg #[.int .i64 0, .int .i64 0, .int .i64 0, .int .i64 0, .int .i64 0]) 5 40 Try.underlying33 HI.out HZ0.out HZ1.out HZ2.out rfl (by decide) _ _ _ rfl HG.out ⟨vb, 0, none⟩ 1 1 (f5 x) rfl rfl HC.out (f_one5 x) ?c3 ?c4 hB ?c6)
      case c3 => unfold maxLen; omega
      case c4 => omega
      case c6 =>
        intro v' w9 hown hgrow _
        have hG9 : Gath f5 5 25 w9 B v' (L ++ [x]) := Gath.snoc hown
        have hb9 : Below B w w9 := below_grown' (Below.refl _ _) hgrow HG.out (Nat.le_refl _) hB
        obtain ⟨A', c', rfl, ho⟩ := Gath.own (f := f5) (m := 5) (fun _ => rfl) hG9
        have HL := Lib.hid (show (L ++ [x]).length = L.length + 1 by simp)
        clear hown hgrow hG9
        go_wp2
        go_ret
        exact ⟨A', c', by rw [HL.out]; rfl, ho, hb9⟩
    · skip
      go_enter Try.func82, Try.ntmps82
      go_wp2_with (at_builtin; refine wpList_append_own _ rfl _ _ 33 rfl B 25 i0 (.agg #[.int .i64 0, .int .i64 0, .int .i64 0, .int .i64 0, .int .i64 0]) 5 40 Try.underlying33 HI.out HZ0.out HZ1.out HZ2.out rfl (by decide) _ _ _ rfl HG.out ⟨vb, 0, none⟩ 1 1 (f5 x) rfl rfl HC.out (f_one5 x) ?c3 ?c4 hB ?c6)
      case c3 => unfold maxLen; omega
      case c4 => omega
      case c6 =>
        intro v' w9 hown hgrow _
        have hG9 : Gath f5 5 25 w9 B v' (L ++ [x]) := Gath.snoc hown
        have hb9 : Below B w w9 := below_grown' (Below.refl _ _) hgrow HG.out (Nat.le_refl _) hB
        obtain ⟨A', c', rfl, ho⟩ := Gath.own (f := f5) (m := 5) (fun _ => rfl) hG9
        have HL := Lib.hid (show (L ++ [x]).length = L.length + 1 by simp)
        clear hown hgrow hG9
        go_wp2
        go_ret
        exact ⟨A', c', by rw [HL.out]; rfl, ho, hb9⟩

theorem cell_drew_sets (b : Nat) : ∀ (vs : List Value) (o : Nat) (w : World) (p : Addr), (w.drew.setCells b o vs).cell? p = (w.setCells b o vs).cell? p
  | [], _, _, _ => rfl
  | v :: r, o, w, p => by
    have h : (w.drew.setCells b o (v :: r)) = ((w.setCell ⟨b, o, none⟩ v).drew).setCells b (o + 1) r := rfl
    rw [h, cell_drew_sets b r (o + 1) (w.setCell ⟨b, o, none⟩ v) p]
    rfl
theorem row_drew {w : World} {g n : Nat} {t : TypeId} (h : Row w g t n) : Row w.drew g t n := h
theorem row_sets2 {w : World} {g n b o o' : Nat} {t : TypeId} {vs vs' : List Value} (h : Row w g t n) : Row ((w.setCells b o vs).drew.setCells b o' vs') g t n := Row.sets b vs' o' (row_drew (Row.sets b vs o h))
theorem below_sets2 {w w0 : World} {B b o o' : Nat} {vs vs' : List Value} (hB : B ≤ b) (h : Below B w0 w) : Below B w0 ((w.setCells b o vs).drew.setCells b o' vs') := below_sets hB vs' o' (Below.drew (below_sets hB vs o h))
theorem cells_sets2 {α : Type} {f : α → List Value} {m : Nat} {L : List α} {w : World} {g b o o' : Nat} {vs vs' : List Value} (h : Cells f m ((w.setCells b o vs).setCells b o' vs') g 0 L) : Cells f m ((w.setCells b o vs).drew.setCells b o' vs') g 0 L := fun k y hy j u hu => by
  rw [cell_drew_sets]; exact h k y hy j u hu
theorem insTrip_any (B vb i c : Nat) (A : Option Addr) (L : List T5i) (x : T5i) (w : World) (hG : Gath f5 5 25 w B (.slice A L.length c) L) (hi : i ≤ L.length) (hm : L.length ≤ 1048576) (hv : Blk w vb 25 (tripC x)) (hB : B ≤ w.heap.size) :
    Calls Try.prog 82 #[.slice A L.length c, .int .i64 i, .slice (some ⟨vb, 0, none⟩) 1 1] w fun e w' =>
      ∃ A' c', e = .returned (.slice A' (insL L i x).length c') ∧ OwnR f5 5 25 w' B A' (insL L i x) ∧ Below B w w' := by
  have hlen := insL_len (x := x) hi
  rcases Nat.lt_or_ge i L.length with hlt | hge
  · obtain ⟨h0, ⟨h1, h2⟩ | ⟨g, cap, cur, h1, hBg, hh, hnc, hcm, hs, ht⟩⟩ := id hG
    · omega
    have hC : Cells f5 5 w g 0 L := by
      obtain ⟨A1, c1, e1, ho⟩ := Gath.own (f := f5) (m := 5) (fun _ => rfl) hG
      injection e1 with e1 _ e2
      injection h1 with h1 _ h3
      subst e1; subst e2; subst h1; subst h3
      obtain ⟨g1, e3, _, _, hC⟩ := ho (fun e => by subst e; simp at hlt)
      injection e3 with e3
      injection e3 with e3
      subst e3; exact hC
    injection h1 with h1 _ h3
    subst h1; subst h3
    have hgw : g < w.heap.size := by
      rcases Nat.lt_or_ge g w.heap.size with h | h
      · exact h
      · rw [Array.getElem?_eq_none h] at hh; cases hh
    by_cases hr : L.length + 1 ≤ c
    · have hvg : vb ≠ g := fun e => by
        subst e
        unfold Blk at hv
        rw [hh] at hv
        injection hv with hv
        injection hv with hv
        rw [hv] at hs
        simp [tripC] at hs
        omega
      have hR : Row w g 25 ((L.length + 1) * 5) := ⟨cur, hh, by rw [hs]; exact Nat.mul_le_mul_right 5 hr⟩
      refine (insTrip_shift g c i vb L x w hR hC hlt hr (by unfold maxLen at hcm; omega) hvg hv).mono ?_
      rintro e w' ⟨rfl, rfl⟩
      have hR2 : Row w.drew g 25 ((L.length + 1) * 5) := hR
      have hC2 : Cells f5 5 w.drew g 0 (L.take i) := hC.take i
      exact ⟨_, _, by rw [hlen], fun _ => ⟨g, rfl, hBg, by rw [hlen]; exact Row.sets g _ _ (Row.sets g _ _ hR2), cells_insA hR2 hC2 (fun _ => rfl) hi (Nat.le_refl _)⟩, below_sets hBg _ _ (below_sets hBg _ _ (Below.drew (Below.refl _ _)))⟩
    · refine (insTrip_grow g c i vb L x w hC hgw hlt (by omega) hnc hm hv).mono ?_
      rintro e w' ⟨G, ROW, hr1, hr2, rfl, rfl⟩
      have hR2 : Row (w.alloc (.cells ROW 25)).drew w.heap.size 25 ((L.length + 1) * 5) := ⟨ROW, by show (w.alloc (.cells ROW 25)).heap[w.heap.size]? = _; exact Blk.new w 25 ROW, hr1⟩
      have hC2 : Cells f5 5 (w.alloc (.cells ROW 25)).drew w.heap.size 0 (L.take i) := fun k y hy j u hu => by
        have hj : j < 5 := (List.getElem?_eq_some_iff.1 hu).1
        have h5 := hr2 (k * 5 + j) u (by rw [flatMap_get (f := f5) (m := 5) (fun _ => rfl) _ k j y hy hj]; exact hu)
        have hk := (Blk.new w 25 ROW).cell (0 + k * 5 + j)
        rw [show 0 + k * 5 + j = k * 5 + j by omega] at hk ⊢
        exact hk.trans h5
      have hb0 : Below B w (w.alloc (.cells ROW 25)).drew := Below.drew ((Below.refl _ _).alloc hB _)
      refine ⟨_, _, by rw [hlen], fun _ => ⟨w.heap.size, rfl, hB, ?_, ?_⟩, ?_⟩
      · rw [hlen]; exact row_sets2 hR2
      · exact cells_sets2 (cells_insB hR2 hC2 (x := x) (fun _ => rfl) hi (Nat.le_refl _))
      · exact below_sets2 hB hb0
  · obtain rfl : i = L.length := by omega
    rw [insL_end]
    refine (insTrip_end B vb c A L x w hG hm hv hB).mono ?_
    rintro e w' ⟨A', c', rfl, h2, h3⟩
    exact ⟨A', c', by simp, h2, h3⟩
end Go.Proofs.Ytfcmfadkkfkidaa
