/-
  The laws' helpers on slices of slices of ints.
-/
import Derived.Test.YtfcmfadkkfkidaaSec0
import Derived.Test.YtfcmfadkkfkidaaRs
import Derived.Test.YtfcmfadkkfkidaaRegion
import Derived.WalkKit
import Derived.WalkSpells
import Derived.WalkLawsBesides
import Derived.Lib.Hide
import Derived.Deep.QuietTactic
import Derived.BigQuiet
import Derived.StillTailTactics
namespace Go.Proofs.Ytfcmfadkkfkidaa
open Go.RowKit

theorem cellS {w : World} {b off k : Nat} {M : List Elt} {x : Elt} (h : Cells fS 1 w b off M) (hx : M[k]? = some x) : w.cell? ⟨b, off + k, none⟩ = some (.slice x.1 x.2.2.length x.2.1) := by
  simpa using h k x hx 0 _ rfl
/-- All ints in the first k rows. -/
def tot (M : List Elt) : Nat → Nat
  | 0 => 0
  | k + 1 => tot M k + match M[k]? with | some x => x.2.2.length | none => 0
theorem tot_succ {M : List Elt} {k : Nat} {x : Elt} (hx : M[k]? = some x) : tot M (k + 1) = tot M k + x.2.2.length := by rw [tot, hx]
theorem tot_le {M : List Elt} {c : Nat} (h : ∀ l ∈ lls M, l.length ≤ c) : ∀ k, tot M k ≤ c * k
  | 0 => Nat.le_refl 0
  | k + 1 => by
    have ih := tot_le h k
    rw [tot, Nat.mul_succ]
    cases hx : M[k]? with
    | none => show tot M k + 0 ≤ _; omega
    | some x =>
      have : x.2.2.length ≤ c := h _ (List.mem_map.2 ⟨x, List.mem_of_getElem? hx, rfl⟩)
      show tot M k + x.2.2.length ≤ _
      omega
def markE (k0 : Int) (M : List Elt) (k : Nat) (x : Elt) : Elt := (x.1, x.2.1, marks1 (k0 + tot M k) x.2.2.length)
/-- The laws' marks stand in the rows. -/
structure Marked (w : World) (B : Nat) (A : Option Addr) (k0 : Int) (M : List Elt) : Prop where
  own : OwnR fS 1 44 w B A M
  rows : ∀ (k : Nat) (x : Elt), M[k]? = some x → RowOk w B (markE k0 M k x)
theorem Marked.next {w w' : World} {B : Nat} {A : Option Addr} {k0 : Int} {M : List Elt} (h : Marked w B A k0 M) (hb : Below w.heap.size w w') : Marked w' B A k0 M :=
  ⟨h.own.next hb, fun k x hx => (h.rows k x hx).next hb⟩
theorem OwnR.onlyTy {w w' : World} {B : Nat} {A : Option Addr} {M : List Elt} {x : Elt} (h : OwnR fS 1 44 w B A M) (hx : RowOk w B x) (ho : Only x.1 w w') : OwnR fS 1 44 w' B A M := by
  intro hn
  obtain ⟨g, hA, hg, hR, hC⟩ := h hn
  obtain ⟨g', hA', hg', hr', hc'⟩ := hx
  refine h.only ho (fun a a' ha ha' => ?_) hn
  rw [hA] at ha; rw [hA'] at ha'
  cases ha; cases ha'
  intro e
  obtain ⟨cs, hh, _⟩ := hR
  exact ne_ty hr' hh (by decide) e.symm
theorem RowOk.only {w w' : World} {B B' : Nat} {x y : Elt} (h : RowOk w B y) (hx : RowOk w B' x) (ho : Only x.1 w w') (hne : y.1 ≠ x.1) : RowOk w' B y := by
  refine h.same fun g hA => ho.block g fun a ha e => hne ?_
  obtain ⟨g', hA', _⟩ := hx
  rw [hA'] at ha
  cases ha
  rw [hA, hA']
  subst e
  rfl
theorem RowOk.marked {w w' : World} {B : Nat} {x : Elt} {L : List Int} (h : RowOk w B x) (hl : L.length = x.2.2.length) (ho : OwnR f1 1 3 w' B x.1 L) (h0 : x.2.2 = [] → w = w') : RowOk w' B (x.1, x.2.1, L) := by
  by_cases hL : L = []
  · subst hL
    have hx : x.2.2 = [] := List.length_eq_zero_iff.1 hl.symm
    rw [← h0 hx]
    obtain ⟨g, hA, hB, ⟨cs, hr, hn⟩, hc⟩ := h
    exact ⟨g, hA, hB, ⟨cs, hr, by simp⟩, fun k y hy => by simp at hy⟩
  · exact ho hL

set_option maxHeartbeats 4000000 in
theorem markIntSS_any (A : Option Addr) (c B : Nat) (M : List Elt) (k0 : Int) (w : World) (h : OwnSS w B A M) (hm : M.length ≤ 1000000) (ht : ∀ k, k ≤ M.length → tot M k ≤ 1000000) (h0 : 0 ≤ k0) (h1 : k0 ≤ 1000000) :
    Calls Try.prog 31 #[.slice A M.length c, .int .i64 k0] w fun e w' => e = .returned (.int .i64 (k0 + tot M M.length)) ∧ Marked w' B A k0 M ∧ Below B w w' := by
  have HT := Lib.hid ht; clear ht
  have HO := Lib.hid h; clear h
  go_enter Try.func31, Try.ntmps31
  go_wp2
  go_loopw [1, 5] (fun v1 v5 wr => ∃ k : Nat, v5 = .int .i64 k ∧ k ≤ M.length ∧ v1 = .int .i64 (k0 + tot M k) ∧ Hid (OwnR fS 1 44 wr B A M) ∧ Hid (∀ (j : Nat) (x : Elt), M[j]? = some x → (j < k → RowOk wr B (markE k0 M j x)) ∧ (k ≤ j → RowOk wr B x)) ∧ Below B w wr) (fun _ v5 _ => (M.length - intOf v5).toNat)
  case atStart => exact ⟨0, rfl, by omega, by simp [tot], HO.out.own, fun j x hx => ⟨fun h => by omega, fun _ => HO.out.rows x (List.mem_of_getElem? hx)⟩, Below.refl _ _⟩
  case round =>
    obtain ⟨k, rfl, hk, rfl, hO, hR, hb⟩ := hrel
    by_cases hlt : k < M.length
    · have hx : M[k]? = some M[k] := List.getElem?_eq_getElem hlt
      generalize M[k] = x at hx
      have hrow := (hR.out k x hx).2 (Nat.le_refl k)
      obtain ⟨b, off, rfl, hbB, hC⟩ := hO.out.sl (SlR.ne hx)
      have c0 := cellS hC hx
      have t0 := HT.out k hk
      have t1 := HT.out (k + 1) hlt
      rw [tot_succ hx] at t1
      have hk0 : (0 : Int) ≤ (k : Int) := by omega
      have hk1 : (k : Int) < (M.length : Int) := by omega
      have HX := Lib.hid hx
      have HRow := Lib.hid hrow
      clear hC hx hrow
      go_wp2_with fail
      refine (markIntS_any x.1 x.2.1 B x.2.2 _ _ HRow.out.own (by omega) (by omega) (by omega)).mono ?_; rintro e w2 ⟨rfl, ho2, hon, hz⟩
      have hb2 : Below B w w2 := hb.trans (hon.below fun a ha => by
        obtain ⟨g, hA, hg, _⟩ := HRow.out
        rw [hA] at ha; cases ha; exact hg)
      have hO2 : Hid (OwnR fS 1 44 w2 B (some ⟨b, off, none⟩) M) := (hO.out.onlyTy HRow.out hon : OwnR fS 1 44 w2 B (some ⟨b, off, none⟩) M)
      have hR2 : Hid (∀ (j : Nat) (y : Elt), M[j]? = some y → (j < k + 1 → RowOk w2 B (markE k0 M j y)) ∧ (k + 1 ≤ j → RowOk w2 B y)) := fun j y hy => by
        by_cases hj : j = k
        · subst hj
          obtain rfl : y = x := by have := HX.out; rw [hy] at this; cases this; rfl
          refine ⟨fun _ => ?_, fun h => by omega⟩
          exact HRow.out.marked (marks1_len _ _) ho2 hz
        · have hne : y.1 ≠ x.1 := HO.out.dist j k y x hy HX.out hj
          exact ⟨fun h => ((hR.out j y hy).1 (by omega)).only HRow.out hon hne, fun h => ((hR.out j y hy).2 (by omega)).only HRow.out hon hne⟩
      have HT2 := Lib.hid (tot_succ HX.out)
      clear hO hR ho2 hon hz hb
      go_wp2
      go_roundw
      case rel => exact ⟨k + 1, by go_num, by omega, congrArg (Value.int .i64) (by have := HT2.out; omega), hO2, hR2, hb2⟩
      case measure => simp only [intOf]; omega
    · obtain rfl : k = M.length := by omega
      go_wp2
      go_ret
      exact ⟨rfl, ⟨hO.out, fun j x hx => (hR.out j x hx).1 (List.getElem?_eq_some_iff.1 hx).1⟩, hb⟩

set_option maxHeartbeats 4000000 in
theorem heldIntSS_any (A : Option Addr) (c B : Nat) (M : List Elt) (k0 : Int) (w : World) (h : Marked w B A k0 M) (hm : M.length ≤ 1000000) (ht : ∀ k, k ≤ M.length → tot M k ≤ 1000000) (h0 : 0 ≤ k0) (h1 : k0 ≤ 1000000) :
    Calls Try.prog 32 #[.slice A M.length c, .int .i64 k0] w fun e w' => e = .returned (.int .i64 (k0 + tot M M.length)) ∧ w = w' := by
  have HT := Lib.hid ht; clear ht
  have HO := Lib.hid h; clear h
  go_enter Try.func32, Try.ntmps32
  go_wp2
  go_loop [1, 5] (fun v1 v5 => ∃ k : Nat, v5 = .int .i64 k ∧ k ≤ M.length ∧ v1 = .int .i64 (k0 + tot M k)) (fun _ v5 => (M.length - intOf v5).toNat)
  case atStart => exact ⟨0, rfl, by omega, by simp [tot]⟩
  case round =>
    obtain ⟨k, rfl, hk, rfl⟩ := hrel
    by_cases hlt : k < M.length
    · have hx : M[k]? = some M[k] := List.getElem?_eq_getElem hlt
      generalize M[k] = x at hx
      have HRow := Lib.hid (HO.out.rows k x hx)
      obtain ⟨b, off, rfl, hbB, hC⟩ := HO.out.own.sl (SlR.ne hx)
      have c0 := cellS hC hx
      have t0 := HT.out k hk
      have t1 := HT.out (k + 1) hlt
      rw [tot_succ hx] at t1
      have HT2 := Lib.hid (tot_succ hx)
      have hk0 : (0 : Int) ≤ (k : Int) := by omega
      have hk1 : (k : Int) < (M.length : Int) := by omega
      clear hC hx
      go_wp2_with fail
      refine (heldIntS_any x.1 x.2.1 x.2.2.length _ _ (show SlR f1 1 w w.heap.size x.1 (marks1 (k0 + tot M k) x.2.2.length) from HRow.out.sl) (by omega) (by omega) (by omega)).mono ?_; rintro e w' ⟨rfl, rfl⟩
      go_wp2
      go_round
      case rel => exact ⟨k + 1, by go_num, by omega, congrArg (Value.int .i64) (by have := HT2.out; omega)⟩
      case measure => simp only [intOf]; omega
    · obtain rfl : k = M.length := by omega
      go_wp2
      go_ret
      exact ⟨rfl, rfl⟩

theorem lls_at {M N : List Elt} (h : lls M = lls N) {k : Nat} {x y : Elt} (hx : M[k]? = some x) (hy : N[k]? = some y) : x.2.2 = y.2.2 := by
  have h1 : (lls M)[k]? = some x.2.2 := by simp [lls, hx]
  have h2 : (lls N)[k]? = some y.2.2 := by simp [lls, hy]
  rw [h, h2] at h1
  exact (Option.some.inj h1).symm

set_option maxHeartbeats 400000 in
theorem eqIntS_same (A A' : Option Addr) (c c' : Nat) (L : List Int) (w : World) (hr : SlR f1 1 w w.heap.size A L) (hr' : SlR f1 1 w w.heap.size A' L) (hm : (L.length : Int) ≤ 1048576) :
    Calls Try.prog 35 #[.slice A L.length c, .slice A' L.length c'] w fun e w' => e = .returned (.bool true) ∧ Below w.heap.size w w' :=
  (eqIntS_any A A' c c' L L w hr hr' (by omega)).mono fun e w' ⟨h1, h2⟩ => ⟨by rw [eqL_refl] at h1; exact h1, h2⟩

set_option maxHeartbeats 4000000 in
theorem eqIntSS_same (A A' : Option Addr) (c c' : Nat) (M N : List Elt) (w : World) (hr : SlSS w w.heap.size A M) (hr' : SlSS w w.heap.size A' N) (he : lls M = lls N) (hm : M.length ≤ 1000000) (hL : ∀ l ∈ lls M, l.length ≤ 1000000) :
    Calls Try.prog 30 #[.slice A M.length c, .slice A' N.length c'] w fun e w' => e = .returned (.bool true) ∧ Below w.heap.size w w' := by
  have hl : N.length = M.length := by rw [← lls_len N, ← lls_len M, he]
  have hb := neI (M.length : Int)
  have HE := Lib.hid he; clear he
  have HL := Lib.hid hL; clear hL
  have HA := Lib.hid hr; have HA' := Lib.hid hr'
  clear hr hr'
  have HNl := Lib.hid hl
  rw [hl]; clear hl
  go_enter Try.func30, Try.ntmps30
  go_wp2
  go_loopw [5] (fun v5 wr => ∃ k : Nat, v5 = .int .i64 k ∧ k ≤ M.length ∧ Below w.heap.size w wr) (fun v5 _ => (M.length - intOf v5).toNat)
  case atStart => exact ⟨0, rfl, by omega, Below.refl _ _⟩
  case round =>
    obtain ⟨k, rfl, hk, hbw⟩ := hrel
    by_cases hlt : k < M.length
    · have hx : M[k]? = some M[k] := List.getElem?_eq_getElem hlt
      have hy : N[k]? = some (N[k]'(by have := HNl.out; omega)) := List.getElem?_eq_getElem _
      generalize M[k] = x at hx
      generalize N[k]'(by have := HNl.out; omega) = y at hy
      have hxy := lls_at HE.out hx hy
      obtain ⟨b, off, rfl, hbB, hC⟩ := HA.out.sl (SlR.ne hx)
      obtain ⟨b', off', rfl, hbB', hC'⟩ := HA'.out.sl (SlR.ne hy)
      have hk0 : (0 : Int) ≤ (k : Int) := by omega
      have hk1 : (k : Int) < (M.length : Int) := by omega
      have hxl := HL.out x.2.2 (List.mem_map.2 ⟨x, List.mem_of_getElem? hx, rfl⟩)
      have HX := Lib.hid (hC.below hbw hbB); have HY := Lib.hid (hC'.below hbw hbB')
      have HHx := Lib.hid hx; have HHy := Lib.hid hy
      have r0 := Lib.hid ((HA.out.rows x (List.mem_of_getElem? hx)).next hbw)
      have r1 := Lib.hid ((show SlR f1 1 w w.heap.size y.1 x.2.2 by rw [hxy]; exact HA'.out.rows y (List.mem_of_getElem? hy)).next hbw)
      have HXY := Lib.hid hxy
      have hB : b < wr.heap.size := by have := hbw.size; omega
      have hB' : b' < wr.heap.size := by have := hbw.size; omega
      clear hC hC' hx hy hxy
      go_wp2
      refine wp_region_grow [.fix (.slice (some ⟨b, off, none⟩) M.length c), .fix (.int .i64 k), .val (.pointer (some ⟨b, off + k, none⟩)), .val (.slice x.1 x.2.2.length x.2.1), .fix (.slice (some ⟨b', off', none⟩) M.length c'), .fix (.int .i64 k), .val (.pointer (some ⟨b', off' + k, none⟩)), .val (.slice y.1 x.2.2.length y.2.1), .val (.bool true), .val (.bool false)] mixed (by kernel_rfl) ?_
      refine SeqG.fixStep (.inl ⟨rfl, fun _ => rfl⟩) ?_
      simp only [Act.put, List.setIfInBounds_toArray, List.set_cons_zero, List.set_cons_succ]
      refine SeqG.fixStep (.inl ⟨rfl, fun _ => rfl⟩) ?_
      simp only [Act.put, List.setIfInBounds_toArray, List.set_cons_zero, List.set_cons_succ]
      refine SeqG.valStep (fun wv hbv hpv => ?_) ?_
      · skip
        go_wp2_with fail
        exact post_val (Below.refl _ _)
      simp only [Act.put, List.setIfInBounds_toArray, List.set_cons_zero, List.set_cons_succ]
      refine SeqG.valStep (fun wv hbv hpv => ?_) ?_
      · have c0 := cellS (HX.out.below hbv hB) HHx.out
        go_wp2_with fail
        exact post_val (Below.refl _ _)
      simp only [Act.put, List.setIfInBounds_toArray, List.set_cons_zero, List.set_cons_succ]
      refine SeqG.fixStep (.inl ⟨rfl, fun _ => rfl⟩) ?_
      simp only [Act.put, List.setIfInBounds_toArray, List.set_cons_zero, List.set_cons_succ]
      refine SeqG.fixStep (.inl ⟨rfl, fun _ => rfl⟩) ?_
      simp only [Act.put, List.setIfInBounds_toArray, List.set_cons_zero, List.set_cons_succ]
      refine SeqG.valStep (fun wv hbv hpv => ?_) ?_
      · skip
        go_wp2_with fail
        exact post_val (Below.refl _ _)
      simp only [Act.put, List.setIfInBounds_toArray, List.set_cons_zero, List.set_cons_succ]
      refine SeqG.valStep (fun wv hbv hpv => ?_) ?_
      · have c0 := cellS (HY.out.below hbv hB') HHy.out; rw [← HXY.out] at c0
        go_wp2_with fail
        exact post_val (Below.refl _ _)
      simp only [Act.put, List.setIfInBounds_toArray, List.set_cons_zero, List.set_cons_succ]
      refine SeqG.valStep (fun wv hbv hpv => ?_) ?_
      · go_wp2_with fail
        refine (eqIntS_same _ _ _ _ x.2.2 _ (r0.out.next hbv) (r1.out.next hbv) (by omega)).mono ?_; rintro e w' ⟨he, hb⟩; subst he
        go_wp2_with fail
        exact post_val hb
      simp only [Act.put, List.setIfInBounds_toArray, List.set_cons_zero, List.set_cons_succ]
      refine SeqG.valStep (fun wv hbv hpv => ?_) ?_
      · skip
        go_wp2_with fail
        exact post_val (Below.refl _ _)
      simp only [Act.put, List.setIfInBounds_toArray, List.set_cons_zero, List.set_cons_succ]
      refine SeqG.done fun wv hbv hpv => ?_
      refine NoPan.normal ?_
      clear hpv
      have hb2 : Below w.heap.size w wv := hbw.trans (hbv.mono hbw.size)
      go_wp2
      go_roundw
      case rel => exact ⟨k + 1, by go_num, by omega, hb2⟩
      case measure => simp only [intOf]; omega
    · obtain rfl : k = M.length := by omega
      go_wp2
      go_ret
      exact ⟨rfl, hbw⟩
set_option maxHeartbeats 4000000 in
theorem rTable_same (A A' : Option Addr) (c c' : Nat) (M N : List Elt) (w : World) (hr : SlSS w w.heap.size A M) (hr' : SlSS w w.heap.size A' N) (he : lls M = lls N) (hm : M.length ≤ 1000000) (hL : ∀ l ∈ lls M, l.length ≤ 1000000) :
    Calls Try.prog 53 #[.slice A M.length c, .slice A' N.length c'] w fun e w' => e = .returned (.bool true) ∧ Below w.heap.size w w' := by
  have hl : N.length = M.length := by rw [← lls_len N, ← lls_len M, he]
  have hb := neI (M.length : Int)
  have HE := Lib.hid he; clear he
  have HL := Lib.hid hL; clear hL
  have HA := Lib.hid hr; have HA' := Lib.hid hr'
  clear hr hr'
  have HNl := Lib.hid hl
  rw [hl]; clear hl
  go_enter Try.func53, Try.ntmps53
  go_wp2
  go_loopw [5] (fun v5 wr => ∃ k : Nat, v5 = .int .i64 k ∧ k ≤ M.length ∧ Below w.heap.size w wr) (fun v5 _ => (M.length - intOf v5).toNat)
  case atStart => exact ⟨0, rfl, by omega, Below.refl _ _⟩
  case round =>
    obtain ⟨k, rfl, hk, hbw⟩ := hrel
    by_cases hlt : k < M.length
    · have hx : M[k]? = some M[k] := List.getElem?_eq_getElem hlt
      have hy : N[k]? = some (N[k]'(by have := HNl.out; omega)) := List.getElem?_eq_getElem _
      generalize M[k] = x at hx
      generalize N[k]'(by have := HNl.out; omega) = y at hy
      have hxy := lls_at HE.out hx hy
      obtain ⟨b, off, rfl, hbB, hC⟩ := HA.out.sl (SlR.ne hx)
      obtain ⟨b', off', rfl, hbB', hC'⟩ := HA'.out.sl (SlR.ne hy)
      have hk0 : (0 : Int) ≤ (k : Int) := by omega
      have hk1 : (k : Int) < (M.length : Int) := by omega
      have hxl := HL.out x.2.2 (List.mem_map.2 ⟨x, List.mem_of_getElem? hx, rfl⟩)
      have HX := Lib.hid (hC.below hbw hbB); have HY := Lib.hid (hC'.below hbw hbB')
      have HHx := Lib.hid hx; have HHy := Lib.hid hy
      have r0 := Lib.hid ((HA.out.rows x (List.mem_of_getElem? hx)).next hbw)
      have r1 := Lib.hid ((show SlR f1 1 w w.heap.size y.1 x.2.2 by rw [hxy]; exact HA'.out.rows y (List.mem_of_getElem? hy)).next hbw)
      have HXY := Lib.hid hxy
      have hB : b < wr.heap.size := by have := hbw.size; omega
      have hB' : b' < wr.heap.size := by have := hbw.size; omega
      clear hC hC' hx hy hxy
      go_wp2
      refine wp_region_grow [.fix (.slice (some ⟨b, off, none⟩) M.length c), .fix (.int .i64 k), .val (.pointer (some ⟨b, off + k, none⟩)), .val (.slice x.1 x.2.2.length x.2.1), .fix (.slice (some ⟨b', off', none⟩) M.length c'), .fix (.int .i64 k), .val (.pointer (some ⟨b', off' + k, none⟩)), .val (.slice y.1 x.2.2.length y.2.1), .val (.bool true), .val (.bool false)] mixed (by kernel_rfl) ?_
      refine SeqG.fixStep (.inl ⟨rfl, fun _ => rfl⟩) ?_
      simp only [Act.put, List.setIfInBounds_toArray, List.set_cons_zero, List.set_cons_succ]
      refine SeqG.fixStep (.inl ⟨rfl, fun _ => rfl⟩) ?_
      simp only [Act.put, List.setIfInBounds_toArray, List.set_cons_zero, List.set_cons_succ]
      refine SeqG.valStep (fun wv hbv hpv => ?_) ?_
      · skip
        go_wp2_with fail
        exact post_val (Below.refl _ _)
      simp only [Act.put, List.setIfInBounds_toArray, List.set_cons_zero, List.set_cons_succ]
      refine SeqG.valStep (fun wv hbv hpv => ?_) ?_
      · have c0 := cellS (HX.out.below hbv hB) HHx.out
        go_wp2_with fail
        exact post_val (Below.refl _ _)
      simp only [Act.put, List.setIfInBounds_toArray, List.set_cons_zero, List.set_cons_succ]
      refine SeqG.fixStep (.inl ⟨rfl, fun _ => rfl⟩) ?_
      simp only [Act.put, List.setIfInBounds_toArray, List.set_cons_zero, List.set_cons_succ]
      refine SeqG.fixStep (.inl ⟨rfl, fun _ => rfl⟩) ?_
      simp only [Act.put, List.setIfInBounds_toArray, List.set_cons_zero, List.set_cons_succ]
      refine SeqG.valStep (fun wv hbv hpv => ?_) ?_
      · skip
        go_wp2_with fail
        exact post_val (Below.refl _ _)
      simp only [Act.put, List.setIfInBounds_toArray, List.set_cons_zero, List.set_cons_succ]
      refine SeqG.valStep (fun wv hbv hpv => ?_) ?_
      · have c0 := cellS (HY.out.below hbv hB') HHy.out; rw [← HXY.out] at c0
        go_wp2_with fail
        exact post_val (Below.refl _ _)
      simp only [Act.put, List.setIfInBounds_toArray, List.set_cons_zero, List.set_cons_succ]
      refine SeqG.valStep (fun wv hbv hpv => ?_) ?_
      · go_wp2_with fail
        refine (rInts_same _ _ _ _ x.2.2 _ (r0.out.next hbv) (r1.out.next hbv) (by omega)).mono ?_; rintro e w' ⟨he, hb⟩; subst he
        go_wp2_with fail
        exact post_val hb
      simp only [Act.put, List.setIfInBounds_toArray, List.set_cons_zero, List.set_cons_succ]
      refine SeqG.valStep (fun wv hbv hpv => ?_) ?_
      · skip
        go_wp2_with fail
        exact post_val (Below.refl _ _)
      simp only [Act.put, List.setIfInBounds_toArray, List.set_cons_zero, List.set_cons_succ]
      refine SeqG.done fun wv hbv hpv => ?_
      refine NoPan.normal ?_
      clear hpv
      have hb2 : Below w.heap.size w wv := hbw.trans (hbv.mono hbw.size)
      go_wp2
      go_roundw
      case rel => exact ⟨k + 1, by go_num, by omega, hb2⟩
      case measure => simp only [intOf]; omega
    · obtain rfl : k = M.length := by omega
      go_wp2
      go_ret
      exact ⟨rfl, hbw⟩
end Go.Proofs.Ytfcmfadkkfkidaa
