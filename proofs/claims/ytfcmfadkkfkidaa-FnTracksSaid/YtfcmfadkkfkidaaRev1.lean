/-
  ReverseTrip: the program and the reference.
-/
import Derived.Test.YtfcmfadkkfkidaaRev0
import Derived.Test.YtfcmfadkkfkidaaTrip4
import Derived.Test.YtfcmfadkkfkidaaClnTrip
import Derived.Test.YtfcmfadkkfkidaaPut
import Derived.Test.YtfcmfadkkfkidaaRegion
import Derived.Deep.DeepCutAuto
import Derived.WalkKit
import Derived.WalkSpells
import Derived.WalkLawsBesides
import Derived.Lib.Hide
import Derived.Deep.QuietTactic
import Derived.BigQuiet
import Derived.StillTailTactics
namespace Go.Proofs.Ytfcmfadkkfkidaa
open Go.RowKit

set_option maxRecDepth 20000 in
set_option maxHeartbeats 8000000 in
theorem ReverseTrip_any (A : Option Addr) (c : Nat) (L : List T5) (id : Int) (w : World) (hr : SlR f5 5 w w.heap.size A L) (hm : (L.length : Int) ≤ 1048576) (hI : ∀ x ∈ L, InI5 x) :
    Calls Try.prog 44 #[.slice A L.length c, .int .i64 id] w (NewSl2 f5 5 25 w (rvL L id) (rvU L id)) := by
  have HI := Lib.hid hI; clear hI
  have hm0 : (0 : Int) ≤ L.length := by omega
  cases h1 : tripsB L
  · have Hv := Lib.hid (rv_no (rv_off (id := id) (.inl h1)))
    go_enter Try.func44, Try.ntmps44
    go_wp2_with fail
    refine (tripAt_any _ _ L id _ (by exact hr) hm).mono ?_; rintro e w2 ⟨rfl, hb2⟩
    go_wp2_with fail
    refine (AreTrips_any _ _ L _ (by exact (hr.next hb2)) hm HI.out).mono ?_; rintro e w3 ⟨rfl, hb3⟩
    rw [h1]
    generalize atT L id = r at *
    go_wp2
    go_ret2
    exact ⟨none, 0, by rw [Hv.out.1, Hv.out.2]; rfl, by rw [Hv.out.1]; exact OwnR.nil, (hb2.trans (hb3.mono hb2.size))⟩
  have HL := Lib.hid (trOk_all h1)
  by_cases h2 : atT L id < 0
  · have Hv := Lib.hid (rv_no (rv_off (id := id) (.inr h2)))
    go_enter Try.func44, Try.ntmps44
    go_wp2_with fail
    refine (tripAt_any _ _ L id _ (by exact hr) hm).mono ?_; rintro e w2 ⟨rfl, hb2⟩
    go_wp2_with fail
    refine (AreTrips_any _ _ L _ (by exact (hr.next hb2)) hm HI.out).mono ?_; rintro e w3 ⟨rfl, hb3⟩
    rw [h1]
    generalize atT L id = r at *
    go_wp2
    go_ret2
    exact ⟨none, 0, by rw [Hv.out.1, Hv.out.2]; rfl, by rw [Hv.out.1]; exact OwnR.nil, (hb2.trans (hb3.mono hb2.size))⟩
  obtain ⟨k, x, hk, hx, hid⟩ := at_some (L := L) (id := id) (by omega)
  subst hid
  have HK := Lib.hid hk
  have Hno := Lib.hid (fun h => rv_no (rv_met hk hx h))
  have Hyes := Lib.hid (fun h => rv_yes (rv_ok h1 hk hx h))
  have HS := Lib.hid (met_set (y := revT x) hx rfl)
  have htx := HL.out x (List.mem_of_getElem? hx)
  have hkl := (List.getElem?_eq_some_iff.1 hx).1
  have hk0 : (0 : Int) ≤ (k : Int) := by omega
  have hk1 : (k : Int) < (L.length : Int) := by omega
  have H1 := Lib.hid h1
  clear hk h1 h2
  obtain ⟨b, off, rfl, hB, hcs⟩ := hr (SlR.ne hx)
  go_enter Try.func44, Try.ntmps44
  go_wp2_with fail
  refine (tripAt_any _ _ L x.1 _ (by exact hr) hm).mono ?_; rintro e w2 ⟨rfl, hb2⟩
  rw [HK.out]
  go_wp2_with fail
  refine (AreTrips_any _ _ L _ (by exact (hr.next hb2)) hm HI.out).mono ?_; rintro e w3 ⟨rfl, hb3⟩
  rw [H1.out]
  have hb03 := hb2.trans (hb3.mono hb2.size)
  clear hb2 hb3
  go_wp2_with fail
  refine (cloneTrip_any b off c L w3 (hcs.below hb03 hB) (by have := hb03.size; omega) hm).mono ?_; rintro e w4 ⟨A4, c4, rfl, o4, hb4⟩
  obtain ⟨g, rfl, hg, hR, hC⟩ := o4 (SlR.ne hx)
  have hb04 := hb03.trans (hb4.mono hb03.size)
  have z3 := hb03.size
  have hgw : w.heap.size ≤ g := by omega
  have hG := hR.lt
  clear hb4 hb03 o4
  go_wp2
  refine wp_region_grow [.fix (.slice (some ⟨g, 0, none⟩) L.length c4), .fix (.int .i64 k), .fix (.slice (some ⟨g, 0, none⟩) L.length c4), .fix (.int .i64 k), .fix (.slice (some ⟨g, 0, none⟩) L.length c4), .fix (.int .i64 k), .val (.pointer (some ⟨g, k * 5, none⟩)), .val (.pointer (some ⟨g, k * 5 + 2, none⟩)), .val (.int .i64 x.2.2.1), .fix (.slice (some ⟨g, 0, none⟩) L.length c4), .fix (.int .i64 k), .val (.pointer (some ⟨g, k * 5, none⟩)), .val (.pointer (some ⟨g, k * 5 + 1, none⟩)), .val (.int .i64 x.2.1)] mixed (by kernel_rfl) ?_
  refine SeqG.fixStep (.inl ⟨rfl, fun _ => rfl⟩) ?_
  simp only [Act.put, List.setIfInBounds_toArray, List.set_cons_zero, List.set_cons_succ]
  refine SeqG.fixStep (.inl ⟨rfl, fun _ => rfl⟩) ?_
  simp only [Act.put, List.setIfInBounds_toArray, List.set_cons_zero, List.set_cons_succ]
  refine SeqG.fixStep (.inl ⟨rfl, fun _ => rfl⟩) ?_
  simp only [Act.put, List.setIfInBounds_toArray, List.set_cons_zero, List.set_cons_succ]
  refine SeqG.fixStep (.inl ⟨rfl, fun _ => rfl⟩) ?_
  simp only [Act.put, List.setIfInBounds_toArray, List.set_cons_zero, List.set_cons_succ]
  refine SeqG.fixStep (.inl ⟨rfl, fun _ => rfl⟩) ?_
  simp only [Act.put, List.setIfInBounds_toArray, List.set_cons_zero, List.set_cons_succ]
  refine SeqG.fixStep (.inl ⟨rfl, fun _ => rfl⟩) ?_
  simp only [Act.put, List.setIfInBounds_toArray, List.set_cons_zero, List.set_cons_succ]
  refine SeqG.valStep (fun wv hbv hpv => ?_) ?_
  · skip
    go_wp2_with fail
    exact post_val (Below.refl _ _)
  simp only [Act.put, List.setIfInBounds_toArray, List.set_cons_zero, List.set_cons_succ]
  refine SeqG.valStep (fun wv hbv hpv => ?_) ?_
  · skip
    go_wp2_with fail
    exact post_val (Below.refl _ _)
  simp only [Act.put, List.setIfInBounds_toArray, List.set_cons_zero, List.set_cons_succ]
  refine SeqG.valStep (fun wv hbv hpv => ?_) ?_
  · obtain ⟨c0, c1, c2, c3, c4'⟩ := cells5 (hC.below hbv hG) hx; simp only [Nat.zero_add] at c0 c1 c2 c3 c4'
    go_wp2_with fail
    exact post_val (Below.refl _ _)
  simp only [Act.put, List.setIfInBounds_toArray, List.set_cons_zero, List.set_cons_succ]
  refine SeqG.fixStep (.inl ⟨rfl, fun _ => rfl⟩) ?_
  simp only [Act.put, List.setIfInBounds_toArray, List.set_cons_zero, List.set_cons_succ]
  refine SeqG.fixStep (.inl ⟨rfl, fun _ => rfl⟩) ?_
  simp only [Act.put, List.setIfInBounds_toArray, List.set_cons_zero, List.set_cons_succ]
  refine SeqG.valStep (fun wv hbv hpv => ?_) ?_
  · skip
    go_wp2_with fail
    exact post_val (Below.refl _ _)
  simp only [Act.put, List.setIfInBounds_toArray, List.set_cons_zero, List.set_cons_succ]
  refine SeqG.valStep (fun wv hbv hpv => ?_) ?_
  · skip
    go_wp2_with fail
    exact post_val (Below.refl _ _)
  simp only [Act.put, List.setIfInBounds_toArray, List.set_cons_zero, List.set_cons_succ]
  refine SeqG.valStep (fun wv hbv hpv => ?_) ?_
  · obtain ⟨c0, c1, c2, c3, c4'⟩ := cells5 (hC.below hbv hG) hx; simp only [Nat.zero_add] at c0 c1 c2 c3 c4'
    go_wp2_with fail
    exact post_val (Below.refl _ _)
  simp only [Act.put, List.setIfInBounds_toArray, List.set_cons_zero, List.set_cons_succ]
  refine SeqG.done fun wv hbv hpv => ?_
  clear hpv
  have hR5 := hR.below hbv hG
  have hC5 := hC.below hbv hG
  have hb05 := hb04.trans (hbv.mono hb04.size)
  obtain ⟨q0, q1, q2, q3, q4⟩ := cells5 hC5 hx
  simp only [Nat.zero_add] at q0 q1 q2 q3 q4
  have ff := hR5.frozen
  have hC6 := Cells.put (x' := (x.1, x.2.2.1, x.2.2.1, x.2.2.2.1, x.2.2.2.2)) (u := .int .i64 x.2.2.1) hR5 hC5 (fun _ => rfl) hx (show 1 < 5 by omega) rfl (Nat.le_refl _)
  have hR6 := hR5.set ⟨g, k * 5 + 1, none⟩ (.int .i64 x.2.2.1)
  have hC7 := Cells.put (k := k) (x := (x.1, x.2.2.1, x.2.2.1, x.2.2.2.1, x.2.2.2.2)) (x' := revT x) (u := .int .i64 x.2.1) hR6 hC6 (fun _ => rfl) (by rw [List.getElem?_set_self hkl]) (show 2 < 5 by omega) rfl (by rw [List.length_set]; exact Nat.le_refl _)
  rw [List.set_set] at hC7
  have hR7 := hR6.set ⟨g, k * 5 + 2, none⟩ (.int .i64 x.2.1)
  have hb07 : Below w.heap.size w ((wv.setCell ⟨g, k * 5 + 1, none⟩ (.int .i64 x.2.2.1)).setCell ⟨g, k * 5 + 2, none⟩ (.int .i64 x.2.1)) := (hb05.setCell (p := ⟨g, k * 5 + 1, none⟩) hgw _).setCell (p := ⟨g, k * 5 + 2, none⟩) hgw _
  have HO : Hid (OwnR f5 5 25 ((wv.setCell ⟨g, k * 5 + 1, none⟩ (.int .i64 x.2.2.1)).setCell ⟨g, k * 5 + 2, none⟩ (.int .i64 x.2.1)) w.heap.size (some ⟨g, 0, none⟩) (L.set k (revT x))) := (fun _ => ⟨g, rfl, hgw, by rw [List.length_set]; exact hR7, hC7⟩ : OwnR f5 5 25 ((wv.setCell ⟨g, k * 5 + 1, none⟩ (.int .i64 x.2.2.1)).setCell ⟨g, k * 5 + 2, none⟩ (.int .i64 x.2.1)) w.heap.size (some ⟨g, 0, none⟩) (L.set k (revT x)))
  have HX : Hid ((L.set k (revT x))[k]? = some (revT x)) := List.getElem?_set_self hkl
  clear hR hC hC5 hC6 hC7 hR5 hR6 hR7 hb05 hb04 hbv
  go_wp2_with fail
  refine NoPan.normal ?_
  clear q0 q1 q2 q3 q4 ff
  generalize (wv.setCell ⟨g, k * 5 + 1, none⟩ (.int .i64 x.2.2.1)).setCell ⟨g, k * 5 + 2, none⟩ (.int .i64 x.2.1) = W7 at *
  have HT : Hid (∀ y ∈ L.set k (revT x), TrOk y) := fun y hy => by
    rcases List.mem_or_eq_of_mem_set hy with h | h
    · exact HL.out y h
    · rw [h]; exact htx.rev
  have HLn := Lib.hid (show (L.set k (revT x)).length = L.length from List.length_set)
  obtain ⟨g2, hA, _, hR8, hC8⟩ := HO.out (SlR.ne HX.out)
  cases hA
  obtain ⟨q0, q1, q2, q3, q4⟩ := cells5 hC8 HX.out
  simp only [Nat.zero_add] at q0 q1 q2 q3 q4
  simp only [revT] at q0 q1 q2 q3 q4
  clear hR8 hC8
  have C7 := Lib.hid (show Calls Try.prog 78 #[.slice (some ⟨g, 0, none⟩) L.length c4, .agg #[.int .i64 x.1, .int .i64 x.2.2.1, .int .i64 x.2.1, .int .i64 x.2.2.2.1, .int .i64 x.2.2.2.2]] W7 (fun e w' => e = .returned (.bool (metB (L.set k (revT x)) (revT x))) ∧ Below W7.heap.size W7 w') from by
    have := meetsAny_any (some ⟨g, 0, none⟩) c4 (L.set k (revT x)) (revT x) W7 HO.out.sl (by rw [HLn.out]; exact hm) HT.out htx.rev
    rw [HLn.out] at this
    exact this)
  go_wp2_with fail
  refine C7.out.mono ?_; rintro e w9 ⟨rfl, hb9⟩
  rw [HS.out]
  have hb09 := hb07.trans (hb9.mono hb07.size)
  have HO9 := Lib.hid (HO.out.next hb9)
  clear q0 q1 q2 q3 q4 C7 hb9 hb07 HO
  cases hmt : metB L (revT x)
  · have Hv := Lib.hid (Hyes.out hmt)
    clear hmt Hyes Hno
    go_wp2
    go_ret2
    exact ⟨some ⟨g, 0, none⟩, c4, by rw [Hv.out.1, Hv.out.2, HLn.out]; rfl, by rw [Hv.out.1]; exact HO9.out, hb09⟩
  · have Hv := Lib.hid (Hno.out hmt)
    clear hmt Hyes Hno
    go_wp2
    go_ret2
    exact ⟨none, 0, by rw [Hv.out.1, Hv.out.2]; rfl, by rw [Hv.out.1]; exact OwnR.nil, hb09⟩

set_option maxRecDepth 20000 in
set_option maxHeartbeats 8000000 in
theorem SReverseTrip_any (A : Option Addr) (c : Nat) (L : List T5) (id : Int) (w : World) (hr : SlR f5 5 w w.heap.size A L) (hm : (L.length : Int) ≤ 1048576) (hI : ∀ x ∈ L, InI5 x) :
    Calls Try.prog 43 #[.slice A L.length c, .int .i64 id] w (NewSl2 f5 5 25 w (rvL L id) (rvU L id)) := by
  have HI := Lib.hid hI; clear hI
  have hm0 : (0 : Int) ≤ L.length := by omega
  cases h1 : tripsB L
  · have Hv := Lib.hid (rv_no (rv_off (id := id) (.inl h1)))
    go_enter Try.func43, Try.ntmps43
    go_wp2_with fail
    refine (l11Find_any _ _ L id _ (by exact hr) hm).mono ?_; rintro e w' ⟨rfl, rfl⟩
    go_wp2_with fail
    refine (l11Good_any _ _ L _ (by exact hr) hm HI.out).mono ?_; rintro e w3 ⟨rfl, hb3⟩
    rw [h1]
    generalize atT L id = r at *
    go_wp2
    go_ret2
    exact ⟨some ⟨w3.heap.size, 0, none⟩, 0, by rw [Hv.out.1, Hv.out.2]; rfl, by rw [Hv.out.1]; exact OwnR.nil, hb3.alloc hb3.size _⟩
  have HL := Lib.hid (trOk_all h1)
  by_cases h2 : atT L id < 0
  · have Hv := Lib.hid (rv_no (rv_off (id := id) (.inr h2)))
    go_enter Try.func43, Try.ntmps43
    go_wp2_with fail
    refine (l11Find_any _ _ L id _ (by exact hr) hm).mono ?_; rintro e w' ⟨rfl, rfl⟩
    go_wp2_with fail
    refine (l11Good_any _ _ L _ (by exact hr) hm HI.out).mono ?_; rintro e w3 ⟨rfl, hb3⟩
    rw [h1]
    generalize atT L id = r at *
    go_wp2
    go_ret2
    exact ⟨some ⟨w3.heap.size, 0, none⟩, 0, by rw [Hv.out.1, Hv.out.2]; rfl, by rw [Hv.out.1]; exact OwnR.nil, hb3.alloc hb3.size _⟩
  obtain ⟨k, x, hk, hx, hid⟩ := at_some (L := L) (id := id) (by omega)
  subst hid
  have HK := Lib.hid hk
  have Hno := Lib.hid (fun h => rv_no (rv_met hk hx h))
  have Hyes := Lib.hid (fun h => rv_yes (rv_ok h1 hk hx h))
  have HS := Lib.hid (met_set (y := revT x) hx rfl)
  have htx := HL.out x (List.mem_of_getElem? hx)
  have hkl := (List.getElem?_eq_some_iff.1 hx).1
  have hk0 : (0 : Int) ≤ (k : Int) := by omega
  have hk1 : (k : Int) < (L.length : Int) := by omega
  have H1 := Lib.hid h1
  clear hk h1 h2
  obtain ⟨b, off, rfl, hB, hcs⟩ := hr (SlR.ne hx)
  go_enter Try.func43, Try.ntmps43
  go_wp2_with fail
  refine (l11Find_any _ _ L x.1 _ (by exact hr) hm).mono ?_; rintro e w' ⟨rfl, rfl⟩
  rw [HK.out]
  go_wp2_with fail
  refine (l11Good_any _ _ L _ (by exact hr) hm HI.out).mono ?_; rintro e w3 ⟨rfl, hb3⟩
  rw [H1.out]
  have hCL := hcs.below hb3 hB
  have hBr : b < w3.heap.size := by have := hb3.size; omega
  generalize hW0 : w3 = W0 at *
  clear hW0
  go_wp2
  refine wp_region_grow [.fix (.int .i64 x.1), .fix (.slice (some ⟨b, off, none⟩) L.length c), .fix (.int .i64 k), .val (.pointer (some ⟨b, off + k * 5, none⟩)), .val (.pointer (some ⟨b, off + k * 5 + 2, none⟩)), .val (.int .i64 x.2.2.1), .fix (.slice (some ⟨b, off, none⟩) L.length c), .fix (.int .i64 k), .val (.pointer (some ⟨b, off + k * 5, none⟩)), .val (.pointer (some ⟨b, off + k * 5 + 1, none⟩)), .val (.int .i64 x.2.1), .fix (.slice (some ⟨b, off, none⟩) L.length c), .fix (.int .i64 k), .val (.pointer (some ⟨b, off + k * 5, none⟩)), .val (.pointer (some ⟨b, off + k * 5 + 3, none⟩)), .val (.int .i64 x.2.2.2.1), .fix (.slice (some ⟨b, off, none⟩) L.length c), .fix (.int .i64 k), .val (.pointer (some ⟨b, off + k * 5, none⟩)), .val (.pointer (some ⟨b, off + k * 5 + 4, none⟩)), .val (.int .i64 x.2.2.2.2), .val (.agg #[.int .i64 x.1, .int .i64 x.2.2.1, .int .i64 x.2.1, .int .i64 x.2.2.2.1, .int .i64 x.2.2.2.2]), .pred (fun v w' => ∃ g, v = .pointer (some ⟨g, 0, none⟩) ∧ W0.heap.size ≤ g ∧ Blk w' g 25 #[.int .i64 0, .int .i64 0, .int .i64 0, .int .i64 0, .int .i64 0])] mixed (by kernel_rfl) ?_
  refine SeqG.fixStep (.inl ⟨rfl, fun _ => rfl⟩) ?_
  simp only [Act.put, List.setIfInBounds_toArray, List.set_cons_zero, List.set_cons_succ]
  refine SeqG.fixStep (.inl ⟨rfl, fun _ => rfl⟩) ?_
  simp only [Act.put, List.setIfInBounds_toArray, List.set_cons_zero, List.set_cons_succ]
  refine SeqG.fixStep (.inl ⟨rfl, fun _ => rfl⟩) ?_
  simp only [Act.put, List.setIfInBounds_toArray, List.set_cons_zero, List.set_cons_succ]
  refine SeqG.valStep (fun wv hbv hpv => ?_) ?_
  · skip
    go_wp2_with fail
    exact post_val (Below.refl _ _)
  simp only [Act.put, List.setIfInBounds_toArray, List.set_cons_zero, List.set_cons_succ]
  refine SeqG.valStep (fun wv hbv hpv => ?_) ?_
  · skip
    go_wp2_with fail
    exact post_val (Below.refl _ _)
  simp only [Act.put, List.setIfInBounds_toArray, List.set_cons_zero, List.set_cons_succ]
  refine SeqG.valStep (fun wv hbv hpv => ?_) ?_
  · obtain ⟨c0, c1, c2, c3, c4'⟩ := cells5 (hCL.below hbv hBr) hx
    go_wp2_with fail
    exact post_val (Below.refl _ _)
  simp only [Act.put, List.setIfInBounds_toArray, List.set_cons_zero, List.set_cons_succ]
  refine SeqG.fixStep (.inl ⟨rfl, fun _ => rfl⟩) ?_
  simp only [Act.put, List.setIfInBounds_toArray, List.set_cons_zero, List.set_cons_succ]
  refine SeqG.fixStep (.inl ⟨rfl, fun _ => rfl⟩) ?_
  simp only [Act.put, List.setIfInBounds_toArray, List.set_cons_zero, List.set_cons_succ]
  refine SeqG.valStep (fun wv hbv hpv => ?_) ?_
  · skip
    go_wp2_with fail
    exact post_val (Below.refl _ _)
  simp only [Act.put, List.setIfInBounds_toArray, List.set_cons_zero, List.set_cons_succ]
  refine SeqG.valStep (fun wv hbv hpv => ?_) ?_
  · skip
    go_wp2_with fail
    exact post_val (Below.refl _ _)
  simp only [Act.put, List.setIfInBounds_toArray, List.set_cons_zero, List.set_cons_succ]
  refine SeqG.valStep (fun wv hbv hpv => ?_) ?_
  · obtain ⟨c0, c1, c2, c3, c4'⟩ := cells5 (hCL.below hbv hBr) hx
    go_wp2_with fail
    exact post_val (Below.refl _ _)
  simp only [Act.put, List.setIfInBounds_toArray, List.set_cons_zero, List.set_cons_succ]
  refine SeqG.fixStep (.inl ⟨rfl, fun _ => rfl⟩) ?_
  simp only [Act.put, List.setIfInBounds_toArray, List.set_cons_zero, List.set_cons_succ]
  refine SeqG.fixStep (.inl ⟨rfl, fun _ => rfl⟩) ?_
  simp only [Act.put, List.setIfInBounds_toArray, List.set_cons_zero, List.set_cons_succ]
  refine SeqG.valStep (fun wv hbv hpv => ?_) ?_
  · skip
    go_wp2_with fail
    exact post_val (Below.refl _ _)
  simp only [Act.put, List.setIfInBounds_toArray, List.set_cons_zero, List.set_cons_succ]
  refine SeqG.valStep (fun wv hbv hpv => ?_) ?_
  · skip
    go_wp2_with fail
    exact post_val (Below.refl _ _)
  simp only [Act.put, List.setIfInBounds_toArray, List.set_cons_zero, List.set_cons_succ]
  refine SeqG.valStep (fun wv hbv hpv => ?_) ?_
  · obtain ⟨c0, c1, c2, c3, c4'⟩ := cells5 (hCL.below hbv hBr) hx
    go_wp2_with fail
    exact post_val (Below.refl _ _)
  simp only [Act.put, List.setIfInBounds_toArray, List.set_cons_zero, List.set_cons_succ]
  refine SeqG.fixStep (.inl ⟨rfl, fun _ => rfl⟩) ?_
  simp only [Act.put, List.setIfInBounds_toArray, List.set_cons_zero, List.set_cons_succ]
  refine SeqG.fixStep (.inl ⟨rfl, fun _ => rfl⟩) ?_
  simp only [Act.put, List.setIfInBounds_toArray, List.set_cons_zero, List.set_cons_succ]
  refine SeqG.valStep (fun wv hbv hpv => ?_) ?_
  · skip
    go_wp2_with fail
    exact post_val (Below.refl _ _)
  simp only [Act.put, List.setIfInBounds_toArray, List.set_cons_zero, List.set_cons_succ]
  refine SeqG.valStep (fun wv hbv hpv => ?_) ?_
  · skip
    go_wp2_with fail
    exact post_val (Below.refl _ _)
  simp only [Act.put, List.setIfInBounds_toArray, List.set_cons_zero, List.set_cons_succ]
  refine SeqG.valStep (fun wv hbv hpv => ?_) ?_
  · obtain ⟨c0, c1, c2, c3, c4'⟩ := cells5 (hCL.below hbv hBr) hx
    go_wp2_with fail
    exact post_val (Below.refl _ _)
  simp only [Act.put, List.setIfInBounds_toArray, List.set_cons_zero, List.set_cons_succ]
  refine SeqG.valStep (fun wv hbv hpv => ?_) ?_
  · skip
    go_wp2_with fail
    exact post_val (Below.refl _ _)
  simp only [Act.put, List.setIfInBounds_toArray, List.set_cons_zero, List.set_cons_succ]
  refine SeqG.predStep (fun v w1 w2 hb h => by obtain ⟨g, h1, h2, h3⟩ := h; exact ⟨g, h1, h2, h3.below' hb⟩) (fun wv hbv hpv => ?_) (fun v1 => ?_)
  · go_wp2_with fail
    exact post_pred _ (by (repeat (first | exact Below.refl _ _ | refine Below.drew ?_ | refine below_drewN ?_ _ | (refine Below.alloc ?_ (by (try simp) <;> omega) _) | (refine Below.setCell ?_ (by (try simp) <;> omega) _) | (refine Below.trans ?_ (Below.mono (by assumption) (by (try simp) <;> omega)))))) ⟨_, rfl, hbv.size, Blk.new _ _ _⟩
  simp only [Act.put, List.setIfInBounds_toArray, List.set_cons_zero, List.set_cons_succ]
  refine SeqG.done fun wv hbv hpv => ?_
  obtain ⟨g, rfl, hg, kg⟩ := hpv _ (.head _)
  clear hpv
  have hb4 : Below w.heap.size w wv := hb3.trans (hbv.mono hb3.size)
  have z3 := hb3.size
  have k4 := kg.cell
  have f4 := kg.frozen
  have k5 : Blk (((((wv.setCell ⟨g, 0, none⟩ (.int .i64 x.1)).setCell ⟨g, 1, none⟩ (.int .i64 x.2.2.1)).setCell ⟨g, 2, none⟩ (.int .i64 x.2.1)).setCell ⟨g, 3, none⟩ (.int .i64 x.2.2.2.1)).setCell ⟨g, 4, none⟩ (.int .i64 x.2.2.2.2)) g 25 #[.int .i64 x.1, .int .i64 x.2.2.1, .int .i64 x.2.1, .int .i64 x.2.2.2.1, .int .i64 x.2.2.2.2] := by
    have := ((((kg.set_ 0 (.int .i64 x.1)).set_ 1 (.int .i64 x.2.2.1)).set_ 2 (.int .i64 x.2.1)).set_ 3 (.int .i64 x.2.2.2.1)).set_ 4 (.int .i64 x.2.2.2.2)
    simpa using this
  have hgw : w.heap.size ≤ g := by omega
  have hb5 : Below w.heap.size w (((((wv.setCell ⟨g, 0, none⟩ (.int .i64 x.1)).setCell ⟨g, 1, none⟩ (.int .i64 x.2.2.1)).setCell ⟨g, 2, none⟩ (.int .i64 x.2.1)).setCell ⟨g, 3, none⟩ (.int .i64 x.2.2.2.1)).setCell ⟨g, 4, none⟩ (.int .i64 x.2.2.2.2)) :=
    ((((hb4.setCell (p := ⟨g, 0, none⟩) hgw _).setCell (p := ⟨g, 1, none⟩) hgw _).setCell (p := ⟨g, 2, none⟩) hgw _).setCell (p := ⟨g, 3, none⟩) hgw _).setCell (p := ⟨g, 4, none⟩) hgw _
  have K5 := Lib.hid k5
  clear hCL hbv hb4 k5 kg
  go_wp2_with fail
  refine NoPan.normal ?_
  clear k4 f4
  generalize ((((wv.setCell ⟨g, 0, none⟩ (.int .i64 x.1)).setCell ⟨g, 1, none⟩ (.int .i64 x.2.2.1)).setCell ⟨g, 2, none⟩ (.int .i64 x.2.1)).setCell ⟨g, 3, none⟩ (.int .i64 x.2.2.2.1)).setCell ⟨g, 4, none⟩ (.int .i64 x.2.2.2.2) = W5 at *
  have e5 := K5.out.cell
  go_wp2_with fail
  refine (l11Free_any _ _ L (revT x) _ (by exact (hr.below hb5).mono hb5.size) hm HL.out htx.rev).mono ?_; rintro e w6 ⟨rfl, hb6⟩
  have hb06 := hb5.trans (hb6.mono hb5.size)
  have k6 := K5.out.below' hb6
  have hC6 := hcs.below hb06 hB
  have z6 := hb06.size
  have hb6' : b < w6.heap.size := by omega
  clear e5 hb5 hb6 hb3
  cases hmt : metB L (revT x)
  · have Hv := Lib.hid (Hyes.out hmt)
    clear hmt Hyes Hno
    obtain ⟨i0, hi, hz0, hz1, hz2⟩ := info_parts infoTrip
    have HII := Lib.hid hi; have HZ0 := Lib.hid hz0; have HZ1 := Lib.hid hz1; have HZ2 := Lib.hid hz2
    clear hi hz0 hz1 hz2
    have HE := Lib.hid (Gath.made (f := f5) (m := 5) (t := 25) (B := w6.heap.size) (w := w6) (Nat.le_refl _))
    have hb0 : Below w6.heap.size w6 (w6.alloc (.cells #[] 25 (0, 0))) := by (repeat (first | exact Below.refl _ _ | refine Below.drew ?_ | refine below_drewN ?_ _ | (refine Below.alloc ?_ (by (try simp) <;> omega) _) | (refine Below.setCell ?_ (by (try simp) <;> omega) _) | (refine Below.trans ?_ (Below.mono (by assumption) (by (try simp) <;> omega)))))
    have HC := Lib.hid (src_cells hC6 hb6')
    go_wp2_with (at_builtin; refine wpList_append_own _ rfl _ _ 33 rfl w6.heap.size 25 i0 (.agg #[.int .i64 0, .int .i64 0, .int .i64 0, .int .i64 0, .int .i64 0]) 5 40 Try.underlying33 HII.out HZ0.out HZ1.out HZ2.out rfl (by decide) _ _ _ rfl HE.out ⟨b, off, none⟩ L.length c (L.flatMap f5) rfl (flat_len (f := f5) (m := 5) (fun _ => rfl) L) HC.out (flat_one f_one5) ?c3 ?c4 ?c5 ?c6)
    case c3 => unfold maxLen; first | omega | (simp; omega)
    case c4 => first | omega | (simp; omega)
    case c5 => first | omega | (simp)
    case c6 =>
      intro v' w9 hown hgrow _
      have hG9 : Gath f5 5 25 w9 w6.heap.size v' L := by
        unfold Gath; simpa using hown
      have hb9 : Below w6.heap.size w6 w9 := below_grown' hb0 hgrow HE.out (Nat.le_refl _) (by simp)
      obtain ⟨A', c', rfl, ho⟩ := Gath.own (f := f5) (m := 5) (fun _ => rfl) hG9
      obtain ⟨h, rfl, hh, hR, hC⟩ := ho (SlR.ne hx)
      have k9 := k6.below' hb9
      have e9 := k9.cell
      have fh := hR.frozen
      obtain ⟨q0, q1, q2, q3, q4⟩ := cells5 hC hx
      simp only [Nat.zero_add] at q0 q1 q2 q3 q4
      have hhw : w.heap.size ≤ h := by omega
      have hC9 := hC.putAll (y := revT x) hR (fun _ => rfl) hkl (Nat.le_refl _)
      have hR9 := Row.sets h (f5 (revT x)) (k * 5) hR
      have hb09 := below_sets hhw (f5 (revT x)) (k * 5) (hb06.trans (hb9.mono z6))
      have HO : Hid (OwnR f5 5 25 (w9.setCells h (k * 5) (f5 (revT x))) w.heap.size (some ⟨h, 0, none⟩) (L.set k (revT x))) := (fun _ => ⟨h, rfl, hhw, by rw [List.length_set]; exact hR9, hC9⟩ : OwnR f5 5 25 (w9.setCells h (k * 5) (f5 (revT x))) w.heap.size (some ⟨h, 0, none⟩) (L.set k (revT x)))
      have HB := Lib.hid hb09
      clear hown hgrow hG9 ho hR hC hC9 hR9 hb09 hb9 hC6 HE HC
      go_wp2
      go_ret2
      exact ⟨some ⟨h, 0, none⟩, c', by rw [Hv.out.1, Hv.out.2, List.length_set]; rfl, by rw [Hv.out.1]; exact HO.out, HB.out⟩
  · have Hv := Lib.hid (Hno.out hmt)
    clear hmt Hyes Hno
    go_wp2
    go_ret2
    exact ⟨some ⟨w6.heap.size, 0, none⟩, 0, by rw [Hv.out.1, Hv.out.2]; rfl, by rw [Hv.out.1]; exact OwnR.nil, hb06.alloc z6 _⟩
end Go.Proofs.Ytfcmfadkkfkidaa
