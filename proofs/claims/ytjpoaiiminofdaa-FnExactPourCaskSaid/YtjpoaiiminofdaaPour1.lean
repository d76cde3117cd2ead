/-
  PourCask: the program and the reference.
-/
import Derived.Test.YtjpoaiiminofdaaPour0
import Derived.Test.YtjpoaiiminofdaaClnBittern
import Derived.Test.YtjpoaiiminofdaaPut
import Derived.Test.YtjpoaiiminofdaaRegion
import Derived.Deep.DeepCutAuto
import Derived.BigRegion
import Derived.WalkKit
import Derived.WalkSpells
import Derived.WalkLawsBesides
import Derived.Lib.Hide
import Derived.Deep.QuietTactic
import Derived.BigQuiet
import Derived.StillTailTactics
namespace Go.Proofs.Ytjpoaiiminofdaa
open Go.RowKit

theorem Cells.lit {α : Type} {f : α → List Value} {m : Nat} {w : World} {b : Nat} {t : TypeId} {L : List α} (hf : ∀ x : α, (f x).length = m) (hk : Blk w b t (L.flatMap f).toArray) : Cells f m w b 0 L := by
  intro k x hx j u hu
  have hj : j < m := by rw [← hf x]; exact (List.getElem?_eq_some_iff.1 hu).1
  rw [Nat.zero_add, hk.cell, List.getElem?_toArray, flatMap_get hf L k j x hx hj]
  exact hu
theorem lit_two (w : World) (x y : T3) : SlR f3 3 (w.alloc (.cells #[.int .i64 x.1, .int .i64 x.2.1, .int .i64 x.2.2, .int .i64 y.1, .int .i64 y.2.1, .int .i64 y.2.2] 40)) (w.alloc (.cells #[.int .i64 x.1, .int .i64 x.2.1, .int .i64 x.2.2, .int .i64 y.1, .int .i64 y.2.1, .int .i64 y.2.2] 40)).heap.size (some ⟨w.heap.size, 0, none⟩) [x, y] := fun _ => by
  have hk : Blk (w.alloc (.cells #[.int .i64 x.1, .int .i64 x.2.1, .int .i64 x.2.2, .int .i64 y.1, .int .i64 y.2.1, .int .i64 y.2.2] 40)) w.heap.size 40 ([x, y].flatMap f3).toArray := Blk.new _ _ _
  exact ⟨_, 0, rfl, hk.lt, Cells.lit (fun _ => rfl) hk⟩

set_option maxRecDepth 20000 in
set_option maxHeartbeats 8000000 in
theorem PourCask_any (A : Option Addr) (c : Nat) (L : List T3) (f t : Int) (w : World) (hr : SlR f3 3 w w.heap.size A L) (hm : (L.length : Int) ≤ 1048576) (hI : ∀ x ∈ L, InI3 x) :
    Calls Try.prog 21 #[.slice A L.length c, .int .i64 f, .int .i64 t] w (NewSl2 f3 3 40 w (pcL L f t) (pcU L f t)) := by
  have HII := Lib.hid hI; clear hI
  have hm0 : (0 : Int) ≤ L.length := by omega
  cases h1 : bitB L
  · have Hv := Lib.hid (pc_no (pc_off (f := f) (t := t) (.inl h1)))
    go_enter Try.func21, Try.ntmps21
    go_wp2_with fail
    refine (bitternAt_any _ _ L f _ (by exact hr) hm).mono ?_; rintro e w1 ⟨rfl, hb1⟩
    go_wp2_with fail
    refine (bitternAt_any _ _ L t _ (by exact hr.next hb1) hm).mono ?_; rintro e w2 ⟨rfl, hb2⟩
    go_wp2_with fail
    refine (AreBitterns_any _ _ L _ (by exact (hr.next hb1).next hb2) hm HII.out).mono ?_; rintro e w3 ⟨rfl, hb3⟩
    have hb03 : Below w.heap.size w w3 := (hb1.trans (hb2.mono hb1.size)).trans (hb3.mono (Nat.le_trans hb1.size hb2.size))
    rw [h1]
    generalize atC L f = r1 at *
    generalize atC L t = r2 at *
    go_wp2
    go_ret2
    exact ⟨none, 0, by rw [Hv.out.1, Hv.out.2]; rfl, by rw [Hv.out.1]; exact OwnR.nil, hb03⟩
  have H1 := Lib.hid h1
  by_cases h2 : atC L f < 0
  · have Hv := Lib.hid (pc_no (pc_off (t := t) (.inr (.inl h2))))
    clear h1
    go_enter Try.func21, Try.ntmps21
    go_wp2_with fail
    refine (bitternAt_any _ _ L f _ (by exact hr) hm).mono ?_; rintro e w1 ⟨rfl, hb1⟩
    go_wp2_with fail
    refine (bitternAt_any _ _ L t _ (by exact hr.next hb1) hm).mono ?_; rintro e w2 ⟨rfl, hb2⟩
    go_wp2_with fail
    refine (AreBitterns_any _ _ L _ (by exact (hr.next hb1).next hb2) hm HII.out).mono ?_; rintro e w3 ⟨rfl, hb3⟩
    have hb03 : Below w.heap.size w w3 := (hb1.trans (hb2.mono hb1.size)).trans (hb3.mono (Nat.le_trans hb1.size hb2.size))
    rw [H1.out]
    generalize atC L f = r1 at *
    generalize atC L t = r2 at *
    go_wp2
    go_ret2
    exact ⟨none, 0, by rw [Hv.out.1, Hv.out.2]; rfl, by rw [Hv.out.1]; exact OwnR.nil, hb03⟩
  by_cases h3 : atC L t < 0
  · have Hv := Lib.hid (pc_no (pc_off (f := f) (.inr (.inr (.inl h3)))))
    clear h1
    have h2' : 0 ≤ atC L f := by omega
    go_enter Try.func21, Try.ntmps21
    go_wp2_with fail
    refine (bitternAt_any _ _ L f _ (by exact hr) hm).mono ?_; rintro e w1 ⟨rfl, hb1⟩
    go_wp2_with fail
    refine (bitternAt_any _ _ L t _ (by exact hr.next hb1) hm).mono ?_; rintro e w2 ⟨rfl, hb2⟩
    go_wp2_with fail
    refine (AreBitterns_any _ _ L _ (by exact (hr.next hb1).next hb2) hm HII.out).mono ?_; rintro e w3 ⟨rfl, hb3⟩
    have hb03 : Below w.heap.size w w3 := (hb1.trans (hb2.mono hb1.size)).trans (hb3.mono (Nat.le_trans hb1.size hb2.size))
    rw [H1.out]
    generalize atC L f = r1 at *
    generalize atC L t = r2 at *
    go_wp2
    go_ret2
    exact ⟨none, 0, by rw [Hv.out.1, Hv.out.2]; rfl, by rw [Hv.out.1]; exact OwnR.nil, hb03⟩
  obtain ⟨i, x, hi, hx, hxf⟩ := at_some (L := L) (id := f) (by omega)
  obtain ⟨k, y, hk, hy, hyt⟩ := at_some (L := L) (id := t) (by omega)
  subst hxf hyt
  have HI := Lib.hid hi
  have HK := Lib.hid hk
  have hi0 : (0 : Int) ≤ (i : Int) := by omega
  have hk0 : (0 : Int) ≤ (k : Int) := by omega
  by_cases h4 : i = k
  · have Hv := Lib.hid (pc_no (pc_off (L := L) (f := x.1) (t := y.1) (.inr (.inr (.inr (by rw [hi, hk, h4]))))))
    have q4 : ((i : Int) == (k : Int)) = true := by simp [h4]
    clear h1 h2 h3 hi hk hx hy h4
    go_enter Try.func21, Try.ntmps21
    go_wp2_with fail
    refine (bitternAt_any _ _ L x.1 _ (by exact hr) hm).mono ?_; rintro e w1 ⟨rfl, hb1⟩
    rw [HI.out]
    go_wp2_with fail
    refine (bitternAt_any _ _ L y.1 _ (by exact hr.next hb1) hm).mono ?_; rintro e w2 ⟨rfl, hb2⟩
    rw [HK.out]
    go_wp2_with fail
    refine (AreBitterns_any _ _ L _ (by exact (hr.next hb1).next hb2) hm HII.out).mono ?_; rintro e w3 ⟨rfl, hb3⟩
    have hb03 : Below w.heap.size w w3 := (hb1.trans (hb2.mono hb1.size)).trans (hb3.mono (Nat.le_trans hb1.size hb2.size))
    rw [H1.out]
    go_wp2
    go_ret2
    exact ⟨none, 0, by rw [Hv.out.1, Hv.out.2]; rfl, by rw [Hv.out.1]; exact OwnR.nil, hb03⟩
  have HO := Lib.hid (pc_at h1 hi hk hx hy h4)
  have q4 : ((i : Int) == (k : Int)) = false := by rw [beq_eq_false_iff_ne]; omega
  obtain ⟨_, vx⟩ := bitB_one h1 hx
  obtain ⟨_, vy⟩ := bitB_one h1 hy
  obtain ⟨s1, s2, s3, s4⟩ := sum2 vx vy
  have HS := Lib.hid (show sumK [x, y] 2 = pcK x y ∧ sumG [x, y] 2 = pcG x y from ⟨s1, s2⟩)
  obtain ⟨⟨vx1, vx2⟩, _⟩ := vx
  obtain ⟨⟨vy1, vy2⟩, _⟩ := vy
  have hil := (List.getElem?_eq_some_iff.1 hx).1
  have hkl := (List.getElem?_eq_some_iff.1 hy).1
  have hi1 : (i : Int) < (L.length : Int) := by omega
  have hk1 : (k : Int) < (L.length : Int) := by omega
  obtain ⟨b, off, rfl, hB, hcs⟩ := hr (SlR.ne hx)
  have HX := Lib.hid hx
  have HY := Lib.hid hy
  have H4 := Lib.hid h4
  clear h1 h2 h3 hi hk hx hy h4 s1 s2
  by_cases h5 : x.2.1 = 0
  · have Hv := Lib.hid (pc_no (show pcO L x.1 y.1 = none by rw [HO.out, if_pos (.inl h5)]))
    have q5 : (x.2.1 == 0) = true := by simpa using h5
    clear h5
    go_enter Try.func21, Try.ntmps21
    go_wp2_with fail
    refine (bitternAt_any _ _ L x.1 _ (by exact hr) hm).mono ?_; rintro e w1 ⟨rfl, hb1⟩
    rw [HI.out]
    go_wp2_with fail
    refine (bitternAt_any _ _ L y.1 _ (by exact hr.next hb1) hm).mono ?_; rintro e w2 ⟨rfl, hb2⟩
    rw [HK.out]
    go_wp2_with fail
    refine (AreBitterns_any _ _ L _ (by exact (hr.next hb1).next hb2) hm HII.out).mono ?_; rintro e w3 ⟨rfl, hb3⟩
    have hb03 : Below w.heap.size w w3 := (hb1.trans (hb2.mono hb1.size)).trans (hb3.mono (Nat.le_trans hb1.size hb2.size))
    rw [H1.out]
    have hCL := hcs.below hb03 hB
    obtain ⟨c0, c1, c2⟩ := cells3 hCL HX.out
    go_wp2
    go_ret2
    exact ⟨none, 0, by rw [Hv.out.1, Hv.out.2]; rfl, by rw [Hv.out.1]; exact OwnR.nil, hb03⟩
  have q5 : (x.2.1 == 0) = false := by simpa using h5
  by_cases h6 : y.2.1 = 0
  · have Hv := Lib.hid (pc_no (show pcO L x.1 y.1 = none by rw [HO.out, if_pos (.inr h6)]))
    have q6 : (y.2.1 == 0) = true := by simpa using h6
    clear h5 h6
    go_enter Try.func21, Try.ntmps21
    go_wp2_with fail
    refine (bitternAt_any _ _ L x.1 _ (by exact hr) hm).mono ?_; rintro e w1 ⟨rfl, hb1⟩
    rw [HI.out]
    go_wp2_with fail
    refine (bitternAt_any _ _ L y.1 _ (by exact hr.next hb1) hm).mono ?_; rintro e w2 ⟨rfl, hb2⟩
    rw [HK.out]
    go_wp2_with fail
    refine (AreBitterns_any _ _ L _ (by exact (hr.next hb1).next hb2) hm HII.out).mono ?_; rintro e w3 ⟨rfl, hb3⟩
    have hb03 : Below w.heap.size w w3 := (hb1.trans (hb2.mono hb1.size)).trans (hb3.mono (Nat.le_trans hb1.size hb2.size))
    rw [H1.out]
    have hCL := hcs.below hb03 hB
    obtain ⟨c0, c1, c2⟩ := cells3 hCL HX.out
    obtain ⟨d0, d1, d2⟩ := cells3 hCL HY.out
    go_wp2
    go_ret2
    exact ⟨none, 0, by rw [Hv.out.1, Hv.out.2]; rfl, by rw [Hv.out.1]; exact OwnR.nil, hb03⟩
  have q6 : (y.2.1 == 0) = false := by simpa using h6
  have hkp : 1 ≤ pcK x y := by unfold pcK; omega
  have HOK := Lib.hid (show pcO L x.1 y.1 = if bitB (pcOut L i k x y) then some (pcOut L i k x y) else none by rw [HO.out, if_neg (fun h => h.elim h5 h6)])
  have HOl := Lib.hid (show (pcOut L i k x y).length = L.length by unfold pcOut; rw [List.length_set, List.length_set])
  have hq0 : 0 ≤ pcG x y / pcK x y := Int.ediv_nonneg s4.1 (by omega)
  have hq1 : pcG x y / pcK x y ≤ 20000000 := by have := Int.ediv_le_self (pcK x y) s4.1; omega
  have HIO := Lib.hid (show ∀ z ∈ pcOut L i k x y, InI3 z from fun z hz => by
    have hxI := HII.out x (List.mem_of_getElem? HX.out)
    have hyI := HII.out y (List.mem_of_getElem? HY.out)
    rcases List.mem_or_eq_of_mem_set hz with h | h
    · rcases List.mem_or_eq_of_mem_set h with h | h
      · exact HII.out z h
      · rw [h]; exact ⟨hxI.1, ⟨by show _ ≤ (0 : Int); omega, by show (0 : Int) ≤ _; omega⟩, ⟨by show _ ≤ (0 : Int); omega, by show (0 : Int) ≤ _; omega⟩⟩
    · rw [h]; exact ⟨hyI.1, ⟨by show _ ≤ pcK x y; omega, by show pcK x y ≤ _; omega⟩, ⟨by show _ ≤ pcG x y / pcK x y; omega, by show pcG x y / pcK x y ≤ _; omega⟩⟩)
  obtain ⟨s30, s31⟩ := s3
  obtain ⟨s40, s41⟩ := s4
  clear h5 h6 HO
  go_enter Try.func21, Try.ntmps21
  go_wp2_with fail
  refine (bitternAt_any _ _ L x.1 _ (by exact hr) hm).mono ?_; rintro e w1 ⟨rfl, hb1⟩
  rw [HI.out]
  go_wp2_with fail
  refine (bitternAt_any _ _ L y.1 _ (by exact hr.next hb1) hm).mono ?_; rintro e w2 ⟨rfl, hb2⟩
  rw [HK.out]
  go_wp2_with fail
  refine (AreBitterns_any _ _ L _ (by exact (hr.next hb1).next hb2) hm HII.out).mono ?_; rintro e w3 ⟨rfl, hb3⟩
  have hb03 : Below w.heap.size w w3 := (hb1.trans (hb2.mono hb1.size)).trans (hb3.mono (Nat.le_trans hb1.size hb2.size))
  rw [H1.out]
  have hCL := hcs.below hb03 hB
  have z3 := hb03.size
  have hBr : b < w3.heap.size := by omega
  obtain ⟨c0, c1, c2⟩ := cells3 hCL HX.out
  obtain ⟨d0, d1, d2⟩ := cells3 hCL HY.out
  clear hb1 hb2 hb3 hcs
  go_wp2_with fail
  refine (cloneBittern_any b off c L w3 hCL hBr hm).mono ?_; rintro e w4 ⟨A4, c4, rfl, o4, hb4⟩
  obtain ⟨g, rfl, hg, hR, hC⟩ := o4 (SlR.ne HX.out)
  have hb04 := hb03.trans (hb4.mono z3)
  have hgw : w.heap.size ≤ g := by omega
  have hG := hR.lt
  have hCL4 := hCL.below hb4 hBr
  clear hb4 hb03 o4 c0 c1 c2 d0 d1 d2 hCL
  have hCL := hCL4; clear hCL4
  have hBr4 : b < w4.heap.size := by omega
  clear hBr
  have hBr := hBr4; clear hBr4
  go_wp2
  refine wp_region_grow [.fix (.slice (some ⟨b, off, none⟩) L.length c), .fix (.int .i64 i), .val (.pointer (some ⟨b, off + i * 3, none⟩)), .val (.agg #[.int .i64 x.1, .int .i64 x.2.1, .int .i64 x.2.2]), .fix (.slice (some ⟨b, off, none⟩) L.length c), .fix (.int .i64 k), .val (.pointer (some ⟨b, off + k * 3, none⟩)), .val (.agg #[.int .i64 y.1, .int .i64 y.2.1, .int .i64 y.2.2]), .pred (fun v w' => ∃ g, v = .slice (some ⟨g, 0, none⟩) 2 2 ∧ SlR f3 3 w' w'.heap.size (some ⟨g, 0, none⟩) [x, y]), .val (.tuple #[.int .i64 (pcK x y), .int .i64 (pcG x y)]), .fix (.tuple #[.int .i64 (pcK x y), .int .i64 (pcG x y)]), .fix (.int .i64 (pcK x y)), .fix (.int .i64 (pcG x y)), .fix (.int .i64 (pcK x y)), .fix (.int .i64 (pcG x y))] mixed (by kernel_rfl) ?_
  refine SeqG.fixStep (.inl ⟨rfl, fun _ => rfl⟩) ?_
  simp only [Act.put, List.setIfInBounds_toArray, List.set_cons_zero, List.set_cons_succ]
  refine SeqG.fixStep (.inl ⟨rfl, fun _ => rfl⟩) ?_
  simp only [Act.put, List.setIfInBounds_toArray, List.set_cons_zero, List.set_cons_succ]
  refine SeqG.valStep (fun wv hbv hpv => ?_) ?_
  · skip
    go_wp2_with fail
    exact post_val (Below.refl _ _)
  simp only [Act.put, List.setIfInBounds_toArray, List.set_cons_zero, List.set_cons_succ]
  refine SeqG.valStep (fun wv hbv hpv => ?_) ?_
  · obtain ⟨c0, c1, c2⟩ := cells3 (hCL.below hbv hBr) HX.out
    go_wp2_with fail
    exact post_val (Below.refl _ _)
  simp only [Act.put, List.setIfInBounds_toArray, List.set_cons_zero, List.set_cons_succ]
  refine SeqG.fixStep (.inl ⟨rfl, fun _ => rfl⟩) ?_
  simp only [Act.put, List.setIfInBounds_toArray, List.set_cons_zero, List.set_cons_succ]
  refine SeqG.fixStep (.inl ⟨rfl, fun _ => rfl⟩) ?_
  simp only [Act.put, List.setIfInBounds_toArray, List.set_cons_zero, List.set_cons_succ]
  refine SeqG.valStep (fun wv hbv hpv => ?_) ?_
  · skip
    go_wp2_with fail
    exact post_val (Below.refl _ _)
  simp only [Act.put, List.setIfInBounds_toArray, List.set_cons_zero, List.set_cons_succ]
  refine SeqG.valStep (fun wv hbv hpv => ?_) ?_
  · obtain ⟨c0, c1, c2⟩ := cells3 (hCL.below hbv hBr) HY.out
    go_wp2_with fail
    exact post_val (Below.refl _ _)
  simp only [Act.put, List.setIfInBounds_toArray, List.set_cons_zero, List.set_cons_succ]
  refine SeqG.predStep (fun v w1 w2 hb h => by obtain ⟨g, h1, h2⟩ := h; exact ⟨g, h1, h2.next hb⟩) (fun wv hbv hpv => ?_) (fun v1 => ?_)
  · go_wp2_with fail
    exact post_pred _ (by (repeat (first | exact Below.refl _ _ | refine Below.drew ?_ | refine below_drewN ?_ _ | (refine Below.alloc ?_ (by (try simp) <;> omega) _) | (refine Below.setCell ?_ (by (try simp) <;> omega) _) | (refine Below.trans ?_ (Below.mono (by assumption) (by (try simp) <;> omega)))))) ⟨_, rfl, lit_two wv x y⟩
  simp only [Act.put, List.setIfInBounds_toArray, List.set_cons_zero, List.set_cons_succ]
  refine SeqG.valStep (fun wv hbv hpv => ?_) ?_
  · obtain ⟨g, rfl, hg⟩ := hpv _ (.head _) (by kernel_rfl)
    go_wp2_with fail
    refine (amounts_any _ _ [x, y] _ hg (by simp)).mono ?_; rintro e w' ⟨he, hb⟩; rw [show [x, y].length = 2 from rfl, HS.out.1, HS.out.2] at he; subst he
    go_wp2_with fail
    exact post_val hb
  simp only [Act.put, List.setIfInBounds_toArray, List.set_cons_zero, List.set_cons_succ]
  refine SeqG.fixStep (.inl ⟨rfl, fun _ => rfl⟩) ?_
  simp only [Act.put, List.setIfInBounds_toArray, List.set_cons_zero, List.set_cons_succ]
  refine SeqG.fixStep (.inl ⟨rfl, fun _ => rfl⟩) ?_
  simp only [Act.put, List.setIfInBounds_toArray, List.set_cons_zero, List.set_cons_succ]
  refine SeqG.fixStep (.inl ⟨rfl, fun _ => rfl⟩) ?_
  simp only [Act.put, List.setIfInBounds_toArray, List.set_cons_zero, List.set_cons_succ]
  refine SeqG.fixStep (.inl ⟨rfl, fun _ => rfl⟩) ?_
  simp only [Act.put, List.setIfInBounds_toArray, List.set_cons_zero, List.set_cons_succ]
  refine SeqG.fixStep (.inl ⟨rfl, fun _ => rfl⟩) ?_
  simp only [Act.put, List.setIfInBounds_toArray, List.set_cons_zero, List.set_cons_succ]
  refine SeqG.done fun wv hbv hpv => ?_
  refine NoPan.normal ?_
  clear hpv
  have hR5 := hR.below hbv hG
  have hC5 := hC.below hbv hG
  have hb05 := hb04.trans (hbv.mono hb04.size)
  have ff := hR5.frozen
  obtain ⟨q0, q1, q2⟩ := cells3 hC5 HX.out
  obtain ⟨u0, u1, u2⟩ := cells3 hC5 HY.out
  simp only [Nat.zero_add] at q0 q1 q2 u0 u1 u2
  clear hbv hb04 hR hC hCL hG hBr
  have hC6 := Cells.put (x' := (x.1, 0, x.2.2)) (u := .int .i64 0) hR5 hC5 (fun _ => rfl) HX.out (show 1 < 3 by omega) rfl (Nat.le_refl _)
  have hR6 := hR5.set ⟨g, i * 3 + 1, none⟩ (.int .i64 0)
  have hC7 := Cells.put (k := i) (x := (x.1, 0, x.2.2)) (x' := (x.1, 0, 0)) (u := .int .i64 0) hR6 hC6 (fun _ => rfl) (by rw [List.getElem?_set_self hil]) (show 2 < 3 by omega) rfl (by rw [List.length_set]; exact Nat.le_refl _)
  rw [List.set_set] at hC7
  have hR7 := hR6.set ⟨g, i * 3 + 2, none⟩ (.int .i64 0)
  have hb07 : Below w.heap.size w ((wv.setCell ⟨g, i * 3 + 1, none⟩ (.int .i64 0)).setCell ⟨g, i * 3 + 2, none⟩ (.int .i64 0)) := (hb05.setCell (p := ⟨g, i * 3 + 1, none⟩) hgw _).setCell (p := ⟨g, i * 3 + 2, none⟩) hgw _
  have HR7 := Lib.hid hR7
  have HC7 := Lib.hid hC7
  clear hC5 hC6 hC7 hR5 hR6 hR7 hb05
  go_upto_region 7 with fail
  clear q0 q1 q2 u0 u1 u2 ff
  generalize (wv.setCell ⟨g, i * 3 + 1, none⟩ (.int .i64 0)).setCell ⟨g, i * 3 + 2, none⟩ (.int .i64 0) = W6 at *
  have hG7 := HR7.out.lt
  have hR8 := HR7.out
  have hC8 := HC7.out
  have hb08 := hb07
  have HYs := Lib.hid (show (L.set i (x.1, 0, 0))[k]? = some y by rw [List.getElem?_set_ne H4.out]; exact HY.out)
  have ff := hR8.frozen
  obtain ⟨u0, u1, u2⟩ := cells3 hC8 HYs.out
  simp only [Nat.zero_add] at u0 u1 u2
  have hl1 : (L.set i (x.1, 0, 0)).length * 3 ≤ L.length * 3 := by rw [List.length_set]; exact Nat.le_refl _
  have hC6 := Cells.put (x' := (y.1, pcK x y, y.2.2)) (u := .int .i64 (pcK x y)) hR8 hC8 (fun _ => rfl) HYs.out (show 1 < 3 by omega) rfl hl1
  have hR6 := hR8.set ⟨g, k * 3 + 1, none⟩ (.int .i64 (pcK x y))
  have hC9 := Cells.put (k := k) (x := (y.1, pcK x y, y.2.2)) (x' := (y.1, pcK x y, pcG x y / pcK x y)) (u := .int .i64 (pcG x y / pcK x y)) hR6 hC6 (fun _ => rfl) (by rw [List.getElem?_set_self (by rw [List.length_set]; exact hkl)]) (show 2 < 3 by omega) rfl (by rw [List.length_set]; exact hl1)
  rw [List.set_set] at hC9
  have hR9 := hR6.set ⟨g, k * 3 + 2, none⟩ (.int .i64 (pcG x y / pcK x y))
  have hb09 : Below w.heap.size w ((W6.setCell ⟨g, k * 3 + 1, none⟩ (.int .i64 (pcK x y))).setCell ⟨g, k * 3 + 2, none⟩ (.int .i64 (pcG x y / pcK x y))) := (hb08.setCell (p := ⟨g, k * 3 + 1, none⟩) hgw _).setCell (p := ⟨g, k * 3 + 2, none⟩) hgw _
  have hO9 : OwnR f3 3 40 ((W6.setCell ⟨g, k * 3 + 1, none⟩ (.int .i64 (pcK x y))).setCell ⟨g, k * 3 + 2, none⟩ (.int .i64 (pcG x y / pcK x y))) w.heap.size (some ⟨g, 0, none⟩) (pcOut L i k x y) := fun _ => ⟨g, rfl, hgw, by rw [HOl.out]; exact hR9, hC9⟩
  clear hC6 hC8 hC9 hR6 hR8 hR9 hb08 hb07 HR7 HC7 hl1
  have HO9 := Lib.hid hO9; have HB9 := Lib.hid hb09
  clear hO9 hb09
  go_region
  clear u0 u1 u2 ff
  have hO9 := HO9.out.next (Below.drew (Below.refl _ _)); have hb09 := HB9.out.drew
  clear HO9 HB9
  generalize ((W6.setCell ⟨g, k * 3 + 1, none⟩ (.int .i64 (pcK x y))).setCell ⟨g, k * 3 + 2, none⟩ (.int .i64 (pcG x y / pcK x y))).drew = W9 at *
  have HO : Hid (OwnR f3 3 40 W9 w.heap.size (some ⟨g, 0, none⟩) (pcOut L i k x y)) := hO9
  clear hO9
  have C9 := Lib.hid (show Calls Try.prog 12 #[.slice (some ⟨g, 0, none⟩) L.length c4] W9 (fun e w' => e = .returned (.bool (bitB (pcOut L i k x y))) ∧ Below W9.heap.size W9 w') from by
    have := AreBitterns_any (some ⟨g, 0, none⟩) c4 (pcOut L i k x y) W9 HO.out.sl (by rw [HOl.out]; exact hm) HIO.out
    rw [HOl.out] at this
    exact this)
  go_wp2_with fail
  refine C9.out.mono ?_; rintro e w10 ⟨rfl, hb10⟩
  have hb010 := hb09.trans (hb10.mono hb09.size)
  have HO10 := Lib.hid (HO.out.next hb10)
  clear C9 HO hb10 hb09
  cases hq : bitB (pcOut L i k x y)
  · have Hv := Lib.hid (pc_no (show pcO L x.1 y.1 = none by rw [HOK.out, hq]; rfl))
    go_wp2
    go_ret2
    exact ⟨none, 0, by rw [Hv.out.1, Hv.out.2]; rfl, by rw [Hv.out.1]; exact OwnR.nil, hb010⟩
  · have Hv := Lib.hid (pc_yes (show pcO L x.1 y.1 = some (pcOut L i k x y) by rw [HOK.out, hq]; rfl))
    go_wp2
    go_ret2
    exact ⟨some ⟨g, 0, none⟩, c4, by rw [Hv.out.1, Hv.out.2, HOl.out]; rfl, by rw [Hv.out.1]; exact HO10.out, hb010⟩

set_option maxRecDepth 20000 in
set_option maxHeartbeats 8000000 in
theorem SPourCask_any (A : Option Addr) (c : Nat) (L : List T3) (f t : Int) (w : World) (hr : SlR f3 3 w w.heap.size A L) (hm : (L.length : Int) ≤ 1048576) (hI : ∀ x ∈ L, InI3 x) :
    Calls Try.prog 20 #[.slice A L.length c, .int .i64 f, .int .i64 t] w (NewSl2 f3 3 40 w (pcL L f t) (pcU L f t)) := by
  have HII := Lib.hid hI; clear hI
  have hm0 : (0 : Int) ≤ L.length := by omega
  cases h1 : bitB L
  · have Hv := Lib.hid (pc_no (pc_off (f := f) (t := t) (.inl h1)))
    go_enter Try.func20, Try.ntmps20
    go_wp2_with fail
    refine (l15Find_any _ _ L f _ (by exact hr) hm).mono ?_; rintro e w' ⟨rfl, rfl⟩
    go_wp2_with fail
    refine (l15Find_any _ _ L t _ (by exact hr) hm).mono ?_; rintro e w' ⟨rfl, rfl⟩
    go_wp2_with fail
    refine (l15Good_any _ _ L _ (by exact hr) hm HII.out).mono ?_; rintro e w3 ⟨rfl, hb3⟩
    have hb03 : Below w.heap.size w w3 := hb3
    rw [h1]
    generalize atC L f = r1 at *
    generalize atC L t = r2 at *
    go_wp2
    go_ret2
    exact ⟨some ⟨w3.heap.size, 0, none⟩, 0, by rw [Hv.out.1, Hv.out.2]; rfl, by rw [Hv.out.1]; exact OwnR.nil, hb03.alloc hb03.size _⟩
  have H1 := Lib.hid h1
  by_cases h2 : atC L f < 0
  · have Hv := Lib.hid (pc_no (pc_off (t := t) (.inr (.inl h2))))
    clear h1
    go_enter Try.func20, Try.ntmps20
    go_wp2_with fail
    refine (l15Find_any _ _ L f _ (by exact hr) hm).mono ?_; rintro e w' ⟨rfl, rfl⟩
    go_wp2_with fail
    refine (l15Find_any _ _ L t _ (by exact hr) hm).mono ?_; rintro e w' ⟨rfl, rfl⟩
    go_wp2_with fail
    refine (l15Good_any _ _ L _ (by exact hr) hm HII.out).mono ?_; rintro e w3 ⟨rfl, hb3⟩
    have hb03 : Below w.heap.size w w3 := hb3
    rw [H1.out]
    generalize atC L f = r1 at *
    generalize atC L t = r2 at *
    go_wp2
    go_ret2
    exact ⟨some ⟨w3.heap.size, 0, none⟩, 0, by rw [Hv.out.1, Hv.out.2]; rfl, by rw [Hv.out.1]; exact OwnR.nil, hb03.alloc hb03.size _⟩
  by_cases h3 : atC L t < 0
  · have Hv := Lib.hid (pc_no (pc_off (f := f) (.inr (.inr (.inl h3)))))
    clear h1
    have h2' : 0 ≤ atC L f := by omega
    go_enter Try.func20, Try.ntmps20
    go_wp2_with fail
    refine (l15Find_any _ _ L f _ (by exact hr) hm).mono ?_; rintro e w' ⟨rfl, rfl⟩
    go_wp2_with fail
    refine (l15Find_any _ _ L t _ (by exact hr) hm).mono ?_; rintro e w' ⟨rfl, rfl⟩
    go_wp2_with fail
    refine (l15Good_any _ _ L _ (by exact hr) hm HII.out).mono ?_; rintro e w3 ⟨rfl, hb3⟩
    have hb03 : Below w.heap.size w w3 := hb3
    rw [H1.out]
    generalize atC L f = r1 at *
    generalize atC L t = r2 at *
    go_wp2
    go_ret2
    exact ⟨some ⟨w3.heap.size, 0, none⟩, 0, by rw [Hv.out.1, Hv.out.2]; rfl, by rw [Hv.out.1]; exact OwnR.nil, hb03.alloc hb03.size _⟩
  obtain ⟨i, x, hi, hx, hxf⟩ := at_some (L := L) (id := f) (by omega)
  obtain ⟨k, y, hk, hy, hyt⟩ := at_some (L := L) (id := t) (by omega)
  subst hxf hyt
  have HI := Lib.hid hi
  have HK := Lib.hid hk
  have hi0 : (0 : Int) ≤ (i : Int) := by omega
  have hk0 : (0 : Int) ≤ (k : Int) := by omega
  by_cases h4 : i = k
  · have Hv := Lib.hid (pc_no (pc_off (L := L) (f := x.1) (t := y.1) (.inr (.inr (.inr (by rw [hi, hk, h4]))))))
    have q4 : ((i : Int) == (k : Int)) = true := by simp [h4]
    clear h1 h2 h3 hi hk hx hy h4
    go_enter Try.func20, Try.ntmps20
    go_wp2_with fail
    refine (l15Find_any _ _ L x.1 _ (by exact hr) hm).mono ?_; rintro e w' ⟨rfl, rfl⟩
    rw [HI.out]
    go_wp2_with fail
    refine (l15Find_any _ _ L y.1 _ (by exact hr) hm).mono ?_; rintro e w' ⟨rfl, rfl⟩
    rw [HK.out]
    go_wp2_with fail
    refine (l15Good_any _ _ L _ (by exact hr) hm HII.out).mono ?_; rintro e w3 ⟨rfl, hb3⟩
    have hb03 : Below w.heap.size w w3 := hb3
    rw [H1.out]
    go_wp2
    go_ret2
    exact ⟨some ⟨w3.heap.size, 0, none⟩, 0, by rw [Hv.out.1, Hv.out.2]; rfl, by rw [Hv.out.1]; exact OwnR.nil, hb03.alloc hb03.size _⟩
  have HO := Lib.hid (pc_at h1 hi hk hx hy h4)
  have q4 : ((i : Int) == (k : Int)) = false := by rw [beq_eq_false_iff_ne]; omega
  obtain ⟨_, vx⟩ := bitB_one h1 hx
  obtain ⟨_, vy⟩ := bitB_one h1 hy
  obtain ⟨s1, s2, s3, s4⟩ := sum2 vx vy
  have HS := Lib.hid (show sumK [x, y] 2 = pcK x y ∧ sumG [x, y] 2 = pcG x y from ⟨s1, s2⟩)
  obtain ⟨⟨vx1, vx2⟩, _⟩ := vx
  obtain ⟨⟨vy1, vy2⟩, _⟩ := vy
  have hil := (List.getElem?_eq_some_iff.1 hx).1
  have hkl := (List.getElem?_eq_some_iff.1 hy).1
  have hi1 : (i : Int) < (L.length : Int) := by omega
  have hk1 : (k : Int) < (L.length : Int) := by omega
  obtain ⟨b, off, rfl, hB, hcs⟩ := hr (SlR.ne hx)
  have HX := Lib.hid hx
  have HY := Lib.hid hy
  have H4 := Lib.hid h4
  clear h1 h2 h3 hi hk hx hy h4 s1 s2
  by_cases h5 : x.2.1 = 0
  · have Hv := Lib.hid (pc_no (show pcO L x.1 y.1 = none by rw [HO.out, if_pos (.inl h5)]))
    have q5 : (x.2.1 == 0) = true := by simpa using h5
    clear h5
    go_enter Try.func20, Try.ntmps20
    go_wp2_with fail
    refine (l15Find_any _ _ L x.1 _ (by exact hr) hm).mono ?_; rintro e w' ⟨rfl, rfl⟩
    rw [HI.out]
    go_wp2_with fail
    refine (l15Find_any _ _ L y.1 _ (by exact hr) hm).mono ?_; rintro e w' ⟨rfl, rfl⟩
    rw [HK.out]
    go_wp2_with fail
    refine (l15Good_any _ _ L _ (by exact hr) hm HII.out).mono ?_; rintro e w3 ⟨rfl, hb3⟩
    have hb03 : Below w.heap.size w w3 := hb3
    rw [H1.out]
    have hCL := hcs.below hb03 hB
    obtain ⟨c0, c1, c2⟩ := cells3 hCL HX.out
    go_wp2
    go_ret2
    exact ⟨some ⟨w3.heap.size, 0, none⟩, 0, by rw [Hv.out.1, Hv.out.2]; rfl, by rw [Hv.out.1]; exact OwnR.nil, hb03.alloc hb03.size _⟩
  have q5 : (x.2.1 == 0) = false := by simpa using h5
  by_cases h6 : y.2.1 = 0
  · have Hv := Lib.hid (pc_no (show pcO L x.1 y.1 = none by rw [HO.out, if_pos (.inr h6)]))
    have q6 : (y.2.1 == 0) = true := by simpa using h6
    clear h5 h6
    go_enter Try.func20, Try.ntmps20
    go_wp2_with fail
    refine (l15Find_any _ _ L x.1 _ (by exact hr) hm).mono ?_; rintro e w' ⟨rfl, rfl⟩
    rw [HI.out]
    go_wp2_with fail
    refine (l15Find_any _ _ L y.1 _ (by exact hr) hm).mono ?_; rintro e w' ⟨rfl, rfl⟩
    rw [HK.out]
    go_wp2_with fail
    refine (l15Good_any _ _ L _ (by exact hr) hm HII.out).mono ?_; rintro e w3 ⟨rfl, hb3⟩
    have hb03 : Below w.heap.size w w3 := hb3
    rw [H1.out]
    have hCL := hcs.below hb03 hB
    obtain ⟨c0, c1, c2⟩ := cells3 hCL HX.out
    obtain ⟨d0, d1, d2⟩ := cells3 hCL HY.out
    go_wp2
    go_ret2
    exact ⟨some ⟨w3.heap.size, 0, none⟩, 0, by rw [Hv.out.1, Hv.out.2]; rfl, by rw [Hv.out.1]; exact OwnR.nil, hb03.alloc hb03.size _⟩
  have q6 : (y.2.1 == 0) = false := by simpa using h6
  have hkp : 1 ≤ pcK x y := by unfold pcK; omega
  have HOK := Lib.hid (show pcO L x.1 y.1 = if bitB (pcOut L i k x y) then some (pcOut L i k x y) else none by rw [HO.out, if_neg (fun h => h.elim h5 h6)])
  have HOl := Lib.hid (show (pcOut L i k x y).length = L.length by unfold pcOut; rw [List.length_set, List.length_set])
  have hq0 : 0 ≤ pcG x y / pcK x y := Int.ediv_nonneg s4.1 (by omega)
  have hq1 : pcG x y / pcK x y ≤ 20000000 := by have := Int.ediv_le_self (pcK x y) s4.1; omega
  have HIO := Lib.hid (show ∀ z ∈ pcOut L i k x y, InI3 z from fun z hz => by
    have hxI := HII.out x (List.mem_of_getElem? HX.out)
    have hyI := HII.out y (List.mem_of_getElem? HY.out)
    rcases List.mem_or_eq_of_mem_set hz with h | h
    · rcases List.mem_or_eq_of_mem_set h with h | h
      · exact HII.out z h
      · rw [h]; exact ⟨hxI.1, ⟨by show _ ≤ (0 : Int); omega, by show (0 : Int) ≤ _; omega⟩, ⟨by show _ ≤ (0 : Int); omega, by show (0 : Int) ≤ _; omega⟩⟩
    · rw [h]; exact ⟨hyI.1, ⟨by show _ ≤ pcK x y; omega, by show pcK x y ≤ _; omega⟩, ⟨by show _ ≤ pcG x y / pcK x y; omega, by show pcG x y / pcK x y ≤ _; omega⟩⟩)
  obtain ⟨s30, s31⟩ := s3
  obtain ⟨s40, s41⟩ := s4
  clear h5 h6 HO
  go_enter Try.func20, Try.ntmps20
  go_wp2_with fail
  refine (l15Find_any _ _ L x.1 _ (by exact hr) hm).mono ?_; rintro e w' ⟨rfl, rfl⟩
  rw [HI.out]
  go_wp2_with fail
  refine (l15Find_any _ _ L y.1 _ (by exact hr) hm).mono ?_; rintro e w' ⟨rfl, rfl⟩
  rw [HK.out]
  go_wp2_with fail
  refine (l15Good_any _ _ L _ (by exact hr) hm HII.out).mono ?_; rintro e w3 ⟨rfl, hb3⟩
  have hb03 : Below w.heap.size w w3 := hb3
  rw [H1.out]
  have hCL := hcs.below hb03 hB
  have z3 := hb03.size
  have hBr : b < w3.heap.size := by omega
  obtain ⟨c0, c1, c2⟩ := cells3 hCL HX.out
  obtain ⟨d0, d1, d2⟩ := cells3 hCL HY.out
  clear hb3 hcs
  obtain ⟨i0, hi, hz0, hz1, hz2⟩ := info_parts infoBittern
  have HJI := Lib.hid hi; have HZ0 := Lib.hid hz0; have HZ1 := Lib.hid hz1; have HZ2 := Lib.hid hz2
  clear hi hz0 hz1 hz2
  have HE := Lib.hid (Gath.made (f := f3) (m := 3) (t := 40) (B := w3.heap.size) (w := w3) (Nat.le_refl _))
  have hb0 : Below w3.heap.size w3 (w3.alloc (.cells #[] 40 (0, 0))) := by (repeat (first | exact Below.refl _ _ | refine Below.drew ?_ | refine below_drewN ?_ _ | (refine Below.alloc ?_ (by (try simp) <;> omega) _) | (refine Below.setCell ?_ (by (try simp) <;> omega) _) | (refine Below.trans ?_ (Below.mono (by assumption) (by (try simp) <;> omega)))))
  have HC := Lib.hid (src_cells hCL hBr)
  go_wp2_with (at_builtin; refine wpList_append_own _ rfl _ _ 25 rfl w3.heap.size 40 i0 (.agg #[.int .i64 0, .int .i64 0, .int .i64 0]) 3 24 Try.underlying25 HJI.out HZ0.out HZ1.out HZ2.out rfl (by decide) _ _ _ rfl HE.out ⟨b, off, none⟩ L.length c (L.flatMap f3) rfl (flat_len (f := f3) (m := 3) (fun _ => rfl) L) HC.out (flat_one f_one3) ?c3 ?c4 ?c5 ?c6)
  case c3 => unfold maxLen; first | omega | (simp; omega)
  case c4 => first | omega | (simp; omega)
  case c5 => first | omega | (simp)
  case c6 =>
  intro v' w4 hown hgrow _
  have hG9 : Gath f3 3 40 w4 w3.heap.size v' L := by
    unfold Gath; simpa using hown
  have hb4 : Below w3.heap.size w3 w4 := below_grown' hb0 hgrow HE.out (Nat.le_refl _) (by simp)
  have z4 := hb4.size
  obtain ⟨A4, c4, rfl, o4⟩ := Gath.own (f := f3) (m := 3) (fun _ => rfl) hG9
  clear hown hgrow hG9 HE HC hb0
  obtain ⟨g, rfl, hg, hR, hC⟩ := o4 (SlR.ne HX.out)
  have hb04 := hb03.trans (hb4.mono z3)
  have hgw : w.heap.size ≤ g := by omega
  have hG := hR.lt
  have hCL4 := hCL.below hb4 hBr
  clear hb4 hb03 o4 c0 c1 c2 d0 d1 d2 hCL
  have hCL := hCL4; clear hCL4
  have hBr4 : b < w4.heap.size := by omega
  clear hBr
  have hBr := hBr4; clear hBr4
  go_wp2
  refine wp_region_grow [.fix (.slice (some ⟨b, off, none⟩) L.length c), .fix (.int .i64 i), .val (.pointer (some ⟨b, off + i * 3, none⟩)), .val (.agg #[.int .i64 x.1, .int .i64 x.2.1, .int .i64 x.2.2]), .fix (.slice (some ⟨b, off, none⟩) L.length c), .fix (.int .i64 k), .val (.pointer (some ⟨b, off + k * 3, none⟩)), .val (.agg #[.int .i64 y.1, .int .i64 y.2.1, .int .i64 y.2.2]), .pred (fun v w' => ∃ g, v = .slice (some ⟨g, 0, none⟩) 2 2 ∧ SlR f3 3 w' w'.heap.size (some ⟨g, 0, none⟩) [x, y]), .val (.tuple #[.int .i64 (pcK x y), .int .i64 (pcG x y)]), .fix (.tuple #[.int .i64 (pcK x y), .int .i64 (pcG x y)]), .fix (.int .i64 (pcK x y)), .fix (.int .i64 (pcG x y)), .fix (.int .i64 (pcK x y)), .fix (.int .i64 (pcG x y))] mixed (by kernel_rfl) ?_
  refine SeqG.fixStep (.inl ⟨rfl, fun _ => rfl⟩) ?_
  simp only [Act.put, List.setIfInBounds_toArray, List.set_cons_zero, List.set_cons_succ]
  refine SeqG.fixStep (.inl ⟨rfl, fun _ => rfl⟩) ?_
  simp only [Act.put, List.setIfInBounds_toArray, List.set_cons_zero, List.set_cons_succ]
  refine SeqG.valStep (fun wv hbv hpv => ?_) ?_
  · skip
    go_wp2_with fail
    exact post_val (Below.refl _ _)
  simp only [Act.put, List.setIfInBounds_toArray, List.set_cons_zero, List.set_cons_succ]
  refine SeqG.valStep (fun wv hbv hpv => ?_) ?_
  · obtain ⟨c0, c1, c2⟩ := cells3 (hCL.below hbv hBr) HX.out
    go_wp2_with fail
    exact post_val (Below.refl _ _)
  simp only [Act.put, List.setIfInBounds_toArray, List.set_cons_zero, List.set_cons_succ]
  refine SeqG.fixStep (.inl ⟨rfl, fun _ => rfl⟩) ?_
  simp only [Act.put, List.setIfInBounds_toArray, List.set_cons_zero, List.set_cons_succ]
  refine SeqG.fixStep (.inl ⟨rfl, fun _ => rfl⟩) ?_
  simp only [Act.put, List.setIfInBounds_toArray, List.set_cons_zero, List.set_cons_succ]
  refine SeqG.valStep (fun wv hbv hpv => ?_) ?_
  · skip
    go_wp2_with fail
    exact post_val (Below.refl _ _)
  simp only [Act.put, List.setIfInBounds_toArray, List.set_cons_zero, List.set_cons_succ]
  refine SeqG.valStep (fun wv hbv hpv => ?_) ?_
  · obtain ⟨c0, c1, c2⟩ := cells3 (hCL.below hbv hBr) HY.out
    go_wp2_with fail
    exact post_val (Below.refl _ _)
  simp only [Act.put, List.setIfInBounds_toArray, List.set_cons_zero, List.set_cons_succ]
  refine SeqG.predStep (fun v w1 w2 hb h => by obtain ⟨g, h1, h2⟩ := h; exact ⟨g, h1, h2.next hb⟩) (fun wv hbv hpv => ?_) (fun v1 => ?_)
  · go_wp2_with fail
    exact post_pred _ (by (repeat (first | exact Below.refl _ _ | refine Below.drew ?_ | refine below_drewN ?_ _ | (refine Below.alloc ?_ (by (try simp) <;> omega) _) | (refine Below.setCell ?_ (by (try simp) <;> omega) _) | (refine Below.trans ?_ (Below.mono (by assumption) (by (try simp) <;> omega)))))) ⟨_, rfl, lit_two wv x y⟩
  simp only [Act.put, List.setIfInBounds_toArray, List.set_cons_zero, List.set_cons_succ]
  refine SeqG.valStep (fun wv hbv hpv => ?_) ?_
  · obtain ⟨g, rfl, hg⟩ := hpv _ (.head _) (by kernel_rfl)
    go_wp2_with fail
    refine (l15Sums_any _ _ [x, y] _ hg (by simp)).mono ?_; rintro e w' ⟨he, hb⟩; rw [show [x, y].length = 2 from rfl, HS.out.1, HS.out.2] at he; subst he
    go_wp2_with fail
    exact post_val hb
  simp only [Act.put, List.setIfInBounds_toArray, List.set_cons_zero, List.set_cons_succ]
  refine SeqG.fixStep (.inl ⟨rfl, fun _ => rfl⟩) ?_
  simp only [Act.put, List.setIfInBounds_toArray, List.set_cons_zero, List.set_cons_succ]
  refine SeqG.fixStep (.inl ⟨rfl, fun _ => rfl⟩) ?_
  simp only [Act.put, List.setIfInBounds_toArray, List.set_cons_zero, List.set_cons_succ]
  refine SeqG.fixStep (.inl ⟨rfl, fun _ => rfl⟩) ?_
  simp only [Act.put, List.setIfInBounds_toArray, List.set_cons_zero, List.set_cons_succ]
  refine SeqG.fixStep (.inl ⟨rfl, fun _ => rfl⟩) ?_
  simp only [Act.put, List.setIfInBounds_toArray, List.set_cons_zero, List.set_cons_succ]
  refine SeqG.fixStep (.inl ⟨rfl, fun _ => rfl⟩) ?_
  simp only [Act.put, List.setIfInBounds_toArray, List.set_cons_zero, List.set_cons_succ]
  refine SeqG.done fun wv hbv hpv => ?_
  refine NoPan.normal ?_
  clear hpv
  have hR5 := hR.below hbv hG
  have hC5 := hC.below hbv hG
  have hb05 := hb04.trans (hbv.mono hb04.size)
  have ff := hR5.frozen
  obtain ⟨q0, q1, q2⟩ := cells3 hC5 HX.out
  obtain ⟨u0, u1, u2⟩ := cells3 hC5 HY.out
  simp only [Nat.zero_add] at q0 q1 q2 u0 u1 u2
  clear hbv hb04 hR hC hCL hG hBr
  have hC6 := hC5.putAll (y := (x.1, 0, 0)) hR5 (fun _ => rfl) hil (Nat.le_refl _)
  have hR6 := Row.sets g (f3 (x.1, 0, 0)) (i * 3) hR5
  have hb06 := below_sets hgw (f3 (x.1, 0, 0)) (i * 3) hb05
  clear hC5 hR5 hb05
  have HC6 : Hid (Cells f3 3 (((wv.setCell ⟨g, i * 3, none⟩ (.int .i64 x.1)).setCell ⟨g, i * 3 + 1, none⟩ (.int .i64 0)).setCell ⟨g, i * 3 + 2, none⟩ (.int .i64 0)) g 0 (L.set i (x.1, 0, 0))) := hC6
  have HR6 : Hid (Row (((wv.setCell ⟨g, i * 3, none⟩ (.int .i64 x.1)).setCell ⟨g, i * 3 + 1, none⟩ (.int .i64 0)).setCell ⟨g, i * 3 + 2, none⟩ (.int .i64 0)) g 40 (L.length * 3)) := hR6
  have HB6 : Hid (Below w.heap.size w (((wv.setCell ⟨g, i * 3, none⟩ (.int .i64 x.1)).setCell ⟨g, i * 3 + 1, none⟩ (.int .i64 0)).setCell ⟨g, i * 3 + 2, none⟩ (.int .i64 0))) := hb06
  clear hC6 hR6 hb06
  go_upto_region 7 with fail
  clear q0 q1 q2 u0 u1 u2 ff
  generalize ((wv.setCell ⟨g, i * 3, none⟩ (.int .i64 x.1)).setCell ⟨g, i * 3 + 1, none⟩ (.int .i64 0)).setCell ⟨g, i * 3 + 2, none⟩ (.int .i64 0) = W6 at *
  have hC6 := HC6.out; have hR6 := HR6.out; have hb06 := HB6.out
  clear HC6 HR6 HB6
  have HYs := Lib.hid (show (L.set i (x.1, 0, 0))[k]? = some y by rw [List.getElem?_set_ne H4.out]; exact HY.out)
  have ff := hR6.frozen
  obtain ⟨u0, u1, u2⟩ := cells3 hC6 HYs.out
  simp only [Nat.zero_add] at u0 u1 u2
  have hC9 := hC6.putAll (k := k) (y := (y.1, pcK x y, pcG x y / pcK x y)) hR6 (fun _ => rfl) (by rw [List.length_set]; exact hkl) (by rw [List.length_set]; exact Nat.le_refl _)
  have hR9 := Row.sets g (f3 (y.1, pcK x y, pcG x y / pcK x y)) (k * 3) hR6
  have hb09 := below_sets hgw (f3 (y.1, pcK x y, pcG x y / pcK x y)) (k * 3) hb06
  have HB9 : Hid (Below w.heap.size w (((W6.setCell ⟨g, k * 3, none⟩ (.int .i64 y.1)).setCell ⟨g, k * 3 + 1, none⟩ (.int .i64 (pcK x y))).setCell ⟨g, k * 3 + 2, none⟩ (.int .i64 (pcG x y / pcK x y)))) := hb09
  have HO9 : Hid (OwnR f3 3 40 (((W6.setCell ⟨g, k * 3, none⟩ (.int .i64 y.1)).setCell ⟨g, k * 3 + 1, none⟩ (.int .i64 (pcK x y))).setCell ⟨g, k * 3 + 2, none⟩ (.int .i64 (pcG x y / pcK x y))) w.heap.size (some ⟨g, 0, none⟩) (pcOut L i k x y)) := (fun _ => ⟨g, rfl, hgw, by rw [HOl.out]; exact hR9, hC9⟩ : OwnR f3 3 40 (((W6.setCell ⟨g, k * 3, none⟩ (.int .i64 y.1)).setCell ⟨g, k * 3 + 1, none⟩ (.int .i64 (pcK x y))).setCell ⟨g, k * 3 + 2, none⟩ (.int .i64 (pcG x y / pcK x y))) w.heap.size (some ⟨g, 0, none⟩) (pcOut L i k x y))
  clear hC6 hC9 hR6 hR9 hb06 hb09
  go_upto_region 8 with fail
  clear u0 u1 u2 ff
  generalize ((W6.setCell ⟨g, k * 3, none⟩ (.int .i64 y.1)).setCell ⟨g, k * 3 + 1, none⟩ (.int .i64 (pcK x y))).setCell ⟨g, k * 3 + 2, none⟩ (.int .i64 (pcG x y / pcK x y)) = W9 at *
  have hb09 := HB9.out
  have hO9 := HO9.out
  clear HB9 HO9
  have HO : Hid (OwnR f3 3 40 W9 w.heap.size (some ⟨g, 0, none⟩) (pcOut L i k x y)) := hO9
  clear hO9
  have C9 := Lib.hid (show Calls Try.prog 26 #[.slice (some ⟨g, 0, none⟩) L.length c4] W9 (fun e w' => e = .returned (.bool (bitB (pcOut L i k x y))) ∧ Below W9.heap.size W9 w') from by
    have := l15Good_any (some ⟨g, 0, none⟩) c4 (pcOut L i k x y) W9 HO.out.sl (by rw [HOl.out]; exact hm) HIO.out
    rw [HOl.out] at this
    exact this)
  go_wp2_with fail
  refine C9.out.mono ?_; rintro e w10 ⟨rfl, hb10⟩
  have hb010 := hb09.trans (hb10.mono hb09.size)
  have HO10 := Lib.hid (HO.out.next hb10)
  clear C9 HO hb10 hb09
  cases hq : bitB (pcOut L i k x y)
  · have Hv := Lib.hid (pc_no (show pcO L x.1 y.1 = none by rw [HOK.out, hq]; rfl))
    go_wp2
    go_ret2
    exact ⟨some ⟨w10.heap.size, 0, none⟩, 0, by rw [Hv.out.1, Hv.out.2]; rfl, by rw [Hv.out.1]; exact OwnR.nil, hb010.alloc hb010.size _⟩
  · have Hv := Lib.hid (pc_yes (show pcO L x.1 y.1 = some (pcOut L i k x y) by rw [HOK.out, hq]; rfl))
    go_wp2
    go_ret2
    exact ⟨some ⟨g, 0, none⟩, c4, by rw [Hv.out.1, Hv.out.2, HOl.out]; rfl, by rw [Hv.out.1]; exact HO10.out, hb010⟩
end Go.Proofs.Ytjpoaiiminofdaa
