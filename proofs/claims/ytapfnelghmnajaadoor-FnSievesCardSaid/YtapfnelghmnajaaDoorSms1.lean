/-
  Which pairs of samples some sieves part: both programs.
-/
import Derived.Test.YtapfnelghmnajaaDoorSms0
import Derived.Deep.DeepCutAuto
import Derived.BigRegion
import Derived.WalkKit
import Derived.WalkSpells
import Derived.WalkLawsBesides
import Derived.Lib.Hide
import Derived.Deep.QuietTactic
import Derived.BigQuiet
import Derived.StillTailTactics
namespace Go.Proofs.YtapfnelghmnajaaDoor
open Go.RowKit

theorem NoPanL' {P : Program} {ops : Array Oper} {Q : Exit → Act → World → Prop} {l : List Oper} {a : Act} {w : World} (h : wpList P ops Q l a w) : wpList P ops Q l a w := h
def LitB (p : Nat) (u : Bool) (v : Value) (w : World) : Prop := ∃ g, v = .slice (some ⟨g, 0, none⟩) 1 1 ∧ p ≤ g ∧ Blk w g 4 #[.bool u]
theorem LitB.next {p : Nat} {u : Bool} : ∀ (v : Value) (w w' : World), Below w.heap.size w w' → LitB p u v w → LitB p u v w' := fun v w w' hb h => by
  obtain ⟨g, h1, h2, h3⟩ := h; exact ⟨g, h1, h2, h3.below' hb⟩

set_option maxRecDepth 20000 in
set_option maxHeartbeats 8000000 in
theorem l14Parted_any (A A' : Option Addr) (c c' : Nat) (S : List Int) (M : List Smp) (w : World) (hr : SlR f1 1 w w.heap.size A S) (hm : (S.length : Int) ≤ 1048576) (hs : SlSm w w.heap.size A' M) (h8 : M.length ≤ 8) (hl : ∀ x ∈ M, (x.2.2.length : Int) ≤ 1048576) :
    Calls Tryd.prog 51 #[.slice A S.length c, .slice A' M.length c'] w fun e w' => ∃ v, e = .returned v ∧ Gath fB 1 4 w' w.heap.size v (partsL S (smls M)) ∧ Below w.heap.size w w' := by
  obtain ⟨i0, hi, hz0, hz1, hz2⟩ := info_parts infoBool
  have HI := Lib.hid hi; have HZ0 := Lib.hid hz0; have HZ1 := Lib.hid hz1; have HZ2 := Lib.hid hz2
  clear hi hz0 hz1 hz2
  have HL := Lib.hid hl; clear hl
  have HS := Lib.hid hs; clear hs
  have HR := Lib.hid hr; clear hr
  have h8i : (M.length : Int) ≤ 8 := by omega
  have mixed : Tryd.prog.follows .mixedOrders = true := by kernel_rfl
  go_enter Tryd.func51, Tryd.ntmps51
  go_wp2
  go_loopw [5, 6] (fun v5 v6 wr => ∃ i : Nat, v6 = .int .i64 i ∧ i ≤ M.length ∧ Hid (Gath fB 1 4 wr w.heap.size v5 (ppre S (smls M) i)) ∧ Below w.heap.size w wr) (fun _ v6 _ => (M.length - intOf v6).toNat)
  case atStart => exact ⟨0, rfl, by omega, Gath.made (Nat.le_refl _), by (repeat (first | exact Below.refl _ _ | refine Below.drew ?_ | refine below_drewN ?_ _ | (refine Below.alloc ?_ (by (try simp) <;> omega) _) | (refine Below.setCell ?_ (by (try simp) <;> omega) _) | (refine Below.trans ?_ (Below.mono (by assumption) (by (try simp) <;> omega)))))⟩
  case round =>
    obtain ⟨i, rfl, hil, hG, hb⟩ := hrel
    by_cases hlt : i < M.length
    · have hi0 : (0 : Int) ≤ (i : Int) := by omega
      have hi1 : (i : Int) < (M.length : Int) := by omega
      have hx : M[i]? = some M[i] := List.getElem?_eq_getElem hlt
      generalize M[i] = x at hx
      have HX := Lib.hid hx
      have HXL := Lib.hid (HL.out x (List.mem_of_getElem? hx))
      obtain ⟨b, off, rfl, hB, hC⟩ := HS.out.sl (SlR.ne hx)
      have HCM := Lib.hid hC
      have c0 := cellM (hC.below hb hB) hx
      have HRX := Lib.hid (HS.out.rows x (List.mem_of_getElem? hx))
      have zr := hb.size
      clear hx hC hlt
      go_wp2
      go_loopw [5, 7] (fun v5 v7 wr => ∃ k : Nat, v7 = .int .i64 k ∧ k ≤ i ∧ Hid (Gath fB 1 4 wr w.heap.size v5 (ppre S (smls M) i ++ prow S (smls M) i k)) ∧ Below w.heap.size w wr) (fun _ v7 _ => (i - intOf v7).toNat)
      case atStart => exact ⟨0, rfl, by omega, by rw [prow_zero, List.append_nil]; exact hG.out, hb⟩
      case round =>
        obtain ⟨k, rfl, hki, hG2, hb2⟩ := hrel
        by_cases hlt : k < i
        · have hk0 : (0 : Int) ≤ (k : Int) := by omega
          have hk1 : (k : Int) < (M.length : Int) := by omega
          have hy : M[k]? = some M[k] := List.getElem?_eq_getElem (by omega)
          generalize M[k] = y at hy
          have HY := Lib.hid hy
          have HYL := Lib.hid (HL.out y (List.mem_of_getElem? hy))
          have HRY := Lib.hid (HS.out.rows y (List.mem_of_getElem? hy))
          have zr2 := hb2.size
          have HB2 := Lib.hid hb2
          have HSU := Lib.hid (prow_succ S (smls M) i k)
          rw [smls_at HX.out, smls_at HY.out] at HSU
          have HPL := Lib.hid (pp_len S (smls M) (i := i) (k := k) (by omega) (by omega))
          have hki : (k : Int) < (i : Int) := by omega
          have HG3 := Lib.hid hG2.out
          have HB3 := Lib.hid hb2
          have zW := hb2.size
          clear hG2 hy
          go_wp2
          refine wp_region_grow [.fix u5, .fix (.slice A S.length c), .fix (.slice (some ⟨b, off, none⟩) M.length c'), .fix (.int .i64 i), .val (.pointer (some ⟨b, off + i, none⟩)), .val (.agg #[.slice x.1 x.2.2.length x.2.1]), .pred (SlV f1 1 (frA S x.2.2)), .fix (.slice A S.length c), .fix (.slice (some ⟨b, off, none⟩) M.length c'), .fix (.int .i64 k), .val (.pointer (some ⟨b, off + k, none⟩)), .val (.agg #[.slice y.1 y.2.2.length y.2.1]), .pred (SlV f1 1 (frA S y.2.2)), .val (.bool (eqL (frA S x.2.2) (frA S y.2.2))), .val (.bool (!eqL (frA S x.2.2) (frA S y.2.2))), .pred (LitB wr.heap.size (!eqL (frA S x.2.2) (frA S y.2.2)))] mixed (by kernel_rfl) ?_
          refine SeqG.fixStep (.inl ⟨rfl, fun _ => rfl⟩) ?_
          simp only [Act.put, List.setIfInBounds_toArray, List.set_cons_zero, List.set_cons_succ]
          refine SeqG.fixStep (.inl ⟨rfl, fun _ => rfl⟩) ?_
          simp only [Act.put, List.setIfInBounds_toArray, List.set_cons_zero, List.set_cons_succ]
          refine SeqG.fixStep (.inl ⟨rfl, fun _ => rfl⟩) ?_
          simp only [Act.put, List.setIfInBounds_toArray, List.set_cons_zero, List.set_cons_succ]
          refine SeqG.fixStep (.inl ⟨rfl, fun _ => rfl⟩) ?_
          simp only [Act.put, List.setIfInBounds_toArray, List.set_cons_zero, List.set_cons_succ]
          refine SeqG.valStep (fun wv hbv hpv => ?_) ?_
          · skip
            go_wp2_with fail
            exact post_val (Below.refl _ _)
          simp only [Act.put, List.setIfInBounds_toArray, List.set_cons_zero, List.set_cons_succ]
          refine SeqG.valStep (fun wv hbv hpv => ?_) ?_
          · have c0 := cellM (HCM.out.below (HB3.out.trans (hbv.mono zW)) hB) HX.out
            go_wp2_with fail
            exact post_val (Below.refl _ _)
          simp only [Act.put, List.setIfInBounds_toArray, List.set_cons_zero, List.set_cons_succ]
          refine SeqG.predStep SlV.next (fun wv hbv hpv => ?_) (fun f1 => ?_)
          · clear hpv
            have hbw := HB3.out.trans (hbv.mono zW)
            have s1 := (HR.out.below hbw).mono hbw.size
            have s2 := (HRX.out.below hbw).mono hbw.size
            go_wp2_with fail
            refine (l14Parts_any _ _ _ _ _ _ _ s1 hm s2 HXL.out).mono ?_; rintro e w1 ⟨A1, c1, rfl, o1, hb1⟩
            go_wp2_with fail
            exact post_pred _ hb1 ⟨_, _, rfl, o1.sl⟩
          simp only [Act.put, List.setIfInBounds_toArray, List.set_cons_zero, List.set_cons_succ]
          refine SeqG.fixStep (.inl ⟨rfl, fun _ => rfl⟩) ?_
          simp only [Act.put, List.setIfInBounds_toArray, List.set_cons_zero, List.set_cons_succ]
          refine SeqG.fixStep (.inl ⟨rfl, fun _ => rfl⟩) ?_
          simp only [Act.put, List.setIfInBounds_toArray, List.set_cons_zero, List.set_cons_succ]
          refine SeqG.fixStep (.inl ⟨rfl, fun _ => rfl⟩) ?_
          simp only [Act.put, List.setIfInBounds_toArray, List.set_cons_zero, List.set_cons_succ]
          refine SeqG.valStep (fun wv hbv hpv => ?_) ?_
          · skip
            go_wp2_with fail
            exact post_val (Below.refl _ _)
          simp only [Act.put, List.setIfInBounds_toArray, List.set_cons_zero, List.set_cons_succ]
          refine SeqG.valStep (fun wv hbv hpv => ?_) ?_
          · have c0 := cellM (HCM.out.below (HB3.out.trans (hbv.mono zW)) hB) HY.out
            go_wp2_with fail
            exact post_val (Below.refl _ _)
          simp only [Act.put, List.setIfInBounds_toArray, List.set_cons_zero, List.set_cons_succ]
          refine SeqG.predStep SlV.next (fun wv hbv hpv => ?_) (fun f2 => ?_)
          · clear hpv
            have hbw := HB3.out.trans (hbv.mono zW)
            have s1 := (HR.out.below hbw).mono hbw.size
            have s2 := (HRY.out.below hbw).mono hbw.size
            go_wp2_with fail
            refine (l14Parts_any _ _ _ _ _ _ _ s1 hm s2 HYL.out).mono ?_; rintro e w1 ⟨A1, c1, rfl, o1, hb1⟩
            go_wp2_with fail
            exact post_pred _ hb1 ⟨_, _, rfl, o1.sl⟩
          simp only [Act.put, List.setIfInBounds_toArray, List.set_cons_zero, List.set_cons_succ]
          refine SeqG.valStep (fun wv hbv hpv => ?_) ?_
          · obtain ⟨A1, c1, rfl, s1⟩ := hpv _ (.tail _ (.head _)) (by kernel_rfl)
            obtain ⟨A2, c2, rfl, s2⟩ := hpv _ (.head _) (by kernel_rfl)
            clear hpv
            go_wp2_with fail
            refine (l1Same_any _ _ _ _ _ _ _ s1 s2 (by rw [frA_len]; omega)).mono ?_; rintro e w1 ⟨rfl, hb1⟩
            go_wp2_with fail
            exact post_val hb1
          simp only [Act.put, List.setIfInBounds_toArray, List.set_cons_zero, List.set_cons_succ]
          refine SeqG.valStep (fun wv hbv hpv => ?_) ?_
          · skip
            go_wp2_with fail
            exact post_val (Below.refl _ _)
          simp only [Act.put, List.setIfInBounds_toArray, List.set_cons_zero, List.set_cons_succ]
          refine SeqG.predStep LitB.next (fun wv hbv hpv => ?_) (fun v3 => ?_)
          · clear hpv
            go_wp2_with fail
            exact post_pred (F := LitB wr.heap.size (!eqL (frA S x.2.2) (frA S y.2.2))) _ (by (repeat (first | exact Below.refl _ _ | refine Below.drew ?_ | refine below_drewN ?_ _ | (refine Below.alloc ?_ (by (try simp) <;> omega) _) | (refine Below.setCell ?_ (by (try simp) <;> omega) _) | (refine Below.trans ?_ (Below.mono (by assumption) (by (try simp) <;> omega)))))) ⟨wv.heap.size, rfl, hbv.size, Blk.new _ _ _⟩
          simp only [Act.put, List.setIfInBounds_toArray, List.set_cons_zero, List.set_cons_succ]
          refine SeqG.done fun wv hbv hpv => ?_
          obtain ⟨g, rfl, hg, kg⟩ := hpv _ (.head _)
          have hG := HG3.out.below hbv
          have zv := hbv.size
          have hbw : Below w.heap.size w wv := HB3.out.trans (hbv.mono zW)
          clear hpv
          refine NoPanL' ?_
          refine wpList_append_own _ rfl _ _ 68 rfl w.heap.size 4 i0 (.bool false) 1 1 Tryd.underlying68 HI.out HZ0.out HZ1.out HZ2.out rfl (by decide) _ _ _ rfl hG ⟨g, 0, none⟩ 1 1 [.bool (!eqL (frA S x.2.2) (frA S y.2.2))] rfl rfl ?_ one_okB ?_ ?_ ?_ ?_
          · intro j u hj
            rw [Go.WideShapes.add_plain, kg.cell]
            match j, hj with
            | 0, hj => simpa using hj
          · have := HPL.out; unfold maxLen; omega
          · have := HPL.out; omega
          · omega
          · intro v' w9 hown hgrow _
            have hG9 := Gath.snoc hown
            have hB9 : Below w.heap.size w w9 := below_grown' hbw hgrow hG (Nat.le_refl _) (by omega)
            have HG9 : Hid (Gath fB 1 4 w9 w.heap.size v' (ppre S (smls M) i ++ prow S (smls M) i (k + 1))) := (by rw [HSU.out, ← List.append_assoc]; exact hG9 : Gath fB 1 4 w9 w.heap.size v' (ppre S (smls M) i ++ prow S (smls M) i (k + 1)))
            clear hown hgrow hG9 hG kg hbw hbv HG3 HB3
            go_wp2_with fail
            refine NoPan.normal ?_
            go_wp2
            go_roundw
            case rel => exact ⟨k + 1, by go_num, by omega, HG9, hB9⟩
            case measure => simp only [intOf]; omega
        · obtain rfl : k = i := by omega
          have HG9 := Lib.hid (show Gath fB 1 4 wr w.heap.size _ (ppre S (smls M) (k + 1)) from (by rw [ppre_succ]; exact hG2.out))
          clear hG2
          go_wp2
          go_roundw
          case rel => exact ⟨k + 1, by go_num, by omega, HG9, hb2⟩
          case measure => simp only [intOf]; omega
    · obtain rfl : i = M.length := by omega
      have HG9 := Lib.hid (show Gath fB 1 4 wr w.heap.size _ (partsL S (smls M)) from (by rw [partsL, smls_len]; exact hG.out))
      clear hG
      go_wp2
      go_ret
      exact ⟨_, rfl, HG9.out, hb⟩

set_option maxRecDepth 20000 in
set_option maxHeartbeats 8000000 in
theorem parts_any (A A' : Option Addr) (c c' : Nat) (S : List Int) (M : List Smp) (w : World) (hr : SlR f1 1 w w.heap.size A S) (hm : (S.length : Int) ≤ 1048576) (hs : SlSm w w.heap.size A' M) (h8 : M.length ≤ 8) (hl : ∀ x ∈ M, (x.2.2.length : Int) ≤ 1048576) (hcap : M.length ≤ c') :
    Calls Tryd.prog 46 #[.slice A S.length c, .slice A' M.length c'] w fun e w' => ∃ v, e = .returned v ∧ Gath fB 1 4 w' w.heap.size v (partsL S (smls M)) ∧ Below w.heap.size w w' := by
  obtain ⟨i0, hi, hz0, hz1, hz2⟩ := info_parts infoBool
  have HI := Lib.hid hi; have HZ0 := Lib.hid hz0; have HZ1 := Lib.hid hz1; have HZ2 := Lib.hid hz2
  clear hi hz0 hz1 hz2
  have HL := Lib.hid hl; clear hl
  have HS := Lib.hid hs; clear hs
  have HR := Lib.hid hr; clear hr
  have h8i : (M.length : Int) ≤ 8 := by omega
  have mixed : Tryd.prog.follows .mixedOrders = true := by kernel_rfl
  go_enter Tryd.func46, Tryd.ntmps46
  go_wp2
  go_loopw [5, 12] (fun v5 v6 wr => ∃ i : Nat, v6 = .int .i64 i ∧ i ≤ M.length ∧ Hid (Gath fB 1 4 wr w.heap.size v5 (ppre S (smls M) i)) ∧ Below w.heap.size w wr) (fun _ v6 _ => (M.length - intOf v6).toNat)
  case atStart => exact ⟨0, rfl, by omega, Gath.nil, Below.refl _ _⟩
  case round =>
    obtain ⟨i, rfl, hil, hG, hb⟩ := hrel
    by_cases hlt : i < M.length
    · have hi0 : (0 : Int) ≤ (i : Int) := by omega
      have hi1 : (i : Int) < (M.length : Int) := by omega
      have hx : M[i]? = some M[i] := List.getElem?_eq_getElem hlt
      generalize M[i] = x at hx
      have HX := Lib.hid hx
      have HXL := Lib.hid (HL.out x (List.mem_of_getElem? hx))
      obtain ⟨b, off, rfl, hB, hC⟩ := HS.out.sl (SlR.ne hx)
      have HCM := Lib.hid hC
      have c0 := cellM (hC.below hb hB) hx
      have HRX := Lib.hid (HS.out.rows x (List.mem_of_getElem? hx))
      have zr := hb.size
      clear hx hC hlt
      have hci : (i : Int) ≤ (c' : Int) := by omega
      have hc0 : ¬ c' = 0 := by omega
      have HB1 := Lib.hid (hb.alloc zr (.cells #[.slice x.1 x.2.2.length x.2.1] 29))
      have HG1 := Lib.hid (hG.out.alloc (.cells #[.slice x.1 x.2.2.length x.2.1] 29))
      have HK1 := Lib.hid (Blk.new wr 29 #[.slice x.1 x.2.2.length x.2.1])
      clear hG
      go_upto_region 5 with fail
      generalize wr.alloc (.cells #[.slice x.1 x.2.2.length x.2.1] 29) = W1 at *
      generalize wr.heap.size = p at *
      clear c0 hb
      go_wp2
      go_loopw [5, 21] (fun v5 v7 wr => ∃ k : Nat, v7 = .int .i64 k ∧ k ≤ i ∧ Hid (Gath fB 1 4 wr w.heap.size v5 (ppre S (smls M) i ++ prow S (smls M) i k)) ∧ Hid (Blk wr p 29 #[.slice x.1 x.2.2.length x.2.1]) ∧ Below w.heap.size w wr) (fun _ v7 _ => (i - intOf v7).toNat)
      case atStart => exact ⟨0, rfl, by omega, by rw [prow_zero, List.append_nil]; exact HG1.out, HK1.out, HB1.out⟩
      case round =>
        obtain ⟨k, rfl, hki, hG2, hK2, hb2⟩ := hrel
        by_cases hlt : k < i
        · have hk0 : (0 : Int) ≤ (k : Int) := by omega
          have hk1 : (k : Int) < (M.length : Int) := by omega
          have hy : M[k]? = some M[k] := List.getElem?_eq_getElem (by omega)
          generalize M[k] = y at hy
          have HY := Lib.hid hy
          have HYL := Lib.hid (HL.out y (List.mem_of_getElem? hy))
          have HRY := Lib.hid (HS.out.rows y (List.mem_of_getElem? hy))
          have zr2 := hb2.size
          have HB2 := Lib.hid hb2
          have HSU := Lib.hid (prow_succ S (smls M) i k)
          rw [smls_at HX.out, smls_at HY.out] at HSU
          have HPL := Lib.hid (pp_len S (smls M) (i := i) (k := k) (by omega) (by omega))
          have hki : (k : Int) < (i : Int) := by omega
          have c1 := cellM (HCM.out.below hb2 hB) hy
          have HB3 := Lib.hid (hb2.alloc zr2 (.cells #[.slice y.1 y.2.2.length y.2.1] 29))
          have HG3 := Lib.hid (hG2.out.alloc (.cells #[.slice y.1 y.2.2.length y.2.1] 29))
          have HKA := Lib.hid (hK2.out.alloc (.cells #[.slice y.1 y.2.2.length y.2.1] 29))
          have HKB := Lib.hid (Blk.new wr 29 #[.slice y.1 y.2.2.length y.2.1])
          clear hG2 hK2 hy
          go_upto_region 8 with fail
          generalize wr.alloc (.cells #[.slice y.1 y.2.2.length y.2.1] 29) = W2 at *
          generalize wr.heap.size = p2 at *
          clear c1 hb2 HB2
          have zW := HB3.out.size
          refine wp_region_grow [.fix u5, .fix (.slice A S.length c), .val (.agg #[.slice x.1 x.2.2.length x.2.1]), .pred (SlV f1 1 (frA S x.2.2)), .fix (.slice A S.length c), .val (.agg #[.slice y.1 y.2.2.length y.2.1]), .pred (SlV f1 1 (frA S y.2.2)), .val (.bool (eqL (frA S x.2.2) (frA S y.2.2))), .val (.bool (!eqL (frA S x.2.2) (frA S y.2.2))), .pred (LitB W2.heap.size (!eqL (frA S x.2.2) (frA S y.2.2)))] mixed (by kernel_rfl) ?_
          refine SeqG.fixStep (.inl ⟨rfl, fun _ => rfl⟩) ?_
          simp only [Act.put, List.setIfInBounds_toArray, List.set_cons_zero, List.set_cons_succ]
          refine SeqG.fixStep (.inl ⟨rfl, fun _ => rfl⟩) ?_
          simp only [Act.put, List.setIfInBounds_toArray, List.set_cons_zero, List.set_cons_succ]
          refine SeqG.valStep (fun wv hbv hpv => ?_) ?_
          · have c0 := (HKA.out.below' hbv).cell 0
            go_wp2_with fail
            exact post_val (Below.refl _ _)
          simp only [Act.put, List.setIfInBounds_toArray, List.set_cons_zero, List.set_cons_succ]
          refine SeqG.predStep SlV.next (fun wv hbv hpv => ?_) (fun f1 => ?_)
          · clear hpv
            have hbw := HB3.out.trans (hbv.mono zW)
            have s1 := (HR.out.below hbw).mono hbw.size
            have s2 := (HRX.out.below hbw).mono hbw.size
            go_wp2_with fail
            refine (fractions_any _ _ _ _ _ _ _ s1 hm s2 HXL.out).mono ?_; rintro e w1 ⟨A1, c1, rfl, o1, hb1⟩
            go_wp2_with fail
            exact post_pred _ hb1 ⟨_, _, rfl, o1.sl⟩
          simp only [Act.put, List.setIfInBounds_toArray, List.set_cons_zero, List.set_cons_succ]
          refine SeqG.fixStep (.inl ⟨rfl, fun _ => rfl⟩) ?_
          simp only [Act.put, List.setIfInBounds_toArray, List.set_cons_zero, List.set_cons_succ]
          refine SeqG.valStep (fun wv hbv hpv => ?_) ?_
          · have c0 := (HKB.out.below' hbv).cell 0
            go_wp2_with fail
            exact post_val (Below.refl _ _)
          simp only [Act.put, List.setIfInBounds_toArray, List.set_cons_zero, List.set_cons_succ]
          refine SeqG.predStep SlV.next (fun wv hbv hpv => ?_) (fun f2 => ?_)
          · clear hpv
            have hbw := HB3.out.trans (hbv.mono zW)
            have s1 := (HR.out.below hbw).mono hbw.size
            have s2 := (HRY.out.below hbw).mono hbw.size
            go_wp2_with fail
            refine (fractions_any _ _ _ _ _ _ _ s1 hm s2 HYL.out).mono ?_; rintro e w1 ⟨A1, c1, rfl, o1, hb1⟩
            go_wp2_with fail
            exact post_pred _ hb1 ⟨_, _, rfl, o1.sl⟩
          simp only [Act.put, List.setIfInBounds_toArray, List.set_cons_zero, List.set_cons_succ]
          refine SeqG.valStep (fun wv hbv hpv => ?_) ?_
          · obtain ⟨A1, c1, rfl, s1⟩ := hpv _ (.tail _ (.head _)) (by kernel_rfl)
            obtain ⟨A2, c2, rfl, s2⟩ := hpv _ (.head _) (by kernel_rfl)
            clear hpv
            go_wp2_with fail
            refine (equalI_any _ _ _ _ _ _ _ s1 s2 (by rw [frA_len]; omega)).mono ?_; rintro e w1 ⟨rfl, hb1⟩
            go_wp2_with fail
            exact post_val hb1
          simp only [Act.put, List.setIfInBounds_toArray, List.set_cons_zero, List.set_cons_succ]
          refine SeqG.valStep (fun wv hbv hpv => ?_) ?_
          · skip
            go_wp2_with fail
            exact post_val (Below.refl _ _)
          simp only [Act.put, List.setIfInBounds_toArray, List.set_cons_zero, List.set_cons_succ]
          refine SeqG.predStep LitB.next (fun wv hbv hpv => ?_) (fun v3 => ?_)
          · clear hpv
            go_wp2_with fail
            exact post_pred (F := LitB W2.heap.size (!eqL (frA S x.2.2) (frA S y.2.2))) _ (by (repeat (first | exact Below.refl _ _ | refine Below.drew ?_ | refine below_drewN ?_ _ | (refine Below.alloc ?_ (by (try simp) <;> omega) _) | (refine Below.setCell ?_ (by (try simp) <;> omega) _) | (refine Below.trans ?_ (Below.mono (by assumption) (by (try simp) <;> omega)))))) ⟨wv.heap.size, rfl, hbv.size, Blk.new _ _ _⟩
          simp only [Act.put, List.setIfInBounds_toArray, List.set_cons_zero, List.set_cons_succ]
          refine SeqG.done fun wv hbv hpv => ?_
          obtain ⟨g, rfl, hg, kg⟩ := hpv _ (.head _)
          have hG := HG3.out.below hbv
          have zv := hbv.size
          have hbw : Below w.heap.size w wv := HB3.out.trans (hbv.mono zW)
          have kA := HKA.out.below' hbv
          clear hpv
          refine NoPanL' ?_
          refine wpList_append_own _ rfl _ _ 68 rfl w.heap.size 4 i0 (.bool false) 1 1 Tryd.underlying68 HI.out HZ0.out HZ1.out HZ2.out rfl (by decide) _ _ _ rfl hG ⟨g, 0, none⟩ 1 1 [.bool (!eqL (frA S x.2.2) (frA S y.2.2))] rfl rfl ?_ one_okB ?_ ?_ ?_ ?_
          · intro j u hj
            rw [Go.WideShapes.add_plain, kg.cell]
            match j, hj with
            | 0, hj => simpa using hj
          · have := HPL.out; unfold maxLen; omega
          · have := HPL.out; omega
          · omega
          · intro v' w9 hown hgrow _
            have hG9 := Gath.snoc hown
            have hB9 : Below w.heap.size w w9 := below_grown' hbw hgrow hG (Nat.le_refl _) (by omega)
            have HG9 : Hid (Gath fB 1 4 w9 w.heap.size v' (ppre S (smls M) i ++ prow S (smls M) i (k + 1))) := (by rw [HSU.out, ← List.append_assoc]; exact hG9 : Gath fB 1 4 w9 w.heap.size v' (ppre S (smls M) i ++ prow S (smls M) i (k + 1)))
            have HK9 := Lib.hid (kA.grown hG hgrow (by decide))
            clear hown hgrow hG9 hG kg kA hbw hbv HG3 HB3
            go_wp2_with fail
            refine NoPan.normal ?_
            go_wp2
            go_roundw
            case rel => exact ⟨k + 1, by go_num, by omega, HG9, HK9.out, hB9⟩
            case measure => simp only [intOf]; omega
        · obtain rfl : k = i := by omega
          have HG9 := Lib.hid (show Gath fB 1 4 wr w.heap.size _ (ppre S (smls M) (k + 1)) from (by rw [ppre_succ]; exact hG2.out))
          clear hG2 hK2
          go_wp2
          go_roundw
          case rel => exact ⟨k + 1, by go_num, by omega, HG9, hb2⟩
          case measure => simp only [intOf]; omega
    · obtain rfl : i = M.length := by omega
      have HG9 := Lib.hid (show Gath fB 1 4 wr w.heap.size _ (partsL S (smls M)) from (by rw [partsL, smls_len]; exact hG.out))
      clear hG
      go_wp2
      go_ret
      exact ⟨_, rfl, HG9.out, hb⟩

end Go.Proofs.YtapfnelghmnajaaDoor
