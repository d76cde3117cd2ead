/-
  The reference's l14Sorted: the list sorted, in new memory.
-/
import Derived.Test.YtapfnelghmnajaaDoorSmp1
import Derived.Test.YtapfnelghmnajaaDoorShl
import Derived.Test.YtapfnelghmnajaaDoorSrt0
import Derived.Test.YtapfnelghmnajaaDoorChn
import Derived.Deep.LoopGhost
import Derived.ArgAppend
import Derived.WalkKit
import Derived.WalkSpells
import Derived.WalkLawsBesides
import Derived.Lib.Hide
import Derived.Deep.QuietTactic
import Derived.BigQuiet
import Derived.StillTailTactics
namespace Go.Proofs.YtapfnelghmnajaaDoor
open Go.RowKit

theorem NoPanL {P : Program} {ops : Array Oper} {Q : Exit → Act → World → Prop} {l : List Oper} {a : Act} {w : World} (h : wpList P ops Q l a w) : wpList P ops Q l a w := h
/-- A slice of the call's own, from block B on, not nil. -/
def GathN (t : TypeId) (B : Nat) (L : List Int) (v : Value) (w : World) : Prop := Gath f1 1 t w B v L ∧ v ≠ .slice none 0 0
theorem GathN.next {t : TypeId} {B : Nat} {L : List Int} : ∀ (v : Value) (w w' : World), Below w.heap.size w w' → GathN t B L v w → GathN t B L v w' := fun _ _ _ hb h => ⟨h.1.below hb, h.2⟩
/-- An empty slice literal. -/
def Emp (t : TypeId) (B : Nat) (v : Value) (w : World) : Prop := ∃ g, v = .slice (some ⟨g, 0, none⟩) 0 0 ∧ B ≤ g ∧ Gath f1 1 t w B v []
theorem Emp.next {t : TypeId} {B : Nat} : ∀ (v : Value) (w w' : World), Below w.heap.size w w' → Emp t B v w → Emp t B v w' := fun _ _ _ hb ⟨g, h1, h2, h3⟩ => ⟨g, h1, h2, h3.below hb⟩
/-- The slice literal of one int. -/
def One (x : Int) (v : Value) (w : World) : Prop := ∃ g, v = .slice (some ⟨g, 0, none⟩) 1 1 ∧ g < w.heap.size ∧ w.cell? ⟨g, 0, none⟩ = some (.int .i64 x)
theorem One.next {x : Int} : ∀ (v : Value) (w w' : World), Below w.heap.size w w' → One x v w → One x v w' := fun _ _ _ hb ⟨g, h1, h2, h3⟩ => ⟨g, h1, by have := hb.size; omega, ((bblk hb (g := g) h2).1 0).trans h3⟩
theorem old_cell {B : Nat} {w w' : World} (hb : Below B w w') {a : Addr} {j : Nat} (h : a.block < B) : w'.cell? (a.add j) = w.cell? (a.add j) := by
  have e : (a.add j).block = a.block := by unfold Addr.add; split <;> rfl
  exact hb.cell (p := a.add j) (by rw [e]; exact h)
theorem take_news {w : World} {g : Nat} {O : List Int} {p : Nat} (h : Cells f1 1 w g 0 O) : ∀ j u, ((O.take p).map (Value.int .i64))[j]? = some u → w.cell? ((⟨g, 0, none⟩ : Addr).add j) = some u := by
  intro j u hj
  rw [Go.WideShapes.add_plain]
  rw [List.getElem?_map] at hj
  cases hx : (O.take p)[j]? with
  | none => rw [hx] at hj; cases hj
  | some x =>
    rw [hx] at hj
    simp at hj; subst hj
    have hx2 : O[j]? = some x := by rw [List.getElem?_take] at hx; split at hx; exact hx; cases hx
    have := cells1 h hx2
    simpa using this
theorem drop_news {w : World} {g off : Nat} {O : List Int} {p : Nat} (h : Cells f1 1 w g off O) : ∀ j u, ((O.drop p).map (Value.int .i64))[j]? = some u → w.cell? ((⟨g, off + p, none⟩ : Addr).add j) = some u := by
  intro j u hj
  rw [Go.WideShapes.add_plain]
  rw [List.getElem?_map] at hj
  cases hx : (O.drop p)[j]? with
  | none => rw [hx] at hj; cases hj
  | some x =>
    rw [hx] at hj
    simp at hj; subst hj
    have hx2 : O[p + j]? = some x := by rw [List.getElem?_drop] at hx; exact hx
    have := cells1 h hx2
    simpa [Nat.add_assoc] using this
theorem own_mono {w : World} {B B' m n : Nat} {e : TypeId} {v : Value} {xs : List Value} (h : w.ownsRow B e m v n xs) (hB : B' ≤ B) : w.ownsRow B' e m v n xs := by
  obtain ⟨h0, h1 | ⟨g, cap, cur, hv, hb, r⟩⟩ := h
  · exact ⟨h0, .inl h1⟩
  · exact ⟨h0, .inr ⟨g, cap, cur, hv, Nat.le_trans hB hb, r⟩⟩
theorem ints_one {L : List Int} : ∀ u ∈ L.map (Value.int .i64), u.oneCell' = true := by
  intro u hu
  obtain ⟨x, _, rfl⟩ := List.mem_map.1 hu
  rfl

theorem gath_far {α : Type} {f : α → List Value} {m B : Nat} {t : TypeId} {w : World} {v : Value} {L : List α} (h : Gath f m t w B v L) (_hB : B ≤ B) {p : Addr} (hp : p.block < B) (u : Value) : Gath f m t (w.setCell p u) B v L := by
  obtain ⟨h0, h | ⟨g, cap, cur, hv, hB, hh, r⟩⟩ := h
  · exact ⟨h0, .inl h⟩
  · exact ⟨h0, .inr ⟨g, cap, cur, hv, hB, (Below.heap_setCell w p u g (by omega)).trans hh, r⟩⟩

set_option maxRecDepth 4000 in
set_option maxHeartbeats 8000000 in
theorem l14SortedG_any (A : Option Addr) (cA : Nat) (L : List Int) (w : World) (hr : SlR f1 1 w w.heap.size A L) (hm : (L.length : Int) ≤ 1048576) :
    Calls Tryd.prog 56 #[.slice A L.length cA] w fun e w' => ∃ A' c', e = .returned (.agg #[.slice A' (sortL L).length c']) ∧ Gath f1 1 3 w' w.heap.size (.slice A' (sortL L).length c') (sortL L) ∧ Below w.heap.size w w' := by
  obtain ⟨i0, hi, hz0, hz1, hz2⟩ := info_parts infoInt
  have hbE : Below w.heap.size w (w.alloc (.cells #[.slice none 0 0] 29 (0, 0))) := by (repeat (first | exact Below.refl _ _ | refine Below.drew ?_ | refine below_drewN ?_ _ | (refine Below.alloc ?_ (by (try simp) <;> omega) _) | (refine Below.setCell ?_ (by (try simp) <;> omega) _) | (refine Below.trans ?_ (Below.mono (by assumption) (by (try simp) <;> omega)))))
  have zE : (w.alloc (.cells #[.slice none 0 0] 29 (0, 0))).heap.size = w.heap.size + 1 := by simp
  have k0 := Lib.hid (Blk.new w 29 #[.slice none 0 0])
  have hG0 := Lib.hid (Gath.made (f := f1) (m := 1) (t := 3) (B := w.heap.size + 1) (w := w.alloc (.cells #[.slice none 0 0] 29 (0, 0))) (by simp))
  have hE2 : Below (w.heap.size + 1) (w.alloc (.cells #[.slice none 0 0] 29 (0, 0))) ((w.alloc (.cells #[.slice none 0 0] 29 (0, 0))).alloc (.cells #[] 3 (0, 0))) := (Below.refl _ _).alloc (by simp) _
  rw [zE] at hG0
  go_enter Tryd.func56, Tryd.ntmps56
  go_wp2
  have zE1 : (w.alloc (.cells #[.slice none 0 0] 29 (0, 0))).heap.size ≤ w.heap.size + 1 := by omega
  have zE2 : w.heap.size + 1 ≤ (w.alloc (.cells #[.slice none 0 0] 29 (0, 0))).heap.size := by omega
  clear zE
  generalize w.alloc (.cells #[.slice none 0 0] 29 (0, 0)) = E at *
  have HbE := Lib.hid hbE
  go_loopg [4, 3] L.length (fun gg i v wr => ∃ k : Nat, k ≤ L.length ∧ gg = L.length - k ∧ i = .int .i64 k ∧ Gath f1 1 3 wr (w.heap.size + 1) v (isrt L k) ∧ v ≠ .slice none 0 0 ∧ Below (w.heap.size + 1) E wr)
  case atStart => exact ⟨0, by omega, rfl, rfl, hG0.out, by simp, hE2⟩
  case round =>
    obtain ⟨k, hk, rfl, rfl, hG, hv, hb⟩ := hrel
    clear hE2
    have zr := hb.size
    have hlO := Lib.hid (isrt_len L k hk)
    by_cases hlt : k < L.length
    · have hx : L[k]? = some L[k] := List.getElem?_eq_getElem hlt
      obtain ⟨b, off, rfl, hB, hcs⟩ := hr (SlR.ne hx)
      have hCL := Lib.hid (hcs.below HbE.out hB)
      obtain ⟨x, hxx⟩ : ∃ x, L[k] = x := ⟨_, rfl⟩
      rw [hxx] at hx
      have Hx := Lib.hid hx
      have Hxl := Lib.hid hlt
      obtain ⟨O, hO⟩ : ∃ O, isrt L k = O := ⟨_, rfl⟩
      have HO := Lib.hid hO
      rw [hO] at hG hlO
      have hn20 : O.length ≤ L.length := by have := hlO.out; omega
      obtain ⟨g, c, rfl, hg, hcc, hcm, hR, hC⟩ := hG.form hv
      have hgl00 := hR.lt
      have hk0 : (0 : Int) ≤ (k : Int) := by omega
      have hk1 : (k : Int) < (L.length : Int) := by omega
      have ho0 : (0 : Int) ≤ (O.length : Int) := by omega
      clear hxx hx hcs hlt hO hlO hv hR
      go_wp2
      go_loopg [5] O.length (fun gg i wr => ∃ p : Nat, p ≤ O.length ∧ gg = p ∧ i = .int .i64 p ∧ Hid (posF O x O.length = posF O x p) ∧ Gath f1 1 3 wr (w.heap.size + 1) (.slice (some ⟨g, 0, none⟩) O.length c) O ∧ Cells f1 1 wr g 0 O ∧ g < wr.heap.size ∧ Below (w.heap.size + 1) E wr)
      case atStart => exact ⟨O.length, Nat.le_refl _, rfl, rfl, rfl, hG, hC, hgl00, hb⟩
      case round =>
        obtain ⟨p, hpo, hgk, rfl, hp, qG, qC, hgl0, qB⟩ := hrel
        have Hgk := Lib.hid hgk
        clear hgk
        clear hG hC hb zr hgl00
        have zr := qB.size
        have c0 := cells1 (hCL.out.below qB (by omega)) Hx.out
        have hBr : b < wr.heap.size := by omega
        have hpi : (p : Int) ≤ (O.length : Int) := by omega
        have hp00 : (0 : Int) ≤ (p : Int) := by omega
        by_cases h0 : p = 0
        · have hg0 : decide (0 < p) = false := by simp; omega
          have Hst := Lib.hid (show posF O x p = p by rw [h0]; rfl)
          clear h0
          by_cases hpc : p = c
          · subst hpc
            have hpos : posF O x O.length = p := hp.out.trans (Hst.out)
            have HN := Lib.hid (show isrt L (k + 1) = O.take p ++ [x] ++ O.drop p by rw [isrt_succ Hx.out, HO.out, insAt, hpos])
            have hlen := Lib.hid (show (O.take p).length = p by rw [List.length_take]; omega)
            have hdl := Lib.hid (show (O.drop p).length = O.length - p by rw [List.length_drop])
            have hp0 : (0 : Int) ≤ (p : Int) := by omega
            have hpcc : (p : Int) ≤ (p : Int) := by omega
            have hpn : (p : Int) ≤ (O.length : Int) := by omega
            have QG := Lib.hid qG
            have QC := Lib.hid qC
            clear qG qC hp hpos
            go_wp2
            go_quiet (fail)
            go_wp2
            have qG : Gath f1 1 3 (wr.drewN nq) (w.heap.size + 1) (.slice (some ⟨g, 0, none⟩) O.length p) O := QG.out
            have qC := Lib.hid (show Cells f1 1 (wr.drewN nq) g 0 O from QC.out)
            have qB2 : Below (w.heap.size + 1) E (wr.drewN nq) := by first | exact qB | exact below_drewN qB _
            have hgl : g < (wr.drewN nq).heap.size := hgl0
            have hbl : b < (wr.drewN nq).heap.size := hBr
            have c0' : (wr.drewN nq).cell? ⟨b, off + k, none⟩ = some (.int .i64 x) := c0
            generalize hWW : (wr.drewN nq) = wz at *
            clear hWW
            have zz := qB2.size
            have HO1 := Lib.hid (show ∀ j u, ((O.take p).map (Value.int .i64))[j]? = some u → wz.cell? ((⟨g, 0, none⟩ : Addr).add j) = some u from take_news qC.out)
            have HO2 := Lib.hid (show ∀ j u, ((O.drop p).map (Value.int .i64))[j]? = some u → wz.cell? ((⟨g, 0, none⟩ : Addr).add j) = some u from fun j u h => by rw [List.drop_of_length_le (by omega)] at h; simp at h)
            clear qC
            refine Ch.wp_region_chain [.pred (Emp 3 wz.heap.size), .fix (.slice (some ⟨g, 0, none⟩) O.length p), .fix (.int .i64 p), .val (.slice (some ⟨g, 0, none⟩) p p), .pred (GathN 3 wz.heap.size (O.take p)), .fix (.slice (some ⟨b, off, none⟩) L.length cA), .fix (.int .i64 k), .val (.pointer (some ⟨b, off + k, none⟩)), .val (.int .i64 x), .pred (One x), .chain wz.heap.size (GathN 3 wz.heap.size (O.take p ++ [x])), .fix (.slice (some ⟨g, 0, none⟩) O.length p), .fix (.int .i64 p), .val (.slice (some ⟨g, 0, none⟩) 0 0)] mixed (by kernel_rfl) ?_
            refine Ch.SeqG.predStep Emp.next (fun wv hbv hpv => ?_) (fun v0 => ?_)
            · go_wp2_with fail
              exact Ch.post_pred _ (by (repeat (first | exact Below.refl _ _ | refine Below.drew ?_ | refine below_drewN ?_ _ | (refine Below.alloc ?_ (by (try simp) <;> omega) _) | (refine Below.setCell ?_ (by (try simp) <;> omega) _) | (refine Below.trans ?_ (Below.mono (by assumption) (by (try simp) <;> omega)))))) ⟨_, rfl, hbv.size, Gath.made hbv.size⟩
            simp only [Act.put, List.setIfInBounds_toArray, List.set_cons_zero, List.set_cons_succ]
            refine Ch.SeqG.fixStep (.inl ⟨rfl, fun _ => rfl⟩) ?_
            simp only [Act.put, List.setIfInBounds_toArray, List.set_cons_zero, List.set_cons_succ]
            refine Ch.SeqG.fixStep (.inl ⟨rfl, fun _ => rfl⟩) ?_
            simp only [Act.put, List.setIfInBounds_toArray, List.set_cons_zero, List.set_cons_succ]
            refine Ch.SeqG.valStep (fun wv hbv hpv => ?_) ?_
            · skip
              go_wp2_with fail
              exact Ch.post_val (Below.refl _ _)
            simp only [Act.put, List.setIfInBounds_toArray, List.set_cons_zero, List.set_cons_succ]
            refine Ch.SeqG.predStep GathN.next (fun wv hbv hpv => ?_) (fun v1 => ?_)
            · obtain ⟨g0, rfl, hg0, hE0⟩ := hpv _ (.head _) (by kernel_rfl)
              clear hpv
              refine wpList_append_arg _ rfl _ _ 22 rfl 3 i0 (.int .i64 0) 1 8 Tryd.underlying22 hi hz0 hz1 hz2 rfl (by decide) g0 0 0 0 [] rfl rfl (by intro j u h; simp at h) ⟨g, 0, none⟩ p p ((O.take p).map (Value.int .i64)) rfl (by rw [List.length_map, hlen.out, Nat.mul_one]) (fun j u h => by rw [old_cell hbv (by exact hgl)]; exact HO1.out j u h) ints_one ?_ ?_ ?_ ?_ ?_
              · intro h; intro j hj; rw [List.length_map, hlen.out] at hj; omega
              · unfold maxLen; omega
              · omega
              · intro h
                have e0 : O.take p = [] := by obtain rfl : p = 0 := (by omega); rfl
                have hp00 : p = 0 := by omega
                rw [e0]
                simp only [List.map_nil, World.setCells]
                exact ⟨rfl, _, by simp [hp00, Act.put], Below.refl _ _, hE0, by simp⟩
              · intro h v' w' hown hgrow
                refine ⟨rfl, v', rfl, below_grown hgrow (fun k h => by cases h), ?_, ?_⟩
                · have := own_mono hown hbv.size
                  unfold Gath; rw [flat1, hlen.out]; simpa using this
                · intro e; subst e; obtain ⟨_, ⟨_, h0⟩ | ⟨_, _, _, h0, _⟩⟩ := hown
                  · omega
                  · cases h0
            simp only [Act.put, List.setIfInBounds_toArray, List.set_cons_zero, List.set_cons_succ]
            refine Ch.SeqG.fixStep (.inl ⟨rfl, fun _ => rfl⟩) ?_
            simp only [Act.put, List.setIfInBounds_toArray, List.set_cons_zero, List.set_cons_succ]
            refine Ch.SeqG.fixStep (.inl ⟨rfl, fun _ => rfl⟩) ?_
            simp only [Act.put, List.setIfInBounds_toArray, List.set_cons_zero, List.set_cons_succ]
            refine Ch.SeqG.valStep (fun wv hbv hpv => ?_) ?_
            · skip
              go_wp2_with fail
              exact Ch.post_val (Below.refl _ _)
            simp only [Act.put, List.setIfInBounds_toArray, List.set_cons_zero, List.set_cons_succ]
            refine Ch.SeqG.valStep (fun wv hbv hpv => ?_) ?_
            · have e1 := ((bblk hbv (g := b) hbl).1 (off + k)).trans c0'
              go_wp2_with fail
              exact Ch.post_val (Below.refl _ _)
            simp only [Act.put, List.setIfInBounds_toArray, List.set_cons_zero, List.set_cons_succ]
            refine Ch.SeqG.predStep One.next (fun wv hbv hpv => ?_) (fun v2 => ?_)
            · go_wp2_with fail
              exact Ch.post_pred _ (by (repeat (first | exact Below.refl _ _ | refine Below.drew ?_ | refine below_drewN ?_ _ | (refine Below.alloc ?_ (by (try simp) <;> omega) _) | (refine Below.setCell ?_ (by (try simp) <;> omega) _) | (refine Below.trans ?_ (Below.mono (by assumption) (by (try simp) <;> omega)))))) ⟨wv.heap.size, rfl, by simp, by simp⟩
            simp only [Act.put, List.setIfInBounds_toArray, List.set_cons_zero, List.set_cons_succ]
            refine Ch.SeqG.chainStep GathN.next (Nat.le_refl _) (fun wv hbv hpv => ?_) (fun v3 => ?_)
            · obtain ⟨g9, rfl, hg9, hc9⟩ := hpv _ (.head _) (by kernel_rfl)
              obtain ⟨hG1, hn1⟩ := hpv _ (.tail _ (.head _)) (by kernel_rfl)
              clear hpv
              have hl1 := hlen.out
              refine wpList_append_own _ rfl _ _ 22 rfl wz.heap.size 3 i0 (.int .i64 0) 1 8 Tryd.underlying22 hi hz0 hz1 hz2 rfl (by decide) _ _ _ rfl hG1 ⟨g9, 0, none⟩ 1 1 [.int .i64 x] rfl rfl ?_ ?_ ?_ ?_ hbv.size ?_
              · intro j u hj
                rw [Go.WideShapes.add_plain]
                match j, hj with
                | 0, hj => rw [hc9]; simpa using hj
              · intro u hu; simp at hu; subst hu; rfl
              · rw [hl1]; unfold maxLen; omega
              · rw [hl1]; omega
              · intro v' w' hown hgrow hnil
                exact ⟨rfl, v', rfl, below_grown' (Below.refl _ _ |>.mono hbv.size) hgrow hG1 (Nat.le_refl _) hbv.size, Gath.snoc hown, fun e => hn1 (hnil.1 e).1⟩
            simp only [Act.put, List.setIfInBounds_toArray, List.set_cons_zero, List.set_cons_succ]
            refine Ch.SeqG.fixStep (.inl ⟨rfl, fun _ => rfl⟩) ?_
            simp only [Act.put, List.setIfInBounds_toArray, List.set_cons_zero, List.set_cons_succ]
            refine Ch.SeqG.fixStep (.inl ⟨rfl, fun _ => rfl⟩) ?_
            simp only [Act.put, List.setIfInBounds_toArray, List.set_cons_zero, List.set_cons_succ]
            refine Ch.SeqG.valStep (fun wv hbv hpv => ?_) ?_
            · skip
              go_wp2_with fail
              exact Ch.post_val (Below.refl _ _)
            simp only [Act.put, List.setIfInBounds_toArray, List.set_cons_zero, List.set_cons_succ]
            refine Ch.SeqG.done fun wv hbv hpv => ?_
            obtain ⟨hG3, hn3⟩ := hpv _ (.head _)
            clear hpv
            have zv := hbv.size
            have hl3 := hlen.out
            have hd3 := hdl.out
            refine NoPanL ?_
            refine wpList_append_own _ rfl _ _ 22 rfl wz.heap.size 3 i0 (.int .i64 0) 1 8 Tryd.underlying22 hi hz0 hz1 hz2 rfl (by decide) _ _ _ rfl hG3 ⟨g, 0, none⟩ (O.length - p) 0 ((O.drop p).map (Value.int .i64)) (by have e : O.length - p = 0 := (by omega); rw [e]; rfl) (by rw [List.length_map, hd3, Nat.mul_one]) (fun j u h => by rw [old_cell hbv (by exact hgl)]; exact HO2.out j u h) ints_one ?_ ?_ zv ?_
            · rw [List.length_append, hl3, List.length_singleton]; unfold maxLen; omega
            · rw [List.length_append, hl3, List.length_singleton]; omega
            intro v' w1 hown hgrow hnil
            have hb9 : Below (w.heap.size + 1) E w1 := below_grown' (qB2.trans (hbv.mono (by omega))) hgrow hG3 (by omega) (by omega)
            have hG9 : Gath f1 1 3 w1 (w.heap.size + 1) v' (O.take p ++ [x] ++ O.drop p) := by
              have h9 := own_mono (B' := w.heap.size + 1) hown (by omega)
              unfold Gath; rw [flat1, List.map_append, List.length_append, hd3]; rw [flat1] at h9; exact h9
            have hv9 : v' ≠ .slice none 0 0 := fun e => hn3 (hnil.1 e).1
            have HG9 := Lib.hid hG9
            have HV9 := Lib.hid hv9
            have hxl := Hxl.out
            clear hown hG9 hv9 hgrow hG3 hn3 hnil hbv qG
            go_wp2_with fail
            refine Ch.NoPan.normal ?_
            go_wp2
            go_roundg (L.length - (k + 1))
            case measure => omega
            case rel => exact ⟨k + 1, by omega, rfl, by go_num, by rw [HN.out]; exact HG9.out, HV9.out, hb9⟩
          · have hpc2 : (p : Int) < (c : Int) := by omega
            have hpc3 : p < c := by omega
            clear hpc
            have hpos : posF O x O.length = p := hp.out.trans (Hst.out)
            have HN := Lib.hid (show isrt L (k + 1) = O.take p ++ [x] ++ O.drop p by rw [isrt_succ Hx.out, HO.out, insAt, hpos])
            have hlen := Lib.hid (show (O.take p).length = p by rw [List.length_take]; omega)
            have hdl := Lib.hid (show (O.drop p).length = O.length - p by rw [List.length_drop])
            have hp0 : (0 : Int) ≤ (p : Int) := by omega
            have hpcc : (p : Int) ≤ (c : Int) := by omega
            have hpn : (p : Int) ≤ (O.length : Int) := by omega
            have QG := Lib.hid qG
            have QC := Lib.hid qC
            clear qG qC hp hpos
            go_wp2
            go_quiet (fail)
            go_wp2
            have qG : Gath f1 1 3 (wr.drewN nq) (w.heap.size + 1) (.slice (some ⟨g, 0, none⟩) O.length c) O := QG.out
            have qC := Lib.hid (show Cells f1 1 (wr.drewN nq) g 0 O from QC.out)
            have qB2 : Below (w.heap.size + 1) E (wr.drewN nq) := by first | exact qB | exact below_drewN qB _
            have hgl : g < (wr.drewN nq).heap.size := hgl0
            have hbl : b < (wr.drewN nq).heap.size := hBr
            have c0' : (wr.drewN nq).cell? ⟨b, off + k, none⟩ = some (.int .i64 x) := c0
            generalize hWW : (wr.drewN nq) = wz at *
            clear hWW
            have zz := qB2.size
            have HO1 := Lib.hid (show ∀ j u, ((O.take p).map (Value.int .i64))[j]? = some u → wz.cell? ((⟨g, 0, none⟩ : Addr).add j) = some u from take_news qC.out)
            have HO2 := Lib.hid (show ∀ j u, ((O.drop p).map (Value.int .i64))[j]? = some u → wz.cell? ((⟨g, p, none⟩ : Addr).add j) = some u from fun j u h => by have := drop_news (off := 0) (p := p) qC.out j u h; rw [Nat.zero_add] at this; exact this)
            clear qC
            refine Ch.wp_region_chain [.pred (Emp 3 wz.heap.size), .fix (.slice (some ⟨g, 0, none⟩) O.length c), .fix (.int .i64 p), .val (.slice (some ⟨g, 0, none⟩) p c), .pred (GathN 3 wz.heap.size (O.take p)), .fix (.slice (some ⟨b, off, none⟩) L.length cA), .fix (.int .i64 k), .val (.pointer (some ⟨b, off + k, none⟩)), .val (.int .i64 x), .pred (One x), .chain wz.heap.size (GathN 3 wz.heap.size (O.take p ++ [x])), .fix (.slice (some ⟨g, 0, none⟩) O.length c), .fix (.int .i64 p), .val (.slice (some ⟨g, p, none⟩) (O.length - p) (c - p))] mixed (by kernel_rfl) ?_
            refine Ch.SeqG.predStep Emp.next (fun wv hbv hpv => ?_) (fun v0 => ?_)
            · go_wp2_with fail
              exact Ch.post_pred _ (by (repeat (first | exact Below.refl _ _ | refine Below.drew ?_ | refine below_drewN ?_ _ | (refine Below.alloc ?_ (by (try simp) <;> omega) _) | (refine Below.setCell ?_ (by (try simp) <;> omega) _) | (refine Below.trans ?_ (Below.mono (by assumption) (by (try simp) <;> omega)))))) ⟨_, rfl, hbv.size, Gath.made hbv.size⟩
            simp only [Act.put, List.setIfInBounds_toArray, List.set_cons_zero, List.set_cons_succ]
            refine Ch.SeqG.fixStep (.inl ⟨rfl, fun _ => rfl⟩) ?_
            simp only [Act.put, List.setIfInBounds_toArray, List.set_cons_zero, List.set_cons_succ]
            refine Ch.SeqG.fixStep (.inl ⟨rfl, fun _ => rfl⟩) ?_
            simp only [Act.put, List.setIfInBounds_toArray, List.set_cons_zero, List.set_cons_succ]
            refine Ch.SeqG.valStep (fun wv hbv hpv => ?_) ?_
            · skip
              go_wp2_with fail
              exact Ch.post_val (Below.refl _ _)
            simp only [Act.put, List.setIfInBounds_toArray, List.set_cons_zero, List.set_cons_succ]
            refine Ch.SeqG.predStep GathN.next (fun wv hbv hpv => ?_) (fun v1 => ?_)
            · obtain ⟨g0, rfl, hg0, hE0⟩ := hpv _ (.head _) (by kernel_rfl)
              clear hpv
              refine wpList_append_arg _ rfl _ _ 22 rfl 3 i0 (.int .i64 0) 1 8 Tryd.underlying22 hi hz0 hz1 hz2 rfl (by decide) g0 0 0 0 [] rfl rfl (by intro j u h; simp at h) ⟨g, 0, none⟩ p c ((O.take p).map (Value.int .i64)) rfl (by rw [List.length_map, hlen.out, Nat.mul_one]) (fun j u h => by rw [old_cell hbv (by exact hgl)]; exact HO1.out j u h) ints_one ?_ ?_ ?_ ?_ ?_
              · intro h; intro j hj; rw [List.length_map, hlen.out] at hj; omega
              · unfold maxLen; omega
              · omega
              · intro h
                have e0 : O.take p = [] := by obtain rfl : p = 0 := (by omega); rfl
                have hp00 : p = 0 := by omega
                rw [e0]
                simp only [List.map_nil, World.setCells]
                exact ⟨rfl, _, by simp [hp00, Act.put], Below.refl _ _, hE0, by simp⟩
              · intro h v' w' hown hgrow
                refine ⟨rfl, v', rfl, below_grown hgrow (fun k h => by cases h), ?_, ?_⟩
                · have := own_mono hown hbv.size
                  unfold Gath; rw [flat1, hlen.out]; simpa using this
                · intro e; subst e; obtain ⟨_, ⟨_, h0⟩ | ⟨_, _, _, h0, _⟩⟩ := hown
                  · omega
                  · cases h0
            simp only [Act.put, List.setIfInBounds_toArray, List.set_cons_zero, List.set_cons_succ]
            refine Ch.SeqG.fixStep (.inl ⟨rfl, fun _ => rfl⟩) ?_
            simp only [Act.put, List.setIfInBounds_toArray, List.set_cons_zero, List.set_cons_succ]
            refine Ch.SeqG.fixStep (.inl ⟨rfl, fun _ => rfl⟩) ?_
            simp only [Act.put, List.setIfInBounds_toArray, List.set_cons_zero, List.set_cons_succ]
            refine Ch.SeqG.valStep (fun wv hbv hpv => ?_) ?_
            · skip
              go_wp2_with fail
              exact Ch.post_val (Below.refl _ _)
            simp only [Act.put, List.setIfInBounds_toArray, List.set_cons_zero, List.set_cons_succ]
            refine Ch.SeqG.valStep (fun wv hbv hpv => ?_) ?_
            · have e1 := ((bblk hbv (g := b) hbl).1 (off + k)).trans c0'
              go_wp2_with fail
              exact Ch.post_val (Below.refl _ _)
            simp only [Act.put, List.setIfInBounds_toArray, List.set_cons_zero, List.set_cons_succ]
            refine Ch.SeqG.predStep One.next (fun wv hbv hpv => ?_) (fun v2 => ?_)
            · go_wp2_with fail
              exact Ch.post_pred _ (by (repeat (first | exact Below.refl _ _ | refine Below.drew ?_ | refine below_drewN ?_ _ | (refine Below.alloc ?_ (by (try simp) <;> omega) _) | (refine Below.setCell ?_ (by (try simp) <;> omega) _) | (refine Below.trans ?_ (Below.mono (by assumption) (by (try simp) <;> omega)))))) ⟨wv.heap.size, rfl, by simp, by simp⟩
            simp only [Act.put, List.setIfInBounds_toArray, List.set_cons_zero, List.set_cons_succ]
            refine Ch.SeqG.chainStep GathN.next (Nat.le_refl _) (fun wv hbv hpv => ?_) (fun v3 => ?_)
            · obtain ⟨g9, rfl, hg9, hc9⟩ := hpv _ (.head _) (by kernel_rfl)
              obtain ⟨hG1, hn1⟩ := hpv _ (.tail _ (.head _)) (by kernel_rfl)
              clear hpv
              have hl1 := hlen.out
              refine wpList_append_own _ rfl _ _ 22 rfl wz.heap.size 3 i0 (.int .i64 0) 1 8 Tryd.underlying22 hi hz0 hz1 hz2 rfl (by decide) _ _ _ rfl hG1 ⟨g9, 0, none⟩ 1 1 [.int .i64 x] rfl rfl ?_ ?_ ?_ ?_ hbv.size ?_
              · intro j u hj
                rw [Go.WideShapes.add_plain]
                match j, hj with
                | 0, hj => rw [hc9]; simpa using hj
              · intro u hu; simp at hu; subst hu; rfl
              · rw [hl1]; unfold maxLen; omega
              · rw [hl1]; omega
              · intro v' w' hown hgrow hnil
                exact ⟨rfl, v', rfl, below_grown' (Below.refl _ _ |>.mono hbv.size) hgrow hG1 (Nat.le_refl _) hbv.size, Gath.snoc hown, fun e => hn1 (hnil.1 e).1⟩
            simp only [Act.put, List.setIfInBounds_toArray, List.set_cons_zero, List.set_cons_succ]
            refine Ch.SeqG.fixStep (.inl ⟨rfl, fun _ => rfl⟩) ?_
            simp only [Act.put, List.setIfInBounds_toArray, List.set_cons_zero, List.set_cons_succ]
            refine Ch.SeqG.fixStep (.inl ⟨rfl, fun _ => rfl⟩) ?_
            simp only [Act.put, List.setIfInBounds_toArray, List.set_cons_zero, List.set_cons_succ]
            refine Ch.SeqG.valStep (fun wv hbv hpv => ?_) ?_
            · skip
              go_wp2_with fail
              exact Ch.post_val (Below.refl _ _)
            simp only [Act.put, List.setIfInBounds_toArray, List.set_cons_zero, List.set_cons_succ]
            refine Ch.SeqG.done fun wv hbv hpv => ?_
            obtain ⟨hG3, hn3⟩ := hpv _ (.head _)
            clear hpv
            have zv := hbv.size
            have hl3 := hlen.out
            have hd3 := hdl.out
            refine NoPanL ?_
            refine wpList_append_own _ rfl _ _ 22 rfl wz.heap.size 3 i0 (.int .i64 0) 1 8 Tryd.underlying22 hi hz0 hz1 hz2 rfl (by decide) _ _ _ rfl hG3 ⟨g, p, none⟩ (O.length - p) (c - p) ((O.drop p).map (Value.int .i64)) rfl (by rw [List.length_map, hd3, Nat.mul_one]) (fun j u h => by rw [old_cell hbv (by exact hgl)]; exact HO2.out j u h) ints_one ?_ ?_ zv ?_
            · rw [List.length_append, hl3, List.length_singleton]; unfold maxLen; omega
            · rw [List.length_append, hl3, List.length_singleton]; omega
            intro v' w1 hown hgrow hnil
            have hb9 : Below (w.heap.size + 1) E w1 := below_grown' (qB2.trans (hbv.mono (by omega))) hgrow hG3 (by omega) (by omega)
            have hG9 : Gath f1 1 3 w1 (w.heap.size + 1) v' (O.take p ++ [x] ++ O.drop p) := by
              have h9 := own_mono (B' := w.heap.size + 1) hown (by omega)
              unfold Gath; rw [flat1, List.map_append, List.length_append, hd3]; rw [flat1] at h9; exact h9
            have hv9 : v' ≠ .slice none 0 0 := fun e => hn3 (hnil.1 e).1
            have HG9 := Lib.hid hG9
            have HV9 := Lib.hid hv9
            have hxl := Hxl.out
            clear hown hG9 hv9 hgrow hG3 hn3 hnil hbv qG
            go_wp2_with fail
            refine Ch.NoPan.normal ?_
            go_wp2
            go_roundg (L.length - (k + 1))
            case measure => omega
            case rel => exact ⟨k + 1, by omega, rfl, by go_num, by rw [HN.out]; exact HG9.out, HV9.out, hb9⟩
        · obtain ⟨q, hq⟩ : ∃ q, p = q + 1 := ⟨p - 1, by omega⟩
          have hql : q < O.length := by omega
          have hy : O[q]? = some O[q] := List.getElem?_eq_getElem hql
          have d0 := cells1 qC hy
          rw [Nat.zero_add] at d0
          have hg0 : decide (0 < p) = true := by simp; omega
          have hi1 : (p : Int) - 1 = (q : Int) := by omega
          have hi2 : (0 : Int) ≤ (q : Int) := by omega
          have hi3 : (q : Int) < (O.length : Int) := by omega
          have hiw : IntKind.i64.wrap (q : Int) = (q : Int) := IntWalk.i64_in _ (by omega)
          have Hq := Lib.hid hq
          generalize O[q] = y at *
          cases h4 : decide (y > x)
          case true =>
            have Hp : Hid (posF O x O.length = posF O x q) := hp.out.trans (by rw [Hq.out]; exact posF_down hy (of_decide_eq_true h4))
            have QG := Lib.hid qG
            have QC := Lib.hid qC
            have hqp : q < p := by omega
            have hqo : q ≤ O.length := by omega
            clear hy hp qG qC hq h0 hql
            go_wp2
            go_quiet (fail)
            go_wp2
            go_roundg q
            case measure => have := Hgk.out; omega
            case rel => exact ⟨q, hqo, rfl, by go_num, Hp, QG.out, QC.out, hgl0, by (repeat (first | exact Below.refl _ _ | refine Below.drew ?_ | refine below_drewN ?_ _ | (refine Below.alloc ?_ (by (try simp) <;> omega) _) | (refine Below.setCell ?_ (by (try simp) <;> omega) _) | (refine Below.trans ?_ (Below.mono (by assumption) (by (try simp) <;> omega)))))⟩
          case false =>
            have Hst := Lib.hid (show posF O x p = p by rw [Hq.out]; exact posF_stop hy (of_decide_eq_false h4))
            clear hy h0 hq hql
            by_cases hpc : p = c
            · subst hpc
              have hpos : posF O x O.length = p := hp.out.trans (Hst.out)
              have HN := Lib.hid (show isrt L (k + 1) = O.take p ++ [x] ++ O.drop p by rw [isrt_succ Hx.out, HO.out, insAt, hpos])
              have hlen := Lib.hid (show (O.take p).length = p by rw [List.length_take]; omega)
              have hdl := Lib.hid (show (O.drop p).length = O.length - p by rw [List.length_drop])
              have hp0 : (0 : Int) ≤ (p : Int) := by omega
              have hpcc : (p : Int) ≤ (p : Int) := by omega
              have hpn : (p : Int) ≤ (O.length : Int) := by omega
              have QG := Lib.hid qG
              have QC := Lib.hid qC
              clear qG qC hp hpos
              go_wp2
              go_quiet (fail)
              go_wp2
              have qG : Gath f1 1 3 (wr.drewN nq) (w.heap.size + 1) (.slice (some ⟨g, 0, none⟩) O.length p) O := QG.out
              have qC := Lib.hid (show Cells f1 1 (wr.drewN nq) g 0 O from QC.out)
              have qB2 : Below (w.heap.size + 1) E (wr.drewN nq) := by first | exact qB | exact below_drewN qB _
              have hgl : g < (wr.drewN nq).heap.size := hgl0
              have hbl : b < (wr.drewN nq).heap.size := hBr
              have c0' : (wr.drewN nq).cell? ⟨b, off + k, none⟩ = some (.int .i64 x) := c0
              generalize hWW : (wr.drewN nq) = wz at *
              clear hWW
              have zz := qB2.size
              have HO1 := Lib.hid (show ∀ j u, ((O.take p).map (Value.int .i64))[j]? = some u → wz.cell? ((⟨g, 0, none⟩ : Addr).add j) = some u from take_news qC.out)
              have HO2 := Lib.hid (show ∀ j u, ((O.drop p).map (Value.int .i64))[j]? = some u → wz.cell? ((⟨g, 0, none⟩ : Addr).add j) = some u from fun j u h => by rw [List.drop_of_length_le (by omega)] at h; simp at h)
              clear qC
              refine Ch.wp_region_chain [.pred (Emp 3 wz.heap.size), .fix (.slice (some ⟨g, 0, none⟩) O.length p), .fix (.int .i64 p), .val (.slice (some ⟨g, 0, none⟩) p p), .pred (GathN 3 wz.heap.size (O.take p)), .fix (.slice (some ⟨b, off, none⟩) L.length cA), .fix (.int .i64 k), .val (.pointer (some ⟨b, off + k, none⟩)), .val (.int .i64 x), .pred (One x), .chain wz.heap.size (GathN 3 wz.heap.size (O.take p ++ [x])), .fix (.slice (some ⟨g, 0, none⟩) O.length p), .fix (.int .i64 p), .val (.slice (some ⟨g, 0, none⟩) 0 0)] mixed (by kernel_rfl) ?_
              refine Ch.SeqG.predStep Emp.next (fun wv hbv hpv => ?_) (fun v0 => ?_)
              · go_wp2_with fail
                exact Ch.post_pred _ (by (repeat (first | exact Below.refl _ _ | refine Below.drew ?_ | refine below_drewN ?_ _ | (refine Below.alloc ?_ (by (try simp) <;> omega) _) | (refine Below.setCell ?_ (by (try simp) <;> omega) _) | (refine Below.trans ?_ (Below.mono (by assumption) (by (try simp) <;> omega)))))) ⟨_, rfl, hbv.size, Gath.made hbv.size⟩
              simp only [Act.put, List.setIfInBounds_toArray, List.set_cons_zero, List.set_cons_succ]
              refine Ch.SeqG.fixStep (.inl ⟨rfl, fun _ => rfl⟩) ?_
              simp only [Act.put, List.setIfInBounds_toArray, List.set_cons_zero, List.set_cons_succ]
              refine Ch.SeqG.fixStep (.inl ⟨rfl, fun _ => rfl⟩) ?_
              simp only [Act.put, List.setIfInBounds_toArray, List.set_cons_zero, List.set_cons_succ]
              refine Ch.SeqG.valStep (fun wv hbv hpv => ?_) ?_
              · skip
                go_wp2_with fail
                exact Ch.post_val (Below.refl _ _)
              simp only [Act.put, List.setIfInBounds_toArray, List.set_cons_zero, List.set_cons_succ]
              refine Ch.SeqG.predStep GathN.next (fun wv hbv hpv => ?_) (fun v1 => ?_)
              · obtain ⟨g0, rfl, hg0, hE0⟩ := hpv _ (.head _) (by kernel_rfl)
                clear hpv
                refine wpList_append_arg _ rfl _ _ 22 rfl 3 i0 (.int .i64 0) 1 8 Tryd.underlying22 hi hz0 hz1 hz2 rfl (by decide) g0 0 0 0 [] rfl rfl (by intro j u h; simp at h) ⟨g, 0, none⟩ p p ((O.take p).map (Value.int .i64)) rfl (by rw [List.length_map, hlen.out, Nat.mul_one]) (fun j u h => by rw [old_cell hbv (by exact hgl)]; exact HO1.out j u h) ints_one ?_ ?_ ?_ ?_ ?_
                · intro h; intro j hj; rw [List.length_map, hlen.out] at hj; omega
                · unfold maxLen; omega
                · omega
                · intro h
                  have e0 : O.take p = [] := by obtain rfl : p = 0 := (by omega); rfl
                  have hp00 : p = 0 := by omega
                  rw [e0]
                  simp only [List.map_nil, World.setCells]
                  exact ⟨rfl, _, by simp [hp00, Act.put], Below.refl _ _, hE0, by simp⟩
                · intro h v' w' hown hgrow
                  refine ⟨rfl, v', rfl, below_grown hgrow (fun k h => by cases h), ?_, ?_⟩
                  · have := own_mono hown hbv.size
                    unfold Gath; rw [flat1, hlen.out]; simpa using this
                  · intro e; subst e; obtain ⟨_, ⟨_, h0⟩ | ⟨_, _, _, h0, _⟩⟩ := hown
                    · omega
                    · cases h0
              simp only [Act.put, List.setIfInBounds_toArray, List.set_cons_zero, List.set_cons_succ]
              refine Ch.SeqG.fixStep (.inl ⟨rfl, fun _ => rfl⟩) ?_
              simp only [Act.put, List.setIfInBounds_toArray, List.set_cons_zero, List.set_cons_succ]
              refine Ch.SeqG.fixStep (.inl ⟨rfl, fun _ => rfl⟩) ?_
              simp only [Act.put, List.setIfInBounds_toArray, List.set_cons_zero, List.set_cons_succ]
              refine Ch.SeqG.valStep (fun wv hbv hpv => ?_) ?_
              · skip
                go_wp2_with fail
                exact Ch.post_val (Below.refl _ _)
              simp only [Act.put, List.setIfInBounds_toArray, List.set_cons_zero, List.set_cons_succ]
              refine Ch.SeqG.valStep (fun wv hbv hpv => ?_) ?_
              · have e1 := ((bblk hbv (g := b) hbl).1 (off + k)).trans c0'
                go_wp2_with fail
                exact Ch.post_val (Below.refl _ _)
              simp only [Act.put, List.setIfInBounds_toArray, List.set_cons_zero, List.set_cons_succ]
              refine Ch.SeqG.predStep One.next (fun wv hbv hpv => ?_) (fun v2 => ?_)
              · go_wp2_with fail
                exact Ch.post_pred _ (by (repeat (first | exact Below.refl _ _ | refine Below.drew ?_ | refine below_drewN ?_ _ | (refine Below.alloc ?_ (by (try simp) <;> omega) _) | (refine Below.setCell ?_ (by (try simp) <;> omega) _) | (refine Below.trans ?_ (Below.mono (by assumption) (by (try simp) <;> omega)))))) ⟨wv.heap.size, rfl, by simp, by simp⟩
              simp only [Act.put, List.setIfInBounds_toArray, List.set_cons_zero, List.set_cons_succ]
              refine Ch.SeqG.chainStep GathN.next (Nat.le_refl _) (fun wv hbv hpv => ?_) (fun v3 => ?_)
              · obtain ⟨g9, rfl, hg9, hc9⟩ := hpv _ (.head _) (by kernel_rfl)
                obtain ⟨hG1, hn1⟩ := hpv _ (.tail _ (.head _)) (by kernel_rfl)
                clear hpv
                have hl1 := hlen.out
                refine wpList_append_own _ rfl _ _ 22 rfl wz.heap.size 3 i0 (.int .i64 0) 1 8 Tryd.underlying22 hi hz0 hz1 hz2 rfl (by decide) _ _ _ rfl hG1 ⟨g9, 0, none⟩ 1 1 [.int .i64 x] rfl rfl ?_ ?_ ?_ ?_ hbv.size ?_
                · intro j u hj
                  rw [Go.WideShapes.add_plain]
                  match j, hj with
                  | 0, hj => rw [hc9]; simpa using hj
                · intro u hu; simp at hu; subst hu; rfl
                · rw [hl1]; unfold maxLen; omega
                · rw [hl1]; omega
                · intro v' w' hown hgrow hnil
                  exact ⟨rfl, v', rfl, below_grown' (Below.refl _ _ |>.mono hbv.size) hgrow hG1 (Nat.le_refl _) hbv.size, Gath.snoc hown, fun e => hn1 (hnil.1 e).1⟩
              simp only [Act.put, List.setIfInBounds_toArray, List.set_cons_zero, List.set_cons_succ]
              refine Ch.SeqG.fixStep (.inl ⟨rfl, fun _ => rfl⟩) ?_
              simp only [Act.put, List.setIfInBounds_toArray, List.set_cons_zero, List.set_cons_succ]
              refine Ch.SeqG.fixStep (.inl ⟨rfl, fun _ => rfl⟩) ?_
              simp only [Act.put, List.setIfInBounds_toArray, List.set_cons_zero, List.set_cons_succ]
              refine Ch.SeqG.valStep (fun wv hbv hpv => ?_) ?_
              · skip
                go_wp2_with fail
                exact Ch.post_val (Below.refl _ _)
              simp only [Act.put, List.setIfInBounds_toArray, List.set_cons_zero, List.set_cons_succ]
              refine Ch.SeqG.done fun wv hbv hpv => ?_
              obtain ⟨hG3, hn3⟩ := hpv _ (.head _)
              clear hpv
              have zv := hbv.size
              have hl3 := hlen.out
              have hd3 := hdl.out
              refine NoPanL ?_
              refine wpList_append_own _ rfl _ _ 22 rfl wz.heap.size 3 i0 (.int .i64 0) 1 8 Tryd.underlying22 hi hz0 hz1 hz2 rfl (by decide) _ _ _ rfl hG3 ⟨g, 0, none⟩ (O.length - p) 0 ((O.drop p).map (Value.int .i64)) (by have e : O.length - p = 0 := (by omega); rw [e]; rfl) (by rw [List.length_map, hd3, Nat.mul_one]) (fun j u h => by rw [old_cell hbv (by exact hgl)]; exact HO2.out j u h) ints_one ?_ ?_ zv ?_
              · rw [List.length_append, hl3, List.length_singleton]; unfold maxLen; omega
              · rw [List.length_append, hl3, List.length_singleton]; omega
              intro v' w1 hown hgrow hnil
              have hb9 : Below (w.heap.size + 1) E w1 := below_grown' (qB2.trans (hbv.mono (by omega))) hgrow hG3 (by omega) (by omega)
              have hG9 : Gath f1 1 3 w1 (w.heap.size + 1) v' (O.take p ++ [x] ++ O.drop p) := by
                have h9 := own_mono (B' := w.heap.size + 1) hown (by omega)
                unfold Gath; rw [flat1, List.map_append, List.length_append, hd3]; rw [flat1] at h9; exact h9
              have hv9 : v' ≠ .slice none 0 0 := fun e => hn3 (hnil.1 e).1
              have HG9 := Lib.hid hG9
              have HV9 := Lib.hid hv9
              have hxl := Hxl.out
              clear hown hG9 hv9 hgrow hG3 hn3 hnil hbv qG
              go_wp2_with fail
              refine Ch.NoPan.normal ?_
              go_wp2
              go_roundg (L.length - (k + 1))
              case measure => omega
              case rel => exact ⟨k + 1, by omega, rfl, by go_num, by rw [HN.out]; exact HG9.out, HV9.out, hb9⟩
            · have hpc2 : (p : Int) < (c : Int) := by omega
              have hpc3 : p < c := by omega
              clear hpc
              have hpos : posF O x O.length = p := hp.out.trans (Hst.out)
              have HN := Lib.hid (show isrt L (k + 1) = O.take p ++ [x] ++ O.drop p by rw [isrt_succ Hx.out, HO.out, insAt, hpos])
              have hlen := Lib.hid (show (O.take p).length = p by rw [List.length_take]; omega)
              have hdl := Lib.hid (show (O.drop p).length = O.length - p by rw [List.length_drop])
              have hp0 : (0 : Int) ≤ (p : Int) := by omega
              have hpcc : (p : Int) ≤ (c : Int) := by omega
              have hpn : (p : Int) ≤ (O.length : Int) := by omega
              have QG := Lib.hid qG
              have QC := Lib.hid qC
              clear qG qC hp hpos
              go_wp2
              go_quiet (fail)
              go_wp2
              have qG : Gath f1 1 3 (wr.drewN nq) (w.heap.size + 1) (.slice (some ⟨g, 0, none⟩) O.length c) O := QG.out
              have qC := Lib.hid (show Cells f1 1 (wr.drewN nq) g 0 O from QC.out)
              have qB2 : Below (w.heap.size + 1) E (wr.drewN nq) := by first | exact qB | exact below_drewN qB _
              have hgl : g < (wr.drewN nq).heap.size := hgl0
              have hbl : b < (wr.drewN nq).heap.size := hBr
              have c0' : (wr.drewN nq).cell? ⟨b, off + k, none⟩ = some (.int .i64 x) := c0
              generalize hWW : (wr.drewN nq) = wz at *
              clear hWW
              have zz := qB2.size
              have HO1 := Lib.hid (show ∀ j u, ((O.take p).map (Value.int .i64))[j]? = some u → wz.cell? ((⟨g, 0, none⟩ : Addr).add j) = some u from take_news qC.out)
              have HO2 := Lib.hid (show ∀ j u, ((O.drop p).map (Value.int .i64))[j]? = some u → wz.cell? ((⟨g, p, none⟩ : Addr).add j) = some u from fun j u h => by have := drop_news (off := 0) (p := p) qC.out j u h; rw [Nat.zero_add] at this; exact this)
              clear qC
              refine Ch.wp_region_chain [.pred (Emp 3 wz.heap.size), .fix (.slice (some ⟨g, 0, none⟩) O.length c), .fix (.int .i64 p), .val (.slice (some ⟨g, 0, none⟩) p c), .pred (GathN 3 wz.heap.size (O.take p)), .fix (.slice (some ⟨b, off, none⟩) L.length cA), .fix (.int .i64 k), .val (.pointer (some ⟨b, off + k, none⟩)), .val (.int .i64 x), .pred (One x), .chain wz.heap.size (GathN 3 wz.heap.size (O.take p ++ [x])), .fix (.slice (some ⟨g, 0, none⟩) O.length c), .fix (.int .i64 p), .val (.slice (some ⟨g, p, none⟩) (O.length - p) (c - p))] mixed (by kernel_rfl) ?_
              refine Ch.SeqG.predStep Emp.next (fun wv hbv hpv => ?_) (fun v0 => ?_)
              · go_wp2_with fail
                exact Ch.post_pred _ (by (repeat (first | exact Below.refl _ _ | refine Below.drew ?_ | refine below_drewN ?_ _ | (refine Below.alloc ?_ (by (try simp) <;> omega) _) | (refine Below.setCell ?_ (by (try simp) <;> omega) _) | (refine Below.trans ?_ (Below.mono (by assumption) (by (try simp) <;> omega)))))) ⟨_, rfl, hbv.size, Gath.made hbv.size⟩
              simp only [Act.put, List.setIfInBounds_toArray, List.set_cons_zero, List.set_cons_succ]
              refine Ch.SeqG.fixStep (.inl ⟨rfl, fun _ => rfl⟩) ?_
              simp only [Act.put, List.setIfInBounds_toArray, List.set_cons_zero, List.set_cons_succ]
              refine Ch.SeqG.fixStep (.inl ⟨rfl, fun _ => rfl⟩) ?_
              simp only [Act.put, List.setIfInBounds_toArray, List.set_cons_zero, List.set_cons_succ]
              refine Ch.SeqG.valStep (fun wv hbv hpv => ?_) ?_
              · skip
                go_wp2_with fail
                exact Ch.post_val (Below.refl _ _)
              simp only [Act.put, List.setIfInBounds_toArray, List.set_cons_zero, List.set_cons_succ]
              refine Ch.SeqG.predStep GathN.next (fun wv hbv hpv => ?_) (fun v1 => ?_)
              · obtain ⟨g0, rfl, hg0, hE0⟩ := hpv _ (.head _) (by kernel_rfl)
                clear hpv
                refine wpList_append_arg _ rfl _ _ 22 rfl 3 i0 (.int .i64 0) 1 8 Tryd.underlying22 hi hz0 hz1 hz2 rfl (by decide) g0 0 0 0 [] rfl rfl (by intro j u h; simp at h) ⟨g, 0, none⟩ p c ((O.take p).map (Value.int .i64)) rfl (by rw [List.length_map, hlen.out, Nat.mul_one]) (fun j u h => by rw [old_cell hbv (by exact hgl)]; exact HO1.out j u h) ints_one ?_ ?_ ?_ ?_ ?_
                · intro h; intro j hj; rw [List.length_map, hlen.out] at hj; omega
                · unfold maxLen; omega
                · omega
                · intro h
                  have e0 : O.take p = [] := by obtain rfl : p = 0 := (by omega); rfl
                  have hp00 : p = 0 := by omega
                  rw [e0]
                  simp only [List.map_nil, World.setCells]
                  exact ⟨rfl, _, by simp [hp00, Act.put], Below.refl _ _, hE0, by simp⟩
                · intro h v' w' hown hgrow
                  refine ⟨rfl, v', rfl, below_grown hgrow (fun k h => by cases h), ?_, ?_⟩
                  · have := own_mono hown hbv.size
                    unfold Gath; rw [flat1, hlen.out]; simpa using this
                  · intro e; subst e; obtain ⟨_, ⟨_, h0⟩ | ⟨_, _, _, h0, _⟩⟩ := hown
                    · omega
                    · cases h0
              simp only [Act.put, List.setIfInBounds_toArray, List.set_cons_zero, List.set_cons_succ]
              refine Ch.SeqG.fixStep (.inl ⟨rfl, fun _ => rfl⟩) ?_
              simp only [Act.put, List.setIfInBounds_toArray, List.set_cons_zero, List.set_cons_succ]
              refine Ch.SeqG.fixStep (.inl ⟨rfl, fun _ => rfl⟩) ?_
              simp only [Act.put, List.setIfInBounds_toArray, List.set_cons_zero, List.set_cons_succ]
              refine Ch.SeqG.valStep (fun wv hbv hpv => ?_) ?_
              · skip
                go_wp2_with fail
                exact Ch.post_val (Below.refl _ _)
              simp only [Act.put, List.setIfInBounds_toArray, List.set_cons_zero, List.set_cons_succ]
              refine Ch.SeqG.valStep (fun wv hbv hpv => ?_) ?_
              · have e1 := ((bblk hbv (g := b) hbl).1 (off + k)).trans c0'
                go_wp2_with fail
                exact Ch.post_val (Below.refl _ _)
              simp only [Act.put, List.setIfInBounds_toArray, List.set_cons_zero, List.set_cons_succ]
              refine Ch.SeqG.predStep One.next (fun wv hbv hpv => ?_) (fun v2 => ?_)
              · go_wp2_with fail
                exact Ch.post_pred _ (by (repeat (first | exact Below.refl _ _ | refine Below.drew ?_ | refine below_drewN ?_ _ | (refine Below.alloc ?_ (by (try simp) <;> omega) _) | (refine Below.setCell ?_ (by (try simp) <;> omega) _) | (refine Below.trans ?_ (Below.mono (by assumption) (by (try simp) <;> omega)))))) ⟨wv.heap.size, rfl, by simp, by simp⟩
              simp only [Act.put, List.setIfInBounds_toArray, List.set_cons_zero, List.set_cons_succ]
              refine Ch.SeqG.chainStep GathN.next (Nat.le_refl _) (fun wv hbv hpv => ?_) (fun v3 => ?_)
              · obtain ⟨g9, rfl, hg9, hc9⟩ := hpv _ (.head _) (by kernel_rfl)
                obtain ⟨hG1, hn1⟩ := hpv _ (.tail _ (.head _)) (by kernel_rfl)
                clear hpv
                have hl1 := hlen.out
                refine wpList_append_own _ rfl _ _ 22 rfl wz.heap.size 3 i0 (.int .i64 0) 1 8 Tryd.underlying22 hi hz0 hz1 hz2 rfl (by decide) _ _ _ rfl hG1 ⟨g9, 0, none⟩ 1 1 [.int .i64 x] rfl rfl ?_ ?_ ?_ ?_ hbv.size ?_
                · intro j u hj
                  rw [Go.WideShapes.add_plain]
                  match j, hj with
                  | 0, hj => rw [hc9]; simpa using hj
                · intro u hu; simp at hu; subst hu; rfl
                · rw [hl1]; unfold maxLen; omega
                · rw [hl1]; omega
                · intro v' w' hown hgrow hnil
                  exact ⟨rfl, v', rfl, below_grown' (Below.refl _ _ |>.mono hbv.size) hgrow hG1 (Nat.le_refl _) hbv.size, Gath.snoc hown, fun e => hn1 (hnil.1 e).1⟩
              simp only [Act.put, List.setIfInBounds_toArray, List.set_cons_zero, List.set_cons_succ]
              refine Ch.SeqG.fixStep (.inl ⟨rfl, fun _ => rfl⟩) ?_
              simp only [Act.put, List.setIfInBounds_toArray, List.set_cons_zero, List.set_cons_succ]
              refine Ch.SeqG.fixStep (.inl ⟨rfl, fun _ => rfl⟩) ?_
              simp only [Act.put, List.setIfInBounds_toArray, List.set_cons_zero, List.set_cons_succ]
              refine Ch.SeqG.valStep (fun wv hbv hpv => ?_) ?_
              · skip
                go_wp2_with fail
                exact Ch.post_val (Below.refl _ _)
              simp only [Act.put, List.setIfInBounds_toArray, List.set_cons_zero, List.set_cons_succ]
              refine Ch.SeqG.done fun wv hbv hpv => ?_
              obtain ⟨hG3, hn3⟩ := hpv _ (.head _)
              clear hpv
              have zv := hbv.size
              have hl3 := hlen.out
              have hd3 := hdl.out
              refine NoPanL ?_
              refine wpList_append_own _ rfl _ _ 22 rfl wz.heap.size 3 i0 (.int .i64 0) 1 8 Tryd.underlying22 hi hz0 hz1 hz2 rfl (by decide) _ _ _ rfl hG3 ⟨g, p, none⟩ (O.length - p) (c - p) ((O.drop p).map (Value.int .i64)) rfl (by rw [List.length_map, hd3, Nat.mul_one]) (fun j u h => by rw [old_cell hbv (by exact hgl)]; exact HO2.out j u h) ints_one ?_ ?_ zv ?_
              · rw [List.length_append, hl3, List.length_singleton]; unfold maxLen; omega
              · rw [List.length_append, hl3, List.length_singleton]; omega
              intro v' w1 hown hgrow hnil
              have hb9 : Below (w.heap.size + 1) E w1 := below_grown' (qB2.trans (hbv.mono (by omega))) hgrow hG3 (by omega) (by omega)
              have hG9 : Gath f1 1 3 w1 (w.heap.size + 1) v' (O.take p ++ [x] ++ O.drop p) := by
                have h9 := own_mono (B' := w.heap.size + 1) hown (by omega)
                unfold Gath; rw [flat1, List.map_append, List.length_append, hd3]; rw [flat1] at h9; exact h9
              have hv9 : v' ≠ .slice none 0 0 := fun e => hn3 (hnil.1 e).1
              have HG9 := Lib.hid hG9
              have HV9 := Lib.hid hv9
              have hxl := Hxl.out
              clear hown hG9 hv9 hgrow hG3 hn3 hnil hbv qG
              go_wp2_with fail
              refine Ch.NoPan.normal ?_
              go_wp2
              go_roundg (L.length - (k + 1))
              case measure => omega
              case rel => exact ⟨k + 1, by omega, rfl, by go_num, by rw [HN.out]; exact HG9.out, HV9.out, hb9⟩
    · obtain rfl : k = L.length := by omega
      have hO : isrt L L.length = sortL L := isrt_eq L
      rw [hO] at hG
      obtain ⟨g, c, rfl, hg, hcc, hcm, hR, hC⟩ := hG.form hv
      have kB := k0.out.below hb (by omega)
      have b0 := kB.cell 0
      simp at b0
      have fb := kB.frozen
      have lB : w.heap.size < wr.heap.size := by omega
      have HO := Lib.hid (show Gath f1 1 3 (wr.setCell ⟨w.heap.size, 0, none⟩ (.slice (some ⟨g, 0, none⟩) (sortL L).length c)) w.heap.size (.slice (some ⟨g, 0, none⟩) (sortL L).length c) (sortL L) from own_mono (gath_far hG (Nat.le_refl _) (p := ⟨w.heap.size, 0, none⟩) (show w.heap.size < w.heap.size + 1 by omega) _) (by omega))
      have HB := Lib.hid (show Below w.heap.size w (wr.setCell ⟨w.heap.size, 0, none⟩ (.slice (some ⟨g, 0, none⟩) (sortL L).length c)) from (HbE.out.trans (hb.mono (by omega))).setCell (p := ⟨w.heap.size, 0, none⟩) (Nat.le_refl _) _)
      clear hG hv hR hC hO kB hb
      go_wp2
      refine bodyPost_ret (v := .agg #[.slice (some ⟨g, 0, none⟩) (sortL L).length c]) (by simp [results, Tryd.results56, go_sem, *] <;> rfl) rfl ?_
      exact ⟨_, _, rfl, HO.out, HB.out⟩
theorem l14Sorted_any (A : Option Addr) (cA : Nat) (L : List Int) (w : World) (hr : SlR f1 1 w w.heap.size A L) (hm : (L.length : Int) ≤ 1048576) :
    Calls Tryd.prog 56 #[.slice A L.length cA] w fun e w' => ∃ A' c', e = .returned (.agg #[.slice A' (sortL L).length c']) ∧ OwnR f1 1 3 w' w.heap.size A' (sortL L) ∧ Below w.heap.size w w' := by
  refine (l14SortedG_any A cA L w hr hm).mono ?_; rintro e w' ⟨A', c', he, hG, hb⟩
  obtain ⟨A2, c2, e2, ho⟩ := Gath.own (f := f1) (m := 1) (fun _ => rfl) hG
  cases e2
  exact ⟨_, _, he, ho, hb⟩
end Go.Proofs.YtapfnelghmnajaaDoor
