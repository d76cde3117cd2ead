/-
  AddTrip: the reference.
-/
import Derived.Test.YtfcmfadkkfkidaaAdd1
import Derived.Test.YtfcmfadkkfkidaaChn
import Derived.Test.YtfcmfadkkfkidaaFree
import Derived.Test.YtfcmfadkkfkidaaRegion
import Derived.Deep.DeepCutAuto
import Derived.ArgAppend
import Derived.WalkKit
import Derived.WalkSpells
import Derived.WalkLawsBesides
import Derived.Lib.Hide
import Derived.Deep.QuietTactic
import Derived.BigQuiet
import Derived.StillTailTactics
namespace Go.Proofs.Ytfcmfadkkfkidaa
open Go.RowKit

theorem NoPanL {P : Program} {ops : Array Oper} {Q : Exit → Act → World → Prop} {l : List Oper} {a : Act} {w : World} (h : wpList P ops Q l a w) : wpList P ops Q l a w := h
theorem cells_drop {α : Type} {f : α → List Value} {m : Nat} {w : World} {b off : Nat} {L : List α} (h : Cells f m w b off L) (k : Nat) : Cells f m w b (off + k * m) (L.drop k) := fun i x hx j u hu => by
  rw [List.getElem?_drop] at hx
  have := h (k + i) x hx j u hu
  rwa [show off + (k + i) * m + j = off + k * m + i * m + j by rw [Nat.add_mul]; omega] at this
/-- A slice of the call's own, from block B on. -/
def GathT (B : Nat) (L : List T5) (v : Value) (w : World) : Prop := Gath f5 5 25 w B v L
theorem GathT.next {B : Nat} {L : List T5} : ∀ (v : Value) (w w' : World), Below w.heap.size w w' → GathT B L v w → GathT B L v w' := fun v w w' hb h => Gath.below h hb
/-- An empty slice literal. -/
def EmpT (B : Nat) (v : Value) (w : World) : Prop := ∃ g, v = .slice (some ⟨g, 0, none⟩) 0 0 ∧ B ≤ g ∧ Gath f5 5 25 w B v []
theorem EmpT.next {B : Nat} : ∀ (v : Value) (w w' : World), Below w.heap.size w w' → EmpT B v w → EmpT B v w' := fun _ _ _ hb ⟨g, h1, h2, h3⟩ => ⟨g, h1, h2, h3.below hb⟩
theorem own_mono {w : World} {B B' m n : Nat} {e : TypeId} {v : Value} {xs : List Value} (h : w.ownsRow B e m v n xs) (hB : B' ≤ B) : w.ownsRow B' e m v n xs := by
  obtain ⟨h0, h1 | ⟨g, cap, cur, hv, hb, r⟩⟩ := h
  · exact ⟨h0, .inl h1⟩
  · exact ⟨h0, .inr ⟨g, cap, cur, hv, Nat.le_trans hB hb, r⟩⟩
/-- What the two parts of a list read. -/
def Parts (W : World) (L : List T5) (k : Nat) (a1 a2 : Addr) : Prop := ∀ wv, Below W.heap.size W wv → (∀ j u, ((L.take k).flatMap f5)[j]? = some u → wv.cell? (a1.add j) = some u) ∧ (∀ j u, ((L.drop k).flatMap f5)[j]? = some u → wv.cell? (a2.add j) = some u)
theorem parts_nil {W : World} {L : List T5} {k : Nat} {a1 a2 : Addr} (h : L = []) : Parts W L k a1 a2 := fun _ _ => by subst h; exact ⟨fun j u h => by simp at h, fun j u h => by simp at h⟩
theorem parts_mid {W : World} {L : List T5} {k b off : Nat} (h : Cells f5 5 W b off L) (hb : b < W.heap.size) : Parts W L k ⟨b, off, none⟩ ⟨b, off + k * 5, none⟩ := fun _ hw =>
  ⟨cells_flat (f := f5) (m := 5) (fun _ => rfl) (by omega) ((h.below hw hb).take k), cells_flat (f := f5) (m := 5) (fun _ => rfl) (by omega) (cells_drop (h.below hw hb) k)⟩
theorem parts_end {W : World} {L : List T5} {k b off : Nat} {a2 : Addr} (h : Cells f5 5 W b off L) (hb : b < W.heap.size) (hk : k = L.length) : Parts W L k ⟨b, off, none⟩ a2 := fun _ hw =>
  ⟨cells_flat (f := f5) (m := 5) (fun _ => rfl) (by omega) ((h.below hw hb).take k), fun j u h => by rw [List.drop_of_length_le (by omega)] at h; simp at h⟩

set_option maxRecDepth 20000 in
set_option maxHeartbeats 16000000 in
theorem SAddTrip_any (A : Option Addr) (c : Nat) (L : List T5) (t : T5) (w : World) (hr : SlR f5 5 w w.heap.size A L) (hm : (L.length : Int) ≤ 1048576) (hI : ∀ x ∈ L, InI5 x) (hti : InI5 t) (hc : L.length ≤ c ∧ ∃ x, A = some x) :
    Calls Try.prog 46 #[.slice A L.length c, tripV t.1 t.2.1 t.2.2.1 t.2.2.2.1 t.2.2.2.2] w (NewSl2 f5 5 25 w (addL L t) (addU L t)) := by
  obtain ⟨hcl0, a0, rfl⟩ := hc
  have kt0 := Blk.new w 25 #[.int .i64 t.1, .int .i64 t.2.1, .int .i64 t.2.2.1, .int .i64 t.2.2.2.1, .int .i64 t.2.2.2.2]
  have hb0 : Below w.heap.size w (w.alloc (.cells #[.int .i64 t.1, .int .i64 t.2.1, .int .i64 t.2.2.1, .int .i64 t.2.2.2.1, .int .i64 t.2.2.2.2] 25)) := by (repeat (first | exact Below.refl _ _ | refine Below.drew ?_ | refine below_drewN ?_ _ | (refine Below.alloc ?_ (by (try simp) <;> omega) _) | (refine Below.setCell ?_ (by (try simp) <;> omega) _) | (refine Below.trans ?_ (Below.mono (by assumption) (by (try simp) <;> omega)))))
  have hr0 := hr.alloc (.cells #[.int .i64 t.1, .int .i64 t.2.1, .int .i64 t.2.2.1, .int .i64 t.2.2.2.1, .int .i64 t.2.2.2.2] 25)
  have HI := Lib.hid hI; clear hI
  have hm0 : (0 : Int) ≤ L.length := by omega
  go_enter Try.func46, Try.ntmps46
  go_upto_region 1 with fail
  generalize w.alloc (.cells #[.int .i64 t.1, .int .i64 t.2.1, .int .i64 t.2.2.1, .int .i64 t.2.2.2.1, .int .i64 t.2.2.2.2] 25) = W at *
  generalize hp : w.heap.size = p at *
  have Hp := Lib.hid hp
  have zp : p ≤ W.heap.size := Nat.le_of_lt kt0.lt
  clear hr hp
  have ktW := kt0
  have hrW := hr0
  clear kt0 hr0
  go_wp2
  go_loopw [6] (fun i wr => ∃ k : Nat, i = .int .i64 k ∧ k ≤ L.length ∧ Hid (ldK L t.1 = k + ldK (L.drop k) t.1) ∧ Below W.heap.size W wr) (fun i _ => (L.length - intOf i).toNat)
  case atStart => exact ⟨0, rfl, by omega, by show _ = _; rw [List.drop_zero, Nat.zero_add], Below.refl _ _⟩
  case round =>
    obtain ⟨k, rfl, hk, hs, hb⟩ := hrel
    have zr := hb.size
    have kr := ktW.below' hb
    have hk0 : (0 : Int) ≤ (k : Int) := by omega
    by_cases hlt : k < L.length
    · have hx : L[k]? = some L[k] := List.getElem?_eq_getElem hlt
      obtain ⟨b, off, hA, hB, hcs⟩ := hrW (SlR.ne hx)
      cases hA
      generalize L[k] = x at *
      have hC := hcs.below hb hB
      have hBr : b < wr.heap.size := by omega
      have hk1 : (k : Int) < (L.length : Int) := by omega
      have c0 := (cells5 hC hx).1
      have ct := kr.cell
      cases hd : decide (x.1 < t.1)
      · have HK := Lib.hid (ldK_stop hx hs.out (of_decide_eq_false hd))
        have HC := Lib.hid hC
        clear hs hx hcs hC
        go_wp2
        go_quiet (fail)
        clear hd c0 ct
        have qB : Below W.heap.size W (wr.drewN nq) := by first | exact hb | exact below_drewN hb _
        have HC2 := Lib.hid (show Cells f5 5 (wr.drewN nq) b off L from HC.out)
        have hBz : b < (wr.drewN nq).heap.size := hBr
        clear hb zr kr HC hBr
        generalize hWW : (wr.drewN nq) = wz at *
        clear hWW
        have HP := Lib.hid (parts_mid (k := k) HC2.out hBz)
        clear HC2
        have hck : k < c := by omega
        have hck2 : ¬ (c = k) := by omega
        have hck3 : (k : Int) ≤ (c : Int) := by omega
        have kz := ktW.below' qB
        have zz := qB.size
        have hkk : k ≤ L.length := by omega
        have hln := Lib.hid (show ((L.take k).flatMap f5).length = k * 5 by rw [flat_len (f := f5) (m := 5) (fun _ => rfl), List.length_take]; first | done | rfl | (congr 1; omega) | (congr 1; have := HKL.out; omega) | simp | omega)
        have hld := Lib.hid (flat_dlen (f := f5) (m := 5) (L := L) (i := k) (fun _ => rfl))
        have htl := Lib.hid (show (L.take k).length = k by rw [List.length_take]; omega)
        obtain ⟨i0, hi, hz0, hz1, hz2⟩ := info_parts infoTrip
        have HII := Lib.hid hi; have HZ0 := Lib.hid hz0; have HZ1 := Lib.hid hz1; have HZ2 := Lib.hid hz2
        clear hi hz0 hz1 hz2
        go_wp2
        refine Ch.wp_region_chain [.pred (EmpT wz.heap.size), .fix (.slice (some ⟨b, off, none⟩) L.length c), .fix (.int .i64 k), .val (.slice (some ⟨b, off, none⟩) k c), .pred (GathT wz.heap.size (L.take k)), .val (.agg #[.int .i64 t.1, .int .i64 t.2.1, .int .i64 t.2.2.1, .int .i64 t.2.2.2.1, .int .i64 t.2.2.2.2]), .pred (LitT wz.heap.size t), .chain wz.heap.size (GathT wz.heap.size (L.take k ++ [t])), .fix (.slice (some ⟨b, off, none⟩) L.length c), .fix (.int .i64 k), .val (.slice (some ⟨b, off + k * 5, none⟩) (L.length - k) (c - k))] mixed (by kernel_rfl) ?_
        refine Ch.SeqG.predStep EmpT.next (fun wv hbv hpv => ?_) (fun v0 => ?_)
        · clear hpv
          go_wp2_with fail
          exact Ch.post_pred (F := EmpT wz.heap.size) _ (by (repeat (first | exact Below.refl _ _ | refine Below.drew ?_ | refine below_drewN ?_ _ | (refine Below.alloc ?_ (by (try simp) <;> omega) _) | (refine Below.setCell ?_ (by (try simp) <;> omega) _) | (refine Below.trans ?_ (Below.mono (by assumption) (by (try simp) <;> omega)))))) ⟨_, rfl, hbv.size, Gath.made hbv.size⟩
        simp only [Act.put, List.setIfInBounds_toArray, List.set_cons_zero, List.set_cons_succ]
        refine Ch.SeqG.fixStep (.inl ⟨rfl, fun _ => rfl⟩) ?_
        simp only [Act.put, List.setIfInBounds_toArray, List.set_cons_zero, List.set_cons_succ]
        refine Ch.SeqG.fixStep (.inl ⟨rfl, fun _ => rfl⟩) ?_
        simp only [Act.put, List.setIfInBounds_toArray, List.set_cons_zero, List.set_cons_succ]
        refine Ch.SeqG.valStep (fun wv hbv hpv => ?_) ?_
        · clear hpv
          go_wp2_with fail
          exact Ch.post_val (Below.refl _ _)
        simp only [Act.put, List.setIfInBounds_toArray, List.set_cons_zero, List.set_cons_succ]
        refine Ch.SeqG.predStep GathT.next (fun wv hbv hpv => ?_) (fun v1 => ?_)
        · obtain ⟨g0, rfl, hg0, hE0⟩ := hpv _ (.head _) (by kernel_rfl)
          clear hpv
          refine wpList_append_arg _ rfl _ _ 33 rfl 25 i0 (.agg #[.int .i64 0, .int .i64 0, .int .i64 0, .int .i64 0, .int .i64 0]) 5 40 Try.underlying33 HII.out HZ0.out HZ1.out HZ2.out rfl (by decide) g0 0 0 0 [] rfl rfl (by intro j u h; simp at h) ⟨b, off, none⟩ k c ((L.take k).flatMap f5) rfl (by rw [hln.out]) (HP.out wv hbv).1 (flat_one f_one5) ?_ ?_ ?_ ?_ ?_
          · intro h; intro j hj; rw [hln.out] at hj; omega
          · unfold maxLen; omega
          · omega
          · intro h
            have hk0' : k = 0 := by omega
            have e0 : L.take k = [] := by rw [hk0']; rfl
            rw [e0]
            simp only [List.flatMap_nil, World.setCells]
            exact ⟨rfl, _, by simp [hk0', Act.put], Below.refl _ _, hE0⟩
          · intro h v' w' hown hgrow
            refine ⟨rfl, v', rfl, below_grown hgrow (fun k h => by cases h), ?_⟩
            have := own_mono hown hbv.size
            unfold GathT Gath; rw [htl.out]; simpa using this
        simp only [Act.put, List.setIfInBounds_toArray, List.set_cons_zero, List.set_cons_succ]
        refine Ch.SeqG.valStep (fun wv hbv hpv => ?_) ?_
        · clear hpv
          have ct := (kz.below' hbv).cell
          go_wp2_with fail
          exact Ch.post_val (Below.refl _ _)
        simp only [Act.put, List.setIfInBounds_toArray, List.set_cons_zero, List.set_cons_succ]
        refine Ch.SeqG.predStep LitT.next (fun wv hbv hpv => ?_) (fun v2 => ?_)
        · clear hpv
          go_wp2_with fail
          exact Ch.post_pred (F := LitT wz.heap.size t) _ (by (repeat (first | exact Below.refl _ _ | refine Below.drew ?_ | refine below_drewN ?_ _ | (refine Below.alloc ?_ (by (try simp) <;> omega) _) | (refine Below.setCell ?_ (by (try simp) <;> omega) _) | (refine Below.trans ?_ (Below.mono (by assumption) (by (try simp) <;> omega)))))) ⟨wv.heap.size, rfl, hbv.size, Blk.new _ _ _⟩
        simp only [Act.put, List.setIfInBounds_toArray, List.set_cons_zero, List.set_cons_succ]
        refine Ch.SeqG.chainStep GathT.next (Nat.le_refl _) (fun wv hbv hpv => ?_) (fun v3 => ?_)
        · obtain ⟨g9, rfl, hg9, hc9⟩ := hpv _ (.head _) (by kernel_rfl)
          have hG1 : Gath f5 5 25 wv wz.heap.size v1 (L.take k) := hpv _ (.tail _ (.head _)) (by kernel_rfl)
          clear hpv
          have hl1 := htl.out
          refine wpList_append_own _ rfl _ _ 33 rfl wz.heap.size 25 i0 (.agg #[.int .i64 0, .int .i64 0, .int .i64 0, .int .i64 0, .int .i64 0]) 5 40 Try.underlying33 HII.out HZ0.out HZ1.out HZ2.out rfl (by decide) _ _ _ rfl hG1 ⟨g9, 0, none⟩ 1 1 (f5 t) rfl rfl (trip_src hc9) (f_one5 t) ?_ ?_ hbv.size ?_
          · rw [hl1]; unfold maxLen; omega
          · rw [hl1]; omega
          · intro v' w' hown hgrow hnil
            exact ⟨rfl, v', rfl, below_grown' (Below.refl _ _ |>.mono hbv.size) hgrow hG1 (Nat.le_refl _) hbv.size, Gath.snoc hown⟩
        simp only [Act.put, List.setIfInBounds_toArray, List.set_cons_zero, List.set_cons_succ]
        refine Ch.SeqG.fixStep (.inl ⟨rfl, fun _ => rfl⟩) ?_
        simp only [Act.put, List.setIfInBounds_toArray, List.set_cons_zero, List.set_cons_succ]
        refine Ch.SeqG.fixStep (.inl ⟨rfl, fun _ => rfl⟩) ?_
        simp only [Act.put, List.setIfInBounds_toArray, List.set_cons_zero, List.set_cons_succ]
        refine Ch.SeqG.valStep (fun wv hbv hpv => ?_) ?_
        · clear hpv
          go_wp2_with fail
          exact Ch.post_val (Below.refl _ _)
        simp only [Act.put, List.setIfInBounds_toArray, List.set_cons_zero, List.set_cons_succ]
        refine Ch.SeqG.done fun wv hbv hpv => ?_
        have hG3 : Gath f5 5 25 wv wz.heap.size v3 (L.take k ++ [t]) := hpv _ (.head _)
        clear hpv
        have zv := hbv.size
        have hl3 := htl.out
        have hd3 := hld.out
        refine NoPanL ?_
        refine wpList_append_own _ rfl _ _ 33 rfl wz.heap.size 25 i0 (.agg #[.int .i64 0, .int .i64 0, .int .i64 0, .int .i64 0, .int .i64 0]) 5 40 Try.underlying33 HII.out HZ0.out HZ1.out HZ2.out rfl (by decide) _ _ _ rfl hG3 ⟨b, off + k * 5, none⟩ (L.length - k) (c - k) ((L.drop k).flatMap f5) rfl (by rw [hd3]; first | done | rfl | (congr 1; omega) | (congr 1; have := HKL.out; omega) | simp | omega) (HP.out wv (hbv.mono (Nat.le_refl _))).2 (flat_one f_one5) ?_ ?_ zv ?_
        · rw [List.length_append, hl3, List.length_singleton]; unfold maxLen; omega
        · rw [List.length_append, hl3, List.length_singleton]; omega
        intro v' w1 hown hgrow hnil
        have hb9 : Below W.heap.size W w1 := below_grown' (qB.trans (hbv.mono zz)) hgrow hG3 zz (by omega)
        have hG9 : Gath f5 5 25 w1 p v' (insL L k t) := by
          have h9 := own_mono (B' := p) hown (by omega)
          unfold Gath insL
          rw [List.length_append, List.flatMap_append, List.length_drop]
          exact h9
        obtain ⟨A6, c6, rfl, o6⟩ := Gath.own (f := f5) (m := 5) (fun _ => rfl) hG9
        have O6 := Lib.hid o6
        have HLn := Lib.hid (insL_len (x := t) hkk)
        have HI6 : Hid (∀ y ∈ insL L k t, InI5 y) := fun y hy => by
          rcases insL_mem hy with h | h
          · exact HI.out y h
          · rw [h]; exact hti
        have ct := (ktW.below' hb9).cell
        have hR0 : (0 : Int) ≤ ((insL L k t).length : Int) := by omega
        have HE := Lib.hid (show addI L t = insL L k t by unfold addI; rw [HK.out])
        have hr1 := hrW.next hb9
        clear hown hG9 o6 hgrow hG3 hnil hbv kz HP
        go_wp2_with fail
        refine Ch.NoPan.normal ?_
        go_wp2_with fail
        refine (l11Good_any _ _ L _ (by exact hr1) hm HI.out).mono ?_; rintro e w7 ⟨rfl, hb7⟩
        have hb07 := hb9.trans (hb7.mono hb9.size)
        cases h1 : tripsB L
        · have Hv := Lib.hid (ad_n1 (t := t) h1)
          clear h1 ct
          go_wp2
          go_ret2
          exact ⟨some ⟨_, 0, none⟩, 0, by rw [Hv.out.1, Hv.out.2]; rfl, by rw [Hv.out.1]; exact OwnR.nil, by rw [Hp.out]; exact (hb0.trans (hb07.mono zp)).alloc (by have := (hb07).size; omega) _⟩
        have H1 := Lib.hid h1
        clear h1
        have C7 := Lib.hid (l11Good_any A6 c6 (insL L k t) w7 (O6.out.next hb7).sl (by rw [HLn.out]; have := tripsB_len H1.out; omega) HI6.out)
        have hr2 := hr1.next hb7
        have O7 := Lib.hid (O6.out.next hb7)
        generalize insL L k t = O at *
        clear O6 hr1 hb7 hb9
        go_wp2_with fail
        refine C7.out.mono ?_; rintro e w8 ⟨rfl, hb8⟩
        have hb08 := hb07.trans (hb8.mono hb07.size)
        cases h4 : tripsB O
        · have Hv := Lib.hid (ad_n4 (by rw [HE.out]; exact h4))
          clear h4 ct
          go_wp2
          go_ret2
          exact ⟨some ⟨_, 0, none⟩, 0, by rw [Hv.out.1, Hv.out.2]; rfl, by rw [Hv.out.1]; exact OwnR.nil, by rw [Hp.out]; exact (hb0.trans (hb08.mono zp)).alloc (by have := (hb08).size; omega) _⟩
        have H4 := Lib.hid (show tripsB (addI L t) = true by rw [HE.out]; exact h4)
        clear h4
        have htr := okT_tr (addI_ok H4.out)
        have ct8 := (ktW.below' hb08).cell
        have hr3 := hr2.next hb8
        have O8 := Lib.hid (O7.out.next hb8)
        clear ct O7 hr2 hb07 hb8 C7
        go_wp2_with fail
        refine (l11Free_any _ _ L t _ (by exact hr3) hm (trOk_all H1.out) htr).mono ?_; rintro e w9 ⟨rfl, hb9⟩
        have hb09 := hb08.trans (hb9.mono hb08.size)
        have O9 := Lib.hid (O8.out.next hb9)
        clear ct8 hb08 hb9 hr3 O8
        cases h3 : metB L t
        · have Hv := Lib.hid (show addL L t = O ∧ addU L t = true by rw [← HE.out]; exact ad_y H1.out (addI_ok H4.out) h3 H4.out)
          clear h3
          go_wp2
          go_ret2
          exact ⟨A6, c6, by rw [Hv.out.1, Hv.out.2]; rfl, by rw [Hv.out.1, Hp.out]; exact O9.out, by rw [Hp.out]; exact hb0.trans (hb09.mono zp)⟩
        · have Hv := Lib.hid (ad_n3 (L := L) (t := t) h3)
          clear h3
          go_wp2
          go_ret2
          exact ⟨some ⟨_, 0, none⟩, 0, by rw [Hv.out.1, Hv.out.2]; rfl, by rw [Hv.out.1]; exact OwnR.nil, by rw [Hp.out]; exact (hb0.trans (hb09.mono zp)).alloc (by have := (hb09).size; omega) _⟩
      · have HS := Lib.hid (ldK_go hx hs.out (of_decide_eq_true hd))
        clear hs hx hcs hC
        go_wp2
        go_quiet (fail)
        go_wp2
        go_roundw
        case rel => exact ⟨k + 1, by go_num, by omega, HS, by first | exact hb | exact below_drewN hb _⟩
        case measure => simp only [intOf]; omega
    · have hkl : k = L.length := by omega
      have hg0 : decide (k < L.length) = false := decide_eq_false (by omega)
      have HK := Lib.hid (show ldK L t.1 = k by have h := hs.out; rw [hkl] at h ⊢; exact ldK_end h)
      have HKL := Lib.hid hkl
      have hk1 : ¬ (k : Int) < (L.length : Int) := by omega
      clear hs hlt hkl
      go_wp2
      go_quiet (fail)
      clear hg0
      have qB : Below W.heap.size W (wr.drewN nq) := by first | exact hb | exact below_drewN hb _
      clear hb zr kr
      generalize hWW : (wr.drewN nq) = wz at *
      clear hWW
      by_cases hL : L = []
      · skip
        have HP := Lib.hid (parts_nil (W := wz) (k := k) (a1 := a0) (a2 := a0) hL)
        have hLl : L.length = 0 := by rw [hL]; rfl
        obtain rfl : k = 0 := by omega
        have HLl := Lib.hid hLl
        have hL1 : (L.length : Int) ≤ 0 := by omega
        clear hL hLl HKL hk1
        have kz := ktW.below' qB
        have zz := qB.size
        have hkk : 0 ≤ L.length := by omega
        have hln := Lib.hid (show ((L.take 0).flatMap f5).length = 0 * 5 by rw [flat_len (f := f5) (m := 5) (fun _ => rfl), List.length_take]; first | done | rfl | (congr 1; omega) | (congr 1; have := HKL.out; omega) | simp | omega)
        have hld := Lib.hid (flat_dlen (f := f5) (m := 5) (L := L) (i := 0) (fun _ => rfl))
        have htl := Lib.hid (show (L.take 0).length = 0 by rw [List.length_take]; omega)
        obtain ⟨i0, hi, hz0, hz1, hz2⟩ := info_parts infoTrip
        have HII := Lib.hid hi; have HZ0 := Lib.hid hz0; have HZ1 := Lib.hid hz1; have HZ2 := Lib.hid hz2
        clear hi hz0 hz1 hz2
        go_wp2
        refine Ch.wp_region_chain [.pred (EmpT wz.heap.size), .fix (.slice (some a0) L.length c), .fix (.int .i64 0), .val (.slice (some a0) 0 c), .pred (GathT wz.heap.size (L.take 0)), .val (.agg #[.int .i64 t.1, .int .i64 t.2.1, .int .i64 t.2.2.1, .int .i64 t.2.2.2.1, .int .i64 t.2.2.2.2]), .pred (LitT wz.heap.size t), .chain wz.heap.size (GathT wz.heap.size (L.take 0 ++ [t])), .fix (.slice (some a0) L.length c), .fix (.int .i64 0), .val (.slice (some a0) L.length c)] mixed (by kernel_rfl) ?_
        refine Ch.SeqG.predStep EmpT.next (fun wv hbv hpv => ?_) (fun v0 => ?_)
        · clear hpv
          go_wp2_with fail
          exact Ch.post_pred (F := EmpT wz.heap.size) _ (by (repeat (first | exact Below.refl _ _ | refine Below.drew ?_ | refine below_drewN ?_ _ | (refine Below.alloc ?_ (by (try simp) <;> omega) _) | (refine Below.setCell ?_ (by (try simp) <;> omega) _) | (refine Below.trans ?_ (Below.mono (by assumption) (by (try simp) <;> omega)))))) ⟨_, rfl, hbv.size, Gath.made hbv.size⟩
        simp only [Act.put, List.setIfInBounds_toArray, List.set_cons_zero, List.set_cons_succ]
        refine Ch.SeqG.fixStep (.inl ⟨rfl, fun _ => rfl⟩) ?_
        simp only [Act.put, List.setIfInBounds_toArray, List.set_cons_zero, List.set_cons_succ]
        refine Ch.SeqG.fixStep (.inl ⟨rfl, fun _ => rfl⟩) ?_
        simp only [Act.put, List.setIfInBounds_toArray, List.set_cons_zero, List.set_cons_succ]
        refine Ch.SeqG.valStep (fun wv hbv hpv => ?_) ?_
        · clear hpv
          go_wp2_with fail
          exact Ch.post_val (Below.refl _ _)
        simp only [Act.put, List.setIfInBounds_toArray, List.set_cons_zero, List.set_cons_succ]
        refine Ch.SeqG.predStep GathT.next (fun wv hbv hpv => ?_) (fun v1 => ?_)
        · obtain ⟨g0, rfl, hg0, hE0⟩ := hpv _ (.head _) (by kernel_rfl)
          clear hpv
          refine wpList_append_arg _ rfl _ _ 33 rfl 25 i0 (.agg #[.int .i64 0, .int .i64 0, .int .i64 0, .int .i64 0, .int .i64 0]) 5 40 Try.underlying33 HII.out HZ0.out HZ1.out HZ2.out rfl (by decide) g0 0 0 0 [] rfl rfl (by intro j u h; simp at h) a0 0 c ((L.take 0).flatMap f5) rfl (by rw [hln.out]) (HP.out wv hbv).1 (flat_one f_one5) ?_ ?_ ?_ ?_ ?_
          · intro h; intro j hj; rw [hln.out] at hj; omega
          · unfold maxLen; omega
          · omega
          · intro h
            have hk0' : 0 = 0 := by omega
            have e0 : L.take 0 = [] := by rw [hk0']; rfl
            rw [e0]
            simp only [List.flatMap_nil, World.setCells]
            exact ⟨rfl, _, by simp [hk0', Act.put], Below.refl _ _, hE0⟩
          · intro h v' w' hown hgrow
            refine ⟨rfl, v', rfl, below_grown hgrow (fun k h => by cases h), ?_⟩
            have := own_mono hown hbv.size
            unfold GathT Gath; rw [htl.out]; simpa using this
        simp only [Act.put, List.setIfInBounds_toArray, List.set_cons_zero, List.set_cons_succ]
        refine Ch.SeqG.valStep (fun wv hbv hpv => ?_) ?_
        · clear hpv
          have ct := (kz.below' hbv).cell
          go_wp2_with fail
          exact Ch.post_val (Below.refl _ _)
        simp only [Act.put, List.setIfInBounds_toArray, List.set_cons_zero, List.set_cons_succ]
        refine Ch.SeqG.predStep LitT.next (fun wv hbv hpv => ?_) (fun v2 => ?_)
        · clear hpv
          go_wp2_with fail
          exact Ch.post_pred (F := LitT wz.heap.size t) _ (by (repeat (first | exact Below.refl _ _ | refine Below.drew ?_ | refine below_drewN ?_ _ | (refine Below.alloc ?_ (by (try simp) <;> omega) _) | (refine Below.setCell ?_ (by (try simp) <;> omega) _) | (refine Below.trans ?_ (Below.mono (by assumption) (by (try simp) <;> omega)))))) ⟨wv.heap.size, rfl, hbv.size, Blk.new _ _ _⟩
        simp only [Act.put, List.setIfInBounds_toArray, List.set_cons_zero, List.set_cons_succ]
        refine Ch.SeqG.chainStep GathT.next (Nat.le_refl _) (fun wv hbv hpv => ?_) (fun v3 => ?_)
        · obtain ⟨g9, rfl, hg9, hc9⟩ := hpv _ (.head _) (by kernel_rfl)
          have hG1 : Gath f5 5 25 wv wz.heap.size v1 (L.take 0) := hpv _ (.tail _ (.head _)) (by kernel_rfl)
          clear hpv
          have hl1 := htl.out
          refine wpList_append_own _ rfl _ _ 33 rfl wz.heap.size 25 i0 (.agg #[.int .i64 0, .int .i64 0, .int .i64 0, .int .i64 0, .int .i64 0]) 5 40 Try.underlying33 HII.out HZ0.out HZ1.out HZ2.out rfl (by decide) _ _ _ rfl hG1 ⟨g9, 0, none⟩ 1 1 (f5 t) rfl rfl (trip_src hc9) (f_one5 t) ?_ ?_ hbv.size ?_
          · rw [hl1]; unfold maxLen; omega
          · rw [hl1]; omega
          · intro v' w' hown hgrow hnil
            exact ⟨rfl, v', rfl, below_grown' (Below.refl _ _ |>.mono hbv.size) hgrow hG1 (Nat.le_refl _) hbv.size, Gath.snoc hown⟩
        simp only [Act.put, List.setIfInBounds_toArray, List.set_cons_zero, List.set_cons_succ]
        refine Ch.SeqG.fixStep (.inl ⟨rfl, fun _ => rfl⟩) ?_
        simp only [Act.put, List.setIfInBounds_toArray, List.set_cons_zero, List.set_cons_succ]
        refine Ch.SeqG.fixStep (.inl ⟨rfl, fun _ => rfl⟩) ?_
        simp only [Act.put, List.setIfInBounds_toArray, List.set_cons_zero, List.set_cons_succ]
        refine Ch.SeqG.valStep (fun wv hbv hpv => ?_) ?_
        · clear hpv
          go_wp2_with fail
          exact Ch.post_val (Below.refl _ _)
        simp only [Act.put, List.setIfInBounds_toArray, List.set_cons_zero, List.set_cons_succ]
        refine Ch.SeqG.done fun wv hbv hpv => ?_
        have hG3 : Gath f5 5 25 wv wz.heap.size v3 (L.take 0 ++ [t]) := hpv _ (.head _)
        clear hpv
        have zv := hbv.size
        have hl3 := htl.out
        have hd3 := hld.out
        refine NoPanL ?_
        refine wpList_append_own _ rfl _ _ 33 rfl wz.heap.size 25 i0 (.agg #[.int .i64 0, .int .i64 0, .int .i64 0, .int .i64 0, .int .i64 0]) 5 40 Try.underlying33 HII.out HZ0.out HZ1.out HZ2.out rfl (by decide) _ _ _ rfl hG3 a0 L.length c ((L.drop 0).flatMap f5) rfl (by rw [hd3]; first | done | rfl | (congr 1; omega) | (congr 1; have := HKL.out; omega) | simp | omega) (HP.out wv (hbv.mono (Nat.le_refl _))).2 (flat_one f_one5) ?_ ?_ zv ?_
        · rw [List.length_append, hl3, List.length_singleton]; unfold maxLen; omega
        · rw [List.length_append, hl3, List.length_singleton]; omega
        intro v' w1 hown hgrow hnil
        have hb9 : Below W.heap.size W w1 := below_grown' (qB.trans (hbv.mono zz)) hgrow hG3 zz (by omega)
        have hG9 : Gath f5 5 25 w1 p v' (insL L 0 t) := by
          have h9 := own_mono (B' := p) hown (by omega)
          unfold Gath insL
          rw [List.length_append, List.flatMap_append, List.length_drop]
          rw [show L.length - 0 = L.length by first | omega | (have := HKL.out; omega)]; exact h9
        obtain ⟨A6, c6, rfl, o6⟩ := Gath.own (f := f5) (m := 5) (fun _ => rfl) hG9
        have O6 := Lib.hid o6
        have HLn := Lib.hid (insL_len (x := t) hkk)
        have HI6 : Hid (∀ y ∈ insL L 0 t, InI5 y) := fun y hy => by
          rcases insL_mem hy with h | h
          · exact HI.out y h
          · rw [h]; exact hti
        have ct := (ktW.below' hb9).cell
        have hR0 : (0 : Int) ≤ ((insL L 0 t).length : Int) := by omega
        have HE := Lib.hid (show addI L t = insL L 0 t by unfold addI; rw [HK.out])
        have hr1 := hrW.next hb9
        clear hown hG9 o6 hgrow hG3 hnil hbv kz HP
        go_wp2_with fail
        refine Ch.NoPan.normal ?_
        go_wp2_with fail
        refine (l11Good_any _ _ L _ (by exact hr1) hm HI.out).mono ?_; rintro e w7 ⟨rfl, hb7⟩
        have hb07 := hb9.trans (hb7.mono hb9.size)
        cases h1 : tripsB L
        · have Hv := Lib.hid (ad_n1 (t := t) h1)
          clear h1 ct
          go_wp2
          go_ret2
          exact ⟨some ⟨_, 0, none⟩, 0, by rw [Hv.out.1, Hv.out.2]; rfl, by rw [Hv.out.1]; exact OwnR.nil, by rw [Hp.out]; exact (hb0.trans (hb07.mono zp)).alloc (by have := (hb07).size; omega) _⟩
        have H1 := Lib.hid h1
        clear h1
        have C7 := Lib.hid (l11Good_any A6 c6 (insL L 0 t) w7 (O6.out.next hb7).sl (by rw [HLn.out]; have := tripsB_len H1.out; omega) HI6.out)
        have hr2 := hr1.next hb7
        have O7 := Lib.hid (O6.out.next hb7)
        generalize insL L 0 t = O at *
        clear O6 hr1 hb7 hb9
        go_wp2_with fail
        refine C7.out.mono ?_; rintro e w8 ⟨rfl, hb8⟩
        have hb08 := hb07.trans (hb8.mono hb07.size)
        cases h4 : tripsB O
        · have Hv := Lib.hid (ad_n4 (by rw [HE.out]; exact h4))
          clear h4 ct
          go_wp2
          go_ret2
          exact ⟨some ⟨_, 0, none⟩, 0, by rw [Hv.out.1, Hv.out.2]; rfl, by rw [Hv.out.1]; exact OwnR.nil, by rw [Hp.out]; exact (hb0.trans (hb08.mono zp)).alloc (by have := (hb08).size; omega) _⟩
        have H4 := Lib.hid (show tripsB (addI L t) = true by rw [HE.out]; exact h4)
        clear h4
        have htr := okT_tr (addI_ok H4.out)
        have ct8 := (ktW.below' hb08).cell
        have hr3 := hr2.next hb8
        have O8 := Lib.hid (O7.out.next hb8)
        clear ct O7 hr2 hb07 hb8 C7
        go_wp2_with fail
        refine (l11Free_any _ _ L t _ (by exact hr3) hm (trOk_all H1.out) htr).mono ?_; rintro e w9 ⟨rfl, hb9⟩
        have hb09 := hb08.trans (hb9.mono hb08.size)
        have O9 := Lib.hid (O8.out.next hb9)
        clear ct8 hb08 hb9 hr3 O8
        cases h3 : metB L t
        · have Hv := Lib.hid (show addL L t = O ∧ addU L t = true by rw [← HE.out]; exact ad_y H1.out (addI_ok H4.out) h3 H4.out)
          clear h3
          go_wp2
          go_ret2
          exact ⟨A6, c6, by rw [Hv.out.1, Hv.out.2]; rfl, by rw [Hv.out.1, Hp.out]; exact O9.out, by rw [Hp.out]; exact hb0.trans (hb09.mono zp)⟩
        · have Hv := Lib.hid (ad_n3 (L := L) (t := t) h3)
          clear h3
          go_wp2
          go_ret2
          exact ⟨some ⟨_, 0, none⟩, 0, by rw [Hv.out.1, Hv.out.2]; rfl, by rw [Hv.out.1]; exact OwnR.nil, by rw [Hp.out]; exact (hb0.trans (hb09.mono zp)).alloc (by have := (hb09).size; omega) _⟩
      · by_cases hcl : c = L.length
        · skip
          obtain ⟨b, off, hA, hB, hcs⟩ := hrW hL
          cases hA
          have hBz : b < wz.heap.size := by have := qB.size; omega
          have HC2 := Lib.hid (hcs.below qB hB)
          have HP := Lib.hid (parts_end (a2 := ⟨b, off, none⟩) HC2.out hBz HKL.out)
          clear HC2 hcs hB hL
          have hkc : k = c := by have := HKL.out; omega
          clear hcl
          subst hkc
          have kz := ktW.below' qB
          have zz := qB.size
          have hkk : k ≤ L.length := by omega
          have hln := Lib.hid (show ((L.take k).flatMap f5).length = k * 5 by rw [flat_len (f := f5) (m := 5) (fun _ => rfl), List.length_take]; first | done | rfl | (congr 1; omega) | (congr 1; have := HKL.out; omega) | simp | omega)
          have hld := Lib.hid (flat_dlen (f := f5) (m := 5) (L := L) (i := k) (fun _ => rfl))
          have htl := Lib.hid (show (L.take k).length = k by rw [List.length_take]; omega)
          obtain ⟨i0, hi, hz0, hz1, hz2⟩ := info_parts infoTrip
          have HII := Lib.hid hi; have HZ0 := Lib.hid hz0; have HZ1 := Lib.hid hz1; have HZ2 := Lib.hid hz2
          clear hi hz0 hz1 hz2
          go_wp2
          refine Ch.wp_region_chain [.pred (EmpT wz.heap.size), .fix (.slice (some ⟨b, off, none⟩) L.length k), .fix (.int .i64 k), .val (.slice (some ⟨b, off, none⟩) k k), .pred (GathT wz.heap.size (L.take k)), .val (.agg #[.int .i64 t.1, .int .i64 t.2.1, .int .i64 t.2.2.1, .int .i64 t.2.2.2.1, .int .i64 t.2.2.2.2]), .pred (LitT wz.heap.size t), .chain wz.heap.size (GathT wz.heap.size (L.take k ++ [t])), .fix (.slice (some ⟨b, off, none⟩) L.length k), .fix (.int .i64 k), .val (.slice (some ⟨b, off, none⟩) 0 0)] mixed (by kernel_rfl) ?_
          refine Ch.SeqG.predStep EmpT.next (fun wv hbv hpv => ?_) (fun v0 => ?_)
          · clear hpv
            go_wp2_with fail
            exact Ch.post_pred (F := EmpT wz.heap.size) _ (by (repeat (first | exact Below.refl _ _ | refine Below.drew ?_ | refine below_drewN ?_ _ | (refine Below.alloc ?_ (by (try simp) <;> omega) _) | (refine Below.setCell ?_ (by (try simp) <;> omega) _) | (refine Below.trans ?_ (Below.mono (by assumption) (by (try simp) <;> omega)))))) ⟨_, rfl, hbv.size, Gath.made hbv.size⟩
          simp only [Act.put, List.setIfInBounds_toArray, List.set_cons_zero, List.set_cons_succ]
          refine Ch.SeqG.fixStep (.inl ⟨rfl, fun _ => rfl⟩) ?_
          simp only [Act.put, List.setIfInBounds_toArray, List.set_cons_zero, List.set_cons_succ]
          refine Ch.SeqG.fixStep (.inl ⟨rfl, fun _ => rfl⟩) ?_
          simp only [Act.put, List.setIfInBounds_toArray, List.set_cons_zero, List.set_cons_succ]
          refine Ch.SeqG.valStep (fun wv hbv hpv => ?_) ?_
          · clear hpv
            go_wp2_with fail
            exact Ch.post_val (Below.refl _ _)
          simp only [Act.put, List.setIfInBounds_toArray, List.set_cons_zero, List.set_cons_succ]
          refine Ch.SeqG.predStep GathT.next (fun wv hbv hpv => ?_) (fun v1 => ?_)
          · obtain ⟨g0, rfl, hg0, hE0⟩ := hpv _ (.head _) (by kernel_rfl)
            clear hpv
            refine wpList_append_arg _ rfl _ _ 33 rfl 25 i0 (.agg #[.int .i64 0, .int .i64 0, .int .i64 0, .int .i64 0, .int .i64 0]) 5 40 Try.underlying33 HII.out HZ0.out HZ1.out HZ2.out rfl (by decide) g0 0 0 0 [] rfl rfl (by intro j u h; simp at h) ⟨b, off, none⟩ k k ((L.take k).flatMap f5) rfl (by rw [hln.out]) (HP.out wv hbv).1 (flat_one f_one5) ?_ ?_ ?_ ?_ ?_
            · intro h; intro j hj; rw [hln.out] at hj; omega
            · unfold maxLen; omega
            · omega
            · intro h
              have hk0' : k = 0 := by omega
              have e0 : L.take k = [] := by rw [hk0']; rfl
              rw [e0]
              simp only [List.flatMap_nil, World.setCells]
              exact ⟨rfl, _, by simp [hk0', Act.put], Below.refl _ _, hE0⟩
            · intro h v' w' hown hgrow
              refine ⟨rfl, v', rfl, below_grown hgrow (fun k h => by cases h), ?_⟩
              have := own_mono hown hbv.size
              unfold GathT Gath; rw [htl.out]; simpa using this
          simp only [Act.put, List.setIfInBounds_toArray, List.set_cons_zero, List.set_cons_succ]
          refine Ch.SeqG.valStep (fun wv hbv hpv => ?_) ?_
          · clear hpv
            have ct := (kz.below' hbv).cell
            go_wp2_with fail
            exact Ch.post_val (Below.refl _ _)
          simp only [Act.put, List.setIfInBounds_toArray, List.set_cons_zero, List.set_cons_succ]
          refine Ch.SeqG.predStep LitT.next (fun wv hbv hpv => ?_) (fun v2 => ?_)
          · clear hpv
            go_wp2_with fail
            exact Ch.post_pred (F := LitT wz.heap.size t) _ (by (repeat (first | exact Below.refl _ _ | refine Below.drew ?_ | refine below_drewN ?_ _ | (refine Below.alloc ?_ (by (try simp) <;> omega) _) | (refine Below.setCell ?_ (by (try simp) <;> omega) _) | (refine Below.trans ?_ (Below.mono (by assumption) (by (try simp) <;> omega)))))) ⟨wv.heap.size, rfl, hbv.size, Blk.new _ _ _⟩
          simp only [Act.put, List.setIfInBounds_toArray, List.set_cons_zero, List.set_cons_succ]
          refine Ch.SeqG.chainStep GathT.next (Nat.le_refl _) (fun wv hbv hpv => ?_) (fun v3 => ?_)
          · obtain ⟨g9, rfl, hg9, hc9⟩ := hpv _ (.head _) (by kernel_rfl)
            have hG1 : Gath f5 5 25 wv wz.heap.size v1 (L.take k) := hpv _ (.tail _ (.head _)) (by kernel_rfl)
            clear hpv
            have hl1 := htl.out
            refine wpList_append_own _ rfl _ _ 33 rfl wz.heap.size 25 i0 (.agg #[.int .i64 0, .int .i64 0, .int .i64 0, .int .i64 0, .int .i64 0]) 5 40 Try.underlying33 HII.out HZ0.out HZ1.out HZ2.out rfl (by decide) _ _ _ rfl hG1 ⟨g9, 0, none⟩ 1 1 (f5 t) rfl rfl (trip_src hc9) (f_one5 t) ?_ ?_ hbv.size ?_
            · rw [hl1]; unfold maxLen; omega
            · rw [hl1]; omega
            · intro v' w' hown hgrow hnil
              exact ⟨rfl, v', rfl, below_grown' (Below.refl _ _ |>.mono hbv.size) hgrow hG1 (Nat.le_refl _) hbv.size, Gath.snoc hown⟩
          simp only [Act.put, List.setIfInBounds_toArray, List.set_cons_zero, List.set_cons_succ]
          refine Ch.SeqG.fixStep (.inl ⟨rfl, fun _ => rfl⟩) ?_
          simp only [Act.put, List.setIfInBounds_toArray, List.set_cons_zero, List.set_cons_succ]
          refine Ch.SeqG.fixStep (.inl ⟨rfl, fun _ => rfl⟩) ?_
          simp only [Act.put, List.setIfInBounds_toArray, List.set_cons_zero, List.set_cons_succ]
          refine Ch.SeqG.valStep (fun wv hbv hpv => ?_) ?_
          · clear hpv
            go_wp2_with fail
            exact Ch.post_val (Below.refl _ _)
          simp only [Act.put, List.setIfInBounds_toArray, List.set_cons_zero, List.set_cons_succ]
          refine Ch.SeqG.done fun wv hbv hpv => ?_
          have hG3 : Gath f5 5 25 wv wz.heap.size v3 (L.take k ++ [t]) := hpv _ (.head _)
          clear hpv
          have zv := hbv.size
          have hl3 := htl.out
          have hd3 := hld.out
          refine NoPanL ?_
          refine wpList_append_own _ rfl _ _ 33 rfl wz.heap.size 25 i0 (.agg #[.int .i64 0, .int .i64 0, .int .i64 0, .int .i64 0, .int .i64 0]) 5 40 Try.underlying33 HII.out HZ0.out HZ1.out HZ2.out rfl (by decide) _ _ _ rfl hG3 ⟨b, off, none⟩ 0 0 ((L.drop k).flatMap f5) rfl (by rw [hd3]; first | done | rfl | (congr 1; omega) | (congr 1; have := HKL.out; omega) | simp | omega) (HP.out wv (hbv.mono (Nat.le_refl _))).2 (flat_one f_one5) ?_ ?_ zv ?_
          · rw [List.length_append, hl3, List.length_singleton]; unfold maxLen; omega
          · rw [List.length_append, hl3, List.length_singleton]; omega
          intro v' w1 hown hgrow hnil
          have hb9 : Below W.heap.size W w1 := below_grown' (qB.trans (hbv.mono zz)) hgrow hG3 zz (by omega)
          have hG9 : Gath f5 5 25 w1 p v' (insL L k t) := by
            have h9 := own_mono (B' := p) hown (by omega)
            unfold Gath insL
            rw [List.length_append, List.flatMap_append, List.length_drop]
            rw [show L.length - k = 0 by first | omega | (have := HKL.out; omega)]; exact h9
          obtain ⟨A6, c6, rfl, o6⟩ := Gath.own (f := f5) (m := 5) (fun _ => rfl) hG9
          have O6 := Lib.hid o6
          have HLn := Lib.hid (insL_len (x := t) hkk)
          have HI6 : Hid (∀ y ∈ insL L k t, InI5 y) := fun y hy => by
            rcases insL_mem hy with h | h
            · exact HI.out y h
            · rw [h]; exact hti
          have ct := (ktW.below' hb9).cell
          have hR0 : (0 : Int) ≤ ((insL L k t).length : Int) := by omega
          have HE := Lib.hid (show addI L t = insL L k t by unfold addI; rw [HK.out])
          have hr1 := hrW.next hb9
          clear hown hG9 o6 hgrow hG3 hnil hbv kz HP
          go_wp2_with fail
          refine Ch.NoPan.normal ?_
          go_wp2_with fail
          refine (l11Good_any _ _ L _ (by exact hr1) hm HI.out).mono ?_; rintro e w7 ⟨rfl, hb7⟩
          have hb07 := hb9.trans (hb7.mono hb9.size)
          cases h1 : tripsB L
          · have Hv := Lib.hid (ad_n1 (t := t) h1)
            clear h1 ct
            go_wp2
            go_ret2
            exact ⟨some ⟨_, 0, none⟩, 0, by rw [Hv.out.1, Hv.out.2]; rfl, by rw [Hv.out.1]; exact OwnR.nil, by rw [Hp.out]; exact (hb0.trans (hb07.mono zp)).alloc (by have := (hb07).size; omega) _⟩
          have H1 := Lib.hid h1
          clear h1
          have C7 := Lib.hid (l11Good_any A6 c6 (insL L k t) w7 (O6.out.next hb7).sl (by rw [HLn.out]; have := tripsB_len H1.out; omega) HI6.out)
          have hr2 := hr1.next hb7
          have O7 := Lib.hid (O6.out.next hb7)
          generalize insL L k t = O at *
          clear O6 hr1 hb7 hb9
          go_wp2_with fail
          refine C7.out.mono ?_; rintro e w8 ⟨rfl, hb8⟩
          have hb08 := hb07.trans (hb8.mono hb07.size)
          cases h4 : tripsB O
          · have Hv := Lib.hid (ad_n4 (by rw [HE.out]; exact h4))
            clear h4 ct
            go_wp2
            go_ret2
            exact ⟨some ⟨_, 0, none⟩, 0, by rw [Hv.out.1, Hv.out.2]; rfl, by rw [Hv.out.1]; exact OwnR.nil, by rw [Hp.out]; exact (hb0.trans (hb08.mono zp)).alloc (by have := (hb08).size; omega) _⟩
          have H4 := Lib.hid (show tripsB (addI L t) = true by rw [HE.out]; exact h4)
          clear h4
          have htr := okT_tr (addI_ok H4.out)
          have ct8 := (ktW.below' hb08).cell
          have hr3 := hr2.next hb8
          have O8 := Lib.hid (O7.out.next hb8)
          clear ct O7 hr2 hb07 hb8 C7
          go_wp2_with fail
          refine (l11Free_any _ _ L t _ (by exact hr3) hm (trOk_all H1.out) htr).mono ?_; rintro e w9 ⟨rfl, hb9⟩
          have hb09 := hb08.trans (hb9.mono hb08.size)
          have O9 := Lib.hid (O8.out.next hb9)
          clear ct8 hb08 hb9 hr3 O8
          cases h3 : metB L t
          · have Hv := Lib.hid (show addL L t = O ∧ addU L t = true by rw [← HE.out]; exact ad_y H1.out (addI_ok H4.out) h3 H4.out)
            clear h3
            go_wp2
            go_ret2
            exact ⟨A6, c6, by rw [Hv.out.1, Hv.out.2]; rfl, by rw [Hv.out.1, Hp.out]; exact O9.out, by rw [Hp.out]; exact hb0.trans (hb09.mono zp)⟩
          · have Hv := Lib.hid (ad_n3 (L := L) (t := t) h3)
            clear h3
            go_wp2
            go_ret2
            exact ⟨some ⟨_, 0, none⟩, 0, by rw [Hv.out.1, Hv.out.2]; rfl, by rw [Hv.out.1]; exact OwnR.nil, by rw [Hp.out]; exact (hb0.trans (hb09.mono zp)).alloc (by have := (hb09).size; omega) _⟩
        · skip
          obtain ⟨b, off, hA, hB, hcs⟩ := hrW hL
          cases hA
          have hBz : b < wz.heap.size := by have := qB.size; omega
          have HC2 := Lib.hid (hcs.below qB hB)
          have HP := Lib.hid (parts_end (a2 := ⟨b, off + k * 5, none⟩) HC2.out hBz HKL.out)
          clear HC2 hcs hB hL
          have hck : k < c := by have := HKL.out; omega
          have hck2 : ¬ (c = k) := by omega
          have hck3 : (k : Int) ≤ (c : Int) := by omega
          have hck4 : (k : Int) ≤ (L.length : Int) := by have := HKL.out; omega
          have kz := ktW.below' qB
          have zz := qB.size
          have hkk : k ≤ L.length := by omega
          have hln := Lib.hid (show ((L.take k).flatMap f5).length = k * 5 by rw [flat_len (f := f5) (m := 5) (fun _ => rfl), List.length_take]; first | done | rfl | (congr 1; omega) | (congr 1; have := HKL.out; omega) | simp | omega)
          have hld := Lib.hid (flat_dlen (f := f5) (m := 5) (L := L) (i := k) (fun _ => rfl))
          have htl := Lib.hid (show (L.take k).length = k by rw [List.length_take]; omega)
          obtain ⟨i0, hi, hz0, hz1, hz2⟩ := info_parts infoTrip
          have HII := Lib.hid hi; have HZ0 := Lib.hid hz0; have HZ1 := Lib.hid hz1; have HZ2 := Lib.hid hz2
          clear hi hz0 hz1 hz2
          go_wp2
          refine Ch.wp_region_chain [.pred (EmpT wz.heap.size), .fix (.slice (some ⟨b, off, none⟩) L.length c), .fix (.int .i64 k), .val (.slice (some ⟨b, off, none⟩) k c), .pred (GathT wz.heap.size (L.take k)), .val (.agg #[.int .i64 t.1, .int .i64 t.2.1, .int .i64 t.2.2.1, .int .i64 t.2.2.2.1, .int .i64 t.2.2.2.2]), .pred (LitT wz.heap.size t), .chain wz.heap.size (GathT wz.heap.size (L.take k ++ [t])), .fix (.slice (some ⟨b, off, none⟩) L.length c), .fix (.int .i64 k), .val (.slice (some ⟨b, off + k * 5, none⟩) (L.length - k) (c - k))] mixed (by kernel_rfl) ?_
          refine Ch.SeqG.predStep EmpT.next (fun wv hbv hpv => ?_) (fun v0 => ?_)
          · clear hpv
            go_wp2_with fail
            exact Ch.post_pred (F := EmpT wz.heap.size) _ (by (repeat (first | exact Below.refl _ _ | refine Below.drew ?_ | refine below_drewN ?_ _ | (refine Below.alloc ?_ (by (try simp) <;> omega) _) | (refine Below.setCell ?_ (by (try simp) <;> omega) _) | (refine Below.trans ?_ (Below.mono (by assumption) (by (try simp) <;> omega)))))) ⟨_, rfl, hbv.size, Gath.made hbv.size⟩
          simp only [Act.put, List.setIfInBounds_toArray, List.set_cons_zero, List.set_cons_succ]
          refine Ch.SeqG.fixStep (.inl ⟨rfl, fun _ => rfl⟩) ?_
          simp only [Act.put, List.setIfInBounds_toArray, List.set_cons_zero, List.set_cons_succ]
          refine Ch.SeqG.fixStep (.inl ⟨rfl, fun _ => rfl⟩) ?_
          simp only [Act.put, List.setIfInBounds_toArray, List.set_cons_zero, List.set_cons_succ]
          refine Ch.SeqG.valStep (fun wv hbv hpv => ?_) ?_
          · clear hpv
            go_wp2_with fail
            exact Ch.post_val (Below.refl _ _)
          simp only [Act.put, List.setIfInBounds_toArray, List.set_cons_zero, List.set_cons_succ]
          refine Ch.SeqG.predStep GathT.next (fun wv hbv hpv => ?_) (fun v1 => ?_)
          · obtain ⟨g0, rfl, hg0, hE0⟩ := hpv _ (.head _) (by kernel_rfl)
            clear hpv
            refine wpList_append_arg _ rfl _ _ 33 rfl 25 i0 (.agg #[.int .i64 0, .int .i64 0, .int .i64 0, .int .i64 0, .int .i64 0]) 5 40 Try.underlying33 HII.out HZ0.out HZ1.out HZ2.out rfl (by decide) g0 0 0 0 [] rfl rfl (by intro j u h; simp at h) ⟨b, off, none⟩ k c ((L.take k).flatMap f5) rfl (by rw [hln.out]) (HP.out wv hbv).1 (flat_one f_one5) ?_ ?_ ?_ ?_ ?_
            · intro h; intro j hj; rw [hln.out] at hj; omega
            · unfold maxLen; omega
            · omega
            · intro h
              have hk0' : k = 0 := by omega
              have e0 : L.take k = [] := by rw [hk0']; rfl
              rw [e0]
              simp only [List.flatMap_nil, World.setCells]
              exact ⟨rfl, _, by simp [hk0', Act.put], Below.refl _ _, hE0⟩
            · intro h v' w' hown hgrow
              refine ⟨rfl, v', rfl, below_grown hgrow (fun k h => by cases h), ?_⟩
              have := own_mono hown hbv.size
              unfold GathT Gath; rw [htl.out]; simpa using this
          simp only [Act.put, List.setIfInBounds_toArray, List.set_cons_zero, List.set_cons_succ]
          refine Ch.SeqG.valStep (fun wv hbv hpv => ?_) ?_
          · clear hpv
            have ct := (kz.below' hbv).cell
            go_wp2_with fail
            exact Ch.post_val (Below.refl _ _)
          simp only [Act.put, List.setIfInBounds_toArray, List.set_cons_zero, List.set_cons_succ]
          refine Ch.SeqG.predStep LitT.next (fun wv hbv hpv => ?_) (fun v2 => ?_)
          · clear hpv
            go_wp2_with fail
            exact Ch.post_pred (F := LitT wz.heap.size t) _ (by (repeat (first | exact Below.refl _ _ | refine Below.drew ?_ | refine below_drewN ?_ _ | (refine Below.alloc ?_ (by (try simp) <;> omega) _) | (refine Below.setCell ?_ (by (try simp) <;> omega) _) | (refine Below.trans ?_ (Below.mono (by assumption) (by (try simp) <;> omega)))))) ⟨wv.heap.size, rfl, hbv.size, Blk.new _ _ _⟩
          simp only [Act.put, List.setIfInBounds_toArray, List.set_cons_zero, List.set_cons_succ]
          refine Ch.SeqG.chainStep GathT.next (Nat.le_refl _) (fun wv hbv hpv => ?_) (fun v3 => ?_)
          · obtain ⟨g9, rfl, hg9, hc9⟩ := hpv _ (.head _) (by kernel_rfl)
            have hG1 : Gath f5 5 25 wv wz.heap.size v1 (L.take k) := hpv _ (.tail _ (.head _)) (by kernel_rfl)
            clear hpv
            have hl1 := htl.out
            refine wpList_append_own _ rfl _ _ 33 rfl wz.heap.size 25 i0 (.agg #[.int .i64 0, .int .i64 0, .int .i64 0, .int .i64 0, .int .i64 0]) 5 40 Try.underlying33 HII.out HZ0.out HZ1.out HZ2.out rfl (by decide) _ _ _ rfl hG1 ⟨g9, 0, none⟩ 1 1 (f5 t) rfl rfl (trip_src hc9) (f_one5 t) ?_ ?_ hbv.size ?_
            · rw [hl1]; unfold maxLen; omega
            · rw [hl1]; omega
            · intro v' w' hown hgrow hnil
              exact ⟨rfl, v', rfl, below_grown' (Below.refl _ _ |>.mono hbv.size) hgrow hG1 (Nat.le_refl _) hbv.size, Gath.snoc hown⟩
          simp only [Act.put, List.setIfInBounds_toArray, List.set_cons_zero, List.set_cons_succ]
          refine Ch.SeqG.fixStep (.inl ⟨rfl, fun _ => rfl⟩) ?_
          simp only [Act.put, List.setIfInBounds_toArray, List.set_cons_zero, List.set_cons_succ]
          refine Ch.SeqG.fixStep (.inl ⟨rfl, fun _ => rfl⟩) ?_
          simp only [Act.put, List.setIfInBounds_toArray, List.set_cons_zero, List.set_cons_succ]
          refine Ch.SeqG.valStep (fun wv hbv hpv => ?_) ?_
          · clear hpv
            go_wp2_with fail
            exact Ch.post_val (Below.refl _ _)
          simp only [Act.put, List.setIfInBounds_toArray, List.set_cons_zero, List.set_cons_succ]
          refine Ch.SeqG.done fun wv hbv hpv => ?_
          have hG3 : Gath f5 5 25 wv wz.heap.size v3 (L.take k ++ [t]) := hpv _ (.head _)
          clear hpv
          have zv := hbv.size
          have hl3 := htl.out
          have hd3 := hld.out
          refine NoPanL ?_
          refine wpList_append_own _ rfl _ _ 33 rfl wz.heap.size 25 i0 (.agg #[.int .i64 0, .int .i64 0, .int .i64 0, .int .i64 0, .int .i64 0]) 5 40 Try.underlying33 HII.out HZ0.out HZ1.out HZ2.out rfl (by decide) _ _ _ rfl hG3 ⟨b, off + k * 5, none⟩ (L.length - k) (c - k) ((L.drop k).flatMap f5) rfl (by rw [hd3]; first | done | rfl | (congr 1; omega) | (congr 1; have := HKL.out; omega) | simp | omega) (HP.out wv (hbv.mono (Nat.le_refl _))).2 (flat_one f_one5) ?_ ?_ zv ?_
          · rw [List.length_append, hl3, List.length_singleton]; unfold maxLen; omega
          · rw [List.length_append, hl3, List.length_singleton]; omega
          intro v' w1 hown hgrow hnil
          have hb9 : Below W.heap.size W w1 := below_grown' (qB.trans (hbv.mono zz)) hgrow hG3 zz (by omega)
          have hG9 : Gath f5 5 25 w1 p v' (insL L k t) := by
            have h9 := own_mono (B' := p) hown (by omega)
            unfold Gath insL
            rw [List.length_append, List.flatMap_append, List.length_drop]
            exact h9
          obtain ⟨A6, c6, rfl, o6⟩ := Gath.own (f := f5) (m := 5) (fun _ => rfl) hG9
          have O6 := Lib.hid o6
          have HLn := Lib.hid (insL_len (x := t) hkk)
          have HI6 : Hid (∀ y ∈ insL L k t, InI5 y) := fun y hy => by
            rcases insL_mem hy with h | h
            · exact HI.out y h
            · rw [h]; exact hti
          have ct := (ktW.below' hb9).cell
          have hR0 : (0 : Int) ≤ ((insL L k t).length : Int) := by omega
          have HE := Lib.hid (show addI L t = insL L k t by unfold addI; rw [HK.out])
          have hr1 := hrW.next hb9
          clear hown hG9 o6 hgrow hG3 hnil hbv kz HP
          go_wp2_with fail
          refine Ch.NoPan.normal ?_
          go_wp2_with fail
          refine (l11Good_any _ _ L _ (by exact hr1) hm HI.out).mono ?_; rintro e w7 ⟨rfl, hb7⟩
          have hb07 := hb9.trans (hb7.mono hb9.size)
          cases h1 : tripsB L
          · have Hv := Lib.hid (ad_n1 (t := t) h1)
            clear h1 ct
            go_wp2
            go_ret2
            exact ⟨some ⟨_, 0, none⟩, 0, by rw [Hv.out.1, Hv.out.2]; rfl, by rw [Hv.out.1]; exact OwnR.nil, by rw [Hp.out]; exact (hb0.trans (hb07.mono zp)).alloc (by have := (hb07).size; omega) _⟩
          have H1 := Lib.hid h1
          clear h1
          have C7 := Lib.hid (l11Good_any A6 c6 (insL L k t) w7 (O6.out.next hb7).sl (by rw [HLn.out]; have := tripsB_len H1.out; omega) HI6.out)
          have hr2 := hr1.next hb7
          have O7 := Lib.hid (O6.out.next hb7)
          generalize insL L k t = O at *
          clear O6 hr1 hb7 hb9
          go_wp2_with fail
          refine C7.out.mono ?_; rintro e w8 ⟨rfl, hb8⟩
          have hb08 := hb07.trans (hb8.mono hb07.size)
          cases h4 : tripsB O
          · have Hv := Lib.hid (ad_n4 (by rw [HE.out]; exact h4))
            clear h4 ct
            go_wp2
            go_ret2
            exact ⟨some ⟨_, 0, none⟩, 0, by rw [Hv.out.1, Hv.out.2]; rfl, by rw [Hv.out.1]; exact OwnR.nil, by rw [Hp.out]; exact (hb0.trans (hb08.mono zp)).alloc (by have := (hb08).size; omega) _⟩
          have H4 := Lib.hid (show tripsB (addI L t) = true by rw [HE.out]; exact h4)
          clear h4
          have htr := okT_tr (addI_ok H4.out)
          have ct8 := (ktW.below' hb08).cell
          have hr3 := hr2.next hb8
          have O8 := Lib.hid (O7.out.next hb8)
          clear ct O7 hr2 hb07 hb8 C7
          go_wp2_with fail
          refine (l11Free_any _ _ L t _ (by exact hr3) hm (trOk_all H1.out) htr).mono ?_; rintro e w9 ⟨rfl, hb9⟩
          have hb09 := hb08.trans (hb9.mono hb08.size)
          have O9 := Lib.hid (O8.out.next hb9)
          clear ct8 hb08 hb9 hr3 O8
          cases h3 : metB L t
          · have Hv := Lib.hid (show addL L t = O ∧ addU L t = true by rw [← HE.out]; exact ad_y H1.out (addI_ok H4.out) h3 H4.out)
            clear h3
            go_wp2
            go_ret2
            exact ⟨A6, c6, by rw [Hv.out.1, Hv.out.2]; rfl, by rw [Hv.out.1, Hp.out]; exact O9.out, by rw [Hp.out]; exact hb0.trans (hb09.mono zp)⟩
          · have Hv := Lib.hid (ad_n3 (L := L) (t := t) h3)
            clear h3
            go_wp2
            go_ret2
            exact ⟨some ⟨_, 0, none⟩, 0, by rw [Hv.out.1, Hv.out.2]; rfl, by rw [Hv.out.1]; exact OwnR.nil, by rw [Hp.out]; exact (hb0.trans (hb09.mono zp)).alloc (by have := (hb09).size; omega) _⟩
end Go.Proofs.Ytfcmfadkkfkidaa
