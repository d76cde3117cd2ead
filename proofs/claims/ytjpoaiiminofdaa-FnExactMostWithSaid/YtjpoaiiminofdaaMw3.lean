/-
  l15Order and MostWith: the reference.
-/
import Derived.Test.YtjpoaiiminofdaaMw2
import Derived.Test.YtjpoaiiminofdaaBit3
import Derived.Test.YtjpoaiiminofdaaChn
import Derived.Deep.DeepCutAuto
import Derived.ArgAppend
import Derived.WalkKit
import Derived.WalkSpells
import Derived.WalkLawsBesides
import Derived.Lib.Hide
import Derived.Deep.QuietTactic
import Derived.BigQuiet
import Derived.StillTailTactics
namespace Go.Proofs.Ytjpoaiiminofdaa
open Go.RowKit

theorem infoI : (Try.prog.info? 3).map (fun i => (i.zero, i.size, i.bytes)) = some (some (.int .i64 0), 1, 8) := by kernel_rfl
theorem cells_drop {α : Type} {f : α → List Value} {m : Nat} {w : World} {b off : Nat} {L : List α} (h : Cells f m w b off L) (k : Nat) : Cells f m w b (off + k * m) (L.drop k) := fun i x hx j u hu => by
  rw [List.getElem?_drop] at hx
  have := h (k + i) x hx j u hu
  rwa [show off + (k + i) * m + j = off + k * m + i * m + j by rw [Nat.add_mul]; omega] at this
theorem own_mono {w : World} {B B' m n : Nat} {e : TypeId} {v : Value} {xs : List Value} (h : w.ownsRow B e m v n xs) (hB : B' ≤ B) : w.ownsRow B' e m v n xs := by
  obtain ⟨h0, h1 | ⟨g, cap, cur, hv, hb, r⟩⟩ := h
  · exact ⟨h0, .inl h1⟩
  · exact ⟨h0, .inr ⟨g, cap, cur, hv, Nat.le_trans hB hb, r⟩⟩
section
variable {α : Type} {L : List α} {i : Nat} {x : α}
/-- The list with an element laid in at place i. -/
def insL (L : List α) (i : Nat) (x : α) : List α := L.take i ++ [x] ++ L.drop i
theorem insL_len (hi : i ≤ L.length) : (insL L i x).length = L.length + 1 := by
  unfold insL
  rw [List.length_append, List.length_append, List.length_take, List.length_drop, List.length_singleton]; omega
theorem insL_get (hi : i ≤ L.length) (k : Nat) : (insL L i x)[k]? = if k < i then L[k]? else if k = i then some x else L[k - 1]? := by
  unfold insL
  have h1 : (L.take i).length = i := by rw [List.length_take]; omega
  by_cases hk : k < i
  · rw [if_pos hk, List.append_assoc, List.getElem?_append_left (by omega), List.getElem?_take, if_pos hk]
  · rw [if_neg hk, List.append_assoc, List.getElem?_append_right (by omega), h1]
    by_cases hk2 : k = i
    · rw [if_pos hk2, hk2]; simp
    · rw [if_neg hk2]
      obtain ⟨q, rfl⟩ : ∃ q, k = i + 1 + q := ⟨k - (i + 1), by omega⟩
      rw [show i + 1 + q - i = q + 1 by omega, show i + 1 + q - 1 = i + q by omega]
      simp
end
theorem flat_dlen {α : Type} {f : α → List Value} {m i : Nat} {L : List α} (hf : ∀ x, (f x).length = m) : ((L.drop i).flatMap f).length = (L.length - i) * m := by rw [flat_len hf, List.length_drop]
theorem NoPanI {P : Program} {ops : Array Oper} {Q : Exit → Act → World → Prop} {l : List Oper} {a : Act} {w : World} (h : wpList P ops Q l a w) : wpList P ops Q l a w := h
theorem ints_one {L : List Int} : ∀ u ∈ L.flatMap f1, u.oneCell' = true := by
  intro u hu
  obtain ⟨x, _, hx⟩ := List.mem_flatMap.1 hu
  rw [List.mem_singleton.1 hx]
  rfl
/-- A slice of ints of the call's own, from block B on. -/
def GathI (B : Nat) (L : List Int) (v : Value) (w : World) : Prop := Gath f1 1 3 w B v L ∧ v ≠ .slice none 0 0
theorem GathI.next {B : Nat} {L : List Int} : ∀ (v : Value) (w w' : World), Below w.heap.size w w' → GathI B L v w → GathI B L v w' := fun _ _ _ hb h => ⟨h.1.below hb, h.2⟩
def EmpI (B : Nat) (v : Value) (w : World) : Prop := ∃ g, v = .slice (some ⟨g, 0, none⟩) 0 0 ∧ B ≤ g ∧ Gath f1 1 3 w B v []
theorem EmpI.next {B : Nat} : ∀ (v : Value) (w w' : World), Below w.heap.size w w' → EmpI B v w → EmpI B v w' := fun _ _ _ hb ⟨g, h1, h2, h3⟩ => ⟨g, h1, h2, h3.below hb⟩
def LitI (x : Int) (v : Value) (w : World) : Prop := ∃ g, v = .slice (some ⟨g, 0, none⟩) 1 1 ∧ Blk w g 3 #[.int .i64 x]
theorem LitI.next {x : Int} : ∀ (v : Value) (w w' : World), Below w.heap.size w w' → LitI x v w → LitI x v w' := fun _ _ _ hb ⟨g, h1, h3⟩ => ⟨g, h1, h3.below' hb⟩
theorem lit_src {w : World} {g : Nat} {x : Int} (h : Blk w g 3 #[.int .i64 x]) : ∀ j u, (f1 x)[j]? = some u → w.cell? ((⟨g, 0, none⟩ : Addr).add j) = some u := by
  intro j u hj
  rw [Go.WideShapes.add_plain, Nat.zero_add]
  have hc := h.cell j
  rw [hc]
  simpa [f1] using hj
/-- What the two parts of a list of ints read. -/
def PartI (W : World) (L : List Int) (k : Nat) (a1 a2 : Addr) : Prop := ∀ wv, Below W.heap.size W wv → (∀ j u, ((L.take k).flatMap f1)[j]? = some u → wv.cell? (a1.add j) = some u) ∧ (∀ j u, ((L.drop k).flatMap f1)[j]? = some u → wv.cell? (a2.add j) = some u)
theorem partI_mid {W : World} {L : List Int} {k b : Nat} (h : Cells f1 1 W b 0 L) (hb : b < W.heap.size) : PartI W L k ⟨b, 0, none⟩ ⟨b, k, none⟩ := fun _ hw =>
  ⟨cells_flat (f := f1) (m := 1) (fun _ => rfl) (by omega) ((h.below hw hb).take k), by
    have := cells_flat (f := f1) (m := 1) (fun _ => rfl) (by omega) (cells_drop (h.below hw hb) k)
    rwa [show 0 + k * 1 = k by omega] at this⟩
theorem partI_end {W : World} {L : List Int} {k b : Nat} {a2 : Addr} (h : Cells f1 1 W b 0 L) (hb : b < W.heap.size) (hk : k = L.length) : PartI W L k ⟨b, 0, none⟩ a2 := fun _ hw =>
  ⟨cells_flat (f := f1) (m := 1) (fun _ => rfl) (by omega) ((h.below hw hb).take k), fun j u h => by rw [List.drop_of_length_le (by omega)] at h; simp at h⟩
theorem Gath.form1 {t : TypeId} {w : World} {B : Nat} {v : Value} {L : List Int} (h : Gath f1 1 t w B v L) (hv : v ≠ .slice none 0 0) :
    ∃ g c, v = .slice (some ⟨g, 0, none⟩) L.length c ∧ B ≤ g ∧ L.length ≤ c ∧ g < w.heap.size ∧ Cells f1 1 w g 0 L := by
  obtain ⟨A, c0, e, ho⟩ := Gath.own (f := f1) (m := 1) (fun _ => rfl) h
  obtain ⟨h0, ⟨hn, _⟩ | ⟨g, cap, cur, hv', hB, hh, hn, hcm, hs, ht⟩⟩ := h
  · exact absurd hn hv
  · refine ⟨g, cap, hv', hB, hn, ?_, ?_⟩
    · rcases Nat.lt_or_ge g w.heap.size with h | h
      · exact h
      · rw [Array.getElem?_eq_none h] at hh; cases hh
    · rw [hv'] at e
      injection e with e1 _ _
      intro k x hx
      obtain ⟨g1, e2, _, _, hC⟩ := ho (SlR.ne hx)
      rw [e2] at e1
      injection e1 with e1
      injection e1 with e1
      subst e1
      exact hC k x hx

/-- I holds the places in L of the elements of O. -/
def IdxOf (L : List B3) (I : List Int) (O : List B3) : Prop := I.length = O.length ∧ ∀ (j : Nat) (y : B3), O[j]? = some y → ∃ i : Nat, I[j]? = some (i : Int) ∧ L[i]? = some y
theorem idx_ins {L O : List B3} {I : List Int} {x : B3} {k p : Nat} (h : IdxOf L I O) (hx : L[k]? = some x) (hp : p ≤ I.length) : IdxOf L (insL I p (k : Int)) (insL O p x) := by
  obtain ⟨h1, h2⟩ := h
  refine ⟨by rw [insL_len hp, insL_len (by omega), h1], fun j y hy => ?_⟩
  rw [insL_get (by omega)] at hy
  rw [insL_get hp]
  by_cases e1 : j < p
  · rw [if_pos e1] at hy ⊢
    exact h2 j y hy
  · rw [if_neg e1] at hy ⊢
    by_cases e2 : j = p
    · rw [if_pos e2] at hy ⊢
      cases hy
      exact ⟨k, rfl, hx⟩
    · rw [if_neg e2] at hy ⊢
      exact h2 (j - 1) y hy
theorem insM_eq {O : List B3} {x : B3} {p : Nat} (h : posM O x O.length = p) : insM O x = insL O p x := by unfold insM insL; rw [h]

set_option maxHeartbeats 2000000 in
theorem l1Own_any (b c p : Nat) (L : List Int) (w : World) (hr : Cells f1 1 w b 0 L) (hb : b < w.heap.size) (hp : p ≤ L.length) (hm : L.length ≤ 1000000) :
    Calls Try.prog 48 #[.slice (some ⟨b, 0, none⟩) p c] w fun e w' => ∃ v, e = .returned v ∧ GathI w.heap.size (L.take p) v w' ∧ Below w.heap.size w w' := by
  obtain ⟨i0, hi, hz0, hz1, hz2⟩ := info_parts infoI
  have hl := Lib.hid (show (L.take p).length = p by rw [List.length_take]; omega)
  have hG0 := Lib.hid (Gath.made (f := f1) (m := 1) (t := 3) (w := w) (Nat.le_refl _))
  have hb0 : Below w.heap.size w (w.alloc (.cells #[] 3 (0, 0))) := by (repeat (first | exact Below.refl _ _ | refine Below.drew ?_ | refine below_drewN ?_ _ | (refine Below.alloc ?_ (by (try simp) <;> omega) _) | (refine Below.setCell ?_ (by (try simp) <;> omega) _) | (refine Below.trans ?_ (Below.mono (by assumption) (by (try simp) <;> omega)))))
  have hnw := Lib.hid (cells_flat (f := f1) (m := 1) (fun _ => rfl) (by omega) ((hr.below hb0 hb).take p))
  have hln := Lib.hid (show ((L.take p).flatMap f1).length = p * 1 by rw [flat_len (f := f1) (m := 1) (fun _ => rfl), hl.out])
  clear hr
  go_enter Try.func48, Try.ntmps48
  go_wp2_with (at_builtin; refine wpList_append_own _ rfl _ _ 50 rfl w.heap.size 3 i0 (.int .i64 0) 1 8 Try.underlying50 hi hz0 hz1 hz2 rfl (by decide) _ _ _ rfl hG0.out ⟨b, 0, none⟩ p c ((L.take p).flatMap f1) rfl hln.out hnw.out ints_one (by unfold maxLen; simp; omega) (by simp; omega) (by simp) ?_; intro v' w1 hown hgrow hnil)
  have HG := Lib.hid (show Gath f1 1 3 w1 w.heap.size v' (L.take p) from by unfold Gath; rw [hl.out]; simpa using hown)
  have hb : Below w.heap.size w w1 := below_grown' hb0 hgrow hG0.out (Nat.le_refl _) (by simp)
  have hn : v' ≠ .slice none 0 0 := fun e => by cases (hnil.1 e).1
  have Hn := Lib.hid hn
  clear hown hgrow hnil hn
  go_wp2
  go_ret
  exact ⟨v', rfl, ⟨HG.out, Hn.out⟩, hb⟩

set_option maxRecDepth 20000 in
set_option maxHeartbeats 16000000 in
theorem l15Order_any (A : Option Addr) (cA : Nat) (L : List B3) (W0 : World) (hr : SlR f3 3 W0 W0.heap.size A L) (h8 : L.length ≤ 8) :
    Calls Try.prog 40 #[.slice A L.length cA] W0 fun e w' => ∃ A' c' I, e = .returned (.slice A' (I : List Int).length c') ∧ IdxOf L I (ordM L L.length) ∧ SlR f1 1 w' w'.heap.size A' I ∧ Below W0.heap.size W0 w' := by
  have hE := Gath.made (f := f1) (m := 1) (t := 3) (B := W0.heap.size) (w := W0) (Nat.le_refl _)
  have hbE : Below W0.heap.size W0 (W0.alloc (.cells #[] 3 (0, 0))) := by (repeat (first | exact Below.refl _ _ | refine Below.drew ?_ | refine below_drewN ?_ _ | (refine Below.alloc ?_ (by (try simp) <;> omega) _) | (refine Below.setCell ?_ (by (try simp) <;> omega) _) | (refine Below.trans ?_ (Below.mono (by assumption) (by (try simp) <;> omega)))))
  have hm8 : (L.length : Int) ≤ 8 := by omega
  go_enter Try.func40, Try.ntmps40
  go_wp2
  go_loopw [3, 4] (fun v3 v4 wr => ∃ (k : Nat) (I : List Int), v4 = .int .i64 k ∧ k ≤ L.length ∧ Gath f1 1 3 wr W0.heap.size v3 I ∧ v3 ≠ .slice none 0 0 ∧ Hid (IdxOf L I (ordM L k)) ∧ I.length ≤ k ∧ Below W0.heap.size W0 wr) (fun _ v4 _ => (L.length - intOf v4).toNat)
  case atStart => exact ⟨0, [], rfl, by omega, hE, by simp, ⟨rfl, fun j y h => by simp [ordM] at h⟩, by simp, hbE⟩
  case round =>
    obtain ⟨k, I, rfl, hk, hG, hv3, hIO, hIk, hb⟩ := hrel
    clear hE hbE
    have zr := hb.size
    have hk0 : (0 : Int) ≤ (k : Int) := by omega
    by_cases hlt : k < L.length
    · have hx : L[k]? = some L[k] := List.getElem?_eq_getElem hlt
      obtain ⟨b, off, hA, hB, hcs⟩ := hr (SlR.ne hx)
      cases hA
      generalize L[k] = x at *
      have hk1 : (k : Int) < (L.length : Int) := by omega
      have hCL := Lib.hid (hcs.below hb hB)
      have HX0 := Lib.hid hx
      have HIO := hIO
      obtain ⟨g, c, rfl, hgB, hcI, hgl, hCI⟩ := hG.form1 hv3
      have HCI := Lib.hid hCI
      have HG := Lib.hid hG
      have hI0 : (0 : Int) ≤ I.length := by omega
      have hI8 : (I.length : Int) ≤ 8 := by omega
      have hBl : b < wr.heap.size := by omega
      clear hlt hx hcs hG hCI hIO hv3
      go_wp2
      go_loopw [5] (fun v5 wq => ∃ p : Nat, v5 = .int .i64 p ∧ p ≤ I.length ∧ Hid (posM (ordM L k) x I.length = posM (ordM L k) x p) ∧ Below wr.heap.size wr wq) (fun v5 _ => (intOf v5).toNat)
      case atStart => exact ⟨I.length, rfl, Nat.le_refl _, rfl, Below.refl _ _⟩
      case round =>
        obtain ⟨p, rfl, hpI, hpos, hbq⟩ := hrel
        have zq := hbq.size
        have hp0 : (0 : Int) ≤ (p : Int) := by omega
        have HOL := Lib.hid HIO.out.1
        have HbW := Lib.hid (hb.trans (hbq.mono zr))
        by_cases hpz : p = 0
        · have hd : decide (0 < p) = false := by simp; omega
          have HPS := Lib.hid (show posM (ordM L k) x (ordM L k).length = p by rw [← HOL.out, hpos.out, hpz]; rfl)
          clear hpz hpos
          go_wp2
          go_quiet (fail)
          have qB : Below W0.heap.size W0 (wr.drewN nq) := by first | exact HbW.out | exact below_drewN HbW.out _
          have qG : Gath f1 1 3 (wr.drewN nq) W0.heap.size (.slice (some ⟨g, 0, none⟩) I.length c) I := by first | exact HG.out.below hbq | exact (HG.out.below hbq).below (below_drewN (Below.refl _ _) _)
          have qC : Cells f1 1 (wr.drewN nq) g 0 I := (show Cells f1 1 wr g 0 I from HCI.out.below hbq hgl)
          have hBz : g < (wr.drewN nq).heap.size := Nat.lt_of_lt_of_le hgl hbq.size
          clear hd
          have HG2 := Lib.hid qG
          have HC2 := Lib.hid qC
          generalize hWW : (wr.drewN nq) = wz at *
          clear hWW qG qC
          by_cases hcl : p = c
          · have HPC := Lib.hid (show p = I.length by omega)
            subst hcl
            have zz := qB.size
            have hln := Lib.hid (show ((I.take p).flatMap f1).length = p * 1 by rw [flat_len (f := f1) (m := 1) (fun _ => rfl), List.length_take]; congr 1; omega)
            have hld := Lib.hid (flat_dlen (f := f1) (m := 1) (L := I) (i := p) (fun _ => rfl))
            have htl := Lib.hid (show (I.take p).length = p by rw [List.length_take]; omega)
            obtain ⟨i0, hi, hz0, hz1, hz2⟩ := info_parts infoI
            have HII := Lib.hid hi; have HZ0 := Lib.hid hz0; have HZ1 := Lib.hid hz1; have HZ2 := Lib.hid hz2
            clear hi hz0 hz1 hz2
            go_wp2
            refine Ch.wp_region_chain [.fix (.slice (some ⟨g, 0, none⟩) I.length p), .fix (.int .i64 p), .val (.slice (some ⟨g, 0, none⟩) p p), .pred (GathI wz.heap.size (I.take p)), .fix (.int .i64 k), .pred (LitI (k : Int)), .chain wz.heap.size (GathI wz.heap.size (I.take p ++ [(k : Int)])), .fix (.slice (some ⟨g, 0, none⟩) I.length p), .fix (.int .i64 p), .val (.slice (some ⟨g, 0, none⟩) 0 0)] mixed (by kernel_rfl) ?_
            refine Ch.SeqG.fixStep (.inl ⟨rfl, fun _ => rfl⟩) ?_
            simp only [Act.put, List.setIfInBounds_toArray, List.set_cons_zero, List.set_cons_succ]
            refine Ch.SeqG.fixStep (.inl ⟨rfl, fun _ => rfl⟩) ?_
            simp only [Act.put, List.setIfInBounds_toArray, List.set_cons_zero, List.set_cons_succ]
            refine Ch.SeqG.valStep (fun wv hbv hpv => ?_) ?_
            · clear hpv
              go_wp2_with fail
              exact Ch.post_val (Below.refl _ _)
            simp only [Act.put, List.setIfInBounds_toArray, List.set_cons_zero, List.set_cons_succ]
            refine Ch.SeqG.predStep GathI.next (fun wv hbv hpv => ?_) (fun v1 => ?_)
            · have HO := Lib.hid (l1Own_any g p p I wv (HC2.out.below hbv hBz) (Nat.lt_of_lt_of_le hBz hbv.size) hpI (by omega))
              clear hpv
              go_wp2_with fail
              refine HO.out.mono ?_; rintro e w1 ⟨v, rfl, ⟨hG1, hn1⟩, hb1⟩
              have HG1 := Lib.hid (show GathI wz.heap.size (I.take p) v w1 from ⟨own_mono hG1 hbv.size, hn1⟩)
              clear hG1 hn1 HO
              go_wp2_with fail
              exact Ch.post_pred (F := GathI wz.heap.size (I.take p)) _ hb1 HG1.out
            simp only [Act.put, List.setIfInBounds_toArray, List.set_cons_zero, List.set_cons_succ]
            refine Ch.SeqG.fixStep (.inl ⟨rfl, fun _ => rfl⟩) ?_
            simp only [Act.put, List.setIfInBounds_toArray, List.set_cons_zero, List.set_cons_succ]
            refine Ch.SeqG.predStep LitI.next (fun wv hbv hpv => ?_) (fun v2 => ?_)
            · clear hpv
              go_wp2_with fail
              exact Ch.post_pred (F := LitI (k : Int)) _ (by (repeat (first | exact Below.refl _ _ | refine Below.drew ?_ | refine below_drewN ?_ _ | (refine Below.alloc ?_ (by (try simp) <;> omega) _) | (refine Below.setCell ?_ (by (try simp) <;> omega) _) | (refine Below.trans ?_ (Below.mono (by assumption) (by (try simp) <;> omega)))))) ⟨wv.heap.size, rfl, Blk.new _ _ _⟩
            simp only [Act.put, List.setIfInBounds_toArray, List.set_cons_zero, List.set_cons_succ]
            refine Ch.SeqG.chainStep GathI.next (Nat.le_refl _) (fun wv hbv hpv => ?_) (fun v3 => ?_)
            · obtain ⟨g9, rfl, hc9⟩ := hpv _ (.head _) (by kernel_rfl)
              obtain ⟨hG1, hn1⟩ : GathI wz.heap.size (I.take p) v1 wv := hpv _ (.tail _ (.head _)) (by kernel_rfl)
              clear hpv
              have hl1 := htl.out
              refine wpList_append_own _ rfl _ _ 50 rfl wz.heap.size 3 i0 (.int .i64 0) 1 8 Try.underlying50 HII.out HZ0.out HZ1.out HZ2.out rfl (by decide) _ _ _ rfl hG1 ⟨g9, 0, none⟩ 1 1 (f1 (k : Int)) rfl rfl (lit_src hc9) (fun u hu => by simp [f1] at hu; subst hu; rfl) ?_ ?_ hbv.size ?_
              · rw [hl1]; unfold maxLen; omega
              · rw [hl1]; omega
              · intro v' w' hown hgrow hnil
                exact ⟨rfl, v', rfl, below_grown' (Below.refl _ _ |>.mono hbv.size) hgrow hG1 (Nat.le_refl _) hbv.size, Gath.snoc hown, fun e => hn1 (hnil.1 e).1⟩
            simp only [Act.put, List.setIfInBounds_toArray, List.set_cons_zero, List.set_cons_succ]
            refine Ch.SeqG.fixStep (.inl ⟨rfl, fun _ => rfl⟩) ?_
            simp only [Act.put, List.setIfInBounds_toArray, List.set_cons_zero, List.set_cons_succ]
            refine Ch.SeqG.fixStep (.inl ⟨rfl, fun _ => rfl⟩) ?_
            simp only [Act.put, List.setIfInBounds_toArray, List.set_cons_zero, List.set_cons_succ]
            refine Ch.SeqG.valStep (fun wv hbv hpv => ?_) ?_
            · clear hpv
              go_wp2_with fail
              exact Ch.post_val (Below.refl _ _)
            simp only [Act.put, List.setIfInBounds_toArray, List.set_cons_zero, List.set_cons_succ]
            refine Ch.SeqG.done fun wv hbv hpv => ?_
            obtain ⟨hG3, hn3⟩ : GathI wz.heap.size (I.take p ++ [(k : Int)]) v3 wv := hpv _ (.head _)
            clear hpv
            have zv := hbv.size
            have hl3 := htl.out
            have hd3 := hld.out
            have HPP := Lib.hid (partI_end (a2 := ⟨g, 0, none⟩) HC2.out hBz HPC.out wv (hbv.mono (Nat.le_refl _)))
            refine NoPanI ?_
            refine wpList_append_own _ rfl _ _ 50 rfl wz.heap.size 3 i0 (.int .i64 0) 1 8 Try.underlying50 HII.out HZ0.out HZ1.out HZ2.out rfl (by decide) _ _ _ rfl hG3 ⟨g, 0, none⟩ 0 0 ((I.drop p).flatMap f1) rfl (by rw [hd3]; first | done | rfl | (congr 1; omega) | (congr 1; have := HPC.out; omega)) HPP.out.2 ints_one ?_ ?_ zv ?_
            · rw [List.length_append, hl3, List.length_singleton]; unfold maxLen; omega
            · rw [List.length_append, hl3, List.length_singleton]; omega
            intro v' w1 hown hgrow hnil
            have hb9 : Below W0.heap.size W0 w1 := below_grown' (qB.trans (hbv.mono zz)) hgrow hG3 zz (by omega)
            have hG9 : Gath f1 1 3 w1 W0.heap.size v' (insL I p (k : Int)) := by
              have h9 := own_mono (B' := W0.heap.size) hown (by omega)
              unfold Gath insL
              rw [List.length_append, List.flatMap_append, List.length_drop]
              rw [show I.length - p = 0 by have := HPC.out; omega]; exact h9
            have hv9 : v' ≠ .slice none 0 0 := fun e => hn3 (hnil.1 e).1
            have HX := Lib.hid (And.intro hG9 hv9)
            have HB := Lib.hid hb9
            have HIX := Lib.hid (show IdxOf L (insL I p (k : Int)) (ordM L (k + 1)) by rw [ordM_succ HX0.out, insM_eq HPS.out]; exact idx_ins HIO.out HX0.out hpI)
            have HIL := Lib.hid (insL_len (x := (k : Int)) hpI)
            clear hown hG9 hgrow hG3 hnil hn3 hbv hb9 hv9 qB
            go_wp2_with fail
            refine Ch.NoPan.normal ?_
            go_wp2
            go_roundw
            case rel => exact ⟨k + 1, _, by go_num, by omega, HX.out.1, HX.out.2, HIX.out, by rw [HIL.out]; omega, HB.out⟩
            case measure => simp only [intOf]; omega
          · have hck : p < c := by omega
            have hck2 : ¬ (c = p) := by omega
            have hck3 : (p : Int) ≤ (c : Int) := by omega
            have hck4 : (p : Int) ≤ (I.length : Int) := by omega
            have zz := qB.size
            have hln := Lib.hid (show ((I.take p).flatMap f1).length = p * 1 by rw [flat_len (f := f1) (m := 1) (fun _ => rfl), List.length_take]; congr 1; omega)
            have hld := Lib.hid (flat_dlen (f := f1) (m := 1) (L := I) (i := p) (fun _ => rfl))
            have htl := Lib.hid (show (I.take p).length = p by rw [List.length_take]; omega)
            obtain ⟨i0, hi, hz0, hz1, hz2⟩ := info_parts infoI
            have HII := Lib.hid hi; have HZ0 := Lib.hid hz0; have HZ1 := Lib.hid hz1; have HZ2 := Lib.hid hz2
            clear hi hz0 hz1 hz2
            go_wp2
            refine Ch.wp_region_chain [.fix (.slice (some ⟨g, 0, none⟩) I.length c), .fix (.int .i64 p), .val (.slice (some ⟨g, 0, none⟩) p c), .pred (GathI wz.heap.size (I.take p)), .fix (.int .i64 k), .pred (LitI (k : Int)), .chain wz.heap.size (GathI wz.heap.size (I.take p ++ [(k : Int)])), .fix (.slice (some ⟨g, 0, none⟩) I.length c), .fix (.int .i64 p), .val (.slice (some ⟨g, p, none⟩) (I.length - p) (c - p))] mixed (by kernel_rfl) ?_
            refine Ch.SeqG.fixStep (.inl ⟨rfl, fun _ => rfl⟩) ?_
            simp only [Act.put, List.setIfInBounds_toArray, List.set_cons_zero, List.set_cons_succ]
            refine Ch.SeqG.fixStep (.inl ⟨rfl, fun _ => rfl⟩) ?_
            simp only [Act.put, List.setIfInBounds_toArray, List.set_cons_zero, List.set_cons_succ]
            refine Ch.SeqG.valStep (fun wv hbv hpv => ?_) ?_
            · clear hpv
              go_wp2_with fail
              exact Ch.post_val (Below.refl _ _)
            simp only [Act.put, List.setIfInBounds_toArray, List.set_cons_zero, List.set_cons_succ]
            refine Ch.SeqG.predStep GathI.next (fun wv hbv hpv => ?_) (fun v1 => ?_)
            · have HO := Lib.hid (l1Own_any g c p I wv (HC2.out.below hbv hBz) (Nat.lt_of_lt_of_le hBz hbv.size) hpI (by omega))
              clear hpv
              go_wp2_with fail
              refine HO.out.mono ?_; rintro e w1 ⟨v, rfl, ⟨hG1, hn1⟩, hb1⟩
              have HG1 := Lib.hid (show GathI wz.heap.size (I.take p) v w1 from ⟨own_mono hG1 hbv.size, hn1⟩)
              clear hG1 hn1 HO
              go_wp2_with fail
              exact Ch.post_pred (F := GathI wz.heap.size (I.take p)) _ hb1 HG1.out
            simp only [Act.put, List.setIfInBounds_toArray, List.set_cons_zero, List.set_cons_succ]
            refine Ch.SeqG.fixStep (.inl ⟨rfl, fun _ => rfl⟩) ?_
            simp only [Act.put, List.setIfInBounds_toArray, List.set_cons_zero, List.set_cons_succ]
            refine Ch.SeqG.predStep LitI.next (fun wv hbv hpv => ?_) (fun v2 => ?_)
            · clear hpv
              go_wp2_with fail
              exact Ch.post_pred (F := LitI (k : Int)) _ (by (repeat (first | exact Below.refl _ _ | refine Below.drew ?_ | refine below_drewN ?_ _ | (refine Below.alloc ?_ (by (try simp) <;> omega) _) | (refine Below.setCell ?_ (by (try simp) <;> omega) _) | (refine Below.trans ?_ (Below.mono (by assumption) (by (try simp) <;> omega)))))) ⟨wv.heap.size, rfl, Blk.new _ _ _⟩
            simp only [Act.put, List.setIfInBounds_toArray, List.set_cons_zero, List.set_cons_succ]
            refine Ch.SeqG.chainStep GathI.next (Nat.le_refl _) (fun wv hbv hpv => ?_) (fun v3 => ?_)
            · obtain ⟨g9, rfl, hc9⟩ := hpv _ (.head _) (by kernel_rfl)
              obtain ⟨hG1, hn1⟩ : GathI wz.heap.size (I.take p) v1 wv := hpv _ (.tail _ (.head _)) (by kernel_rfl)
              clear hpv
              have hl1 := htl.out
              refine wpList_append_own _ rfl _ _ 50 rfl wz.heap.size 3 i0 (.int .i64 0) 1 8 Try.underlying50 HII.out HZ0.out HZ1.out HZ2.out rfl (by decide) _ _ _ rfl hG1 ⟨g9, 0, none⟩ 1 1 (f1 (k : Int)) rfl rfl (lit_src hc9) (fun u hu => by simp [f1] at hu; subst hu; rfl) ?_ ?_ hbv.size ?_
              · rw [hl1]; unfold maxLen; omega
              · rw [hl1]; omega
              · intro v' w' hown hgrow hnil
                exact ⟨rfl, v', rfl, below_grown' (Below.refl _ _ |>.mono hbv.size) hgrow hG1 (Nat.le_refl _) hbv.size, Gath.snoc hown, fun e => hn1 (hnil.1 e).1⟩
            simp only [Act.put, List.setIfInBounds_toArray, List.set_cons_zero, List.set_cons_succ]
            refine Ch.SeqG.fixStep (.inl ⟨rfl, fun _ => rfl⟩) ?_
            simp only [Act.put, List.setIfInBounds_toArray, List.set_cons_zero, List.set_cons_succ]
            refine Ch.SeqG.fixStep (.inl ⟨rfl, fun _ => rfl⟩) ?_
            simp only [Act.put, List.setIfInBounds_toArray, List.set_cons_zero, List.set_cons_succ]
            refine Ch.SeqG.valStep (fun wv hbv hpv => ?_) ?_
            · clear hpv
              go_wp2_with fail
              exact Ch.post_val (Below.refl _ _)
            simp only [Act.put, List.setIfInBounds_toArray, List.set_cons_zero, List.set_cons_succ]
            refine Ch.SeqG.done fun wv hbv hpv => ?_
            obtain ⟨hG3, hn3⟩ : GathI wz.heap.size (I.take p ++ [(k : Int)]) v3 wv := hpv _ (.head _)
            clear hpv
            have zv := hbv.size
            have hl3 := htl.out
            have hd3 := hld.out
            have HPP := Lib.hid (partI_mid (k := p) HC2.out hBz wv (hbv.mono (Nat.le_refl _)))
            refine NoPanI ?_
            refine wpList_append_own _ rfl _ _ 50 rfl wz.heap.size 3 i0 (.int .i64 0) 1 8 Try.underlying50 HII.out HZ0.out HZ1.out HZ2.out rfl (by decide) _ _ _ rfl hG3 ⟨g, p, none⟩ (I.length - p) (c - p) ((I.drop p).flatMap f1) rfl (by rw [hd3]; first | done | rfl | (congr 1; omega) | (congr 1; have := HPC.out; omega)) HPP.out.2 ints_one ?_ ?_ zv ?_
            · rw [List.length_append, hl3, List.length_singleton]; unfold maxLen; omega
            · rw [List.length_append, hl3, List.length_singleton]; omega
            intro v' w1 hown hgrow hnil
            have hb9 : Below W0.heap.size W0 w1 := below_grown' (qB.trans (hbv.mono zz)) hgrow hG3 zz (by omega)
            have hG9 : Gath f1 1 3 w1 W0.heap.size v' (insL I p (k : Int)) := by
              have h9 := own_mono (B' := W0.heap.size) hown (by omega)
              unfold Gath insL
              rw [List.length_append, List.flatMap_append, List.length_drop]
              exact h9
            have hv9 : v' ≠ .slice none 0 0 := fun e => hn3 (hnil.1 e).1
            have HX := Lib.hid (And.intro hG9 hv9)
            have HB := Lib.hid hb9
            have HIX := Lib.hid (show IdxOf L (insL I p (k : Int)) (ordM L (k + 1)) by rw [ordM_succ HX0.out, insM_eq HPS.out]; exact idx_ins HIO.out HX0.out hpI)
            have HIL := Lib.hid (insL_len (x := (k : Int)) hpI)
            clear hown hG9 hgrow hG3 hnil hn3 hbv hb9 hv9 qB
            go_wp2_with fail
            refine Ch.NoPan.normal ?_
            go_wp2
            go_roundw
            case rel => exact ⟨k + 1, _, by go_num, by omega, HX.out.1, HX.out.2, HIX.out, by rw [HIL.out]; omega, HB.out⟩
            case measure => simp only [intOf]; omega
        · obtain ⟨q, hq⟩ : ∃ q, q + 1 = p := ⟨p - 1, by omega⟩
          have hqo : q < (ordM L k).length := by rw [← HIO.out.1]; omega
          have hy : (ordM L k)[q]? = some (ordM L k)[q] := List.getElem?_eq_getElem hqo
          generalize (ordM L k)[q] = y at hy
          obtain ⟨i, hi, hyl⟩ := HIO.out.2 q y hy
          have hil := (List.getElem?_eq_some_iff.1 hyl).1
          have hCLq := hCL.out.below hbq hBl
          have cg := cells1 (HCI.out.below hbq hgl) hi
          simp only [Nat.zero_add] at cg
          have cy := (cells3 hCLq hyl).2.2
          have cx := (cells3 hCLq HX0.out).2.2
          have hi0 : (0 : Int) ≤ (i : Int) := by omega
          have hi1 : (i : Int) < (L.length : Int) := by omega
          have htn : ((p : Int) - 1).toNat = q := by omega
          have hj1 : (0 : Int) ≤ (p : Int) - 1 := by omega
          have hj2 : (p : Int) - 1 < (I.length : Int) := by omega
          have hp1 : (0 : Int) < (p : Int) := by omega
          have hw1 : IntKind.i64.wrap ((p : Int) - 1) = (p : Int) - 1 := by rw [IntKind.wrap_i64]; omega
          have HY := Lib.hid hy
          have HQ := Lib.hid hq
          have hd0 : decide (0 < p) = true := decide_eq_true (by omega)
          clear hCLq hy hyl hi hil hqo hpz
          cases hd : decide (x.2.2 < y.2.2)
          · have HPS := Lib.hid (show posM (ordM L k) x (ordM L k).length = p by rw [← HOL.out, hpos.out, ← HQ.out]; exact posM_stop HY.out (by simpa using hd))
            clear hpos hq
            go_wp2
            go_quiet (fail)
            have qB : Below W0.heap.size W0 (wr.drewN nq) := by first | exact HbW.out | exact below_drewN HbW.out _
            have qG : Gath f1 1 3 (wr.drewN nq) W0.heap.size (.slice (some ⟨g, 0, none⟩) I.length c) I := by first | exact HG.out.below hbq | exact (HG.out.below hbq).below (below_drewN (Below.refl _ _) _)
            have qC : Cells f1 1 (wr.drewN nq) g 0 I := (show Cells f1 1 wr g 0 I from HCI.out.below hbq hgl)
            have hBz : g < (wr.drewN nq).heap.size := Nat.lt_of_lt_of_le hgl hbq.size
            clear hd cg cy cx htn hj1 hj2 hw1 hi0 hi1
            have HG2 := Lib.hid qG
            have HC2 := Lib.hid qC
            generalize hWW : (wr.drewN nq) = wz at *
            clear hWW qG qC
            by_cases hcl : p = c
            · have HPC := Lib.hid (show p = I.length by omega)
              subst hcl
              have zz := qB.size
              have hln := Lib.hid (show ((I.take p).flatMap f1).length = p * 1 by rw [flat_len (f := f1) (m := 1) (fun _ => rfl), List.length_take]; congr 1; omega)
              have hld := Lib.hid (flat_dlen (f := f1) (m := 1) (L := I) (i := p) (fun _ => rfl))
              have htl := Lib.hid (show (I.take p).length = p by rw [List.length_take]; omega)
              obtain ⟨i0, hi, hz0, hz1, hz2⟩ := info_parts infoI
              have HII := Lib.hid hi; have HZ0 := Lib.hid hz0; have HZ1 := Lib.hid hz1; have HZ2 := Lib.hid hz2
              clear hi hz0 hz1 hz2
              go_wp2
              refine Ch.wp_region_chain [.fix (.slice (some ⟨g, 0, none⟩) I.length p), .fix (.int .i64 p), .val (.slice (some ⟨g, 0, none⟩) p p), .pred (GathI wz.heap.size (I.take p)), .fix (.int .i64 k), .pred (LitI (k : Int)), .chain wz.heap.size (GathI wz.heap.size (I.take p ++ [(k : Int)])), .fix (.slice (some ⟨g, 0, none⟩) I.length p), .fix (.int .i64 p), .val (.slice (some ⟨g, 0, none⟩) 0 0)] mixed (by kernel_rfl) ?_
              refine Ch.SeqG.fixStep (.inl ⟨rfl, fun _ => rfl⟩) ?_
              simp only [Act.put, List.setIfInBounds_toArray, List.set_cons_zero, List.set_cons_succ]
              refine Ch.SeqG.fixStep (.inl ⟨rfl, fun _ => rfl⟩) ?_
              simp only [Act.put, List.setIfInBounds_toArray, List.set_cons_zero, List.set_cons_succ]
              refine Ch.SeqG.valStep (fun wv hbv hpv => ?_) ?_
              · clear hpv
                go_wp2_with fail
                exact Ch.post_val (Below.refl _ _)
              simp only [Act.put, List.setIfInBounds_toArray, List.set_cons_zero, List.set_cons_succ]
              refine Ch.SeqG.predStep GathI.next (fun wv hbv hpv => ?_) (fun v1 => ?_)
              · have HO := Lib.hid (l1Own_any g p p I wv (HC2.out.below hbv hBz) (Nat.lt_of_lt_of_le hBz hbv.size) hpI (by omega))
                clear hpv
                go_wp2_with fail
                refine HO.out.mono ?_; rintro e w1 ⟨v, rfl, ⟨hG1, hn1⟩, hb1⟩
                have HG1 := Lib.hid (show GathI wz.heap.size (I.take p) v w1 from ⟨own_mono hG1 hbv.size, hn1⟩)
                clear hG1 hn1 HO
                go_wp2_with fail
                exact Ch.post_pred (F := GathI wz.heap.size (I.take p)) _ hb1 HG1.out
              simp only [Act.put, List.setIfInBounds_toArray, List.set_cons_zero, List.set_cons_succ]
              refine Ch.SeqG.fixStep (.inl ⟨rfl, fun _ => rfl⟩) ?_
              simp only [Act.put, List.setIfInBounds_toArray, List.set_cons_zero, List.set_cons_succ]
              refine Ch.SeqG.predStep LitI.next (fun wv hbv hpv => ?_) (fun v2 => ?_)
              · clear hpv
                go_wp2_with fail
                exact Ch.post_pred (F := LitI (k : Int)) _ (by (repeat (first | exact Below.refl _ _ | refine Below.drew ?_ | refine below_drewN ?_ _ | (refine Below.alloc ?_ (by (try simp) <;> omega) _) | (refine Below.setCell ?_ (by (try simp) <;> omega) _) | (refine Below.trans ?_ (Below.mono (by assumption) (by (try simp) <;> omega)))))) ⟨wv.heap.size, rfl, Blk.new _ _ _⟩
              simp only [Act.put, List.setIfInBounds_toArray, List.set_cons_zero, List.set_cons_succ]
              refine Ch.SeqG.chainStep GathI.next (Nat.le_refl _) (fun wv hbv hpv => ?_) (fun v3 => ?_)
              · obtain ⟨g9, rfl, hc9⟩ := hpv _ (.head _) (by kernel_rfl)
                obtain ⟨hG1, hn1⟩ : GathI wz.heap.size (I.take p) v1 wv := hpv _ (.tail _ (.head _)) (by kernel_rfl)
                clear hpv
                have hl1 := htl.out
                refine wpList_append_own _ rfl _ _ 50 rfl wz.heap.size 3 i0 (.int .i64 0) 1 8 Try.underlying50 HII.out HZ0.out HZ1.out HZ2.out rfl (by decide) _ _ _ rfl hG1 ⟨g9, 0, none⟩ 1 1 (f1 (k : Int)) rfl rfl (lit_src hc9) (fun u hu => by simp [f1] at hu; subst hu; rfl) ?_ ?_ hbv.size ?_
                · rw [hl1]; unfold maxLen; omega
                · rw [hl1]; omega
                · intro v' w' hown hgrow hnil
                  exact ⟨rfl, v', rfl, below_grown' (Below.refl _ _ |>.mono hbv.size) hgrow hG1 (Nat.le_refl _) hbv.size, Gath.snoc hown, fun e => hn1 (hnil.1 e).1⟩
              simp only [Act.put, List.setIfInBounds_toArray, List.set_cons_zero, List.set_cons_succ]
              refine Ch.SeqG.fixStep (.inl ⟨rfl, fun _ => rfl⟩) ?_
              simp only [Act.put, List.setIfInBounds_toArray, List.set_cons_zero, List.set_cons_succ]
              refine Ch.SeqG.fixStep (.inl ⟨rfl, fun _ => rfl⟩) ?_
              simp only [Act.put, List.setIfInBounds_toArray, List.set_cons_zero, List.set_cons_succ]
              refine Ch.SeqG.valStep (fun wv hbv hpv => ?_) ?_
              · clear hpv
                go_wp2_with fail
                exact Ch.post_val (Below.refl _ _)
              simp only [Act.put, List.setIfInBounds_toArray, List.set_cons_zero, List.set_cons_succ]
              refine Ch.SeqG.done fun wv hbv hpv => ?_
              obtain ⟨hG3, hn3⟩ : GathI wz.heap.size (I.take p ++ [(k : Int)]) v3 wv := hpv _ (.head _)
              clear hpv
              have zv := hbv.size
              have hl3 := htl.out
              have hd3 := hld.out
              have HPP := Lib.hid (partI_end (a2 := ⟨g, 0, none⟩) HC2.out hBz HPC.out wv (hbv.mono (Nat.le_refl _)))
              refine NoPanI ?_
              refine wpList_append_own _ rfl _ _ 50 rfl wz.heap.size 3 i0 (.int .i64 0) 1 8 Try.underlying50 HII.out HZ0.out HZ1.out HZ2.out rfl (by decide) _ _ _ rfl hG3 ⟨g, 0, none⟩ 0 0 ((I.drop p).flatMap f1) rfl (by rw [hd3]; first | done | rfl | (congr 1; omega) | (congr 1; have := HPC.out; omega)) HPP.out.2 ints_one ?_ ?_ zv ?_
              · rw [List.length_append, hl3, List.length_singleton]; unfold maxLen; omega
              · rw [List.length_append, hl3, List.length_singleton]; omega
              intro v' w1 hown hgrow hnil
              have hb9 : Below W0.heap.size W0 w1 := below_grown' (qB.trans (hbv.mono zz)) hgrow hG3 zz (by omega)
              have hG9 : Gath f1 1 3 w1 W0.heap.size v' (insL I p (k : Int)) := by
                have h9 := own_mono (B' := W0.heap.size) hown (by omega)
                unfold Gath insL
                rw [List.length_append, List.flatMap_append, List.length_drop]
                rw [show I.length - p = 0 by have := HPC.out; omega]; exact h9
              have hv9 : v' ≠ .slice none 0 0 := fun e => hn3 (hnil.1 e).1
              have HX := Lib.hid (And.intro hG9 hv9)
              have HB := Lib.hid hb9
              have HIX := Lib.hid (show IdxOf L (insL I p (k : Int)) (ordM L (k + 1)) by rw [ordM_succ HX0.out, insM_eq HPS.out]; exact idx_ins HIO.out HX0.out hpI)
              have HIL := Lib.hid (insL_len (x := (k : Int)) hpI)
              clear hown hG9 hgrow hG3 hnil hn3 hbv hb9 hv9 qB
              go_wp2_with fail
              refine Ch.NoPan.normal ?_
              go_wp2
              go_roundw
              case rel => exact ⟨k + 1, _, by go_num, by omega, HX.out.1, HX.out.2, HIX.out, by rw [HIL.out]; omega, HB.out⟩
              case measure => simp only [intOf]; omega
            · have hck : p < c := by omega
              have hck2 : ¬ (c = p) := by omega
              have hck3 : (p : Int) ≤ (c : Int) := by omega
              have hck4 : (p : Int) ≤ (I.length : Int) := by omega
              have zz := qB.size
              have hln := Lib.hid (show ((I.take p).flatMap f1).length = p * 1 by rw [flat_len (f := f1) (m := 1) (fun _ => rfl), List.length_take]; congr 1; omega)
              have hld := Lib.hid (flat_dlen (f := f1) (m := 1) (L := I) (i := p) (fun _ => rfl))
              have htl := Lib.hid (show (I.take p).length = p by rw [List.length_take]; omega)
              obtain ⟨i0, hi, hz0, hz1, hz2⟩ := info_parts infoI
              have HII := Lib.hid hi; have HZ0 := Lib.hid hz0; have HZ1 := Lib.hid hz1; have HZ2 := Lib.hid hz2
              clear hi hz0 hz1 hz2
              go_wp2
              refine Ch.wp_region_chain [.fix (.slice (some ⟨g, 0, none⟩) I.length c), .fix (.int .i64 p), .val (.slice (some ⟨g, 0, none⟩) p c), .pred (GathI wz.heap.size (I.take p)), .fix (.int .i64 k), .pred (LitI (k : Int)), .chain wz.heap.size (GathI wz.heap.size (I.take p ++ [(k : Int)])), .fix (.slice (some ⟨g, 0, none⟩) I.length c), .fix (.int .i64 p), .val (.slice (some ⟨g, p, none⟩) (I.length - p) (c - p))] mixed (by kernel_rfl) ?_
              refine Ch.SeqG.fixStep (.inl ⟨rfl, fun _ => rfl⟩) ?_
              simp only [Act.put, List.setIfInBounds_toArray, List.set_cons_zero, List.set_cons_succ]
              refine Ch.SeqG.fixStep (.inl ⟨rfl, fun _ => rfl⟩) ?_
              simp only [Act.put, List.setIfInBounds_toArray, List.set_cons_zero, List.set_cons_succ]
              refine Ch.SeqG.valStep (fun wv hbv hpv => ?_) ?_
              · clear hpv
                go_wp2_with fail
                exact Ch.post_val (Below.refl _ _)
              simp only [Act.put, List.setIfInBounds_toArray, List.set_cons_zero, List.set_cons_succ]
              refine Ch.SeqG.predStep GathI.next (fun wv hbv hpv => ?_) (fun v1 => ?_)
              · have HO := Lib.hid (l1Own_any g c p I wv (HC2.out.below hbv hBz) (Nat.lt_of_lt_of_le hBz hbv.size) hpI (by omega))
                clear hpv
                go_wp2_with fail
                refine HO.out.mono ?_; rintro e w1 ⟨v, rfl, ⟨hG1, hn1⟩, hb1⟩
                have HG1 := Lib.hid (show GathI wz.heap.size (I.take p) v w1 from ⟨own_mono hG1 hbv.size, hn1⟩)
                clear hG1 hn1 HO
                go_wp2_with fail
                exact Ch.post_pred (F := GathI wz.heap.size (I.take p)) _ hb1 HG1.out
              simp only [Act.put, List.setIfInBounds_toArray, List.set_cons_zero, List.set_cons_succ]
              refine Ch.SeqG.fixStep (.inl ⟨rfl, fun _ => rfl⟩) ?_
              simp only [Act.put, List.setIfInBounds_toArray, List.set_cons_zero, List.set_cons_succ]
              refine Ch.SeqG.predStep LitI.next (fun wv hbv hpv => ?_) (fun v2 => ?_)
              · clear hpv
                go_wp2_with fail
                exact Ch.post_pred (F := LitI (k : Int)) _ (by (repeat (first | exact Below.refl _ _ | refine Below.drew ?_ | refine below_drewN ?_ _ | (refine Below.alloc ?_ (by (try simp) <;> omega) _) | (refine Below.setCell ?_ (by (try simp) <;> omega) _) | (refine Below.trans ?_ (Below.mono (by assumption) (by (try simp) <;> omega)))))) ⟨wv.heap.size, rfl, Blk.new _ _ _⟩
              simp only [Act.put, List.setIfInBounds_toArray, List.set_cons_zero, List.set_cons_succ]
              refine Ch.SeqG.chainStep GathI.next (Nat.le_refl _) (fun wv hbv hpv => ?_) (fun v3 => ?_)
              · obtain ⟨g9, rfl, hc9⟩ := hpv _ (.head _) (by kernel_rfl)
                obtain ⟨hG1, hn1⟩ : GathI wz.heap.size (I.take p) v1 wv := hpv _ (.tail _ (.head _)) (by kernel_rfl)
                clear hpv
                have hl1 := htl.out
                refine wpList_append_own _ rfl _ _ 50 rfl wz.heap.size 3 i0 (.int .i64 0) 1 8 Try.underlying50 HII.out HZ0.out HZ1.out HZ2.out rfl (by decide) _ _ _ rfl hG1 ⟨g9, 0, none⟩ 1 1 (f1 (k : Int)) rfl rfl (lit_src hc9) (fun u hu => by simp [f1] at hu; subst hu; rfl) ?_ ?_ hbv.size ?_
                · rw [hl1]; unfold maxLen; omega
                · rw [hl1]; omega
                · intro v' w' hown hgrow hnil
                  exact ⟨rfl, v', rfl, below_grown' (Below.refl _ _ |>.mono hbv.size) hgrow hG1 (Nat.le_refl _) hbv.size, Gath.snoc hown, fun e => hn1 (hnil.1 e).1⟩
              simp only [Act.put, List.setIfInBounds_toArray, List.set_cons_zero, List.set_cons_succ]
              refine Ch.SeqG.fixStep (.inl ⟨rfl, fun _ => rfl⟩) ?_
              simp only [Act.put, List.setIfInBounds_toArray, List.set_cons_zero, List.set_cons_succ]
              refine Ch.SeqG.fixStep (.inl ⟨rfl, fun _ => rfl⟩) ?_
              simp only [Act.put, List.setIfInBounds_toArray, List.set_cons_zero, List.set_cons_succ]
              refine Ch.SeqG.valStep (fun wv hbv hpv => ?_) ?_
              · clear hpv
                go_wp2_with fail
                exact Ch.post_val (Below.refl _ _)
              simp only [Act.put, List.setIfInBounds_toArray, List.set_cons_zero, List.set_cons_succ]
              refine Ch.SeqG.done fun wv hbv hpv => ?_
              obtain ⟨hG3, hn3⟩ : GathI wz.heap.size (I.take p ++ [(k : Int)]) v3 wv := hpv _ (.head _)
              clear hpv
              have zv := hbv.size
              have hl3 := htl.out
              have hd3 := hld.out
              have HPP := Lib.hid (partI_mid (k := p) HC2.out hBz wv (hbv.mono (Nat.le_refl _)))
              refine NoPanI ?_
              refine wpList_append_own _ rfl _ _ 50 rfl wz.heap.size 3 i0 (.int .i64 0) 1 8 Try.underlying50 HII.out HZ0.out HZ1.out HZ2.out rfl (by decide) _ _ _ rfl hG3 ⟨g, p, none⟩ (I.length - p) (c - p) ((I.drop p).flatMap f1) rfl (by rw [hd3]; first | done | rfl | (congr 1; omega) | (congr 1; have := HPC.out; omega)) HPP.out.2 ints_one ?_ ?_ zv ?_
              · rw [List.length_append, hl3, List.length_singleton]; unfold maxLen; omega
              · rw [List.length_append, hl3, List.length_singleton]; omega
              intro v' w1 hown hgrow hnil
              have hb9 : Below W0.heap.size W0 w1 := below_grown' (qB.trans (hbv.mono zz)) hgrow hG3 zz (by omega)
              have hG9 : Gath f1 1 3 w1 W0.heap.size v' (insL I p (k : Int)) := by
                have h9 := own_mono (B' := W0.heap.size) hown (by omega)
                unfold Gath insL
                rw [List.length_append, List.flatMap_append, List.length_drop]
                exact h9
              have hv9 : v' ≠ .slice none 0 0 := fun e => hn3 (hnil.1 e).1
              have HX := Lib.hid (And.intro hG9 hv9)
              have HB := Lib.hid hb9
              have HIX := Lib.hid (show IdxOf L (insL I p (k : Int)) (ordM L (k + 1)) by rw [ordM_succ HX0.out, insM_eq HPS.out]; exact idx_ins HIO.out HX0.out hpI)
              have HIL := Lib.hid (insL_len (x := (k : Int)) hpI)
              clear hown hG9 hgrow hG3 hnil hn3 hbv hb9 hv9 qB
              go_wp2_with fail
              refine Ch.NoPan.normal ?_
              go_wp2
              go_roundw
              case rel => exact ⟨k + 1, _, by go_num, by omega, HX.out.1, HX.out.2, HIX.out, by rw [HIL.out]; omega, HB.out⟩
              case measure => simp only [intOf]; omega
          · have HPD := Lib.hid (show posM (ordM L k) x I.length = posM (ordM L k) x q by rw [hpos.out, ← HQ.out]; exact posM_down HY.out (by simpa using hd))
            clear hpos hq
            go_wp2
            go_quiet (fail)
            go_wp2
            go_roundw
            case rel => exact ⟨q, by have := HQ.out; first | (congr 1; omega) | go_num | (simp; omega), by have := HQ.out; omega, HPD.out, by first | exact hbq | exact below_drewN hbq _⟩
            case measure => have := HQ.out; simp only [intOf]; omega
    · have hkl : k = L.length := by omega
      have hk1 : ¬ (k : Int) < (L.length : Int) := by omega
      rw [hkl] at hIO
      obtain ⟨A9, c9, rfl, ho⟩ := Gath.own (f := f1) (m := 1) (fun _ => rfl) hG
      have HS := Lib.hid ho.sl
      have HIO := Lib.hid hIO.out
      clear hkl hlt hG ho hIO hv3
      go_wp2
      go_ret
      exact ⟨A9, c9, I, rfl, HIO.out, HS.out, hb⟩
end Go.Proofs.Ytjpoaiiminofdaa
