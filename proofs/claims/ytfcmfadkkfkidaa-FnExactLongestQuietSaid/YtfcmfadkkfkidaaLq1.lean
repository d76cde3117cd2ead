/-
  l1Put: a number put to its place.
-/
import Derived.Test.YtfcmfadkkfkidaaLq0
import Derived.Test.YtfcmfadkkfkidaaAdd2
import Derived.Test.YtfcmfadkkfkidaaChn
import Derived.Test.YtfcmfadkkfkidaaOtw1
import Derived.Deep.DeepCutAuto
import Derived.ArgAppend
import Derived.WalkKit
import Derived.WalkSpells
import Derived.WalkLawsBesides
import Derived.Lib.Hide
import Derived.Deep.QuietTactic
import Derived.BigQuiet
import Derived.StillTailTactics
namespace Go.Proofs.Ytfcmfadkkfkidaa
open Go.RowKit

theorem NoPanI {P : Program} {ops : Array Oper} {Q : Exit → Act → World → Prop} {l : List Oper} {a : Act} {w : World} (h : wpList P ops Q l a w) : wpList P ops Q l a w := h
theorem ints_one {L : List Int} : ∀ u ∈ L.flatMap f1, u.oneCell' = true := by
  intro u hu
  obtain ⟨x, _, hx⟩ := List.mem_flatMap.1 hu
  rw [List.mem_singleton.1 hx]
  rfl
/-- A slice of ints of the call's own, from block B on. -/
def GathI (B : Nat) (L : List Int) (v : Value) (w : World) : Prop := Gath f1 1 3 w B v L ∧ v ≠ .slice none 0 0
theorem GathI.next {B : Nat} {L : List Int} : ∀ (v : Value) (w w' : World), Below w.heap.size w w' → GathI B L v w → GathI B L v w' := fun _ _ _ hb h => ⟨h.1.below hb, h.2⟩
def EmpI (B : Nat) (v : Value) (w : World) : Prop := ∃ g, v = .slice (some ⟨g, 0, none⟩) 0 0 ∧ B ≤ g ∧ Gath f1 1 3 w B v []
theorem EmpI.next {B : Nat} : ∀ (v : Value) (w w' : World), Below w.heap.size w w' → EmpI B v w → EmpI B v w' := fun _ _ _ hb ⟨g, h1, h2, h3⟩ => ⟨g, h1, h2, h3.below hb⟩
def LitI (x : Int) (v : Value) (w : World) : Prop := ∃ g, v = .slice (some ⟨g, 0, none⟩) 1 1 ∧ Blk w g 3 #[.int .i64 x]
theorem LitI.next {x : Int} : ∀ (v : Value) (w w' : World), Below w.heap.size w w' → LitI x v w → LitI x v w' := fun _ _ _ hb ⟨g, h1, h3⟩ => ⟨g, h1, h3.below' hb⟩
theorem lit_src {w : World} {g : Nat} {x : Int} (h : Blk w g 3 #[.int .i64 x]) : ∀ j u, (f1 x)[j]? = some u → w.cell? ((⟨g, 0, none⟩ : Addr).add j) = some u := by
  intro j u hj
  rw [Go.WideShapes.add_plain, Nat.zero_add]
  have hc := h.cell j
  rw [hc]
  simpa [f1] using hj
/-- What the two parts of a list of ints read. -/
def PartI (W : World) (L : List Int) (k : Nat) (a1 a2 : Addr) : Prop := ∀ wv, Below W.heap.size W wv → (∀ j u, ((L.take k).flatMap f1)[j]? = some u → wv.cell? (a1.add j) = some u) ∧ (∀ j u, ((L.drop k).flatMap f1)[j]? = some u → wv.cell? (a2.add j) = some u)
theorem partI_mid {W : World} {L : List Int} {k b : Nat} (h : Cells f1 1 W b 0 L) (hb : b < W.heap.size) : PartI W L k ⟨b, 0, none⟩ ⟨b, k, none⟩ := fun _ hw =>
  ⟨cells_flat (f := f1) (m := 1) (fun _ => rfl) (by omega) ((h.below hw hb).take k), by
    have := cells_flat (f := f1) (m := 1) (fun _ => rfl) (by omega) (cells_drop (h.below hw hb) k)
    rwa [show 0 + k * 1 = k by omega] at this⟩
theorem partI_end {W : World} {L : List Int} {k b : Nat} {a2 : Addr} (h : Cells f1 1 W b 0 L) (hb : b < W.heap.size) (hk : k = L.length) : PartI W L k ⟨b, 0, none⟩ a2 := fun _ hw =>
  ⟨cells_flat (f := f1) (m := 1) (fun _ => rfl) (by omega) ((h.below hw hb).take k), fun j u h => by rw [List.drop_of_length_le (by omega)] at h; simp at h⟩
theorem Gath.form1 {t : TypeId} {w : World} {B : Nat} {v : Value} {L : List Int} (h : Gath f1 1 t w B v L) (hv : v ≠ .slice none 0 0) :
    ∃ g c, v = .slice (some ⟨g, 0, none⟩) L.length c ∧ B ≤ g ∧ L.length ≤ c ∧ g < w.heap.size ∧ Cells f1 1 w g 0 L := by
  obtain ⟨A, c0, e, ho⟩ := Gath.own (f := f1) (m := 1) (fun _ => rfl) h
  obtain ⟨h0, ⟨hn, _⟩ | ⟨g, cap, cur, hv', hB, hh, hn, hcm, hs, ht⟩⟩ := h
  · exact absurd hn hv
  · refine ⟨g, cap, hv', hB, hn, ?_, ?_⟩
    · rcases Nat.lt_or_ge g w.heap.size with h | h
      · exact h
      · rw [Array.getElem?_eq_none h] at hh; cases hh
    · rw [hv'] at e
      injection e with e1 _ _
      intro k x hx
      obtain ⟨g1, e2, _, _, hC⟩ := ho (SlR.ne hx)
      rw [e2] at e1
      injection e1 with e1
      injection e1 with e1
      subst e1
      exact hC k x hx

set_option maxRecDepth 20000 in
set_option maxHeartbeats 16000000 in
theorem l1Put_any (B : Nat) (v : Value) (O : List Int) (n : Int) (w : World) (hG : Gath f1 1 3 w B v O) (hv : v ≠ .slice none 0 0) (hB : B ≤ w.heap.size) (hm : (O.length : Int) ≤ 1000000) :
    Calls Try.prog 83 #[v, .int .i64 n] w fun e w' => ∃ v', e = .returned v' ∧ Gath f1 1 3 w' B v' (putL O n) ∧ v' ≠ .slice none 0 0 ∧ Below w.heap.size w w' := by
  obtain ⟨g, c, rfl, hg, hcc, hgl, hC⟩ := hG.form1 hv
  have hm0 : (0 : Int) ≤ O.length := by omega
  have hHG := Lib.hid hG
  clear hG hv
  go_enter Try.func83, Try.ntmps83
  go_wp2
  go_loopw [5] (fun i wr => ∃ k : Nat, i = .int .i64 k ∧ k ≤ O.length ∧ Hid (ldI O n = k + ldI (O.drop k) n) ∧ Below w.heap.size w wr) (fun i _ => (O.length - intOf i).toNat)
  case atStart => exact ⟨0, rfl, by omega, by show _ = _; rw [List.drop_zero, Nat.zero_add], Below.refl _ _⟩
  case round =>
    obtain ⟨k, rfl, hk, hs, hb⟩ := hrel
    have zr := hb.size
    have hk0 : (0 : Int) ≤ (k : Int) := by omega
    have hCr := hC.below hb hgl
    have HC := Lib.hid hCr
    have HGr := Lib.hid (hHG.out.below hb)
    have hBr : g < wr.heap.size := by omega
    by_cases hlt : k < O.length
    · have hx : O[k]? = some O[k] := List.getElem?_eq_getElem hlt
      generalize O[k] = x at *
      have hk1 : (k : Int) < (O.length : Int) := by omega
      have c0 := cells1 hCr hx
      simp only [Nat.zero_add] at c0
      cases hd : decide (x < n)
      · have HK := Lib.hid (ldI_stop hx hs.out (of_decide_eq_false hd))
        have HX0 := Lib.hid hx
        clear hs hx hC hCr hHG
        have qB := hb
        have HC2 := Lib.hid (show Cells f1 1 wr g 0 O from HC.out)
        have HG : Hid (Gath f1 1 3 wr B (.slice (some ⟨g, 0, none⟩) O.length c) O) := HGr.out
        have hBz : g < wr.heap.size := hBr
        clear hb zr HC hBr HGr
        generalize wr = wz at *
        by_cases he : x = n
        · have hq : (x == n) = true := by simpa using he
          have HV := Lib.hid (putL_same HK.out HX0.out he)
          clear he
          have HX := Lib.hid (show Gath f1 1 3 wz B (.slice (some ⟨g, 0, none⟩) O.length c) (putL O n) by rw [HV.out]; exact HG.out)
          have HB := Lib.hid qB
          clear qB HG HC2
          go_wp2
          refine bodyPost_ret (v := .slice (some ⟨g, 0, none⟩) O.length c) (by simp [results, Try.results83, go_sem, *] <;> rfl) rfl ?_
          exact ⟨_, rfl, HX.out, by simp, HB.out⟩
        · have hq : (x == n) = false := by simpa using he
          have HV := Lib.hid (putL_ins HK.out HX0.out he)
          clear he HX0
          have hck : k < c := by omega
          have hck2 : ¬ (c = k) := by omega
          have hck3 : (k : Int) ≤ (c : Int) := by omega
          have HP := Lib.hid (partI_mid (k := k) HC2.out hBz)
          clear HC2
          have zz := qB.size
          have hkk : k ≤ O.length := by omega
          have hln := Lib.hid (show ((O.take k).flatMap f1).length = k * 1 by rw [flat_len (f := f1) (m := 1) (fun _ => rfl), List.length_take]; congr 1; omega)
          have hld := Lib.hid (flat_dlen (f := f1) (m := 1) (L := O) (i := k) (fun _ => rfl))
          have htl := Lib.hid (show (O.take k).length = k by rw [List.length_take]; omega)
          obtain ⟨i0, hi, hz0, hz1, hz2⟩ := info_parts infoI
          have HII := Lib.hid hi; have HZ0 := Lib.hid hz0; have HZ1 := Lib.hid hz1; have HZ2 := Lib.hid hz2
          clear hi hz0 hz1 hz2
          go_wp2
          refine Ch.wp_region_chain [.pred (EmpI wz.heap.size), .fix (.slice (some ⟨g, 0, none⟩) O.length c), .fix (.int .i64 k), .val (.slice (some ⟨g, 0, none⟩) k c), .pred (GathI wz.heap.size (O.take k)), .fix (.int .i64 n), .pred (LitI n), .chain wz.heap.size (GathI wz.heap.size (O.take k ++ [n])), .fix (.slice (some ⟨g, 0, none⟩) O.length c), .fix (.int .i64 k), .val (.slice (some ⟨g, k, none⟩) (O.length - k) (c - k))] mixed (by kernel_rfl) ?_
          refine Ch.SeqG.predStep EmpI.next (fun wv hbv hpv => ?_) (fun v0 => ?_)
          · clear hpv
            go_wp2_with fail
            exact Ch.post_pred (F := EmpI wz.heap.size) _ (by (repeat (first | exact Below.refl _ _ | refine Below.drew ?_ | refine below_drewN ?_ _ | (refine Below.alloc ?_ (by (try simp) <;> omega) _) | (refine Below.setCell ?_ (by (try simp) <;> omega) _) | (refine Below.trans ?_ (Below.mono (by assumption) (by (try simp) <;> omega)))))) ⟨_, rfl, hbv.size, Gath.made hbv.size⟩
          simp only [Act.put, List.setIfInBounds_toArray, List.set_cons_zero, List.set_cons_succ]
          refine Ch.SeqG.fixStep (.inl ⟨rfl, fun _ => rfl⟩) ?_
          simp only [Act.put, List.setIfInBounds_toArray, List.set_cons_zero, List.set_cons_succ]
          refine Ch.SeqG.fixStep (.inl ⟨rfl, fun _ => rfl⟩) ?_
          simp only [Act.put, List.setIfInBounds_toArray, List.set_cons_zero, List.set_cons_succ]
          refine Ch.SeqG.valStep (fun wv hbv hpv => ?_) ?_
          · clear hpv
            go_wp2_with fail
            exact Ch.post_val (Below.refl _ _)
          simp only [Act.put, List.setIfInBounds_toArray, List.set_cons_zero, List.set_cons_succ]
          refine Ch.SeqG.predStep GathI.next (fun wv hbv hpv => ?_) (fun v1 => ?_)
          · obtain ⟨g0, rfl, hg0, hE0⟩ := hpv _ (.head _) (by kernel_rfl)
            clear hpv
            refine wpList_append_arg _ rfl _ _ 44 rfl 3 i0 (.int .i64 0) 1 8 Try.underlying44 HII.out HZ0.out HZ1.out HZ2.out rfl (by decide) g0 0 0 0 [] rfl rfl (by intro j u h; simp at h) ⟨g, 0, none⟩ k c ((O.take k).flatMap f1) rfl (by rw [hln.out]) (HP.out wv hbv).1 ints_one ?_ ?_ ?_ ?_ ?_
            · intro h; intro j hj; rw [hln.out] at hj; omega
            · unfold maxLen; omega
            · omega
            · intro h
              have hk0' : k = 0 := by omega
              have e0 : O.take k = [] := by rw [hk0']; rfl
              rw [e0]
              simp only [List.flatMap_nil, World.setCells]
              exact ⟨rfl, _, by simp [hk0', Act.put], Below.refl _ _, hE0, by simp⟩
            · intro h v' w' hown hgrow
              refine ⟨rfl, v', rfl, below_grown hgrow (fun k h => by cases h), ?_, ?_⟩
              · have := own_mono hown hbv.size
                unfold Gath; rw [htl.out]; simpa using this
              · intro e; subst e; obtain ⟨_, ⟨_, h0⟩ | ⟨_, _, _, h0, _⟩⟩ := hown
                · omega
                · cases h0
          simp only [Act.put, List.setIfInBounds_toArray, List.set_cons_zero, List.set_cons_succ]
          refine Ch.SeqG.fixStep (.inl ⟨rfl, fun _ => rfl⟩) ?_
          simp only [Act.put, List.setIfInBounds_toArray, List.set_cons_zero, List.set_cons_succ]
          refine Ch.SeqG.predStep LitI.next (fun wv hbv hpv => ?_) (fun v2 => ?_)
          · clear hpv
            go_wp2_with fail
            exact Ch.post_pred (F := LitI n) _ (by (repeat (first | exact Below.refl _ _ | refine Below.drew ?_ | refine below_drewN ?_ _ | (refine Below.alloc ?_ (by (try simp) <;> omega) _) | (refine Below.setCell ?_ (by (try simp) <;> omega) _) | (refine Below.trans ?_ (Below.mono (by assumption) (by (try simp) <;> omega)))))) ⟨wv.heap.size, rfl, Blk.new _ _ _⟩
          simp only [Act.put, List.setIfInBounds_toArray, List.set_cons_zero, List.set_cons_succ]
          refine Ch.SeqG.chainStep GathI.next (Nat.le_refl _) (fun wv hbv hpv => ?_) (fun v3 => ?_)
          · obtain ⟨g9, rfl, hc9⟩ := hpv _ (.head _) (by kernel_rfl)
            obtain ⟨hG1, hn1⟩ : GathI wz.heap.size (O.take k) v1 wv := hpv _ (.tail _ (.head _)) (by kernel_rfl)
            clear hpv
            have hl1 := htl.out
            refine wpList_append_own _ rfl _ _ 44 rfl wz.heap.size 3 i0 (.int .i64 0) 1 8 Try.underlying44 HII.out HZ0.out HZ1.out HZ2.out rfl (by decide) _ _ _ rfl hG1 ⟨g9, 0, none⟩ 1 1 (f1 n) rfl rfl (lit_src hc9) (fun u hu => by simp [f1] at hu; subst hu; rfl) ?_ ?_ hbv.size ?_
            · rw [hl1]; unfold maxLen; omega
            · rw [hl1]; omega
            · intro v' w' hown hgrow hnil
              exact ⟨rfl, v', rfl, below_grown' (Below.refl _ _ |>.mono hbv.size) hgrow hG1 (Nat.le_refl _) hbv.size, Gath.snoc hown, fun e => hn1 (hnil.1 e).1⟩
          simp only [Act.put, List.setIfInBounds_toArray, List.set_cons_zero, List.set_cons_succ]
          refine Ch.SeqG.fixStep (.inl ⟨rfl, fun _ => rfl⟩) ?_
          simp only [Act.put, List.setIfInBounds_toArray, List.set_cons_zero, List.set_cons_succ]
          refine Ch.SeqG.fixStep (.inl ⟨rfl, fun _ => rfl⟩) ?_
          simp only [Act.put, List.setIfInBounds_toArray, List.set_cons_zero, List.set_cons_succ]
          refine Ch.SeqG.valStep (fun wv hbv hpv => ?_) ?_
          · clear hpv
            go_wp2_with fail
            exact Ch.post_val (Below.refl _ _)
          simp only [Act.put, List.setIfInBounds_toArray, List.set_cons_zero, List.set_cons_succ]
          refine Ch.SeqG.done fun wv hbv hpv => ?_
          obtain ⟨hG3, hn3⟩ : GathI wz.heap.size (O.take k ++ [n]) v3 wv := hpv _ (.head _)
          clear hpv
          have zv := hbv.size
          have hl3 := htl.out
          have hd3 := hld.out
          refine NoPanI ?_
          refine wpList_append_own _ rfl _ _ 44 rfl wz.heap.size 3 i0 (.int .i64 0) 1 8 Try.underlying44 HII.out HZ0.out HZ1.out HZ2.out rfl (by decide) _ _ _ rfl hG3 ⟨g, k, none⟩ (O.length - k) (c - k) ((O.drop k).flatMap f1) rfl (by rw [hd3]; first | done | rfl | (congr 1; omega) | (congr 1; have := HKL.out; omega)) (HP.out wv (hbv.mono (Nat.le_refl _))).2 ints_one ?_ ?_ zv ?_
          · rw [List.length_append, hl3, List.length_singleton]; unfold maxLen; omega
          · rw [List.length_append, hl3, List.length_singleton]; omega
          intro v' w1 hown hgrow hnil
          have hb9 : Below w.heap.size w w1 := below_grown' (qB.trans (hbv.mono zz)) hgrow hG3 zz (by omega)
          have hG9 : Gath f1 1 3 w1 B v' (insL O k n) := by
            have h9 := own_mono (B' := B) hown (by omega)
            unfold Gath insL
            rw [List.length_append, List.flatMap_append, List.length_drop]
            exact h9
          have hv9 : v' ≠ .slice none 0 0 := fun e => hn3 (hnil.1 e).1
          have HX := Lib.hid (show Gath f1 1 3 w1 B v' (putL O n) ∧ v' ≠ .slice none 0 0 by rw [HV.out]; exact ⟨hG9, hv9⟩)
          have HB := Lib.hid hb9
          clear hown hG9 hgrow hG3 hnil hn3 hbv HP hb9 hv9 qB HG
          go_wp2_with fail
          refine Ch.NoPan.normal ?_
          go_wp2
          refine bodyPost_ret (v := v') (by simp [results, Try.results83, go_sem, *] <;> rfl) rfl ?_
          exact ⟨v', rfl, HX.out.1, HX.out.2, HB.out⟩
      · have HS := Lib.hid (ldI_go hx hs.out (of_decide_eq_true hd))
        clear hs hx hC hCr HC HGr hHG
        go_wp2
        go_roundw
        case rel => exact ⟨k + 1, by go_num, by omega, HS, by first | exact hb | exact below_drewN hb _⟩
        case measure => simp only [intOf]; omega
    · have hkl : k = O.length := by omega
      have hg0 : decide (k < O.length) = false := decide_eq_false (by omega)
      have HK := Lib.hid (show ldI O n = k by have h := hs.out; rw [hkl] at h ⊢; exact ldI_end h)
      have HKL := Lib.hid hkl
      have HV := Lib.hid (putL_end HK.out HKL.out)
      have hk1 : ¬ (k : Int) < (O.length : Int) := by omega
      clear hs hlt hkl hC hCr hHG
      have qB := hb
      have HC2 := Lib.hid (show Cells f1 1 wr g 0 O from HC.out)
      have HG : Hid (Gath f1 1 3 wr B (.slice (some ⟨g, 0, none⟩) O.length c) O) := HGr.out
      have hBz : g < wr.heap.size := hBr
      clear hb zr HC hBr HGr
      generalize wr = wz at *
      by_cases hcl : c = O.length
      · skip
        have hkc : k = c := by have := HKL.out; omega
        clear hcl
        subst hkc
        have HP := Lib.hid (partI_end (a2 := ⟨g, 0, none⟩) HC2.out hBz HKL.out)
        clear HC2
        have zz := qB.size
        have hkk : k ≤ O.length := by omega
        have hln := Lib.hid (show ((O.take k).flatMap f1).length = k * 1 by rw [flat_len (f := f1) (m := 1) (fun _ => rfl), List.length_take]; congr 1; omega)
        have hld := Lib.hid (flat_dlen (f := f1) (m := 1) (L := O) (i := k) (fun _ => rfl))
        have htl := Lib.hid (show (O.take k).length = k by rw [List.length_take]; omega)
        obtain ⟨i0, hi, hz0, hz1, hz2⟩ := info_parts infoI
        have HII := Lib.hid hi; have HZ0 := Lib.hid hz0; have HZ1 := Lib.hid hz1; have HZ2 := Lib.hid hz2
        clear hi hz0 hz1 hz2
        go_wp2
        refine Ch.wp_region_chain [.pred (EmpI wz.heap.size), .fix (.slice (some ⟨g, 0, none⟩) O.length k), .fix (.int .i64 k), .val (.slice (some ⟨g, 0, none⟩) k k), .pred (GathI wz.heap.size (O.take k)), .fix (.int .i64 n), .pred (LitI n), .chain wz.heap.size (GathI wz.heap.size (O.take k ++ [n])), .fix (.slice (some ⟨g, 0, none⟩) O.length k), .fix (.int .i64 k), .val (.slice (some ⟨g, 0, none⟩) 0 0)] mixed (by kernel_rfl) ?_
        refine Ch.SeqG.predStep EmpI.next (fun wv hbv hpv => ?_) (fun v0 => ?_)
        · clear hpv
          go_wp2_with fail
          exact Ch.post_pred (F := EmpI wz.heap.size) _ (by (repeat (first | exact Below.refl _ _ | refine Below.drew ?_ | refine below_drewN ?_ _ | (refine Below.alloc ?_ (by (try simp) <;> omega) _) | (refine Below.setCell ?_ (by (try simp) <;> omega) _) | (refine Below.trans ?_ (Below.mono (by assumption) (by (try simp) <;> omega)))))) ⟨_, rfl, hbv.size, Gath.made hbv.size⟩
        simp only [Act.put, List.setIfInBounds_toArray, List.set_cons_zero, List.set_cons_succ]
        refine Ch.SeqG.fixStep (.inl ⟨rfl, fun _ => rfl⟩) ?_
        simp only [Act.put, List.setIfInBounds_toArray, List.set_cons_zero, List.set_cons_succ]
        refine Ch.SeqG.fixStep (.inl ⟨rfl, fun _ => rfl⟩) ?_
        simp only [Act.put, List.setIfInBounds_toArray, List.set_cons_zero, List.set_cons_succ]
        refine Ch.SeqG.valStep (fun wv hbv hpv => ?_) ?_
        · clear hpv
          go_wp2_with fail
          exact Ch.post_val (Below.refl _ _)
        simp only [Act.put, List.setIfInBounds_toArray, List.set_cons_zero, List.set_cons_succ]
        refine Ch.SeqG.predStep GathI.next (fun wv hbv hpv => ?_) (fun v1 => ?_)
        · obtain ⟨g0, rfl, hg0, hE0⟩ := hpv _ (.head _) (by kernel_rfl)
          clear hpv
          refine wpList_append_arg _ rfl _ _ 44 rfl 3 i0 (.int .i64 0) 1 8 Try.underlying44 HII.out HZ0.out HZ1.out HZ2.out rfl (by decide) g0 0 0 0 [] rfl rfl (by intro j u h; simp at h) ⟨g, 0, none⟩ k k ((O.take k).flatMap f1) rfl (by rw [hln.out]) (HP.out wv hbv).1 ints_one ?_ ?_ ?_ ?_ ?_
          · intro h; intro j hj; rw [hln.out] at hj; omega
          · unfold maxLen; omega
          · omega
          · intro h
            have hk0' : k = 0 := by omega
            have e0 : O.take k = [] := by rw [hk0']; rfl
            rw [e0]
            simp only [List.flatMap_nil, World.setCells]
            exact ⟨rfl, _, by simp [hk0', Act.put], Below.refl _ _, hE0, by simp⟩
          · intro h v' w' hown hgrow
            refine ⟨rfl, v', rfl, below_grown hgrow (fun k h => by cases h), ?_, ?_⟩
            · have := own_mono hown hbv.size
              unfold Gath; rw [htl.out]; simpa using this
            · intro e; subst e; obtain ⟨_, ⟨_, h0⟩ | ⟨_, _, _, h0, _⟩⟩ := hown
              · omega
              · cases h0
        simp only [Act.put, List.setIfInBounds_toArray, List.set_cons_zero, List.set_cons_succ]
        refine Ch.SeqG.fixStep (.inl ⟨rfl, fun _ => rfl⟩) ?_
        simp only [Act.put, List.setIfInBounds_toArray, List.set_cons_zero, List.set_cons_succ]
        refine Ch.SeqG.predStep LitI.next (fun wv hbv hpv => ?_) (fun v2 => ?_)
        · clear hpv
          go_wp2_with fail
          exact Ch.post_pred (F := LitI n) _ (by (repeat (first | exact Below.refl _ _ | refine Below.drew ?_ | refine below_drewN ?_ _ | (refine Below.alloc ?_ (by (try simp) <;> omega) _) | (refine Below.setCell ?_ (by (try simp) <;> omega) _) | (refine Below.trans ?_ (Below.mono (by assumption) (by (try simp) <;> omega)))))) ⟨wv.heap.size, rfl, Blk.new _ _ _⟩
        simp only [Act.put, List.setIfInBounds_toArray, List.set_cons_zero, List.set_cons_succ]
        refine Ch.SeqG.chainStep GathI.next (Nat.le_refl _) (fun wv hbv hpv => ?_) (fun v3 => ?_)
        · obtain ⟨g9, rfl, hc9⟩ := hpv _ (.head _) (by kernel_rfl)
          obtain ⟨hG1, hn1⟩ : GathI wz.heap.size (O.take k) v1 wv := hpv _ (.tail _ (.head _)) (by kernel_rfl)
          clear hpv
          have hl1 := htl.out
          refine wpList_append_own _ rfl _ _ 44 rfl wz.heap.size 3 i0 (.int .i64 0) 1 8 Try.underlying44 HII.out HZ0.out HZ1.out HZ2.out rfl (by decide) _ _ _ rfl hG1 ⟨g9, 0, none⟩ 1 1 (f1 n) rfl rfl (lit_src hc9) (fun u hu => by simp [f1] at hu; subst hu; rfl) ?_ ?_ hbv.size ?_
          · rw [hl1]; unfold maxLen; omega
          · rw [hl1]; omega
          · intro v' w' hown hgrow hnil
            exact ⟨rfl, v', rfl, below_grown' (Below.refl _ _ |>.mono hbv.size) hgrow hG1 (Nat.le_refl _) hbv.size, Gath.snoc hown, fun e => hn1 (hnil.1 e).1⟩
        simp only [Act.put, List.setIfInBounds_toArray, List.set_cons_zero, List.set_cons_succ]
        refine Ch.SeqG.fixStep (.inl ⟨rfl, fun _ => rfl⟩) ?_
        simp only [Act.put, List.setIfInBounds_toArray, List.set_cons_zero, List.set_cons_succ]
        refine Ch.SeqG.fixStep (.inl ⟨rfl, fun _ => rfl⟩) ?_
        simp only [Act.put, List.setIfInBounds_toArray, List.set_cons_zero, List.set_cons_succ]
        refine Ch.SeqG.valStep (fun wv hbv hpv => ?_) ?_
        · clear hpv
          go_wp2_with fail
          exact Ch.post_val (Below.refl _ _)
        simp only [Act.put, List.setIfInBounds_toArray, List.set_cons_zero, List.set_cons_succ]
        refine Ch.SeqG.done fun wv hbv hpv => ?_
        obtain ⟨hG3, hn3⟩ : GathI wz.heap.size (O.take k ++ [n]) v3 wv := hpv _ (.head _)
        clear hpv
        have zv := hbv.size
        have hl3 := htl.out
        have hd3 := hld.out
        refine NoPanI ?_
        refine wpList_append_own _ rfl _ _ 44 rfl wz.heap.size 3 i0 (.int .i64 0) 1 8 Try.underlying44 HII.out HZ0.out HZ1.out HZ2.out rfl (by decide) _ _ _ rfl hG3 ⟨g, 0, none⟩ 0 0 ((O.drop k).flatMap f1) rfl (by rw [hd3]; first | done | rfl | (congr 1; omega) | (congr 1; have := HKL.out; omega)) (HP.out wv (hbv.mono (Nat.le_refl _))).2 ints_one ?_ ?_ zv ?_
        · rw [List.length_append, hl3, List.length_singleton]; unfold maxLen; omega
        · rw [List.length_append, hl3, List.length_singleton]; omega
        intro v' w1 hown hgrow hnil
        have hb9 : Below w.heap.size w w1 := below_grown' (qB.trans (hbv.mono zz)) hgrow hG3 zz (by omega)
        have hG9 : Gath f1 1 3 w1 B v' (insL O k n) := by
          have h9 := own_mono (B' := B) hown (by omega)
          unfold Gath insL
          rw [List.length_append, List.flatMap_append, List.length_drop]
          rw [show O.length - k = 0 by first | omega | (have := HKL.out; omega)]; exact h9
        have hv9 : v' ≠ .slice none 0 0 := fun e => hn3 (hnil.1 e).1
        have HX := Lib.hid (show Gath f1 1 3 w1 B v' (putL O n) ∧ v' ≠ .slice none 0 0 by rw [HV.out]; exact ⟨hG9, hv9⟩)
        have HB := Lib.hid hb9
        clear hown hG9 hgrow hG3 hnil hn3 hbv HP hb9 hv9 qB HG
        go_wp2_with fail
        refine Ch.NoPan.normal ?_
        go_wp2
        refine bodyPost_ret (v := v') (by simp [results, Try.results83, go_sem, *] <;> rfl) rfl ?_
        exact ⟨v', rfl, HX.out.1, HX.out.2, HB.out⟩
      · skip
        have hck : k < c := by have := HKL.out; omega
        have hck2 : ¬ (c = k) := by omega
        have hck3 : (k : Int) ≤ (c : Int) := by omega
        have hck4 : (k : Int) ≤ (O.length : Int) := by have := HKL.out; omega
        have HP := Lib.hid (partI_end (a2 := ⟨g, k, none⟩) HC2.out hBz HKL.out)
        clear HC2
        have zz := qB.size
        have hkk : k ≤ O.length := by omega
        have hln := Lib.hid (show ((O.take k).flatMap f1).length = k * 1 by rw [flat_len (f := f1) (m := 1) (fun _ => rfl), List.length_take]; congr 1; omega)
        have hld := Lib.hid (flat_dlen (f := f1) (m := 1) (L := O) (i := k) (fun _ => rfl))
        have htl := Lib.hid (show (O.take k).length = k by rw [List.length_take]; omega)
        obtain ⟨i0, hi, hz0, hz1, hz2⟩ := info_parts infoI
        have HII := Lib.hid hi; have HZ0 := Lib.hid hz0; have HZ1 := Lib.hid hz1; have HZ2 := Lib.hid hz2
        clear hi hz0 hz1 hz2
        go_wp2
        refine Ch.wp_region_chain [.pred (EmpI wz.heap.size), .fix (.slice (some ⟨g, 0, none⟩) O.length c), .fix (.int .i64 k), .val (.slice (some ⟨g, 0, none⟩) k c), .pred (GathI wz.heap.size (O.take k)), .fix (.int .i64 n), .pred (LitI n), .chain wz.heap.size (GathI wz.heap.size (O.take k ++ [n])), .fix (.slice (some ⟨g, 0, none⟩) O.length c), .fix (.int .i64 k), .val (.slice (some ⟨g, k, none⟩) (O.length - k) (c - k))] mixed (by kernel_rfl) ?_
        refine Ch.SeqG.predStep EmpI.next (fun wv hbv hpv => ?_) (fun v0 => ?_)
        · clear hpv
          go_wp2_with fail
          exact Ch.post_pred (F := EmpI wz.heap.size) _ (by (repeat (first | exact Below.refl _ _ | refine Below.drew ?_ | refine below_drewN ?_ _ | (refine Below.alloc ?_ (by (try simp) <;> omega) _) | (refine Below.setCell ?_ (by (try simp) <;> omega) _) | (refine Below.trans ?_ (Below.mono (by assumption) (by (try simp) <;> omega)))))) ⟨_, rfl, hbv.size, Gath.made hbv.size⟩
        simp only [Act.put, List.setIfInBounds_toArray, List.set_cons_zero, List.set_cons_succ]
        refine Ch.SeqG.fixStep (.inl ⟨rfl, fun _ => rfl⟩) ?_
        simp only [Act.put, List.setIfInBounds_toArray, List.set_cons_zero, List.set_cons_succ]
        refine Ch.SeqG.fixStep (.inl ⟨rfl, fun _ => rfl⟩) ?_
        simp only [Act.put, List.setIfInBounds_toArray, List.set_cons_zero, List.set_cons_succ]
        refine Ch.SeqG.valStep (fun wv hbv hpv => ?_) ?_
        · clear hpv
          go_wp2_with fail
          exact Ch.post_val (Below.refl _ _)
        simp only [Act.put, List.setIfInBounds_toArray, List.set_cons_zero, List.set_cons_succ]
        refine Ch.SeqG.predStep GathI.next (fun wv hbv hpv => ?_) (fun v1 => ?_)
        · obtain ⟨g0, rfl, hg0, hE0⟩ := hpv _ (.head _) (by kernel_rfl)
          clear hpv
          refine wpList_append_arg _ rfl _ _ 44 rfl 3 i0 (.int .i64 0) 1 8 Try.underlying44 HII.out HZ0.out HZ1.out HZ2.out rfl (by decide) g0 0 0 0 [] rfl rfl (by intro j u h; simp at h) ⟨g, 0, none⟩ k c ((O.take k).flatMap f1) rfl (by rw [hln.out]) (HP.out wv hbv).1 ints_one ?_ ?_ ?_ ?_ ?_
          · intro h; intro j hj; rw [hln.out] at hj; omega
          · unfold maxLen; omega
          · omega
          · intro h
            have hk0' : k = 0 := by omega
            have e0 : O.take k = [] := by rw [hk0']; rfl
            rw [e0]
            simp only [List.flatMap_nil, World.setCells]
            exact ⟨rfl, _, by simp [hk0', Act.put], Below.refl _ _, hE0, by simp⟩
          · intro h v' w' hown hgrow
            refine ⟨rfl, v', rfl, below_grown hgrow (fun k h => by cases h), ?_, ?_⟩
            · have := own_mono hown hbv.size
              unfold Gath; rw [htl.out]; simpa using this
            · intro e; subst e; obtain ⟨_, ⟨_, h0⟩ | ⟨_, _, _, h0, _⟩⟩ := hown
              · omega
              · cases h0
        simp only [Act.put, List.setIfInBounds_toArray, List.set_cons_zero, List.set_cons_succ]
        refine Ch.SeqG.fixStep (.inl ⟨rfl, fun _ => rfl⟩) ?_
        simp only [Act.put, List.setIfInBounds_toArray, List.set_cons_zero, List.set_cons_succ]
        refine Ch.SeqG.predStep LitI.next (fun wv hbv hpv => ?_) (fun v2 => ?_)
        · clear hpv
          go_wp2_with fail
          exact Ch.post_pred (F := LitI n) _ (by (repeat (first | exact Below.refl _ _ | refine Below.drew ?_ | refine below_drewN ?_ _ | (refine Below.alloc ?_ (by (try simp) <;> omega) _) | (refine Below.setCell ?_ (by (try simp) <;> omega) _) | (refine Below.trans ?_ (Below.mono (by assumption) (by (try simp) <;> omega)))))) ⟨wv.heap.size, rfl, Blk.new _ _ _⟩
        simp only [Act.put, List.setIfInBounds_toArray, List.set_cons_zero, List.set_cons_succ]
        refine Ch.SeqG.chainStep GathI.next (Nat.le_refl _) (fun wv hbv hpv => ?_) (fun v3 => ?_)
        · obtain ⟨g9, rfl, hc9⟩ := hpv _ (.head _) (by kernel_rfl)
          obtain ⟨hG1, hn1⟩ : GathI wz.heap.size (O.take k) v1 wv := hpv _ (.tail _ (.head _)) (by kernel_rfl)
          clear hpv
          have hl1 := htl.out
          refine wpList_append_own _ rfl _ _ 44 rfl wz.heap.size 3 i0 (.int .i64 0) 1 8 Try.underlying44 HII.out HZ0.out HZ1.out HZ2.out rfl (by decide) _ _ _ rfl hG1 ⟨g9, 0, none⟩ 1 1 (f1 n) rfl rfl (lit_src hc9) (fun u hu => by simp [f1] at hu; subst hu; rfl) ?_ ?_ hbv.size ?_
          · rw [hl1]; unfold maxLen; omega
          · rw [hl1]; omega
          · intro v' w' hown hgrow hnil
            exact ⟨rfl, v', rfl, below_grown' (Below.refl _ _ |>.mono hbv.size) hgrow hG1 (Nat.le_refl _) hbv.size, Gath.snoc hown, fun e => hn1 (hnil.1 e).1⟩
        simp only [Act.put, List.setIfInBounds_toArray, List.set_cons_zero, List.set_cons_succ]
        refine Ch.SeqG.fixStep (.inl ⟨rfl, fun _ => rfl⟩) ?_
        simp only [Act.put, List.setIfInBounds_toArray, List.set_cons_zero, List.set_cons_succ]
        refine Ch.SeqG.fixStep (.inl ⟨rfl, fun _ => rfl⟩) ?_
        simp only [Act.put, List.setIfInBounds_toArray, List.set_cons_zero, List.set_cons_succ]
        refine Ch.SeqG.valStep (fun wv hbv hpv => ?_) ?_
        · clear hpv
          go_wp2_with fail
          exact Ch.post_val (Below.refl _ _)
        simp only [Act.put, List.setIfInBounds_toArray, List.set_cons_zero, List.set_cons_succ]
        refine Ch.SeqG.done fun wv hbv hpv => ?_
        obtain ⟨hG3, hn3⟩ : GathI wz.heap.size (O.take k ++ [n]) v3 wv := hpv _ (.head _)
        clear hpv
        have zv := hbv.size
        have hl3 := htl.out
        have hd3 := hld.out
        refine NoPanI ?_
        refine wpList_append_own _ rfl _ _ 44 rfl wz.heap.size 3 i0 (.int .i64 0) 1 8 Try.underlying44 HII.out HZ0.out HZ1.out HZ2.out rfl (by decide) _ _ _ rfl hG3 ⟨g, k, none⟩ (O.length - k) (c - k) ((O.drop k).flatMap f1) rfl (by rw [hd3]; first | done | rfl | (congr 1; omega) | (congr 1; have := HKL.out; omega)) (HP.out wv (hbv.mono (Nat.le_refl _))).2 ints_one ?_ ?_ zv ?_
        · rw [List.length_append, hl3, List.length_singleton]; unfold maxLen; omega
        · rw [List.length_append, hl3, List.length_singleton]; omega
        intro v' w1 hown hgrow hnil
        have hb9 : Below w.heap.size w w1 := below_grown' (qB.trans (hbv.mono zz)) hgrow hG3 zz (by omega)
        have hG9 : Gath f1 1 3 w1 B v' (insL O k n) := by
          have h9 := own_mono (B' := B) hown (by omega)
          unfold Gath insL
          rw [List.length_append, List.flatMap_append, List.length_drop]
          exact h9
        have hv9 : v' ≠ .slice none 0 0 := fun e => hn3 (hnil.1 e).1
        have HX := Lib.hid (show Gath f1 1 3 w1 B v' (putL O n) ∧ v' ≠ .slice none 0 0 by rw [HV.out]; exact ⟨hG9, hv9⟩)
        have HB := Lib.hid hb9
        clear hown hG9 hgrow hG3 hnil hn3 hbv HP hb9 hv9 qB HG
        go_wp2_with fail
        refine Ch.NoPan.normal ?_
        go_wp2
        refine bodyPost_ret (v := v') (by simp [results, Try.results83, go_sem, *] <;> rfl) rfl ?_
        exact ⟨v', rfl, HX.out.1, HX.out.2, HB.out⟩
end Go.Proofs.Ytfcmfadkkfkidaa
