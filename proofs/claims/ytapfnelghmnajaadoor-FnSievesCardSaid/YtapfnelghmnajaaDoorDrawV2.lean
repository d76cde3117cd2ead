/-
  The cursor's sample.
-/
import Derived.Test.YtapfnelghmnajaaDoorDrawV1
import Derived.Test.YtapfnelghmnajaaDoorSrt1
import Derived.Deep.DeepCutAuto
import Derived.WalkKit
import Derived.WalkSpells
import Derived.WalkLawsBesides
import Derived.Lib.Hide
import Derived.Deep.QuietTactic
import Derived.BigQuiet
import Derived.StillTailTactics
namespace Go.Proofs.YtapfnelghmnajaaDoor
open Go.RowKit

/-- Only blocks g and q may have turned; new ones may have come. -/
structure But2 (g q : Nat) (w w' : World) : Prop where
  os : w'.os = w.os
  tape : w'.tape = w.tape
  output : w'.output = w.output
  size : w.heap.size ≤ w'.heap.size
  block : ∀ k, k < w.heap.size → k ≠ g → k ≠ q → w'.heap[k]? = w.heap[k]?
section
variable {g q : Nat} {w w' w'' : World}
theorem But2.trans (h : But2 g q w w') (k : But2 g q w' w'') : But2 g q w w'' :=
  ⟨k.os.trans h.os, k.tape.trans h.tape, k.output.trans h.output, Nat.le_trans h.size k.size, fun i hi hg hq => (k.block i (Nat.lt_of_lt_of_le hi h.size) hg hq).trans (h.block i hi hg hq)⟩
theorem But2.of (h : Below w.heap.size w w') : But2 g q w w' := ⟨h.os, h.tape, h.output, h.size, fun k hk _ _ => h.block k hk⟩
theorem But2.but (h : ButG g w w') : But2 g q w w' := ⟨h.os, h.tape, h.output, h.size, fun k hk hg _ => h.block k hk hg⟩
theorem But2.blk {t : TypeId} {cs : Array Value} {b : Nat} (h : Blk w b t cs) (hb : But2 g q w w') (h1 : b ≠ g) (h2 : b ≠ q) : Blk w' b t cs := (hb.block b h.lt h1 h2).trans h
theorem But2.grown {row : Option Nat} (hg : w.grownBy w' row) (hr : ∀ k, row = some k → k = q) : But2 g q w w' :=
  ⟨hg.os, hg.tape, hg.output, hg.size, fun k hk _ hq => hg.block k hk (fun e => hq (hr k e.symm))⟩
end
@[reducible] def twoRel (g q : Nat) : Chg.Rel := ⟨But2 g q, But2.trans, But2.of⟩
def LitW (g q : Nat) (M : List Int) (v : Value) (w : World) : Prop := ∃ b, v = .slice (some ⟨b, 0, none⟩) M.length M.length ∧ b ≠ g ∧ b ≠ q ∧ Blk w b 3 (M.map (Value.int .i64)).toArray
theorem LitW.next {g q : Nat} {M : List Int} : ∀ (v : Value) (w w' : World), Below w.heap.size w w' → LitW g q M v w → LitW g q M v w' := fun v w w' hb h => by
  obtain ⟨b, h1, h2, h4, h3⟩ := h
  exact ⟨b, h1, h2, h4, h3.below' hb⟩
theorem LitW.but {g q : Nat} {M : List Int} : ∀ (v : Value) (w w' : World), But2 g q w w' → LitW g q M v w → LitW g q M v w' := fun v w w' hb h => by
  obtain ⟨b, h1, h2, h4, h3⟩ := h
  exact ⟨b, h1, h2, h4, hb.blk h3 h2 h4⟩
/-- The cursor stands in block g, and sv is the call's own slice of M. -/
def CurS (A : Option Addr) (c : Nat) (L : List Int) (g n B : Nat) (sv : Value) (M : List Int) (w : World) : Prop := Cur A c L g n w ∧ Gath f1 1 3 w B sv M
def CurSV (A : Option Addr) (c : Nat) (L : List Int) (g n B : Nat) (sv : Value) (M : List Int) (v : Value) (w : World) : Prop := ∃ r : Int, v = .int .i64 r ∧ Small r ∧ CurS A c L g n B sv M w
theorem CurSV.next {A : Option Addr} {c : Nat} {L : List Int} {g n B : Nat} {sv : Value} {M : List Int} : ∀ (v : Value) (w w' : World), Below w.heap.size w w' → CurSV A c L g n B sv M v w → CurSV A c L g n B sv M v w' := fun v w w' hb h => by
  obtain ⟨r, h1, h2, h3, h4⟩ := h
  exact ⟨r, h1, h2, h3.next hb, h4.below hb⟩
def OneS (v : Value) (w : World) : Prop := ∃ g x, v = .slice (some ⟨g, 0, none⟩) 1 1 ∧ Small x ∧ g < w.heap.size ∧ w.cell? ⟨g, 0, none⟩ = some (.int .i64 x)
theorem OneS.next : ∀ (v : Value) (w w' : World), Below w.heap.size w w' → OneS v w → OneS v w' := fun v w w' hb h => by
  obtain ⟨g, x, h1, h2, h3, h4⟩ := h
  exact ⟨g, x, h1, h2, Nat.lt_of_lt_of_le h3 hb.size, (hb.cell (p := ⟨g, 0, none⟩) h3).trans h4⟩
def IsSl (v : Value) : Prop := ∃ A n c, v = .slice A n c
/-- A slice of the call's own of a few small ints, and the cursor. -/
def CurF (A : Option Addr) (c : Nat) (L : List Int) (g n B k : Nat) (v : Value) (w : World) : Prop := ∃ M, Cur A c L g n w ∧ Gath f1 1 3 w B v M ∧ FewOk k M
theorem CurF.next {A : Option Addr} {c : Nat} {L : List Int} {g n B k : Nat} : ∀ (v : Value) (w w' : World), Below w.heap.size w w' → CurF A c L g n B k v w → CurF A c L g n B k v w' := fun v w w' hb h => by
  obtain ⟨M, h1, h2, h3⟩ := h
  exact ⟨M, h1.next hb, h2.below hb, h3⟩
/-- A callee of the cursor hands back a struct of one new list. -/
def CurM (A : Option Addr) (c : Nat) (L : List Int) (g n k : Nat) (w : World) (e : Ending) (w' : World) : Prop :=
  ∃ A' c' M, e = .returned (.agg #[.slice A' M.length c']) ∧ FewOk k M ∧ OwnR f1 1 3 w' w.heap.size A' M ∧ Cur A c L g n w' ∧ ButG g w w'

/-- A box of another type is turned. -/
theorem OwnR.farT {α : Type} {f : α → List Value} {m B p : Nat} {t t' : TypeId} {cs : Array Value} {w : World} {A : Option Addr} {L : List α} (h : OwnR f m t w B A L) (hp : Blk w p t' cs) (hne : t ≠ t') (o : Nat) (u : Value) : OwnR f m t (w.setCell ⟨p, o, none⟩ u) B A L := fun hn => by
  obtain ⟨b, hA, hg, ⟨cs', hr, hcs⟩, hc⟩ := h hn
  have hbp : b ≠ p := by
    rintro rfl
    rw [show w.heap[b]? = _ from hp] at hr
    cases hr
    exact hne rfl
  exact ⟨b, hA, hg, Row.set ⟨cs', hr, hcs⟩ _ _, hc.far (p := ⟨p, o, none⟩) hbp⟩
theorem sortL_mem {x : Int} {L : List Int} (h : x ∈ sortL L) : x ∈ L := (List.mergeSort_perm _ _).mem_iff.1 h

set_option maxRecDepth 20000 in
set_option maxHeartbeats 8000000 in
theorem sample14_any (A : Option Addr) (c : Nat) (L : List Int) (g nn : Nat) (wo : World) (hI : ∀ x ∈ L, 0 ≤ x ∧ x ≤ 255) (hl : (L.length : Int) ≤ 65536) (hnn : nn ≤ 100000) (hco : Cur A c L g nn wo) :
    Calls Tryd.prog 35 #[.pointer (some ⟨g, 0, none⟩)] wo (CurM A c L g (nn + 60) 22 wo) := by
  obtain ⟨i0, hi, hz0, hz1, hz2⟩ := info_parts infoInt
  have HI := Lib.hid hi; have HZ0 := Lib.hid hz0; have HZ1 := Lib.hid hz1; have HZ2 := Lib.hid hz2
  clear hi hz0 hz1 hz2
  have go := hco.lt
  have kR := Blk.new wo 29 #[.slice none 0 0]
  go_enter Tryd.func35, Tryd.ntmps35
  go_upto_region 1 with fail
  have hc : Cur A c L g nn (wo.alloc (.cells #[.slice none 0 0] 29 (0, 0))) := hco.next (by (repeat (first | exact Below.refl _ _ | refine Below.drew ?_ | refine below_drewN ?_ _ | (refine Below.alloc ?_ (by (try simp) <;> omega) _) | (refine Below.setCell ?_ (by (try simp) <;> omega) _) | (refine Below.trans ?_ (Below.mono (by assumption) (by (try simp) <;> omega))))))
  have GE : ButG g wo (wo.alloc (.cells #[.slice none 0 0] 29 (0, 0))) := ButG.refl.alloc _
  have g0 := hc.lt
  have zE : wo.heap.size + 1 ≤ (wo.alloc (.cells #[.slice none 0 0] 29 (0, 0))).heap.size := by simp
  generalize wo.alloc (.cells #[.slice none 0 0] 29 (0, 0)) = w at *
  obtain ⟨q, hq⟩ : ∃ q, wo.heap.size = q := ⟨_, rfl⟩
  rw [hq] at zE kR go
  have hqg : q ≠ g := by omega
  have Hq := Lib.hid hq
  rw [hq]
  have HGE := Lib.hid GE
  clear hq GE hco
  have hG0 := Gath.made (f := f1) (m := 1) (t := 3) (B := w.heap.size) (w := w) (Nat.le_refl _)
  go_wp2_with fail
  refine (pick_any A c L g (nn) (10) _ hI hl (by omega) (by omega) (hc.next (by (repeat (first | exact Below.refl _ _ | refine Below.drew ?_ | refine below_drewN ?_ _ | (refine Below.alloc ?_ (by (try simp) <;> omega) _) | (refine Below.setCell ?_ (by (try simp) <;> omega) _) | (refine Below.trans ?_ (Below.mono (by assumption) (by (try simp) <;> omega)))))))).mono ?_; rintro e w1 ⟨x1, rfl, hx1, hc1, hb1⟩
  have G1 : ButG g w w1 := ButG.refl.trans ((ButG.of (by (repeat (first | exact Below.refl _ _ | refine Below.drew ?_ | refine below_drewN ?_ _ | (refine Below.alloc ?_ (by (try simp) <;> omega) _) | (refine Below.setCell ?_ (by (try simp) <;> omega) _) | (refine Below.trans ?_ (Below.mono (by assumption) (by (try simp) <;> omega)))))) : ButG g w _).trans hb1)
  have hx1 := hx1; obtain ⟨u1, v1⟩ := hx1
  have hG1 := Gath.but hG0 g0 hb1
  go_wp2_with fail
  refine (one_any A c L g (nn + 2) (16) _ hI hl (by omega) (by omega) (hc1.next (by (repeat (first | exact Below.refl _ _ | refine Below.drew ?_ | refine below_drewN ?_ _ | (refine Below.alloc ?_ (by (try simp) <;> omega) _) | (refine Below.setCell ?_ (by (try simp) <;> omega) _) | (refine Below.trans ?_ (Below.mono (by assumption) (by (try simp) <;> omega)))))))).mono ?_; rintro e w2 ⟨x2, rfl, hc2, hb2⟩
  have G2 : ButG g w w2 := G1.trans ((ButG.of (by (repeat (first | exact Below.refl _ _ | refine Below.drew ?_ | refine below_drewN ?_ _ | (refine Below.alloc ?_ (by (try simp) <;> omega) _) | (refine Below.setCell ?_ (by (try simp) <;> omega) _) | (refine Below.trans ?_ (Below.mono (by assumption) (by (try simp) <;> omega)))))) : ButG g w1 _).trans hb2)
  have hG2 := Gath.but hG1 g0 hb2
  have v1' : x1 < 10 := by omega
  clear hc1 hG0 hG1 G1 hb1 hb2 v1
  cases x2
  case' false =>
    have hcx : Cur A c L g (nn + 6) w2 := hc2.mono (by omega)
    have Gx := G2
    have hGx := hG2
    clear hc2 G2 hG2
    go_wp2
    have hN1 : 1 ≤ 1 + x1 := by omega
    have hN2 : 1 + x1 ≤ 21 := by omega
    generalize 1 + x1 = N at *
    generalize w2 = wx at *
  case' true =>
    go_wp2_with fail
    refine (pick_any A c L g (nn + 4) (2) _ hI hl (by omega) (by omega) (hc2.next (by (repeat (first | exact Below.refl _ _ | refine Below.drew ?_ | refine below_drewN ?_ _ | (refine Below.alloc ?_ (by (try simp) <;> omega) _) | (refine Below.setCell ?_ (by (try simp) <;> omega) _) | (refine Below.trans ?_ (Below.mono (by assumption) (by (try simp) <;> omega)))))))).mono ?_; rintro e w3 ⟨x3, rfl, hx3, hc3, hb3⟩
    have G3 : ButG g w w3 := G2.trans ((ButG.of (by (repeat (first | exact Below.refl _ _ | refine Below.drew ?_ | refine below_drewN ?_ _ | (refine Below.alloc ?_ (by (try simp) <;> omega) _) | (refine Below.setCell ?_ (by (try simp) <;> omega) _) | (refine Below.trans ?_ (Below.mono (by assumption) (by (try simp) <;> omega)))))) : ButG g w2 _).trans hb3)
    obtain ⟨u3, v3⟩ := hx3
    have hcx : Cur A c L g (nn + 6) w3 := hc3
    have Gx := G3
    have hGx := Gath.but hG2 g0 hb3
    have v3' : x3 < 2 := by omega
    clear hc2 hc3 G2 hG2 G3 v3 hb3
    go_wp2
    have hN1 : 1 ≤ 20 + x3 := by omega
    have hN2 : 20 + x3 ≤ 21 := by omega
    generalize 20 + x3 = N at *
    generalize w3 = wx at *
  all_goals
    go_loopw [3] (fun v3 wr => ∃ (M : List Int), Hid (FewOk M.length M) ∧ (M.length : Int) ≤ N ∧ Gath f1 1 3 wr w.heap.size v3 M ∧ Cur A c L g (nn + 6 + 2 * M.length) wr ∧ ButG g w wr) (fun v3 _ => (21 - lenOf v3).toNat)
    case atStart => exact ⟨[], FewOk.nil, by simp; omega, hGx, hcx, Gx⟩
    case round =>
      clear hcx hGx Gx
      obtain ⟨M, hM, hMN, hG, hcr, hB⟩ := hrel
      obtain ⟨A8, c8, rfl, ho8⟩ := Gath.own (f := f1) (m := 1) (fun _ => rfl) hG
      have hM0 : (0 : Int) ≤ M.length := by omega
      have zr := hB.size
      by_cases hlt : (M.length : Int) < N
      · have G0 := hB
        have hc0 := hcr
        generalize wr = w0 at *
        go_wp2_with fail
        refine (among_any [1, 9, 10, 19, 20, 39, 40, 79, 80, 200, 500] A c L g (nn + 6 + 2 * M.length) _ _ _ _ hI hl (by omega) (hc0.next (by (repeat (first | exact Below.refl _ _ | refine Below.drew ?_ | refine below_drewN ?_ _ | (refine Below.alloc ?_ (by (try simp) <;> omega) _) | (refine Below.setCell ?_ (by (try simp) <;> omega) _) | (refine Below.trans ?_ (Below.mono (by assumption) (by (try simp) <;> omega))))))) (by rfl) (by omega) (by omega) (by first | exact Blk.new _ _ _ | exact Blk.new1 _ _ _ _) (by have := hc0.lt; (try simp); omega)).mono ?_; rintro e w3 ⟨x3, rfl, hx3, hc3, hb3⟩
        have G3 : ButG g w w3 := G0.trans ((ButG.of (by (repeat (first | exact Below.refl _ _ | refine Below.drew ?_ | refine below_drewN ?_ _ | (refine Below.alloc ?_ (by (try simp) <;> omega) _) | (refine Below.setCell ?_ (by (try simp) <;> omega) _) | (refine Below.trans ?_ (Below.mono (by assumption) (by (try simp) <;> omega)))))) : ButG g w0 _).trans hb3)
        have hG3 := Gath.but (Gath.alloc hG _) g0 hb3
        have m3 : Small x3 := mem_small hx3 (by decide)
        have HG := Lib.hid (Gath.alloc hG3 (.cells #[.int .i64 x3] 3))
        have HG0 := Lib.hid hG3
        have z3 := G3.size
        clear hG hG3 hb3 hc0 G0 hx3 ho8
        go_wp2_with (at_builtin; refine wpList_append_own _ rfl _ _ 22 rfl w.heap.size 3 i0 (.int .i64 0) 1 8 Tryd.underlying22 HI.out HZ0.out HZ1.out HZ2.out rfl (by decide) _ _ _ rfl HG.out ⟨_, 0, none⟩ 1 1 [.int .i64 x3] rfl rfl (lit_cells _ _ _) one_ok ?c3 ?c4 ?c5 ?c6)
        case c3 => unfold maxLen; first | omega | (simp; omega)
        case c4 => first | omega | (simp; omega)
        case c5 => first | omega | (simp; omega)
        case c6 =>
          intro v' w8 hown hgrow _
          have hG8 : Gath f1 1 3 w8 w.heap.size v' (M ++ [x3]) := Gath.snoc hown
          have hc8 : Cur A c L g (nn + 6 + 2 * M.length + 2) w8 := (hc3.next (by (repeat (first | exact Below.refl _ _ | refine Below.drew ?_ | refine below_drewN ?_ _ | (refine Below.alloc ?_ (by (try simp) <;> omega) _) | (refine Below.setCell ?_ (by (try simp) <;> omega) _) | (refine Below.trans ?_ (Below.mono (by assumption) (by (try simp) <;> omega)))))) : Cur A c L g (nn + 6 + 2 * M.length + 2) (w3.alloc (.cells #[.int .i64 x3] 3))).grown hgrow (fun k hk => by have := HG0.out.rowGe k hk; omega)
          have G8 : ButG g w w8 := (G3.alloc _).grown hgrow (fun k hk => by have := HG0.out.rowGe k hk; omega)
          have hl8 : (M ++ [x3]).length = M.length + 1 := by simp
          have HL8 := Lib.hid hl8
          have hl9 : ((M ++ [x3]).length : Int) ≤ M.length + 1 ∧ (M.length : Int) + 1 ≤ (M ++ [x3]).length := by omega
          have hM8 : Hid (FewOk (M ++ [x3]).length (M ++ [x3])) := by rw [hl8]; exact hM.out.snoc m3
          obtain ⟨A9, c9, rfl, ho9⟩ := Gath.own (f := f1) (m := 1) (fun _ => rfl) hG8
          generalize M ++ [x3] = M8 at *
          clear hown hgrow HG HG0 hc3 G3 hl8 ho9
          go_wp2
          go_roundw
          case rel => exact ⟨M8, hM8, by omega, hG8, hc8.mono (by have := HL8.out; omega), G8⟩
          case measure => simp only [lenOf]; omega
      · have hMn : (M.length : Int) = N := by omega
        have HMn := Lib.hid hMn
        have h22 : M.length ≤ 21 := by omega
        have hM1 : 1 ≤ M.length := by omega
        clear hMn hN1 hN2 hMN
        go_wp2_with fail
        refine (l14SortedG_any _ _ M _ ho8.sl (by omega)).mono ?_; rintro e w4 ⟨A4, c4, rfl, hG4, hb4⟩
        have hS : Hid (FewOk 21 (sortL M)) := ⟨by rw [sortL_len]; omega, fun x hx => hM.out.2 x (sortL_mem hx)⟩
        have hS1 : 1 ≤ (sortL M).length := by rw [sortL_len]; exact hM1
        have hG4 : Gath f1 1 3 w4 w.heap.size (.slice A4 (sortL M).length c4) (sortL M) := own_mono hG4 zr
        have hc4 : Cur A c L g (nn + 48) w4 := (hcr.next hb4).mono (by omega)
        have G4 : ButG g w w4 := hB.trans (.of hb4)
        have kR4 := kR.but G4 hqg
        obtain ⟨A2, c2, e2, ho4⟩ := Gath.own (f := f1) (m := 1) (fun _ => rfl) hG4
        generalize sortL M = S at *
        obtain ⟨q', rfl, hq', hR4, hC4⟩ := ho4 (by intro e; subst e; simp at hS1)
        have lq' := hR4.lt
        cases e2
        have z4 := G4.size
        have hSl : S.length ≤ 21 := hS.out.1
        clear hcr hB hG ho8 hb4 hM HMn h22 ho4 hR4 hC4 hM0
        go_upto_region 8 with fail
        have jb := Blk.new w4 29 #[.slice (some ⟨q', 0, none⟩) S.length c4]
        have hc5 : Cur A c L g (nn + 48) (w4.alloc (.cells #[.slice (some ⟨q', 0, none⟩) S.length c4] 29 (0, 0))) := hc4.next (by (repeat (first | exact Below.refl _ _ | refine Below.drew ?_ | refine below_drewN ?_ _ | (refine Below.alloc ?_ (by (try simp) <;> omega) _) | (refine Below.setCell ?_ (by (try simp) <;> omega) _) | (refine Below.trans ?_ (Below.mono (by assumption) (by (try simp) <;> omega))))))
        have G5 : ButG g w (w4.alloc (.cells #[.slice (some ⟨q', 0, none⟩) S.length c4] 29 (0, 0))) := G4.alloc _
        have hG5 := Gath.alloc hG4 (.cells #[.slice (some ⟨q', 0, none⟩) S.length c4] 29 (0, 0))
        have kR5 := kR4.alloc (.cells #[.slice (some ⟨q', 0, none⟩) S.length c4] 29 (0, 0))
        have hpg : w4.heap.size ≠ g := by omega
        have hpq : w4.heap.size ≠ q := by omega
        have hpq' : w4.heap.size ≠ q' := by omega
        have hqq' : q ≠ q' := by omega
        have zp : w.heap.size ≤ w4.heap.size := z4
        have lp5 := jb.lt
        have lq5 : q' < (w4.alloc (.cells #[.slice (some ⟨q', 0, none⟩) S.length c4] 29 (0, 0))).heap.size := by omega
        clear hc4 G4 hG4 kR4
        generalize w4.alloc (.cells #[.slice (some ⟨q', 0, none⟩) S.length c4] 29 (0, 0)) = w5 at *
        generalize w4.heap.size = p at *
        go_wp2_with fail
        refine (pick_any A c L g (nn + 48) (60) _ hI hl (by omega) (by omega) (hc5.next (by (repeat (first | exact Below.refl _ _ | refine Below.drew ?_ | refine below_drewN ?_ _ | (refine Below.alloc ?_ (by (try simp) <;> omega) _) | (refine Below.setCell ?_ (by (try simp) <;> omega) _) | (refine Below.trans ?_ (Below.mono (by assumption) (by (try simp) <;> omega)))))))).mono ?_; rintro e w6 ⟨x6, rfl, hx6, hc6, hb6⟩
        have G6 : ButG g w w6 := G5.trans ((ButG.of (by (repeat (first | exact Below.refl _ _ | refine Below.drew ?_ | refine below_drewN ?_ _ | (refine Below.alloc ?_ (by (try simp) <;> omega) _) | (refine Below.setCell ?_ (by (try simp) <;> omega) _) | (refine Below.trans ?_ (Below.mono (by assumption) (by (try simp) <;> omega)))))) : ButG g w5 _).trans hb6)
        have hG6 := Gath.but hG5 g0 hb6
        have kR6 := kR5.but hb6 hqg
        have jb6 := jb.but hb6 hpg
        have z6 := hb6.size
        have lq6 : q' < w6.heap.size := by omega
        have lp6 : p < w6.heap.size := by omega
        obtain ⟨hx60, hx61⟩ := hx6
        clear G5 hc5 hG5 kR5 jb lp5 lq5 hb6
        by_cases h0 : x6 = 0
        · have q0 : (x6 == 0) = true := by simpa using h0
          have H0 := Lib.hid h0; clear h0 hx60 hx61
          go_upto_region 10 with fail
          letI : Chg.Rel := twoRel g q'
          refine Chg.wp_region_chain (CurS A c L g (nn + 50) w.heap.size (.slice (some ⟨q', 0, none⟩) S.length c4) S) (fun _ _ hb h => ⟨h.1.next hb, h.2.below hb⟩) ⟨hc6, hG6⟩ [.val (.pointer (some ⟨p, 0, none⟩)), .val (.slice (some ⟨q', 0, none⟩) S.length c4), .fix (.pointer (some ⟨g, 0, none⟩)), .hold (LitW g q' [0, 1, 501]), .chain (.int .i64 0) (IntP Small) (CurSV A c L g (nn + 52) w.heap.size (.slice (some ⟨q', 0, none⟩) S.length c4) S), .pred OneS, .chain (.slice none 0 0) IsSl (CurF A c L g (nn + 52) w.heap.size 22), .val (.pointer (some ⟨p, 0, none⟩))] mixed (by kernel_rfl) ⟨trivial, trivial, trivial, trivial, ⟨0, rfl, ⟨by decide, by decide⟩⟩, trivial, ⟨none, 0, 0, rfl⟩, trivial, trivial⟩ ?_
          refine Chg.SeqG.valStep (fun wv hbv hpv => ?_) ?_
          · clear hpv
            go_wp2_with fail
            exact Chg.post_val (Below.refl _ _)
          simp only [Act.put, List.setIfInBounds_toArray, List.set_cons_zero, List.set_cons_succ]
          refine Chg.SeqG.valStep (fun wv hbv hpv => ?_) ?_
          · have cj := (hbv.blk jb6 hpg hpq').cell
            clear hpv
            go_wp2_with fail
            exact Chg.post_val (Below.refl _ _)
          simp only [Act.put, List.setIfInBounds_toArray, List.set_cons_zero, List.set_cons_succ]
          refine Chg.SeqG.fixStep (.inl ⟨rfl, fun _ => rfl⟩) ?_
          simp only [Act.put, List.setIfInBounds_toArray, List.set_cons_zero, List.set_cons_succ]
          refine Chg.SeqG.holdStep LitW.next LitW.but (fun wv hbv hpv => ?_) (fun v1 => ?_)
          · have z := hbv.size
            clear hpv
            go_wp2_with fail
            exact Chg.post_hold _ (by (repeat (first | exact Below.refl _ _ | refine Below.drew ?_ | refine below_drewN ?_ _ | (refine Below.alloc ?_ (by (try simp) <;> omega) _) | (refine Below.setCell ?_ (by (try simp) <;> omega) _) | (refine Below.trans ?_ (Below.mono (by assumption) (by (try simp) <;> omega)))))) ⟨wv.heap.size, rfl, by omega, by omega, Blk.new _ _ _⟩
          simp only [Act.put, List.setIfInBounds_toArray, List.set_cons_zero, List.set_cons_succ]
          refine Chg.SeqG.chainStep CurSV.next (fun wv hbv hpv => ?_) (fun v2 hg2 => ?_)
          · obtain ⟨b3, rfl, hb3g, hb3q, hb3⟩ := hpv _ (.head _) (by kernel_rfl)
            obtain ⟨h0c, h0g⟩ := hpv _ (.tail _ (.head _)) (by kernel_rfl)
            clear hpv
            go_wp2_with fail
            refine (among_any [0, 1, 501] A c L g (nn + 50) b3 3 3 _ hI hl (by omega) h0c rfl (by omega) (by omega) hb3 hb3g).mono ?_; rintro e w9 ⟨x9, rfl, m9, hc9, hb9⟩
            have s9 : Small x9 := mem_small m9 (by decide)
            go_wp2_with fail
            exact Chg.post_chain _ (But2.but hb9) ⟨x9, rfl, s9, hc9, Gath.but h0g g0 hb9⟩ ⟨x9, rfl, s9⟩
          simp only [Act.put, List.setIfInBounds_toArray, List.set_cons_zero, List.set_cons_succ]
          refine Chg.SeqG.predStep OneS.next (fun wv hbv hpv => ?_) (fun v3 => ?_)
          · obtain ⟨x9, rfl, s9⟩ := hg2
            clear hpv
            go_wp2_with fail
            exact Chg.post_pred _ (by (repeat (first | exact Below.refl _ _ | refine Below.drew ?_ | refine below_drewN ?_ _ | (refine Below.alloc ?_ (by (try simp) <;> omega) _) | (refine Below.setCell ?_ (by (try simp) <;> omega) _) | (refine Below.trans ?_ (Below.mono (by assumption) (by (try simp) <;> omega)))))) ⟨wv.heap.size, x9, rfl, s9, by simp, by simp⟩
          simp only [Act.put, List.setIfInBounds_toArray, List.set_cons_zero, List.set_cons_succ]
          refine Chg.SeqG.chainStep CurF.next (fun wv hbv hpv => ?_) (fun v4 hg4 => ?_)
          · obtain ⟨g9, x9, rfl, s9, hg9, hc9⟩ := hpv _ (.head _) (by kernel_rfl)
            obtain ⟨-, -, -, h1c, h1g⟩ := hpv _ (.tail _ (.head _)) (by kernel_rfl)
            clear hpv hg2
            refine wpList_append_own _ rfl _ _ 22 rfl w.heap.size 3 i0 (.int .i64 0) 1 8 Tryd.underlying22 HI.out HZ0.out HZ1.out HZ2.out rfl (by decide) _ _ _ rfl h1g ⟨g9, 0, none⟩ 1 1 [.int .i64 x9] rfl rfl ?_ one_ok ?_ ?_ (by have := hbv.size; omega) ?_
            · intro j u hj
              rw [Go.WideShapes.add_plain]
              match j, hj with
              | 0, hj => rw [hc9]; simpa using hj
            · unfold maxLen; omega
            · omega
            · intro v' w' hown hgrow hnil
              have hGn : Gath f1 1 3 w' w.heap.size v' (S ++ [x9]) := Gath.snoc hown
              refine Chg.post_chain v' (But2.grown hgrow (fun k hk => ?_)) ⟨S ++ [x9], h1c.grown hgrow (fun k hk => ?_), hGn, hS.out.snoc s9⟩ ?_
              · have hk' : some q' = some k := hk
                cases hk'; rfl
              · have := h1g.rowGe k hk; omega
              · obtain ⟨A9, c9, e9, -⟩ := Gath.own (f := f1) (m := 1) (fun _ => rfl) hGn
                exact ⟨_, _, _, e9⟩
          simp only [Act.put, List.setIfInBounds_toArray, List.set_cons_zero, List.set_cons_succ]
          refine Chg.SeqG.valStep (fun wv hbv hpv => ?_) ?_
          · clear hpv
            go_wp2_with fail
            exact Chg.post_val (Below.refl _ _)
          simp only [Act.put, List.setIfInBounds_toArray, List.set_cons_zero, List.set_cons_succ]
          refine Chg.SeqG.done fun wv hbv hpv => ?_
          obtain ⟨M9, h9c, h9g, h9m⟩ := hpv _ (.head _)
          clear hpv
          obtain ⟨A9, c9, rfl, ho9⟩ := Gath.own (f := f1) (m := 1) (fun _ => rfl) h9g
          have jz := hbv.blk jb6 hpg hpq'
          have kz := hbv.blk kR6 hqg hqq'
          have fz := jz.frozen
          have cjz := jz.cell
          have ckz := kz.cell
          have fkz := kz.frozen
          have kz2 := kz.far (p := ⟨p, 0, none⟩) (fun e => hpq e.symm) (.slice A9 M9.length c9)
          have o7 := (ho9.farT jz (by decide) 0 (.slice A9 M9.length c9)).farT kz2 (by decide) 0 (.slice A9 M9.length c9)
          have c7 := cur_far (cur_far h9c (show g < p by omega) 0 (.slice A9 M9.length c9)) go 0 (.slice A9 M9.length c9)
          have HO7 := Lib.hid o7
          have hw : wo.heap.size = q := Hq.out
          have zz := hbv.size
          have lp7 : p < wv.heap.size := by omega
          have lq7 : q < wv.heap.size := by have := kz.lt; omega
          have HM9 := Lib.hid h9m
          have G7 : ButG g w wv := ⟨hbv.os.trans G6.os, hbv.tape.trans G6.tape, hbv.output.trans G6.output, Nat.le_trans G6.size hbv.size, fun k hk hkg => (hbv.block k (by omega) hkg (by omega)).trans (G6.block k hk hkg)⟩
          go_wp2_with fail
          refine Chg.NoPan.normal ?_
          go_wp2
          refine bodyPost_ret (v := .agg #[.slice A9 M9.length c9]) (by simp [results, Tryd.results35, go_sem, *] <;> rfl) rfl ?_
          exact ⟨A9, c9, M9, rfl, HM9.out, HO7.out.mono (by omega), c7.mono (by omega), butNew (butNew (HGE.out.trans G7) (by omega) 0 _) (by omega) 0 _⟩
        have q0 : (x6 == 0) = false := by simpa using h0
        have hw : wo.heap.size = q := Hq.out
        have ckj := jb6.cell
        have fkj := jb6.frozen
        have ckz := kR6.cell
        have fkz := kR6.frozen
        have lqq := kR6.lt
        obtain ⟨A2, c2, e2, ho6⟩ := Gath.own (f := f1) (m := 1) (fun _ => rfl) hG6
        cases e2
        by_cases h1 : x6 = 1
        · have q1 : (x6 == 1) = true := by simpa using h1
          have H1 := Lib.hid h1; clear h1 h0 hx60 hx61
          have c7 := cur_far (cur_far hc6 (show g < p by omega) 0 (.slice (some ⟨q', 0, none⟩) 0 c4)) go 0 (.slice (some ⟨q', 0, none⟩) 0 c4)
          clear ho6
          go_wp2
          refine bodyPost_ret (v := .agg #[.slice (some ⟨q', 0, none⟩) 0 c4]) (by simp [results, Tryd.results35, go_sem, *] <;> rfl) rfl ?_
          exact ⟨_, _, [], rfl, FewOk.nil, OwnR.nil, c7.mono (by omega), butNew (butNew (HGE.out.trans G6) (by omega) 0 _) (by omega) 0 _⟩
        have q1 : (x6 == 1) = false := by simpa using h1
        have o7 := ho6.farT kR6 (by decide) 0 (.slice (some ⟨q', 0, none⟩) S.length c4)
        have HO7 := Lib.hid o7
        have c7 := cur_far hc6 go 0 (.slice (some ⟨q', 0, none⟩) S.length c4)
        clear h0 h1 hx60 hx61 ho6 o7
        go_wp2
        refine bodyPost_ret (v := .agg #[.slice (some ⟨q', 0, none⟩) S.length c4]) (by simp [results, Tryd.results35, go_sem, *] <;> rfl) rfl ?_
        exact ⟨_, _, S, rfl, hS.out.mono (by omega), HO7.out.mono (by omega), c7.mono (by omega), butNew (HGE.out.trans G6) (by omega) 0 _⟩
end Go.Proofs.YtapfnelghmnajaaDoor
