/-
  A set with its capacity told; DrawWithoutSieve, DrawGradeOf, DrawFewestSieves.
-/
import Derived.Test.YtapfnelghmnajaaDoorDrawV3
import Derived.Test.YtapfnelghmnajaaDoorSms0
import Derived.Deep.DeepCutAuto
import Derived.WalkKit
import Derived.WalkSpells
import Derived.WalkLawsBesides
import Derived.Lib.Hide
import Derived.Deep.QuietTactic
import Derived.BigQuiet
import Derived.StillTailTactics
namespace Go.Proofs.YtapfnelghmnajaaDoor
open Go.RowKit

def intV : Value → Int | .int _ q => q | _ => 0
/-- A box of samples is turned. -/
theorem SlR.boxed {w : World} {p : Nat} {A : Option Addr} {L : List Int} (h : SlR f1 1 w w.heap.size A L) (kp : Blk w p 29 #[.slice none 0 0]) (u : Value) :
    SlR f1 1 (w.setCell ⟨p, 0, none⟩ u) (w.setCell ⟨p, 0, none⟩ u).heap.size A L := fun hn => by
  obtain ⟨b, off, hA, hB, hC⟩ := h hn
  have hx : ∃ x, L[0]? = some x := by
    cases L with
    | nil => exact absurd rfl hn
    | cons x L => exact ⟨x, rfl⟩
  obtain ⟨x, hx⟩ := hx
  have hne : b ≠ p := fun e => by
    subst e
    have h1 := cells1 hC hx
    rw [kp.cell] at h1
    match off, h1 with
    | 0, h1 => simp at h1
    | n + 1, h1 => simp at h1
  exact ⟨b, off, hA, by simpa [World.setCell] using hB, hC.far (p := ⟨p, 0, none⟩) hne⟩
theorem Gath.ownc {α : Type} {f : α → List Value} {m : Nat} {w : World} {B : Nat} {L : List α} {t : TypeId} {v : Value} (hf : ∀ x : α, (f x).length = m) (h : Gath f m t w B v L) : ∃ A c, v = .slice A L.length c ∧ OwnR f m t w B A L ∧ L.length ≤ c ∧ (L ≠ [] → ∃ x, A = some x) := by
  obtain ⟨A, c, hv, ho⟩ := Gath.own hf h
  refine ⟨A, c, hv, ho, ?_, fun hn => ?_⟩
  · obtain ⟨h0, ⟨hv', hn⟩ | ⟨g, cap, cur, hv', hB, hh, hn, hcm, hs, ht⟩⟩ := h
    · omega
    · rw [hv] at hv'
      injection hv' with _ _ h3
      omega
  · obtain ⟨g, hA, _⟩ := ho hn
    exact ⟨_, hA⟩
/-- A callee of the cursor hands back a new list of which P holds, its capacity told; it is not nil. -/
def CurLC {α : Type} (f : α → List Value) (m : Nat) (t : TypeId) (A : Option Addr) (c : Nat) (L : List Int) (g n : Nat) (w : World) (P : List α → Prop) (e : Ending) (w' : World) : Prop :=
  ∃ A' c' M, e = .returned (.slice A' M.length c') ∧ P M ∧ OwnR f m t w' w.heap.size A' M ∧ Cur A c L g n w' ∧ ButG g w w' ∧ M.length ≤ c' ∧ ∃ x, A' = some x

set_option maxRecDepth 20000 in
set_option maxHeartbeats 8000000 in
theorem set14c_any (A : Option Addr) (c : Nat) (L : List Int) (g nn : Nat) (w : World) (hI : ∀ x ∈ L, 0 ≤ x ∧ x ≤ 255) (hl : (L.length : Int) ≤ 65536) (hnn : nn ≤ 100000) (hc : Cur A c L g nn w) :
    Calls Tryd.prog 34 #[.pointer (some ⟨g, 0, none⟩)] w (CurLC f1 1 3 A c L g (nn + 30) w (FewOk 6)) := by
  obtain ⟨i0, hi, hz0, hz1, hz2⟩ := info_parts infoInt
  have HI := Lib.hid hi; have HZ0 := Lib.hid hz0; have HZ1 := Lib.hid hz1; have HZ2 := Lib.hid hz2
  clear hi hz0 hz1 hz2
  have g0 := hc.lt
  have hG0 := Gath.made (f := f1) (m := 1) (t := 3) (B := w.heap.size) (w := w) (Nat.le_refl _)
  go_enter Tryd.func34, Tryd.ntmps34
  go_wp2_with fail
  refine (among_any [200, 80, 40] A c L g (nn) _ _ _ _ hI hl (by omega) (hc.next (by (repeat (first | exact Below.refl _ _ | refine Below.drew ?_ | refine below_drewN ?_ _ | (refine Below.alloc ?_ (by (try simp) <;> omega) _) | (refine Below.setCell ?_ (by (try simp) <;> omega) _) | (refine Below.trans ?_ (Below.mono (by assumption) (by (try simp) <;> omega))))))) (by rfl) (by omega) (by omega) (by first | exact Blk.new _ _ _ | exact Blk.new1 _ _ _ _) (by have := hc.lt; (try simp); omega)).mono ?_; rintro e w1 ⟨x1, rfl, hx1, hc1, hb1⟩
  have G1 : ButG g w w1 := ButG.refl.trans ((ButG.of (by (repeat (first | exact Below.refl _ _ | refine Below.drew ?_ | refine below_drewN ?_ _ | (refine Below.alloc ?_ (by (try simp) <;> omega) _) | (refine Below.setCell ?_ (by (try simp) <;> omega) _) | (refine Below.trans ?_ (Below.mono (by assumption) (by (try simp) <;> omega)))))) : ButG g w _).trans hb1)
  have hG1 := Gath.but (Gath.alloc hG0 _) g0 hb1
  have m1 := mem_small hx1 (by decide)
  have m1' : 0 < x1 ∧ x1 ≤ 200 := by rcases mem3 hx1 with h | h | h <;> omega
  go_wp2_with fail
  refine (pick_any A c L g (nn + 2) (5) _ hI hl (by omega) (by omega) (hc1.next (by (repeat (first | exact Below.refl _ _ | refine Below.drew ?_ | refine below_drewN ?_ _ | (refine Below.alloc ?_ (by (try simp) <;> omega) _) | (refine Below.setCell ?_ (by (try simp) <;> omega) _) | (refine Below.trans ?_ (Below.mono (by assumption) (by (try simp) <;> omega)))))))).mono ?_; rintro e w2 ⟨x2, rfl, hx2, hc2, hb2⟩
  have G2 : ButG g w w2 := G1.trans ((ButG.of (by (repeat (first | exact Below.refl _ _ | refine Below.drew ?_ | refine below_drewN ?_ _ | (refine Below.alloc ?_ (by (try simp) <;> omega) _) | (refine Below.setCell ?_ (by (try simp) <;> omega) _) | (refine Below.trans ?_ (Below.mono (by assumption) (by (try simp) <;> omega)))))) : ButG g w1 _).trans hb2)
  have hG2 := Gath.but hG1 g0 hb2
  obtain ⟨u2, v2⟩ := hx2
  clear hb1 hb2 hc1 hG0 hG1 G1 m1 hx1
  go_wp2
  go_loopw [3, 4, 5] (fun v3 v4 v5 wr => ∃ (M : List Int) (o j : Int), v4 = .int .i64 o ∧ v5 = .int .i64 j ∧ (0 ≤ j ∧ M.length + j ≤ 5 ∧ 1 ≤ M.length + j) ∧ (-1000 ≤ o ∧ o ≤ 200) ∧ (M = [] → 0 < o) ∧ Hid (FewOk M.length M) ∧ Gath f1 1 3 wr w.heap.size v3 M ∧ Cur A c L g (nn + 4 + 2 * M.length) wr ∧ ButG g w wr) (fun _ _ v5 _ => (intV v5).toNat)
  case atStart => exact ⟨[], x1, 1 + x2, rfl, rfl, ⟨by omega, by simp; omega, by simp; omega⟩, ⟨by omega, by omega⟩, fun _ => m1'.1, FewOk.nil, hG2, hc2, G2⟩
  case round =>
    obtain ⟨M, o, j, rfl, rfl, ⟨hj, hMj, hMj1⟩, ⟨ho1, ho2⟩, hM0, hM, hG, hcr, hB⟩ := hrel
    have zr := hB.size
    have hc9 := hcr
    have G9 := hB
    generalize wr = w9 at *
    clear hc2 hG2 G2 hcr hB m1'
    have hn5 : M.length ≤ 5 := by omega
    by_cases hlt : 0 < j ∧ 0 < o
    · obtain ⟨hj0, ho0⟩ := hlt
      have HG := Lib.hid (Gath.alloc hG (.cells #[.int .i64 o] 3))
      have HG0 := Lib.hid hG
      clear hG
      go_wp2_with (at_builtin; refine wpList_append_own _ rfl _ _ 22 rfl w.heap.size 3 i0 (.int .i64 0) 1 8 Tryd.underlying22 HI.out HZ0.out HZ1.out HZ2.out rfl (by decide) _ _ _ rfl HG.out ⟨_, 0, none⟩ 1 1 [.int .i64 o] rfl rfl (lit_cells _ _ _) one_ok ?c3 ?c4 ?c5 ?c6)
      case c3 => unfold maxLen; first | omega | (simp; omega)
      case c4 => first | omega | (simp; omega)
      case c5 => first | omega | (simp; omega)
      case c6 =>
        intro v' w8 hown hgrow _
        have hG8 : Gath f1 1 3 w8 w.heap.size v' (M ++ [o]) := Gath.snoc hown
        have hc8 : Cur A c L g (nn + 4 + 2 * M.length) w8 := (hc9.next (by (repeat (first | exact Below.refl _ _ | refine Below.drew ?_ | refine below_drewN ?_ _ | (refine Below.alloc ?_ (by (try simp) <;> omega) _) | (refine Below.setCell ?_ (by (try simp) <;> omega) _) | (refine Below.trans ?_ (Below.mono (by assumption) (by (try simp) <;> omega)))))) : Cur A c L g (nn + 4 + 2 * M.length) (w9.alloc (.cells #[.int .i64 o] 3))).grown hgrow (fun k hk => by have := HG0.out.rowGe k hk; omega)
        have G8 : ButG g w w8 := (G9.alloc _).grown hgrow (fun k hk => HG0.out.rowGe k hk)
        have hl8 : (M ++ [o]).length = M.length + 1 := by simp
        have HL8 := Lib.hid hl8
        have hl9 : ((M ++ [o]).length : Int) ≤ M.length + 1 ∧ (M.length : Int) + 1 ≤ (M ++ [o]).length := by omega
        have hM8 : Hid (FewOk (M ++ [o]).length (M ++ [o])) := by rw [hl8]; exact hM.out.snoc ⟨by omega, by omega⟩
        clear hown hgrow HG HG0 hc9 G9 hl8
        go_wp2_with fail
        refine (among_any [o - 1, o / 2, o - 10] A c L g (nn + 4 + 2 * M.length) _ _ _ _ hI hl (by omega) (hc8.next (by (repeat (first | exact Below.refl _ _ | refine Below.drew ?_ | refine below_drewN ?_ _ | (refine Below.alloc ?_ (by (try simp) <;> omega) _) | (refine Below.setCell ?_ (by (try simp) <;> omega) _) | (refine Below.trans ?_ (Below.mono (by assumption) (by (try simp) <;> omega))))))) (by rfl) (by omega) (by omega) (by first | exact Blk.new _ _ _ | exact Blk.new1 _ _ _ _) (by have := hc8.lt; (try simp); omega)).mono ?_; rintro e w3 ⟨x3, rfl, hx3, hc3, hb3⟩
        have G3 : ButG g w w3 := G8.trans ((ButG.of (by (repeat (first | exact Below.refl _ _ | refine Below.drew ?_ | refine below_drewN ?_ _ | (refine Below.alloc ?_ (by (try simp) <;> omega) _) | (refine Below.setCell ?_ (by (try simp) <;> omega) _) | (refine Below.trans ?_ (Below.mono (by assumption) (by (try simp) <;> omega)))))) : ButG g w8 _).trans hb3)
        have hG3 := Gath.but (Gath.alloc hG8 _) g0 hb3
        have m3 : -1000 ≤ x3 ∧ x3 ≤ 200 := by rcases mem3 hx3 with h | h | h <;> omega
        clear hG8 hb3 hc8 G8 hx3
        go_wp2
        go_roundw
        case rel => exact ⟨M ++ [o], x3, j - 1, rfl, by go_num, ⟨by omega, by omega, by omega⟩, m3, fun e => by simp at e, hM8, hG3, hc3.mono (by have := HL8.out; omega), G3⟩
        case measure => simp only [intV]; omega
    · have hM1 : 1 ≤ M.length := by
        cases M with
        | nil => exact absurd ⟨by simp at hMj1; omega, hM0 rfl⟩ hlt
        | cons y r => simp
      have hcase : j ≤ 0 ∨ (0 < j ∧ o ≤ 0) := by omega
      clear hlt hM0 hMj1
      rcases hcase with hj0 | ⟨hj0, ho0⟩
      all_goals
        go_wp2_with fail
        refine (pick_any A c L g (nn + 4 + 2 * M.length) (50) _ hI hl (by omega) (by omega) (hc9.next (by (repeat (first | exact Below.refl _ _ | refine Below.drew ?_ | refine below_drewN ?_ _ | (refine Below.alloc ?_ (by (try simp) <;> omega) _) | (refine Below.setCell ?_ (by (try simp) <;> omega) _) | (refine Below.trans ?_ (Below.mono (by assumption) (by (try simp) <;> omega)))))))).mono ?_; rintro e w5 ⟨x5, rfl, hx5, hc5, hb5⟩
        have G5 : ButG g w w5 := G9.trans ((ButG.of (by (repeat (first | exact Below.refl _ _ | refine Below.drew ?_ | refine below_drewN ?_ _ | (refine Below.alloc ?_ (by (try simp) <;> omega) _) | (refine Below.setCell ?_ (by (try simp) <;> omega) _) | (refine Below.trans ?_ (Below.mono (by assumption) (by (try simp) <;> omega)))))) : ButG g w9 _).trans hb5)
        have hG5 := Gath.but hG g0 hb5
        have z5 := G5.size
        obtain ⟨hx50, hx51⟩ := hx5
        clear G9 hc9 hG hb5
        by_cases h0 : x5 = 0
        · have q0 : (x5 == 0) = true := by simpa using h0
          have H0 := Lib.hid h0; clear h0 hx50 hx51
          obtain ⟨A9, c9, rfl, ho9⟩ := Gath.own (f := f1) (m := 1) (fun _ => rfl) hG5
          have hMl : (0 : Int) < M.length := by omega
          have hx : M[0]? = some (M[0]'(by omega)) := List.getElem?_eq_getElem _
          generalize M[0]'(by omega) = x at hx
          have hxs := hM.out.2 x (List.mem_of_getElem? hx)
          obtain ⟨g', rfl, hg', hR, hC⟩ := ho9 (SlR.ne hx)
          have e0 := cells1 hC hx
          simp only [Nat.zero_add] at e0
          have lg5 := hR.lt
          clear hR hC hx
          go_wp2_with fail
          refine (among_any [0, 201, x] A c L g (nn + 4 + 2 * M.length + 2) _ _ _ _ hI hl (by omega) (hc5.next (by (repeat (first | exact Below.refl _ _ | refine Below.drew ?_ | refine below_drewN ?_ _ | (refine Below.alloc ?_ (by (try simp) <;> omega) _) | (refine Below.setCell ?_ (by (try simp) <;> omega) _) | (refine Below.trans ?_ (Below.mono (by assumption) (by (try simp) <;> omega))))))) (by rfl) (by omega) (by omega) (by first | exact Blk.new _ _ _ | exact Blk.new1 _ _ _ _) (by have := hc5.lt; (try simp); omega)).mono ?_; rintro e w6 ⟨x6, rfl, hx6, hc6, hb6⟩
          have G6 : ButG g w w6 := G5.trans ((ButG.of (by (repeat (first | exact Below.refl _ _ | refine Below.drew ?_ | refine below_drewN ?_ _ | (refine Below.alloc ?_ (by (try simp) <;> omega) _) | (refine Below.setCell ?_ (by (try simp) <;> omega) _) | (refine Below.trans ?_ (Below.mono (by assumption) (by (try simp) <;> omega)))))) : ButG g w5 _).trans hb6)
          have hG6 := Gath.but (Gath.alloc hG5 _) g0 hb6
          have m6 : Small x6 := by rcases mem3 hx6 with h | h | h <;> subst h <;> first | exact hxs | exact ⟨by omega, by omega⟩
          have z6 := G6.size
          have HG := Lib.hid (Gath.alloc hG6 (.cells #[.int .i64 x6] 3))
          have HG6 := Lib.hid hG6
          clear hG5 hG6 hb6 hc5 G5 hx6 e0
          go_wp2_with (at_builtin; refine wpList_append_own _ rfl _ _ 22 rfl w.heap.size 3 i0 (.int .i64 0) 1 8 Tryd.underlying22 HI.out HZ0.out HZ1.out HZ2.out rfl (by decide) _ _ _ rfl HG.out ⟨_, 0, none⟩ 1 1 [.int .i64 x6] rfl rfl (lit_cells _ _ _) one_ok ?c3 ?c4 ?c5 ?c6)
          case c3 => unfold maxLen; first | omega | (simp; omega)
          case c4 => first | omega | (simp; omega)
          case c5 => first | omega | (simp; omega)
          case c6 =>
            intro v' w8 hown hgrow _
            have hG8 : Gath f1 1 3 w8 w.heap.size v' (M ++ [x6]) := Gath.snoc hown
            have hc8 : Cur A c L g (nn + 4 + 2 * M.length + 2 + 2) w8 := (hc6.next (by (repeat (first | exact Below.refl _ _ | refine Below.drew ?_ | refine below_drewN ?_ _ | (refine Below.alloc ?_ (by (try simp) <;> omega) _) | (refine Below.setCell ?_ (by (try simp) <;> omega) _) | (refine Below.trans ?_ (Below.mono (by assumption) (by (try simp) <;> omega)))))) : Cur A c L g (nn + 4 + 2 * M.length + 2 + 2) (w6.alloc (.cells #[.int .i64 x6] 3))).grown hgrow (fun k hk => by have := HG6.out.rowGe k hk; omega)
            have G8 : ButG g w w8 := (G6.alloc _).grown hgrow (fun k hk => HG6.out.rowGe k hk)
            clear hown hgrow HG HG6
            have hM9 := hM.out.snoc m6
            obtain ⟨A9, c9, rfl, ho9, hcp9, hnn9⟩ := Gath.ownc (f := f1) (m := 1) (fun _ => rfl) hG8
            have HCP := Lib.hid (And.intro hcp9 (hnn9 (by simp)))
            clear hcp9 hnn9
            go_wp2
            go_ret
            exact ⟨A9, c9, _, rfl, hM9.mono (by omega), ho9, hc8.mono (by omega), G8, HCP.out⟩
        have q0 : (x5 == 0) = false := by simpa using h0
        by_cases h1 : x5 = 1
        · have q1 : (x5 == 1) = true := by simpa using h1
          have H1 := Lib.hid h1; clear h1 h0 hx50 hx51
          have hc8 : Cur A c L g (nn + 4 + 2 * M.length + 2) (w5.alloc (.cells #[.int .i64 60, .int .i64 50, .int .i64 40, .int .i64 30, .int .i64 20, .int .i64 10] 3)) := hc5.next (by (repeat (first | exact Below.refl _ _ | refine Below.drew ?_ | refine below_drewN ?_ _ | (refine Below.alloc ?_ (by (try simp) <;> omega) _) | (refine Below.setCell ?_ (by (try simp) <;> omega) _) | (refine Below.trans ?_ (Below.mono (by assumption) (by (try simp) <;> omega))))))
          have G8 := G5.alloc (.cells #[.int .i64 60, .int .i64 50, .int .i64 40, .int .i64 30, .int .i64 20, .int .i64 10] 3)
          have o8 := lit_own (B := w.heap.size) (t := 3) (w := w5) [60, 50, 40, 30, 20, 10] z5
          go_wp2
          go_ret
          exact ⟨some ⟨w5.heap.size, 0, none⟩, 6, [60, 50, 40, 30, 20, 10], rfl, ⟨by decide, fun x hx => mem_small hx (by decide)⟩, o8, hc8.mono (by omega), G8, by decide, _, rfl⟩
        have q1 : (x5 == 1) = false := by simpa using h1
        by_cases h2 : x5 = 2
        · have q2 : (x5 == 2) = true := by simpa using h2
          have H2 := Lib.hid h2; clear h2 h1 h0 hx50 hx51
          obtain ⟨A9, c9, rfl, ho9⟩ := Gath.own (f := f1) (m := 1) (fun _ => rfl) hG5
          obtain ⟨g', rfl, hg', hR, hC⟩ := ho9 (by intro e; subst e; simp at hM1)
          clear hR hC ho9
          go_wp2
          go_ret
          exact ⟨_, _, [], rfl, FewOk.nil, OwnR.nil, hc5.mono (by omega), G5, Nat.zero_le _, _, rfl⟩
        have q2 : (x5 == 2) = false := by simpa using h2
        clear h0 h1 h2 hx50 hx51
        obtain ⟨A9, c9, rfl, ho9, hcp9, hnn9⟩ := Gath.ownc (f := f1) (m := 1) (fun _ => rfl) hG5
        have HCP := Lib.hid (And.intro hcp9 (hnn9 (by intro e; subst e; simp at hM1)))
        clear hcp9 hnn9
        have HM := hM
        go_wp2
        go_ret
        exact ⟨A9, c9, _, rfl, HM.out.mono (by omega), ho9, hc5.mono (by omega), G5, HCP.out⟩

/-- A set, a sample and an int; a set and a list of samples. -/
def IsSetSmI (v : Value) (w : World) : Prop := ∃ A c M A' c' M' k, v = .tuple #[.slice A M.length c, .agg #[.slice A' M'.length c'], .int .i64 k] ∧ (FewOk 6 M ∧ (M.length ≤ c ∧ ∃ x, A = some x) ∧ SlR f1 1 w w.heap.size A M) ∧ (FewOk 22 M' ∧ SlR f1 1 w w.heap.size A' M') ∧ -10 ≤ k ∧ k ≤ 10
def SmsOk (n : Nat) (M : List Smp) : Prop := M.length ≤ n ∧ ∀ x ∈ M, x.2.2.length ≤ 22
def IsSetSs (v : Value) (w : World) : Prop := ∃ A c M A' c' M', v = .tuple #[.slice A M.length c, .slice A' M'.length c'] ∧ (FewOk 6 M ∧ SlR f1 1 w w.heap.size A M) ∧ SmsOk 10 M' ∧ M'.length ≤ c' ∧ SlSm w w.heap.size A' M'

set_option maxRecDepth 20000 in
set_option maxHeartbeats 8000000 in
theorem DrawWithoutSieve_any (A : Option Addr) (c : Nat) (L : List Int) (wo : World) (hI : ∀ x ∈ L, 0 ≤ x ∧ x ≤ 255) (hl : (L.length : Int) ≤ 65536) (hs : SlR fb 1 wo wo.heap.size A L) :
    Calls Tryd.prog 13 #[.slice A L.length c] wo (DrW IsSetSmI wo) := by
  have hc := cur_new (c := c) (W := (wo.alloc (.cells #[.slice none 0 0] 29 (0, 0)))) hs (by (repeat (first | exact Below.refl _ _ | refine Below.drew ?_ | refine below_drewN ?_ _ | (refine Below.alloc ?_ (by (try simp) <;> omega) _) | (refine Below.setCell ?_ (by (try simp) <;> omega) _) | (refine Below.trans ?_ (Below.mono (by assumption) (by (try simp) <;> omega))))))
  have hB : Below wo.heap.size wo ((wo.alloc (.cells #[.slice none 0 0] 29 (0, 0))).alloc (.cells #[.slice A L.length c, .int .i64 0, .int .u64 0] 59)) := by (repeat (first | exact Below.refl _ _ | refine Below.drew ?_ | refine below_drewN ?_ _ | (refine Below.alloc ?_ (by (try simp) <;> omega) _) | (refine Below.setCell ?_ (by (try simp) <;> omega) _) | (refine Below.trans ?_ (Below.mono (by assumption) (by (try simp) <;> omega)))))
  have kR := (Blk.new wo 29 #[.slice none 0 0]).alloc (.cells #[.slice A L.length c, .int .i64 0, .int .u64 0] 59)
  have zE : (wo.alloc (.cells #[.slice none 0 0] 29 (0, 0))).heap.size = wo.heap.size + 1 := by simp
  rw [zE] at hc
  go_enter Tryd.func13, Tryd.ntmps13
  go_upto_region 2 with fail
  generalize (wo.alloc (.cells #[.slice none 0 0] 29 (0, 0))).alloc (.cells #[.slice A L.length c, .int .i64 0, .int .u64 0] 59) = w at *
  obtain ⟨q, hq⟩ : ∃ q, wo.heap.size = q := ⟨_, rfl⟩
  rw [hq] at hc kR hB
  obtain ⟨g, hg⟩ : ∃ g, q + 1 = g := ⟨_, rfl⟩
  rw [hg] at hc
  have Hq := Lib.hid hq
  have hqg : q < g := by omega
  have hne : q ≠ g := by omega
  have gg := hc.lt
  have qq : q < w.heap.size := by omega
  rw [hq]
  simp only [hg]
  clear hg hq hs zE
  go_wp2_with fail
  refine (set14c_any A c L g 0 _ hI hl (by omega) hc).mono ?_; rintro e w1 ⟨A1, c1, M1, rfl, hM1, o1, hc1, hb1, hcap1⟩
  have HCAP := Lib.hid hcap1
  clear hcap1
  go_wp2_with fail
  refine (sample14_any A c L g 30 _ hI hl (by omega) hc1).mono ?_; rintro e w2 ⟨A2, c2, M2, rfl, hM2, o2, hc2, hb2⟩
  have hM6 := hM1.1
  go_wp2_with fail
  refine (pick_any A c L g 90 (M1.length + 1) _ hI hl (by omega) (by omega) hc2).mono ?_; rintro e w3 ⟨x3, rfl, ⟨u3, v3⟩, hc3, hb3⟩
  go_wp2_with fail
  refine (pick_any A c L g 92 20 _ hI hl (by omega) (by omega) hc3).mono ?_; rintro e w4 ⟨x4, rfl, ⟨u4, v4⟩, hc4, hb4⟩
  have z1 := hb1.size
  have z2 := hb2.size
  have G24 : ButG g w2 w4 := hb3.trans hb4
  have G14 : ButG g w1 w4 := hb2.trans G24
  have G4 : ButG g w w4 := hb1.trans G14
  have k4 := kR.but G4 hne
  have ck := k4.cell
  have fk := k4.frozen
  have lk := k4.lt
  have O1 := Lib.hid ((o1.but gg G14).farN qq 0 (.slice A2 M2.length c2)).sl
  have O2 := Lib.hid ((o2.but (show g < w1.heap.size by omega) G24).farN (q := q) (by omega) 0 (.slice A2 M2.length c2)).sl
  have HW := Lib.hid ((hB.trans (G4.below (Nat.le_of_lt hqg) gg)).setCell (p := ⟨q, 0, none⟩) (Nat.le_refl _) (.slice A2 M2.length c2))
  have HM1 := Lib.hid hM1
  have HM2 := Lib.hid hM2
  have hd : 0 ≤ x4 / 19 ∧ x4 / 19 ≤ 1 := by omega
  have hx37 : x3 ≤ 7 := by omega
  have hv20 : x4 ≤ 19 := by omega
  clear o1 o2 hb1 hb2 hb3 hb4 hM1 hM2 G24 G14 G4 hc hc1 hc2 hc3 hc4 hB kR
  go_wp2
  refine bodyPost_ret (v := .tuple #[.slice A1 M1.length c1, .agg #[.slice A2 M2.length c2], .int .i64 (x3 - x4 / 19)]) (by simp [results, Tryd.results13, go_sem, *] <;> rfl) rfl ?_
  exact ⟨_, rfl, ⟨A1, c1, M1, A2, c2, M2, _, rfl, ⟨HM1.out, HCAP.out, O1.out⟩, ⟨HM2.out, O2.out⟩, by omega, by omega⟩, by rw [Hq.out]; exact HW.out⟩

set_option maxRecDepth 20000 in
set_option maxHeartbeats 8000000 in
theorem DrawGradeOf_any (A : Option Addr) (c : Nat) (L : List Int) (wo : World) (hI : ∀ x ∈ L, 0 ≤ x ∧ x ≤ 255) (hl : (L.length : Int) ≤ 65536) (hs : SlR fb 1 wo wo.heap.size A L) :
    Calls Tryd.prog 21 #[.slice A L.length c] wo (DrW IsSetSm wo) := by
  have hB : Below wo.heap.size wo (wo.alloc (.cells #[.slice none 0 0] 29 (0, 0))) := by (repeat (first | exact Below.refl _ _ | refine Below.drew ?_ | refine below_drewN ?_ _ | (refine Below.alloc ?_ (by (try simp) <;> omega) _) | (refine Below.setCell ?_ (by (try simp) <;> omega) _) | (refine Below.trans ?_ (Below.mono (by assumption) (by (try simp) <;> omega)))))
  have kR := Blk.new wo 29 #[.slice none 0 0]
  have hs1 := hs.next hB
  clear hs
  go_enter Tryd.func21, Tryd.ntmps21
  go_upto_region 1 with fail
  generalize wo.alloc (.cells #[.slice none 0 0] 29 (0, 0)) = w at *
  have zB := hB.size
  have lk := kR.lt
  obtain ⟨q, hq⟩ : ∃ q, wo.heap.size = q := ⟨_, rfl⟩
  have Hq := Lib.hid hq
  rw [hq] at kR hB zB lk ⊢
  clear hq
  go_wp2_with fail
  refine (DrawFractions_any A c L w hI hl hs1).mono ?_; rintro e w1 ⟨v, rfl, ⟨A1, c1, M1, A2, c2, M2, rfl, ⟨hM1, o1⟩, hM2, o2⟩, hb1⟩
  have k1 := kR.below' hb1
  have ck := k1.cell
  have fk := k1.frozen
  have lk1 := k1.lt
  have z1 := hb1.size
  have O1 := Lib.hid (SlR.boxed o1 k1 (.slice A2 M2.length c2))
  have O2 := Lib.hid (SlR.boxed o2 k1 (.slice A2 M2.length c2))
  have HW := Lib.hid ((hB.trans (hb1.mono zB)).setCell (p := ⟨q, 0, none⟩) (Nat.le_refl _) (.slice A2 M2.length c2))
  have HM1 := Lib.hid hM1
  have HM2 := Lib.hid hM2
  clear o1 o2 hb1 hM1 hM2 hs1 hB kR k1
  go_wp2
  refine bodyPost_ret (v := .tuple #[.slice A1 M1.length c1, .agg #[.slice A2 M2.length c2]]) (by simp [results, Tryd.results21, go_sem, *] <;> rfl) rfl ?_
  exact ⟨_, rfl, ⟨A1, c1, M1, A2, c2, M2, rfl, ⟨HM1.out, O1.out⟩, HM2.out, O2.out⟩, by rw [Hq.out]; exact HW.out⟩

theorem one_okS {A : Option Addr} {n c : Nat} : ∀ u ∈ [Value.slice A n c], u.oneCell' = true := by
  intro u hu; simp at hu; rw [hu]; rfl
theorem infoSm : (Tryd.prog.info? 29).map (fun i => (i.zero, i.size, i.bytes)) = some (some (.agg #[.slice none 0 0]), 1, 24) := by kernel_rfl
/-- A row of ints stands while a list of samples grows. -/
theorem OwnR.grownS {w w' : World} {B B' : Nat} {A : Option Addr} {L : List Int} {v : Value} {M : List Smp} (h : OwnR f1 1 3 w B A L) (hG : Gath fM 1 29 w B' v M) (hg : w.grownBy w' v.ownBlock) : OwnR f1 1 3 w' B A L := fun hn => by
  obtain ⟨g, hA, hB, ⟨cs, hr, hcs⟩, hC⟩ := h hn
  have he : w'.heap[g]? = w.heap[g]? := hg.block g (Row.lt ⟨cs, hr, hcs⟩) (fun e => by
    obtain ⟨_, cs', hk⟩ := hG.ownTyB g e.symm
    rw [hr] at hk
    cases hk)
  exact ⟨g, hA, hB, ⟨cs, he.trans hr, hcs⟩, fun k x hx j u hu => (World.cell?_of_block (a := ⟨g, 0 + k * 1 + j, none⟩) he).trans (hC k x hx j u hu)⟩
def RowsOk (w : World) (B : Nat) (M : List Smp) : Prop := ∀ x ∈ M, OwnR f1 1 3 w B x.1 x.2.2 ∧ x.2.2.length ≤ 22
theorem RowsOk.nil {w : World} {B : Nat} : RowsOk w B [] := fun x hx => by cases hx
theorem RowsOk.but {w w' : World} {B g : Nat} {M : List Smp} (h : RowsOk w B M) (hg : g < B) (hb : ButG g w w') : RowsOk w' B M := fun x hx => ⟨(h x hx).1.but hg hb, (h x hx).2⟩
theorem RowsOk.next {w w' : World} {B : Nat} {M : List Smp} (h : RowsOk w B M) (hb : Below w.heap.size w w') : RowsOk w' B M := fun x hx => ⟨(h x hx).1.next hb, (h x hx).2⟩
theorem RowsOk.snoc {w w' : World} {B B' : Nat} {M M' : List Smp} {x : Smp} {v : Value} (h : RowsOk w B M) (hx : OwnR f1 1 3 w B x.1 x.2.2) (hl : x.2.2.length ≤ 22) (hG : Gath fM 1 29 w B' v M') (hg : w.grownBy w' v.ownBlock) : RowsOk w' B (M ++ [x]) := fun y hy => by
  rcases List.mem_append.1 hy with hy | hy
  · exact ⟨(h y hy).1.grownS hG hg, (h y hy).2⟩
  · rw [List.mem_singleton] at hy; subst hy
    exact ⟨hx.grownS hG hg, hl⟩

set_option maxRecDepth 20000 in
set_option maxHeartbeats 8000000 in
theorem DrawFewestSieves_any (A : Option Addr) (c : Nat) (L : List Int) (wo : World) (hI : ∀ x ∈ L, 0 ≤ x ∧ x ≤ 255) (hl : (L.length : Int) ≤ 65536) (hs : SlR fb 1 wo wo.heap.size A L) :
    Calls Tryd.prog 18 #[.slice A L.length c] wo (DrW IsSetSs wo) := by
  obtain ⟨i0, hi, hz0, hz1, hz2⟩ := info_parts infoSm
  have HI := Lib.hid hi; have HZ0 := Lib.hid hz0; have HZ1 := Lib.hid hz1; have HZ2 := Lib.hid hz2
  clear hi hz0 hz1 hz2
  have hc := cur_new (c := c) (W := wo) hs (Below.refl _ _)
  have hB : Below wo.heap.size wo (wo.alloc (.cells #[.slice A L.length c, .int .i64 0, .int .u64 0] 59)) := by (repeat (first | exact Below.refl _ _ | refine Below.drew ?_ | refine below_drewN ?_ _ | (refine Below.alloc ?_ (by (try simp) <;> omega) _) | (refine Below.setCell ?_ (by (try simp) <;> omega) _) | (refine Below.trans ?_ (Below.mono (by assumption) (by (try simp) <;> omega)))))
  go_enter Tryd.func18, Tryd.ntmps18
  go_upto_region 2 with fail
  generalize wo.alloc (.cells #[.slice A L.length c, .int .i64 0, .int .u64 0] 59) = w at *
  obtain ⟨g, hg⟩ : ∃ g, wo.heap.size = g := ⟨_, rfl⟩
  have Hg := Lib.hid hg
  rw [hg] at hc hB ⊢
  have gg := hc.lt
  clear hg hs
  go_wp2_with fail
  refine (set14c_any A c L g 0 _ hI hl (by omega) hc).mono ?_; rintro e w1 ⟨A1, c1, S, rfl, hS, o1, hc1, hb1, _⟩
  have HS := Lib.hid hS
  have HO1 := Lib.hid o1
  have G0 := Lib.hid hb1
  have z1 := hb1.size
  clear hS o1 hb1 hc
  obtain ⟨b1, hb1⟩ : ∃ b1, w1.heap.size = b1 := ⟨_, rfl⟩
  have gb : g < b1 := by omega
  have hG1 := Gath.made (f := fM) (m := 1) (t := 29) (B := w1.heap.size) (w := w1) (Nat.le_refl _)
  have HEnd : Hid (∀ (wr : World), ButG g w1 wr → ∀ (n : Nat) (M : List Smp) (v : Value), M.length ≤ 10 → Cur A c L g n wr → Gath fM 1 29 wr b1 v M → RowsOk wr b1 M → DrW IsSetSs wo (.returned (.tuple #[.slice A1 S.length c1, v])) wr) := fun wr hr n M v hM _ hGv hRv => by
    obtain ⟨A6, c6, rfl, ho6, hcp6, _⟩ := Gath.ownc (f := fM) (m := 1) (fun _ => rfl) hGv
    exact ⟨_, rfl, ⟨A1, c1, S, A6, c6, M, rfl, ⟨HS.out, (HO1.out.but gg hr).sl⟩, ⟨hM, fun x hx => (hRv x hx).2⟩, hcp6, ho6.sl, fun x hx => (hRv x hx).1.sl⟩, by
      rw [Hg.out]
      exact hB.trans ((G0.out.trans hr).below (Nat.le_refl _) gg)⟩
  go_wp2_with fail
  refine (pick_any A c L g 30 5 _ hI hl (by omega) (by omega) (hc1.next (by (repeat (first | exact Below.refl _ _ | refine Below.drew ?_ | refine below_drewN ?_ _ | (refine Below.alloc ?_ (by (try simp) <;> omega) _) | (refine Below.setCell ?_ (by (try simp) <;> omega) _) | (refine Below.trans ?_ (Below.mono (by assumption) (by (try simp) <;> omega)))))))).mono ?_; rintro e w2 ⟨x2, rfl, ⟨u2, v2⟩, hc2, hb2⟩
  have G2 : ButG g w1 w2 := (ButG.of (by (repeat (first | exact Below.refl _ _ | refine Below.drew ?_ | refine below_drewN ?_ _ | (refine Below.alloc ?_ (by (try simp) <;> omega) _) | (refine Below.setCell ?_ (by (try simp) <;> omega) _) | (refine Below.trans ?_ (Below.mono (by assumption) (by (try simp) <;> omega)))))) : ButG g w1 _).trans hb2
  have hG2 := Lib.hid (Gath.but hG1 (by omega) hb2)
  have v2' : x2 ≤ 4 := by omega
  rw [hb1] at hG2
  clear hG1 hb2 hc1 v2
  go_wp2
  go_loopw [6, 7] (fun v6 v7 wr => ∃ (M : List Smp) (j : Int), v7 = .int .i64 j ∧ (0 ≤ j ∧ M.length + j ≤ 4) ∧ Hid (Gath fM 1 29 wr b1 v6 M) ∧ Hid (RowsOk wr b1 M) ∧ Cur A c L g (32 + 60 * M.length) wr ∧ ButG g w1 wr) (fun _ v7 _ => (intV v7).toNat)
  case atStart => exact ⟨[], x2, rfl, ⟨u2, by simp; omega⟩, hG2.out, RowsOk.nil, hc2, G2⟩
  case round =>
    obtain ⟨M, j, rfl, ⟨hj, hMj⟩, hG, hR, hcr, hBr⟩ := hrel
    have zr := hBr.size
    have hcr' := hcr
    have hBr' := hBr
    generalize wr = w9 at *
    clear hc2 G2 hG2 hcr hBr
    have hM4 : M.length ≤ 4 := by omega
    by_cases hj0 : 0 < j
    · go_wp2_with fail
      refine (sample14_any A c L g (32 + 60 * M.length) _ hI hl (by omega) hcr').mono ?_; rintro e w3 ⟨A3, c3, M3, rfl, hM3, o3, hc3, hb3⟩
      have z3 := hb3.size
      have HM3 := Lib.hid hM3
      have HG0 := Lib.hid (hG.out.but gb hb3)
      have HG := Lib.hid (Gath.alloc HG0.out (.cells #[.slice A3 M3.length c3] 29))
      have hbA : Below w3.heap.size w3 (w3.alloc (.cells #[.slice A3 M3.length c3] 29)) := by (repeat (first | exact Below.refl _ _ | refine Below.drew ?_ | refine below_drewN ?_ _ | (refine Below.alloc ?_ (by (try simp) <;> omega) _) | (refine Below.setCell ?_ (by (try simp) <;> omega) _) | (refine Below.trans ?_ (Below.mono (by assumption) (by (try simp) <;> omega)))))
      have HR := Lib.hid ((hR.out.but gb hb3).next hbA)
      have HO3 := Lib.hid ((o3.mono (show b1 ≤ w9.heap.size by omega)).next hbA)
      have HC := Lib.hid (hc3.next hbA)
      have HB := Lib.hid ((hBr'.trans hb3).alloc (.cells #[.slice A3 M3.length c3] 29))
      clear hM3 o3 hc3 hb3 hbA hG hR hcr' hBr'
      go_wp2_with (at_builtin; refine wpList_append_own _ rfl _ _ 41 rfl b1 29 i0 (.agg #[.slice none 0 0]) 1 24 Tryd.underlying41 HI.out HZ0.out HZ1.out HZ2.out rfl (by decide) _ _ _ rfl HG.out ⟨_, 0, none⟩ 1 1 [.slice A3 M3.length c3] rfl rfl (lit_cells _ _ _) one_okS ?c3 ?c4 ?c5 ?c6)
      case c3 => unfold maxLen; first | omega | (simp; omega)
      case c4 => first | omega | (simp; omega)
      case c5 => first | omega | (simp; omega)
      case c6 =>
        intro v' w8 hown hgrow _
        have hG8 : Hid (Gath fM 1 29 w8 b1 v' (M ++ [(A3, c3, M3)])) := Gath.snoc (x := ((A3, c3, M3) : Smp)) hown
        have hc8 : Hid (Cur A c L g (32 + 60 * M.length + 60) w8) := HC.out.grown hgrow (fun k hk => by have := HG0.out.rowGe k hk; omega)
        have hB8 : Hid (ButG g w1 w8) := HB.out.grown hgrow (fun k hk => by have := HG0.out.rowGe k hk; omega)
        have hR8 : Hid (RowsOk w8 b1 (M ++ [(A3, c3, M3)])) := HR.out.snoc (x := ((A3, c3, M3) : Smp)) HO3.out HM3.out.1 HG.out hgrow
        have hl8 : (M ++ [(A3, c3, M3)]).length = M.length + 1 := by simp
        generalize M ++ [(A3, c3, M3)] = M8 at *
        have HL8 := Lib.hid hl8
        clear hown hgrow HG HG0 HR HO3 HC HB hl8
        go_wp2
        go_roundw
        case rel => exact ⟨M8, j - 1, by go_num, ⟨by omega, by have := HL8.out; omega⟩, hG8, hR8, hc8.out.mono (by have := HL8.out; omega), hB8.out⟩
        case measure => simp only [intV]; omega
    · go_wp2_with fail
      refine (one_any A c L g (32 + 60 * M.length) 24 _ hI hl (by omega) (by omega) hcr').mono ?_; rintro e w3 ⟨x3, rfl, hc3, hb3⟩
      have z3 := hb3.size
      have hG3 := Lib.hid (hG.out.but gb hb3)
      have hR3 := Lib.hid (hR.out.but gb hb3)
      have hB3 := hBr'.trans hb3
      clear hG hR hcr' hBr' hb3
      cases x3
      · have HC3 := Lib.hid hc3
        have HB3 := Lib.hid hB3
        clear hc3 hB3
        go_wp2
        go_ret2
        exact HEnd.out _ HB3.out _ M _ (by omega) HC3.out hG3.out hR3.out
      · have hc4 := hc3
        have hB4 := hB3
        generalize w3 = w4 at *
        have hG4 := Lib.hid ((Gath.made (f := fM) (m := 1) (t := 29) (B := b1) (w := w4) (by omega)))
        have hc5 : Cur A c L g (300) (w4.alloc (.cells #[] 29 (0, 0))) := (hc4.next (by (repeat (first | exact Below.refl _ _ | refine Below.drew ?_ | refine below_drewN ?_ _ | (refine Below.alloc ?_ (by (try simp) <;> omega) _) | (refine Below.setCell ?_ (by (try simp) <;> omega) _) | (refine Below.trans ?_ (Below.mono (by assumption) (by (try simp) <;> omega))))))).mono (by omega)
        have hB5 := hB4.alloc (.cells #[] 29 (0, 0))
        clear hc3 hB3 hc4 hB4 hG3 hR3
        go_wp2
        generalize w4.alloc (.cells #[] 29 (0, 0)) = w5 at *
        go_loopw [6, 8] (fun v6 v8 wr => ∃ (N : List Smp) (i : Nat), v8 = .int .i64 (i : Int) ∧ Hid (N.length = i) ∧ i ≤ 9 ∧ Hid (Gath fM 1 29 wr b1 v6 N) ∧ Hid (RowsOk wr b1 N) ∧ Cur A c L g (300 + 2 * i) wr ∧ ButG g w1 wr) (fun _ v8 _ => (9 - intV v8).toNat)
        case atStart => exact ⟨[], 0, rfl, rfl, by omega, hG4.out, RowsOk.nil, hc5, hB5⟩
        case round =>
          obtain ⟨N, i, rfl, hN, hi9, hG, hR, hcr, hBr⟩ := hrel
          have zr' := hBr.size
          have hcr' := hcr
          have hBr' := hBr
          generalize wr = w6 at *
          clear hc5 hB5 hG4 hcr hBr
          go_wp2_with fail
          refine (pick_any A c L g (300 + 2 * i) 2 _ hI hl (by omega) (by omega) hcr').mono ?_; rintro e w7 ⟨x7, rfl, ⟨u7, v7⟩, hc7, hb7⟩
          have z7 := hb7.size
          have hG7 := Lib.hid (hG.out.but gb hb7)
          have hR7 := Lib.hid (hR.out.but gb hb7)
          have hB7 := Lib.hid (hBr'.trans hb7)
          have HC7 := Lib.hid hc7
          have v7' : x7 ≤ 1 := by omega
          clear hG hR hcr' hBr' hb7 hc7 v7
          by_cases hlt : (i : Int) < 8 + x7
          · obtain ⟨z, hz⟩ : ∃ z : Int, z = 10 * ((i : Int) + 1) := ⟨_, rfl⟩
            have HZ := Lib.hid hz
            have hb71 : Below w7.heap.size w7 (w7.alloc (.cells #[.int .i64 z] 3)) := by (repeat (first | exact Below.refl _ _ | refine Below.drew ?_ | refine below_drewN ?_ _ | (refine Below.alloc ?_ (by (try simp) <;> omega) _) | (refine Below.setCell ?_ (by (try simp) <;> omega) _) | (refine Below.trans ?_ (Below.mono (by assumption) (by (try simp) <;> omega)))))
            have hb72 : Below w7.heap.size w7 ((w7.alloc (.cells #[.int .i64 z] 3)).alloc (.cells #[.slice (some ⟨w7.heap.size, 0, none⟩) 1 1] 29)) := by (repeat (first | exact Below.refl _ _ | refine Below.drew ?_ | refine below_drewN ?_ _ | (refine Below.alloc ?_ (by (try simp) <;> omega) _) | (refine Below.setCell ?_ (by (try simp) <;> omega) _) | (refine Below.trans ?_ (Below.mono (by assumption) (by (try simp) <;> omega)))))
            have hbz : b1 ≤ w7.heap.size := by omega
            have HG0 := Lib.hid (Gath.below hG7.out hb71)
            have HG := Lib.hid (Gath.below hG7.out hb72)
            have HR := Lib.hid (hR7.out.next hb72)
            have HO := Lib.hid ((lit_own (t := 3) (B := b1) (w := w7) [z] hbz).next (show Below (w7.alloc (.cells #[.int .i64 z] 3)).heap.size _ ((w7.alloc (.cells #[.int .i64 z] 3)).alloc (.cells #[.slice (some ⟨w7.heap.size, 0, none⟩) 1 1] 29)) by (repeat (first | exact Below.refl _ _ | refine Below.drew ?_ | refine below_drewN ?_ _ | (refine Below.alloc ?_ (by (try simp) <;> omega) _) | (refine Below.setCell ?_ (by (try simp) <;> omega) _) | (refine Below.trans ?_ (Below.mono (by assumption) (by (try simp) <;> omega)))))))
            have HC := Lib.hid (HC7.out.next hb72)
            have HB := Lib.hid (hB7.out.trans (.of hb72))
            clear hb71 hb72 hG7 hR7 hB7 HC7 hz
            have HL7 := Lib.hid hN.out
            have hNl : N.length ≤ 9 := by have := hN.out; omega
            clear hN
            go_wp2_with (at_builtin; rw [← HZ.out]; refine wpList_append_own _ rfl _ _ 41 rfl b1 29 i0 (.agg #[.slice none 0 0]) 1 24 Tryd.underlying41 HI.out HZ0.out HZ1.out HZ2.out rfl (by decide) _ _ _ rfl HG.out ⟨_, 0, none⟩ 1 1 [.slice (some ⟨w7.heap.size, 0, none⟩) 1 1] rfl rfl ?c2 one_okS ?c3 ?c4 ?c5 ?c6)
            case c2 =>
              intro j u hj
              have h := lit_cells (w7.alloc (.cells #[.int .i64 z] 3)) 29 [.slice (some ⟨w7.heap.size, 0, none⟩) 1 1] j u hj
              rw [World.size_alloc] at h
              exact h
            case c3 => unfold maxLen; first | omega | (simp; omega)
            case c4 => first | omega | (simp; omega)
            case c5 => first | omega | (simp; omega)
            case c6 =>
              intro v' w8 hown hgrow _
              have hG8 : Hid (Gath fM 1 29 w8 b1 v' (N ++ [(some ⟨w7.heap.size, 0, none⟩, 1, [z])])) := Gath.snoc (x := ((some ⟨w7.heap.size, 0, none⟩, 1, [z]) : Smp)) hown
              have hc8 : Hid (Cur A c L g (300 + 2 * i + 2) w8) := HC.out.grown hgrow (fun k hk => by have := HG0.out.rowGe k hk; omega)
              have hB8 : Hid (ButG g w1 w8) := HB.out.grown hgrow (fun k hk => by have := HG0.out.rowGe k hk; omega)
              have hR8 : Hid (RowsOk w8 b1 (N ++ [(some ⟨w7.heap.size, 0, none⟩, 1, [z])])) := HR.out.snoc (x := ((some ⟨w7.heap.size, 0, none⟩, 1, [z]) : Smp)) HO.out (by simp) HG.out hgrow
              have hl8 : Hid ((N ++ [((some ⟨w7.heap.size, 0, none⟩, 1, [z]) : Smp)]).length = i + 1) := by rw [List.length_append, HL7.out]; rfl
              generalize N ++ [((some ⟨w7.heap.size, 0, none⟩, 1, [z]) : Smp)] = M8 at *
              clear hown hgrow HG HG0 HR HO HC HB
              go_wp2
              go_roundw
              case rel => exact ⟨M8, i + 1, by go_num, hl8, by omega, hG8, hR8, hc8.out.mono (by omega), hB8.out⟩
              case measure => simp only [intV]; omega
          · have HN := Lib.hid hN.out
            go_wp2
            go_ret2
            exact HEnd.out _ hB7.out _ N _ (by have := HN.out; omega) HC7.out hG7.out hR7.out
end Go.Proofs.YtapfnelghmnajaaDoor
