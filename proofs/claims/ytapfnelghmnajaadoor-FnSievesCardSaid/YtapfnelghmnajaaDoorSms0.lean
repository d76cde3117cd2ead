/-
  Lists of samples, in plain words; two equal lists.
-/
import Derived.Test.YtapfnelghmnajaaDoorFr1
import Derived.Test.YtapfnelghmnajaaDoorPred
import Derived.Test.YtapfnelghmnajaaDoorHInt
import Derived.Test.YtapfnelghmnajaaDoorRegion
import Derived.Test.YtapfnelghmnajaaDoorAppend
import Derived.WalkKit
import Derived.WalkSpells
import Derived.WalkLawsBesides
import Derived.Lib.Hide
import Derived.Deep.QuietTactic
import Derived.BigQuiet
import Derived.StillTailTactics
namespace Go.Proofs.YtapfnelghmnajaaDoor
open Go.RowKit

/-! ### Which pairs some sieves part -/
def prow (S : List Int) (T : List (List Int)) (i k : Nat) : List Bool := (List.range k).map fun j => !eqL (frA S (T.getD i [])) (frA S (T.getD j []))
def ppre (S : List Int) (T : List (List Int)) (i : Nat) : List Bool := (List.range i).flatMap fun i' => prow S T i' i'
def partsL (S : List Int) (T : List (List Int)) : List Bool := ppre S T T.length
theorem prow_succ (S : List Int) (T : List (List Int)) (i k : Nat) : prow S T i (k + 1) = prow S T i k ++ [!eqL (frA S (T.getD i [])) (frA S (T.getD k []))] := by simp [prow, List.range_succ]
theorem prow_len (S : List Int) (T : List (List Int)) (i k : Nat) : (prow S T i k).length = k := by simp [prow]
theorem prow_zero (S : List Int) (T : List (List Int)) (i : Nat) : prow S T i 0 = [] := rfl
theorem ppre_succ (S : List Int) (T : List (List Int)) (i : Nat) : ppre S T (i + 1) = ppre S T i ++ prow S T i i := by simp [ppre, List.range_succ]
theorem ppre_zero (S : List Int) (T : List (List Int)) : ppre S T 0 = [] := rfl
theorem ppre_len (S : List Int) (T : List (List Int)) : ∀ i, i ≤ 8 → (ppre S T i).length ≤ 8 * i
  | 0, _ => by simp [ppre_zero]
  | i + 1, h => by
    have := ppre_len S T i (by omega)
    rw [ppre_succ, List.length_append, prow_len]; omega
theorem pp_len (S : List Int) (T : List (List Int)) {i k : Nat} (hi : i ≤ 8) (hk : k ≤ 8) : (ppre S T i ++ prow S T i k).length ≤ 72 := by
  have := ppre_len S T i hi
  rw [List.length_append, prow_len]; omega

/-! ### Bools in memory -/
def fB (b : Bool) : List Value := [.bool b]
theorem cellsB {w : World} {b off k : Nat} {L : List Bool} {x : Bool} (h : Cells fB 1 w b off L) (hx : L[k]? = some x) : w.cell? ⟨b, off + k, none⟩ = some (.bool x) := by
  simpa using h k x hx 0 _ rfl
theorem infoBool : (Tryd.prog.info? 4).map (fun i => (i.zero, i.size, i.bytes)) = some (some (.bool false), 1, 1) := by kernel_rfl

/-! ### Samples in memory -/
/-- A sample: where its sizes lie, their capacity, the sizes. -/
abbrev Smp := Option Addr × Nat × List Int
def fM (x : Smp) : List Value := [.slice x.1 x.2.2.length x.2.1]
def smls (M : List Smp) : List (List Int) := M.map (·.2.2)
theorem smls_len (M : List Smp) : (smls M).length = M.length := by simp [smls]
theorem smls_at {M : List Smp} {k : Nat} {x : Smp} (hx : M[k]? = some x) : (smls M).getD k [] = x.2.2 := by
  rw [List.getD_eq_getElem?_getD, smls, List.getElem?_map, hx]; rfl
structure SlSm (w : World) (B : Nat) (A : Option Addr) (M : List Smp) : Prop where
  sl : SlR fM 1 w B A M
  rows : ∀ x ∈ M, SlR f1 1 w B x.1 x.2.2
section
variable {w w' : World} {B B' : Nat} {A : Option Addr} {M : List Smp}
theorem SlSm.below (h : SlSm w B A M) (hb : Below B w w') : SlSm w' B A M := ⟨h.sl.below hb, fun x hx => (h.rows x hx).below hb⟩
theorem SlSm.mono (h : SlSm w B A M) (hB : B ≤ B') : SlSm w B' A M := ⟨h.sl.mono hB, fun x hx => (h.rows x hx).mono hB⟩
theorem SlSm.next (h : SlSm w w.heap.size A M) (hb : Below w.heap.size w w') : SlSm w' w'.heap.size A M := (h.below hb).mono hb.size
end
theorem cellM {w : World} {b off k : Nat} {M : List Smp} {x : Smp} (h : Cells fM 1 w b off M) (hx : M[k]? = some x) : w.cell? ⟨b, off + k, none⟩ = some (.slice x.1 x.2.2.length x.2.1) := by
  simpa using h k x hx 0 _ rfl

set_option maxHeartbeats 1000000 in
theorem l1Same_any (A A' : Option Addr) (c c' : Nat) (L L' : List Int) (w : World) (hr : SlR f1 1 w w.heap.size A L) (hr' : SlR f1 1 w w.heap.size A' L') (hm : (L.length : Int) ≤ 9223372036854775807) :
    Calls Tryd.prog 60 #[.slice A L.length c, .slice A' L'.length c'] w fun e w' => e = .returned (.bool (eqL L L')) ∧ Below w.heap.size w w' := by
  by_cases hlen : L.length = L'.length
  case neg =>
    have Hv := Lib.hid (eqL_len hlen)
    have hb : ((L.length : Int) != (L'.length : Int)) = true := by rw [bne_iff_ne]; omega
    go_enter Tryd.func60, Tryd.ntmps60
    go_wp2
    go_ret
    exact ⟨by rw [Hv.out]; rfl, by (repeat (first | exact Below.refl _ _ | refine Below.drew ?_ | refine below_drewN ?_ _ | (refine Below.alloc ?_ (by (try simp) <;> omega) _) | (refine Below.setCell ?_ (by (try simp) <;> omega) _) | (refine Below.trans ?_ (Below.mono (by assumption) (by (try simp) <;> omega)))))⟩
  have hb : ((L.length : Int) != (L'.length : Int)) = false := by simp [hlen]
  have Hlen := Lib.hid hlen; clear hlen
  go_enter Tryd.func60, Tryd.ntmps60
  go_wp2
  go_loopw [5] (fun i wr => ∃ k : Nat, i = .int .i64 k ∧ k ≤ L.length ∧ Hid (∀ j, j < k → L[j]? = L'[j]?) ∧ Below w.heap.size w wr) (fun i _ => (L.length - intOf i).toNat)
  case atStart => exact ⟨0, rfl, by omega, fun j h => by omega, Below.refl _ _⟩
  case round =>
    obtain ⟨k, rfl, hk, hp, hbw⟩ := hrel
    by_cases hlt : k < L.length
    · have hlt' : k < L'.length := by have := Hlen.out; omega
      have hx : L[k]? = some L[k] := List.getElem?_eq_getElem hlt
      have hy : L'[k]? = some L'[k] := List.getElem?_eq_getElem hlt'
      obtain ⟨b, off, rfl, hB, hcs⟩ := hr (SlR.ne hx)
      obtain ⟨b', off', rfl, hB', hcs'⟩ := hr' (SlR.ne hy)
      have hk0 : (0 : Int) ≤ (k : Int) := by omega
      have hk1 : (k : Int) < (L.length : Int) := by omega
      have hk1' : (k : Int) < (L'.length : Int) := by omega
      generalize L[k] = x at *
      generalize L'[k] = y at *
      have hC := hcs.below hbw hB
      have hC' := hcs'.below hbw hB'
      have hBr : b < wr.heap.size := by have := hbw.size; omega
      have hBr' : b' < wr.heap.size := by have := hbw.size; omega
      have c0 := cells1 hC hx
      have c1 := cells1 hC' hy
      by_cases hxy : x = y
      · have hne : (x != y) = false := by simp [hxy]
        have Hp : Hid (∀ j, j < k + 1 → L[j]? = L'[j]?) := fun j hj => by
          by_cases e : j = k
          · rw [e, hx, hy, hxy]
          · exact hp.out j (by omega)
        clear hxy
        go_wp2
        go_quiet (fail)
        go_wp2
        go_roundw
        case rel => exact ⟨k + 1, by go_num, by omega, Hp, by (repeat (first | exact Below.refl _ _ | refine Below.drew ?_ | refine below_drewN ?_ _ | (refine Below.alloc ?_ (by (try simp) <;> omega) _) | (refine Below.setCell ?_ (by (try simp) <;> omega) _) | (refine Below.trans ?_ (Below.mono (by assumption) (by (try simp) <;> omega)))))⟩
        case measure => simp only [intOf]; omega
      · have hne : (x != y) = true := by simpa using hxy
        have Hv := Lib.hid (eqL_false (a := L) (b := L') k (by rw [hx, hy]; intro e; cases e; exact hxy rfl))
        clear hxy
        go_wp2
        go_quiet (fail)
        go_wp2
        go_ret
        exact ⟨by rw [Hv.out]; rfl, by (repeat (first | exact Below.refl _ _ | refine Below.drew ?_ | refine below_drewN ?_ _ | (refine Below.alloc ?_ (by (try simp) <;> omega) _) | (refine Below.setCell ?_ (by (try simp) <;> omega) _) | (refine Below.trans ?_ (Below.mono (by assumption) (by (try simp) <;> omega)))))⟩
    · obtain rfl : k = L.length := by omega
      have Hv := Lib.hid (eqL_true (a := L) (b := L') (fun j => by
        by_cases hj : j < L.length
        · exact hp.out j hj
        · have := Hlen.out
          rw [List.getElem?_eq_none (by omega), List.getElem?_eq_none (by omega)]))
      go_wp2
      go_ret
      exact ⟨by rw [Hv.out]; rfl, hbw⟩

set_option maxHeartbeats 1000000 in
theorem equalI_any (A A' : Option Addr) (c c' : Nat) (L L' : List Int) (w : World) (hr : SlR f1 1 w w.heap.size A L) (hr' : SlR f1 1 w w.heap.size A' L') (hm : (L.length : Int) ≤ 9223372036854775807) :
    Calls Tryd.prog 59 #[.slice A L.length c, .slice A' L'.length c'] w fun e w' => e = .returned (.bool (eqL L L')) ∧ Below w.heap.size w w' := by
  by_cases hlen : L.length = L'.length
  case neg =>
    have Hv := Lib.hid (eqL_len hlen)
    have hb : ((L.length : Int) != (L'.length : Int)) = true := by rw [bne_iff_ne]; omega
    go_enter Tryd.func59, Tryd.ntmps59
    go_wp2
    go_ret
    exact ⟨by rw [Hv.out]; rfl, by (repeat (first | exact Below.refl _ _ | refine Below.drew ?_ | refine below_drewN ?_ _ | (refine Below.alloc ?_ (by (try simp) <;> omega) _) | (refine Below.setCell ?_ (by (try simp) <;> omega) _) | (refine Below.trans ?_ (Below.mono (by assumption) (by (try simp) <;> omega)))))⟩
  have hb : ((L.length : Int) != (L'.length : Int)) = false := by simp [hlen]
  have Hlen := Lib.hid hlen; clear hlen
  go_enter Tryd.func59, Tryd.ntmps59
  go_wp2
  go_loopw [13] (fun i wr => ∃ k : Nat, i = .int .i64 k ∧ k ≤ L.length ∧ Hid (∀ j, j < k → L[j]? = L'[j]?) ∧ Below w.heap.size w wr) (fun i _ => (L.length - intOf i).toNat)
  case atStart => exact ⟨0, rfl, by omega, fun j h => by omega, Below.refl _ _⟩
  case round =>
    obtain ⟨k, rfl, hk, hp, hbw⟩ := hrel
    by_cases hlt : k < L.length
    · have hlt' : k < L'.length := by have := Hlen.out; omega
      have hx : L[k]? = some L[k] := List.getElem?_eq_getElem hlt
      have hy : L'[k]? = some L'[k] := List.getElem?_eq_getElem hlt'
      obtain ⟨b, off, rfl, hB, hcs⟩ := hr (SlR.ne hx)
      obtain ⟨b', off', rfl, hB', hcs'⟩ := hr' (SlR.ne hy)
      have hk0 : (0 : Int) ≤ (k : Int) := by omega
      have hk1 : (k : Int) < (L.length : Int) := by omega
      have hk1' : (k : Int) < (L'.length : Int) := by omega
      generalize L[k] = x at *
      generalize L'[k] = y at *
      have hC := hcs.below hbw hB
      have hC' := hcs'.below hbw hB'
      have hBr : b < wr.heap.size := by have := hbw.size; omega
      have hBr' : b' < wr.heap.size := by have := hbw.size; omega
      have c0 := cells1 hC hx
      have c1 := cells1 hC' hy
      by_cases hxy : x = y
      · have hne : (x != y) = false := by simp [hxy]
        have Hp : Hid (∀ j, j < k + 1 → L[j]? = L'[j]?) := fun j hj => by
          by_cases e : j = k
          · rw [e, hx, hy, hxy]
          · exact hp.out j (by omega)
        clear hxy
        go_wp2
        go_quiet (fail)
        go_wp2
        go_roundw
        case rel => exact ⟨k + 1, by go_num, by omega, Hp, by (repeat (first | exact Below.refl _ _ | refine Below.drew ?_ | refine below_drewN ?_ _ | (refine Below.alloc ?_ (by (try simp) <;> omega) _) | (refine Below.setCell ?_ (by (try simp) <;> omega) _) | (refine Below.trans ?_ (Below.mono (by assumption) (by (try simp) <;> omega)))))⟩
        case measure => simp only [intOf]; omega
      · have hne : (x != y) = true := by simpa using hxy
        have Hv := Lib.hid (eqL_false (a := L) (b := L') k (by rw [hx, hy]; intro e; cases e; exact hxy rfl))
        clear hxy
        go_wp2
        go_quiet (fail)
        go_wp2
        go_ret
        exact ⟨by rw [Hv.out]; rfl, by (repeat (first | exact Below.refl _ _ | refine Below.drew ?_ | refine below_drewN ?_ _ | (refine Below.alloc ?_ (by (try simp) <;> omega) _) | (refine Below.setCell ?_ (by (try simp) <;> omega) _) | (refine Below.trans ?_ (Below.mono (by assumption) (by (try simp) <;> omega)))))⟩
    · obtain rfl : k = L.length := by omega
      have Hv := Lib.hid (eqL_true (a := L) (b := L') (fun j => by
        by_cases hj : j < L.length
        · exact hp.out j hj
        · have := Hlen.out
          rw [List.getElem?_eq_none (by omega), List.getElem?_eq_none (by omega)]))
      go_wp2
      go_ret
      exact ⟨by rw [Hv.out]; rfl, hbw⟩

set_option maxHeartbeats 1000000 in
theorem equalB_any (A A' : Option Addr) (c c' : Nat) (L L' : List Bool) (w : World) (hr : SlR fB 1 w w.heap.size A L) (hr' : SlR fB 1 w w.heap.size A' L') (hm : (L.length : Int) ≤ 9223372036854775807) :
    Calls Tryd.prog 48 #[.slice A L.length c, .slice A' L'.length c'] w fun e w' => e = .returned (.bool (eqL L L')) ∧ Below w.heap.size w w' := by
  by_cases hlen : L.length = L'.length
  case neg =>
    have Hv := Lib.hid (eqL_len hlen)
    have hb : ((L.length : Int) != (L'.length : Int)) = true := by rw [bne_iff_ne]; omega
    go_enter Tryd.func48, Tryd.ntmps48
    go_wp2
    go_ret
    exact ⟨by rw [Hv.out]; rfl, by (repeat (first | exact Below.refl _ _ | refine Below.drew ?_ | refine below_drewN ?_ _ | (refine Below.alloc ?_ (by (try simp) <;> omega) _) | (refine Below.setCell ?_ (by (try simp) <;> omega) _) | (refine Below.trans ?_ (Below.mono (by assumption) (by (try simp) <;> omega)))))⟩
  have hb : ((L.length : Int) != (L'.length : Int)) = false := by simp [hlen]
  have Hlen := Lib.hid hlen; clear hlen
  go_enter Tryd.func48, Tryd.ntmps48
  go_wp2
  go_loopw [13] (fun i wr => ∃ k : Nat, i = .int .i64 k ∧ k ≤ L.length ∧ Hid (∀ j, j < k → L[j]? = L'[j]?) ∧ Below w.heap.size w wr) (fun i _ => (L.length - intOf i).toNat)
  case atStart => exact ⟨0, rfl, by omega, fun j h => by omega, Below.refl _ _⟩
  case round =>
    obtain ⟨k, rfl, hk, hp, hbw⟩ := hrel
    by_cases hlt : k < L.length
    · have hlt' : k < L'.length := by have := Hlen.out; omega
      have hx : L[k]? = some L[k] := List.getElem?_eq_getElem hlt
      have hy : L'[k]? = some L'[k] := List.getElem?_eq_getElem hlt'
      obtain ⟨b, off, rfl, hB, hcs⟩ := hr (SlR.ne hx)
      obtain ⟨b', off', rfl, hB', hcs'⟩ := hr' (SlR.ne hy)
      have hk0 : (0 : Int) ≤ (k : Int) := by omega
      have hk1 : (k : Int) < (L.length : Int) := by omega
      have hk1' : (k : Int) < (L'.length : Int) := by omega
      generalize L[k] = x at *
      generalize L'[k] = y at *
      have hC := hcs.below hbw hB
      have hC' := hcs'.below hbw hB'
      have hBr : b < wr.heap.size := by have := hbw.size; omega
      have hBr' : b' < wr.heap.size := by have := hbw.size; omega
      have c0 := cellsB hC hx
      have c1 := cellsB hC' hy
      cases x <;> cases y
      all_goals first
      |  (skip
          have Hp : Hid (∀ j, j < k + 1 → L[j]? = L'[j]?) := fun j hj => by
            by_cases e : j = k
            · rw [e, hx, hy]
            · exact hp.out j (by omega)
          go_wp2
          go_quiet (fail)
          go_wp2
          go_roundw
          case rel => exact ⟨k + 1, by go_num, by omega, Hp, by (repeat (first | exact Below.refl _ _ | refine Below.drew ?_ | refine below_drewN ?_ _ | (refine Below.alloc ?_ (by (try simp) <;> omega) _) | (refine Below.setCell ?_ (by (try simp) <;> omega) _) | (refine Below.trans ?_ (Below.mono (by assumption) (by (try simp) <;> omega)))))⟩
          case measure => simp only [intOf]; omega)
      |  (skip
          have Hv := Lib.hid (eqL_false (a := L) (b := L') k (by rw [hx, hy]; intro e; cases e))
          go_wp2
          go_quiet (fail)
          go_wp2
          go_ret
          exact ⟨by rw [Hv.out]; rfl, by (repeat (first | exact Below.refl _ _ | refine Below.drew ?_ | refine below_drewN ?_ _ | (refine Below.alloc ?_ (by (try simp) <;> omega) _) | (refine Below.setCell ?_ (by (try simp) <;> omega) _) | (refine Below.trans ?_ (Below.mono (by assumption) (by (try simp) <;> omega)))))⟩)
    · obtain rfl : k = L.length := by omega
      have Hv := Lib.hid (eqL_true (a := L) (b := L') (fun j => by
        by_cases hj : j < L.length
        · exact hp.out j hj
        · have := Hlen.out
          rw [List.getElem?_eq_none (by omega), List.getElem?_eq_none (by omega)]))
      go_wp2
      go_ret
      exact ⟨by rw [Hv.out]; rfl, hbw⟩

theorem one_okB {x : Bool} : ∀ u ∈ [Value.bool x], u.oneCell' = true := by
  intro u hu; simp at hu; rw [hu]; rfl
theorem rowNe {t t' : TypeId} {w : World} {g k : Nat} {cs cs' : Array Value} (h : Blk w g t cs) (hk : w.heap[k]? = some (.cells cs' t' (0, 0))) (hne : t ≠ t') : g ≠ k := by
  intro e; subst e
  rw [show w.heap[g]? = _ from h] at hk
  cases hk; exact hne rfl
theorem Gath.ownTyB {α : Type} {f : α → List Value} {m : Nat} {t : TypeId} {w : World} {B : Nat} {v : Value} {L : List α} (h : Gath f m t w B v L) : ∀ k, v.ownBlock = some k → B ≤ k ∧ ∃ cs, w.heap[k]? = some (.cells cs t (0, 0)) := by
  intro k hk
  obtain ⟨_, ⟨hv, _⟩ | ⟨g, cap, cur, hv, hB', hh, _⟩⟩ := h
  · subst hv; simp [Value.ownBlock] at hk
  · subst hv
    simp [Value.ownBlock] at hk
    subst hk
    exact ⟨hB', cur, hh⟩
/-- A block of another type stands while a gathered list grows. -/
theorem Blk.grown {α : Type} {f : α → List Value} {m : Nat} {t t' : TypeId} {w w' : World} {B g : Nat} {cs : Array Value} {v : Value} {L : List α} (h : Blk w g t' cs) (hG : Gath f m t w B v L) (hg : w.grownBy w' v.ownBlock) (hne : t' ≠ t) : Blk w' g t' cs :=
  (hg.block g h.lt (fun e => by obtain ⟨_, cs', hk⟩ := hG.ownTyB g e.symm; exact rowNe h hk hne rfl)).trans h
end Go.Proofs.YtapfnelghmnajaaDoor
