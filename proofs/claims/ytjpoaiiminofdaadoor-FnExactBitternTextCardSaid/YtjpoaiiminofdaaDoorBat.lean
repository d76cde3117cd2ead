/-
  The place of a cask with a number: both programs.
-/
import Derived.Test.YtjpoaiiminofdaaDoorIdxBittern
import Derived.Shelf.Abstract
import Derived.WalkKit
import Derived.WalkSpells
import Derived.WalkLawsBesides
import Derived.Lib.Hide
import Derived.Deep.QuietTactic
import Derived.BigQuiet
import Derived.StillTailTactics
namespace Go.Proofs.YtjpoaiiminofdaaDoor
open Go.RowKit

abbrev T3 := Int × Int × Int
def atB (id : Int) (x : T3) : Bool := decide (x.1 = id)
def atC (L : List T3) (id : Int) : Int := idxOf (atB id) L

set_option maxHeartbeats 1000000 in
theorem bitAtC_any (x : T3) (id : Int) (p : Nat) (w : World) (hk : Blk w p 3 #[.int .i64 id]) :
    Calls Tryd.prog 19 (#[.agg #[.int .i64 x.1, .int .i64 x.2.1, .int .i64 x.2.2]] ++ #[.pointer (some ⟨p, 0, none⟩)]) w fun e w' => e = .returned (.bool (atB id x)) ∧ Below w.heap.size w w' := by
  have hb1 : Below w.heap.size w (w.alloc (.cells #[.int .i64 x.1, .int .i64 x.2.1, .int .i64 x.2.2] 34)) := by (repeat (first | exact Below.refl _ _ | refine Below.drew ?_ | refine below_drewN ?_ _ | (refine Below.alloc ?_ (by (try simp) <;> omega) _) | (refine Below.setCell ?_ (by (try simp) <;> omega) _) | (refine Below.trans ?_ (Below.mono (by assumption) (by (try simp) <;> omega)))))
  have k2 := hk.alloc (.cells #[.int .i64 x.1, .int .i64 x.2.1, .int .i64 x.2.2] 34)
  have c2 := k2.cell
  by_cases h : x.1 = id
  · have Hv := Lib.hid (show atB id x = true by simp [atB, h])
    have hq : (x.1 == id) = true := by simpa using h
    clear h
    go_enter Tryd.func19, Tryd.ntmps19
    go_wp2
    go_ret
    exact ⟨by rw [Hv.out]; rfl, hb1⟩
  · have Hv := Lib.hid (show atB id x = false by simp [atB, h])
    have hq : (x.1 == id) = false := by simpa using h
    clear h
    go_enter Tryd.func19, Tryd.ntmps19
    go_wp2
    go_ret
    exact ⟨by rw [Hv.out]; rfl, hb1⟩

set_option maxHeartbeats 1000000 in
theorem bitternAt_any (A : Option Addr) (c : Nat) (L : List T3) (id : Int) (w : World) (hr : SlR f3 3 w w.heap.size A L) (hm : (L.length : Int) ≤ 1048576) :
    Calls Tryd.prog 13 #[.slice A L.length c, .int .i64 id] w fun e w' => e = .returned (.int .i64 (atC L id)) ∧ Below w.heap.size w w' := by
  have eg : ∀ args w, (callFunc 19 args).run Tryd.prog w = .ok (.enter 19 args) w := Go.Proofs.enters_of Tryd.func19 (by kernel_rfl) rfl
  have k1 := Blk.new w 3 #[.int .i64 id]
  have hr1 := hr.alloc (.cells #[.int .i64 id] 3)
  have hb1 : Below w.heap.size w (w.alloc (.cells #[.int .i64 id] 3)) := by (repeat (first | exact Below.refl _ _ | refine Below.drew ?_ | refine below_drewN ?_ _ | (refine Below.alloc ?_ (by (try simp) <;> omega) _) | (refine Below.setCell ?_ (by (try simp) <;> omega) _) | (refine Below.trans ?_ (Below.mono (by assumption) (by (try simp) <;> omega)))))
  go_enter Tryd.func13, Tryd.ntmps13
  go_wp2_with fail
  refine (idxBittern_any 19 #[.pointer (some ⟨w.heap.size, 0, none⟩)] eg (atB id) A c L _ hr1 hm (fun W x hb => bitAtC_any x id _ W (k1.below' hb))).mono ?_; rintro e w2 ⟨rfl, hb2⟩
  go_wp2
  go_ret
  exact ⟨rfl, hb1.trans (hb2.mono hb1.size)⟩

set_option maxHeartbeats 1000000 in
theorem l15Find_any (A : Option Addr) (c : Nat) (L : List T3) (id : Int) (w : World) (hr : SlR f3 3 w w.heap.size A L) (hm : (L.length : Int) ≤ 1048576) :
    Calls Tryd.prog 9 #[.slice A L.length c, .int .i64 id] w fun e w' => e = .returned (.int .i64 (atC L id)) ∧ w = w' := by
  go_enter Tryd.func9, Tryd.ntmps9
  go_wp2
  go_loop [5] (fun i => ∃ k : Nat, i = .int .i64 k ∧ k ≤ L.length ∧ Hid (∀ j y, j < k → L[j]? = some y → atB id y = false)) (fun i => (L.length - intOf i).toNat)
  case atStart => exact ⟨0, rfl, by omega, fun j y h => by omega⟩
  case round =>
    obtain ⟨k, rfl, hk, hs⟩ := hrel
    by_cases hlt : k < L.length
    · have hx : L[k]? = some L[k] := List.getElem?_eq_getElem hlt
      obtain ⟨b, off, rfl, hB, hcs⟩ := hr (SlR.ne hx)
      generalize L[k] = x at *
      have c0 := (cells3 hcs hx).1
      have hk0 : (0 : Int) ≤ (k : Int) := by omega
      have hk1 : (k : Int) < (L.length : Int) := by omega
      by_cases h : x.1 = id
      · have hq : (x.1 == id) = true := by simpa using h
        have Hv := Lib.hid (idxOf_hit hx (show atB id x = true by simp [atB, h]) hs.out)
        clear h hs hr hcs hx
        go_wp2
        go_ret
        exact ⟨by rw [show atC L id = (k : Int) from Hv.out]; rfl, rfl⟩
      · have hq : (x.1 == id) = false := by simpa using h
        have Hp : Hid (∀ j y, j < k + 1 → L[j]? = some y → atB id y = false) := fun j y hj hy => by
          by_cases e : j = k
          · subst e; rw [hx] at hy; cases hy; simp [atB, h]
          · exact hs.out j y (by omega) hy
        clear h hs hr hcs hx
        go_wp2
        go_round
        case rel => exact ⟨k + 1, by go_num, by omega, Hp⟩
        case measure => simp only [intOf]; omega
    · obtain rfl : k = L.length := by omega
      have Hv := Lib.hid (idxOf_miss hs.out)
      clear hs
      go_wp2
      go_ret
      exact ⟨by rw [show atC L id = -1 from Hv.out]; rfl, rfl⟩

end Go.Proofs.YtjpoaiiminofdaaDoor
