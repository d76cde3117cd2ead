/-
  The place of a trip with a number; whether a trip meets another one of a list: both programs.
-/
import Derived.Test.YtfcmfadkkfkidaaMeet1
import Derived.Test.YtfcmfadkkfkidaaMeet2
import Derived.Test.YtfcmfadkkfkidaaIdxTrip
import Derived.WalkKit
import Derived.WalkSpells
import Derived.WalkLawsBesides
import Derived.Lib.Hide
import Derived.Deep.QuietTactic
import Derived.BigQuiet
import Derived.StillTailTactics
import Derived.Shelf.Abstract
namespace Go.Proofs.Ytfcmfadkkfkidaa
open Go.RowKit

def atB (id : Int) (x : T5) : Bool := decide (x.1 = id)
def atT (L : List T5) (id : Int) : Int := idxOf (atB id) L
def anyB (t x : T5) : Bool := !decide (x.1 = t.1) && meetB x t
def metB (L : List T5) (t : T5) : Bool := L.any (anyB t)

set_option maxHeartbeats 1000000 in
theorem tripAtC_any (x : T5) (id : Int) (p : Nat) (w : World) (hk : Blk w p 3 #[.int .i64 id]) :
    Calls Try.prog 96 (#[.agg #[.int .i64 x.1, .int .i64 x.2.1, .int .i64 x.2.2.1, .int .i64 x.2.2.2.1, .int .i64 x.2.2.2.2]] ++ #[.pointer (some ⟨p, 0, none⟩)]) w fun e w' => e = .returned (.bool (atB id x)) ∧ Below w.heap.size w w' := by
  have hb1 : Below w.heap.size w (w.alloc (.cells #[.int .i64 x.1, .int .i64 x.2.1, .int .i64 x.2.2.1, .int .i64 x.2.2.2.1, .int .i64 x.2.2.2.2] 25)) := by (repeat (first | exact Below.refl _ _ | refine Below.drew ?_ | refine below_drewN ?_ _ | (refine Below.alloc ?_ (by (try simp) <;> omega) _) | (refine Below.setCell ?_ (by (try simp) <;> omega) _) | (refine Below.trans ?_ (Below.mono (by assumption) (by (try simp) <;> omega)))))
  have k2 := hk.alloc (.cells #[.int .i64 x.1, .int .i64 x.2.1, .int .i64 x.2.2.1, .int .i64 x.2.2.2.1, .int .i64 x.2.2.2.2] 25)
  have c2 := k2.cell
  by_cases h : x.1 = id
  · have Hv := Lib.hid (show atB id x = true by simp [atB, h])
    have hq : (x.1 == id) = true := by simpa using h
    clear h
    go_enter Try.func96, Try.ntmps96
    go_wp2
    go_ret
    exact ⟨by rw [Hv.out]; rfl, hb1⟩
  · have Hv := Lib.hid (show atB id x = false by simp [atB, h])
    have hq : (x.1 == id) = false := by simpa using h
    clear h
    go_enter Try.func96, Try.ntmps96
    go_wp2
    go_ret
    exact ⟨by rw [Hv.out]; rfl, hb1⟩

set_option maxHeartbeats 1000000 in
theorem tripAt_any (A : Option Addr) (c : Nat) (L : List T5) (id : Int) (w : World) (hr : SlR f5 5 w w.heap.size A L) (hm : (L.length : Int) ≤ 1048576) :
    Calls Try.prog 77 #[.slice A L.length c, .int .i64 id] w fun e w' => e = .returned (.int .i64 (atT L id)) ∧ Below w.heap.size w w' := by
  have eg : ∀ args w, (callFunc 96 args).run Try.prog w = .ok (.enter 96 args) w := Go.Proofs.enters_of Try.func96 (by kernel_rfl) rfl
  have k1 := Blk.new w 3 #[.int .i64 id]
  have hr1 := hr.alloc (.cells #[.int .i64 id] 3)
  have hb1 : Below w.heap.size w (w.alloc (.cells #[.int .i64 id] 3)) := by (repeat (first | exact Below.refl _ _ | refine Below.drew ?_ | refine below_drewN ?_ _ | (refine Below.alloc ?_ (by (try simp) <;> omega) _) | (refine Below.setCell ?_ (by (try simp) <;> omega) _) | (refine Below.trans ?_ (Below.mono (by assumption) (by (try simp) <;> omega)))))
  go_enter Try.func77, Try.ntmps77
  go_wp2_with fail
  refine (idxTrip_any 96 #[.pointer (some ⟨w.heap.size, 0, none⟩)] eg (atB id) A c L _ hr1 hm (fun W x _ hb => tripAtC_any x id _ W (k1.below' hb))).mono ?_; rintro e w2 ⟨rfl, hb2⟩
  go_wp2
  go_ret
  exact ⟨rfl, hb1.trans (hb2.mono hb1.size)⟩

set_option maxHeartbeats 1000000 in
theorem l11Find_any (A : Option Addr) (c : Nat) (L : List T5) (id : Int) (w : World) (hr : SlR f5 5 w w.heap.size A L) (hm : (L.length : Int) ≤ 1048576) :
    Calls Try.prog 75 #[.slice A L.length c, .int .i64 id] w fun e w' => e = .returned (.int .i64 (atT L id)) ∧ w = w' := by
  go_enter Try.func75, Try.ntmps75
  go_wp2
  go_loop [5] (fun i => ∃ k : Nat, i = .int .i64 k ∧ k ≤ L.length ∧ Hid (∀ j y, j < k → L[j]? = some y → atB id y = false)) (fun i => (L.length - intOf i).toNat)
  case atStart => exact ⟨0, rfl, by omega, fun j y h => by omega⟩
  case round =>
    obtain ⟨k, rfl, hk, hs⟩ := hrel
    by_cases hlt : k < L.length
    · have hx : L[k]? = some L[k] := List.getElem?_eq_getElem hlt
      obtain ⟨b, off, rfl, hB, hcs⟩ := hr (SlR.ne hx)
      generalize L[k] = x at *
      have c0 := (cells5 hcs hx).1
      have hk0 : (0 : Int) ≤ (k : Int) := by omega
      have hk1 : (k : Int) < (L.length : Int) := by omega
      by_cases h : x.1 = id
      · have hq : (x.1 == id) = true := by simpa using h
        have Hv := Lib.hid (idxOf_hit hx (show atB id x = true by simp [atB, h]) hs.out)
        clear h hs hr hcs hx
        go_wp2
        go_ret
        exact ⟨by rw [show atT L id = (k : Int) from Hv.out]; rfl, rfl⟩
      · have hq : (x.1 == id) = false := by simpa using h
        have Hp : Hid (∀ j y, j < k + 1 → L[j]? = some y → atB id y = false) := fun j y hj hy => by
          by_cases e : j = k
          · subst e; rw [hx] at hy; cases hy; simp [atB, h]
          · exact hs.out j y (by omega) hy
        clear h hs hr hcs hx
        go_wp2
        go_round
        case rel => exact ⟨k + 1, by go_num, by omega, Hp⟩
        case measure => simp only [intOf]; omega
    · obtain rfl : k = L.length := by omega
      have Hv := Lib.hid (idxOf_miss hs.out)
      clear hs
      go_wp2
      go_ret
      exact ⟨by rw [show atT L id = -1 from Hv.out]; rfl, rfl⟩

set_option maxHeartbeats 4000000 in
theorem meetsC_any (x t : T5) (p : Nat) (w : World) (hx : TrOk x) (ht : TrOk t) (hk : Blk w p 25 #[.int .i64 t.1, .int .i64 t.2.1, .int .i64 t.2.2.1, .int .i64 t.2.2.2.1, .int .i64 t.2.2.2.2]) :
    Calls Try.prog 98 (#[.agg #[.int .i64 x.1, .int .i64 x.2.1, .int .i64 x.2.2.1, .int .i64 x.2.2.2.1, .int .i64 x.2.2.2.2]] ++ #[.pointer (some ⟨p, 0, none⟩)]) w fun e w' => e = .returned (.bool (anyB t x)) ∧ Below w.heap.size w w' := by
  have hb1 : Below w.heap.size w (w.alloc (.cells #[.int .i64 x.1, .int .i64 x.2.1, .int .i64 x.2.2.1, .int .i64 x.2.2.2.1, .int .i64 x.2.2.2.2] 25)) := by (repeat (first | exact Below.refl _ _ | refine Below.drew ?_ | refine below_drewN ?_ _ | (refine Below.alloc ?_ (by (try simp) <;> omega) _) | (refine Below.setCell ?_ (by (try simp) <;> omega) _) | (refine Below.trans ?_ (Below.mono (by assumption) (by (try simp) <;> omega)))))
  have k2 := hk.alloc (.cells #[.int .i64 x.1, .int .i64 x.2.1, .int .i64 x.2.2.1, .int .i64 x.2.2.2.1, .int .i64 x.2.2.2.2] 25)
  have c2 := k2.cell
  by_cases h : x.1 = t.1
  · have Hv := Lib.hid (show anyB t x = false by simp [anyB, h])
    have hq : (x.1 != t.1) = false := by simpa using h
    clear h
    go_enter Try.func98, Try.ntmps98
    go_wp2
    go_ret
    exact ⟨by rw [Hv.out]; rfl, hb1⟩
  · have Hv := Lib.hid (show anyB t x = meetB x t by simp [anyB, h])
    have hq : (x.1 != t.1) = true := by simpa using h
    clear h
    go_enter Try.func98, Try.ntmps98
    go_wp2_with fail
    refine (doMeet_any x t _ hx ht).mono ?_; rintro e w2 ⟨rfl, hb2⟩
    go_wp2
    go_ret
    exact ⟨by rw [Hv.out]; rfl, hb1.trans (hb2.mono hb1.size)⟩

set_option maxHeartbeats 1000000 in
theorem meetsAny_any (A : Option Addr) (c : Nat) (L : List T5) (t : T5) (w : World) (hr : SlR f5 5 w w.heap.size A L) (hm : (L.length : Int) ≤ 1048576) (hL : ∀ x ∈ L, TrOk x) (ht : TrOk t) :
    Calls Try.prog 78 #[.slice A L.length c, tripV t.1 t.2.1 t.2.2.1 t.2.2.2.1 t.2.2.2.2] w fun e w' => e = .returned (.bool (metB L t)) ∧ Below w.heap.size w w' := by
  have eg : ∀ args w, (callFunc 98 args).run Try.prog w = .ok (.enter 98 args) w := Go.Proofs.enters_of Try.func98 (by kernel_rfl) rfl
  have k1 := Blk.new w 25 #[.int .i64 t.1, .int .i64 t.2.1, .int .i64 t.2.2.1, .int .i64 t.2.2.2.1, .int .i64 t.2.2.2.2]
  have hr1 := hr.alloc (.cells #[.int .i64 t.1, .int .i64 t.2.1, .int .i64 t.2.2.1, .int .i64 t.2.2.2.1, .int .i64 t.2.2.2.2] 25)
  have hb1 : Below w.heap.size w (w.alloc (.cells #[.int .i64 t.1, .int .i64 t.2.1, .int .i64 t.2.2.1, .int .i64 t.2.2.2.1, .int .i64 t.2.2.2.2] 25)) := by (repeat (first | exact Below.refl _ _ | refine Below.drew ?_ | refine below_drewN ?_ _ | (refine Below.alloc ?_ (by (try simp) <;> omega) _) | (refine Below.setCell ?_ (by (try simp) <;> omega) _) | (refine Below.trans ?_ (Below.mono (by assumption) (by (try simp) <;> omega)))))
  go_enter Try.func78, Try.ntmps78
  go_wp2_with fail
  refine (contTrip_any 98 #[.pointer (some ⟨w.heap.size, 0, none⟩)] eg (anyB t) A c L _ hr1 hm (fun W x hx hb => meetsC_any x t _ W (hL x hx) ht (k1.below' hb))).mono ?_; rintro e w2 ⟨rfl, hb2⟩
  go_wp2
  go_ret
  exact ⟨rfl, hb1.trans (hb2.mono hb1.size)⟩
end Go.Proofs.Ytfcmfadkkfkidaa
