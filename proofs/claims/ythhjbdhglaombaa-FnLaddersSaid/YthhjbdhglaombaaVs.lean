/-
  The laws' own helpers: a long input, comparisons of two equal lists, whether a list has an int.
-/
import Derived.Test.YthhjbdhglaombaaPred
import Derived.Test.YthhjbdhglaombaaScalar
import Derived.WalkKit
import Derived.WalkSpells
import Derived.WalkLawsBesides
import Derived.Lib.Hide
import Derived.Deep.QuietTactic
import Derived.BigQuiet
import Derived.StillTailTactics
namespace Go.Proofs.Ythhjbdhglaombaa
open Go.RowKit

set_option maxHeartbeats 400000 in
theorem vBig_any (A : Option Addr) (n c : Nat) (w : World) :
    Calls Try.prog 45 #[.slice A n c] w fun e w' => e = .returned (.bool (decide ((65536 : Int) < n))) ∧ w = w' := by
  go_enter Try.func45, Try.ntmps45
  go_wp2
  go_ret
  exact ⟨rfl, rfl⟩

set_option maxHeartbeats 1000000 in
theorem vInts_same (A A' : Option Addr) (c c' : Nat) (L : List Int) (w : World) (hr : SlR f1 1 w w.heap.size A L) (hr' : SlR f1 1 w w.heap.size A' L) (hm : (L.length : Int) ≤ 1048576) :
    Calls Try.prog 53 #[.slice A L.length c, .slice A' L.length c'] w fun e w' => e = .returned (.bool true) ∧ Below w.heap.size w w' := by
  have hb := neI (L.length : Int)
  go_enter Try.func53, Try.ntmps53
  go_wp2
  go_loopw [5] (fun i wr => ∃ k : Nat, i = .int .i64 k ∧ k ≤ L.length ∧ Below w.heap.size w wr) (fun i _ => (L.length - intOf i).toNat)
  case atStart => exact ⟨0, rfl, by omega, Below.refl _ _⟩
  case round =>
    obtain ⟨k, rfl, hk, hbw⟩ := hrel
    by_cases hlt : k < L.length
    · have hx : L[k]? = some L[k] := List.getElem?_eq_getElem hlt
      obtain ⟨b, off, rfl, hB, hcs⟩ := hr (SlR.ne hx)
      obtain ⟨b', off', rfl, hB', hcs'⟩ := hr' (SlR.ne hx)
      have hk0 : (0 : Int) ≤ (k : Int) := by omega
      have hk1 : (k : Int) < (L.length : Int) := by omega
      generalize L[k] = x at *
      have hC := hcs.below hbw hB
      have hC' := hcs'.below hbw hB'
      have c0 := cells1 hC hx
      have d0 := cells1 hC' hx
      have n0 := neI (x)
      clear hr hr' hcs hcs' hC hC' hx
      go_wp2
      go_quiet (fail)
      go_wp2
      go_roundw
      case rel => exact ⟨k + 1, by go_num, by omega, by (repeat (first | exact Below.refl _ _ | refine Below.drew ?_ | refine below_drewN ?_ _ | (refine Below.alloc ?_ (by (try simp) <;> omega) _) | (refine Below.setCell ?_ (by (try simp) <;> omega) _) | (refine Below.trans ?_ (Below.mono (by assumption) (by (try simp) <;> omega)))))⟩
      case measure => simp only [intOf]; omega
    · obtain rfl : k = L.length := by omega
      go_wp2
      go_ret
      exact ⟨rfl, hbw⟩

set_option maxHeartbeats 1000000 in
theorem vRungs_same (A A' : Option Addr) (c c' : Nat) (L : List (Int × Int)) (w : World) (hr : SlR f2 2 w w.heap.size A L) (hr' : SlR f2 2 w w.heap.size A' L) (hm : (L.length : Int) ≤ 1048576) :
    Calls Try.prog 49 #[.slice A L.length c, .slice A' L.length c'] w fun e w' => e = .returned (.bool true) ∧ Below w.heap.size w w' := by
  have hb := neI (L.length : Int)
  go_enter Try.func49, Try.ntmps49
  go_wp2
  go_loopw [5] (fun i wr => ∃ k : Nat, i = .int .i64 k ∧ k ≤ L.length ∧ Below w.heap.size w wr) (fun i _ => (L.length - intOf i).toNat)
  case atStart => exact ⟨0, rfl, by omega, Below.refl _ _⟩
  case round =>
    obtain ⟨k, rfl, hk, hbw⟩ := hrel
    by_cases hlt : k < L.length
    · have hx : L[k]? = some L[k] := List.getElem?_eq_getElem hlt
      obtain ⟨b, off, rfl, hB, hcs⟩ := hr (SlR.ne hx)
      obtain ⟨b', off', rfl, hB', hcs'⟩ := hr' (SlR.ne hx)
      have hk0 : (0 : Int) ≤ (k : Int) := by omega
      have hk1 : (k : Int) < (L.length : Int) := by omega
      generalize L[k] = x at *
      have hC := hcs.below hbw hB
      have hC' := hcs'.below hbw hB'
      obtain ⟨c0, c1⟩ := cells2 hC hx
      obtain ⟨d0, d1⟩ := cells2 hC' hx
      have n0 := neI (x.1)
      have n1 := neI (x.2)
      clear hr hr' hcs hcs' hC hC' hx
      go_wp2
      go_quiet (fail)
      go_wp2
      go_roundw
      case rel => exact ⟨k + 1, by go_num, by omega, by (repeat (first | exact Below.refl _ _ | refine Below.drew ?_ | refine below_drewN ?_ _ | (refine Below.alloc ?_ (by (try simp) <;> omega) _) | (refine Below.setCell ?_ (by (try simp) <;> omega) _) | (refine Below.trans ?_ (Below.mono (by assumption) (by (try simp) <;> omega)))))⟩
      case measure => simp only [intOf]; omega
    · obtain rfl : k = L.length := by omega
      go_wp2
      go_ret
      exact ⟨rfl, hbw⟩


def hasB (L : List Int) (x : Int) : Bool := L.contains x
theorem hasB_hit {L : List Int} {k : Nat} {x : Int} (hx : L[k]? = some x) : hasB L x = true := by
  simp [hasB, List.mem_of_getElem? hx]
theorem hasB_miss {L : List Int} {x : Int} (h : ∀ j, j < L.length → L[j]? ≠ some x) : hasB L x = false := by
  rw [hasB, List.contains_eq_mem, decide_eq_false_iff_not]
  intro hm
  obtain ⟨j, hj, e⟩ := List.getElem_of_mem hm
  exact h j hj (by rw [List.getElem?_eq_getElem hj, e])
set_option maxHeartbeats 1000000 in
theorem vHas_any (A : Option Addr) (c : Nat) (L : List Int) (x : Int) (w : World) (hr : SlR f1 1 w w.heap.size A L) (hm : (L.length : Int) ≤ 1048576) :
    Calls Try.prog 47 #[.slice A L.length c, .int .i64 x] w fun e w' => e = .returned (.bool (hasB L x)) ∧ w = w' := by
  go_enter Try.func47, Try.ntmps47
  go_wp2
  go_loop [5] (fun i => ∃ k : Nat, i = .int .i64 k ∧ k ≤ L.length ∧ Hid (∀ j, j < k → L[j]? ≠ some x)) (fun i => (L.length - intOf i).toNat)
  case atStart => exact ⟨0, rfl, by omega, fun j hj => by omega⟩
  case round =>
    obtain ⟨k, rfl, hk, hp⟩ := hrel
    by_cases hlt : k < L.length
    · have hx : L[k]? = some L[k] := List.getElem?_eq_getElem hlt
      obtain ⟨b, off, rfl, hB, hcs⟩ := hr (SlR.ne hx)
      have hk0 : (0 : Int) ≤ (k : Int) := by omega
      have hk1 : (k : Int) < (L.length : Int) := by omega
      generalize L[k] = y at *
      have c0 := cells1 hcs hx
      by_cases hxy : y = x
      · have hne : (y == x) = true := by simpa using hxy
        have Hv := Lib.hid (show hasB L x = true by rw [← hxy]; exact hasB_hit hx)
        clear hr hcs hx hxy hp
        go_wp2
        go_ret
        exact ⟨by rw [Hv.out]; rfl, rfl⟩
      · have hne : (y == x) = false := by simpa using hxy
        have Hp : Hid (∀ j, j < k + 1 → L[j]? ≠ some x) := fun j hj => by
          by_cases e : j = k
          · rw [e, hx]; intro h; injection h with h; exact hxy h
          · exact hp.out j (by omega)
        clear hr hcs hx hxy hp
        go_wp2
        go_round
        case rel => exact ⟨k + 1, by go_num, by omega, Hp⟩
        case measure => simp only [intOf]; omega
    · obtain rfl : k = L.length := by omega
      have Hv := Lib.hid (hasB_miss hp.out)
      clear hp
      go_wp2
      go_ret
      exact ⟨by rw [Hv.out]; rfl, rfl⟩
end Go.Proofs.Ythhjbdhglaombaa
