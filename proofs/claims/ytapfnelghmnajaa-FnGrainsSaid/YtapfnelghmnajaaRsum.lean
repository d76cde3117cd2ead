/-
  The laws' rSum: the sum of a list of small ints.
-/
import Derived.Test.YtapfnelghmnajaaRs
import Derived.Test.YtapfnelghmnajaaFngM
import Derived.WalkKit
import Derived.WalkSpells
import Derived.WalkLawsBesides
import Derived.Lib.Hide
import Derived.Deep.QuietTactic
import Derived.BigQuiet
import Derived.StillTailTactics
namespace Go.Proofs.Ytapfnelghmnajaa
open Go.RowKit

set_option maxHeartbeats 1000000 in
theorem rSum_any (A : Option Addr) (c : Nat) (L : List Int) (w : World) (hr : SlR f1 1 w w.heap.size A L) (hm : L.length ≤ 100) (hL : ∀ x ∈ L, 0 ≤ x ∧ x ≤ 1000000) :
    Calls Try.prog 50 #[.slice A L.length c] w fun e w' => e = .returned (.int .i64 (isum L)) ∧ Below w.heap.size w w' := by
  have HS := Lib.hid (fun k => isum_bd (L := L.take k) (B := 1000000) (fun x hx => hL x (List.mem_of_mem_take hx)))
  have HL := Lib.hid hL
  have HT := Lib.hid (List.take_of_length_le (l := L) (Nat.le_refl _))
  clear hL
  have hl0 : (0 : Int) ≤ L.length := by omega
  go_enter Try.func50, Try.ntmps50
  go_wp2
  go_loopw [3, 4] (fun s i wr => ∃ k : Nat, i = .int .i64 k ∧ s = .int .i64 (isum (L.take k)) ∧ k ≤ L.length ∧ Below w.heap.size w wr) (fun _ i _ => (L.length - intOf i).toNat)
  case atStart => exact ⟨0, rfl, by simp [isum], by omega, Below.refl _ _⟩
  case round =>
    obtain ⟨k, rfl, rfl, hk, hbw⟩ := hrel
    by_cases hlt : k < L.length
    · have hx : L[k]? = some L[k] := List.getElem?_eq_getElem hlt
      obtain ⟨b, off, rfl, hB, hcs⟩ := hr (SlR.ne hx)
      have hk0 : (0 : Int) ≤ (k : Int) := by omega
      have hk1 : (k : Int) < (L.length : Int) := by omega
      have hxb := HL.out _ (List.mem_of_getElem? hx)
      generalize L[k] = x at *
      have c0 := cells1 (hcs.below hbw hB) hx
      have hS := HS.out k
      have HX := Lib.hid (isum_take hx)
      have hl : ((L.take k).length : Int) ≤ 100 := by rw [List.length_take]; omega
      obtain ⟨x0, x1⟩ := hxb
      have q0 : 0 ≤ isum (L.take k) := hS.1
      have q1 : isum (L.take k) ≤ 100000000 := by omega
      clear hcs hx hS hl
      go_wp2
      go_roundw
      case rel => exact ⟨k + 1, by go_num, by rw [HX.out], by omega, by (repeat (first | exact Below.refl _ _ | refine Below.drew ?_ | refine below_drewN ?_ _ | (refine Below.alloc ?_ (by (try simp) <;> omega) _) | (refine Below.setCell ?_ (by (try simp) <;> omega) _) | (refine Below.trans ?_ (Below.mono (by assumption) (by (try simp) <;> omega)))))⟩
      case measure => simp only [intOf]; omega
    · obtain rfl : k = L.length := by omega
      rw [HT.out]
      go_wp2
      go_ret
      exact ⟨rfl, hbw⟩
end Go.Proofs.Ytapfnelghmnajaa
