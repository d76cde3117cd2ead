/-
  FirstStart, in plain words.
-/
import Derived.Test.YtfcmfadkkfkidaaFree
import Derived.Test.YtfcmfadkkfkidaaTrip5
namespace Go.Proofs.Ytfcmfadkkfkidaa
open Go.RowKit

/-- The trip at another start. -/
def setS (t : T5) (s : Int) : T5 := (t.1, t.2.1, t.2.2.1, s, t.2.2.2.2)
def okT (t : T5) : Bool := tripB t.1 t.2.1 t.2.2.1 t.2.2.2.1 t.2.2.2.2
/-- The first start from s on at which t meets none. -/
def firstS (L : List T5) (t : T5) : Nat → Int → Option Int
  | 0, _ => none
  | n + 1, s => if okT (setS t s) then (if metB L (setS t s) then firstS L t n (s + 1) else some s) else none
def fsB (L : List T5) (t : T5) : Bool := tripsB L && okT t && !decide (0 ≤ atT L t.1)
def fsO (L : List T5) (t : T5) : Option Int := if fsB L t then firstS L t 2000 t.2.2.2.1 else none
def fsN (L : List T5) (t : T5) : Int := match fsO L t with | some s => s | none => 0
def fsU (L : List T5) (t : T5) : Bool := (fsO L t).isSome
def fsV (L : List T5) (t : T5) : Value := .tuple #[.int .i64 (fsN L t), .bool (fsU L t)]
theorem fs_no {L : List T5} {t : T5} (h : fsO L t = none) : fsV L t = .tuple #[.int .i64 0, .bool false] := by simp [fsV, fsN, fsU, h]
theorem fs_yes {L : List T5} {t : T5} {s : Int} (h : fsO L t = some s) : fsV L t = .tuple #[.int .i64 s, .bool true] := by simp [fsV, fsN, fsU, h]
theorem fs_off {L : List T5} {t : T5} (h : fsB L t = false) : fsO L t = none := by simp [fsO, h]
theorem fs_on {L : List T5} {t : T5} (h : fsB L t = true) : fsO L t = firstS L t 2000 t.2.2.2.1 := by simp [fsO, h]
theorem trOk_all {L : List T5} (h : tripsB L = true) : ∀ x ∈ L, TrOk x := fun x hx => by
  obtain ⟨k, hk, rfl⟩ := List.getElem_of_mem hx
  exact TrOk.of (tripsB_one h (List.getElem?_eq_getElem hk))
theorem okT_bd {t : T5} (h : okT t = true) : 0 ≤ t.2.2.2.1 ∧ t.2.2.2.1 ≤ 1440 := by
  obtain ⟨_, _, _, _, h, _⟩ := tripB_bounds h
  exact h
theorem fs_end {L : List T5} {t : T5} {n : Nat} {s : Int} (h : okT (setS t s) = false) : firstS L t n s = none := by
  cases n with
  | zero => rfl
  | succ n => simp [firstS, h]
theorem fs_hit {L : List T5} {t : T5} {n : Nat} {s : Int} (h : okT (setS t s) = true) (hm : metB L (setS t s) = false) : firstS L t (n + 1) s = some s := by simp [firstS, h, hm]
theorem fs_next {L : List T5} {t : T5} {n : Nat} {s : Int} (h : okT (setS t s) = true) (hm : metB L (setS t s) = true) : firstS L t (n + 1) s = firstS L t n (s + 1) := by simp [firstS, h, hm]
/-- The start in a box. -/
def stOf (w : World) (p : Nat) : Int := match w.cell? ⟨p, 3, none⟩ with | some v => intOf v | none => 0
theorem stOf_blk {w : World} {p : Nat} {t : TypeId} {a b c g : Value} {s : Int} (h : Blk w p t #[a, b, c, .int .i64 s, g]) : stOf w p = s := by
  have := h.cell 3
  unfold stOf
  rw [this]
  rfl
end Go.Proofs.Ytfcmfadkkfkidaa
