/-
  Contracts of the laws' helpers on a struct of one slice of ints.
-/
import Derived.Test.YtapfnelghmnajaaDoorHInt
import Derived.Test.YtapfnelghmnajaaDoorOpenSm
namespace Go.Proofs.YtapfnelghmnajaaDoor
open Go.RowKit

theorem OwnR.farBelow {α : Type} {f : α → List Value} {m B : Nat} {t : TypeId} {w : World} {A : Option Addr} {L : List α} (h : OwnR f m t w B A L) {p : Addr} {u : Value} (hp : p.block < B) : OwnR f m t (w.setCell p u) B A L := fun hn => by
  obtain ⟨g, hA, hg, hr, hc⟩ := h hn
  exact ⟨g, hA, hg, hr.set p u, hc.far (by omega)⟩

set_option maxHeartbeats 400000 in
theorem szSample_any (A : Option Addr) (n c : Nat) (left : Int) (w : World) (h1 : (n : Int) ≤ 9223372036854775807) (h2 : 0 ≤ left) (h3 : left ≤ 1048576) :
    Calls Tryd.prog 5 #[.agg #[.slice A n c], .int .i64 left] w fun e w' => e = .returned (.int .i64 (szV left n)) ∧ Below w.heap.size w w' := by
  by_cases h : left - n < 0
  · have Hv := Lib.hid (show szV left n = -1 from if_pos h)
    go_enter Tryd.func5, Tryd.ntmps5
    go_wp2_with fail
    refine (szIntS_any _ _ _ _ _ h1 h2 h3).mono ?_; rintro e w' ⟨rfl, rfl⟩
    rw [Hv.out]
    go_wp2
    go_ret
    exact ⟨by rw [Hv.out]; rfl, by (repeat (first | exact Below.refl _ _ | refine Below.drew ?_ | refine below_drewN ?_ _ | (refine Below.alloc ?_ (by (try simp) <;> omega) _) | (refine Below.setCell ?_ (by (try simp) <;> omega) _) | (refine Below.trans ?_ (Below.mono (by assumption) (by (try simp) <;> omega)))))⟩
  · have Hv := Lib.hid (show szV left n = left - n from if_neg h)
    go_enter Tryd.func5, Tryd.ntmps5
    go_wp2_with fail
    refine (szIntS_any _ _ _ _ _ h1 h2 h3).mono ?_; rintro e w' ⟨rfl, rfl⟩
    rw [Hv.out]
    go_wp2
    go_ret
    exact ⟨by rw [Hv.out]; rfl, by (repeat (first | exact Below.refl _ _ | refine Below.drew ?_ | refine below_drewN ?_ _ | (refine Below.alloc ?_ (by (try simp) <;> omega) _) | (refine Below.setCell ?_ (by (try simp) <;> omega) _) | (refine Below.trans ?_ (Below.mono (by assumption) (by (try simp) <;> omega)))))⟩

/-- A callee that hands back a struct of one new slice. -/
def NewSm (w : World) (L : List Int) (e : Ending) (w' : World) : Prop :=
  ∃ A c, e = .returned (.agg #[.slice A L.length c]) ∧ OwnR f1 1 3 w' w.heap.size A L ∧ Below w.heap.size w w'

set_option maxHeartbeats 1000000 in
theorem toSample_any (A : Option Addr) (c : Nat) (L : List Int) (w : World) (hr : SlR f1 1 w w.heap.size A L) (hm : (L.length : Int) ≤ 1048576) :
    Calls Tryd.prog 8 #[.agg #[.slice A L.length c]] w (NewSm w L) := by
  have hr3 := ((hr.alloc (.cells #[.slice A L.length c] 24 (0, 0))).alloc (.cells #[.slice none 0 0] 29 (0, 0))).alloc (.cells #[.slice none 0 0] 29 (0, 0))
  go_enter Tryd.func8, Tryd.ntmps8
  go_wp2_with fail
  refine (toIntS_any _ _ _ _ hr3 hm).mono ?_; rintro e w1 ⟨A1, c1, rfl, o1, hb1⟩
  have z1 := hb1.size
  simp at z1
  obtain ⟨cc1, ff1⟩ := bblk hb1 (g := w.heap.size + 1) (by simp)
  obtain ⟨cc2, ff2⟩ := bblk hb1 (g := w.heap.size + 2) (by simp)
  have l1 : w.heap.size + 1 < w1.heap.size := by omega
  have l2 : w.heap.size + 2 < w1.heap.size := by omega
  have hO : OwnR f1 1 3 ((w1.setCell ⟨w.heap.size + 2, 0, none⟩ (.slice A1 L.length c1)).setCell ⟨w.heap.size + 1, 0, none⟩ (.slice A1 L.length c1)) w.heap.size A1 L := ((o1.farBelow (p := ⟨w.heap.size + 2, 0, none⟩) (by simp)).farBelow (p := ⟨w.heap.size + 1, 0, none⟩) (by simp)).mono (by simp; omega)
  have HO := Lib.hid hO
  clear hO o1 hr hr3
  go_wp2
  refine bodyPost_ret (v := .agg #[.slice A1 L.length c1]) (by simp [results, Tryd.results8, go_sem, *] <;> rfl) rfl ?_
  exact ⟨_, _, rfl, HO.out, by (repeat (first | exact Below.refl _ _ | refine Below.drew ?_ | refine below_drewN ?_ _ | (refine Below.alloc ?_ (by (try simp) <;> omega) _) | (refine Below.setCell ?_ (by (try simp) <;> omega) _) | (refine Below.trans ?_ (Below.mono (by assumption) (by (try simp) <;> omega)))))⟩
set_option maxHeartbeats 1000000 in
theorem eqSample_any (A A' : Option Addr) (c c' : Nat) (L L' : List Int) (w : World) (hr : SlR f1 1 w w.heap.size A L) (hr' : SlR f1 1 w w.heap.size A' L') (hm : (L.length : Int) ≤ 9223372036854775807) :
    Calls Tryd.prog 11 #[.agg #[.slice A L.length c], .agg #[.slice A' L'.length c']] w fun e w' => e = .returned (.bool (eqL L L')) ∧ Below w.heap.size w w' := by
  have h1 := (hr.alloc (.cells #[.slice A L.length c] 29 (0, 0))).alloc (.cells #[.slice A' L'.length c'] 29 (0, 0))
  have h2 := (hr'.alloc (.cells #[.slice A L.length c] 29 (0, 0))).alloc (.cells #[.slice A' L'.length c'] 29 (0, 0))
  cases h : eqL L L'
  all_goals
    go_enter Tryd.func11, Tryd.ntmps11
    go_wp2_with fail
    refine (eqIntS_any _ _ _ _ _ _ _ h1 h2 hm).mono ?_; rintro e w1 ⟨rfl, hb1⟩
    rw [h]
    have z1 := hb1.size
    simp at z1
    go_wp2
    go_ret
    exact ⟨rfl, by (repeat (first | exact Below.refl _ _ | refine Below.drew ?_ | refine below_drewN ?_ _ | (refine Below.alloc ?_ (by (try simp) <;> omega) _) | (refine Below.setCell ?_ (by (try simp) <;> omega) _) | (refine Below.trans ?_ (Below.mono (by assumption) (by (try simp) <;> omega)))))⟩
end Go.Proofs.YtapfnelghmnajaaDoor
