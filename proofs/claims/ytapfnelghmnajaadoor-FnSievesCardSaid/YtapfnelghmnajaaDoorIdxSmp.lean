/-
  slices.IndexFunc and slices.ContainsFunc at slices of Smps, for whatever predicate that only reads and makes new memory.
-/
import Derived.Test.YtapfnelghmnajaaDoorScalar
import Derived.Test.YtapfnelghmnajaaDoorSlice
import Derived.Test.YtapfnelghmnajaaDoorSms0
import Derived.Test.YtapfnelghmnajaaDoorOpenSl
import Derived.WalkKit
import Derived.WalkSpells
import Derived.WalkLawsBesides
import Derived.Lib.Hide
import Derived.Deep.QuietTactic
import Derived.BigQuiet
import Derived.StillTailTactics
namespace Go.Proofs.YtapfnelghmnajaaDoor
open Go.RowKit

/-- The first place at which p holds, or -1. -/
def idxOf {α : Type} (p : α → Bool) (L : List α) : Int := match L.findIdx? p with
  | some i => (i : Int)
  | none => -1
theorem idxOf_hit {α : Type} {p : α → Bool} {L : List α} {k : Nat} {x : α} (hx : L[k]? = some x) (hp : p x = true) (h : ∀ j y, j < k → L[j]? = some y → p y = false) : idxOf p L = (k : Int) := by
  have hk := (List.getElem?_eq_some_iff.1 hx).1
  have : L.findIdx? p = some k := by
    rw [List.findIdx?_eq_some_iff_getElem]
    refine ⟨hk, ?_, fun j hj => ?_⟩
    · rw [(List.getElem?_eq_some_iff.1 hx).2]; exact hp
    · have := h j _ hj (List.getElem?_eq_getElem (by omega))
      simp [this]
  rw [idxOf, this]
theorem idxOf_miss {α : Type} {p : α → Bool} {L : List α} (h : ∀ j y, j < L.length → L[j]? = some y → p y = false) : idxOf p L = -1 := by
  have : L.findIdx? p = none := by
    rw [List.findIdx?_eq_none_iff]
    intro x hx
    obtain ⟨j, hj, rfl⟩ := List.getElem_of_mem hx
    exact h j _ hj (List.getElem?_eq_getElem hj)
  rw [idxOf, this]
theorem idxOf_any {α : Type} (p : α → Bool) (L : List α) : decide (idxOf p L ≥ 0) = L.any p := by
  unfold idxOf
  cases h : L.findIdx? p with
  | none =>
    rw [List.findIdx?_eq_none_iff] at h
    have : L.any p = false := by rw [List.any_eq_false]; intro x hx; simp [h x hx]
    rw [this]; rfl
  | some i =>
    have : L.any p = true := by
      rw [List.any_eq_true]
      rw [List.findIdx?_eq_some_iff_getElem] at h
      obtain ⟨hi, hp, _⟩ := h
      exact ⟨_, List.getElem_mem hi, hp⟩
    rw [this]
    simp
theorem idxOf_range {α : Type} (p : α → Bool) (L : List α) : -1 ≤ idxOf p L ∧ idxOf p L < L.length ∨ idxOf p L = -1 := by
  unfold idxOf
  cases h : L.findIdx? p with
  | none => exact .inr rfl
  | some i =>
    rw [List.findIdx?_eq_some_iff_getElem] at h
    obtain ⟨hi, _⟩ := h
    exact .inl ⟨by show -1 ≤ (i : Int); omega, by show (i : Int) < _; omega⟩

set_option maxHeartbeats 1000000 in
theorem idxSmp_any (g : Nat) (lb : Array Value) (eg : ∀ args w, (callFunc g args).run Tryd.prog w = .ok (.enter g args) w) (p : Smp → Bool) (A : Option Addr) (c : Nat) (L : List Smp) (w : World) (hr : SlR fM 1 w w.heap.size A L) (hm : (L.length : Int) ≤ 1048576)
    (hp : ∀ W (x : Smp), x ∈ L → Below w.heap.size w W → Calls Tryd.prog g (#[.agg #[.slice x.1 x.2.2.length x.2.1]] ++ lb) W fun e w' => e = .returned (.bool (p x)) ∧ Below W.heap.size W w') :
    Calls Tryd.prog 58 #[.slice A L.length c, .func (.func g) #[] lb] w fun e w' => e = .returned (.int .i64 (idxOf p L)) ∧ Below w.heap.size w w' := by
  go_enter Tryd.func58, Tryd.ntmps58
  go_wp2
  go_loopw [8] (fun i wr => ∃ k : Nat, i = .int .i64 k ∧ k ≤ L.length ∧ Hid (∀ j y, j < k → L[j]? = some y → p y = false) ∧ Below w.heap.size w wr) (fun i _ => (L.length - intOf i).toNat)
  case atStart => exact ⟨0, rfl, by omega, fun j y h => by omega, Below.refl _ _⟩
  case round =>
    obtain ⟨k, rfl, hk, hs, hb⟩ := hrel
    have zr := hb.size
    by_cases hlt : k < L.length
    · have hx : L[k]? = some L[k] := List.getElem?_eq_getElem hlt
      obtain ⟨b, off, rfl, hB, hcs⟩ := hr (SlR.ne hx)
      have hC := hcs.below hb hB
      have c0 := cellM hC hx
      have hk0 : (0 : Int) ≤ (k : Int) := by omega
      have hk1 : (k : Int) < (L.length : Int) := by omega
      generalize L[k] = x at *
      have hcall := hp wr x (List.mem_of_getElem? hx) hb
      cases hq : p x with
      | true =>
        have Hv := Lib.hid (idxOf_hit hx hq hs.out)
        rw [hq] at hcall
        clear hx hr hcs hC hp hs hlt
        go_wp2_with fail
        refine hcall.mono ?_; rintro e w' ⟨rfl, hb'⟩
        go_wp2
        go_ret
        exact ⟨by rw [Hv.out]; rfl, hb.trans (hb'.mono (by omega))⟩
      | false =>
        have Hp : Hid (∀ j y, j < k + 1 → L[j]? = some y → p y = false) := fun j y hj hy => by
          by_cases e : j = k
          · subst e; rw [hx] at hy; cases hy; exact hq
          · exact hs.out j y (by omega) hy
        rw [hq] at hcall
        clear hx hr hcs hC hp hs hlt
        go_wp2_with fail
        refine hcall.mono ?_; rintro e w' ⟨rfl, hb'⟩
        go_wp2
        go_roundw
        case rel => exact ⟨k + 1, by go_num, by omega, Hp, hb.trans (hb'.mono (by omega))⟩
        case measure => simp only [intOf]; omega
    · obtain rfl : k = L.length := by omega
      have Hv := Lib.hid (idxOf_miss hs.out)
      go_wp2
      go_ret
      exact ⟨by rw [Hv.out]; rfl, hb⟩

set_option maxHeartbeats 1000000 in
theorem contSmp_any (g : Nat) (lb : Array Value) (eg : ∀ args w, (callFunc g args).run Tryd.prog w = .ok (.enter g args) w) (p : Smp → Bool) (A : Option Addr) (c : Nat) (L : List Smp) (w : World) (hr : SlR fM 1 w w.heap.size A L) (hm : (L.length : Int) ≤ 1048576)
    (hp : ∀ W (x : Smp), x ∈ L → Below w.heap.size w W → Calls Tryd.prog g (#[.agg #[.slice x.1 x.2.2.length x.2.1]] ++ lb) W fun e w' => e = .returned (.bool (p x)) ∧ Below W.heap.size W w') :
    Calls Tryd.prog 44 #[.slice A L.length c, .func (.func g) #[] lb] w fun e w' => e = .returned (.bool (L.any p)) ∧ Below w.heap.size w w' := by
  have Hv := Lib.hid (idxOf_any p L)
  go_enter Tryd.func44, Tryd.ntmps44
  go_wp2_with fail
  refine (idxSmp_any g lb eg p A c L w hr hm hp).mono ?_; rintro e w' ⟨rfl, hb'⟩
  generalize idxOf p L = r at *
  go_wp2
  go_ret
  exact ⟨by rw [← Hv.out]; rfl, hb'⟩
end Go.Proofs.YtapfnelghmnajaaDoor
