/-
  Is a list a series; are a ladder and a series matched: both programs.
-/
import Derived.Test.YthhjbdhglaombaaIdxBasin
import Derived.Test.YthhjbdhglaombaaBrine1
import Derived.Test.YthhjbdhglaombaaLad4
import Derived.Shelf.Abstract
import Derived.WalkKit
import Derived.WalkSpells
import Derived.WalkLawsBesides
import Derived.Lib.Hide
import Derived.Deep.QuietTactic
import Derived.BigQuiet
import Derived.StillTailTactics
namespace Go.Proofs.Ythhjbdhglaombaa
open Go.RowKit

def serOne (x : Int × Int × Int) : Bool := inB x.1 1 100000 && briB x.2.1 x.2.2
def serB (L : List (Int × Int × Int)) : Bool := inB L.length 1 8 && L.all serOne
theorem serB_one {L : List (Int × Int × Int)} (h : serB L = true) {k : Nat} {x : Int × Int × Int} (hx : L[k]? = some x) : (1 ≤ x.1 ∧ x.1 ≤ 100000) ∧ (0 ≤ x.2.1 ∧ x.2.1 ≤ 1000000) ∧ (0 ≤ x.2.2 ∧ x.2.2 ≤ 1000000) := by
  rw [serB, Bool.and_eq_true, List.all_eq_true] at h
  have := h.2 x (List.mem_of_getElem? hx)
  rw [serOne, Bool.and_eq_true] at this
  exact ⟨inB_iff.1 this.1, briB_bounds this.2⟩
theorem serB_any (L : List (Int × Int × Int)) : serB L = (inB L.length 1 8 && !L.any fun x => !serOne x) := by
  rw [serB, ← List.not_all_eq_any_not]; simp
theorem serB_bad {L : List (Int × Int × Int)} {k : Nat} {x : Int × Int × Int} (hx : L[k]? = some x) (h : serOne x = false) : serB L = false := by
  have : L.all serOne = false := by rw [List.all_eq_false]; exact ⟨x, List.mem_of_getElem? hx, by simp [h]⟩
  rw [serB, this]; simp
theorem serB_ok {L : List (Int × Int × Int)} (h : ∀ j y, j < L.length → L[j]? = some y → serOne y = true) : serB L = inB L.length 1 8 := by
  have : L.all serOne = true := by
    rw [List.all_eq_true]; intro x hx
    obtain ⟨j, hj, rfl⟩ := List.getElem_of_mem hx
    exact h j _ hj (List.getElem?_eq_getElem hj)
  rw [serB, this]; simp
def matB (a : List (Int × Int)) (b : List (Int × Int × Int)) : Bool := ladB a && serB b && decide (a.length = b.length)

set_option maxHeartbeats 400000 in
theorem isArea_any (x : Int) (w : World) : Calls Try.prog 90 #[.int .i64 x] w fun e w' => e = .returned (.bool (inB x 1 100000)) ∧ w = w' := by
  go_enter Try.func90, Try.ntmps90
  go_wp2_with fail
  refine (within_any _ _ _ _).mono ?_; rintro e w' ⟨rfl, rfl⟩
  go_wp2
  go_ret
  exact ⟨rfl, rfl⟩

set_option maxHeartbeats 1000000 in
theorem serClo_any (a b c : Int) (w : World) : Calls Try.prog 89 #[.agg #[.int .i64 a, .int .i64 b, .int .i64 c]] w fun e w' => e = .returned (.bool (!serOne (a, b, c))) ∧ Below w.heap.size w w' := by
  have k0 : (w.alloc (.cells #[.int .i64 a, .int .i64 b, .int .i64 c] 87 (0, 0))).heap.size = w.heap.size + 1 := by simp
  cases h1 : inB a 1 100000
  · have Hv := Lib.hid (show (!serOne (a, b, c)) = true by simp [serOne, h1])
    go_enter Try.func89, Try.ntmps89
    go_wp2_with fail
    refine (isArea_any _ _).mono ?_; rintro e w' ⟨rfl, rfl⟩
    rw [h1]
    go_wp2
    go_ret
    exact ⟨by rw [Hv.out]; rfl, by (repeat (first | exact Below.refl _ _ | refine Below.drew ?_ | refine below_drewN ?_ _ | (refine Below.alloc ?_ (by (try simp) <;> omega) _) | (refine Below.setCell ?_ (by (try simp) <;> omega) _) | (refine Below.trans ?_ (Below.mono (by assumption) (by (try simp) <;> omega)))))⟩
  · have Hv := Lib.hid (show (!serOne (a, b, c)) = !briB b c by simp [serOne, h1])
    go_enter Try.func89, Try.ntmps89
    go_wp2_with fail
    refine (isArea_any _ _).mono ?_; rintro e w' ⟨rfl, rfl⟩
    rw [h1]
    go_wp2_with fail
    refine (IsBrine_any _ _ _).mono ?_; rintro e w1 ⟨rfl, hb1⟩
    have z1 := hb1.size
    simp at z1
    generalize briB b c = u at *
    go_wp2
    go_ret
    exact ⟨by rw [Hv.out]; rfl, by (repeat (first | exact Below.refl _ _ | refine Below.drew ?_ | refine below_drewN ?_ _ | (refine Below.alloc ?_ (by (try simp) <;> omega) _) | (refine Below.setCell ?_ (by (try simp) <;> omega) _) | (refine Below.trans ?_ (Below.mono (by assumption) (by (try simp) <;> omega)))))⟩

set_option maxHeartbeats 1000000 in
theorem IsSeries_any (A : Option Addr) (c : Nat) (L : List (Int × Int × Int)) (w : World) (hr : SlR f3 3 w w.heap.size A L) (hm : (L.length : Int) ≤ 1048576) :
    Calls Try.prog 86 #[.slice A L.length c] w fun e w' => e = .returned (.bool (serB L)) ∧ Below w.heap.size w w' := by
  have eg : ∀ args w, (callFunc 89 args).run Try.prog w = .ok (.enter 89 args) w := Go.Proofs.enters_of Try.func89 (by kernel_rfl) rfl
  cases h1 : inB L.length 1 8
  · have Hv := Lib.hid (show serB L = false by simp [serB, h1])
    go_enter Try.func86, Try.ntmps86
    go_wp2_with fail
    refine (within_any _ _ _ _).mono ?_; rintro e w' ⟨rfl, rfl⟩
    rw [h1]
    go_wp2
    go_ret
    exact ⟨by rw [Hv.out]; rfl, by (repeat (first | exact Below.refl _ _ | refine Below.drew ?_ | refine below_drewN ?_ _ | (refine Below.alloc ?_ (by (try simp) <;> omega) _) | (refine Below.setCell ?_ (by (try simp) <;> omega) _) | (refine Below.trans ?_ (Below.mono (by assumption) (by (try simp) <;> omega)))))⟩
  · have Hv := Lib.hid (show serB L = !L.any (fun x => !serOne x) by rw [serB_any, h1]; simp)
    have H := Lib.hid (contBasin_any 89 #[] eg (fun x => !serOne x) A c L w hr hm (fun W x _ => serClo_any x.1 x.2.1 x.2.2 W))
    clear eg
    go_enter Try.func86, Try.ntmps86
    go_wp2_with fail
    refine (within_any _ _ _ _).mono ?_; rintro e w' ⟨rfl, rfl⟩
    rw [h1]
    go_wp2_with fail
    refine H.out.mono ?_; rintro e w1 ⟨rfl, hb1⟩
    generalize L.any (fun x => !serOne x) = u at *
    go_wp2
    go_ret
    exact ⟨by rw [Hv.out]; rfl, hb1⟩

set_option maxHeartbeats 2000000 in
theorem l8Good_any (A : Option Addr) (c : Nat) (L : List (Int × Int × Int)) (w : World) (hr : SlR f3 3 w w.heap.size A L) (hm : (L.length : Int) ≤ 1048576) :
    Calls Try.prog 84 #[.slice A L.length c] w fun e w' => e = .returned (.bool (serB L)) ∧ Below w.heap.size w w' := by
  go_enter Try.func84, Try.ntmps84
  go_wp2
  go_loopw [3] (fun i wr => ∃ k : Nat, i = .int .i64 k ∧ k ≤ L.length ∧ Hid (∀ j y, j < k → L[j]? = some y → serOne y = true) ∧ Below w.heap.size w wr) (fun i _ => (L.length - intOf i).toNat)
  case atStart => exact ⟨0, rfl, by omega, fun j y h => by omega, Below.refl _ _⟩
  case round =>
    obtain ⟨k, rfl, hk, hs, hb⟩ := hrel
    have zr := hb.size
    by_cases hlt : k < L.length
    · have hx : L[k]? = some L[k] := List.getElem?_eq_getElem hlt
      obtain ⟨b, off, rfl, hB, hcs⟩ := hr (SlR.ne hx)
      have hC := hcs.below hb hB
      obtain ⟨c0, c1, c2⟩ := cells3 hC hx
      have hk0 : (0 : Int) ≤ (k : Int) := by omega
      have hk1 : (k : Int) < (L.length : Int) := by omega
      generalize L[k] = x at *
      cases h1 : inB x.1 1 100000
      · have Hv := Lib.hid (serB_bad hx (by simp [serOne, h1]))
        clear hx hr hcs hC hs hlt
        go_wp2_with fail
        refine (l1In_any _ _ _ _).mono ?_; rintro e w' ⟨rfl, rfl⟩
        rw [h1]
        go_wp2
        go_ret
        exact ⟨by rw [Hv.out]; rfl, by (repeat (first | exact Below.refl _ _ | refine Below.drew ?_ | refine below_drewN ?_ _ | (refine Below.alloc ?_ (by (try simp) <;> omega) _) | (refine Below.setCell ?_ (by (try simp) <;> omega) _) | (refine Below.trans ?_ (Below.mono (by assumption) (by (try simp) <;> omega)))))⟩
      cases h2 : briB x.2.1 x.2.2
      · have Hv := Lib.hid (serB_bad hx (by simp [serOne, h2]))
        clear hx hr hcs hC hs hlt
        go_wp2_with fail
        refine (l1In_any _ _ _ _).mono ?_; rintro e w' ⟨rfl, rfl⟩
        rw [h1]
        go_wp2_with fail
        refine (l2Brine_any _ _ _).mono ?_; rintro e w1 ⟨rfl, hb1⟩
        rw [h2]
        go_wp2
        go_ret
        exact ⟨by rw [Hv.out]; rfl, hb.trans (hb1.mono (by omega))⟩
      · have Hp : Hid (∀ j y, j < k + 1 → L[j]? = some y → serOne y = true) := fun j y hj hy => by
          by_cases e : j = k
          · subst e; rw [hx] at hy; cases hy; simp [serOne, h1, h2]
          · exact hs.out j y (by omega) hy
        clear hx hr hcs hC hs hlt
        go_wp2_with fail
        refine (l1In_any _ _ _ _).mono ?_; rintro e w' ⟨rfl, rfl⟩
        rw [h1]
        go_wp2_with fail
        refine (l2Brine_any _ _ _).mono ?_; rintro e w1 ⟨rfl, hb1⟩
        rw [h2]
        go_wp2
        go_roundw
        case rel => exact ⟨k + 1, by go_num, by omega, Hp, hb.trans (hb1.mono (by omega))⟩
        case measure => simp only [intOf]; omega
    · obtain rfl : k = L.length := by omega
      have Hv := Lib.hid (serB_ok hs.out)
      go_wp2_with fail
      refine (l1In_any _ _ _ _).mono ?_; rintro e w' ⟨rfl, rfl⟩
      go_wp2
      go_ret
      exact ⟨by rw [Hv.out]; rfl, hb⟩

set_option maxHeartbeats 1000000 in
theorem areMatched_any (A : Option Addr) (c : Nat) (a : List (Int × Int)) (A' : Option Addr) (c' : Nat) (b : List (Int × Int × Int)) (w : World) (hr : SlR f2 2 w w.heap.size A a) (hm : (a.length : Int) ≤ 1048576) (hr' : SlR f3 3 w w.heap.size A' b) (hm' : (b.length : Int) ≤ 1048576) :
    Calls Try.prog 75 #[.slice A a.length c, .slice A' b.length c'] w fun e w' => e = .returned (.bool (matB a b)) ∧ Below w.heap.size w w' := by
  cases h1 : ladB a
  · have Hv := Lib.hid (show matB a b = false by simp [matB, h1])
    go_enter Try.func75, Try.ntmps75
    go_wp2_with fail
    refine (IsLadder_any _ _ _ _ hr (by omega)).mono ?_; rintro e w1 ⟨rfl, hb1⟩
    have z1 := hb1.size
    try simp at z1
    rw [h1]
    go_wp2
    go_ret
    exact ⟨by rw [Hv.out]; rfl, by (repeat (first | exact Below.refl _ _ | refine Below.drew ?_ | refine below_drewN ?_ _ | (refine Below.alloc ?_ (by (try simp) <;> omega) _) | (refine Below.setCell ?_ (by (try simp) <;> omega) _) | (refine Below.trans ?_ (Below.mono (by assumption) (by (try simp) <;> omega)))))⟩
  cases h2 : serB b
  · have Hv := Lib.hid (show matB a b = false by simp [matB, h2])
    go_enter Try.func75, Try.ntmps75
    go_wp2_with fail
    refine (IsLadder_any _ _ _ _ hr (by omega)).mono ?_; rintro e w1 ⟨rfl, hb1⟩
    have z1 := hb1.size
    try simp at z1
    rw [h1]
    go_wp2_with fail
    refine (IsSeries_any _ _ _ _ (hr'.next hb1) hm').mono ?_; rintro e w2 ⟨rfl, hb2⟩
    have z2 := hb2.size
    try simp at z2
    rw [h2]
    go_wp2
    go_ret
    exact ⟨by rw [Hv.out]; rfl, by (repeat (first | exact Below.refl _ _ | refine Below.drew ?_ | refine below_drewN ?_ _ | (refine Below.alloc ?_ (by (try simp) <;> omega) _) | (refine Below.setCell ?_ (by (try simp) <;> omega) _) | (refine Below.trans ?_ (Below.mono (by assumption) (by (try simp) <;> omega)))))⟩
  by_cases h3 : a.length = b.length
  · have Hv := Lib.hid (show matB a b = true by simp [matB, h1, h2, h3])
    have hbe : ((a.length : Int) == (b.length : Int)) = true := by simp [h3]
    clear h3
    go_enter Try.func75, Try.ntmps75
    go_wp2_with fail
    refine (IsLadder_any _ _ _ _ hr (by omega)).mono ?_; rintro e w1 ⟨rfl, hb1⟩
    have z1 := hb1.size
    try simp at z1
    rw [h1]
    go_wp2_with fail
    refine (IsSeries_any _ _ _ _ (hr'.next hb1) hm').mono ?_; rintro e w2 ⟨rfl, hb2⟩
    have z2 := hb2.size
    try simp at z2
    rw [h2]
    go_wp2
    go_ret
    exact ⟨by rw [Hv.out]; rfl, by (repeat (first | exact Below.refl _ _ | refine Below.drew ?_ | refine below_drewN ?_ _ | (refine Below.alloc ?_ (by (try simp) <;> omega) _) | (refine Below.setCell ?_ (by (try simp) <;> omega) _) | (refine Below.trans ?_ (Below.mono (by assumption) (by (try simp) <;> omega)))))⟩
  · have Hv := Lib.hid (show matB a b = false by simp [matB, h3])
    have hbe : ((a.length : Int) == (b.length : Int)) = false := by rw [beq_eq_false_iff_ne]; omega
    go_enter Try.func75, Try.ntmps75
    go_wp2_with fail
    refine (IsLadder_any _ _ _ _ hr (by omega)).mono ?_; rintro e w1 ⟨rfl, hb1⟩
    have z1 := hb1.size
    try simp at z1
    rw [h1]
    go_wp2_with fail
    refine (IsSeries_any _ _ _ _ (hr'.next hb1) hm').mono ?_; rintro e w2 ⟨rfl, hb2⟩
    have z2 := hb2.size
    try simp at z2
    rw [h2]
    go_wp2
    go_ret
    exact ⟨by rw [Hv.out]; rfl, by (repeat (first | exact Below.refl _ _ | refine Below.drew ?_ | refine below_drewN ?_ _ | (refine Below.alloc ?_ (by (try simp) <;> omega) _) | (refine Below.setCell ?_ (by (try simp) <;> omega) _) | (refine Below.trans ?_ (Below.mono (by assumption) (by (try simp) <;> omega)))))⟩

set_option maxHeartbeats 1000000 in
theorem l13Both_any (A : Option Addr) (c : Nat) (a : List (Int × Int)) (A' : Option Addr) (c' : Nat) (b : List (Int × Int × Int)) (w : World) (hr : SlR f2 2 w w.heap.size A a) (hm : (a.length : Int) ≤ 1048576) (hr' : SlR f3 3 w w.heap.size A' b) (hm' : (b.length : Int) ≤ 1048576) :
    Calls Try.prog 71 #[.slice A a.length c, .slice A' b.length c'] w fun e w' => e = .returned (.bool (matB a b)) ∧ Below w.heap.size w w' := by
  cases h1 : ladB a
  · have Hv := Lib.hid (show matB a b = false by simp [matB, h1])
    go_enter Try.func71, Try.ntmps71
    go_wp2_with fail
    refine (l13Good_any _ _ _ _ hr (by omega)).mono ?_; rintro e w1 ⟨rfl, hb1⟩
    have z1 := hb1.size
    try simp at z1
    rw [h1]
    go_wp2
    go_ret
    exact ⟨by rw [Hv.out]; rfl, by (repeat (first | exact Below.refl _ _ | refine Below.drew ?_ | refine below_drewN ?_ _ | (refine Below.alloc ?_ (by (try simp) <;> omega) _) | (refine Below.setCell ?_ (by (try simp) <;> omega) _) | (refine Below.trans ?_ (Below.mono (by assumption) (by (try simp) <;> omega)))))⟩
  cases h2 : serB b
  · have Hv := Lib.hid (show matB a b = false by simp [matB, h2])
    go_enter Try.func71, Try.ntmps71
    go_wp2_with fail
    refine (l13Good_any _ _ _ _ hr (by omega)).mono ?_; rintro e w1 ⟨rfl, hb1⟩
    have z1 := hb1.size
    try simp at z1
    rw [h1]
    go_wp2_with fail
    refine (l8Good_any _ _ _ _ (hr'.next hb1) hm').mono ?_; rintro e w2 ⟨rfl, hb2⟩
    have z2 := hb2.size
    try simp at z2
    rw [h2]
    go_wp2
    go_ret
    exact ⟨by rw [Hv.out]; rfl, by (repeat (first | exact Below.refl _ _ | refine Below.drew ?_ | refine below_drewN ?_ _ | (refine Below.alloc ?_ (by (try simp) <;> omega) _) | (refine Below.setCell ?_ (by (try simp) <;> omega) _) | (refine Below.trans ?_ (Below.mono (by assumption) (by (try simp) <;> omega)))))⟩
  by_cases h3 : a.length = b.length
  · have Hv := Lib.hid (show matB a b = true by simp [matB, h1, h2, h3])
    have hbe : ((a.length : Int) == (b.length : Int)) = true := by simp [h3]
    clear h3
    go_enter Try.func71, Try.ntmps71
    go_wp2_with fail
    refine (l13Good_any _ _ _ _ hr (by omega)).mono ?_; rintro e w1 ⟨rfl, hb1⟩
    have z1 := hb1.size
    try simp at z1
    rw [h1]
    go_wp2_with fail
    refine (l8Good_any _ _ _ _ (hr'.next hb1) hm').mono ?_; rintro e w2 ⟨rfl, hb2⟩
    have z2 := hb2.size
    try simp at z2
    rw [h2]
    go_wp2
    go_ret
    exact ⟨by rw [Hv.out]; rfl, by (repeat (first | exact Below.refl _ _ | refine Below.drew ?_ | refine below_drewN ?_ _ | (refine Below.alloc ?_ (by (try simp) <;> omega) _) | (refine Below.setCell ?_ (by (try simp) <;> omega) _) | (refine Below.trans ?_ (Below.mono (by assumption) (by (try simp) <;> omega)))))⟩
  · have Hv := Lib.hid (show matB a b = false by simp [matB, h3])
    have hbe : ((a.length : Int) == (b.length : Int)) = false := by rw [beq_eq_false_iff_ne]; omega
    go_enter Try.func71, Try.ntmps71
    go_wp2_with fail
    refine (l13Good_any _ _ _ _ hr (by omega)).mono ?_; rintro e w1 ⟨rfl, hb1⟩
    have z1 := hb1.size
    try simp at z1
    rw [h1]
    go_wp2_with fail
    refine (l8Good_any _ _ _ _ (hr'.next hb1) hm').mono ?_; rintro e w2 ⟨rfl, hb2⟩
    have z2 := hb2.size
    try simp at z2
    rw [h2]
    go_wp2
    go_ret
    exact ⟨by rw [Hv.out]; rfl, by (repeat (first | exact Below.refl _ _ | refine Below.drew ?_ | refine below_drewN ?_ _ | (refine Below.alloc ?_ (by (try simp) <;> omega) _) | (refine Below.setCell ?_ (by (try simp) <;> omega) _) | (refine Below.trans ?_ (Below.mono (by assumption) (by (try simp) <;> omega)))))⟩
end Go.Proofs.Ythhjbdhglaombaa
