/-
  byBitter: the casks in order, in new memory.
-/
import Derived.Test.YtjpoaiiminofdaaMw1
import Derived.Test.YtjpoaiiminofdaaClnBittern
import Derived.Deep.DeepCutAuto
import Derived.WalkKit
import Derived.WalkSpells
import Derived.WalkLawsBesides
import Derived.Lib.Hide
import Derived.Deep.QuietTactic
import Derived.BigQuiet
import Derived.StillTailTactics
namespace Go.Proofs.Ytjpoaiiminofdaa
open Go.RowKit

set_option maxHeartbeats 4000000 in
theorem stable_any (B g c : Nat) (L : List B3) (w : World) (hR : Row w g 40 (L.length * 3)) (hC : Cells f3 3 w g 0 L) (hBg : B ≤ g) (hL : bitB L = true) (hBw : B ≤ w.heap.size) :
    Calls Try.prog 50 #[.slice (some ⟨g, 0, none⟩) L.length c, .func (.func 51) #[] #[]] w fun e w' => e = .returned (.tuple #[]) ∧
      Cells f3 3 w' g 0 (ordM L L.length) ∧ Below B w w' := by
  have C := Lib.hid (sortB_any B g c L w hR hC hBg hL hBw)
  have h8 : L.length ≤ 8 := by
    have h := hL
    simp only [bitB, Bool.and_eq_true, decide_eq_true_eq] at h; omega
  have h8i : (L.length : Int) ≤ 8 := by omega
  have h0i : (0 : Int) ≤ L.length := by omega
  have h20 : ¬ (20 : Int) ≤ L.length := by omega
  have h20' : ¬ (20 : Int) < L.length := by omega
  clear hR hC hL h8
  have C2 : Hid (Calls Try.prog 54 #[.slice (some ⟨g, 0, none⟩) L.length c, .int .i64 L.length, .func (.func 51) #[] #[]] w fun e w' => e = .returned (.tuple #[]) ∧ Cells f3 3 w' g 0 (ordM L L.length) ∧ Below B w w') := by
    refine Lib.hid ?_
    go_enter Try.func54, Try.ntmps54
    go_wp2
    go_loopw [7, 8] (fun v7 v8 wr => v7 = .int .i64 0 ∧ v8 = .int .i64 20 ∧ wr = w) (fun _ _ _ => 0)
    case atStart => exact ⟨rfl, rfl, rfl⟩
    case round =>
      obtain ⟨rfl, rfl, rfl⟩ := hrel
      go_wp2_with fail
      refine C.out.mono ?_; rintro e w9 ⟨rfl, hC, hb⟩
      go_wp2
      go_loopw [6, 7, 8] (fun v6 v7 v8 wr2 => v6 = .int .i64 20 ∧ wr2 = w9) (fun _ _ _ _ => 0)
      case atStart => exact ⟨rfl, rfl⟩
      case round =>
        obtain ⟨rfl, rfl⟩ := hrel
        go_wp2
        go_end0
        exact ⟨rfl, hC, hb⟩
  clear C
  go_enter Try.func50, Try.ntmps50
  go_wp2_with fail
  refine C2.out.mono ?_; rintro e w9 ⟨rfl, hC, hb⟩
  go_wp2
  go_end0
  exact ⟨rfl, hC, hb⟩

set_option maxHeartbeats 4000000 in
theorem stable_nil (A : Option Addr) (c : Nat) (fv : Value) (w : World) :
    Calls Try.prog 50 #[.slice A 0 c, fv] w fun e w' => e = .returned (.tuple #[]) ∧ w' = w := by
  have C : Hid (Calls Try.prog 56 #[.slice A 0 c, .int .i64 0, .int .i64 0, fv] w fun e w' => e = .returned (.tuple #[]) ∧ w' = w) := by
    refine Lib.hid ?_
    go_enter Try.func56, Try.ntmps56
    go_wp2
    go_loopw [8] (fun v8 wr => v8 = .int .i64 1 ∧ wr = w) (fun _ _ => 0)
    case atStart => exact ⟨rfl, rfl⟩
    case round =>
      obtain ⟨rfl, rfl⟩ := hrel
      go_wp2
      go_end0
      exact ⟨rfl, rfl⟩
  have C2 : Hid (Calls Try.prog 54 #[.slice A 0 c, .int .i64 0, fv] w fun e w' => e = .returned (.tuple #[]) ∧ w' = w) := by
    refine Lib.hid ?_
    go_enter Try.func54, Try.ntmps54
    go_wp2
    go_loopw [7, 8] (fun v7 v8 wr => v7 = .int .i64 0 ∧ v8 = .int .i64 20 ∧ wr = w) (fun _ _ _ => 0)
    case atStart => exact ⟨rfl, rfl, rfl⟩
    case round =>
      obtain ⟨rfl, rfl, rfl⟩ := hrel
      go_wp2_with fail
      refine C.out.mono ?_; rintro e w9 ⟨rfl, rfl⟩
      go_wp2
      go_loopw [6, 7, 8] (fun v6 v7 v8 wr2 => v6 = .int .i64 20 ∧ wr2 = w9) (fun _ _ _ _ => 0)
      case atStart => exact ⟨rfl, rfl⟩
      case round =>
        obtain ⟨rfl, rfl⟩ := hrel
        go_wp2
        go_end0
        exact ⟨rfl, rfl⟩
  clear C
  go_enter Try.func50, Try.ntmps50
  go_wp2_with fail
  refine C2.out.mono ?_; rintro e w9 ⟨rfl, rfl⟩
  go_wp2
  go_end0
  exact ⟨rfl, rfl⟩
set_option maxHeartbeats 1000000 in
theorem cloneB_nil (A : Option Addr) (c : Nat) (w : World) :
    Calls Try.prog 38 #[.slice A 0 c] w fun e w' => ∃ A' c', e = .returned (.slice A' 0 c') ∧ Below w.heap.size w w' := by
  cases A with
  | none =>
    have hnn := @Lib.run_eql_slice_nil
    go_enter Try.func38, Try.ntmps38
    go_wp2
    go_ret
    exact ⟨none, 0, rfl, Below.refl _ _⟩
  | some a =>
    obtain ⟨i0, hi, hz0, hz1, hz2⟩ := info_parts infoBittern
    have HE := Lib.hid (Gath.made (f := f3) (m := 3) (t := 40) (B := w.heap.size) (w := w) (Nat.le_refl _))
    have hb0 : Below w.heap.size w (w.alloc (.cells #[] 40 (0, 0))) := by (repeat (first | exact Below.refl _ _ | refine Below.drew ?_ | refine below_drewN ?_ _ | (refine Below.alloc ?_ (by (try simp) <;> omega) _) | (refine Below.setCell ?_ (by (try simp) <;> omega) _) | (refine Below.trans ?_ (Below.mono (by assumption) (by (try simp) <;> omega)))))
    have HI := Lib.hid hi; have HZ0 := Lib.hid hz0; have HZ1 := Lib.hid hz1; have HZ2 := Lib.hid hz2
    clear hi hz0 hz1 hz2
    have hnn := @Lib.run_eql_slice_nil
    go_enter Try.func38, Try.ntmps38
    go_wp2_with (at_builtin; refine wpList_append_own _ rfl _ _ 25 rfl w.heap.size 40 i0 (.agg #[.int .i64 0, .int .i64 0, .int .i64 0]) 3 24 Try.underlying25 HI.out HZ0.out HZ1.out HZ2.out rfl (by decide) _ _ _ rfl HE.out a 0 c [] rfl rfl (fun j u h => by simp at h) (fun u h => by simp at h) ?c3 ?c4 ?c5 ?c6)
    case c3 => unfold maxLen; first | omega | (simp; omega) | simp
    case c4 => first | omega | (simp; omega) | simp
    case c5 => first | omega | (simp)
    case c6 =>
      intro v' w9 hown hgrow _
      have hb9 : Below w.heap.size w w9 := below_grown' hb0 hgrow HE.out (Nat.le_refl _) (by simp)
      have hG9 : Gath f3 3 40 w9 w.heap.size v' [] := by unfold Gath; simpa using hown
      obtain ⟨A', c', rfl, _⟩ := Gath.own (f := f3) (m := 3) (fun _ => rfl) hG9
      clear hown hgrow hG9
      go_wp2
      go_ret
      exact ⟨A', c', rfl, hb9⟩
set_option maxHeartbeats 1000000 in
theorem byBitter_any (A : Option Addr) (c : Nat) (L : List B3) (w : World) (hr : SlR f3 3 w w.heap.size A L) (hL : bitB L = true) :
    Calls Try.prog 43 #[.slice A L.length c] w fun e w' => ∃ A' c', e = .returned (.slice A' L.length c') ∧ SlR f3 3 w' w'.heap.size A' (ordM L L.length) ∧ Below w.heap.size w w' := by
  by_cases hne : L = []
  · subst hne
    simp only [List.length_nil]
    have C1 := Lib.hid (cloneB_nil A c w)
    go_enter Try.func43, Try.ntmps43
    go_wp2_with fail
    refine C1.out.mono ?_; rintro e w1 ⟨A1, c1, rfl, hb1⟩
    have C2 := Lib.hid (stable_nil A1 c1 (.func (.func 51) #[] #[]) w1)
    clear C1
    go_wp2_with fail
    refine C2.out.mono ?_; rintro e w2 ⟨rfl, rfl⟩
    go_wp2
    go_ret
    exact ⟨A1, c1, rfl, SlR.nil, hb1⟩
  · obtain ⟨b, off, rfl, hB, hC⟩ := hr hne
    have h8 : L.length ≤ 8 := by
      have h := hL
      simp only [bitB, Bool.and_eq_true, decide_eq_true_eq] at h; omega
    have C1 := Lib.hid (cloneBittern_any b off c L w hC hB (by omega))
    have HN := Lib.hid hne
    clear hC hne
    go_enter Try.func43, Try.ntmps43
    go_wp2_with fail
    refine C1.out.mono ?_; rintro e w1 ⟨A1, c1, rfl, o1, hb1⟩
    obtain ⟨g, rfl, hg, hR, hC⟩ := o1 HN.out
    have C2 := Lib.hid (stable_any w.heap.size g c1 L w1 hR hC hg hL hb1.size)
    have hgl := hR.lt
    clear C1 o1 hR hC
    go_wp2_with fail
    refine C2.out.mono ?_; rintro e w2 ⟨rfl, hC2, hb2⟩
    have HC := Lib.hid (show SlR f3 3 w2 w2.heap.size (some ⟨g, 0, none⟩) (ordM L L.length) from fun _ => ⟨g, 0, rfl, Nat.lt_of_lt_of_le hgl hb2.size, hC2⟩)
    have HB := Lib.hid (hb1.trans hb2)
    clear C2 hC2 hb2
    go_wp2
    go_ret
    exact ⟨_, c1, rfl, HC.out, HB.out⟩
end Go.Proofs.Ytjpoaiiminofdaa
