/-
  slices.Clone at slices of Bitterns; one behind the other, the cells of a slice.
-/
import Derived.Test.YtjpoaiiminofdaaPred
import Derived.Test.YtjpoaiiminofdaaHBittern
import Derived.Test.YtjpoaiiminofdaaAppend
import Derived.WalkKit
import Derived.WalkSpells
import Derived.WalkLawsBesides
import Derived.Lib.Hide
import Derived.Deep.QuietTactic
import Derived.BigQuiet
import Derived.StillTailTactics
namespace Go.Proofs.Ytjpoaiiminofdaa
open Go.RowKit

section
variable {α : Type} {f : α → List Value} {m : Nat} {w w' : World} {B b off n g : Nat} {L : List α} {t : TypeId}
theorem flat_len (hf : ∀ x : α, (f x).length = m) : ∀ L : List α, (L.flatMap f).length = L.length * m
  | [] => by simp
  | x :: L => by rw [List.flatMap_cons, List.length_append, hf, flat_len hf L, List.length_cons, Nat.add_mul]; omega
theorem get_split {k : Nat} (hm : 0 < m) (h : k < L.length * m) : k = k / m * m + k % m ∧ k / m < L.length ∧ k % m < m := by
  refine ⟨by rw [Nat.mul_comm, Nat.div_add_mod], ?_, Nat.mod_lt _ hm⟩
  rw [Nat.div_lt_iff_lt_mul hm]; exact h
/-- The cells of a slice, one behind the other. -/
theorem cells_flat (hf : ∀ x : α, (f x).length = m) (hm : 0 < m) (h : Cells f m w b off L) : ∀ j u, (L.flatMap f)[j]? = some u → w.cell? ((⟨b, off, none⟩ : Addr).add j) = some u := by
  intro j u hj
  rw [Go.WideShapes.add_plain]
  have hlt : j < L.length * m := by
    rw [← flat_len hf L]; exact (List.getElem?_eq_some_iff.1 hj).1
  obtain ⟨e, h1, h2⟩ := get_split hm hlt
  have hx : L[j / m]? = some L[j / m] := List.getElem?_eq_getElem h1
  have h3 := flatMap_get hf L (j / m) (j % m) _ hx h2
  rw [← e, hj] at h3
  have := h (j / m) _ hx (j % m) u h3.symm
  rw [show off + j = off + j / m * m + j % m by omega]
  exact this
theorem flat_one (h1 : ∀ x : α, ∀ u ∈ f x, u.oneCell' = true) : ∀ u ∈ L.flatMap f, u.oneCell' = true := by
  intro u hu
  rw [List.mem_flatMap] at hu
  obtain ⟨x, _, hx⟩ := hu
  exact h1 x u hx
end
theorem f_one3 : ∀ x : (Int × Int × Int), ∀ u ∈ f3 x, u.oneCell' = true := by intro x u hu; simp [f3] at hu; rcases hu with rfl | rfl | rfl <;> rfl
/-- The cells of an older slice, behind a new empty block. -/
theorem src_cells {w : World} {b off : Nat} {L : List (Int × Int × Int)} (hr : Cells f3 3 w b off L) (hb : b < w.heap.size) : ∀ j u, (L.flatMap f3)[j]? = some u → (w.alloc (.cells #[] 40 (0, 0))).cell? ((⟨b, off, none⟩ : Addr).add j) = some u :=
  cells_flat (f := f3) (m := 3) (fun _ => rfl) (by omega) (hr.below (B := w.heap.size) (by (repeat (first | exact Below.refl _ _ | refine Below.drew ?_ | refine below_drewN ?_ _ | (refine Below.alloc ?_ (by (try simp) <;> omega) _) | (refine Below.setCell ?_ (by (try simp) <;> omega) _) | (refine Below.trans ?_ (Below.mono (by assumption) (by (try simp) <;> omega)))))) hb)

set_option maxHeartbeats 1000000 in
theorem cloneBittern_any (b off c : Nat) (L : List (Int × Int × Int)) (w : World) (hr : Cells f3 3 w b off L) (hb : b < w.heap.size) (hm : (L.length : Int) ≤ 1048576) :
    Calls Try.prog 38 #[.slice (some ⟨b, off, none⟩) L.length c] w fun e w' => ∃ A c', e = .returned (.slice A L.length c') ∧ OwnR f3 3 40 w' w.heap.size A L ∧ Below w.heap.size w w' := by
  obtain ⟨i0, hi, hz0, hz1, hz2⟩ := info_parts infoBittern
  have hE := Gath.made (f := f3) (m := 3) (t := 40) (B := w.heap.size) (w := w) (Nat.le_refl _)
  have HE := Lib.hid hE; clear hE
  have hb0 : Below w.heap.size w (w.alloc (.cells #[] 40 (0, 0))) := by (repeat (first | exact Below.refl _ _ | refine Below.drew ?_ | refine below_drewN ?_ _ | (refine Below.alloc ?_ (by (try simp) <;> omega) _) | (refine Below.setCell ?_ (by (try simp) <;> omega) _) | (refine Below.trans ?_ (Below.mono (by assumption) (by (try simp) <;> omega)))))
  have HC := Lib.hid (src_cells hr hb)
  have HI := Lib.hid hi; have HZ0 := Lib.hid hz0; have HZ1 := Lib.hid hz1; have HZ2 := Lib.hid hz2
  clear hi hz0 hz1 hz2 hr
  have hnn := @Lib.run_eql_slice_nil
  go_enter Try.func38, Try.ntmps38
  go_wp2_with (at_builtin; refine wpList_append_own _ rfl _ _ 25 rfl w.heap.size 40 i0 (.agg #[.int .i64 0, .int .i64 0, .int .i64 0]) 3 24 Try.underlying25 HI.out HZ0.out HZ1.out HZ2.out rfl (by decide) _ _ _ rfl HE.out ⟨b, off, none⟩ L.length c (L.flatMap f3) rfl (flat_len (f := f3) (m := 3) (fun _ => rfl) L) HC.out (flat_one f_one3) ?c3 ?c4 ?c5 ?c6)
  case c3 => unfold maxLen; first | omega | (simp; omega)
  case c4 => first | omega | (simp; omega)
  case c5 => first | omega | (simp)
  case c6 =>
    intro v' w9 hown hgrow _
    have hG9 : Gath f3 3 40 w9 w.heap.size v' L := by
      unfold Gath; simpa using hown
    have hb9 : Below w.heap.size w w9 := below_grown' hb0 hgrow HE.out (Nat.le_refl _) (by simp)
    obtain ⟨A', c', rfl, ho⟩ := Gath.own (f := f3) (m := 3) (fun _ => rfl) hG9
    clear hown hgrow hG9
    go_wp2
    go_ret
    exact ⟨A', c', rfl, ho, hb9⟩
end Go.Proofs.Ytjpoaiiminofdaa
