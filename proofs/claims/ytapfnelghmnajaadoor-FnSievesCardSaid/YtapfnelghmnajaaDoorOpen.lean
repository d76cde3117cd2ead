/-
  The arguments of the laws, opened: structs of ints, slices of them; closed facts of the program.
-/
import Derived.Test.YtapfnelghmnajaaDoorScalar
import Derived.ProofKit
import Derived.OpenShut
import Derived.Lib.SmallJoins
import Derived.Deep.Slices
import Derived.Deep.Fields
import Derived.ChangeSame
namespace Go.Proofs.YtapfnelghmnajaaDoor
open Go.ChangeShapes Go.WideShapes Go.ChangeAt Go.RowKit Go.Joins Go.Deep

theorem own : ownKnob Tryd.prog.godebug = none := by kernel_rfl
theorem laidOut : laidOutB Tryd.prog = true := by kernel_rfl

/-- An int's bounds. -/
def InI (n : Int) : Prop := -9223372036854775808 ≤ n ∧ n ≤ 9223372036854775807
theorem wf_bounds {n : Int} (h : (Lit.int .i64 n).wf = true) : InI n := by
  have h1 : IntKind.i64.min = -9223372036854775808 := rfl
  have h2 : IntKind.i64.max = 9223372036854775807 := rfl
  simp only [Lit.wf, Bool.and_eq_true, decide_eq_true_eq] at h
  exact ⟨by omega, by omega⟩

section
variable {H : Type} {enc : TypeId × Value → H} {P : Program} {w : World} {base : Nat} {spare : Nat → Bool} {held : Bool}
theorem open_struct_ints2 {r : Reach} {b0 : Nat} {t : TypeId} {f0 f1 : Field} {ti : TypeId} {v : Value} {d : DataW H} {p : List MemPlace} (hs : P.underlying t = some (.struct #[f0, f1])) (hi : P.underlying ti = some (.int .i64))
    (hone : (oneCellFields P #[f0, f1] && P.cellsOf t == 2) = true) (hf : (f0.type == ti && f1.type == ti) = true)
    (hv : Value.okWide P w r b0 t v) (h : DataW.Trod enc P w base spare held t v d p) : ∃ a b : Int, v = .agg #[.int .i64 a, .int .i64 b] ∧ InI a ∧ InI b := by
  simp only [Bool.and_eq_true, beq_iff_eq] at hone hf
  obtain ⟨c0, c1, y0, y1, n, rfl, -, -, h0, h1⟩ := open_agg2 hs hone.1 hone.2 hv h
  rw [hf.1] at h0; rw [hf.2] at h1
  obtain ⟨a, e0, -, wa⟩ := DataW.trod_int hi h0
  obtain ⟨b, e1, -, wb⟩ := DataW.trod_int hi h1
  simp at e0 e1; subst e0 e1
  exact ⟨a, b, rfl, wf_bounds wa, wf_bounds wb⟩
theorem open_struct_ints3 {r : Reach} {b0 : Nat} {t : TypeId} {f0 f1 f2 : Field} {ti : TypeId} {v : Value} {d : DataW H} {p : List MemPlace} (hs : P.underlying t = some (.struct #[f0, f1, f2])) (hi : P.underlying ti = some (.int .i64))
    (hone : (oneCellFields P #[f0, f1, f2] && P.cellsOf t == 3) = true) (hf : (f0.type == ti && f1.type == ti && f2.type == ti) = true)
    (hv : Value.okWide P w r b0 t v) (h : DataW.Trod enc P w base spare held t v d p) : ∃ a b c : Int, v = .agg #[.int .i64 a, .int .i64 b, .int .i64 c] ∧ InI a ∧ InI b ∧ InI c := by
  simp only [Bool.and_eq_true, beq_iff_eq] at hone hf
  obtain ⟨c0, c1, c2, y0, y1, y2, n, rfl, -, -, h0, h1, h2⟩ := open_agg3 hs hone.1 hone.2 hv h
  rw [hf.1.1] at h0; rw [hf.1.2] at h1; rw [hf.2] at h2
  obtain ⟨a, e0, -, wa⟩ := DataW.trod_int hi h0
  obtain ⟨b, e1, -, wb⟩ := DataW.trod_int hi h1
  obtain ⟨c, e2, -, wc⟩ := DataW.trod_int hi h2
  simp at e0 e1 e2; subst e0 e1 e2
  exact ⟨a, b, c, rfl, wf_bounds wa, wf_bounds wb, wf_bounds wc⟩
end
end Go.Proofs.YtapfnelghmnajaaDoor
