/-
  The sections of a trip, in plain words; slices of slices of ints.
-/
import Derived.Test.YtfcmfadkkfkidaaOtw1
import Derived.Test.YtfcmfadkkfkidaaHInt
import Derived.Test.YtfcmfadkkfkidaaAppend
namespace Go.Proofs.Ytfcmfadkkfkidaa
open Go.RowKit

/-! ### Plain -/
def secN (b c : Int) : Nat := (if c - b < 0 then -(c - b) else c - b).toNat
def secLo (b c k : Int) : Int := if c < b then b - k - 1 else b + k
def secRow (b c d : Int) (k : Nat) : List Int := [secLo b c k, d + 4 * k, d + 4 * k + 4]
def secK (b c d : Int) (n : Nat) : List (List Int) := (List.range n).map (secRow b c d)
def secL (b c d : Int) : List (List Int) := secK b c d (secN b c)
theorem secK_succ (b c d : Int) (n : Nat) : secK b c d (n + 1) = secK b c d n ++ [secRow b c d n] := by simp [secK, List.range_succ]
theorem secK_len (b c d : Int) (n : Nat) : (secK b c d n).length = n := by simp [secK]
theorem secK_get {b c d : Int} {n k : Nat} (hk : k < n) : (secK b c d n)[k]? = some (secRow b c d k) := by simp [secK, hk]
theorem arr_secN (b c d : Int) : arr b c d = d + 4 * (secN b c : Int) := by
  unfold arr secN
  split <;> omega
/-- When a trip from b to c enters a section, -1 if it never does. -/
def entB (b c d s : Int) : Int := if b ≤ s ∧ s < c then d + 4 * (s - b) else if c ≤ s ∧ s < b then d + 4 * (b - 1 - s) else -1
/-- The trip's k-th section is entered at its time. -/
theorem ent_lo {b c d : Int} {k : Nat} (hk : k < secN b c) : entB b c d (secLo b c k) = d + 4 * k := by
  unfold entB secLo
  unfold secN at hk
  split at hk <;> (repeat' split) <;> omega
theorem ent_iff {b c d s : Int} {k : Nat} (hd : 0 ≤ d) (hk : k < secN b c) : entB b c d s = d + 4 * k ↔ s = secLo b c k := by
  constructor
  · intro h
    unfold entB at h
    unfold secLo
    unfold secN at hk
    split at hk <;> (repeat' split at h) <;> split <;> omega
  · rintro rfl
    exact ent_lo hk
theorem ent_some {b c d s : Int} (h : 0 ≤ entB b c d s) : ∃ k, k < secN b c ∧ s = secLo b c k := by
  unfold entB at h
  split at h
  · rename_i h1
    exact ⟨(s - b).toNat, by unfold secN; split <;> omega, by unfold secLo; split <;> omega⟩
  · split at h
    · rename_i h1
      exact ⟨(b - 1 - s).toNat, by unfold secN; split <;> omega, by unfold secLo; split <;> omega⟩
    · omega
theorem lo_bd {b c : Int} {k : Nat} (hb : 0 ≤ b ∧ b ≤ 9) (hc : 0 ≤ c ∧ c ≤ 9) (hk : k < secN b c) : 0 ≤ secLo b c k ∧ secLo b c k ≤ 8 := by
  unfold secLo
  unfold secN at hk
  split at hk <;> split <;> omega
theorem secN_le {b c : Int} (hb : 0 ≤ b ∧ b ≤ 9) (hc : 0 ≤ c ∧ c ≤ 9) : secN b c ≤ 9 := by
  unfold secN
  split <;> omega

/-! ### Slices of slices of ints -/
/-- A row: where it lies, its capacity, its ints. -/
abbrev Elt := Option Addr × Nat × List Int
def fS (x : Elt) : List Value := [.slice x.1 x.2.2.length x.2.1]
def RowOk (w : World) (B : Nat) (x : Elt) : Prop := ∃ g, x.1 = some ⟨g, 0, none⟩ ∧ B ≤ g ∧ Row w g 3 (x.2.2.length * 1) ∧ Cells f1 1 w g 0 x.2.2
def Dist (M : List Elt) : Prop := ∀ (i j : Nat) (x y : Elt), M[i]? = some x → M[j]? = some y → i ≠ j → x.1 ≠ y.1
def lls (M : List Elt) : List (List Int) := M.map (·.2.2)
/-- A slice of slices, all of the call's own. -/
structure OwnSS (w : World) (B : Nat) (A : Option Addr) (M : List Elt) : Prop where
  own : OwnR fS 1 44 w B A M
  rows : ∀ x ∈ M, RowOk w B x
  dist : Dist M
/-- A slice of slices that may be read. -/
structure SlSS (w : World) (B : Nat) (A : Option Addr) (M : List Elt) : Prop where
  sl : SlR fS 1 w B A M
  rows : ∀ x ∈ M, SlR f1 1 w B x.1 x.2.2
section
variable {w w' : World} {B B' : Nat} {A : Option Addr} {M : List Elt} {x : Elt}
theorem RowOk.same (h : RowOk w B x) (he : ∀ g, x.1 = some ⟨g, 0, none⟩ → w'.heap[g]? = w.heap[g]?) : RowOk w' B x := by
  obtain ⟨g, hA, hB, ⟨cs, hr, hn⟩, hc⟩ := h
  have e := he g hA
  exact ⟨g, hA, hB, ⟨cs, e.trans hr, hn⟩, fun k y hy j u hu => (World.cell?_of_block (a := ⟨g, 0 + k * 1 + j, none⟩) e).trans (hc k y hy j u hu)⟩
theorem RowOk.lt (h : RowOk w B x) : ∃ g, x.1 = some ⟨g, 0, none⟩ ∧ B ≤ g ∧ g < w.heap.size := by
  obtain ⟨g, hA, hB, hr, hc⟩ := h
  exact ⟨g, hA, hB, hr.lt⟩
theorem RowOk.next (h : RowOk w B x) (hb : Below w.heap.size w w') : RowOk w' B x := by
  obtain ⟨g, hA, hB, hr, hc⟩ := h
  exact ⟨g, hA, hB, hr.below' hb, hc.below hb hr.lt⟩
theorem RowOk.mono (h : RowOk w B x) (hB : B' ≤ B) : RowOk w B' x := by
  obtain ⟨g, hA, hg, hr, hc⟩ := h
  exact ⟨g, hA, Nat.le_trans hB hg, hr, hc⟩
theorem RowOk.sl (h : RowOk w B x) : SlR f1 1 w w.heap.size x.1 x.2.2 := fun _ => by
  obtain ⟨g, hA, hg, hr, hc⟩ := h
  exact ⟨g, 0, hA, hr.lt, hc⟩
theorem RowOk.own (h : RowOk w B x) : OwnR f1 1 3 w B x.1 x.2.2 := fun _ => h
theorem OwnSS.next (h : OwnSS w B A M) (hb : Below w.heap.size w w') : OwnSS w' B A M := ⟨h.own.next hb, fun x hx => (h.rows x hx).next hb, h.dist⟩
theorem OwnSS.mono (h : OwnSS w B A M) (hB : B' ≤ B) : OwnSS w B' A M := ⟨h.own.mono hB, fun x hx => (h.rows x hx).mono hB, h.dist⟩
theorem OwnSS.sl (h : OwnSS w B A M) : SlSS w w.heap.size A M := ⟨h.own.sl, fun x hx => (h.rows x hx).sl⟩
theorem OwnSS.nil : OwnSS w B A [] := ⟨OwnR.nil, fun x hx => by simp at hx, fun i j x y hx => by simp at hx⟩
theorem SlSS.below (h : SlSS w B A M) (hb : Below B w w') : SlSS w' B A M := ⟨h.sl.below hb, fun x hx => (h.rows x hx).below hb⟩
theorem SlSS.mono (h : SlSS w B A M) (hB : B ≤ B') : SlSS w B' A M := ⟨h.sl.mono hB, fun x hx => (h.rows x hx).mono hB⟩
theorem SlSS.next (h : SlSS w w.heap.size A M) (hb : Below w.heap.size w w') : SlSS w' w'.heap.size A M := (h.below hb).mono hb.size
end
/-- A callee that hands back a new slice of slices. -/
def NewSS (w : World) (LL : List (List Int)) (e : Ending) (w' : World) : Prop :=
  ∃ A c M, e = .returned (.slice A M.length c) ∧ lls M = LL ∧ OwnSS w' w.heap.size A M ∧ Below w.heap.size w w'
def NewSS2 (w : World) (LL : List (List Int)) (u : Bool) (e : Ending) (w' : World) : Prop :=
  ∃ A c M, e = .returned (.tuple #[.slice A M.length c, .bool u]) ∧ lls M = LL ∧ OwnSS w' w.heap.size A M ∧ Below w.heap.size w w'
theorem infoRow : (Try.prog.info? 44).map (fun i => (i.zero, i.size, i.bytes)) = some (some (.slice none 0 0), 1, 24) := by kernel_rfl

/-! ### A list of rows, gathered by append -/
/-- The rows so far: v is the call's own slice of them. -/
structure GathS (w : World) (B : Nat) (v : Value) (M : List Elt) : Prop where
  g : Gath fS 1 44 w B v M
  rows : ∀ x ∈ M, RowOk w B x
  dist : Dist M
theorem Gath.ownTy {α : Type} {f : α → List Value} {m : Nat} {t : TypeId} {w : World} {B : Nat} {v : Value} {L : List α} (h : Gath f m t w B v L) : ∀ k, v.ownBlock = some k → B ≤ k ∧ ∃ cs, w.heap[k]? = some (.cells cs t (0, 0)) := by
  intro k hk
  obtain ⟨_, ⟨hv, _⟩ | ⟨g, cap, cur, hv, hB', hh, _⟩⟩ := h
  · subst hv; simp [Value.ownBlock] at hk
  · subst hv
    simp [Value.ownBlock] at hk
    subst hk
    exact ⟨hB', cur, hh⟩
theorem ne_ty {w : World} {g k : Nat} {t t' : TypeId} {n : Nat} {cs : Array Value} (hr : Row w g t n) (hk : w.heap[k]? = some (.cells cs t' (0, 0))) (hne : t ≠ t') : g ≠ k := by
  intro e
  subst e
  obtain ⟨cs', h, _⟩ := hr
  rw [h] at hk
  injection hk with hk
  injection hk with _ ht
  exact hne ht
section
variable {w w' : World} {B : Nat} {v v' : Value} {M : List Elt} {x : Elt}
theorem GathS.made (hb : B ≤ w.heap.size) : GathS (w.alloc (.cells #[] 44 (0, 0))) B (.slice (some ⟨w.heap.size, 0, none⟩) 0 0) [] := ⟨Gath.made hb, fun x hx => by simp at hx, fun i j x y hx => by simp at hx⟩
theorem GathS.nil : GathS w B (.slice none 0 0) [] := ⟨Gath.nil, fun x hx => by simp at hx, fun i j x y hx => by simp at hx⟩
theorem GathS.below (h : GathS w B v M) (hb : Below w.heap.size w w') : GathS w' B v M := ⟨h.g.below hb, fun x hx => (h.rows x hx).next hb, h.dist⟩
/-- A row x, whose block is newer than those so far, is appended; only the outer block may have turned. -/
theorem GathS.snoc (h : GathS w B v M) (hn : w'.ownsRow B 44 1 v' (M.length + 1) (M.flatMap fS ++ fS x)) (hg : w.grownBy w' v.ownBlock) (hx : RowOk w B x) (hnew : ∀ y ∈ M, y.1 ≠ x.1) : GathS w' B v' (M ++ [x]) := by
  have hkeep : ∀ y, RowOk w B y → RowOk w' B y := fun y hy => by
    refine hy.same fun g hA => ?_
    obtain ⟨g', hA', hB', hr, hc⟩ := hy
    rw [hA] at hA'; cases hA'
    refine hg.block g hr.lt (fun e => ?_)
    obtain ⟨_, cs, hk⟩ := h.g.ownTy g e.symm
    exact ne_ty hr hk (by decide) rfl
  refine ⟨Gath.snoc hn, fun y hy => ?_, fun i j y z hy hz hij => ?_⟩
  · rcases List.mem_append.1 hy with hy | hy
    · exact hkeep y (h.rows y hy)
    · rw [List.mem_singleton] at hy; subst hy; exact hkeep y hx
  · by_cases hi : i < M.length
    · rw [List.getElem?_append_left hi] at hy
      by_cases hj : j < M.length
      · rw [List.getElem?_append_left hj] at hz
        exact h.dist i j y z hy hz hij
      · rw [List.getElem?_append_right (by omega)] at hz
        have : z = x := by
          rcases Nat.eq_zero_or_pos (j - M.length) with e | e
          · rw [e] at hz; simpa using hz.symm
          · rw [List.getElem?_eq_none (by simp; omega)] at hz; cases hz
        subst this
        exact hnew y (List.mem_of_getElem? hy)
    · rw [List.getElem?_append_right (by omega)] at hy
      have hyx : y = x := by
        rcases Nat.eq_zero_or_pos (i - M.length) with e | e
        · rw [e] at hy; simpa using hy.symm
        · rw [List.getElem?_eq_none (by simp; omega)] at hy; cases hy
      have hi0 : i = M.length := by
        rcases Nat.eq_zero_or_pos (i - M.length) with e | e
        · omega
        · rw [List.getElem?_eq_none (by simp; omega)] at hy; cases hy
      subst hyx
      by_cases hj : j < M.length
      · rw [List.getElem?_append_left hj] at hz
        exact fun e => hnew z (List.mem_of_getElem? hz) e.symm
      · rw [List.getElem?_append_right (by omega)] at hz
        rw [List.getElem?_eq_none (by simp; omega)] at hz; cases hz
theorem GathS.own (h : GathS w B v M) : ∃ A c, v = .slice A M.length c ∧ OwnSS w B A M := by
  obtain ⟨A, c, hv, ho⟩ := Gath.own (f := fS) (m := 1) (fun _ => rfl) h.g
  exact ⟨A, c, hv, ho, h.rows, h.dist⟩
end
theorem lls_snoc (M : List Elt) (x : Elt) : lls (M ++ [x]) = lls M ++ [x.2.2] := by simp [lls]
theorem lls_len (M : List Elt) : (lls M).length = M.length := by simp [lls]
/-- A new literal row. -/
theorem RowOk.lit (w : World) (L : List Int) (B : Nat) (hB : B ≤ w.heap.size) : RowOk (w.alloc (.cells (L.map (Value.int .i64)).toArray 3)) B (some ⟨w.heap.size, 0, none⟩, L.length, L) := by
  have hk := Blk.new w 3 (L.map (Value.int .i64)).toArray
  refine ⟨w.heap.size, rfl, hB, ⟨_, hk, by simp⟩, fun k y hy j u hu => ?_⟩
  have hj : j = 0 := by
    have := (List.getElem?_eq_some_iff.1 hu).1
    simp [f1] at this; omega
  subst hj
  simp [f1] at hu
  subst hu
  rw [Nat.zero_add, Nat.mul_one, Nat.add_zero, hk.cell]
  simp [hy]
end Go.Proofs.Ytfcmfadkkfkidaa
