/-
  Contracts of the laws' helpers on slices of structs of one slice of ints.
-/
import Derived.Test.YtapfnelghmnajaaOpenSs
import Derived.Test.YtapfnelghmnajaaHSample
import Derived.Test.YtapfnelghmnajaaHIntC
import Derived.Test.YtapfnelghmnajaaSmp2
import Derived.Test.YtapfnelghmnajaaRegion
import Derived.WalkKit
import Derived.WalkSpells
import Derived.WalkLawsBesides
import Derived.Lib.Hide
import Derived.Deep.QuietTactic
import Derived.BigQuiet
import Derived.StillTailTactics
namespace Go.Proofs.Ytapfnelghmnajaa
open Go.RowKit

/-! ### A slice of samples, all of the call's own -/
theorem ne_rows {w : World} {g k : Nat} {t t' : TypeId} {n n' : Nat} (hr : Row w g t n) (hk : Row w k t' n') (hne : t ≠ t') : g ≠ k := by
  intro e
  subst e
  obtain ⟨cs, h, _⟩ := hr
  obtain ⟨cs', h', _⟩ := hk
  rw [h] at h'
  injection h' with h'
  injection h' with _ ht
  exact hne ht
def DistM (M : List Smp) : Prop := ∀ (i j : Nat) (x y : Smp), M[i]? = some x → M[j]? = some y → i ≠ j → x.2.2 ≠ [] → y.2.2 ≠ [] → x.1 ≠ y.1
structure OwnSm (w : World) (B : Nat) (A : Option Addr) (M : List Smp) : Prop where
  own : OwnR fM 1 30 w B A M
  rows : ∀ x ∈ M, OwnR f1 1 3 w B x.1 x.2.2
  dist : DistM M
section
variable {w w' : World} {B B' : Nat} {A : Option Addr} {M : List Smp}
theorem OwnSm.next (h : OwnSm w B A M) (hb : Below w.heap.size w w') : OwnSm w' B A M := ⟨h.own.next hb, fun x hx => (h.rows x hx).next hb, h.dist⟩
theorem OwnSm.sl (h : OwnSm w B A M) : SlSm w w.heap.size A M := ⟨h.own.sl, fun x hx => (h.rows x hx).sl⟩
end
/-- The same, said of what it reads as; its rows lie below block B2. -/
def OwnT (w : World) (B B2 : Nat) (A : Option Addr) (T : List (List Int)) : Prop := ∃ M, smls M = T ∧ OwnSm w B A M ∧ ∀ x ∈ M, x.2.2 ≠ [] → ∀ a, x.1 = some a → a.block < B2
theorem OwnT.next {w w' : World} {B B2 : Nat} {A : Option Addr} {T : List (List Int)} (h : OwnT w B B2 A T) (hb : Below w.heap.size w w') : OwnT w' B B2 A T := by
  obtain ⟨M, h1, h2, h3⟩ := h; exact ⟨M, h1, h2.next hb, h3⟩
theorem OwnT.sl {w : World} {B B2 : Nat} {A : Option Addr} {T : List (List Int)} (h : OwnT w B B2 A T) : SlT w w.heap.size A T := by
  obtain ⟨M, h1, h2, _⟩ := h; exact ⟨M, h1, h2.sl⟩
theorem OwnSm.t {w : World} {B : Nat} {A : Option Addr} {M : List Smp} (h : OwnSm w B A M) : OwnT w B w.heap.size A (smls M) := ⟨M, rfl, h, fun x hx hn a ha => by
  obtain ⟨g, hA, _, hr, _⟩ := h.rows x hx hn
  rw [hA] at ha
  cases ha
  exact hr.lt⟩

/-- Only the blocks from lo up to hi have turned. -/
structure Rng (lo hi : Nat) (w w' : World) : Prop where
  os : w'.os = w.os
  tape : w'.tape = w.tape
  output : w'.output = w.output
  size : w'.heap.size = w.heap.size
  block : ∀ k, (k < lo ∨ hi ≤ k) → w'.heap[k]? = w.heap[k]?
theorem Rng.refl (lo hi : Nat) (w : World) : Rng lo hi w w := ⟨rfl, rfl, rfl, rfl, fun _ _ => rfl⟩
theorem Rng.trans {lo hi : Nat} {a b c : World} (h : Rng lo hi a b) (k : Rng lo hi b c) : Rng lo hi a c :=
  ⟨k.os.trans h.os, k.tape.trans h.tape, k.output.trans h.output, k.size.trans h.size, fun i hi => (k.block i hi).trans (h.block i hi)⟩
theorem Rng.only {lo hi : Nat} {A : Option Addr} {w w' : World} (h : Only A w w') (hA : ∀ a, A = some a → lo ≤ a.block ∧ a.block < hi) : Rng lo hi w w' :=
  ⟨h.os, h.tape, h.output, h.size, fun k hk => h.block k fun a ha => by have := hA a ha; omega⟩
theorem Rng.below {lo hi : Nat} {w w' : World} (h : Rng lo hi w w') : Below lo w w' := ⟨h.os, h.tape, h.output, by rw [h.size]; exact Nat.le_refl _, fun k hk => h.block k (.inl hk)⟩
theorem OwnR.rng {α : Type} {f : α → List Value} {m : Nat} {t : TypeId} {w w' : World} {B lo hi : Nat} {A : Option Addr} {L : List α} (h : OwnR f m t w B A L) (hr : Rng lo hi w w') (hB : hi ≤ B) : OwnR f m t w' B A L := fun hn => by
  obtain ⟨g, hA, hg, ⟨cs, h1, hcs⟩, hc⟩ := h hn
  have hb : w'.heap[g]? = w.heap[g]? := hr.block g (.inr (by omega))
  exact ⟨g, hA, hg, ⟨cs, hb.trans h1, hcs⟩, fun k x hx j u hu => (World.cell?_of_block (a := ⟨g, 0 + k * m + j, none⟩) hb).trans (hc k x hx j u hu)⟩

theorem OwnT.keep {β : Type} {f' : β → List Value} {m' B B2 : Nat} {L' : List β} {A A' : Option Addr} {T : List (List Int)} {w w' wx : World} (h : OwnT w B B2 A T) (ho : Only A' w w') (h0 : L' = [] → w = w') (hs : SlR f' m' wx B A' L') : OwnT w' B B2 A T := by
  obtain ⟨M, h1, h2, h3⟩ := h
  exact ⟨M, h1, ⟨h2.own.keep ho h0 hs, fun x hx => (h2.rows x hx).keep ho h0 hs, h2.dist⟩, h3⟩

/-! ### The size of such a slice -/
def sumT (T : List (List Int)) (k : Nat) : Nat := ((T.take k).map List.length).sum
def wt (T : List (List Int)) : Nat := T.length + sumT T T.length
theorem sumT_succ {T : List (List Int)} {k : Nat} {l : List Int} (hl : T[k]? = some l) : sumT T (k + 1) = sumT T k + l.length := by
  unfold sumT
  rw [List.take_add_one, hl]
  simp
theorem sumT_zero (T : List (List Int)) : sumT T 0 = 0 := by simp [sumT]
theorem sumT_mono (T : List (List Int)) (k : Nat) : sumT T k ≤ sumT T (k + 1) := by
  cases h : T[k]? with
  | none =>
    unfold sumT
    rw [List.take_add_one, h]; simp
  | some l => rw [sumT_succ h]; omega
theorem sumT_le (T : List (List Int)) {k n : Nat} (h : k ≤ n) : sumT T k ≤ sumT T n := by
  induction n with
  | zero => obtain rfl : k = 0 := by omega
            exact Nat.le_refl _
  | succ n ih =>
    by_cases e : k = n + 1
    · rw [e]; exact Nat.le_refl _
    · exact Nat.le_trans (ih (by omega)) (sumT_mono T n)
theorem sumT_mem {T : List (List Int)} {l : List Int} (h : l ∈ T) : l.length ≤ wt T := by
  obtain ⟨k, hk, rfl⟩ := List.getElem_of_mem h
  have h1 := sumT_succ (T := T) (k := k) (l := T[k]) (List.getElem?_eq_getElem hk)
  have h2 := sumT_le T (show k + 1 ≤ T.length by omega)
  unfold wt; omega
theorem wt_len (T : List (List Int)) : T.length ≤ wt T := by unfold wt; omega
theorem smls_get {M : List Smp} {k : Nat} {x : Smp} (h : M[k]? = some x) : (smls M)[k]? = some x.2.2 := by simp [smls, h]

set_option maxHeartbeats 4000000 in
theorem szSampleS_any (A : Option Addr) (c : Nat) (T : List (List Int)) (left : Int) (w : World) (h : SlT w w.heap.size A T) (h1 : (T.length : Int) ≤ 9223372036854775807) (hl : ∀ l ∈ T, InIT l) (h2 : 0 ≤ left) (h3 : left ≤ 1048576) :
    Calls Try.prog 36 #[.slice A T.length c, .int .i64 left] w fun e w' => e = .returned (.int .i64 (szV left (wt T))) ∧ Below w.heap.size w w' := by
  obtain ⟨M, hM, hs⟩ := h
  have HM := Lib.hid hM
  have HS := Lib.hid hs
  have HL := Lib.hid hl
  clear hs hl
  have hTl : T.length = M.length := by rw [← hM, smls_len]
  clear hM
  have HW := Lib.hid (show wt T = T.length + sumT T T.length from rfl)
  by_cases h0 : left - (T.length : Int) < 0
  · have Hv := Lib.hid (show szV left (wt T) = -1 from if_pos (by have := HW.out; omega))
    clear HM HS HL hTl HW
    go_enter Try.func36, Try.ntmps36
    go_wp2
    go_ret
    exact ⟨by rw [Hv.out]; rfl, Below.refl _ _⟩
  · rw [hTl] at h0 h1 ⊢
    have HTl := Lib.hid hTl
    clear hTl
    go_enter Try.func36, Try.ntmps36
    go_wp2
    go_loopw [1, 5] (fun v1 v4 wr => ∃ k : Nat, v4 = .int .i64 k ∧ k ≤ M.length ∧ v1 = .int .i64 (left - M.length - sumT T k) ∧ Hid ((sumT T k : Int) ≤ left - M.length) ∧ Below w.heap.size w wr) (fun _ v4 _ => (M.length - intOf v4).toNat)
    case atStart => exact ⟨0, rfl, by omega, by rw [sumT_zero]; congr 1; simp, by rw [sumT_zero]; show (_ : Int) ≤ _; omega, Below.refl _ _⟩
    case round =>
      obtain ⟨k, rfl, hk, rfl, hle, hb⟩ := hrel
      by_cases hlt : k < M.length
      · have hx : M[k]? = some M[k] := List.getElem?_eq_getElem hlt
        generalize M[k] = x at hx
        obtain ⟨b, off, rfl, hB, hC⟩ := HS.out.sl (SlR.ne hx)
        have c0 := cellM (hC.below hb hB) hx
        have hxT : T[k]? = some x.2.2 := by rw [← HM.out]; exact smls_get hx
        have hxl := (HL.out _ (List.mem_of_getElem? hxT)).1
        have HT := Lib.hid (sumT_succ hxT)
        have hk0 : (0 : Int) ≤ (k : Int) := by omega
        have hk1 : (k : Int) < (M.length : Int) := by omega
        have hle0 := hle.out
        have HN := Lib.hid (sumT_le T (show k + 1 ≤ T.length by have := HTl.out; omega))
        clear hC hx hxT
        by_cases hn : left - M.length - sumT T k - x.2.2.length < 0
        · have Hv := Lib.hid (show szV (left - M.length - sumT T k) x.2.2.length = -1 from if_pos hn)
          have Hw := Lib.hid (show szV left (wt T) = -1 from if_pos (by have := HW.out; have := HT.out; have := HN.out; have := HTl.out; omega))
          go_wp2_with fail
          refine (szSample_any _ _ _ _ _ hxl (by omega) (by omega)).mono ?_; rintro e w2 ⟨rfl, hb2⟩
          rw [Hv.out]
          have hb3 := hb.trans (hb2.mono hb.size)
          go_wp2
          go_ret
          exact ⟨by rw [Hw.out]; rfl, hb3⟩
        · have Hv := Lib.hid (show szV (left - M.length - sumT T k) x.2.2.length = left - M.length - sumT T k - x.2.2.length from if_neg hn)
          go_wp2_with fail
          refine (szSample_any _ _ _ _ _ hxl (by omega) (by omega)).mono ?_; rintro e w2 ⟨rfl, hb2⟩
          rw [Hv.out]
          have hb3 := hb.trans (hb2.mono hb.size)
          clear hb hb2
          go_wp2
          go_roundw
          case rel => exact ⟨k + 1, by go_num, by omega, congrArg (Value.int .i64) (by have := HT.out; omega), by have := HT.out; show (_ : Int) ≤ _; omega, hb3⟩
          case measure => simp only [intOf]; omega
      · obtain rfl : k = M.length := by omega
        have Hw := Lib.hid (show szV left (wt T) = left - M.length - sumT T M.length by
          have h1 := HW.out
          have h2 := HTl.out
          rw [h2] at h1
          have h3 := hle.out
          unfold szV
          rw [if_neg (by omega), h1]
          omega)
        go_wp2
        go_ret
        exact ⟨by rw [Hw.out]; rfl, hb⟩

/-! ### A copy of it -/
theorem cells_push {α : Type} {f : α → List Value} {m g n : Nat} {t : TypeId} {w : World} {N : List α} {x : α} (hr : Row w g t n) (h : Cells f m w g 0 N) (hf : ∀ x, (f x).length = m) (hn : N.length * m + m ≤ n) : Cells f m (w.setCells g (N.length * m) (f x)) g 0 (N ++ [x]) := by
  have h1 := cells_store (k := N.length) (x := x) (L := N ++ [x]) hr (by simpa using h) hf (by simp) hn
  have : (N ++ [x]).take (N.length + 1) = N ++ [x] := List.take_of_length_le (by simp)
  rw [this] at h1
  exact h1
theorem infoSample : (Try.prog.info? 30).map (fun i => (i.zero, i.size, i.bytes)) = some (some (.agg #[.slice none 0 0]), 1, 24) := by kernel_rfl
/-- A callee that hands back a new slice of samples. -/
def NewT (w : World) (T : List (List Int)) (e : Ending) (w' : World) : Prop :=
  ∃ A c, e = .returned (.slice A T.length c) ∧ OwnT w' w.heap.size w'.heap.size A T ∧ Below w.heap.size w w' ∧ T.length ≤ c
theorem smls_snoc (M : List Smp) (x : Smp) : smls (M ++ [x]) = smls M ++ [x.2.2] := by simp [smls]
theorem dist_snoc {M : List Smp} {x : Smp} (h : DistM M) (hx : ∀ y ∈ M, y.2.2 ≠ [] → x.2.2 ≠ [] → y.1 ≠ x.1) : DistM (M ++ [x]) := by
  intro i j y z hy hz hij hny hnz
  have key : ∀ (i : Nat) (y : Smp), (M ++ [x])[i]? = some y → M[i]? = some y ∧ i < M.length ∨ y = x ∧ i = M.length := by
    intro i y hy
    by_cases hi : i < M.length
    · rw [List.getElem?_append_left hi] at hy
      exact .inl ⟨hy, hi⟩
    · rw [List.getElem?_append_right (by omega)] at hy
      have h0 : i - M.length = 0 := by
        have := (List.getElem?_eq_some_iff.1 hy).1
        simp at this; omega
      rw [h0] at hy
      exact .inr ⟨by simpa using hy.symm, by omega⟩
  rcases key i y hy with ⟨h1, l1⟩ | ⟨rfl, l1⟩ <;> rcases key j z hz with ⟨h2, l2⟩ | ⟨rfl, l2⟩
  · exact h i j y z h1 h2 hij hny hnz
  · exact hx y (List.mem_of_getElem? h1) hny hnz
  · exact (hx z (List.mem_of_getElem? h2) hnz hny).symm
  · omega

set_option maxHeartbeats 4000000 in
theorem toSampleSc_any (A : Option Addr) (c : Nat) (T : List (List Int)) (w : World) (h : SlT w w.heap.size A T) (hm : (wt T : Int) ≤ 1048576) :
    Calls Try.prog 38 #[.slice A T.length c] w (NewT w T) := by
  obtain ⟨M, hM, hs⟩ := h
  have HM := Lib.hid hM
  have HS := Lib.hid hs
  clear hs
  have hTl : T.length = M.length := by rw [← hM, smls_len]
  clear hM
  obtain ⟨i0, hi, hz0, hz1, hz2⟩ := info_parts infoSample
  have hMm : (M.length : Int) ≤ 1048576 := by have := wt_len T; omega
  have HWT := Lib.hid hm
  clear hm
  have hb2 : i0.bytes * M.length ≤ 281474976710656 := by rw [hz2]; omega
  have hml : M.length ≤ maxLen := by unfold maxLen; omega
  have HTl := Lib.hid hTl
  rw [hTl]
  clear hTl
  go_enter Try.func38, Try.ntmps38
  go_wp2_with (refine wpList_make_full _ rfl _ _ 49 rfl w.heap.size 30 i0 (.agg #[.slice none 0 0]) 1 Try.underlying49 hi hz0 hz1 .i64 .i64 _ _ M.length rfl rfl rfl rfl hb2 hml (Nat.le_refl _) ?_; intro w1 hown hgrow)
  have hrow := row_of_own hown
  have hb0 := below_grown hgrow (fun k h => by cases h)
  clear hown hgrow hb2 hml hi hz0 hz1 hz2
  generalize hg : w.heap.size = g at *
  have Hg := Lib.hid hg; clear hg
  go_loopw [4] (fun i wr => ∃ (k : Nat) (N : List Smp), i = .int .i64 k ∧ k ≤ M.length ∧ Hid (N.length = k) ∧ Hid (smls N = T.take k) ∧ Row wr g 30 (M.length * 1) ∧ Hid (Cells fM 1 wr g 0 N) ∧ Hid (∀ x ∈ N, OwnR f1 1 3 wr (g + 1) x.1 x.2.2) ∧ Hid (DistM N) ∧ Below g w wr) (fun i _ => (M.length - intOf i).toNat)
  case atStart => exact ⟨0, [], rfl, by omega, rfl, by rw [List.take_zero]; rfl, hrow, fun k x hx => by simp at hx, fun x hx => by simp at hx, fun i j x y hx => by simp at hx, hb0⟩
  case round =>
    obtain ⟨k, N, rfl, hk, hNl, hNT, hR, hC, hRw, hD, hb⟩ := hrel
    by_cases hlt : k < M.length
    · have hx : M[k]? = some M[k] := List.getElem?_eq_getElem hlt
      generalize M[k] = x at hx
      obtain ⟨b, off, rfl, hB, hcs⟩ := HS.out.sl (SlR.ne hx)
      have hBg : b < g := hB
      have c0 := cellM (hcs.below hb hBg) hx
      have hk0 : (0 : Int) ≤ (k : Int) := by omega
      have hk1 : (k : Int) < (M.length : Int) := by omega
      have hxT : T[k]? = some x.2.2 := by rw [← HM.out]; exact smls_get hx
      have hxl : (x.2.2.length : Int) ≤ 1048576 := by have := sumT_mem (List.mem_of_getElem? hxT); have := HWT.out; omega
      have HXT := Lib.hid hxT
      have zg : g < wr.heap.size := hR.lt
      have HRX := Lib.hid (((HS.out.rows x (List.mem_of_getElem? hx)).below hb).mono (Nat.le_of_lt zg))
      clear hcs hx hxT
      go_wp2_with fail
      refine (toSample_any _ _ _ _ HRX.out hxl).mono ?_; rintro e w2 ⟨A1, c1, rfl, o1, hb2⟩
      have hR2 := hR.below' hb2
      obtain ⟨v0, d0⟩ := hR2.cell (j := k) (by omega)
      have fz := hR2.frozen
      have hb3 : Below g w (w2.setCells g (k * 1) (fM (A1, c1, x.2.2))) := below_sets (Nat.le_refl _) _ _ (hb.trans (hb2.mono (by omega)))
      have hR3 := Row.sets g (fM (A1, c1, x.2.2)) (k * 1) hR2
      have hC3 : Hid (Cells fM 1 (w2.setCells g (k * 1) (fM (A1, c1, x.2.2))) g 0 (N ++ [(A1, c1, x.2.2)])) := by
        have := cells_push (x := (A1, c1, x.2.2)) hR2 (hC.out.below hb2 zg) (fun _ => rfl) (by have := hNl.out; omega)
        rw [hNl.out] at this
        exact this
      have hRw3 : Hid (∀ y ∈ N ++ [(A1, c1, x.2.2)], OwnR f1 1 3 (w2.setCells g (k * 1) (fM (A1, c1, x.2.2))) (g + 1) y.1 y.2.2) := fun y hy => by
        have hy2 : OwnR f1 1 3 w2 (g + 1) y.1 y.2.2 := by
          rcases List.mem_append.1 hy with hy | hy
          · exact (hRw.out y hy).next hb2
          · rw [List.mem_singleton] at hy; subst hy
            exact o1.mono (by omega)
        exact hy2.farBelow (p := ⟨g, k * 1, none⟩) (u := .slice A1 x.2.2.length c1) (by show g < g + 1; omega)
      have hD3 : Hid (DistM (N ++ [(A1, c1, x.2.2)])) := dist_snoc hD.out fun y hy hny hnx e => by
        obtain ⟨g1, h1, hg1, hr1, _⟩ := hRw.out y hy hny
        obtain ⟨g2, h2, hg2, hr2, _⟩ := o1 hnx
        have e2 : A1 = y.1 := e.symm
        rw [h2, h1] at e2
        cases e2
        have := hr1.lt
        omega
      have hN3 : Hid ((N ++ [(A1, c1, x.2.2)]).length = k + 1) := by rw [List.length_append, hNl.out]; rfl
      have hT3 : Hid (smls (N ++ [(A1, c1, x.2.2)]) = T.take (k + 1)) := by
        rw [smls_snoc, hNT.out, List.take_add_one, HXT.out]; rfl
      rw [Nat.mul_one] at hC3 hb3 hR3 hRw3
      clear hb hb2 o1 hC hRw hD hNl hNT HRX
      go_wp2
      go_roundw
      case rel => exact ⟨k + 1, N ++ [(A1, c1, x.2.2)], by go_num, by omega, hN3, hT3, hR3, hC3, hRw3, hD3, hb3⟩
      case measure => simp only [intOf]; omega
    · have hkM : k = M.length := by omega
      have HT9 := Lib.hid (show smls N = T by rw [hNT.out]; exact List.take_of_length_le (by have := HTl.out; omega))
      subst hkM
      have HN9 := Lib.hid (show OwnSm wr g (some ⟨g, 0, none⟩) N from ⟨fun _ => ⟨g, rfl, Nat.le_refl _, by rw [hNl.out]; exact hR, hC.out⟩, fun x hx => (hRw.out x hx).mono (by omega), hD.out⟩)
      clear hR hC hRw hD hNT
      go_wp2
      go_ret
      exact ⟨some ⟨g, 0, none⟩, M.length, by rw [HTl.out]; rfl, by rw [Hg.out, ← HT9.out]; exact HN9.out.t, by rw [Hg.out]; exact hb, by have := HTl.out; omega⟩

/-! ### The marks -/
set_option maxHeartbeats 4000000 in
theorem markSampleS_any (A : Option Addr) (c B B2 : Nat) (T : List (List Int)) (k0 : Int) (w : World) (h : OwnT w B B2 A T) (hT : (wt T : Int) ≤ 1048576) (h0 : 0 ≤ k0) (h1 : k0 ≤ 100000000) :
    Calls Try.prog 41 #[.slice A T.length c, .int .i64 k0] w fun e w' => e = .returned (.int .i64 (k0 + sumT T T.length)) ∧ Rng B B2 w w' := by
  obtain ⟨M, hM, hs, hB⟩ := h
  have HM := Lib.hid hM
  have HS := Lib.hid hs
  have HB2 := Lib.hid hB
  clear hs hB
  have hTl : T.length = M.length := by rw [← hM, smls_len]
  clear hM
  have hMm : (M.length : Int) ≤ 1048576 := by have := wt_len T; omega
  have HST := Lib.hid (show (sumT T T.length : Int) ≤ 1048576 by unfold wt at hT; omega)
  have HWT := Lib.hid hT
  clear hT
  rw [hTl] at HST ⊢
  have HTl := Lib.hid hTl
  clear hTl
  go_enter Try.func41, Try.ntmps41
  go_wp2
  go_loopw [1, 5] (fun v1 v5 wr => ∃ k : Nat, v5 = .int .i64 k ∧ k ≤ M.length ∧ v1 = .int .i64 (k0 + sumT T k) ∧ Hid (OwnR fM 1 30 wr B A M) ∧ Hid (∀ (j : Nat) (x : Smp), M[j]? = some x → k ≤ j → OwnR f1 1 3 wr B x.1 x.2.2) ∧ Rng B B2 w wr) (fun _ v5 _ => (M.length - intOf v5).toNat)
  case atStart => exact ⟨0, rfl, by omega, by rw [sumT_zero]; congr 1; simp, HS.out.own, fun j x hx _ => HS.out.rows x (List.mem_of_getElem? hx), Rng.refl _ _ _⟩
  case round =>
    obtain ⟨k, rfl, hk, rfl, hO, hR, hb⟩ := hrel
    have hsk : (sumT T k : Int) ≤ 1048576 := by have := sumT_le T (show k ≤ M.length from hk); have := HST.out; omega
    by_cases hlt : k < M.length
    · have hx : M[k]? = some M[k] := List.getElem?_eq_getElem hlt
      generalize M[k] = x at hx
      have HX := Lib.hid hx
      have HRow := Lib.hid (hR.out k x hx (Nat.le_refl k))
      obtain ⟨b, off, rfl, hbB, hC⟩ := hO.out.sl (SlR.ne hx)
      have c0 := cellM hC hx
      have hxT : T[k]? = some x.2.2 := by rw [← HM.out]; exact smls_get hx
      have hxl : (x.2.2.length : Int) ≤ 1048576 := by have := sumT_mem (List.mem_of_getElem? hxT); have := HWT.out; omega
      have HT2 := Lib.hid (sumT_succ hxT)
      have hk0 : (0 : Int) ≤ (k : Int) := by omega
      have hk1 : (k : Int) < (M.length : Int) := by omega
      clear hC hx hxT
      go_wp2_with fail
      refine (markIntS_any x.1 x.2.1 B x.2.2 _ _ HRow.out hxl (by omega) (by omega)).mono ?_; rintro e w2 ⟨rfl, ho2, hon, hz⟩
      have hrng : Hid (Rng B B2 wr w2) := by
        by_cases hn : x.2.2 = []
        · rw [← hz hn]; exact Rng.refl _ _ _
        · refine Rng.only hon fun a ha => ?_
          obtain ⟨g, hA, hg, _⟩ := HRow.out hn
          refine ⟨?_, HB2.out x (List.mem_of_getElem? HX.out) hn a ha⟩
          rw [hA] at ha; cases ha; exact hg
      have hO2 : Hid (OwnR fM 1 30 w2 B (some ⟨b, off, none⟩) M) := by
        by_cases hn : x.2.2 = []
        · rw [← hz hn]; exact hO.out
        · obtain ⟨g1, hA1, _, hr1, _⟩ := HRow.out hn
          obtain ⟨g2, hA2, _, hr2, _⟩ := hO.out (SlR.ne HX.out)
          refine hO.out.only hon fun a a' ha ha' => ?_
          rw [hA2] at ha; rw [hA1] at ha'
          cases ha; cases ha'
          exact ne_rows hr2 hr1 (by decide)
      have hR2 : Hid (∀ (j : Nat) (y : Smp), M[j]? = some y → k + 1 ≤ j → OwnR f1 1 3 w2 B y.1 y.2.2) := fun j y hy hj => by
        by_cases hn : x.2.2 = []
        · rw [← hz hn]; exact hR.out j y hy (by omega)
        · by_cases hny : y.2.2 = []
          · rw [hny]; exact OwnR.nil
          · have hne := HS.out.dist j k y x hy HX.out (by omega) hny hn
            obtain ⟨g1, hA1, _, hr1, _⟩ := HRow.out hn
            obtain ⟨g2, hA2, _, hr2, _⟩ := hR.out j y hy (by omega) hny
            refine (hR.out j y hy (by omega)).only hon fun a a' ha ha' => ?_
            rw [hA2] at ha; rw [hA1] at ha'
            cases ha; cases ha'
            intro e
            exact hne (by rw [hA1, hA2]; exact congrArg (fun g => some (⟨g, 0, none⟩ : Addr)) e)
      have hb2 := hb.trans hrng.out
      clear hO hR ho2 hon hz hb hrng
      go_wp2
      go_roundw
      case rel => exact ⟨k + 1, by go_num, by omega, congrArg (Value.int .i64) (by have := HT2.out; omega), hO2, hR2, hb2⟩
      case measure => simp only [intOf]; omega
    · obtain rfl : k = M.length := by omega
      go_wp2
      go_ret
      exact ⟨rfl, hb⟩

/-! ### The same twice -/
theorem smls_same {M N : List Smp} (h : smls M = smls N) {k : Nat} {x y : Smp} (hx : M[k]? = some x) (hy : N[k]? = some y) : x.2.2 = y.2.2 := by
  have h1 := smls_get hx
  have h2 := smls_get hy
  rw [h, h2] at h1
  exact (Option.some.inj h1).symm
set_option maxHeartbeats 400000 in
theorem eqSample_same (A A' : Option Addr) (c c' : Nat) (L : List Int) (w : World) (hr : SlR f1 1 w w.heap.size A L) (hr' : SlR f1 1 w w.heap.size A' L) (hm : (L.length : Int) ≤ 1048576) :
    Calls Try.prog 22 #[.agg #[.slice A L.length c], .agg #[.slice A' L.length c']] w fun e w' => e = .returned (.bool true) ∧ Below w.heap.size w w' :=
  (eqSample_any A A' c c' L L w hr hr' (by omega)).mono fun e w' ⟨h1, h2⟩ => ⟨by rw [eqL_refl] at h1; exact h1, h2⟩
set_option maxHeartbeats 4000000 in
theorem eqSampleS_any (A A' : Option Addr) (c c' : Nat) (T : List (List Int)) (w : World) (h : SlT w w.heap.size A T) (h' : SlT w w.heap.size A' T) (hT : (wt T : Int) ≤ 1048576) :
    Calls Try.prog 40 #[.slice A T.length c, .slice A' T.length c'] w fun e w' => e = .returned (.bool true) ∧ Below w.heap.size w w' := by
  obtain ⟨M, hM, hs⟩ := h
  obtain ⟨N, hN, hs'⟩ := h'
  have HA := Lib.hid hs
  have HA' := Lib.hid hs'
  clear hs hs'
  have HE := Lib.hid (show smls M = smls N from hM.trans hN.symm)
  have HM := Lib.hid hM
  have hl : T.length = M.length := by rw [← hM, smls_len]
  have HNl := Lib.hid (show N.length = M.length by rw [← smls_len N, hN, hl])
  clear hM hN
  have hMm : (M.length : Int) ≤ 1048576 := by have := wt_len T; omega
  have HWT := Lib.hid hT
  clear hT
  have hb := neI (M.length : Int)
  rw [hl]
  clear hl
  go_enter Try.func40, Try.ntmps40
  go_wp2
  go_loopw [5] (fun v5 wr => ∃ k : Nat, v5 = .int .i64 k ∧ k ≤ M.length ∧ Below w.heap.size w wr) (fun v5 _ => (M.length - intOf v5).toNat)
  case atStart => exact ⟨0, rfl, by omega, Below.refl _ _⟩
  case round =>
    obtain ⟨k, rfl, hk, hbw⟩ := hrel
    by_cases hlt : k < M.length
    · have hx : M[k]? = some M[k] := List.getElem?_eq_getElem hlt
      have hy : N[k]? = some (N[k]'(by have := HNl.out; omega)) := List.getElem?_eq_getElem _
      generalize M[k] = x at hx
      generalize N[k]'(by have := HNl.out; omega) = y at hy
      have hxy := smls_same HE.out hx hy
      obtain ⟨b, off, rfl, hbB, hC⟩ := HA.out.sl (SlR.ne hx)
      obtain ⟨b', off', rfl, hbB', hC'⟩ := HA'.out.sl (SlR.ne hy)
      have hk0 : (0 : Int) ≤ (k : Int) := by omega
      have hk1 : (k : Int) < (M.length : Int) := by omega
      have hxT : T[k]? = some x.2.2 := by rw [← HM.out]; exact smls_get hx
      have hxl : (x.2.2.length : Int) ≤ 1048576 := by have := sumT_mem (List.mem_of_getElem? hxT); have := HWT.out; omega
      have HX := Lib.hid (hC.below hbw hbB); have HY := Lib.hid (hC'.below hbw hbB')
      have HHx := Lib.hid hx; have HHy := Lib.hid hy
      have r0 := Lib.hid ((HA.out.rows x (List.mem_of_getElem? hx)).next hbw)
      have r1 := Lib.hid ((show SlR f1 1 w w.heap.size y.1 x.2.2 by rw [hxy]; exact HA'.out.rows y (List.mem_of_getElem? hy)).next hbw)
      have HXY := Lib.hid hxy
      have hB : b < wr.heap.size := by have := hbw.size; omega
      have hB' : b' < wr.heap.size := by have := hbw.size; omega
      clear hC hC' hx hy hxy hxT
      go_wp2
      refine wp_region_grow [.fix (.slice (some ⟨b, off, none⟩) M.length c), .fix (.int .i64 k), .val (.pointer (some ⟨b, off + k, none⟩)), .val (.agg #[.slice x.1 x.2.2.length x.2.1]), .fix (.slice (some ⟨b', off', none⟩) M.length c'), .fix (.int .i64 k), .val (.pointer (some ⟨b', off' + k, none⟩)), .val (.agg #[.slice y.1 x.2.2.length y.2.1]), .val (.bool true), .val (.bool false)] mixed (by kernel_rfl) ?_
      refine SeqG.fixStep (.inl ⟨rfl, fun _ => rfl⟩) ?_
      simp only [Act.put, List.setIfInBounds_toArray, List.set_cons_zero, List.set_cons_succ]
      refine SeqG.fixStep (.inl ⟨rfl, fun _ => rfl⟩) ?_
      simp only [Act.put, List.setIfInBounds_toArray, List.set_cons_zero, List.set_cons_succ]
      refine SeqG.valStep (fun wv hbv hpv => ?_) ?_
      · skip
        go_wp2_with fail
        exact post_val (Below.refl _ _)
      simp only [Act.put, List.setIfInBounds_toArray, List.set_cons_zero, List.set_cons_succ]
      refine SeqG.valStep (fun wv hbv hpv => ?_) ?_
      · have c0 := cellM (HX.out.below hbv hB) HHx.out
        go_wp2_with fail
        exact post_val (Below.refl _ _)
      simp only [Act.put, List.setIfInBounds_toArray, List.set_cons_zero, List.set_cons_succ]
      refine SeqG.fixStep (.inl ⟨rfl, fun _ => rfl⟩) ?_
      simp only [Act.put, List.setIfInBounds_toArray, List.set_cons_zero, List.set_cons_succ]
      refine SeqG.fixStep (.inl ⟨rfl, fun _ => rfl⟩) ?_
      simp only [Act.put, List.setIfInBounds_toArray, List.set_cons_zero, List.set_cons_succ]
      refine SeqG.valStep (fun wv hbv hpv => ?_) ?_
      · skip
        go_wp2_with fail
        exact post_val (Below.refl _ _)
      simp only [Act.put, List.setIfInBounds_toArray, List.set_cons_zero, List.set_cons_succ]
      refine SeqG.valStep (fun wv hbv hpv => ?_) ?_
      · have c0 := cellM (HY.out.below hbv hB') HHy.out; rw [← HXY.out] at c0
        go_wp2_with fail
        exact post_val (Below.refl _ _)
      simp only [Act.put, List.setIfInBounds_toArray, List.set_cons_zero, List.set_cons_succ]
      refine SeqG.valStep (fun wv hbv hpv => ?_) ?_
      · go_wp2_with fail
        refine (eqSample_same _ _ _ _ x.2.2 _ (r0.out.next hbv) (r1.out.next hbv) (by omega)).mono ?_; rintro e w' ⟨he, hb⟩; subst he
        go_wp2_with fail
        exact post_val hb
      simp only [Act.put, List.setIfInBounds_toArray, List.set_cons_zero, List.set_cons_succ]
      refine SeqG.valStep (fun wv hbv hpv => ?_) ?_
      · skip
        go_wp2_with fail
        exact post_val (Below.refl _ _)
      simp only [Act.put, List.setIfInBounds_toArray, List.set_cons_zero, List.set_cons_succ]
      refine SeqG.done fun wv hbv hpv => ?_
      refine NoPan.normal ?_
      clear hpv
      have hb2 : Below w.heap.size w wv := hbw.trans (hbv.mono hbw.size)
      go_wp2
      go_roundw
      case rel => exact ⟨k + 1, by go_num, by omega, hb2⟩
      case measure => simp only [intOf]; omega
    · obtain rfl : k = M.length := by omega
      go_wp2
      go_ret
      exact ⟨rfl, hbw⟩
end Go.Proofs.Ytapfnelghmnajaa
