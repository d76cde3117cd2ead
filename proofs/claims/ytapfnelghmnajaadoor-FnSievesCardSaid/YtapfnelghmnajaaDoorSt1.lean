/-
  Texts of lists of numbers: decimal, decimals (the program's), and what the reference's loop builds.
-/
import Derived.Test.YtapfnelghmnajaaDoorTx1
import Derived.Test.YtapfnelghmnajaaDoorFr2
import Derived.Lib.Join
import Derived.Deep.LoopGhost
import Derived.WalkKit
import Derived.WalkSpells
import Derived.WalkLawsBesides
import Derived.Lib.Hide
import Derived.Deep.QuietTactic
import Derived.BigQuiet
import Derived.StillTailTactics
namespace Go.Proofs.YtapfnelghmnajaaDoor
open Go.RowKit

theorem tab_below {n : String} {g : Nat} {k : IntKind} {zs : List Int} {w w' : World} (hg : Tryd.prog.globalNamed n = some g) (h : Lib.TabIs Tryd.prog w n k zs) (hb : Below w.heap.size w w') : Lib.TabIs Tryd.prog w' n k zs := by
  unfold Lib.TabIs World.var? at h ⊢
  rw [hg] at h ⊢
  simp only [Option.bind_some] at h ⊢
  have hlt : g < w.heap.size := by
    rcases Nat.lt_or_ge g w.heap.size with h' | h'
    · exact h'
    · rw [Array.getElem?_eq_none h'] at h; cases h
  rw [hb.block g hlt]
  exact h
theorem gPow : ∃ g, Tryd.prog.globalNamed "internal/strconv.uint64pow10" = some g := Option.isSome_iff_exists.1 (by kernel_rfl)
theorem pow_below {w w' : World} (h : Lib.TabIs Tryd.prog w "internal/strconv.uint64pow10" .u64 Lib.pow10Tab) (hb : Below w.heap.size w w') : Lib.TabIs Tryd.prog w' "internal/strconv.uint64pow10" .u64 Lib.pow10Tab := by
  obtain ⟨g, hg⟩ := gPow
  exact tab_below hg h hb
theorem decimal_any (z : Int) (w : World) (h0 : 0 ≤ z) (h1 : z ≤ 1000000) (htab : Lib.TabIs Tryd.prog w "internal/strconv.uint64pow10" .u64 Lib.pow10Tab) : Calls Tryd.prog 33 #[.int .i64 z] w fun e w' => e = .returned (.string ⟨(decS z).toArray⟩) ∧ Below w.heap.size w w' := by
  have C := Lib.hid (Tryd.strconv_Itoa z (by omega) (by omega) w htab)
  have HZ := Lib.hid (show Lib.itoa z = decS z by unfold Lib.itoa decS; rw [if_neg (by omega)])
  clear htab
  go_enter Tryd.func33, Tryd.ntmps33
  go_wp2_with fail
  refine C.out.mono ?_; rintro e w' ⟨rfl, k, os, rfl⟩
  rw [HZ.out]
  have hb : Below w.heap.size w (Go.Sort.grow (w.drewN k) os) := ⟨rfl, rfl, rfl, by simp [Go.Sort.grow], fun j hj => Go.Sort.heap_grow_old _ _ hj⟩
  go_wp2
  go_ret
  exact ⟨rfl, hb⟩

/-! ### the text of a list -/
def fT (x : Int) : List Value := [.string ⟨(decS x).toArray⟩]
def numT (P : List Int) : List UInt8 := Lib.join (P.map decS) [47]
theorem numT_nil : numT [] = [] := rfl
theorem numT_first {P : List Int} {x : Int} (h : P[0]? = some x) : numT (P.take 1) = decS x := by
  cases P with
  | nil => simp at h
  | cons y r =>
    simp at h; subst h
    exact Lib.join_one _ _
theorem numT_step {P : List Int} {k : Nat} {x : Int} (h : P[k]? = some x) (hk : 0 < k) : numT (P.take (k + 1)) = numT (P.take k) ++ [47] ++ decS x := by
  cases P with
  | nil => simp at h
  | cons y r =>
    obtain ⟨k, rfl⟩ : ∃ j, k = j + 1 := ⟨k - 1, by omega⟩
    simp only [List.getElem?_cons_succ] at h
    unfold numT
    rw [List.take_succ_cons, List.take_succ_cons, List.map_cons, List.map_cons, Lib.join_cons, Lib.join_cons, List.map_take, List.map_take, Lib.joinTail_take_succ [47] (r.map decS) k (decS x) (by rw [List.getElem?_map, h]; rfl)]
    simp [List.append_assoc]
theorem numT_le : ∀ (P : List Int), (∀ y ∈ P, 0 ≤ y ∧ y ≤ 1000) → ∀ k, k ≤ P.length → (numT (P.take k)).length ≤ 1002 * k
  | P, h, 0, _ => by simp [numT, Lib.join_nil]
  | P, h, k + 1, hk => by
    have hx : P[k]? = some P[k] := List.getElem?_eq_getElem (by omega)
    have hb := h _ (List.mem_of_getElem? hx)
    have hl := decS_le hb.1
    have ih := numT_le P h k (by omega)
    by_cases h0 : 0 < k
    · rw [numT_step hx h0, List.length_append, List.length_append, List.length_singleton]
      omega
    · obtain rfl : k = 0 := by omega
      rw [numT_first hx]
      omega
theorem infoStr : (Tryd.prog.info? 9).map (fun i => (i.zero, i.size, i.bytes)) = some (some (.string ⟨#[]⟩), 1, 16) := by kernel_rfl
theorem mk_nil : (⟨(([] : List UInt8)).toArray⟩ : ByteArray) = ⟨#[]⟩ := rfl

set_option maxRecDepth 4000 in
set_option maxHeartbeats 4000000 in
theorem decimals_any (A : Option Addr) (c : Nat) (P : List Int) (w : World) (hr : SlR f1 1 w w.heap.size A P) (hm : P.length ≤ 6) (hp0 : 0 < P.length) (hP : ∀ y ∈ P, 0 ≤ y ∧ y ≤ 1000) (htab : Lib.TabIs Tryd.prog w "internal/strconv.uint64pow10" .u64 Lib.pow10Tab) :
    Calls Tryd.prog 31 #[.slice A P.length c, .string ⟨#[47]⟩] w fun e w' => e = .returned (.string ⟨(numT P).toArray⟩) ∧ Below w.heap.size w w' := by
  obtain ⟨i0, hi, hz0, hz1, hz2⟩ := info_parts infoStr
  have hb2 : i0.bytes * P.length ≤ 281474976710656 := by rw [hz2]; omega
  have hml : P.length ≤ maxLen := by unfold maxLen; omega
  have hl0 : (0 : Int) ≤ (P.length : Int) := by omega
  have HP := Lib.hid hP
  have HT := Lib.hid htab
  have HN := Lib.hid (numT_le P hP P.length (Nat.le_refl _))
  have HN2 := Lib.hid (List.take_of_length_le (l := P) (Nat.le_refl P.length))
  clear hP htab
  go_enter Tryd.func31, Tryd.ntmps31
  go_wp2_with (refine wpList_make_full _ rfl _ _ 73 rfl w.heap.size 9 i0 (.string ⟨#[]⟩) 1 Tryd.underlying73 hi hz0 hz1 .i64 .i64 _ _ P.length rfl rfl (by omega) (by omega) hb2 hml (Nat.le_refl _) ?_; intro w1 hown hgrow)
  have hrow := row_of_own hown
  have hb0 := below_grown hgrow (fun k h => by cases h)
  clear hown hgrow hb2 hml hi hz0 hz1 hz2
  rw [Nat.mul_one] at hrow
  go_loopg [13] P.length (fun g i wr => ∃ k : Nat, k ≤ P.length ∧ g = P.length - k ∧ i = .int .i64 k ∧ Row wr w.heap.size 9 P.length ∧ Cells fT 1 wr w.heap.size 0 (P.take k) ∧ Below w.heap.size w wr)
  case atStart => exact ⟨0, by omega, rfl, rfl, hrow, fun k x hx => by simp at hx, hb0⟩
  case round =>
    obtain ⟨k, hk, rfl, rfl, hR, hC, hb⟩ := hrel
    clear hrow hb0
    have zr := hb.size
    have hlg := hR.lt
    by_cases hlt : k < P.length
    · have hx : P[k]? = some P[k] := List.getElem?_eq_getElem hlt
      have hxb := HP.out _ (List.mem_of_getElem? hx)
      obtain ⟨x, hxx⟩ : ∃ x, P[k] = x := ⟨_, rfl⟩
      rw [hxx] at hx hxb
      obtain ⟨b, off, rfl, hB, hcs⟩ := hr (SlR.ne hx)
      have c0 := cells1 (hcs.below hb hB) hx
      have hBr : b < wr.heap.size := by omega
      have hk0 : (0 : Int) ≤ (k : Int) := by omega
      have hk1 : (k : Int) < (P.length : Int) := by omega
      obtain ⟨x0, x1⟩ := hxb
      have HR := Lib.hid hR
      have HC := Lib.hid hC
      have HX := Lib.hid hx
      have HL := Lib.hid hlt
      clear hx hxx hcs hR hC hlt
      go_wp2_with fail
      refine (decimal_any x _ (by omega) (by omega) (pow_below HT.out (hb.mono (Nat.le_refl _)))).mono ?_; rintro e w2 ⟨rfl, hb2⟩
      have z2 := hb2.size
      have hR2 := HR.out.below' hb2
      have hC2 := HC.out.below hb2 hlg
      have hB2 := hb.trans (hb2.mono zr)
      have fz := hR2.frozen k
      obtain ⟨v0, hv0⟩ := hR2.cell (j := k) HL.out
      have hlg2 := hR2.lt
      have nC := Lib.hid (cells_store (x := x) hR2 hC2 (fun _ => rfl) HX.out (by have := HL.out; omega))
      have nR := Lib.hid (hR2.set ⟨w.heap.size, k, none⟩ (.string ⟨(decS x).toArray⟩))
      have nB := Lib.hid (hB2.setCell (p := ⟨w.heap.size, k, none⟩) (Nat.le_refl _) (.string ⟨(decS x).toArray⟩))
      clear hR2 hC2
      go_wp2
      go_roundg (P.length - (k + 1))
      case measure => have := HL.out; omega
      case rel => exact ⟨k + 1, by have := HL.out; omega, rfl, by go_num, nR.out, by simpa [World.setCells, fT] using nC.out, nB.out⟩
    · obtain rfl : k = P.length := by omega
      have hC' : ∀ (j : Nat) x, (P.map fun y => (⟨(decS y).toArray⟩ : ByteArray))[j]? = some x → wr.cell? ⟨w.heap.size, 0 + j, none⟩ = some (.string x) := by
        intro j x hx
        rw [List.getElem?_map] at hx
        cases hy : P[j]? with
        | none => rw [hy] at hx; cases hx
        | some y =>
          rw [hy] at hx; cases hx
          have := hC j y (by rw [List.getElem?_take, if_pos (List.getElem?_eq_some_iff.1 hy).1]; exact hy) 0 _ rfl
          simpa using this
      have hmap : ((P.map fun y => (⟨(decS y).toArray⟩ : ByteArray)).map (·.data.toList)) = P.map decS := by
        rw [List.map_map]; exact List.map_congr_left fun y _ => rfl
      have hlen : (Lib.join ((P.map fun y => (⟨(decS y).toArray⟩ : ByteArray)).map (·.data.toList)) (ByteArray.mk #[47]).data.toList).length ≤ 140737488355328 := by
        rw [hmap]
        have := HN.out
        rw [HN2.out] at this
        have h2 : (Lib.join (P.map decS) [47]).length ≤ 1002 * P.length := this
        show (Lib.join (P.map decS) [47]).length ≤ _
        omega
      have CJ := Tryd.strings_Join w.heap.size 0 P.length (P.map fun y => (⟨(decS y).toArray⟩ : ByteArray)) ⟨#[47]⟩ wr hC' hlg (by rw [List.length_map]; omega) (by rw [List.length_map]; omega) hlen
      rw [hmap, List.length_map] at CJ
      have CJ := Lib.hid CJ
      clear hC hR hC' hlen hmap
      go_wp2_with fail
      refine CJ.out.mono ?_; rintro e w2 ⟨rfl, hb2⟩
      go_wp2
      go_ret
      exact ⟨rfl, hb.trans (hb2.mono zr)⟩
end Go.Proofs.YtapfnelghmnajaaDoor
