/-
  The cursor that the Draw functions read their choices from: next, pick, one, among. Whatever it hands back lies in its range; only its own block is turned.
-/
import Derived.Test.YtapfnelghmnajaaDoorPred
import Derived.WalkKit
import Derived.WalkSpells
import Derived.WalkLawsBesides
import Derived.Lib.Hide
import Derived.Deep.QuietTactic
import Derived.BigQuiet
import Derived.StillTailTactics
namespace Go.Proofs.YtapfnelghmnajaaDoor
open Go.RowKit

/-- A byte. -/
def fb (x : Int) : List Value := [.int .u8 x]

/-- Only block g may have turned; new ones may have come. -/
structure ButG (g : Nat) (w w' : World) : Prop where
  os : w'.os = w.os
  tape : w'.tape = w.tape
  output : w'.output = w.output
  size : w.heap.size ≤ w'.heap.size
  block : ∀ k, k < w.heap.size → k ≠ g → w'.heap[k]? = w.heap[k]?
section
variable {g B : Nat} {w w' w'' : World}
theorem ButG.refl : ButG g w w := ⟨rfl, rfl, rfl, Nat.le_refl _, fun _ _ _ => rfl⟩
theorem ButG.trans (h : ButG g w w') (k : ButG g w' w'') : ButG g w w'' :=
  ⟨k.os.trans h.os, k.tape.trans h.tape, k.output.trans h.output, Nat.le_trans h.size k.size, fun i hi hg => (k.block i (Nat.lt_of_lt_of_le hi h.size) hg).trans (h.block i hi hg)⟩
theorem ButG.of (h : Below w.heap.size w w') : ButG g w w' := ⟨h.os, h.tape, h.output, h.size, fun k hk _ => h.block k hk⟩
theorem ButG.below (h : ButG g w w') (hB : B ≤ g) (hg : g < w.heap.size) : Below B w w' := ⟨h.os, h.tape, h.output, h.size, fun k hk => h.block k (by omega) (by omega)⟩
theorem ButG.set (h : ButG g w w') (o : Nat) (u : Value) : ButG g w (w'.setCell ⟨g, o, none⟩ u) :=
  ⟨h.os, h.tape, h.output, by simpa [World.setCell] using h.size, fun k hk hg => (Below.heap_setCell w' ⟨g, o, none⟩ u k hg).trans (h.block k hk hg)⟩
theorem ButG.drewN (h : ButG g w w') (n : Nat) : ButG g w (w'.drewN n) := ⟨h.os, h.tape, h.output, h.size, h.block⟩
theorem ButG.alloc (h : ButG g w w') (o : Obj) : ButG g w (w'.alloc o) := h.trans (.of ((Below.refl _ _).alloc (Nat.le_refl _) o))
theorem Blk.but {t : TypeId} {cs : Array Value} {b : Nat} (h : Blk w b t cs) (hb : ButG g w w') (hne : b ≠ g) : Blk w' b t cs := (hb.block b h.lt hne).trans h
theorem SlR.but {α : Type} {f : α → List Value} {m : Nat} {A : Option Addr} {L : List α} (h : SlR f m w g A L) (hb : ButG g w w') (hg : g < w.heap.size) : SlR f m w' g A L := h.below (hb.below (Nat.le_refl _) hg) 
end

/-- The cursor in block g reads the bytes L; at most n of them have been asked for. -/
structure Cur (A : Option Addr) (c : Nat) (L : List Int) (g n : Nat) (w : World) : Prop where
  ex : ∃ k s : Int, 0 ≤ k ∧ k ≤ n ∧ Blk w g 59 #[.slice A L.length c, .int .i64 k, .int .u64 s]
  sl : SlR fb 1 w g A L
section
variable {A : Option Addr} {c : Nat} {L : List Int} {g n : Nat} {w w' : World}
theorem Cur.lt (h : Cur A c L g n w) : g < w.heap.size := by
  obtain ⟨k, s, _, _, hb⟩ := h.ex
  exact hb.lt
theorem Cur.next (h : Cur A c L g n w) (hb : Below w.heap.size w w') : Cur A c L g n w' := by
  obtain ⟨k, s, h1, h2, h3⟩ := h.ex
  exact ⟨⟨k, s, h1, h2, h3.below' hb⟩, h.sl.below (hb.mono (Nat.le_of_lt h3.lt))⟩
theorem Cur.mono (h : Cur A c L g n w) {m : Nat} (hm : n ≤ m) : Cur A c L g m w := by
  obtain ⟨k, s, h1, h2, h3⟩ := h.ex
  exact ⟨⟨k, s, h1, by omega, h3⟩, h.sl⟩
end

/-- A callee of the cursor hands back an int of which P holds. -/
def CurI (A : Option Addr) (c : Nat) (L : List Int) (g n : Nat) (w : World) (P : Int → Prop) (e : Ending) (w' : World) : Prop :=
  ∃ r : Int, e = .returned (.int .i64 r) ∧ P r ∧ Cur A c L g n w' ∧ ButG g w w'
def CurB (A : Option Addr) (c : Nat) (L : List Int) (g n : Nat) (w : World) (e : Ending) (w' : World) : Prop :=
  ∃ r : Bool, e = .returned (.bool r) ∧ Cur A c L g n w' ∧ ButG g w w'

theorem blk_set3 {w : World} {g : Nat} {t : TypeId} {x y z : Value} (h : Blk w g t #[x, y, z]) (b : Value) : Blk (w.setCell ⟨g, 1, none⟩ b) g t #[x, b, z] := by
  have := h.set_ 1 b
  simpa using this
theorem blk_set3' {w : World} {g : Nat} {t : TypeId} {x y z : Value} (h : Blk w g t #[x, y, z]) (b : Value) : Blk (w.setCell ⟨g, 2, none⟩ b) g t #[x, y, b] := by
  have := h.set_ 2 b
  simpa using this

theorem and255 (E : Int) : 0 ≤ wrap64 (bits BinOp.and IntKind.u64 E 255) ∧ wrap64 (bits BinOp.and IntKind.u64 E 255) ≤ 255 := by
  have h1 : (BitVec.ofInt IntKind.u64.bits E &&& BitVec.ofInt IntKind.u64.bits 255).toNat ≤ 255 := by
    rw [BitVec.toNat_and]
    exact Nat.and_le_right
  obtain ⟨n, hn⟩ : ∃ n, n = (BitVec.ofInt IntKind.u64.bits E &&& BitVec.ofInt IntKind.u64.bits 255).toNat := ⟨_, rfl⟩
  have h2 : bits BinOp.and IntKind.u64 E 255 = IntKind.u64.wrap (n : Int) := by rw [hn]; rfl
  have h3 : IntKind.u64.wrap (n : Int) = n := by
    unfold IntKind.wrap
    simp [IntKind.signed, IntKind.bits]
    omega
  rw [h2, h3, IntWalk.wrap64_in _ (by omega)]
  omega
theorem next_end {A : Option Addr} {c : Nat} {L : List Int} {g n : Nat} {w : World} {k s r : Int} (hB : Blk w g 59 #[.slice A L.length c, .int .i64 k, .int .u64 s]) (hS : SlR fb 1 w g A L) (h0 : 0 ≤ k) (h1 : k ≤ n) (hr : 0 ≤ r ∧ r ≤ 255) (a b : Nat) (z : Int) :
    CurI A c L g (n + 1) w (fun r => 0 ≤ r ∧ r ≤ 255) (.returned (.int .i64 r)) ((((w.drewN a).setCell ⟨g, 1, none⟩ (.int .i64 (k + 1))).setCell ⟨g, 2, none⟩ (.int .u64 z)).drewN b) := by
  have hG : ButG g w ((((w.drewN a).setCell ⟨g, 1, none⟩ (.int .i64 (k + 1))).setCell ⟨g, 2, none⟩ (.int .u64 z)).drewN b) := (((ButG.refl.drewN _).set 1 _).set 2 _).drewN _
  exact ⟨r, rfl, hr, ⟨⟨k + 1, z, by omega, by omega, (blk_set3' (blk_set3 (hB.drewN _) _) _).drewN _⟩, hS.but hG hB.lt⟩, hG⟩

set_option maxHeartbeats 1000000 in
theorem next_any (A : Option Addr) (c : Nat) (L : List Int) (g n : Nat) (w : World) (hI : ∀ x ∈ L, 0 ≤ x ∧ x ≤ 255) (hl : (L.length : Int) ≤ 65536) (hn : n ≤ 1000000) (hc : Cur A c L g n w) :
    Calls Tryd.prog 57 #[.pointer (some ⟨g, 0, none⟩)] w (CurI A c L g (n + 1) w (fun r => 0 ≤ r ∧ r ≤ 255)) := by
  obtain ⟨⟨k, s, hk0, hkn, hB⟩, hS⟩ := hc
  have hcell := hB.cell
  have hfr := hB.frozen
  by_cases hlt : k < L.length
  · obtain ⟨j, rfl⟩ := Int.eq_ofNat_of_zero_le hk0
    have hj : j < L.length := by omega
    obtain ⟨x, hx⟩ : ∃ x, L[j]? = some x := ⟨L[j], List.getElem?_eq_getElem hj⟩
    obtain ⟨hx0, hx1⟩ := hI x (List.mem_of_getElem? hx)
    obtain ⟨b, off, rfl, hb, hC⟩ := hS (SlR.ne hx)
    have hbyte : w.cell? ⟨b, off + j, none⟩ = some (.int .u8 x) := by simpa using hC j x hx 0 _ rfl
    have hd : decide ((j : Int) < (L.length : Int)) = true := by simpa using hj
    have q1 : (j : Int) < (L.length : Int) := by omega
    have hc0 := hcell 0
    have hc1 := hcell 1
    have hc2 := hcell 2
    simp at hc0 hc1 hc2
    clear hcell
    go_enter Tryd.func57, Tryd.ntmps57
    go_wp2
    go_quiet (fail)
    go_wp2
    go_quiet (fail)
    go_wp2
    have q2 : decide ((j : Int) + 1 ≤ (L.length : Int)) = true := by rw [decide_eq_true_eq]; omega
    go_quiet (fail)
    go_wp2
    go_ret
    exact next_end hB hS hk0 hkn ⟨hx0, hx1⟩ _ _ _
  · have hd : decide (k < (L.length : Int)) = false := by simpa using hlt
    have hc0 := hcell 0
    have hc1 := hcell 1
    have hc2 := hcell 2
    simp at hc0 hc1 hc2
    clear hcell
    go_enter Tryd.func57, Tryd.ntmps57
    go_wp2
    go_quiet (fail)
    go_wp2
    have q2 : decide (k + 1 ≤ (L.length : Int)) = false := by rw [decide_eq_false_iff_not]; omega
    go_quiet (fail)
    go_wp2
    go_ret
    exact next_end hB hS hk0 hkn (and255 _) _ _ _

/-- One pick below m (or 0). -/
def UpTo (m : Int) (r : Int) : Prop := 0 ≤ r ∧ r < max m 1
theorem upTo_mod {z m : Int} (_h0 : 0 ≤ z) (hm : 1 ≤ m) : UpTo m (z % m) := by
  have h1 := Int.emod_nonneg z (show m ≠ 0 by omega)
  have h2 := Int.emod_lt_of_pos z (show 0 < m by omega)
  exact ⟨h1, by omega⟩
set_option maxHeartbeats 1000000 in
theorem pick_any (A : Option Addr) (c : Nat) (L : List Int) (g n : Nat) (m : Int) (w : World) (hI : ∀ x ∈ L, 0 ≤ x ∧ x ≤ 255) (hl : (L.length : Int) ≤ 65536) (hn : n ≤ 900000) (hm : m ≤ 1000000) (hc : Cur A c L g n w) :
    Calls Tryd.prog 36 #[.pointer (some ⟨g, 0, none⟩), .int .i64 m] w (CurI A c L g (n + 2) w (UpTo m)) := by
  by_cases h1 : m ≤ 1
  · go_enter Tryd.func36, Tryd.ntmps36
    go_wp2
    go_ret
    exact ⟨0, rfl, ⟨by omega, by omega⟩, hc.mono (by omega), .refl⟩
  have hz : (m == 0) = false := by rw [beq_eq_false_iff_ne]; omega
  by_cases h2 : 200 < m
  · go_enter Tryd.func36, Tryd.ntmps36
    go_wp2_with fail
    refine (next_any A c L g n w hI hl (by omega) hc).mono ?_; rintro e w1 ⟨x, rfl, ⟨hx0, hx1⟩, hc1, hb1⟩
    go_wp2_with fail
    refine (next_any A c L g (n + 1) w1 hI hl (by omega) hc1).mono ?_; rintro e w2 ⟨y, rfl, ⟨hy0, hy1⟩, hc2, hb2⟩
    go_wp2
    go_ret
    exact ⟨_, rfl, upTo_mod (by omega) (by omega), hc2, hb1.trans hb2⟩
  · go_enter Tryd.func36, Tryd.ntmps36
    go_wp2_with fail
    refine (next_any A c L g n w hI hl (by omega) hc).mono ?_; rintro e w1 ⟨x, rfl, ⟨hx0, hx1⟩, hc1, hb1⟩
    go_wp2
    go_ret
    exact ⟨_, rfl, upTo_mod (by omega) (by omega), hc1.mono (by omega), hb1⟩

set_option maxHeartbeats 400000 in
theorem one_any (A : Option Addr) (c : Nat) (L : List Int) (g n : Nat) (m : Int) (w : World) (hI : ∀ x ∈ L, 0 ≤ x ∧ x ≤ 255) (hl : (L.length : Int) ≤ 65536) (hn : n ≤ 900000) (hm : m ≤ 1000000) (hc : Cur A c L g n w) :
    Calls Tryd.prog 43 #[.pointer (some ⟨g, 0, none⟩), .int .i64 m] w (CurB A c L g (n + 2) w) := by
  go_enter Tryd.func43, Tryd.ntmps43
  go_wp2_with fail
  refine (pick_any A c L g n m w hI hl hn hm hc).mono ?_; rintro e w1 ⟨x, rfl, hx, hc1, hb1⟩
  go_wp2
  go_ret
  exact ⟨_, rfl, hc1, hb1⟩

set_option maxHeartbeats 1000000 in
/-- One of the numbers M that a literal in block b holds. -/
theorem among_any (M : List Int) (A : Option Addr) (c : Nat) (L : List Int) (g n b m cp : Nat) (w : World) (hI : ∀ x ∈ L, 0 ≤ x ∧ x ≤ 255) (hl : (L.length : Int) ≤ 65536) (hn : n ≤ 900000) (hc : Cur A c L g n w)
    (hM : M.length = m) (hm0 : 0 < m) (hm1 : m ≤ 1000) (hB : Blk w b 3 (M.map (Value.int .i64)).toArray) (hne : b ≠ g) :
    Calls Tryd.prog 55 #[.pointer (some ⟨g, 0, none⟩), .slice (some ⟨b, 0, none⟩) m cp] w (CurI A c L g (n + 2) w (· ∈ M)) := by
  have HM := Lib.hid hM
  clear hM
  go_enter Tryd.func55, Tryd.ntmps55
  go_wp2_with fail
  refine (pick_any A c L g n m w hI hl hn (by omega) hc).mono ?_; rintro e w1 ⟨x, rfl, ⟨hx0, hx1⟩, hc1, hb1⟩
  obtain ⟨j, rfl⟩ := Int.eq_ofNat_of_zero_le hx0
  have hj : j < m := by omega
  have q1 : (j : Int) < (m : Int) := by omega
  obtain ⟨y, hy⟩ : ∃ y, M[j]? = some y := ⟨M[j]'(by have := HM.out; omega), List.getElem?_eq_getElem _⟩
  have hcell : w1.cell? ⟨b, j, none⟩ = some (.int .i64 y) := by
    have := (hB.but hb1 hne).cell j
    simpa [hy] using this
  have HY := Lib.hid hy
  clear hy
  go_wp2
  go_ret
  exact ⟨y, rfl, List.mem_of_getElem? HY.out, hc1, hb1⟩
end Go.Proofs.YtapfnelghmnajaaDoor
