/-
  The Draw functions of washing: each ends, hands back ints and turns no older memory.
-/
import Derived.Test.YtpgoenhekmoedaaCur
import Derived.Test.YtpgoenhekmoedaaOpen
import Derived.Test.YtpgoenhekmoedaaSlice
namespace Go.Proofs.Ytpgoenhekmoedaa
open Go.RowKit

theorem inI_of {x a b : Int} (h1 : a ≤ x) (h2 : x ≤ b) (ha : -9223372036854775808 ≤ a) (hb : b ≤ 9223372036854775807) : InI x := ⟨by omega, by omega⟩
/-- A list of small ints. -/
theorem mem_small {M : List Int} {x : Int} (h : x ∈ M) (hM : (M.all fun y => decide (-1000000000 ≤ y) && decide (y ≤ 1000000000)) = true) : -1000000000 ≤ x ∧ x ≤ 1000000000 := by
  rw [List.all_eq_true] at hM
  have := hM x h
  simpa using this
def Small (x : Int) : Prop := -1000000000 ≤ x ∧ x ≤ 1000000000

/-- The cursor hands back a small int. -/
def CurBatch (A : Option Addr) (c : Nat) (L : List Int) (g n : Nat) (w : World) (e : Ending) (w' : World) : Prop :=
  ∃ s d t : Int, e = .returned (.agg #[.int .i64 s, .int .i64 d, .int .i64 t]) ∧ (Small s ∧ Small d ∧ Small t) ∧ Cur A c L g n w' ∧ ButG g w w'

set_option maxHeartbeats 1000000 in
theorem washWater_any (A : Option Addr) (c : Nat) (L : List Int) (g n : Nat) (w : World) (hI : ∀ x ∈ L, 0 ≤ x ∧ x ≤ 255) (hl : (L.length : Int) ≤ 65536) (hn : n ≤ 900000) (hc : Cur A c L g n w) :
    Calls Try.prog 63 #[.pointer (some ⟨g, 0, none⟩)] w (CurI A c L g (n + 2) w Small) := by
  go_enter Try.func63, Try.ntmps63
  go_wp2_with fail
  refine (among_any [1, 6, 60, 600, 1000, 12000, 60000, 100000000, 0, 100000001, 7, 30] A c L g (n) _ _ _ _ hI hl (by omega) (hc.next (by (repeat (first | exact Below.refl _ _ | refine Below.drew ?_ | refine below_drewN ?_ _ | (refine Below.alloc ?_ (by (try simp) <;> omega) _) | (refine Below.setCell ?_ (by (try simp) <;> omega) _) | (refine Below.trans ?_ (Below.mono (by assumption) (by (try simp) <;> omega))))))) (by rfl) (by omega) (by omega) (by first | exact Blk.new _ _ _ | exact Blk.new1 _ _ _ _) (by have := hc.lt; (try simp); omega)).mono ?_; rintro e w1 ⟨x1, rfl, hx1, hc1, hb1⟩
  have G1 : ButG g w w1 := ButG.refl.trans ((ButG.of (by (repeat (first | exact Below.refl _ _ | refine Below.drew ?_ | refine below_drewN ?_ _ | (refine Below.alloc ?_ (by (try simp) <;> omega) _) | (refine Below.setCell ?_ (by (try simp) <;> omega) _) | (refine Below.trans ?_ (Below.mono (by assumption) (by (try simp) <;> omega)))))) : ButG g w _).trans hb1)
  go_wp2
  go_ret
  exact ⟨_, rfl, mem_small hx1 (by decide), hc1, G1⟩

theorem butNew {g q : Nat} {w w1 : World} (h : ButG g w w1) (hq : w.heap.size ≤ q) (o : Nat) (u : Value) : ButG g w (w1.setCell ⟨q, o, none⟩ u) :=
  ⟨h.os, h.tape, h.output, by simpa [World.setCell] using h.size, fun k hk hg => (Below.heap_setCell w1 ⟨q, o, none⟩ u k (by show k ≠ q; omega)).trans (h.block k hk hg)⟩
theorem cur_far {A : Option Addr} {c : Nat} {L : List Int} {g n q : Nat} {w : World} (h : Cur A c L g n w) (hq : g < q) (o : Nat) (u : Value) : Cur A c L g n (w.setCell ⟨q, o, none⟩ u) := by
  obtain ⟨k, s, h1, h2, h3⟩ := h.ex
  exact ⟨⟨k, s, h1, h2, h3.far (p := ⟨q, o, none⟩) (by show g ≠ q; omega) u⟩, h.sl.below ((Below.refl _ _).setCell (p := ⟨q, o, none⟩) (by show g ≤ q; omega) u)⟩
theorem batch_end {A : Option Addr} {c : Nat} {L : List Int} {g n n' p q : Nat} {w w1 : World} {a b d x y z : Int} {o : Nat} {u : Value} (hm : Small x ∧ Small y ∧ Small z) (hc : Cur A c L g n w1) (hG : ButG g w w1) (hg : g < w.heap.size) (hq : w.heap.size ≤ q) (hp : w.heap.size ≤ p) (hn : n ≤ n') :
    CurBatch A c L g n' w (.returned (.agg #[.int .i64 x, .int .i64 y, .int .i64 z])) ((((w1.setCell ⟨p, o, none⟩ u).setCell ⟨q, 0, none⟩ (.int .i64 a)).setCell ⟨q, 1, none⟩ (.int .i64 b)).setCell ⟨q, 2, none⟩ (.int .i64 d)) :=
  ⟨x, y, z, rfl, hm, ((cur_far (cur_far (cur_far (cur_far hc (by omega) _ _) (by omega) _ _) (by omega) _ _) (by omega) _ _).mono hn), butNew (butNew (butNew (butNew hG hp _ _) hq _ _) hq _ _) hq _ _⟩
theorem batch_end0 {A : Option Addr} {c : Nat} {L : List Int} {g n n' q : Nat} {w w1 : World} {a b d x y z : Int} (hm : Small x ∧ Small y ∧ Small z) (hc : Cur A c L g n w1) (hG : ButG g w w1) (hg : g < w.heap.size) (hq : w.heap.size ≤ q) (hn : n ≤ n') :
    CurBatch A c L g n' w (.returned (.agg #[.int .i64 x, .int .i64 y, .int .i64 z])) (((w1.setCell ⟨q, 0, none⟩ (.int .i64 a)).setCell ⟨q, 1, none⟩ (.int .i64 b)).setCell ⟨q, 2, none⟩ (.int .i64 d)) :=
  ⟨x, y, z, rfl, hm, ((cur_far (cur_far (cur_far hc (by omega) _ _) (by omega) _ _) (by omega) _ _).mono hn), butNew (butNew (butNew hG hq _ _) hq _ _) hq _ _⟩

set_option maxHeartbeats 4000000 in
theorem batch_any (A : Option Addr) (c : Nat) (L : List Int) (g n : Nat) (w : World) (hI : ∀ x ∈ L, 0 ≤ x ∧ x ≤ 255) (hl : (L.length : Int) ≤ 65536) (hn : n ≤ 800000) (hc : Cur A c L g n w) :
    Calls Try.prog 64 #[.pointer (some ⟨g, 0, none⟩)] w (CurBatch A c L g (n + 10) w) := by
  go_enter Try.func64, Try.ntmps64
  go_wp2_with fail
  refine (among_any [0, 1, 100, 1000, 100000] A c L g (n) _ _ _ _ hI hl (by omega) (hc.next (by (repeat (first | exact Below.refl _ _ | refine Below.drew ?_ | refine below_drewN ?_ _ | (refine Below.alloc ?_ (by (try simp) <;> omega) _) | (refine Below.setCell ?_ (by (try simp) <;> omega) _) | (refine Below.trans ?_ (Below.mono (by assumption) (by (try simp) <;> omega))))))) (by rfl) (by omega) (by omega) (by first | exact Blk.new _ _ _ | exact Blk.new1 _ _ _ _) (by have := hc.lt; (try simp); omega)).mono ?_; rintro e w1 ⟨x1, rfl, hx1, hc1, hb1⟩
  have G1 : ButG g w w1 := ButG.refl.trans ((ButG.of (by (repeat (first | exact Below.refl _ _ | refine Below.drew ?_ | refine below_drewN ?_ _ | (refine Below.alloc ?_ (by (try simp) <;> omega) _) | (refine Below.setCell ?_ (by (try simp) <;> omega) _) | (refine Below.trans ?_ (Below.mono (by assumption) (by (try simp) <;> omega)))))) : ButG g w _).trans hb1)
  have g0 : g < w.heap.size := hc.lt
  have k1 := ((Blk.new w 25 #[.int .i64 0, .int .i64 0, .int .i64 0]).alloc (.cells #[.int .i64 0, .int .i64 1, .int .i64 100, .int .i64 1000, .int .i64 100000] 3)).but hb1 (by omega)
  go_wp2_with fail
  refine (among_any [0, 1, 10, 500, 3000, 100000000] A c L g (n + 2) _ _ _ _ hI hl (by omega) (hc1.next (by (repeat (first | exact Below.refl _ _ | refine Below.drew ?_ | refine below_drewN ?_ _ | (refine Below.alloc ?_ (by (try simp) <;> omega) _) | (refine Below.setCell ?_ (by (try simp) <;> omega) _) | (refine Below.trans ?_ (Below.mono (by assumption) (by (try simp) <;> omega))))))) (by rfl) (by omega) (by omega) (by first | exact Blk.new _ _ _ | exact Blk.new1 _ _ _ _) (by have := hc1.lt; (try simp); omega)).mono ?_; rintro e w2 ⟨x2, rfl, hx2, hc2, hb2⟩
  have G2 : ButG g w w2 := G1.trans ((ButG.of (by (repeat (first | exact Below.refl _ _ | refine Below.drew ?_ | refine below_drewN ?_ _ | (refine Below.alloc ?_ (by (try simp) <;> omega) _) | (refine Below.setCell ?_ (by (try simp) <;> omega) _) | (refine Below.trans ?_ (Below.mono (by assumption) (by (try simp) <;> omega)))))) : ButG g w1 _).trans hb2)
  have k2 := (k1.alloc _).but hb2 (by omega)
  go_wp2_with fail
  refine (among_any [0, 1, 50, 1000, 20000, 100000000] A c L g (n + 2 + 2) _ _ _ _ hI hl (by omega) (hc2.next (by (repeat (first | exact Below.refl _ _ | refine Below.drew ?_ | refine below_drewN ?_ _ | (refine Below.alloc ?_ (by (try simp) <;> omega) _) | (refine Below.setCell ?_ (by (try simp) <;> omega) _) | (refine Below.trans ?_ (Below.mono (by assumption) (by (try simp) <;> omega))))))) (by rfl) (by omega) (by omega) (by first | exact Blk.new _ _ _ | exact Blk.new1 _ _ _ _) (by have := hc2.lt; (try simp); omega)).mono ?_; rintro e w3 ⟨x3, rfl, hx3, hc3, hb3⟩
  have G3 : ButG g w w3 := G2.trans ((ButG.of (by (repeat (first | exact Below.refl _ _ | refine Below.drew ?_ | refine below_drewN ?_ _ | (refine Below.alloc ?_ (by (try simp) <;> omega) _) | (refine Below.setCell ?_ (by (try simp) <;> omega) _) | (refine Below.trans ?_ (Below.mono (by assumption) (by (try simp) <;> omega)))))) : ButG g w2 _).trans hb3)
  have k3 := (k2.alloc _).but hb3 (by omega)
  have g3 : g < w3.heap.size := hc3.lt
  have z0 := k3.lt
  go_wp2_with fail
  refine (pick_any A c L g (n + 2 + 2 + 2) (48) _ hI hl (by omega) (by omega) (hc3.next (by (repeat (first | exact Below.refl _ _ | refine Below.drew ?_ | refine below_drewN ?_ _ | (refine Below.alloc ?_ (by (try simp) <;> omega) _) | (refine Below.setCell ?_ (by (try simp) <;> omega) _) | (refine Below.trans ?_ (Below.mono (by assumption) (by (try simp) <;> omega)))))))).mono ?_; rintro e w4 ⟨x4, rfl, hx4, hc4, hb4⟩
  have G4 : ButG g w w4 := G3.trans ((ButG.of (by (repeat (first | exact Below.refl _ _ | refine Below.drew ?_ | refine below_drewN ?_ _ | (refine Below.alloc ?_ (by (try simp) <;> omega) _) | (refine Below.setCell ?_ (by (try simp) <;> omega) _) | (refine Below.trans ?_ (Below.mono (by assumption) (by (try simp) <;> omega)))))) : ButG g w3 _).trans hb4)
  have k4 := (k3.alloc _).but hb4 (by omega)
  have j4 := (Blk.new w3 25 #[.int .i64 x1, .int .i64 x2, .int .i64 x3]).but hb4 (by omega)
  clear G1 G2 G3
  have m1 := mem_small hx1 (by decide)
  have m2 := mem_small hx2 (by decide)
  have m3 := mem_small hx3 (by decide)
  have l4 := j4.lt
  generalize hp : w3.heap.size = p at *
  generalize hq : w.heap.size = q at *
  clear hb1 hb2 hb3 hb4 k1 k2 k3 hx1 hx2 hx3 hc1 hc2 hc3
  have Hp := Lib.hid hp; have Hq := Lib.hid hq
  clear hp hq
  by_cases h5 : x4 = 0
  · have q5 : (x4 == 0) = true := by simpa using h5
    have H5 := Lib.hid h5; clear h5
    go_wp2_with fail
    refine (among_any [-1, 100001] A c L g (n + 2 + 2 + 2 + 2) _ _ _ _ hI hl (by omega) (hc4.next (by (repeat (first | exact Below.refl _ _ | refine Below.drew ?_ | refine below_drewN ?_ _ | (refine Below.alloc ?_ (by (try simp) <;> omega) _) | (refine Below.setCell ?_ (by (try simp) <;> omega) _) | (refine Below.trans ?_ (Below.mono (by assumption) (by (try simp) <;> omega))))))) (by rfl) (by omega) (by omega) (by first | exact Blk.new _ _ _ | exact Blk.new1 _ _ _ _) (by have := hc4.lt; (try simp); omega)).mono ?_; rintro e w5 ⟨x5, rfl, hx5, hc5, hb5⟩
    have G5 : ButG g w w5 := G4.trans ((ButG.of (by (repeat (first | exact Below.refl _ _ | refine Below.drew ?_ | refine below_drewN ?_ _ | (refine Below.alloc ?_ (by (try simp) <;> omega) _) | (refine Below.setCell ?_ (by (try simp) <;> omega) _) | (refine Below.trans ?_ (Below.mono (by assumption) (by (try simp) <;> omega)))))) : ButG g w4 _).trans hb5)
    have k5 := (k4.alloc _).but hb5 (by omega)
    have j5 := (j4.alloc _).but hb5 (by omega)
    have c5 := j5.cell
    have d5 := k5.cell
    have f5 := j5.frozen
    have e5 := k5.frozen
    have m5 := mem_small hx5 (by decide)
    go_wp2
    refine bodyPost_ret (v := .agg #[.int .i64 x5, .int .i64 x2, .int .i64 x3]) (by simp [results, Try.results64, go_sem, *] <;> rfl) rfl ?_
    exact batch_end ⟨m5, m2, m3⟩ hc5 G5 (by have := Hq.out; omega) (by have := Hq.out; omega) (by have := Hq.out; omega) (by omega)
  · have q5 : (x4 == 0) = false := by simpa using h5
    by_cases h6 : x4 = 1
    · have q6 : (x4 == 1) = true := by simpa using h6
      have H6 := Lib.hid h6; clear h5 h6
      go_wp2_with fail
      refine (among_any [-1, 100000001] A c L g (n + 2 + 2 + 2 + 2) _ _ _ _ hI hl (by omega) (hc4.next (by (repeat (first | exact Below.refl _ _ | refine Below.drew ?_ | refine below_drewN ?_ _ | (refine Below.alloc ?_ (by (try simp) <;> omega) _) | (refine Below.setCell ?_ (by (try simp) <;> omega) _) | (refine Below.trans ?_ (Below.mono (by assumption) (by (try simp) <;> omega))))))) (by rfl) (by omega) (by omega) (by first | exact Blk.new _ _ _ | exact Blk.new1 _ _ _ _) (by have := hc4.lt; (try simp); omega)).mono ?_; rintro e w5 ⟨x5, rfl, hx5, hc5, hb5⟩
      have G5 : ButG g w w5 := G4.trans ((ButG.of (by (repeat (first | exact Below.refl _ _ | refine Below.drew ?_ | refine below_drewN ?_ _ | (refine Below.alloc ?_ (by (try simp) <;> omega) _) | (refine Below.setCell ?_ (by (try simp) <;> omega) _) | (refine Below.trans ?_ (Below.mono (by assumption) (by (try simp) <;> omega)))))) : ButG g w4 _).trans hb5)
      have k5 := (k4.alloc _).but hb5 (by omega)
      have j5 := (j4.alloc _).but hb5 (by omega)
      have c5 := j5.cell
      have d5 := k5.cell
      have f5 := j5.frozen
      have e5 := k5.frozen
      have m5 := mem_small hx5 (by decide)
      go_wp2
      refine bodyPost_ret (v := .agg #[.int .i64 x1, .int .i64 x5, .int .i64 x3]) (by simp [results, Try.results64, go_sem, *] <;> rfl) rfl ?_
      exact batch_end ⟨m1, m5, m3⟩ hc5 G5 (by have := Hq.out; omega) (by have := Hq.out; omega) (by have := Hq.out; omega) (by omega)
    · have q6 : (x4 == 1) = false := by simpa using h6
      clear h5 h6
      have c5 := j4.cell
      have d5 := k4.cell
      have f5 := j4.frozen
      have e5 := k4.frozen
      go_wp2
      refine bodyPost_ret (v := .agg #[.int .i64 x1, .int .i64 x2, .int .i64 x3]) (by simp [results, Try.results64, go_sem, *] <;> rfl) rfl ?_
      exact batch_end0 ⟨m1, m2, m3⟩ hc4 G4 (by have := Hq.out; omega) (by have := Hq.out; omega) (by omega)
end Go.Proofs.Ytpgoenhekmoedaa
