/-
  The Draw functions of ladders.
-/
import Derived.Test.YthhjbdhglaombaaDrawL1
import Derived.Test.YthhjbdhglaombaaDrw
import Derived.Test.YthhjbdhglaombaaRf2
import Derived.Deep.DeepCutAuto
namespace Go.Proofs.Ythhjbdhglaombaa
open Go.RowKit

/-- The cursor hands back a brine of small ints. -/
def CurBri (A : Option Addr) (c : Nat) (L : List Int) (g n : Nat) (w : World) (e : Ending) (w' : World) : Prop :=
  ∃ s d : Int, e = .returned (.agg #[.int .i64 s, .int .i64 d]) ∧ (Small s ∧ Small d) ∧ Cur A c L g n w' ∧ ButG g w w'
theorem bri_end {A : Option Addr} {c : Nat} {L : List Int} {g n n' p q : Nat} {w w1 : World} {a b x y : Int} {o : Nat} {u : Value} (hm : Small x ∧ Small y) (hc : Cur A c L g n w1) (hG : ButG g w w1) (hg : g < w.heap.size) (hq : w.heap.size ≤ q) (hp : w.heap.size ≤ p) (hn : n ≤ n') :
    CurBri A c L g n' w (.returned (.agg #[.int .i64 x, .int .i64 y])) (((w1.setCell ⟨p, o, none⟩ u).setCell ⟨q, 0, none⟩ (.int .i64 a)).setCell ⟨q, 1, none⟩ (.int .i64 b)) :=
  ⟨x, y, rfl, hm, ((cur_far (cur_far (cur_far hc (by omega) _ _) (by omega) _ _) (by omega) _ _).mono hn), butNew (butNew (butNew hG hp _ _) hq _ _) hq _ _⟩
theorem bri_end0 {A : Option Addr} {c : Nat} {L : List Int} {g n n' q : Nat} {w w1 : World} {a b x y : Int} (hm : Small x ∧ Small y) (hc : Cur A c L g n w1) (hG : ButG g w w1) (hg : g < w.heap.size) (hq : w.heap.size ≤ q) (hn : n ≤ n') :
    CurBri A c L g n' w (.returned (.agg #[.int .i64 x, .int .i64 y])) ((w1.setCell ⟨q, 0, none⟩ (.int .i64 a)).setCell ⟨q, 1, none⟩ (.int .i64 b)) :=
  ⟨x, y, rfl, hm, ((cur_far (cur_far hc (by omega) _ _) (by omega) _ _).mono hn), butNew (butNew hG hq _ _) hq _ _⟩

set_option maxHeartbeats 4000000 in
theorem brine_any (A : Option Addr) (c : Nat) (L : List Int) (g n : Nat) (w : World) (hI : ∀ x ∈ L, 0 ≤ x ∧ x ≤ 255) (hl : (L.length : Int) ≤ 65536) (hn : n ≤ 800000) (hc : Cur A c L g n w) :
    Calls Try.prog 78 #[.pointer (some ⟨g, 0, none⟩)] w (CurBri A c L g (n + 8) w) := by
  go_enter Try.func78, Try.ntmps78
  go_wp2_with fail
  refine (among_any [0, 1, 90, 900, 1000, 7000, 1000000] A c L g (n) _ _ _ _ hI hl (by omega) (hc.next (by (repeat (first | exact Below.refl _ _ | refine Below.drew ?_ | refine below_drewN ?_ _ | (refine Below.alloc ?_ (by (try simp) <;> omega) _) | (refine Below.setCell ?_ (by (try simp) <;> omega) _) | (refine Below.trans ?_ (Below.mono (by assumption) (by (try simp) <;> omega))))))) (by rfl) (by omega) (by omega) (by first | exact Blk.new _ _ _ | exact Blk.new1 _ _ _ _) (by have := hc.lt; (try simp); omega)).mono ?_; rintro e w1 ⟨x1, rfl, hx1, hc1, hb1⟩
  have G1 : ButG g w w1 := ButG.refl.trans ((ButG.of (by (repeat (first | exact Below.refl _ _ | refine Below.drew ?_ | refine below_drewN ?_ _ | (refine Below.alloc ?_ (by (try simp) <;> omega) _) | (refine Below.setCell ?_ (by (try simp) <;> omega) _) | (refine Below.trans ?_ (Below.mono (by assumption) (by (try simp) <;> omega)))))) : ButG g w _).trans hb1)
  have g0 : g < w.heap.size := hc.lt
  have k1 := ((Blk.new w 38 #[.int .i64 0, .int .i64 0]).alloc (.cells #[.int .i64 0, .int .i64 1, .int .i64 90, .int .i64 900, .int .i64 1000, .int .i64 7000, .int .i64 1000000] 3)).but hb1 (by omega)
  go_wp2_with fail
  refine (among_any [0, 1, 10, 35, 100, 260, 2500, 1000000] A c L g (n + 2) _ _ _ _ hI hl (by omega) (hc1.next (by (repeat (first | exact Below.refl _ _ | refine Below.drew ?_ | refine below_drewN ?_ _ | (refine Below.alloc ?_ (by (try simp) <;> omega) _) | (refine Below.setCell ?_ (by (try simp) <;> omega) _) | (refine Below.trans ?_ (Below.mono (by assumption) (by (try simp) <;> omega))))))) (by rfl) (by omega) (by omega) (by first | exact Blk.new _ _ _ | exact Blk.new1 _ _ _ _) (by have := hc1.lt; (try simp); omega)).mono ?_; rintro e w2 ⟨x2, rfl, hx2, hc2, hb2⟩
  have G2 : ButG g w w2 := G1.trans ((ButG.of (by (repeat (first | exact Below.refl _ _ | refine Below.drew ?_ | refine below_drewN ?_ _ | (refine Below.alloc ?_ (by (try simp) <;> omega) _) | (refine Below.setCell ?_ (by (try simp) <;> omega) _) | (refine Below.trans ?_ (Below.mono (by assumption) (by (try simp) <;> omega)))))) : ButG g w1 _).trans hb2)
  have k2 := (k1.alloc _).but hb2 (by omega)
  have g2 : g < w2.heap.size := hc2.lt
  have z0 := k2.lt
  go_wp2_with fail
  refine (pick_any A c L g (n + 2 + 2) (48) _ hI hl (by omega) (by omega) (hc2.next (by (repeat (first | exact Below.refl _ _ | refine Below.drew ?_ | refine below_drewN ?_ _ | (refine Below.alloc ?_ (by (try simp) <;> omega) _) | (refine Below.setCell ?_ (by (try simp) <;> omega) _) | (refine Below.trans ?_ (Below.mono (by assumption) (by (try simp) <;> omega)))))))).mono ?_; rintro e w4 ⟨x4, rfl, hx4, hc4, hb4⟩
  have G4 : ButG g w w4 := G2.trans ((ButG.of (by (repeat (first | exact Below.refl _ _ | refine Below.drew ?_ | refine below_drewN ?_ _ | (refine Below.alloc ?_ (by (try simp) <;> omega) _) | (refine Below.setCell ?_ (by (try simp) <;> omega) _) | (refine Below.trans ?_ (Below.mono (by assumption) (by (try simp) <;> omega)))))) : ButG g w2 _).trans hb4)
  have k4 := (k2.alloc _).but hb4 (by omega)
  have j4 := (Blk.new w2 38 #[.int .i64 x1, .int .i64 x2]).but hb4 (by omega)
  clear G1 G2
  have m1 := mem_small hx1 (by decide)
  have m2 := mem_small hx2 (by decide)
  have l4 := j4.lt
  generalize hp : w2.heap.size = p at *
  generalize hq : w.heap.size = q at *
  clear hb1 hb2 hb4 k1 k2 hx1 hx2 hc1 hc2
  have Hp := Lib.hid hp; have Hq := Lib.hid hq
  clear hp hq
  by_cases h5 : x4 = 0
  · have q5 : (x4 == 0) = true := by simpa using h5
    have H5 := Lib.hid h5; clear h5
    go_wp2_with fail
    refine (among_any [-1, 1000001] A c L g (n + 2 + 2 + 2) _ _ _ _ hI hl (by omega) (hc4.next (by (repeat (first | exact Below.refl _ _ | refine Below.drew ?_ | refine below_drewN ?_ _ | (refine Below.alloc ?_ (by (try simp) <;> omega) _) | (refine Below.setCell ?_ (by (try simp) <;> omega) _) | (refine Below.trans ?_ (Below.mono (by assumption) (by (try simp) <;> omega))))))) (by rfl) (by omega) (by omega) (by first | exact Blk.new _ _ _ | exact Blk.new1 _ _ _ _) (by have := hc4.lt; (try simp); omega)).mono ?_; rintro e w5 ⟨x5, rfl, hx5, hc5, hb5⟩
    have G5 : ButG g w w5 := G4.trans ((ButG.of (by (repeat (first | exact Below.refl _ _ | refine Below.drew ?_ | refine below_drewN ?_ _ | (refine Below.alloc ?_ (by (try simp) <;> omega) _) | (refine Below.setCell ?_ (by (try simp) <;> omega) _) | (refine Below.trans ?_ (Below.mono (by assumption) (by (try simp) <;> omega)))))) : ButG g w4 _).trans hb5)
    have k5 := (k4.alloc _).but hb5 (by omega)
    have j5 := (j4.alloc _).but hb5 (by omega)
    have c5 := j5.cell
    have d5 := k5.cell
    have f5 := j5.frozen
    have e5 := k5.frozen
    have m5 := mem_small hx5 (by decide)
    go_wp2
    refine bodyPost_ret (v := .agg #[.int .i64 x5, .int .i64 x2]) (by simp [results, Try.results78, go_sem, *] <;> rfl) rfl ?_
    exact bri_end ⟨m5, m2⟩ hc5 G5 (by have := Hq.out; omega) (by have := Hq.out; omega) (by have := Hq.out; omega) (by omega)
  · have q5 : (x4 == 0) = false := by simpa using h5
    by_cases h6 : x4 = 1
    · have q6 : (x4 == 1) = true := by simpa using h6
      have H6 := Lib.hid h6; clear h5 h6
      go_wp2_with fail
      refine (among_any [-1, 1000001] A c L g (n + 2 + 2 + 2) _ _ _ _ hI hl (by omega) (hc4.next (by (repeat (first | exact Below.refl _ _ | refine Below.drew ?_ | refine below_drewN ?_ _ | (refine Below.alloc ?_ (by (try simp) <;> omega) _) | (refine Below.setCell ?_ (by (try simp) <;> omega) _) | (refine Below.trans ?_ (Below.mono (by assumption) (by (try simp) <;> omega))))))) (by rfl) (by omega) (by omega) (by first | exact Blk.new _ _ _ | exact Blk.new1 _ _ _ _) (by have := hc4.lt; (try simp); omega)).mono ?_; rintro e w5 ⟨x5, rfl, hx5, hc5, hb5⟩
      have G5 : ButG g w w5 := G4.trans ((ButG.of (by (repeat (first | exact Below.refl _ _ | refine Below.drew ?_ | refine below_drewN ?_ _ | (refine Below.alloc ?_ (by (try simp) <;> omega) _) | (refine Below.setCell ?_ (by (try simp) <;> omega) _) | (refine Below.trans ?_ (Below.mono (by assumption) (by (try simp) <;> omega)))))) : ButG g w4 _).trans hb5)
      have k5 := (k4.alloc _).but hb5 (by omega)
      have j5 := (j4.alloc _).but hb5 (by omega)
      have c5 := j5.cell
      have d5 := k5.cell
      have f5 := j5.frozen
      have e5 := k5.frozen
      have m5 := mem_small hx5 (by decide)
      go_wp2
      refine bodyPost_ret (v := .agg #[.int .i64 x1, .int .i64 x5]) (by simp [results, Try.results78, go_sem, *] <;> rfl) rfl ?_
      exact bri_end ⟨m1, m5⟩ hc5 G5 (by have := Hq.out; omega) (by have := Hq.out; omega) (by have := Hq.out; omega) (by omega)
    · have q6 : (x4 == 1) = false := by simpa using h6
      clear h5 h6
      have c5 := j4.cell
      have d5 := k4.cell
      have f5 := j4.frozen
      have e5 := k4.frozen
      go_wp2
      refine bodyPost_ret (v := .agg #[.int .i64 x1, .int .i64 x2]) (by simp [results, Try.results78, go_sem, *] <;> rfl) rfl ?_
      exact bri_end0 ⟨m1, m2⟩ hc4 G4 (by have := Hq.out; omega) (by have := Hq.out; omega) (by omega)

set_option maxHeartbeats 1000000 in
theorem indexOf_any (A : Option Addr) (c : Nat) (L : List Int) (g n : Nat) (m : Int) (w : World) (hI : ∀ x ∈ L, 0 ≤ x ∧ x ≤ 255) (hl : (L.length : Int) ≤ 65536) (hn : n ≤ 800000) (hm0 : 0 ≤ m) (hm : m ≤ 100000) (hc : Cur A c L g n w) :
    Calls Try.prog 80 #[.pointer (some ⟨g, 0, none⟩), .int .i64 m] w (CurI A c L g (n + 4) w Small) := by
  go_enter Try.func80, Try.ntmps80
  go_wp2_with fail
  refine (pick_any A c L g (n) (m + 1) _ hI hl (by omega) (by omega) (hc.next (by (repeat (first | exact Below.refl _ _ | refine Below.drew ?_ | refine below_drewN ?_ _ | (refine Below.alloc ?_ (by (try simp) <;> omega) _) | (refine Below.setCell ?_ (by (try simp) <;> omega) _) | (refine Below.trans ?_ (Below.mono (by assumption) (by (try simp) <;> omega)))))))).mono ?_; rintro e w1 ⟨x1, rfl, hx1, hc1, hb1⟩
  have G1 : ButG g w w1 := ButG.refl.trans ((ButG.of (by (repeat (first | exact Below.refl _ _ | refine Below.drew ?_ | refine below_drewN ?_ _ | (refine Below.alloc ?_ (by (try simp) <;> omega) _) | (refine Below.setCell ?_ (by (try simp) <;> omega) _) | (refine Below.trans ?_ (Below.mono (by assumption) (by (try simp) <;> omega)))))) : ButG g w _).trans hb1)
  obtain ⟨u1, u2⟩ := hx1
  go_wp2_with fail
  refine (pick_any A c L g (n + 2) (17) _ hI hl (by omega) (by omega) (hc1.next (by (repeat (first | exact Below.refl _ _ | refine Below.drew ?_ | refine below_drewN ?_ _ | (refine Below.alloc ?_ (by (try simp) <;> omega) _) | (refine Below.setCell ?_ (by (try simp) <;> omega) _) | (refine Below.trans ?_ (Below.mono (by assumption) (by (try simp) <;> omega)))))))).mono ?_; rintro e w2 ⟨x2, rfl, hx2, hc2, hb2⟩
  have G2 : ButG g w w2 := G1.trans ((ButG.of (by (repeat (first | exact Below.refl _ _ | refine Below.drew ?_ | refine below_drewN ?_ _ | (refine Below.alloc ?_ (by (try simp) <;> omega) _) | (refine Below.setCell ?_ (by (try simp) <;> omega) _) | (refine Below.trans ?_ (Below.mono (by assumption) (by (try simp) <;> omega)))))) : ButG g w1 _).trans hb2)
  obtain ⟨u3, u4⟩ := hx2
  go_wp2
  go_ret
  exact ⟨_, rfl, ⟨by omega, by omega⟩, hc2.mono (by omega), G2⟩

def IsLad (v : Value) (w : World) : Prop := ∃ A c M, v = .slice A M.length c ∧ RungsOk 100 M ∧ SlR f2 2 w w.heap.size A M
def IsLadBri (v : Value) (w : World) : Prop := ∃ A c M s d, v = .tuple #[.slice A M.length c, .agg #[.int .i64 s, .int .i64 d]] ∧ RungsOk 100 M ∧ SlR f2 2 w w.heap.size A M
def IsLadIBri (v : Value) (w : World) : Prop := ∃ A c M i s d, v = .tuple #[.slice A M.length c, .int .i64 i, .agg #[.int .i64 s, .int .i64 d]] ∧ RungsOk 100 M ∧ SlR f2 2 w w.heap.size A M ∧ InI i
def IsLadLad (v : Value) (w : World) : Prop := ∃ A c M A' c' M', v = .tuple #[.slice A M.length c, .slice A' M'.length c'] ∧ (RungsOk 100 M ∧ SlR f2 2 w w.heap.size A M) ∧ RungsOk 100 M' ∧ SlR f2 2 w w.heap.size A' M'
def Is3I (v : Value) (_ : World) : Prop := ∃ x y z : Int, v = .tuple #[.int .i64 x, .int .i64 y, .int .i64 z]

set_option maxHeartbeats 4000000 in
theorem DrawIsLadder_any (A : Option Addr) (c : Nat) (L : List Int) (wo : World) (hI : ∀ x ∈ L, 0 ≤ x ∧ x ≤ 255) (hl : (L.length : Int) ≤ 65536) (hs : SlR fb 1 wo wo.heap.size A L) :
    Calls Try.prog 82 #[.slice A L.length c] wo (DrW IsLad wo) := by
  have hc := cur_new (c := c) (W := wo) hs (Below.refl _ _)
  have hB : Below wo.heap.size wo (wo.alloc (.cells #[.slice A L.length c, .int .i64 0, .int .u64 0] 95)) := by (repeat (first | exact Below.refl _ _ | refine Below.drew ?_ | refine below_drewN ?_ _ | (refine Below.alloc ?_ (by (try simp) <;> omega) _) | (refine Below.setCell ?_ (by (try simp) <;> omega) _) | (refine Below.trans ?_ (Below.mono (by assumption) (by (try simp) <;> omega)))))
  go_enter Try.func82, Try.ntmps82
  go_upto_region 2 with fail
  generalize wo.alloc (.cells #[.slice A L.length c, .int .i64 0, .int .u64 0] 95) = w at *
  generalize hq : wo.heap.size = g at *
  have Hq := Lib.hid hq; clear hq hs
  have hqg : g ≤ g := Nat.le_refl _
  have gg := hc.lt
  go_wp2_with fail
  refine (pick_any A c L g (0) (5) _ hI hl (by omega) (by omega) (hc.next (by (repeat (first | exact Below.refl _ _ | refine Below.drew ?_ | refine below_drewN ?_ _ | (refine Below.alloc ?_ (by (try simp) <;> omega) _) | (refine Below.setCell ?_ (by (try simp) <;> omega) _) | (refine Below.trans ?_ (Below.mono (by assumption) (by (try simp) <;> omega)))))))).mono ?_; rintro e w1 ⟨x1, rfl, hx1, hc1, hb1⟩
  have G1 : ButG g w w1 := ButG.refl.trans ((ButG.of (by (repeat (first | exact Below.refl _ _ | refine Below.drew ?_ | refine below_drewN ?_ _ | (refine Below.alloc ?_ (by (try simp) <;> omega) _) | (refine Below.setCell ?_ (by (try simp) <;> omega) _) | (refine Below.trans ?_ (Below.mono (by assumption) (by (try simp) <;> omega)))))) : ButG g w _).trans hb1)
  obtain ⟨u1, v1⟩ := hx1
  obtain ⟨n1, rfl⟩ := Int.eq_ofNat_of_zero_le u1
  have o0 := Nat.le_refl 0
  go_wp2_with fail
  refine (ladder_any A c L g (0 + 2) (1 + n1) _ hI hl (by omega) (by omega) (hc1.next (by (repeat (first | exact Below.refl _ _ | refine Below.drew ?_ | refine below_drewN ?_ _ | (refine Below.alloc ?_ (by (try simp) <;> omega) _) | (refine Below.setCell ?_ (by (try simp) <;> omega) _) | (refine Below.trans ?_ (Below.mono (by assumption) (by (try simp) <;> omega)))))))).mono ?_; rintro e w2 ⟨A2, c2, M2, rfl, hM2, o2, hc2, hb2⟩
  have G2 : ButG g w w2 := G1.trans ((ButG.of (by (repeat (first | exact Below.refl _ _ | refine Below.drew ?_ | refine below_drewN ?_ _ | (refine Below.alloc ?_ (by (try simp) <;> omega) _) | (refine Below.setCell ?_ (by (try simp) <;> omega) _) | (refine Below.trans ?_ (Below.mono (by assumption) (by (try simp) <;> omega)))))) : ButG g w1 _).trans hb2)
  go_wp2
  go_ret
  exact ⟨_, rfl, ⟨A2, c2, M2, rfl, hM2.mono (by omega), o2.sl⟩, by have := hB.trans (G2.below hqg gg); rw [Hq.out]; exact this⟩

set_option maxHeartbeats 4000000 in
theorem DrawWidestRung_any (A : Option Addr) (c : Nat) (L : List Int) (wo : World) (hI : ∀ x ∈ L, 0 ≤ x ∧ x ≤ 255) (hl : (L.length : Int) ≤ 65536) (hs : SlR fb 1 wo wo.heap.size A L) :
    Calls Try.prog 50 #[.slice A L.length c] wo (DrW IsLad wo) := by
  go_enter Try.func50, Try.ntmps50
  go_wp2_with fail
  refine (DrawIsLadder_any A c L _ hI hl hs).mono ?_; rintro e w1 ⟨v, rfl, ⟨A1, c1, M1, rfl, hM1, s1⟩, hb1⟩
  go_wp2
  go_ret
  exact ⟨_, rfl, ⟨A1, c1, M1, rfl, hM1, s1⟩, hb1⟩

set_option maxHeartbeats 4000000 in
theorem DrawRungsFor_any (A : Option Addr) (c : Nat) (L : List Int) (wo : World) (hI : ∀ x ∈ L, 0 ≤ x ∧ x ≤ 255) (hl : (L.length : Int) ≤ 65536) (hs : SlR fb 1 wo wo.heap.size A L) :
    Calls Try.prog 52 #[.slice A L.length c] wo (DrW IsLadBri wo) := by
  have hc := cur_new1 (c := c) (.cells #[.int .i64 0, .int .i64 0] 38) hs
  have kR := (Blk.new wo 38 #[.int .i64 0, .int .i64 0]).alloc (.cells #[.slice A L.length c, .int .i64 0, .int .u64 0] 95)
  have hB : Below wo.heap.size wo ((wo.alloc (.cells #[.int .i64 0, .int .i64 0] 38)).alloc (.cells #[.slice A L.length c, .int .i64 0, .int .u64 0] 95)) := by (repeat (first | exact Below.refl _ _ | refine Below.drew ?_ | refine below_drewN ?_ _ | (refine Below.alloc ?_ (by (try simp) <;> omega) _) | (refine Below.setCell ?_ (by (try simp) <;> omega) _) | (refine Below.trans ?_ (Below.mono (by assumption) (by (try simp) <;> omega)))))
  go_enter Try.func52, Try.ntmps52
  go_upto_region 2 with fail
  generalize (wo.alloc (.cells #[.int .i64 0, .int .i64 0] 38)).alloc (.cells #[.slice A L.length c, .int .i64 0, .int .u64 0] 95) = w at *
  generalize hg : wo.heap.size + 1 = g at *
  generalize hq : wo.heap.size = q at *
  have Hq := Lib.hid hq; have hne : q ≠ g := by omega
  have hqg : q ≤ g := by omega
  clear hq hg hs
  have gg := hc.lt
  go_wp2_with fail
  refine (pick_any A c L g (0) (5) _ hI hl (by omega) (by omega) (hc.next (by (repeat (first | exact Below.refl _ _ | refine Below.drew ?_ | refine below_drewN ?_ _ | (refine Below.alloc ?_ (by (try simp) <;> omega) _) | (refine Below.setCell ?_ (by (try simp) <;> omega) _) | (refine Below.trans ?_ (Below.mono (by assumption) (by (try simp) <;> omega)))))))).mono ?_; rintro e w1 ⟨x1, rfl, hx1, hc1, hb1⟩
  have G1 : ButG g w w1 := ButG.refl.trans ((ButG.of (by (repeat (first | exact Below.refl _ _ | refine Below.drew ?_ | refine below_drewN ?_ _ | (refine Below.alloc ?_ (by (try simp) <;> omega) _) | (refine Below.setCell ?_ (by (try simp) <;> omega) _) | (refine Below.trans ?_ (Below.mono (by assumption) (by (try simp) <;> omega)))))) : ButG g w _).trans hb1)
  obtain ⟨u1, v1⟩ := hx1
  obtain ⟨n1, rfl⟩ := Int.eq_ofNat_of_zero_le u1
  go_wp2_with fail
  refine (ladder_any A c L g (0 + 2) (1 + n1) _ hI hl (by omega) (by omega) (hc1.next (by (repeat (first | exact Below.refl _ _ | refine Below.drew ?_ | refine below_drewN ?_ _ | (refine Below.alloc ?_ (by (try simp) <;> omega) _) | (refine Below.setCell ?_ (by (try simp) <;> omega) _) | (refine Below.trans ?_ (Below.mono (by assumption) (by (try simp) <;> omega)))))))).mono ?_; rintro e w2 ⟨A2, c2, M2, rfl, hM2, o2, hc2, hb2⟩
  have G2 : ButG g w w2 := G1.trans ((ButG.of (by (repeat (first | exact Below.refl _ _ | refine Below.drew ?_ | refine below_drewN ?_ _ | (refine Below.alloc ?_ (by (try simp) <;> omega) _) | (refine Below.setCell ?_ (by (try simp) <;> omega) _) | (refine Below.trans ?_ (Below.mono (by assumption) (by (try simp) <;> omega)))))) : ButG g w1 _).trans hb2)
  go_wp2_with fail
  refine (brine_any A c L g (0 + 2 + 6 * (1 + n1) + 60) _ hI hl (by omega) (hc2.next (by (repeat (first | exact Below.refl _ _ | refine Below.drew ?_ | refine below_drewN ?_ _ | (refine Below.alloc ?_ (by (try simp) <;> omega) _) | (refine Below.setCell ?_ (by (try simp) <;> omega) _) | (refine Below.trans ?_ (Below.mono (by assumption) (by (try simp) <;> omega)))))))).mono ?_; rintro e w3 ⟨s3, d3, rfl, m3, hc3, hb3⟩
  have G3 : ButG g w w3 := G2.trans ((ButG.of (by (repeat (first | exact Below.refl _ _ | refine Below.drew ?_ | refine below_drewN ?_ _ | (refine Below.alloc ?_ (by (try simp) <;> omega) _) | (refine Below.setCell ?_ (by (try simp) <;> omega) _) | (refine Below.trans ?_ (Below.mono (by assumption) (by (try simp) <;> omega)))))) : ButG g w2 _).trans hb3)
  have o3 : OwnR f2 2 67 w3 w1.heap.size A2 M2 := o2.but (by have := hc1.lt; omega) hb3
  have kZ := kR.but G3 hne
  have lq := kR.lt
  have cR := kZ.cell
  have fR := kZ.frozen
  have hw : Below q wo w3 := hB.trans (G3.below hqg hc.lt)
  have HW := Lib.hid hw; clear hw
  have O3 := Lib.hid o3; clear o3
  have l1 : q < w1.heap.size := by have := G1.size; omega
  go_wp2
  refine bodyPost_ret (v := .tuple #[.slice A2 M2.length c2, .agg #[.int .i64 s3, .int .i64 d3]]) (by simp [results, Try.results52, go_sem, *] <;> rfl) rfl ?_
  have o4 : SlR f2 2 ((w3.setCell ⟨q, 0, none⟩ (.int .i64 s3)).setCell ⟨q, 1, none⟩ (.int .i64 d3)) ((w3.setCell ⟨q, 0, none⟩ (.int .i64 s3)).setCell ⟨q, 1, none⟩ (.int .i64 d3)).heap.size A2 M2 := by
    have h1 : OwnR f2 2 67 ((w3.setCell ⟨q, 0, none⟩ (.int .i64 s3)).setCell ⟨q, 1, none⟩ (.int .i64 d3)) w1.heap.size A2 M2 := (O3.out.below_ (FarQ.set (FarQ.set FarQ.refl)) l1)
    exact h1.sl
  exact ⟨_, rfl, ⟨A2, c2, M2, s3, d3, rfl, hM2.mono (by omega), o4⟩, by have := HW.out; rw [Hq.out]; exact (this.setCell (Nat.le_refl _) _).setCell (Nat.le_refl _) _⟩

set_option maxHeartbeats 4000000 in
theorem DrawEvenLadder_any (A : Option Addr) (c : Nat) (L : List Int) (wo : World) (hI : ∀ x ∈ L, 0 ≤ x ∧ x ≤ 255) (hl : (L.length : Int) ≤ 65536) (hs : SlR fb 1 wo wo.heap.size A L) :
    Calls Try.prog 48 #[.slice A L.length c] wo (DrW Is3I wo) := by
  have hc := cur_new (c := c) (W := wo) hs (Below.refl _ _)
  have hB : Below wo.heap.size wo (wo.alloc (.cells #[.slice A L.length c, .int .i64 0, .int .u64 0] 95)) := by (repeat (first | exact Below.refl _ _ | refine Below.drew ?_ | refine below_drewN ?_ _ | (refine Below.alloc ?_ (by (try simp) <;> omega) _) | (refine Below.setCell ?_ (by (try simp) <;> omega) _) | (refine Below.trans ?_ (Below.mono (by assumption) (by (try simp) <;> omega)))))
  go_enter Try.func48, Try.ntmps48
  go_upto_region 2 with fail
  generalize wo.alloc (.cells #[.slice A L.length c, .int .i64 0, .int .u64 0] 95) = w at *
  generalize hq : wo.heap.size = g at *
  have Hq := Lib.hid hq; clear hq hs
  have hqg : g ≤ g := Nat.le_refl _
  have gg := hc.lt
  go_wp2_with fail
  refine (among_any [0, 10, 35, 1000, -1] A c L g (0) _ _ _ _ hI hl (by omega) (hc.next (by (repeat (first | exact Below.refl _ _ | refine Below.drew ?_ | refine below_drewN ?_ _ | (refine Below.alloc ?_ (by (try simp) <;> omega) _) | (refine Below.setCell ?_ (by (try simp) <;> omega) _) | (refine Below.trans ?_ (Below.mono (by assumption) (by (try simp) <;> omega))))))) (by rfl) (by omega) (by omega) (by first | exact Blk.new _ _ _ | exact Blk.new1 _ _ _ _) (by have := hc.lt; (try simp); omega)).mono ?_; rintro e w1 ⟨x1, rfl, hx1, hc1, hb1⟩
  have G1 : ButG g w w1 := ButG.refl.trans ((ButG.of (by (repeat (first | exact Below.refl _ _ | refine Below.drew ?_ | refine below_drewN ?_ _ | (refine Below.alloc ?_ (by (try simp) <;> omega) _) | (refine Below.setCell ?_ (by (try simp) <;> omega) _) | (refine Below.trans ?_ (Below.mono (by assumption) (by (try simp) <;> omega)))))) : ButG g w _).trans hb1)
  have m1 := mem_small hx1 (by decide)
  go_wp2_with fail
  refine (among_any [1, 2, 3, 5, 8, 0, 9] A c L g (0 + 2) _ _ _ _ hI hl (by omega) (hc1.next (by (repeat (first | exact Below.refl _ _ | refine Below.drew ?_ | refine below_drewN ?_ _ | (refine Below.alloc ?_ (by (try simp) <;> omega) _) | (refine Below.setCell ?_ (by (try simp) <;> omega) _) | (refine Below.trans ?_ (Below.mono (by assumption) (by (try simp) <;> omega))))))) (by rfl) (by omega) (by omega) (by first | exact Blk.new _ _ _ | exact Blk.new1 _ _ _ _) (by have := hc1.lt; (try simp); omega)).mono ?_; rintro e w2 ⟨x2, rfl, hx2, hc2, hb2⟩
  have G2 : ButG g w w2 := G1.trans ((ButG.of (by (repeat (first | exact Below.refl _ _ | refine Below.drew ?_ | refine below_drewN ?_ _ | (refine Below.alloc ?_ (by (try simp) <;> omega) _) | (refine Below.setCell ?_ (by (try simp) <;> omega) _) | (refine Below.trans ?_ (Below.mono (by assumption) (by (try simp) <;> omega)))))) : ButG g w1 _).trans hb2)
  go_wp2_with fail
  refine (among_any [0, 7, 100, 965, 1000, -1] A c L g (0 + 2 + 2) _ _ _ _ hI hl (by omega) (hc2.next (by (repeat (first | exact Below.refl _ _ | refine Below.drew ?_ | refine below_drewN ?_ _ | (refine Below.alloc ?_ (by (try simp) <;> omega) _) | (refine Below.setCell ?_ (by (try simp) <;> omega) _) | (refine Below.trans ?_ (Below.mono (by assumption) (by (try simp) <;> omega))))))) (by rfl) (by omega) (by omega) (by first | exact Blk.new _ _ _ | exact Blk.new1 _ _ _ _) (by have := hc2.lt; (try simp); omega)).mono ?_; rintro e w3 ⟨x3, rfl, hx3, hc3, hb3⟩
  have G3 : ButG g w w3 := G2.trans ((ButG.of (by (repeat (first | exact Below.refl _ _ | refine Below.drew ?_ | refine below_drewN ?_ _ | (refine Below.alloc ?_ (by (try simp) <;> omega) _) | (refine Below.setCell ?_ (by (try simp) <;> omega) _) | (refine Below.trans ?_ (Below.mono (by assumption) (by (try simp) <;> omega)))))) : ButG g w2 _).trans hb3)
  have m3 := mem_small hx3 (by decide)
  go_wp2
  go_ret3
  exact ⟨_, rfl, ⟨x2, x1, _, rfl⟩, by have := hB.trans (G3.below hqg gg); rw [Hq.out]; exact this⟩

set_option maxHeartbeats 4000000 in
theorem DrawJoinLadders_any (A : Option Addr) (c : Nat) (L : List Int) (wo : World) (hI : ∀ x ∈ L, 0 ≤ x ∧ x ≤ 255) (hl : (L.length : Int) ≤ 65536) (hs : SlR fb 1 wo wo.heap.size A L) :
    Calls Try.prog 51 #[.slice A L.length c] wo (DrW IsLadLad wo) := by
  have hc := cur_new (c := c) (W := wo) hs (Below.refl _ _)
  have hB : Below wo.heap.size wo (wo.alloc (.cells #[.slice A L.length c, .int .i64 0, .int .u64 0] 95)) := by (repeat (first | exact Below.refl _ _ | refine Below.drew ?_ | refine below_drewN ?_ _ | (refine Below.alloc ?_ (by (try simp) <;> omega) _) | (refine Below.setCell ?_ (by (try simp) <;> omega) _) | (refine Below.trans ?_ (Below.mono (by assumption) (by (try simp) <;> omega)))))
  go_enter Try.func51, Try.ntmps51
  go_upto_region 2 with fail
  generalize wo.alloc (.cells #[.slice A L.length c, .int .i64 0, .int .u64 0] 95) = w at *
  generalize hq : wo.heap.size = g at *
  have Hq := Lib.hid hq; clear hq hs
  have hqg : g ≤ g := Nat.le_refl _
  have gg := hc.lt
  go_wp2_with fail
  refine (pick_any A c L g (0) (4) _ hI hl (by omega) (by omega) (hc.next (by (repeat (first | exact Below.refl _ _ | refine Below.drew ?_ | refine below_drewN ?_ _ | (refine Below.alloc ?_ (by (try simp) <;> omega) _) | (refine Below.setCell ?_ (by (try simp) <;> omega) _) | (refine Below.trans ?_ (Below.mono (by assumption) (by (try simp) <;> omega)))))))).mono ?_; rintro e w1 ⟨x1, rfl, hx1, hc1, hb1⟩
  have G1 : ButG g w w1 := ButG.refl.trans ((ButG.of (by (repeat (first | exact Below.refl _ _ | refine Below.drew ?_ | refine below_drewN ?_ _ | (refine Below.alloc ?_ (by (try simp) <;> omega) _) | (refine Below.setCell ?_ (by (try simp) <;> omega) _) | (refine Below.trans ?_ (Below.mono (by assumption) (by (try simp) <;> omega)))))) : ButG g w _).trans hb1)
  obtain ⟨u1, v1⟩ := hx1
  obtain ⟨n1, rfl⟩ := Int.eq_ofNat_of_zero_le u1
  go_wp2_with fail
  refine (one_any A c L g (0 + 2) 8 _ hI hl (by omega) (by omega) (hc1.next (by (repeat (first | exact Below.refl _ _ | refine Below.drew ?_ | refine below_drewN ?_ _ | (refine Below.alloc ?_ (by (try simp) <;> omega) _) | (refine Below.setCell ?_ (by (try simp) <;> omega) _) | (refine Below.trans ?_ (Below.mono (by assumption) (by (try simp) <;> omega)))))))).mono ?_; rintro e w2 ⟨x2, rfl, hc2, hb2⟩
  have G2 : ButG g w w2 := G1.trans ((ButG.of (by (repeat (first | exact Below.refl _ _ | refine Below.drew ?_ | refine below_drewN ?_ _ | (refine Below.alloc ?_ (by (try simp) <;> omega) _) | (refine Below.setCell ?_ (by (try simp) <;> omega) _) | (refine Below.trans ?_ (Below.mono (by assumption) (by (try simp) <;> omega)))))) : ButG g w1 _).trans hb2)
  cases x2
  · go_wp2_with fail
    refine (ladder_any A c L g (0 + 2 + 2) (1 + n1) _ hI hl (by omega) (by omega) (hc2.next (by (repeat (first | exact Below.refl _ _ | refine Below.drew ?_ | refine below_drewN ?_ _ | (refine Below.alloc ?_ (by (try simp) <;> omega) _) | (refine Below.setCell ?_ (by (try simp) <;> omega) _) | (refine Below.trans ?_ (Below.mono (by assumption) (by (try simp) <;> omega)))))))).mono ?_; rintro e w3 ⟨A3, c3, M3, rfl, hM3, o3, hc3, hb3⟩
    have G3 : ButG g w w3 := G2.trans ((ButG.of (by (repeat (first | exact Below.refl _ _ | refine Below.drew ?_ | refine below_drewN ?_ _ | (refine Below.alloc ?_ (by (try simp) <;> omega) _) | (refine Below.setCell ?_ (by (try simp) <;> omega) _) | (refine Below.trans ?_ (Below.mono (by assumption) (by (try simp) <;> omega)))))) : ButG g w2 _).trans hb3)
    go_wp2_with fail
    refine (ladder_any A c L g (0 + 2 + 2 + 6 * (1 + n1) + 60) (1 + n1) _ hI hl (by omega) (by omega) (hc3.next (by (repeat (first | exact Below.refl _ _ | refine Below.drew ?_ | refine below_drewN ?_ _ | (refine Below.alloc ?_ (by (try simp) <;> omega) _) | (refine Below.setCell ?_ (by (try simp) <;> omega) _) | (refine Below.trans ?_ (Below.mono (by assumption) (by (try simp) <;> omega)))))))).mono ?_; rintro e w4 ⟨A4, c4, M4, rfl, hM4, o4, hc4, hb4⟩
    have G4 : ButG g w w4 := G3.trans ((ButG.of (by (repeat (first | exact Below.refl _ _ | refine Below.drew ?_ | refine below_drewN ?_ _ | (refine Below.alloc ?_ (by (try simp) <;> omega) _) | (refine Below.setCell ?_ (by (try simp) <;> omega) _) | (refine Below.trans ?_ (Below.mono (by assumption) (by (try simp) <;> omega)))))) : ButG g w3 _).trans hb4)
    have o5 : OwnR f2 2 67 w4 w2.heap.size A3 M3 := o3.but (by have := hc2.lt; omega) hb4
    go_wp2
    go_ret2
    exact ⟨_, rfl, ⟨A3, c3, M3, A4, c4, M4, rfl, ⟨hM3.mono (by omega), o5.sl⟩, hM4.mono (by omega), o4.sl⟩, by have := hB.trans (G4.below hqg gg); rw [Hq.out]; exact this⟩
  · go_wp2_with fail
    refine (ladder_any A c L g (0 + 2 + 2) (1 + n1) _ hI hl (by omega) (by omega) (hc2.next (by (repeat (first | exact Below.refl _ _ | refine Below.drew ?_ | refine below_drewN ?_ _ | (refine Below.alloc ?_ (by (try simp) <;> omega) _) | (refine Below.setCell ?_ (by (try simp) <;> omega) _) | (refine Below.trans ?_ (Below.mono (by assumption) (by (try simp) <;> omega)))))))).mono ?_; rintro e w3 ⟨A3, c3, M3, rfl, hM3, o3, hc3, hb3⟩
    have G3 : ButG g w w3 := G2.trans ((ButG.of (by (repeat (first | exact Below.refl _ _ | refine Below.drew ?_ | refine below_drewN ?_ _ | (refine Below.alloc ?_ (by (try simp) <;> omega) _) | (refine Below.setCell ?_ (by (try simp) <;> omega) _) | (refine Below.trans ?_ (Below.mono (by assumption) (by (try simp) <;> omega)))))) : ButG g w2 _).trans hb3)
    go_wp2_with fail
    refine (ladder_any A c L g (0 + 2 + 2 + 6 * (1 + n1) + 60) (1 + n1 + 1) _ hI hl (by omega) (by omega) (hc3.next (by (repeat (first | exact Below.refl _ _ | refine Below.drew ?_ | refine below_drewN ?_ _ | (refine Below.alloc ?_ (by (try simp) <;> omega) _) | (refine Below.setCell ?_ (by (try simp) <;> omega) _) | (refine Below.trans ?_ (Below.mono (by assumption) (by (try simp) <;> omega)))))))).mono ?_; rintro e w4 ⟨A4, c4, M4, rfl, hM4, o4, hc4, hb4⟩
    have G4 : ButG g w w4 := G3.trans ((ButG.of (by (repeat (first | exact Below.refl _ _ | refine Below.drew ?_ | refine below_drewN ?_ _ | (refine Below.alloc ?_ (by (try simp) <;> omega) _) | (refine Below.setCell ?_ (by (try simp) <;> omega) _) | (refine Below.trans ?_ (Below.mono (by assumption) (by (try simp) <;> omega)))))) : ButG g w3 _).trans hb4)
    have o5 : OwnR f2 2 67 w4 w2.heap.size A3 M3 := o3.but (by have := hc2.lt; omega) hb4
    go_wp2
    go_ret2
    exact ⟨_, rfl, ⟨A3, c3, M3, A4, c4, M4, rfl, ⟨hM3.mono (by omega), o5.sl⟩, hM4.mono (by omega), o4.sl⟩, by have := hB.trans (G4.below hqg gg); rw [Hq.out]; exact this⟩

end Go.Proofs.Ythhjbdhglaombaa
