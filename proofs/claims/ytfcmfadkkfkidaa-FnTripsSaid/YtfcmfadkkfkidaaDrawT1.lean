/-
  The cursor's trip.
-/
import Derived.Test.YtfcmfadkkfkidaaDrw
import Derived.Test.YtfcmfadkkfkidaaOtw1
import Derived.Deep.DeepCutAuto
import Derived.WalkKit
import Derived.WalkSpells
import Derived.WalkLawsBesides
import Derived.Lib.Hide
import Derived.Deep.QuietTactic
import Derived.BigQuiet
import Derived.StillTailTactics
namespace Go.Proofs.Ytfcmfadkkfkidaa
open Go.RowKit

/-- A trip of small ints. -/
def SmT (t : T5) : Prop := Small t.1 ∧ Small t.2.1 ∧ Small t.2.2.1 ∧ Small t.2.2.2.1 ∧ Small t.2.2.2.2
theorem SmT.inI {t : T5} (h : SmT t) : InI5 t := ⟨h.1.inI, h.2.1.inI, h.2.2.1.inI, h.2.2.2.1.inI, h.2.2.2.2.inI⟩
/-- The cursor hands back a trip of small ints. -/
def CurT (A : Option Addr) (c : Nat) (L : List Int) (g n : Nat) (w : World) (e : Ending) (w' : World) : Prop :=
  ∃ t : T5, e = .returned (tripV t.1 t.2.1 t.2.2.1 t.2.2.2.1 t.2.2.2.2) ∧ SmT t ∧ Cur A c L g n w' ∧ ButG g w w'
theorem trip_end {A : Option Addr} {c : Nat} {L : List Int} {g n n' p q : Nat} {w w1 : World} {y0 y1 y2 y3 y4 : Int} {o : Nat} {u : Value} (hm : SmT (y0, y1, y2, y3, y4)) (hc : Cur A c L g n w1) (hG : ButG g w w1) (hg : g < w.heap.size) (hq : w.heap.size ≤ q) (hp : w.heap.size ≤ p) (hn : n ≤ n') :
    CurT A c L g n' w (.returned (.agg #[.int .i64 y0, .int .i64 y1, .int .i64 y2, .int .i64 y3, .int .i64 y4])) ((((((w1.setCell ⟨p, o, none⟩ u).setCell ⟨q, 0, none⟩ (.int .i64 y0)).setCell ⟨q, 1, none⟩ (.int .i64 y1)).setCell ⟨q, 2, none⟩ (.int .i64 y2)).setCell ⟨q, 3, none⟩ (.int .i64 y3)).setCell ⟨q, 4, none⟩ (.int .i64 y4)) :=
  ⟨(y0, y1, y2, y3, y4), rfl, hm, (cur_far (cur_far (cur_far (cur_far (cur_far (cur_far hc (by omega) _ _) (by omega) _ _) (by omega) _ _) (by omega) _ _) (by omega) _ _) (by omega) _ _).mono hn, (butNew (butNew (butNew (butNew (butNew (butNew hG hp _ _) hq _ _) hq _ _) hq _ _) hq _ _) hq _ _)⟩
theorem trip_end0 {A : Option Addr} {c : Nat} {L : List Int} {g n n' q : Nat} {w w1 : World} {y0 y1 y2 y3 y4 : Int} (hm : SmT (y0, y1, y2, y3, y4)) (hc : Cur A c L g n w1) (hG : ButG g w w1) (hg : g < w.heap.size) (hq : w.heap.size ≤ q) (hn : n ≤ n') :
    CurT A c L g n' w (.returned (.agg #[.int .i64 y0, .int .i64 y1, .int .i64 y2, .int .i64 y3, .int .i64 y4])) (((((w1.setCell ⟨q, 0, none⟩ (.int .i64 y0)).setCell ⟨q, 1, none⟩ (.int .i64 y1)).setCell ⟨q, 2, none⟩ (.int .i64 y2)).setCell ⟨q, 3, none⟩ (.int .i64 y3)).setCell ⟨q, 4, none⟩ (.int .i64 y4)) :=
  ⟨(y0, y1, y2, y3, y4), rfl, hm, (cur_far (cur_far (cur_far (cur_far (cur_far hc (by omega) _ _) (by omega) _ _) (by omega) _ _) (by omega) _ _) (by omega) _ _).mono hn, (butNew (butNew (butNew (butNew (butNew hG hq _ _) hq _ _) hq _ _) hq _ _) hq _ _)⟩

set_option maxRecDepth 20000 in
set_option maxHeartbeats 8000000 in
theorem trip_any (A : Option Addr) (c : Nat) (L : List Int) (g n : Nat) (id : Int) (w : World) (hI : ∀ x ∈ L, 0 ≤ x ∧ x ≤ 255) (hl : (L.length : Int) ≤ 65536) (hn : n ≤ 800000) (hid : Small id) (hc : Cur A c L g n w) :
    Calls Try.prog 93 #[.pointer (some ⟨g, 0, none⟩), .int .i64 id] w (CurT A c L g (n + 12) w) := by
  go_enter Try.func93, Try.ntmps93
  go_wp2_with fail
  refine (among_any [0, 0, 2, 5, 9] A c L g (n) _ _ _ _ hI hl (by omega) (hc.next (by (repeat (first | exact Below.refl _ _ | refine Below.drew ?_ | refine below_drewN ?_ _ | (refine Below.alloc ?_ (by (try simp) <;> omega) _) | (refine Below.setCell ?_ (by (try simp) <;> omega) _) | (refine Below.trans ?_ (Below.mono (by assumption) (by (try simp) <;> omega))))))) (by rfl) (by omega) (by omega) (by first | exact Blk.new _ _ _ | exact Blk.new1 _ _ _ _) (by have := hc.lt; (try simp); omega)).mono ?_; rintro e w1 ⟨x1, rfl, hx1, hc1, hb1⟩
  have G1 : ButG g w w1 := ButG.refl.trans ((ButG.of (by (repeat (first | exact Below.refl _ _ | refine Below.drew ?_ | refine below_drewN ?_ _ | (refine Below.alloc ?_ (by (try simp) <;> omega) _) | (refine Below.setCell ?_ (by (try simp) <;> omega) _) | (refine Below.trans ?_ (Below.mono (by assumption) (by (try simp) <;> omega)))))) : ButG g w _).trans hb1)
  have g0 : g < w.heap.size := hc.lt
  have kq := ((Blk.new w 25 #[.int .i64 0, .int .i64 0, .int .i64 0, .int .i64 0, .int .i64 0]).alloc (.cells #[.int .i64 0, .int .i64 0, .int .i64 2, .int .i64 5, .int .i64 9] 3)).but hb1 (by omega)
  go_wp2_with fail
  refine (among_any [1, 3, 5, 8, 9] A c L g (n + 2) _ _ _ _ hI hl (by omega) (hc1.next (by (repeat (first | exact Below.refl _ _ | refine Below.drew ?_ | refine below_drewN ?_ _ | (refine Below.alloc ?_ (by (try simp) <;> omega) _) | (refine Below.setCell ?_ (by (try simp) <;> omega) _) | (refine Below.trans ?_ (Below.mono (by assumption) (by (try simp) <;> omega))))))) (by rfl) (by omega) (by omega) (by first | exact Blk.new _ _ _ | exact Blk.new1 _ _ _ _) (by have := hc1.lt; (try simp); omega)).mono ?_; rintro e w2 ⟨x2, rfl, hx2, hc2, hb2⟩
  have G2 : ButG g w w2 := G1.trans ((ButG.of (by (repeat (first | exact Below.refl _ _ | refine Below.drew ?_ | refine below_drewN ?_ _ | (refine Below.alloc ?_ (by (try simp) <;> omega) _) | (refine Below.setCell ?_ (by (try simp) <;> omega) _) | (refine Below.trans ?_ (Below.mono (by assumption) (by (try simp) <;> omega)))))) : ButG g w1 _).trans hb2)
  have kq2 := (kq.alloc _).but hb2 (by omega)
  go_wp2_with fail
  refine (among_any [0, 480, 480, 484, 490, 500, 520, 1400] A c L g (n + 2 + 2) _ _ _ _ hI hl (by omega) (hc2.next (by (repeat (first | exact Below.refl _ _ | refine Below.drew ?_ | refine below_drewN ?_ _ | (refine Below.alloc ?_ (by (try simp) <;> omega) _) | (refine Below.setCell ?_ (by (try simp) <;> omega) _) | (refine Below.trans ?_ (Below.mono (by assumption) (by (try simp) <;> omega))))))) (by rfl) (by omega) (by omega) (by first | exact Blk.new _ _ _ | exact Blk.new1 _ _ _ _) (by have := hc2.lt; (try simp); omega)).mono ?_; rintro e w3 ⟨x3, rfl, hx3, hc3, hb3⟩
  have G3 : ButG g w w3 := G2.trans ((ButG.of (by (repeat (first | exact Below.refl _ _ | refine Below.drew ?_ | refine below_drewN ?_ _ | (refine Below.alloc ?_ (by (try simp) <;> omega) _) | (refine Below.setCell ?_ (by (try simp) <;> omega) _) | (refine Below.trans ?_ (Below.mono (by assumption) (by (try simp) <;> omega)))))) : ButG g w2 _).trans hb3)
  have kq3 := (kq2.alloc _).but hb3 (by omega)
  go_wp2_with fail
  refine (among_any [0, 1, 3, 8] A c L g (n + 2 + 2 + 2) _ _ _ _ hI hl (by omega) (hc3.next (by (repeat (first | exact Below.refl _ _ | refine Below.drew ?_ | refine below_drewN ?_ _ | (refine Below.alloc ?_ (by (try simp) <;> omega) _) | (refine Below.setCell ?_ (by (try simp) <;> omega) _) | (refine Below.trans ?_ (Below.mono (by assumption) (by (try simp) <;> omega))))))) (by rfl) (by omega) (by omega) (by first | exact Blk.new _ _ _ | exact Blk.new1 _ _ _ _) (by have := hc3.lt; (try simp); omega)).mono ?_; rintro e w4 ⟨x4, rfl, hx4, hc4, hb4⟩
  have G4 : ButG g w w4 := G3.trans ((ButG.of (by (repeat (first | exact Below.refl _ _ | refine Below.drew ?_ | refine below_drewN ?_ _ | (refine Below.alloc ?_ (by (try simp) <;> omega) _) | (refine Below.setCell ?_ (by (try simp) <;> omega) _) | (refine Below.trans ?_ (Below.mono (by assumption) (by (try simp) <;> omega)))))) : ButG g w3 _).trans hb4)
  have kq4 := (kq3.alloc _).but hb4 (by omega)
  have g4 : g < w4.heap.size := hc4.lt
  go_wp2_with fail
  refine (pick_any A c L g (n + 2 + 2 + 2 + 2) (90) _ hI hl (by omega) (by omega) (hc4.next (by (repeat (first | exact Below.refl _ _ | refine Below.drew ?_ | refine below_drewN ?_ _ | (refine Below.alloc ?_ (by (try simp) <;> omega) _) | (refine Below.setCell ?_ (by (try simp) <;> omega) _) | (refine Below.trans ?_ (Below.mono (by assumption) (by (try simp) <;> omega)))))))).mono ?_; rintro e w5 ⟨x5, rfl, hx5, hc5, hb5⟩
  have G5 : ButG g w w5 := G4.trans ((ButG.of (by (repeat (first | exact Below.refl _ _ | refine Below.drew ?_ | refine below_drewN ?_ _ | (refine Below.alloc ?_ (by (try simp) <;> omega) _) | (refine Below.setCell ?_ (by (try simp) <;> omega) _) | (refine Below.trans ?_ (Below.mono (by assumption) (by (try simp) <;> omega)))))) : ButG g w4 _).trans hb5)
  have k5 := (kq4.alloc _).but hb5 (by omega)
  have j5 := (Blk.new w4 25 #[.int .i64 id, .int .i64 x1, .int .i64 x2, .int .i64 x3, .int .i64 x4]).but hb5 (by omega)
  have m1 := mem_small hx1 (by decide)
  have m2 := mem_small hx2 (by decide)
  have m3 := mem_small hx3 (by decide)
  have m4 := mem_small hx4 (by decide)
  have z4 := kq4.lt
  have l5 := j5.lt
  have l6 := k5.lt
  clear G1 G2 G3 G4
  generalize hp : w4.heap.size = p at *
  generalize hq : w.heap.size = q at *
  clear hb1 hb2 hb3 hb4 hb5 kq kq2 kq3 kq4 hx1 hx2 hx3 hx4 hc1 hc2 hc3 hc4
  have Hp := Lib.hid hp; have Hq := Lib.hid hq
  clear hp hq
  obtain ⟨hx50, hx51⟩ := hx5
  by_cases h0 : x5 = 0
  · have q0 : (x5 == 0) = true := by simpa using h0
    have H0 := Lib.hid h0; clear h0 hx50 hx51
    go_wp2_with fail
    refine (among_any [0, 99, 100] A c L g (n + 2 + 2 + 2 + 2 + 2) _ _ _ _ hI hl (by omega) (hc5.next (by (repeat (first | exact Below.refl _ _ | refine Below.drew ?_ | refine below_drewN ?_ _ | (refine Below.alloc ?_ (by (try simp) <;> omega) _) | (refine Below.setCell ?_ (by (try simp) <;> omega) _) | (refine Below.trans ?_ (Below.mono (by assumption) (by (try simp) <;> omega))))))) (by rfl) (by omega) (by omega) (by first | exact Blk.new _ _ _ | exact Blk.new1 _ _ _ _) (by have := hc5.lt; (try simp); omega)).mono ?_; rintro e w6 ⟨x6, rfl, hx6, hc6, hb6⟩
    have G6 : ButG g w w6 := G5.trans ((ButG.of (by (repeat (first | exact Below.refl _ _ | refine Below.drew ?_ | refine below_drewN ?_ _ | (refine Below.alloc ?_ (by (try simp) <;> omega) _) | (refine Below.setCell ?_ (by (try simp) <;> omega) _) | (refine Below.trans ?_ (Below.mono (by assumption) (by (try simp) <;> omega)))))) : ButG g w5 _).trans hb6)
    have k6 := (k5.alloc _).but hb6 (by omega)
    have j6 := (j5.alloc _).but hb6 (by omega)
    have m6 : Small x6 := mem_small hx6 (by decide)
    clear hb6 hc5 G5 k5 j5 hx6
    have c6 := j6.cell
    have d6 := k6.cell
    have f6 := j6.frozen
    have e6 := k6.frozen
    go_wp2
    refine bodyPost_ret (v := .agg #[.int .i64 x6, .int .i64 x1, .int .i64 x2, .int .i64 x3, .int .i64 x4]) (by simp [results, Try.results93, go_sem, *] <;> rfl) rfl ?_
    exact trip_end ⟨m6, m1, m2, m3, m4⟩ hc6 G6 (by have := Hq.out; omega) (by have := Hq.out; omega) (by have := Hq.out; omega) (by omega)
  have q0 : (x5 == 0) = false := by simpa using h0
  by_cases h1 : x5 = 1
  · have q1 : (x5 == 1) = true := by simpa using h1
    have H1 := Lib.hid h1; clear h1 hx50 hx51
    go_wp2_with fail
    refine (among_any [-1, 10] A c L g (n + 2 + 2 + 2 + 2 + 2) _ _ _ _ hI hl (by omega) (hc5.next (by (repeat (first | exact Below.refl _ _ | refine Below.drew ?_ | refine below_drewN ?_ _ | (refine Below.alloc ?_ (by (try simp) <;> omega) _) | (refine Below.setCell ?_ (by (try simp) <;> omega) _) | (refine Below.trans ?_ (Below.mono (by assumption) (by (try simp) <;> omega))))))) (by rfl) (by omega) (by omega) (by first | exact Blk.new _ _ _ | exact Blk.new1 _ _ _ _) (by have := hc5.lt; (try simp); omega)).mono ?_; rintro e w6 ⟨x6, rfl, hx6, hc6, hb6⟩
    have G6 : ButG g w w6 := G5.trans ((ButG.of (by (repeat (first | exact Below.refl _ _ | refine Below.drew ?_ | refine below_drewN ?_ _ | (refine Below.alloc ?_ (by (try simp) <;> omega) _) | (refine Below.setCell ?_ (by (try simp) <;> omega) _) | (refine Below.trans ?_ (Below.mono (by assumption) (by (try simp) <;> omega)))))) : ButG g w5 _).trans hb6)
    have k6 := (k5.alloc _).but hb6 (by omega)
    have j6 := (j5.alloc _).but hb6 (by omega)
    have m6 : Small x6 := mem_small hx6 (by decide)
    clear hb6 hc5 G5 k5 j5 hx6
    have c6 := j6.cell
    have d6 := k6.cell
    have f6 := j6.frozen
    have e6 := k6.frozen
    go_wp2
    refine bodyPost_ret (v := .agg #[.int .i64 id, .int .i64 x6, .int .i64 x2, .int .i64 x3, .int .i64 x4]) (by simp [results, Try.results93, go_sem, *] <;> rfl) rfl ?_
    exact trip_end ⟨hid, m6, m2, m3, m4⟩ hc6 G6 (by have := Hq.out; omega) (by have := Hq.out; omega) (by have := Hq.out; omega) (by omega)
  have q1 : (x5 == 1) = false := by simpa using h1
  by_cases h2 : x5 = 2
  · have q2 : (x5 == 2) = true := by simpa using h2
    have H2 := Lib.hid h2; clear h2 hx50 hx51
    have e5 := j5.cell
    go_wp2_with fail
    refine (among_any [-1, 10, x1] A c L g (n + 2 + 2 + 2 + 2 + 2) _ _ _ _ hI hl (by omega) (hc5.next (by (repeat (first | exact Below.refl _ _ | refine Below.drew ?_ | refine below_drewN ?_ _ | (refine Below.alloc ?_ (by (try simp) <;> omega) _) | (refine Below.setCell ?_ (by (try simp) <;> omega) _) | (refine Below.trans ?_ (Below.mono (by assumption) (by (try simp) <;> omega))))))) (by rfl) (by omega) (by omega) (by first | exact Blk.new _ _ _ | exact Blk.new1 _ _ _ _) (by have := hc5.lt; (try simp); omega)).mono ?_; rintro e w6 ⟨x6, rfl, hx6, hc6, hb6⟩
    have G6 : ButG g w w6 := G5.trans ((ButG.of (by (repeat (first | exact Below.refl _ _ | refine Below.drew ?_ | refine below_drewN ?_ _ | (refine Below.alloc ?_ (by (try simp) <;> omega) _) | (refine Below.setCell ?_ (by (try simp) <;> omega) _) | (refine Below.trans ?_ (Below.mono (by assumption) (by (try simp) <;> omega)))))) : ButG g w5 _).trans hb6)
    have k6 := (k5.alloc _).but hb6 (by omega)
    have j6 := (j5.alloc _).but hb6 (by omega)
    have m6 : Small x6 := by rw [List.mem_cons, List.mem_cons, List.mem_singleton] at hx6; unfold Small; rcases hx6 with h | h | h <;> omega
    clear hb6 hc5 G5 k5 j5 hx6 e5
    have c6 := j6.cell
    have d6 := k6.cell
    have f6 := j6.frozen
    have e6 := k6.frozen
    go_wp2
    refine bodyPost_ret (v := .agg #[.int .i64 id, .int .i64 x1, .int .i64 x6, .int .i64 x3, .int .i64 x4]) (by simp [results, Try.results93, go_sem, *] <;> rfl) rfl ?_
    exact trip_end ⟨hid, m1, m6, m3, m4⟩ hc6 G6 (by have := Hq.out; omega) (by have := Hq.out; omega) (by have := Hq.out; omega) (by omega)
  have q2 : (x5 == 2) = false := by simpa using h2
  by_cases h3 : x5 = 3
  · have q3 : (x5 == 3) = true := by simpa using h3
    have H3 := Lib.hid h3; clear h3 hx50 hx51
    go_wp2_with fail
    refine (among_any [-1, 1420, 1440, 1441] A c L g (n + 2 + 2 + 2 + 2 + 2) _ _ _ _ hI hl (by omega) (hc5.next (by (repeat (first | exact Below.refl _ _ | refine Below.drew ?_ | refine below_drewN ?_ _ | (refine Below.alloc ?_ (by (try simp) <;> omega) _) | (refine Below.setCell ?_ (by (try simp) <;> omega) _) | (refine Below.trans ?_ (Below.mono (by assumption) (by (try simp) <;> omega))))))) (by rfl) (by omega) (by omega) (by first | exact Blk.new _ _ _ | exact Blk.new1 _ _ _ _) (by have := hc5.lt; (try simp); omega)).mono ?_; rintro e w6 ⟨x6, rfl, hx6, hc6, hb6⟩
    have G6 : ButG g w w6 := G5.trans ((ButG.of (by (repeat (first | exact Below.refl _ _ | refine Below.drew ?_ | refine below_drewN ?_ _ | (refine Below.alloc ?_ (by (try simp) <;> omega) _) | (refine Below.setCell ?_ (by (try simp) <;> omega) _) | (refine Below.trans ?_ (Below.mono (by assumption) (by (try simp) <;> omega)))))) : ButG g w5 _).trans hb6)
    have k6 := (k5.alloc _).but hb6 (by omega)
    have j6 := (j5.alloc _).but hb6 (by omega)
    have m6 : Small x6 := mem_small hx6 (by decide)
    clear hb6 hc5 G5 k5 j5 hx6
    have c6 := j6.cell
    have d6 := k6.cell
    have f6 := j6.frozen
    have e6 := k6.frozen
    go_wp2
    refine bodyPost_ret (v := .agg #[.int .i64 id, .int .i64 x1, .int .i64 x2, .int .i64 x6, .int .i64 x4]) (by simp [results, Try.results93, go_sem, *] <;> rfl) rfl ?_
    exact trip_end ⟨hid, m1, m2, m6, m4⟩ hc6 G6 (by have := Hq.out; omega) (by have := Hq.out; omega) (by have := Hq.out; omega) (by omega)
  have q3 : (x5 == 3) = false := by simpa using h3
  by_cases h4 : x5 = 4
  · have q4 : (x5 == 4) = true := by simpa using h4
    have H4 := Lib.hid h4; clear h4 hx50 hx51
    go_wp2_with fail
    refine (among_any [-1, 9] A c L g (n + 2 + 2 + 2 + 2 + 2) _ _ _ _ hI hl (by omega) (hc5.next (by (repeat (first | exact Below.refl _ _ | refine Below.drew ?_ | refine below_drewN ?_ _ | (refine Below.alloc ?_ (by (try simp) <;> omega) _) | (refine Below.setCell ?_ (by (try simp) <;> omega) _) | (refine Below.trans ?_ (Below.mono (by assumption) (by (try simp) <;> omega))))))) (by rfl) (by omega) (by omega) (by first | exact Blk.new _ _ _ | exact Blk.new1 _ _ _ _) (by have := hc5.lt; (try simp); omega)).mono ?_; rintro e w6 ⟨x6, rfl, hx6, hc6, hb6⟩
    have G6 : ButG g w w6 := G5.trans ((ButG.of (by (repeat (first | exact Below.refl _ _ | refine Below.drew ?_ | refine below_drewN ?_ _ | (refine Below.alloc ?_ (by (try simp) <;> omega) _) | (refine Below.setCell ?_ (by (try simp) <;> omega) _) | (refine Below.trans ?_ (Below.mono (by assumption) (by (try simp) <;> omega)))))) : ButG g w5 _).trans hb6)
    have k6 := (k5.alloc _).but hb6 (by omega)
    have j6 := (j5.alloc _).but hb6 (by omega)
    have m6 : Small x6 := mem_small hx6 (by decide)
    clear hb6 hc5 G5 k5 j5 hx6
    have c6 := j6.cell
    have d6 := k6.cell
    have f6 := j6.frozen
    have e6 := k6.frozen
    go_wp2
    refine bodyPost_ret (v := .agg #[.int .i64 id, .int .i64 x1, .int .i64 x2, .int .i64 x3, .int .i64 x6]) (by simp [results, Try.results93, go_sem, *] <;> rfl) rfl ?_
    exact trip_end ⟨hid, m1, m2, m3, m6⟩ hc6 G6 (by have := Hq.out; omega) (by have := Hq.out; omega) (by have := Hq.out; omega) (by omega)
  have q4 : (x5 == 4) = false := by simpa using h4
  clear h0 h1 h2 h3 h4 hx50 hx51
  have c6 := j5.cell
  have d6 := k5.cell
  have f6 := j5.frozen
  have e6 := k5.frozen
  go_wp2
  refine bodyPost_ret (v := .agg #[.int .i64 id, .int .i64 x1, .int .i64 x2, .int .i64 x3, .int .i64 x4]) (by simp [results, Try.results93, go_sem, *] <;> rfl) rfl ?_
  exact trip_end0 ⟨hid, m1, m2, m3, m4⟩ hc5 G5 (by have := Hq.out; omega) (by have := Hq.out; omega) (by omega)
end Go.Proofs.Ytfcmfadkkfkidaa
