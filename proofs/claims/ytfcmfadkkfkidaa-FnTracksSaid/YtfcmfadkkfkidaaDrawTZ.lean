/-
  The cursor's trip.
  l11Free at trips that are only small.
  The cursor's trips.
  DrawSectionTimes, DrawFirstStart, DrawAddTrip, DrawOnTheWay, DrawReverseTrip, DrawLoadsTo, DrawLongestQuiet.
  The cursor's tripId; DrawReverseTrip.
-/
import Derived.Test.YtfcmfadkkfkidaaDrw
import Derived.Test.YtfcmfadkkfkidaaOtw1
import Derived.Deep.DeepCutAuto
import Derived.Test.YtfcmfadkkfkidaaFree
import Derived.Test.YtfcmfadkkfkidaaRegion
import Derived.Test.YtfcmfadkkfkidaaAdd2
import Derived.Test.YtfcmfadkkfkidaaGat
import Derived.WalkKit
import Derived.WalkSpells
import Derived.WalkLawsBesides
import Derived.Lib.Hide
import Derived.Deep.QuietTactic
import Derived.BigQuiet
import Derived.StillTailTactics
namespace Go.Proofs.Ytfcmfadkkfkidaa
open Go.RowKit

/-- A trip of small ints. -/
def SmT (t : T5) : Prop := Small t.1 ∧ Small t.2.1 ∧ Small t.2.2.1 ∧ Small t.2.2.2.1 ∧ Small t.2.2.2.2
theorem SmT.inI {t : T5} (h : SmT t) : InI5 t := ⟨h.1.inI, h.2.1.inI, h.2.2.1.inI, h.2.2.2.1.inI, h.2.2.2.2.inI⟩
/-- The cursor hands back a trip of small ints. -/
def CurT (A : Option Addr) (c : Nat) (L : List Int) (g n : Nat) (w : World) (e : Ending) (w' : World) : Prop :=
  ∃ t : T5, e = .returned (tripV t.1 t.2.1 t.2.2.1 t.2.2.2.1 t.2.2.2.2) ∧ SmT t ∧ Cur A c L g n w' ∧ ButG g w w'
theorem trip_end {A : Option Addr} {c : Nat} {L : List Int} {g n n' p q : Nat} {w w1 : World} {y0 y1 y2 y3 y4 : Int} {o : Nat} {u : Value} (hm : SmT (y0, y1, y2, y3, y4)) (hc : Cur A c L g n w1) (hG : ButG g w w1) (hg : g < w.heap.size) (hq : w.heap.size ≤ q) (hp : w.heap.size ≤ p) (hn : n ≤ n') :
    CurT A c L g n' w (.returned (.agg #[.int .i64 y0, .int .i64 y1, .int .i64 y2, .int .i64 y3, .int .i64 y4])) ((((((w1.setCell ⟨p, o, none⟩ u).setCell ⟨q, 0, none⟩ (.int .i64 y0)).setCell ⟨q, 1, none⟩ (.int .i64 y1)).setCell ⟨q, 2, none⟩ (.int .i64 y2)).setCell ⟨q, 3, none⟩ (.int .i64 y3)).setCell ⟨q, 4, none⟩ (.int .i64 y4)) :=
  ⟨(y0, y1, y2, y3, y4), rfl, hm, (cur_far (cur_far (cur_far (cur_far (cur_far (cur_far hc (by omega) _ _) (by omega) _ _) (by omega) _ _) (by omega) _ _) (by omega) _ _) (by omega) _ _).mono hn, (butNew (butNew (butNew (butNew (butNew (butNew hG hp _ _) hq _ _) hq _ _) hq _ _) hq _ _) hq _ _)⟩
theorem trip_end0 {A : Option Addr} {c : Nat} {L : List Int} {g n n' q : Nat} {w w1 : World} {y0 y1 y2 y3 y4 : Int} (hm : SmT (y0, y1, y2, y3, y4)) (hc : Cur A c L g n w1) (hG : ButG g w w1) (hg : g < w.heap.size) (hq : w.heap.size ≤ q) (hn : n ≤ n') :
    CurT A c L g n' w (.returned (.agg #[.int .i64 y0, .int .i64 y1, .int .i64 y2, .int .i64 y3, .int .i64 y4])) (((((w1.setCell ⟨q, 0, none⟩ (.int .i64 y0)).setCell ⟨q, 1, none⟩ (.int .i64 y1)).setCell ⟨q, 2, none⟩ (.int .i64 y2)).setCell ⟨q, 3, none⟩ (.int .i64 y3)).setCell ⟨q, 4, none⟩ (.int .i64 y4)) :=
  ⟨(y0, y1, y2, y3, y4), rfl, hm, (cur_far (cur_far (cur_far (cur_far (cur_far hc (by omega) _ _) (by omega) _ _) (by omega) _ _) (by omega) _ _) (by omega) _ _).mono hn, (butNew (butNew (butNew (butNew (butNew hG hq _ _) hq _ _) hq _ _) hq _ _) hq _ _)⟩

set_option maxRecDepth 20000 in
set_option maxHeartbeats 8000000 in
theorem trip_any (A : Option Addr) (c : Nat) (L : List Int) (g n : Nat) (id : Int) (w : World) (hI : ∀ x ∈ L, 0 ≤ x ∧ x ≤ 255) (hl : (L.length : Int) ≤ 65536) (hn : n ≤ 800000) (hid : Small id) (hc : Cur A c L g n w) :
    Calls Try.prog 93 #[.pointer (some ⟨g, 0, none⟩), .int .i64 id] w (CurT A c L g (n + 12) w) := by
  go_enter Try.func93, Try.ntmps93
  go_wp2_with fail
  refine (among_any [0, 0, 2, 5, 9] A c L g (n) _ _ _ _ hI hl (by omega) (hc.next (by (repeat (first | exact Below.refl _ _ | refine Below.drew ?_ | refine below_drewN ?_ _ | (refine Below.alloc ?_ (by (try simp) <;> omega) _) | (refine Below.setCell ?_ (by (try simp) <;> omega) _) | (refine Below.trans ?_ (Below.mono (by assumption) (by (try simp) <;> omega))))))) (by rfl) (by omega) (by omega) (by first | exact Blk.new _ _ _ | exact Blk.new1 _ _ _ _) (by have := hc.lt; (try simp); omega)).mono ?_; rintro e w1 ⟨x1, rfl, hx1, hc1, hb1⟩
  have G1 : ButG g w w1 := ButG.refl.trans ((ButG.of (by (repeat (first | exact Below.refl _ _ | refine Below.drew ?_ | refine below_drewN ?_ _ | (refine Below.alloc ?_ (by (try simp) <;> omega) _) | (refine Below.setCell ?_ (by (try simp) <;> omega) _) | (refine Below.trans ?_ (Below.mono (by assumption) (by (try simp) <;> omega)))))) : ButG g w _).trans hb1)
  have g0 : g < w.heap.size := hc.lt
  have kq := ((Blk.new w 25 #[.int .i64 0, .int .i64 0, .int .i64 0, .int .i64 0, .int .i64 0]).alloc (.cells #[.int .i64 0, .int .i64 0, .int .i64 2, .int .i64 5, .int .i64 9] 3)).but hb1 (by omega)
  go_wp2_with fail
  refine (among_any [1, 3, 5, 8, 9] A c L g (n + 2) _ _ _ _ hI hl (by omega) (hc1.next (by (repeat (first | exact Below.refl _ _ | refine Below.drew ?_ | refine below_drewN ?_ _ | (refine Below.alloc ?_ (by (try simp) <;> omega) _) | (refine Below.setCell ?_ (by (try simp) <;> omega) _) | (refine Below.trans ?_ (Below.mono (by assumption) (by (try simp) <;> omega))))))) (by rfl) (by omega) (by omega) (by first | exact Blk.new _ _ _ | exact Blk.new1 _ _ _ _) (by have := hc1.lt; (try simp); omega)).mono ?_; rintro e w2 ⟨x2, rfl, hx2, hc2, hb2⟩
  have G2 : ButG g w w2 := G1.trans ((ButG.of (by (repeat (first | exact Below.refl _ _ | refine Below.drew ?_ | refine below_drewN ?_ _ | (refine Below.alloc ?_ (by (try simp) <;> omega) _) | (refine Below.setCell ?_ (by (try simp) <;> omega) _) | (refine Below.trans ?_ (Below.mono (by assumption) (by (try simp) <;> omega)))))) : ButG g w1 _).trans hb2)
  have kq2 := (kq.alloc _).but hb2 (by omega)
  go_wp2_with fail
  refine (among_any [0, 480, 480, 484, 490, 500, 520, 1400] A c L g (n + 2 + 2) _ _ _ _ hI hl (by omega) (hc2.next (by (repeat (first | exact Below.refl _ _ | refine Below.drew ?_ | refine below_drewN ?_ _ | (refine Below.alloc ?_ (by (try simp) <;> omega) _) | (refine Below.setCell ?_ (by (try simp) <;> omega) _) | (refine Below.trans ?_ (Below.mono (by assumption) (by (try simp) <;> omega))))))) (by rfl) (by omega) (by omega) (by first | exact Blk.new _ _ _ | exact Blk.new1 _ _ _ _) (by have := hc2.lt; (try simp); omega)).mono ?_; rintro e w3 ⟨x3, rfl, hx3, hc3, hb3⟩
  have G3 : ButG g w w3 := G2.trans ((ButG.of (by (repeat (first | exact Below.refl _ _ | refine Below.drew ?_ | refine below_drewN ?_ _ | (refine Below.alloc ?_ (by (try simp) <;> omega) _) | (refine Below.setCell ?_ (by (try simp) <;> omega) _) | (refine Below.trans ?_ (Below.mono (by assumption) (by (try simp) <;> omega)))))) : ButG g w2 _).trans hb3)
  have kq3 := (kq2.alloc _).but hb3 (by omega)
  go_wp2_with fail
  refine (among_any [0, 1, 3, 8] A c L g (n + 2 + 2 + 2) _ _ _ _ hI hl (by omega) (hc3.next (by (repeat (first | exact Below.refl _ _ | refine Below.drew ?_ | refine below_drewN ?_ _ | (refine Below.alloc ?_ (by (try simp) <;> omega) _) | (refine Below.setCell ?_ (by (try simp) <;> omega) _) | (refine Below.trans ?_ (Below.mono (by assumption) (by (try simp) <;> omega))))))) (by rfl) (by omega) (by omega) (by first | exact Blk.new _ _ _ | exact Blk.new1 _ _ _ _) (by have := hc3.lt; (try simp); omega)).mono ?_; rintro e w4 ⟨x4, rfl, hx4, hc4, hb4⟩
  have G4 : ButG g w w4 := G3.trans ((ButG.of (by (repeat (first | exact Below.refl _ _ | refine Below.drew ?_ | refine below_drewN ?_ _ | (refine Below.alloc ?_ (by (try simp) <;> omega) _) | (refine Below.setCell ?_ (by (try simp) <;> omega) _) | (refine Below.trans ?_ (Below.mono (by assumption) (by (try simp) <;> omega)))))) : ButG g w3 _).trans hb4)
  have kq4 := (kq3.alloc _).but hb4 (by omega)
  have g4 : g < w4.heap.size := hc4.lt
  go_wp2_with fail
  refine (pick_any A c L g (n + 2 + 2 + 2 + 2) (90) _ hI hl (by omega) (by omega) (hc4.next (by (repeat (first | exact Below.refl _ _ | refine Below.drew ?_ | refine below_drewN ?_ _ | (refine Below.alloc ?_ (by (try simp) <;> omega) _) | (refine Below.setCell ?_ (by (try simp) <;> omega) _) | (refine Below.trans ?_ (Below.mono (by assumption) (by (try simp) <;> omega)))))))).mono ?_; rintro e w5 ⟨x5, rfl, hx5, hc5, hb5⟩
  have G5 : ButG g w w5 := G4.trans ((ButG.of (by (repeat (first | exact Below.refl _ _ | refine Below.drew ?_ | refine below_drewN ?_ _ | (refine Below.alloc ?_ (by (try simp) <;> omega) _) | (refine Below.setCell ?_ (by (try simp) <;> omega) _) | (refine Below.trans ?_ (Below.mono (by assumption) (by (try simp) <;> omega)))))) : ButG g w4 _).trans hb5)
  have k5 := (kq4.alloc _).but hb5 (by omega)
  have j5 := (Blk.new w4 25 #[.int .i64 id, .int .i64 x1, .int .i64 x2, .int .i64 x3, .int .i64 x4]).but hb5 (by omega)
  have m1 := mem_small hx1 (by decide)
  have m2 := mem_small hx2 (by decide)
  have m3 := mem_small hx3 (by decide)
  have m4 := mem_small hx4 (by decide)
  have z4 := kq4.lt
  have l5 := j5.lt
  have l6 := k5.lt
  clear G1 G2 G3 G4
  generalize hp : w4.heap.size = p at *
  generalize hq : w.heap.size = q at *
  clear hb1 hb2 hb3 hb4 hb5 kq kq2 kq3 kq4 hx1 hx2 hx3 hx4 hc1 hc2 hc3 hc4
  have Hp := Lib.hid hp; have Hq := Lib.hid hq
  clear hp hq
  obtain ⟨hx50, hx51⟩ := hx5
  by_cases h0 : x5 = 0
  · have q0 : (x5 == 0) = true := by simpa using h0
    have H0 := Lib.hid h0; clear h0 hx50 hx51
    go_wp2_with fail
    refine (among_any [0, 99, 100] A c L g (n + 2 + 2 + 2 + 2 + 2) _ _ _ _ hI hl (by omega) (hc5.next (by (repeat (first | exact Below.refl _ _ | refine Below.drew ?_ | refine below_drewN ?_ _ | (refine Below.alloc ?_ (by (try simp) <;> omega) _) | (refine Below.setCell ?_ (by (try simp) <;> omega) _) | (refine Below.trans ?_ (Below.mono (by assumption) (by (try simp) <;> omega))))))) (by rfl) (by omega) (by omega) (by first | exact Blk.new _ _ _ | exact Blk.new1 _ _ _ _) (by have := hc5.lt; (try simp); omega)).mono ?_; rintro e w6 ⟨x6, rfl, hx6, hc6, hb6⟩
    have G6 : ButG g w w6 := G5.trans ((ButG.of (by (repeat (first | exact Below.refl _ _ | refine Below.drew ?_ | refine below_drewN ?_ _ | (refine Below.alloc ?_ (by (try simp) <;> omega) _) | (refine Below.setCell ?_ (by (try simp) <;> omega) _) | (refine Below.trans ?_ (Below.mono (by assumption) (by (try simp) <;> omega)))))) : ButG g w5 _).trans hb6)
    have k6 := (k5.alloc _).but hb6 (by omega)
    have j6 := (j5.alloc _).but hb6 (by omega)
    have m6 : Small x6 := mem_small hx6 (by decide)
    clear hb6 hc5 G5 k5 j5 hx6
    have c6 := j6.cell
    have d6 := k6.cell
    have f6 := j6.frozen
    have e6 := k6.frozen
    go_wp2
    refine bodyPost_ret (v := .agg #[.int .i64 x6, .int .i64 x1, .int .i64 x2, .int .i64 x3, .int .i64 x4]) (by simp [results, Try.results93, go_sem, *] <;> rfl) rfl ?_
    exact trip_end ⟨m6, m1, m2, m3, m4⟩ hc6 G6 (by have := Hq.out; omega) (by have := Hq.out; omega) (by have := Hq.out; omega) (by omega)
  have q0 : (x5 == 0) = false := by simpa using h0
  by_cases h1 : x5 = 1
  · have q1 : (x5 == 1) = true := by simpa using h1
    have H1 := Lib.hid h1; clear h1 hx50 hx51
    go_wp2_with fail
    refine (among_any [-1, 10] A c L g (n + 2 + 2 + 2 + 2 + 2) _ _ _ _ hI hl (by omega) (hc5.next (by (repeat (first | exact Below.refl _ _ | refine Below.drew ?_ | refine below_drewN ?_ _ | (refine Below.alloc ?_ (by (try simp) <;> omega) _) | (refine Below.setCell ?_ (by (try simp) <;> omega) _) | (refine Below.trans ?_ (Below.mono (by assumption) (by (try simp) <;> omega))))))) (by rfl) (by omega) (by omega) (by first | exact Blk.new _ _ _ | exact Blk.new1 _ _ _ _) (by have := hc5.lt; (try simp); omega)).mono ?_; rintro e w6 ⟨x6, rfl, hx6, hc6, hb6⟩
    have G6 : ButG g w w6 := G5.trans ((ButG.of (by (repeat (first | exact Below.refl _ _ | refine Below.drew ?_ | refine below_drewN ?_ _ | (refine Below.alloc ?_ (by (try simp) <;> omega) _) | (refine Below.setCell ?_ (by (try simp) <;> omega) _) | (refine Below.trans ?_ (Below.mono (by assumption) (by (try simp) <;> omega)))))) : ButG g w5 _).trans hb6)
    have k6 := (k5.alloc _).but hb6 (by omega)
    have j6 := (j5.alloc _).but hb6 (by omega)
    have m6 : Small x6 := mem_small hx6 (by decide)
    clear hb6 hc5 G5 k5 j5 hx6
    have c6 := j6.cell
    have d6 := k6.cell
    have f6 := j6.frozen
    have e6 := k6.frozen
    go_wp2
    refine bodyPost_ret (v := .agg #[.int .i64 id, .int .i64 x6, .int .i64 x2, .int .i64 x3, .int .i64 x4]) (by simp [results, Try.results93, go_sem, *] <;> rfl) rfl ?_
    exact trip_end ⟨hid, m6, m2, m3, m4⟩ hc6 G6 (by have := Hq.out; omega) (by have := Hq.out; omega) (by have := Hq.out; omega) (by omega)
  have q1 : (x5 == 1) = false := by simpa using h1
  by_cases h2 : x5 = 2
  · have q2 : (x5 == 2) = true := by simpa using h2
    have H2 := Lib.hid h2; clear h2 hx50 hx51
    have e5 := j5.cell
    go_wp2_with fail
    refine (among_any [-1, 10, x1] A c L g (n + 2 + 2 + 2 + 2 + 2) _ _ _ _ hI hl (by omega) (hc5.next (by (repeat (first | exact Below.refl _ _ | refine Below.drew ?_ | refine below_drewN ?_ _ | (refine Below.alloc ?_ (by (try simp) <;> omega) _) | (refine Below.setCell ?_ (by (try simp) <;> omega) _) | (refine Below.trans ?_ (Below.mono (by assumption) (by (try simp) <;> omega))))))) (by rfl) (by omega) (by omega) (by first | exact Blk.new _ _ _ | exact Blk.new1 _ _ _ _) (by have := hc5.lt; (try simp); omega)).mono ?_; rintro e w6 ⟨x6, rfl, hx6, hc6, hb6⟩
    have G6 : ButG g w w6 := G5.trans ((ButG.of (by (repeat (first | exact Below.refl _ _ | refine Below.drew ?_ | refine below_drewN ?_ _ | (refine Below.alloc ?_ (by (try simp) <;> omega) _) | (refine Below.setCell ?_ (by (try simp) <;> omega) _) | (refine Below.trans ?_ (Below.mono (by assumption) (by (try simp) <;> omega)))))) : ButG g w5 _).trans hb6)
    have k6 := (k5.alloc _).but hb6 (by omega)
    have j6 := (j5.alloc _).but hb6 (by omega)
    have m6 : Small x6 := by rw [List.mem_cons, List.mem_cons, List.mem_singleton] at hx6; unfold Small; rcases hx6 with h | h | h <;> omega
    clear hb6 hc5 G5 k5 j5 hx6 e5
    have c6 := j6.cell
    have d6 := k6.cell
    have f6 := j6.frozen
    have e6 := k6.frozen
    go_wp2
    refine bodyPost_ret (v := .agg #[.int .i64 id, .int .i64 x1, .int .i64 x6, .int .i64 x3, .int .i64 x4]) (by simp [results, Try.results93, go_sem, *] <;> rfl) rfl ?_
    exact trip_end ⟨hid, m1, m6, m3, m4⟩ hc6 G6 (by have := Hq.out; omega) (by have := Hq.out; omega) (by have := Hq.out; omega) (by omega)
  have q2 : (x5 == 2) = false := by simpa using h2
  by_cases h3 : x5 = 3
  · have q3 : (x5 == 3) = true := by simpa using h3
    have H3 := Lib.hid h3; clear h3 hx50 hx51
    go_wp2_with fail
    refine (among_any [-1, 1420, 1440, 1441] A c L g (n + 2 + 2 + 2 + 2 + 2) _ _ _ _ hI hl (by omega) (hc5.next (by (repeat (first | exact Below.refl _ _ | refine Below.drew ?_ | refine below_drewN ?_ _ | (refine Below.alloc ?_ (by (try simp) <;> omega) _) | (refine Below.setCell ?_ (by (try simp) <;> omega) _) | (refine Below.trans ?_ (Below.mono (by assumption) (by (try simp) <;> omega))))))) (by rfl) (by omega) (by omega) (by first | exact Blk.new _ _ _ | exact Blk.new1 _ _ _ _) (by have := hc5.lt; (try simp); omega)).mono ?_; rintro e w6 ⟨x6, rfl, hx6, hc6, hb6⟩
    have G6 : ButG g w w6 := G5.trans ((ButG.of (by (repeat (first | exact Below.refl _ _ | refine Below.drew ?_ | refine below_drewN ?_ _ | (refine Below.alloc ?_ (by (try simp) <;> omega) _) | (refine Below.setCell ?_ (by (try simp) <;> omega) _) | (refine Below.trans ?_ (Below.mono (by assumption) (by (try simp) <;> omega)))))) : ButG g w5 _).trans hb6)
    have k6 := (k5.alloc _).but hb6 (by omega)
    have j6 := (j5.alloc _).but hb6 (by omega)
    have m6 : Small x6 := mem_small hx6 (by decide)
    clear hb6 hc5 G5 k5 j5 hx6
    have c6 := j6.cell
    have d6 := k6.cell
    have f6 := j6.frozen
    have e6 := k6.frozen
    go_wp2
    refine bodyPost_ret (v := .agg #[.int .i64 id, .int .i64 x1, .int .i64 x2, .int .i64 x6, .int .i64 x4]) (by simp [results, Try.results93, go_sem, *] <;> rfl) rfl ?_
    exact trip_end ⟨hid, m1, m2, m6, m4⟩ hc6 G6 (by have := Hq.out; omega) (by have := Hq.out; omega) (by have := Hq.out; omega) (by omega)
  have q3 : (x5 == 3) = false := by simpa using h3
  by_cases h4 : x5 = 4
  · have q4 : (x5 == 4) = true := by simpa using h4
    have H4 := Lib.hid h4; clear h4 hx50 hx51
    go_wp2_with fail
    refine (among_any [-1, 9] A c L g (n + 2 + 2 + 2 + 2 + 2) _ _ _ _ hI hl (by omega) (hc5.next (by (repeat (first | exact Below.refl _ _ | refine Below.drew ?_ | refine below_drewN ?_ _ | (refine Below.alloc ?_ (by (try simp) <;> omega) _) | (refine Below.setCell ?_ (by (try simp) <;> omega) _) | (refine Below.trans ?_ (Below.mono (by assumption) (by (try simp) <;> omega))))))) (by rfl) (by omega) (by omega) (by first | exact Blk.new _ _ _ | exact Blk.new1 _ _ _ _) (by have := hc5.lt; (try simp); omega)).mono ?_; rintro e w6 ⟨x6, rfl, hx6, hc6, hb6⟩
    have G6 : ButG g w w6 := G5.trans ((ButG.of (by (repeat (first | exact Below.refl _ _ | refine Below.drew ?_ | refine below_drewN ?_ _ | (refine Below.alloc ?_ (by (try simp) <;> omega) _) | (refine Below.setCell ?_ (by (try simp) <;> omega) _) | (refine Below.trans ?_ (Below.mono (by assumption) (by (try simp) <;> omega)))))) : ButG g w5 _).trans hb6)
    have k6 := (k5.alloc _).but hb6 (by omega)
    have j6 := (j5.alloc _).but hb6 (by omega)
    have m6 : Small x6 := mem_small hx6 (by decide)
    clear hb6 hc5 G5 k5 j5 hx6
    have c6 := j6.cell
    have d6 := k6.cell
    have f6 := j6.frozen
    have e6 := k6.frozen
    go_wp2
    refine bodyPost_ret (v := .agg #[.int .i64 id, .int .i64 x1, .int .i64 x2, .int .i64 x3, .int .i64 x6]) (by simp [results, Try.results93, go_sem, *] <;> rfl) rfl ?_
    exact trip_end ⟨hid, m1, m2, m3, m6⟩ hc6 G6 (by have := Hq.out; omega) (by have := Hq.out; omega) (by have := Hq.out; omega) (by omega)
  have q4 : (x5 == 4) = false := by simpa using h4
  clear h0 h1 h2 h3 h4 hx50 hx51
  have c6 := j5.cell
  have d6 := k5.cell
  have f6 := j5.frozen
  have e6 := k5.frozen
  go_wp2
  refine bodyPost_ret (v := .agg #[.int .i64 id, .int .i64 x1, .int .i64 x2, .int .i64 x3, .int .i64 x4]) (by simp [results, Try.results93, go_sem, *] <;> rfl) rfl ?_
  exact trip_end0 ⟨hid, m1, m2, m3, m4⟩ hc5 G5 (by have := Hq.out; omega) (by have := Hq.out; omega) (by omega)
end Go.Proofs.Ytfcmfadkkfkidaa
namespace Go.Proofs.Ytfcmfadkkfkidaa
open Go.RowKit

/-- A trip of small ints. -/
structure TrW (x : T5) : Prop where
  b : -1000000000 ≤ x.2.1 ∧ x.2.1 ≤ 1000000000
  c : -1000000000 ≤ x.2.2.1 ∧ x.2.2.1 ≤ 1000000000
  d : -1000000000 ≤ x.2.2.2.1 ∧ x.2.2.2.1 ≤ 1000000000
set_option maxHeartbeats 1000000 in
theorem l11ArrivesV_any (a b c d g : Int) (w : World) (hb : -1000000000 ≤ b ∧ b ≤ 1000000000) (hc : -1000000000 ≤ c ∧ c ≤ 1000000000) (hd : -1000000000 ≤ d ∧ d ≤ 1000000000) :
    Calls Try.prog 67 #[tripV a b c d g] w fun e w' => e = .returned (.int .i64 (arr b c d)) ∧ Below w.heap.size w w' := by
  obtain ⟨q, hq, hq0, hq1⟩ : ∃ q : Int, max (b - c) (c - b) = q ∧ 0 ≤ q ∧ q ≤ 2000000000 := ⟨_, rfl, by omega, by omega⟩
  have Hv := Lib.hid (show arr b c d = d + 4 * q by unfold arr; split <;> omega)
  have Hq := Lib.hid hq; clear hq
  go_enter Try.func67, Try.ntmps67
  go_wp2
  go_quiet (exact (l1Most_any _ _ _).mono fun _ _ ⟨he, hw⟩ => ⟨he.trans (by rw [Hq.out]), _, hw.symm⟩)
  go_wp2
  go_ret
  exact ⟨by rw [Hv.out]; rfl, by (repeat (first | exact Below.refl _ _ | refine Below.drew ?_ | refine below_drewN ?_ _ | (refine Below.alloc ?_ (by (try simp) <;> omega) _) | (refine Below.setCell ?_ (by (try simp) <;> omega) _) | (refine Below.trans ?_ (Below.mono (by assumption) (by (try simp) <;> omega)))))⟩


set_option maxHeartbeats 4000000 in
theorem l11EntersV_any (a b c d g s : Int) (w : World) (hb : -1000000000 ≤ b ∧ b ≤ 1000000000) (hc : -1000000000 ≤ c ∧ c ≤ 1000000000) (hd : -1000000000 ≤ d ∧ d ≤ 1000000000) (hs : 0 ≤ s ∧ s ≤ 8) :
    Calls Try.prog 72 #[tripV a b c d g, .int .i64 s] w fun e w' => e = .returned (.int .i64 (entB b c d s)) ∧ Below w.heap.size w w' := by
  obtain ⟨b0, b9⟩ := hb
  obtain ⟨c0, c9⟩ := hc
  obtain ⟨d0, d9⟩ := hd
  obtain ⟨s0, s9⟩ := hs
  have k1 := Blk.new w 25 #[.int .i64 a, .int .i64 b, .int .i64 c, .int .i64 d, .int .i64 g]
  have e1 := k1.cell
  have hb1 : Below w.heap.size w (w.alloc (.cells #[.int .i64 a, .int .i64 b, .int .i64 c, .int .i64 d, .int .i64 g] 25)) := by (repeat (first | exact Below.refl _ _ | refine Below.drew ?_ | refine below_drewN ?_ _ | (refine Below.alloc ?_ (by (try simp) <;> omega) _) | (refine Below.setCell ?_ (by (try simp) <;> omega) _) | (refine Below.trans ?_ (Below.mono (by assumption) (by (try simp) <;> omega)))))
  by_cases h1 : b ≤ s ∧ s < c
  · have Hv := Lib.hid (show entB b c d s = d + 4 * (s - b) from if_pos h1)
    obtain ⟨h1, h2⟩ := h1
    go_enter Try.func72, Try.ntmps72
    go_wp2
    go_ret
    exact ⟨by rw [Hv.out]; rfl, hb1⟩
  · by_cases h2 : c ≤ s ∧ s < b
    · have Hv := Lib.hid (show entB b c d s = d + 4 * (b - 1 - s) by unfold entB; rw [if_neg h1, if_pos h2])
      obtain ⟨h2, h3⟩ := h2
      have h4 : ¬ b ≤ s := by omega
      clear h1
      go_enter Try.func72, Try.ntmps72
      go_wp2
      go_ret
      exact ⟨by rw [Hv.out]; rfl, hb1⟩
    · have Hv := Lib.hid (show entB b c d s = -1 by unfold entB; rw [if_neg h1, if_neg h2])
      by_cases h3 : b ≤ s
      · have h4 : ¬ s < c := by omega
        have h5 : c ≤ s := by omega
        have h6 : ¬ s < b := by omega
        clear h1 h2
        go_enter Try.func72, Try.ntmps72
        go_wp2
        go_ret
        exact ⟨by rw [Hv.out]; rfl, hb1⟩
      · have h4 : ¬ c ≤ s := by omega
        clear h1 h2
        go_enter Try.func72, Try.ntmps72
        go_wp2
        go_ret
        exact ⟨by rw [Hv.out]; rfl, hb1⟩


theorem l11ArrivesW_any (x : T5) (w : World) (h : TrW x) : Calls Try.prog 67 #[tripV x.1 x.2.1 x.2.2.1 x.2.2.2.1 x.2.2.2.2] w fun e w' => e = .returned (.int .i64 (arrT x)) ∧ Below w.heap.size w w' := l11ArrivesV_any _ _ _ _ _ _ h.b h.c h.d
theorem l11EntersW_any (x : T5) (s : Int) (w : World) (h : TrW x) (hs : 0 ≤ s ∧ s ≤ 8) : Calls Try.prog 72 #[tripV x.1 x.2.1 x.2.2.1 x.2.2.2.1 x.2.2.2.2, .int .i64 s] w fun e w' => e = .returned (.int .i64 (entT x s)) ∧ Below w.heap.size w w' := l11EntersV_any _ _ _ _ _ _ _ h.b h.c h.d hs
theorem entTW_bd {x : T5} (h : TrW x) {s : Int} (h0 : 0 ≤ s) (h8 : s ≤ 8) : -10000000000 ≤ entT x s ∧ entT x s ≤ 10000000000 := by
  obtain ⟨hb, hc, hd⟩ := h
  unfold entT entB
  split
  · omega
  · split <;> omega

set_option maxRecDepth 20000 in
set_option maxHeartbeats 8000000 in
theorem l11MeetW_any (x y : T5) (w : World) (hx : TrW x) (hy : TrW y) :
    Calls Try.prog 79 #[tripV x.1 x.2.1 x.2.2.1 x.2.2.2.1 x.2.2.2.2, tripV y.1 y.2.1 y.2.2.1 y.2.2.2.1 y.2.2.2.2] w fun e w' => e = .returned (.bool (meetB x y)) ∧ Below w.heap.size w w' := by
  have kx := (Blk.new w 25 #[.int .i64 x.1, .int .i64 x.2.1, .int .i64 x.2.2.1, .int .i64 x.2.2.2.1, .int .i64 x.2.2.2.2]).alloc (.cells #[.int .i64 y.1, .int .i64 y.2.1, .int .i64 y.2.2.1, .int .i64 y.2.2.2.1, .int .i64 y.2.2.2.2] 25)
  have ky := Blk.new1 w 25 #[.int .i64 y.1, .int .i64 y.2.1, .int .i64 y.2.2.1, .int .i64 y.2.2.2.1, .int .i64 y.2.2.2.2] (.cells #[.int .i64 x.1, .int .i64 x.2.1, .int .i64 x.2.2.1, .int .i64 x.2.2.2.1, .int .i64 x.2.2.2.2] 25)
  have hb0 : Below w.heap.size w ((w.alloc (.cells #[.int .i64 x.1, .int .i64 x.2.1, .int .i64 x.2.2.1, .int .i64 x.2.2.2.1, .int .i64 x.2.2.2.2] 25)).alloc (.cells #[.int .i64 y.1, .int .i64 y.2.1, .int .i64 y.2.2.1, .int .i64 y.2.2.2.1, .int .i64 y.2.2.2.2] 25)) := by (repeat (first | exact Below.refl _ _ | refine Below.drew ?_ | refine below_drewN ?_ _ | (refine Below.alloc ?_ (by (try simp) <;> omega) _) | (refine Below.setCell ?_ (by (try simp) <;> omega) _) | (refine Below.trans ?_ (Below.mono (by assumption) (by (try simp) <;> omega)))))
  go_enter Try.func79, Try.ntmps79
  go_upto_region 1 with fail
  generalize hp : w.heap.size = p at *
  generalize hq : p + 1 = q at *
  have Hp := Lib.hid hp
  clear hp hq
  generalize (w.alloc (.cells #[.int .i64 x.1, .int .i64 x.2.1, .int .i64 x.2.2.1, .int .i64 x.2.2.2.1, .int .i64 x.2.2.2.2] 25)).alloc (.cells #[.int .i64 y.1, .int .i64 y.2.1, .int .i64 y.2.2.1, .int .i64 y.2.2.2.1, .int .i64 y.2.2.2.2] 25) = W at *
  have kx0 := kx
  have ky0 := ky
  go_wp2
  go_loopw [5] (fun v5 wr => ∃ s : Nat, v5 = .int .i64 s ∧ s ≤ 9 ∧ Hid (∀ s' : Nat, s' < s → entM x y s' = false) ∧ Below W.heap.size W wr) (fun v5 _ => (9 - intOf v5).toNat)
  case atStart => exact ⟨0, rfl, by omega, fun s h => by omega, Below.refl _ _⟩
  case round =>
    obtain ⟨s, rfl, hs, hno, hb1⟩ := hrel
    have zr := hb1.size
    have kx := kx0.below' hb1
    have ky := ky0.below' hb1
    have hs0 : (0 : Int) ≤ (s : Int) := by omega
    by_cases hlt : s < 9
    · have hs8 : (s : Int) ≤ 8 := by omega
      obtain ⟨m0, m1⟩ := entTW_bd hx hs0 hs8
      obtain ⟨n0, n1⟩ := entTW_bd hy hs0 hs8
      have hsd : decide ((s : Int) < 9) = true := decide_eq_true (by omega)
      go_wp2
      refine wp_region_grow [.val (.agg #[.int .i64 x.1, .int .i64 x.2.1, .int .i64 x.2.2.1, .int .i64 x.2.2.2.1, .int .i64 x.2.2.2.2]), .fix (.int .i64 (s)), .val (.int .i64 (entT x s)), .val (.agg #[.int .i64 y.1, .int .i64 y.2.1, .int .i64 y.2.2.1, .int .i64 y.2.2.2.1, .int .i64 y.2.2.2.2]), .fix (.int .i64 (s)), .val (.int .i64 (entT y s)), .fix (.int .i64 (entT x s)), .fix (.int .i64 (entT y s))] mixed (by kernel_rfl) ?_
      refine SeqG.valStep (fun wv hbv hpv => ?_) ?_
      · have cx := (kx.below' hbv).cell
        go_wp2_with fail
        exact post_val (Below.refl _ _)
      simp only [Act.put, List.setIfInBounds_toArray, List.set_cons_zero, List.set_cons_succ]
      refine SeqG.fixStep (.inl ⟨rfl, fun _ => rfl⟩) ?_
      simp only [Act.put, List.setIfInBounds_toArray, List.set_cons_zero, List.set_cons_succ]
      refine SeqG.valStep (fun wv hbv hpv => ?_) ?_
      · go_wp2_with fail
        refine (l11EntersW_any x _ _ hx ⟨hs0, hs8⟩).mono ?_; rintro e w' ⟨he, hb⟩; subst he
        go_wp2_with fail
        exact post_val hb
      simp only [Act.put, List.setIfInBounds_toArray, List.set_cons_zero, List.set_cons_succ]
      refine SeqG.valStep (fun wv hbv hpv => ?_) ?_
      · have cy := (ky.below' hbv).cell
        go_wp2_with fail
        exact post_val (Below.refl _ _)
      simp only [Act.put, List.setIfInBounds_toArray, List.set_cons_zero, List.set_cons_succ]
      refine SeqG.fixStep (.inl ⟨rfl, fun _ => rfl⟩) ?_
      simp only [Act.put, List.setIfInBounds_toArray, List.set_cons_zero, List.set_cons_succ]
      refine SeqG.valStep (fun wv hbv hpv => ?_) ?_
      · go_wp2_with fail
        refine (l11EntersW_any y _ _ hy ⟨hs0, hs8⟩).mono ?_; rintro e w' ⟨he, hb⟩; subst he
        go_wp2_with fail
        exact post_val hb
      simp only [Act.put, List.setIfInBounds_toArray, List.set_cons_zero, List.set_cons_succ]
      refine SeqG.fixStep (.inl ⟨rfl, fun _ => rfl⟩) ?_
      simp only [Act.put, List.setIfInBounds_toArray, List.set_cons_zero, List.set_cons_succ]
      refine SeqG.fixStep (.inl ⟨rfl, fun _ => rfl⟩) ?_
      simp only [Act.put, List.setIfInBounds_toArray, List.set_cons_zero, List.set_cons_succ]
      refine SeqG.done fun wv hbv hpv => ?_
      refine NoPan.normal ?_
      clear hpv
      clear hsd
      have hb2 : Below W.heap.size W wv := hb1.trans (hbv.mono zr)
      have hM := entM_iff (x := x) (y := y) (s := (s : Int))
      generalize entT x s = m at *
      generalize entT y s = n at *
      by_cases hh : 0 ≤ m ∧ 0 ≤ n ∧ m < n + 4 ∧ n < m + 4
      · have Hv := Lib.hid (meet_ent hlt (hM.2 hh))
        have hb9 : Below p w wv := hb0.trans (hb2.mono (by have := hb0.size; have := kx0.lt; omega))
        obtain ⟨g1, g2, g3, g4⟩ := hh
        clear hM
        go_wp2
        go_ret
        exact ⟨by rw [Hv.out]; rfl, by rw [Hp.out]; exact hb9⟩
      · have Hn : Hid (∀ s' : Nat, s' < s + 1 → entM x y s' = false) := fun s' hs' => by
          by_cases e : s' = s
          · subst e; rw [Bool.eq_false_iff]; exact fun h => hh (hM.1 h)
          · exact hno.out s' (by omega)
        clear hM hno
        by_cases g1 : 0 ≤ m
        · by_cases g2 : 0 ≤ n
          · by_cases g3 : m < n + 4
            · have g4 : ¬ n < m + 4 := fun h => hh ⟨g1, g2, g3, h⟩
              clear hh
              go_wp2
              go_roundw
              case rel => exact ⟨s + 1, by go_num, by omega, Hn, hb2⟩
              case measure => simp only [intOf]; omega
            · clear hh
              go_wp2
              go_roundw
              case rel => exact ⟨s + 1, by go_num, by omega, Hn, hb2⟩
              case measure => simp only [intOf]; omega
          · clear hh
            go_wp2
            go_roundw
            case rel => exact ⟨s + 1, by go_num, by omega, Hn, hb2⟩
            case measure => simp only [intOf]; omega
        · clear hh
          go_wp2
          go_roundw
          case rel => exact ⟨s + 1, by go_num, by omega, Hn, hb2⟩
          case measure => simp only [intOf]; omega
    · obtain rfl : s = 9 := by omega
      have Hv := Lib.hid (meet_noEnt (fun s hs => hno.out s hs))
      clear hno
      go_wp2
      by_cases h1 : x.2.1 = y.2.1
      · skip
        by_cases h2 : x.2.2.2.1 = y.2.2.2.1
        · skip
          have b1 : (x.2.1 == y.2.1) = true := by simpa using h1
          have b2 : (x.2.2.2.1 == y.2.2.2.1) = true := by simpa using h2
          have HE := Lib.hid (show endsB x y = true by simp [endsB, h1, h2])
          clear h1 h2
          refine wp_region_grow [.val (.pointer (some ⟨p, 1, none⟩)), .val (.int .i64 (x.2.1)), .val (.pointer (some ⟨q, 1, none⟩)), .val (.int .i64 (y.2.1)), .val (.bool true), .fix (.bool true), .val (.pointer (some ⟨p, 3, none⟩)), .val (.int .i64 (x.2.2.2.1)), .val (.pointer (some ⟨q, 3, none⟩)), .val (.int .i64 (y.2.2.2.1)), .val (.bool true), .fix (.bool true), .fix (.bool true), .fix undef, .fix undef, .fix undef, .fix undef, .fix undef, .fix undef, .fix undef, .fix undef, .fix undef, .fix undef, .fix undef, .fix undef, .fix (.bool true), .fix (.bool true)] mixed (by kernel_rfl) ?_
          refine SeqG.valStep (fun wv hbv hpv => ?_) ?_
          · skip
            go_wp2_with fail
            exact post_val (Below.refl _ _)
          simp only [Act.put, List.setIfInBounds_toArray, List.set_cons_zero, List.set_cons_succ]
          refine SeqG.valStep (fun wv hbv hpv => ?_) ?_
          · have cx := (kx.below' hbv).cell
            go_wp2_with fail
            exact post_val (Below.refl _ _)
          simp only [Act.put, List.setIfInBounds_toArray, List.set_cons_zero, List.set_cons_succ]
          refine SeqG.valStep (fun wv hbv hpv => ?_) ?_
          · skip
            go_wp2_with fail
            exact post_val (Below.refl _ _)
          simp only [Act.put, List.setIfInBounds_toArray, List.set_cons_zero, List.set_cons_succ]
          refine SeqG.valStep (fun wv hbv hpv => ?_) ?_
          · have cy := (ky.below' hbv).cell
            go_wp2_with fail
            exact post_val (Below.refl _ _)
          simp only [Act.put, List.setIfInBounds_toArray, List.set_cons_zero, List.set_cons_succ]
          refine SeqG.valStep (fun wv hbv hpv => ?_) ?_
          · skip
            go_wp2_with fail
            exact post_val (Below.refl _ _)
          simp only [Act.put, List.setIfInBounds_toArray, List.set_cons_zero, List.set_cons_succ]
          refine SeqG.fixStep (.inl ⟨rfl, fun _ => rfl⟩) ?_
          simp only [Act.put, List.setIfInBounds_toArray, List.set_cons_zero, List.set_cons_succ]
          refine SeqG.valStep (fun wv hbv hpv => ?_) ?_
          · skip
            go_wp2_with fail
            exact post_val (Below.refl _ _)
          simp only [Act.put, List.setIfInBounds_toArray, List.set_cons_zero, List.set_cons_succ]
          refine SeqG.valStep (fun wv hbv hpv => ?_) ?_
          · have cx := (kx.below' hbv).cell
            go_wp2_with fail
            exact post_val (Below.refl _ _)
          simp only [Act.put, List.setIfInBounds_toArray, List.set_cons_zero, List.set_cons_succ]
          refine SeqG.valStep (fun wv hbv hpv => ?_) ?_
          · skip
            go_wp2_with fail
            exact post_val (Below.refl _ _)
          simp only [Act.put, List.setIfInBounds_toArray, List.set_cons_zero, List.set_cons_succ]
          refine SeqG.valStep (fun wv hbv hpv => ?_) ?_
          · have cy := (ky.below' hbv).cell
            go_wp2_with fail
            exact post_val (Below.refl _ _)
          simp only [Act.put, List.setIfInBounds_toArray, List.set_cons_zero, List.set_cons_succ]
          refine SeqG.valStep (fun wv hbv hpv => ?_) ?_
          · skip
            go_wp2_with fail
            exact post_val (Below.refl _ _)
          simp only [Act.put, List.setIfInBounds_toArray, List.set_cons_zero, List.set_cons_succ]
          refine SeqG.fixStep (.inl ⟨rfl, fun _ => rfl⟩) ?_
          simp only [Act.put, List.setIfInBounds_toArray, List.set_cons_zero, List.set_cons_succ]
          refine SeqG.fixStep (.inl ⟨rfl, fun _ => rfl⟩) ?_
          simp only [Act.put, List.setIfInBounds_toArray, List.set_cons_zero, List.set_cons_succ]
          refine SeqG.fixStep (.inr ⟨rfl, rfl⟩) ?_
          simp only [Act.put, List.setIfInBounds_toArray, List.set_cons_zero, List.set_cons_succ]
          refine SeqG.fixStep (.inr ⟨rfl, rfl⟩) ?_
          simp only [Act.put, List.setIfInBounds_toArray, List.set_cons_zero, List.set_cons_succ]
          refine SeqG.fixStep (.inr ⟨rfl, rfl⟩) ?_
          simp only [Act.put, List.setIfInBounds_toArray, List.set_cons_zero, List.set_cons_succ]
          refine SeqG.fixStep (.inr ⟨rfl, rfl⟩) ?_
          simp only [Act.put, List.setIfInBounds_toArray, List.set_cons_zero, List.set_cons_succ]
          refine SeqG.fixStep (.inr ⟨rfl, rfl⟩) ?_
          simp only [Act.put, List.setIfInBounds_toArray, List.set_cons_zero, List.set_cons_succ]
          refine SeqG.fixStep (.inr ⟨rfl, rfl⟩) ?_
          simp only [Act.put, List.setIfInBounds_toArray, List.set_cons_zero, List.set_cons_succ]
          refine SeqG.fixStep (.inr ⟨rfl, rfl⟩) ?_
          simp only [Act.put, List.setIfInBounds_toArray, List.set_cons_zero, List.set_cons_succ]
          refine SeqG.fixStep (.inr ⟨rfl, rfl⟩) ?_
          simp only [Act.put, List.setIfInBounds_toArray, List.set_cons_zero, List.set_cons_succ]
          refine SeqG.fixStep (.inr ⟨rfl, rfl⟩) ?_
          simp only [Act.put, List.setIfInBounds_toArray, List.set_cons_zero, List.set_cons_succ]
          refine SeqG.fixStep (.inr ⟨rfl, rfl⟩) ?_
          simp only [Act.put, List.setIfInBounds_toArray, List.set_cons_zero, List.set_cons_succ]
          refine SeqG.fixStep (.inr ⟨rfl, rfl⟩) ?_
          simp only [Act.put, List.setIfInBounds_toArray, List.set_cons_zero, List.set_cons_succ]
          refine SeqG.fixStep (.inr ⟨rfl, rfl⟩) ?_
          simp only [Act.put, List.setIfInBounds_toArray, List.set_cons_zero, List.set_cons_succ]
          refine SeqG.fixStep (.inl ⟨rfl, fun _ => rfl⟩) ?_
          simp only [Act.put, List.setIfInBounds_toArray, List.set_cons_zero, List.set_cons_succ]
          refine SeqG.fixStep (.inl ⟨rfl, fun _ => rfl⟩) ?_
          simp only [Act.put, List.setIfInBounds_toArray, List.set_cons_zero, List.set_cons_succ]
          refine SeqG.done fun wv hbv hpv => ?_
          refine NoPan.normal ?_
          clear hpv
          have hb9 : Below p w wv := hb0.trans ((hb1.trans (hbv.mono zr)).mono (by have := hb0.size; have := kx0.lt; omega))
          go_wp2
          go_ret
          exact ⟨by rw [Hv.out, HE.out]; rfl, by rw [Hp.out]; exact hb9⟩
        · skip
          by_cases h3 : x.2.2.1 = y.2.2.1
          · skip
            by_cases h4 : arrT x = arrT y
            · skip
              have b1 : (x.2.1 == y.2.1) = true := by simpa using h1
              have b2 : (x.2.2.2.1 == y.2.2.2.1) = false := by simpa using h2
              have b3 : (x.2.2.1 == y.2.2.1) = true := by simpa using h3
              have b4 : (arrT x == arrT y) = true := by simpa using h4
              have HE := Lib.hid (show endsB x y = true by simp [endsB, h1, h2, h3, h4])
              clear h1 h2 h3 h4
              refine wp_region_grow [.val (.pointer (some ⟨p, 1, none⟩)), .val (.int .i64 (x.2.1)), .val (.pointer (some ⟨q, 1, none⟩)), .val (.int .i64 (y.2.1)), .val (.bool true), .fix (.bool true), .val (.pointer (some ⟨p, 3, none⟩)), .val (.int .i64 (x.2.2.2.1)), .val (.pointer (some ⟨q, 3, none⟩)), .val (.int .i64 (y.2.2.2.1)), .val (.bool false), .fix (.bool false), .fix (.bool false), .val (.pointer (some ⟨p, 2, none⟩)), .val (.int .i64 (x.2.2.1)), .val (.pointer (some ⟨q, 2, none⟩)), .val (.int .i64 (y.2.2.1)), .val (.bool true), .fix (.bool true), .val (.agg #[.int .i64 x.1, .int .i64 x.2.1, .int .i64 x.2.2.1, .int .i64 x.2.2.2.1, .int .i64 x.2.2.2.2]), .val (.int .i64 (arrT x)), .val (.agg #[.int .i64 y.1, .int .i64 y.2.1, .int .i64 y.2.2.1, .int .i64 y.2.2.2.1, .int .i64 y.2.2.2.2]), .val (.int .i64 (arrT y)), .val (.bool true), .fix (.bool true), .fix (.bool true), .fix (.bool true)] mixed (by kernel_rfl) ?_
              refine SeqG.valStep (fun wv hbv hpv => ?_) ?_
              · skip
                go_wp2_with fail
                exact post_val (Below.refl _ _)
              simp only [Act.put, List.setIfInBounds_toArray, List.set_cons_zero, List.set_cons_succ]
              refine SeqG.valStep (fun wv hbv hpv => ?_) ?_
              · have cx := (kx.below' hbv).cell
                go_wp2_with fail
                exact post_val (Below.refl _ _)
              simp only [Act.put, List.setIfInBounds_toArray, List.set_cons_zero, List.set_cons_succ]
              refine SeqG.valStep (fun wv hbv hpv => ?_) ?_
              · skip
                go_wp2_with fail
                exact post_val (Below.refl _ _)
              simp only [Act.put, List.setIfInBounds_toArray, List.set_cons_zero, List.set_cons_succ]
              refine SeqG.valStep (fun wv hbv hpv => ?_) ?_
              · have cy := (ky.below' hbv).cell
                go_wp2_with fail
                exact post_val (Below.refl _ _)
              simp only [Act.put, List.setIfInBounds_toArray, List.set_cons_zero, List.set_cons_succ]
              refine SeqG.valStep (fun wv hbv hpv => ?_) ?_
              · skip
                go_wp2_with fail
                exact post_val (Below.refl _ _)
              simp only [Act.put, List.setIfInBounds_toArray, List.set_cons_zero, List.set_cons_succ]
              refine SeqG.fixStep (.inl ⟨rfl, fun _ => rfl⟩) ?_
              simp only [Act.put, List.setIfInBounds_toArray, List.set_cons_zero, List.set_cons_succ]
              refine SeqG.valStep (fun wv hbv hpv => ?_) ?_
              · skip
                go_wp2_with fail
                exact post_val (Below.refl _ _)
              simp only [Act.put, List.setIfInBounds_toArray, List.set_cons_zero, List.set_cons_succ]
              refine SeqG.valStep (fun wv hbv hpv => ?_) ?_
              · have cx := (kx.below' hbv).cell
                go_wp2_with fail
                exact post_val (Below.refl _ _)
              simp only [Act.put, List.setIfInBounds_toArray, List.set_cons_zero, List.set_cons_succ]
              refine SeqG.valStep (fun wv hbv hpv => ?_) ?_
              · skip
                go_wp2_with fail
                exact post_val (Below.refl _ _)
              simp only [Act.put, List.setIfInBounds_toArray, List.set_cons_zero, List.set_cons_succ]
              refine SeqG.valStep (fun wv hbv hpv => ?_) ?_
              · have cy := (ky.below' hbv).cell
                go_wp2_with fail
                exact post_val (Below.refl _ _)
              simp only [Act.put, List.setIfInBounds_toArray, List.set_cons_zero, List.set_cons_succ]
              refine SeqG.valStep (fun wv hbv hpv => ?_) ?_
              · skip
                go_wp2_with fail
                exact post_val (Below.refl _ _)
              simp only [Act.put, List.setIfInBounds_toArray, List.set_cons_zero, List.set_cons_succ]
              refine SeqG.fixStep (.inl ⟨rfl, fun _ => rfl⟩) ?_
              simp only [Act.put, List.setIfInBounds_toArray, List.set_cons_zero, List.set_cons_succ]
              refine SeqG.fixStep (.inl ⟨rfl, fun _ => rfl⟩) ?_
              simp only [Act.put, List.setIfInBounds_toArray, List.set_cons_zero, List.set_cons_succ]
              refine SeqG.valStep (fun wv hbv hpv => ?_) ?_
              · skip
                go_wp2_with fail
                exact post_val (Below.refl _ _)
              simp only [Act.put, List.setIfInBounds_toArray, List.set_cons_zero, List.set_cons_succ]
              refine SeqG.valStep (fun wv hbv hpv => ?_) ?_
              · have cx := (kx.below' hbv).cell
                go_wp2_with fail
                exact post_val (Below.refl _ _)
              simp only [Act.put, List.setIfInBounds_toArray, List.set_cons_zero, List.set_cons_succ]
              refine SeqG.valStep (fun wv hbv hpv => ?_) ?_
              · skip
                go_wp2_with fail
                exact post_val (Below.refl _ _)
              simp only [Act.put, List.setIfInBounds_toArray, List.set_cons_zero, List.set_cons_succ]
              refine SeqG.valStep (fun wv hbv hpv => ?_) ?_
              · have cy := (ky.below' hbv).cell
                go_wp2_with fail
                exact post_val (Below.refl _ _)
              simp only [Act.put, List.setIfInBounds_toArray, List.set_cons_zero, List.set_cons_succ]
              refine SeqG.valStep (fun wv hbv hpv => ?_) ?_
              · skip
                go_wp2_with fail
                exact post_val (Below.refl _ _)
              simp only [Act.put, List.setIfInBounds_toArray, List.set_cons_zero, List.set_cons_succ]
              refine SeqG.fixStep (.inl ⟨rfl, fun _ => rfl⟩) ?_
              simp only [Act.put, List.setIfInBounds_toArray, List.set_cons_zero, List.set_cons_succ]
              refine SeqG.valStep (fun wv hbv hpv => ?_) ?_
              · have cx := (kx.below' hbv).cell
                go_wp2_with fail
                exact post_val (Below.refl _ _)
              simp only [Act.put, List.setIfInBounds_toArray, List.set_cons_zero, List.set_cons_succ]
              refine SeqG.valStep (fun wv hbv hpv => ?_) ?_
              · go_wp2_with fail
                refine (l11ArrivesW_any x _ hx).mono ?_; rintro e w' ⟨he, hb⟩; subst he
                go_wp2_with fail
                exact post_val hb
              simp only [Act.put, List.setIfInBounds_toArray, List.set_cons_zero, List.set_cons_succ]
              refine SeqG.valStep (fun wv hbv hpv => ?_) ?_
              · have cy := (ky.below' hbv).cell
                go_wp2_with fail
                exact post_val (Below.refl _ _)
              simp only [Act.put, List.setIfInBounds_toArray, List.set_cons_zero, List.set_cons_succ]
              refine SeqG.valStep (fun wv hbv hpv => ?_) ?_
              · go_wp2_with fail
                refine (l11ArrivesW_any y _ hy).mono ?_; rintro e w' ⟨he, hb⟩; subst he
                go_wp2_with fail
                exact post_val hb
              simp only [Act.put, List.setIfInBounds_toArray, List.set_cons_zero, List.set_cons_succ]
              refine SeqG.valStep (fun wv hbv hpv => ?_) ?_
              · skip
                go_wp2_with fail
                exact post_val (Below.refl _ _)
              simp only [Act.put, List.setIfInBounds_toArray, List.set_cons_zero, List.set_cons_succ]
              refine SeqG.fixStep (.inl ⟨rfl, fun _ => rfl⟩) ?_
              simp only [Act.put, List.setIfInBounds_toArray, List.set_cons_zero, List.set_cons_succ]
              refine SeqG.fixStep (.inl ⟨rfl, fun _ => rfl⟩) ?_
              simp only [Act.put, List.setIfInBounds_toArray, List.set_cons_zero, List.set_cons_succ]
              refine SeqG.fixStep (.inl ⟨rfl, fun _ => rfl⟩) ?_
              simp only [Act.put, List.setIfInBounds_toArray, List.set_cons_zero, List.set_cons_succ]
              refine SeqG.done fun wv hbv hpv => ?_
              refine NoPan.normal ?_
              clear hpv
              have hb9 : Below p w wv := hb0.trans ((hb1.trans (hbv.mono zr)).mono (by have := hb0.size; have := kx0.lt; omega))
              go_wp2
              go_ret
              exact ⟨by rw [Hv.out, HE.out]; rfl, by rw [Hp.out]; exact hb9⟩
            · skip
              have b1 : (x.2.1 == y.2.1) = true := by simpa using h1
              have b2 : (x.2.2.2.1 == y.2.2.2.1) = false := by simpa using h2
              have b3 : (x.2.2.1 == y.2.2.1) = true := by simpa using h3
              have b4 : (arrT x == arrT y) = false := by simpa using h4
              have HE := Lib.hid (show endsB x y = false by simp [endsB, h1, h2, h3, h4])
              clear h1 h2 h3 h4
              refine wp_region_grow [.val (.pointer (some ⟨p, 1, none⟩)), .val (.int .i64 (x.2.1)), .val (.pointer (some ⟨q, 1, none⟩)), .val (.int .i64 (y.2.1)), .val (.bool true), .fix (.bool true), .val (.pointer (some ⟨p, 3, none⟩)), .val (.int .i64 (x.2.2.2.1)), .val (.pointer (some ⟨q, 3, none⟩)), .val (.int .i64 (y.2.2.2.1)), .val (.bool false), .fix (.bool false), .fix (.bool false), .val (.pointer (some ⟨p, 2, none⟩)), .val (.int .i64 (x.2.2.1)), .val (.pointer (some ⟨q, 2, none⟩)), .val (.int .i64 (y.2.2.1)), .val (.bool true), .fix (.bool true), .val (.agg #[.int .i64 x.1, .int .i64 x.2.1, .int .i64 x.2.2.1, .int .i64 x.2.2.2.1, .int .i64 x.2.2.2.2]), .val (.int .i64 (arrT x)), .val (.agg #[.int .i64 y.1, .int .i64 y.2.1, .int .i64 y.2.2.1, .int .i64 y.2.2.2.1, .int .i64 y.2.2.2.2]), .val (.int .i64 (arrT y)), .val (.bool false), .fix (.bool false), .fix (.bool false), .fix (.bool false)] mixed (by kernel_rfl) ?_
              refine SeqG.valStep (fun wv hbv hpv => ?_) ?_
              · skip
                go_wp2_with fail
                exact post_val (Below.refl _ _)
              simp only [Act.put, List.setIfInBounds_toArray, List.set_cons_zero, List.set_cons_succ]
              refine SeqG.valStep (fun wv hbv hpv => ?_) ?_
              · have cx := (kx.below' hbv).cell
                go_wp2_with fail
                exact post_val (Below.refl _ _)
              simp only [Act.put, List.setIfInBounds_toArray, List.set_cons_zero, List.set_cons_succ]
              refine SeqG.valStep (fun wv hbv hpv => ?_) ?_
              · skip
                go_wp2_with fail
                exact post_val (Below.refl _ _)
              simp only [Act.put, List.setIfInBounds_toArray, List.set_cons_zero, List.set_cons_succ]
              refine SeqG.valStep (fun wv hbv hpv => ?_) ?_
              · have cy := (ky.below' hbv).cell
                go_wp2_with fail
                exact post_val (Below.refl _ _)
              simp only [Act.put, List.setIfInBounds_toArray, List.set_cons_zero, List.set_cons_succ]
              refine SeqG.valStep (fun wv hbv hpv => ?_) ?_
              · skip
                go_wp2_with fail
                exact post_val (Below.refl _ _)
              simp only [Act.put, List.setIfInBounds_toArray, List.set_cons_zero, List.set_cons_succ]
              refine SeqG.fixStep (.inl ⟨rfl, fun _ => rfl⟩) ?_
              simp only [Act.put, List.setIfInBounds_toArray, List.set_cons_zero, List.set_cons_succ]
              refine SeqG.valStep (fun wv hbv hpv => ?_) ?_
              · skip
                go_wp2_with fail
                exact post_val (Below.refl _ _)
              simp only [Act.put, List.setIfInBounds_toArray, List.set_cons_zero, List.set_cons_succ]
              refine SeqG.valStep (fun wv hbv hpv => ?_) ?_
              · have cx := (kx.below' hbv).cell
                go_wp2_with fail
                exact post_val (Below.refl _ _)
              simp only [Act.put, List.setIfInBounds_toArray, List.set_cons_zero, List.set_cons_succ]
              refine SeqG.valStep (fun wv hbv hpv => ?_) ?_
              · skip
                go_wp2_with fail
                exact post_val (Below.refl _ _)
              simp only [Act.put, List.setIfInBounds_toArray, List.set_cons_zero, List.set_cons_succ]
              refine SeqG.valStep (fun wv hbv hpv => ?_) ?_
              · have cy := (ky.below' hbv).cell
                go_wp2_with fail
                exact post_val (Below.refl _ _)
              simp only [Act.put, List.setIfInBounds_toArray, List.set_cons_zero, List.set_cons_succ]
              refine SeqG.valStep (fun wv hbv hpv => ?_) ?_
              · skip
                go_wp2_with fail
                exact post_val (Below.refl _ _)
              simp only [Act.put, List.setIfInBounds_toArray, List.set_cons_zero, List.set_cons_succ]
              refine SeqG.fixStep (.inl ⟨rfl, fun _ => rfl⟩) ?_
              simp only [Act.put, List.setIfInBounds_toArray, List.set_cons_zero, List.set_cons_succ]
              refine SeqG.fixStep (.inl ⟨rfl, fun _ => rfl⟩) ?_
              simp only [Act.put, List.setIfInBounds_toArray, List.set_cons_zero, List.set_cons_succ]
              refine SeqG.valStep (fun wv hbv hpv => ?_) ?_
              · skip
                go_wp2_with fail
                exact post_val (Below.refl _ _)
              simp only [Act.put, List.setIfInBounds_toArray, List.set_cons_zero, List.set_cons_succ]
              refine SeqG.valStep (fun wv hbv hpv => ?_) ?_
              · have cx := (kx.below' hbv).cell
                go_wp2_with fail
                exact post_val (Below.refl _ _)
              simp only [Act.put, List.setIfInBounds_toArray, List.set_cons_zero, List.set_cons_succ]
              refine SeqG.valStep (fun wv hbv hpv => ?_) ?_
              · skip
                go_wp2_with fail
                exact post_val (Below.refl _ _)
              simp only [Act.put, List.setIfInBounds_toArray, List.set_cons_zero, List.set_cons_succ]
              refine SeqG.valStep (fun wv hbv hpv => ?_) ?_
              · have cy := (ky.below' hbv).cell
                go_wp2_with fail
                exact post_val (Below.refl _ _)
              simp only [Act.put, List.setIfInBounds_toArray, List.set_cons_zero, List.set_cons_succ]
              refine SeqG.valStep (fun wv hbv hpv => ?_) ?_
              · skip
                go_wp2_with fail
                exact post_val (Below.refl _ _)
              simp only [Act.put, List.setIfInBounds_toArray, List.set_cons_zero, List.set_cons_succ]
              refine SeqG.fixStep (.inl ⟨rfl, fun _ => rfl⟩) ?_
              simp only [Act.put, List.setIfInBounds_toArray, List.set_cons_zero, List.set_cons_succ]
              refine SeqG.valStep (fun wv hbv hpv => ?_) ?_
              · have cx := (kx.below' hbv).cell
                go_wp2_with fail
                exact post_val (Below.refl _ _)
              simp only [Act.put, List.setIfInBounds_toArray, List.set_cons_zero, List.set_cons_succ]
              refine SeqG.valStep (fun wv hbv hpv => ?_) ?_
              · go_wp2_with fail
                refine (l11ArrivesW_any x _ hx).mono ?_; rintro e w' ⟨he, hb⟩; subst he
                go_wp2_with fail
                exact post_val hb
              simp only [Act.put, List.setIfInBounds_toArray, List.set_cons_zero, List.set_cons_succ]
              refine SeqG.valStep (fun wv hbv hpv => ?_) ?_
              · have cy := (ky.below' hbv).cell
                go_wp2_with fail
                exact post_val (Below.refl _ _)
              simp only [Act.put, List.setIfInBounds_toArray, List.set_cons_zero, List.set_cons_succ]
              refine SeqG.valStep (fun wv hbv hpv => ?_) ?_
              · go_wp2_with fail
                refine (l11ArrivesW_any y _ hy).mono ?_; rintro e w' ⟨he, hb⟩; subst he
                go_wp2_with fail
                exact post_val hb
              simp only [Act.put, List.setIfInBounds_toArray, List.set_cons_zero, List.set_cons_succ]
              refine SeqG.valStep (fun wv hbv hpv => ?_) ?_
              · skip
                go_wp2_with fail
                exact post_val (Below.refl _ _)
              simp only [Act.put, List.setIfInBounds_toArray, List.set_cons_zero, List.set_cons_succ]
              refine SeqG.fixStep (.inl ⟨rfl, fun _ => rfl⟩) ?_
              simp only [Act.put, List.setIfInBounds_toArray, List.set_cons_zero, List.set_cons_succ]
              refine SeqG.fixStep (.inl ⟨rfl, fun _ => rfl⟩) ?_
              simp only [Act.put, List.setIfInBounds_toArray, List.set_cons_zero, List.set_cons_succ]
              refine SeqG.fixStep (.inl ⟨rfl, fun _ => rfl⟩) ?_
              simp only [Act.put, List.setIfInBounds_toArray, List.set_cons_zero, List.set_cons_succ]
              refine SeqG.done fun wv hbv hpv => ?_
              refine NoPan.normal ?_
              clear hpv
              have hb9 : Below p w wv := hb0.trans ((hb1.trans (hbv.mono zr)).mono (by have := hb0.size; have := kx0.lt; omega))
              go_wp2
              go_ret
              exact ⟨by rw [Hv.out, HE.out]; rfl, by rw [Hp.out]; exact hb9⟩
          · skip
            have b1 : (x.2.1 == y.2.1) = true := by simpa using h1
            have b2 : (x.2.2.2.1 == y.2.2.2.1) = false := by simpa using h2
            have b3 : (x.2.2.1 == y.2.2.1) = false := by simpa using h3
            have HE := Lib.hid (show endsB x y = false by simp [endsB, h1, h2, h3])
            clear h1 h2 h3
            refine wp_region_grow [.val (.pointer (some ⟨p, 1, none⟩)), .val (.int .i64 (x.2.1)), .val (.pointer (some ⟨q, 1, none⟩)), .val (.int .i64 (y.2.1)), .val (.bool true), .fix (.bool true), .val (.pointer (some ⟨p, 3, none⟩)), .val (.int .i64 (x.2.2.2.1)), .val (.pointer (some ⟨q, 3, none⟩)), .val (.int .i64 (y.2.2.2.1)), .val (.bool false), .fix (.bool false), .fix (.bool false), .val (.pointer (some ⟨p, 2, none⟩)), .val (.int .i64 (x.2.2.1)), .val (.pointer (some ⟨q, 2, none⟩)), .val (.int .i64 (y.2.2.1)), .val (.bool false), .fix (.bool false), .fix undef, .fix undef, .fix undef, .fix undef, .fix undef, .fix (.bool false), .fix (.bool false), .fix (.bool false)] mixed (by kernel_rfl) ?_
            refine SeqG.valStep (fun wv hbv hpv => ?_) ?_
            · skip
              go_wp2_with fail
              exact post_val (Below.refl _ _)
            simp only [Act.put, List.setIfInBounds_toArray, List.set_cons_zero, List.set_cons_succ]
            refine SeqG.valStep (fun wv hbv hpv => ?_) ?_
            · have cx := (kx.below' hbv).cell
              go_wp2_with fail
              exact post_val (Below.refl _ _)
            simp only [Act.put, List.setIfInBounds_toArray, List.set_cons_zero, List.set_cons_succ]
            refine SeqG.valStep (fun wv hbv hpv => ?_) ?_
            · skip
              go_wp2_with fail
              exact post_val (Below.refl _ _)
            simp only [Act.put, List.setIfInBounds_toArray, List.set_cons_zero, List.set_cons_succ]
            refine SeqG.valStep (fun wv hbv hpv => ?_) ?_
            · have cy := (ky.below' hbv).cell
              go_wp2_with fail
              exact post_val (Below.refl _ _)
            simp only [Act.put, List.setIfInBounds_toArray, List.set_cons_zero, List.set_cons_succ]
            refine SeqG.valStep (fun wv hbv hpv => ?_) ?_
            · skip
              go_wp2_with fail
              exact post_val (Below.refl _ _)
            simp only [Act.put, List.setIfInBounds_toArray, List.set_cons_zero, List.set_cons_succ]
            refine SeqG.fixStep (.inl ⟨rfl, fun _ => rfl⟩) ?_
            simp only [Act.put, List.setIfInBounds_toArray, List.set_cons_zero, List.set_cons_succ]
            refine SeqG.valStep (fun wv hbv hpv => ?_) ?_
            · skip
              go_wp2_with fail
              exact post_val (Below.refl _ _)
            simp only [Act.put, List.setIfInBounds_toArray, List.set_cons_zero, List.set_cons_succ]
            refine SeqG.valStep (fun wv hbv hpv => ?_) ?_
            · have cx := (kx.below' hbv).cell
              go_wp2_with fail
              exact post_val (Below.refl _ _)
            simp only [Act.put, List.setIfInBounds_toArray, List.set_cons_zero, List.set_cons_succ]
            refine SeqG.valStep (fun wv hbv hpv => ?_) ?_
            · skip
              go_wp2_with fail
              exact post_val (Below.refl _ _)
            simp only [Act.put, List.setIfInBounds_toArray, List.set_cons_zero, List.set_cons_succ]
            refine SeqG.valStep (fun wv hbv hpv => ?_) ?_
            · have cy := (ky.below' hbv).cell
              go_wp2_with fail
              exact post_val (Below.refl _ _)
            simp only [Act.put, List.setIfInBounds_toArray, List.set_cons_zero, List.set_cons_succ]
            refine SeqG.valStep (fun wv hbv hpv => ?_) ?_
            · skip
              go_wp2_with fail
              exact post_val (Below.refl _ _)
            simp only [Act.put, List.setIfInBounds_toArray, List.set_cons_zero, List.set_cons_succ]
            refine SeqG.fixStep (.inl ⟨rfl, fun _ => rfl⟩) ?_
            simp only [Act.put, List.setIfInBounds_toArray, List.set_cons_zero, List.set_cons_succ]
            refine SeqG.fixStep (.inl ⟨rfl, fun _ => rfl⟩) ?_
            simp only [Act.put, List.setIfInBounds_toArray, List.set_cons_zero, List.set_cons_succ]
            refine SeqG.valStep (fun wv hbv hpv => ?_) ?_
            · skip
              go_wp2_with fail
              exact post_val (Below.refl _ _)
            simp only [Act.put, List.setIfInBounds_toArray, List.set_cons_zero, List.set_cons_succ]
            refine SeqG.valStep (fun wv hbv hpv => ?_) ?_
            · have cx := (kx.below' hbv).cell
              go_wp2_with fail
              exact post_val (Below.refl _ _)
            simp only [Act.put, List.setIfInBounds_toArray, List.set_cons_zero, List.set_cons_succ]
            refine SeqG.valStep (fun wv hbv hpv => ?_) ?_
            · skip
              go_wp2_with fail
              exact post_val (Below.refl _ _)
            simp only [Act.put, List.setIfInBounds_toArray, List.set_cons_zero, List.set_cons_succ]
            refine SeqG.valStep (fun wv hbv hpv => ?_) ?_
            · have cy := (ky.below' hbv).cell
              go_wp2_with fail
              exact post_val (Below.refl _ _)
            simp only [Act.put, List.setIfInBounds_toArray, List.set_cons_zero, List.set_cons_succ]
            refine SeqG.valStep (fun wv hbv hpv => ?_) ?_
            · skip
              go_wp2_with fail
              exact post_val (Below.refl _ _)
            simp only [Act.put, List.setIfInBounds_toArray, List.set_cons_zero, List.set_cons_succ]
            refine SeqG.fixStep (.inl ⟨rfl, fun _ => rfl⟩) ?_
            simp only [Act.put, List.setIfInBounds_toArray, List.set_cons_zero, List.set_cons_succ]
            refine SeqG.fixStep (.inr ⟨rfl, rfl⟩) ?_
            simp only [Act.put, List.setIfInBounds_toArray, List.set_cons_zero, List.set_cons_succ]
            refine SeqG.fixStep (.inr ⟨rfl, rfl⟩) ?_
            simp only [Act.put, List.setIfInBounds_toArray, List.set_cons_zero, List.set_cons_succ]
            refine SeqG.fixStep (.inr ⟨rfl, rfl⟩) ?_
            simp only [Act.put, List.setIfInBounds_toArray, List.set_cons_zero, List.set_cons_succ]
            refine SeqG.fixStep (.inr ⟨rfl, rfl⟩) ?_
            simp only [Act.put, List.setIfInBounds_toArray, List.set_cons_zero, List.set_cons_succ]
            refine SeqG.fixStep (.inr ⟨rfl, rfl⟩) ?_
            simp only [Act.put, List.setIfInBounds_toArray, List.set_cons_zero, List.set_cons_succ]
            refine SeqG.fixStep (.inl ⟨rfl, fun _ => rfl⟩) ?_
            simp only [Act.put, List.setIfInBounds_toArray, List.set_cons_zero, List.set_cons_succ]
            refine SeqG.fixStep (.inl ⟨rfl, fun _ => rfl⟩) ?_
            simp only [Act.put, List.setIfInBounds_toArray, List.set_cons_zero, List.set_cons_succ]
            refine SeqG.fixStep (.inl ⟨rfl, fun _ => rfl⟩) ?_
            simp only [Act.put, List.setIfInBounds_toArray, List.set_cons_zero, List.set_cons_succ]
            refine SeqG.done fun wv hbv hpv => ?_
            refine NoPan.normal ?_
            clear hpv
            have hb9 : Below p w wv := hb0.trans ((hb1.trans (hbv.mono zr)).mono (by have := hb0.size; have := kx0.lt; omega))
            go_wp2
            go_ret
            exact ⟨by rw [Hv.out, HE.out]; rfl, by rw [Hp.out]; exact hb9⟩
      · skip
        by_cases h3 : x.2.2.1 = y.2.2.1
        · skip
          by_cases h4 : arrT x = arrT y
          · skip
            have b1 : (x.2.1 == y.2.1) = false := by simpa using h1
            have b3 : (x.2.2.1 == y.2.2.1) = true := by simpa using h3
            have b4 : (arrT x == arrT y) = true := by simpa using h4
            have HE := Lib.hid (show endsB x y = true by simp [endsB, h1, h3, h4])
            clear h1 h3 h4
            refine wp_region_grow [.val (.pointer (some ⟨p, 1, none⟩)), .val (.int .i64 (x.2.1)), .val (.pointer (some ⟨q, 1, none⟩)), .val (.int .i64 (y.2.1)), .val (.bool false), .fix (.bool false), .fix undef, .fix undef, .fix undef, .fix undef, .fix undef, .fix (.bool false), .fix (.bool false), .val (.pointer (some ⟨p, 2, none⟩)), .val (.int .i64 (x.2.2.1)), .val (.pointer (some ⟨q, 2, none⟩)), .val (.int .i64 (y.2.2.1)), .val (.bool true), .fix (.bool true), .val (.agg #[.int .i64 x.1, .int .i64 x.2.1, .int .i64 x.2.2.1, .int .i64 x.2.2.2.1, .int .i64 x.2.2.2.2]), .val (.int .i64 (arrT x)), .val (.agg #[.int .i64 y.1, .int .i64 y.2.1, .int .i64 y.2.2.1, .int .i64 y.2.2.2.1, .int .i64 y.2.2.2.2]), .val (.int .i64 (arrT y)), .val (.bool true), .fix (.bool true), .fix (.bool true), .fix (.bool true)] mixed (by kernel_rfl) ?_
            refine SeqG.valStep (fun wv hbv hpv => ?_) ?_
            · skip
              go_wp2_with fail
              exact post_val (Below.refl _ _)
            simp only [Act.put, List.setIfInBounds_toArray, List.set_cons_zero, List.set_cons_succ]
            refine SeqG.valStep (fun wv hbv hpv => ?_) ?_
            · have cx := (kx.below' hbv).cell
              go_wp2_with fail
              exact post_val (Below.refl _ _)
            simp only [Act.put, List.setIfInBounds_toArray, List.set_cons_zero, List.set_cons_succ]
            refine SeqG.valStep (fun wv hbv hpv => ?_) ?_
            · skip
              go_wp2_with fail
              exact post_val (Below.refl _ _)
            simp only [Act.put, List.setIfInBounds_toArray, List.set_cons_zero, List.set_cons_succ]
            refine SeqG.valStep (fun wv hbv hpv => ?_) ?_
            · have cy := (ky.below' hbv).cell
              go_wp2_with fail
              exact post_val (Below.refl _ _)
            simp only [Act.put, List.setIfInBounds_toArray, List.set_cons_zero, List.set_cons_succ]
            refine SeqG.valStep (fun wv hbv hpv => ?_) ?_
            · skip
              go_wp2_with fail
              exact post_val (Below.refl _ _)
            simp only [Act.put, List.setIfInBounds_toArray, List.set_cons_zero, List.set_cons_succ]
            refine SeqG.fixStep (.inl ⟨rfl, fun _ => rfl⟩) ?_
            simp only [Act.put, List.setIfInBounds_toArray, List.set_cons_zero, List.set_cons_succ]
            refine SeqG.fixStep (.inr ⟨rfl, rfl⟩) ?_
            simp only [Act.put, List.setIfInBounds_toArray, List.set_cons_zero, List.set_cons_succ]
            refine SeqG.fixStep (.inr ⟨rfl, rfl⟩) ?_
            simp only [Act.put, List.setIfInBounds_toArray, List.set_cons_zero, List.set_cons_succ]
            refine SeqG.fixStep (.inr ⟨rfl, rfl⟩) ?_
            simp only [Act.put, List.setIfInBounds_toArray, List.set_cons_zero, List.set_cons_succ]
            refine SeqG.fixStep (.inr ⟨rfl, rfl⟩) ?_
            simp only [Act.put, List.setIfInBounds_toArray, List.set_cons_zero, List.set_cons_succ]
            refine SeqG.fixStep (.inr ⟨rfl, rfl⟩) ?_
            simp only [Act.put, List.setIfInBounds_toArray, List.set_cons_zero, List.set_cons_succ]
            refine SeqG.fixStep (.inl ⟨rfl, fun _ => rfl⟩) ?_
            simp only [Act.put, List.setIfInBounds_toArray, List.set_cons_zero, List.set_cons_succ]
            refine SeqG.fixStep (.inl ⟨rfl, fun _ => rfl⟩) ?_
            simp only [Act.put, List.setIfInBounds_toArray, List.set_cons_zero, List.set_cons_succ]
            refine SeqG.valStep (fun wv hbv hpv => ?_) ?_
            · skip
              go_wp2_with fail
              exact post_val (Below.refl _ _)
            simp only [Act.put, List.setIfInBounds_toArray, List.set_cons_zero, List.set_cons_succ]
            refine SeqG.valStep (fun wv hbv hpv => ?_) ?_
            · have cx := (kx.below' hbv).cell
              go_wp2_with fail
              exact post_val (Below.refl _ _)
            simp only [Act.put, List.setIfInBounds_toArray, List.set_cons_zero, List.set_cons_succ]
            refine SeqG.valStep (fun wv hbv hpv => ?_) ?_
            · skip
              go_wp2_with fail
              exact post_val (Below.refl _ _)
            simp only [Act.put, List.setIfInBounds_toArray, List.set_cons_zero, List.set_cons_succ]
            refine SeqG.valStep (fun wv hbv hpv => ?_) ?_
            · have cy := (ky.below' hbv).cell
              go_wp2_with fail
              exact post_val (Below.refl _ _)
            simp only [Act.put, List.setIfInBounds_toArray, List.set_cons_zero, List.set_cons_succ]
            refine SeqG.valStep (fun wv hbv hpv => ?_) ?_
            · skip
              go_wp2_with fail
              exact post_val (Below.refl _ _)
            simp only [Act.put, List.setIfInBounds_toArray, List.set_cons_zero, List.set_cons_succ]
            refine SeqG.fixStep (.inl ⟨rfl, fun _ => rfl⟩) ?_
            simp only [Act.put, List.setIfInBounds_toArray, List.set_cons_zero, List.set_cons_succ]
            refine SeqG.valStep (fun wv hbv hpv => ?_) ?_
            · have cx := (kx.below' hbv).cell
              go_wp2_with fail
              exact post_val (Below.refl _ _)
            simp only [Act.put, List.setIfInBounds_toArray, List.set_cons_zero, List.set_cons_succ]
            refine SeqG.valStep (fun wv hbv hpv => ?_) ?_
            · go_wp2_with fail
              refine (l11ArrivesW_any x _ hx).mono ?_; rintro e w' ⟨he, hb⟩; subst he
              go_wp2_with fail
              exact post_val hb
            simp only [Act.put, List.setIfInBounds_toArray, List.set_cons_zero, List.set_cons_succ]
            refine SeqG.valStep (fun wv hbv hpv => ?_) ?_
            · have cy := (ky.below' hbv).cell
              go_wp2_with fail
              exact post_val (Below.refl _ _)
            simp only [Act.put, List.setIfInBounds_toArray, List.set_cons_zero, List.set_cons_succ]
            refine SeqG.valStep (fun wv hbv hpv => ?_) ?_
            · go_wp2_with fail
              refine (l11ArrivesW_any y _ hy).mono ?_; rintro e w' ⟨he, hb⟩; subst he
              go_wp2_with fail
              exact post_val hb
            simp only [Act.put, List.setIfInBounds_toArray, List.set_cons_zero, List.set_cons_succ]
            refine SeqG.valStep (fun wv hbv hpv => ?_) ?_
            · skip
              go_wp2_with fail
              exact post_val (Below.refl _ _)
            simp only [Act.put, List.setIfInBounds_toArray, List.set_cons_zero, List.set_cons_succ]
            refine SeqG.fixStep (.inl ⟨rfl, fun _ => rfl⟩) ?_
            simp only [Act.put, List.setIfInBounds_toArray, List.set_cons_zero, List.set_cons_succ]
            refine SeqG.fixStep (.inl ⟨rfl, fun _ => rfl⟩) ?_
            simp only [Act.put, List.setIfInBounds_toArray, List.set_cons_zero, List.set_cons_succ]
            refine SeqG.fixStep (.inl ⟨rfl, fun _ => rfl⟩) ?_
            simp only [Act.put, List.setIfInBounds_toArray, List.set_cons_zero, List.set_cons_succ]
            refine SeqG.done fun wv hbv hpv => ?_
            refine NoPan.normal ?_
            clear hpv
            have hb9 : Below p w wv := hb0.trans ((hb1.trans (hbv.mono zr)).mono (by have := hb0.size; have := kx0.lt; omega))
            go_wp2
            go_ret
            exact ⟨by rw [Hv.out, HE.out]; rfl, by rw [Hp.out]; exact hb9⟩
          · skip
            have b1 : (x.2.1 == y.2.1) = false := by simpa using h1
            have b3 : (x.2.2.1 == y.2.2.1) = true := by simpa using h3
            have b4 : (arrT x == arrT y) = false := by simpa using h4
            have HE := Lib.hid (show endsB x y = false by simp [endsB, h1, h3, h4])
            clear h1 h3 h4
            refine wp_region_grow [.val (.pointer (some ⟨p, 1, none⟩)), .val (.int .i64 (x.2.1)), .val (.pointer (some ⟨q, 1, none⟩)), .val (.int .i64 (y.2.1)), .val (.bool false), .fix (.bool false), .fix undef, .fix undef, .fix undef, .fix undef, .fix undef, .fix (.bool false), .fix (.bool false), .val (.pointer (some ⟨p, 2, none⟩)), .val (.int .i64 (x.2.2.1)), .val (.pointer (some ⟨q, 2, none⟩)), .val (.int .i64 (y.2.2.1)), .val (.bool true), .fix (.bool true), .val (.agg #[.int .i64 x.1, .int .i64 x.2.1, .int .i64 x.2.2.1, .int .i64 x.2.2.2.1, .int .i64 x.2.2.2.2]), .val (.int .i64 (arrT x)), .val (.agg #[.int .i64 y.1, .int .i64 y.2.1, .int .i64 y.2.2.1, .int .i64 y.2.2.2.1, .int .i64 y.2.2.2.2]), .val (.int .i64 (arrT y)), .val (.bool false), .fix (.bool false), .fix (.bool false), .fix (.bool false)] mixed (by kernel_rfl) ?_
            refine SeqG.valStep (fun wv hbv hpv => ?_) ?_
            · skip
              go_wp2_with fail
              exact post_val (Below.refl _ _)
            simp only [Act.put, List.setIfInBounds_toArray, List.set_cons_zero, List.set_cons_succ]
            refine SeqG.valStep (fun wv hbv hpv => ?_) ?_
            · have cx := (kx.below' hbv).cell
              go_wp2_with fail
              exact post_val (Below.refl _ _)
            simp only [Act.put, List.setIfInBounds_toArray, List.set_cons_zero, List.set_cons_succ]
            refine SeqG.valStep (fun wv hbv hpv => ?_) ?_
            · skip
              go_wp2_with fail
              exact post_val (Below.refl _ _)
            simp only [Act.put, List.setIfInBounds_toArray, List.set_cons_zero, List.set_cons_succ]
            refine SeqG.valStep (fun wv hbv hpv => ?_) ?_
            · have cy := (ky.below' hbv).cell
              go_wp2_with fail
              exact post_val (Below.refl _ _)
            simp only [Act.put, List.setIfInBounds_toArray, List.set_cons_zero, List.set_cons_succ]
            refine SeqG.valStep (fun wv hbv hpv => ?_) ?_
            · skip
              go_wp2_with fail
              exact post_val (Below.refl _ _)
            simp only [Act.put, List.setIfInBounds_toArray, List.set_cons_zero, List.set_cons_succ]
            refine SeqG.fixStep (.inl ⟨rfl, fun _ => rfl⟩) ?_
            simp only [Act.put, List.setIfInBounds_toArray, List.set_cons_zero, List.set_cons_succ]
            refine SeqG.fixStep (.inr ⟨rfl, rfl⟩) ?_
            simp only [Act.put, List.setIfInBounds_toArray, List.set_cons_zero, List.set_cons_succ]
            refine SeqG.fixStep (.inr ⟨rfl, rfl⟩) ?_
            simp only [Act.put, List.setIfInBounds_toArray, List.set_cons_zero, List.set_cons_succ]
            refine SeqG.fixStep (.inr ⟨rfl, rfl⟩) ?_
            simp only [Act.put, List.setIfInBounds_toArray, List.set_cons_zero, List.set_cons_succ]
            refine SeqG.fixStep (.inr ⟨rfl, rfl⟩) ?_
            simp only [Act.put, List.setIfInBounds_toArray, List.set_cons_zero, List.set_cons_succ]
            refine SeqG.fixStep (.inr ⟨rfl, rfl⟩) ?_
            simp only [Act.put, List.setIfInBounds_toArray, List.set_cons_zero, List.set_cons_succ]
            refine SeqG.fixStep (.inl ⟨rfl, fun _ => rfl⟩) ?_
            simp only [Act.put, List.setIfInBounds_toArray, List.set_cons_zero, List.set_cons_succ]
            refine SeqG.fixStep (.inl ⟨rfl, fun _ => rfl⟩) ?_
            simp only [Act.put, List.setIfInBounds_toArray, List.set_cons_zero, List.set_cons_succ]
            refine SeqG.valStep (fun wv hbv hpv => ?_) ?_
            · skip
              go_wp2_with fail
              exact post_val (Below.refl _ _)
            simp only [Act.put, List.setIfInBounds_toArray, List.set_cons_zero, List.set_cons_succ]
            refine SeqG.valStep (fun wv hbv hpv => ?_) ?_
            · have cx := (kx.below' hbv).cell
              go_wp2_with fail
              exact post_val (Below.refl _ _)
            simp only [Act.put, List.setIfInBounds_toArray, List.set_cons_zero, List.set_cons_succ]
            refine SeqG.valStep (fun wv hbv hpv => ?_) ?_
            · skip
              go_wp2_with fail
              exact post_val (Below.refl _ _)
            simp only [Act.put, List.setIfInBounds_toArray, List.set_cons_zero, List.set_cons_succ]
            refine SeqG.valStep (fun wv hbv hpv => ?_) ?_
            · have cy := (ky.below' hbv).cell
              go_wp2_with fail
              exact post_val (Below.refl _ _)
            simp only [Act.put, List.setIfInBounds_toArray, List.set_cons_zero, List.set_cons_succ]
            refine SeqG.valStep (fun wv hbv hpv => ?_) ?_
            · skip
              go_wp2_with fail
              exact post_val (Below.refl _ _)
            simp only [Act.put, List.setIfInBounds_toArray, List.set_cons_zero, List.set_cons_succ]
            refine SeqG.fixStep (.inl ⟨rfl, fun _ => rfl⟩) ?_
            simp only [Act.put, List.setIfInBounds_toArray, List.set_cons_zero, List.set_cons_succ]
            refine SeqG.valStep (fun wv hbv hpv => ?_) ?_
            · have cx := (kx.below' hbv).cell
              go_wp2_with fail
              exact post_val (Below.refl _ _)
            simp only [Act.put, List.setIfInBounds_toArray, List.set_cons_zero, List.set_cons_succ]
            refine SeqG.valStep (fun wv hbv hpv => ?_) ?_
            · go_wp2_with fail
              refine (l11ArrivesW_any x _ hx).mono ?_; rintro e w' ⟨he, hb⟩; subst he
              go_wp2_with fail
              exact post_val hb
            simp only [Act.put, List.setIfInBounds_toArray, List.set_cons_zero, List.set_cons_succ]
            refine SeqG.valStep (fun wv hbv hpv => ?_) ?_
            · have cy := (ky.below' hbv).cell
              go_wp2_with fail
              exact post_val (Below.refl _ _)
            simp only [Act.put, List.setIfInBounds_toArray, List.set_cons_zero, List.set_cons_succ]
            refine SeqG.valStep (fun wv hbv hpv => ?_) ?_
            · go_wp2_with fail
              refine (l11ArrivesW_any y _ hy).mono ?_; rintro e w' ⟨he, hb⟩; subst he
              go_wp2_with fail
              exact post_val hb
            simp only [Act.put, List.setIfInBounds_toArray, List.set_cons_zero, List.set_cons_succ]
            refine SeqG.valStep (fun wv hbv hpv => ?_) ?_
            · skip
              go_wp2_with fail
              exact post_val (Below.refl _ _)
            simp only [Act.put, List.setIfInBounds_toArray, List.set_cons_zero, List.set_cons_succ]
            refine SeqG.fixStep (.inl ⟨rfl, fun _ => rfl⟩) ?_
            simp only [Act.put, List.setIfInBounds_toArray, List.set_cons_zero, List.set_cons_succ]
            refine SeqG.fixStep (.inl ⟨rfl, fun _ => rfl⟩) ?_
            simp only [Act.put, List.setIfInBounds_toArray, List.set_cons_zero, List.set_cons_succ]
            refine SeqG.fixStep (.inl ⟨rfl, fun _ => rfl⟩) ?_
            simp only [Act.put, List.setIfInBounds_toArray, List.set_cons_zero, List.set_cons_succ]
            refine SeqG.done fun wv hbv hpv => ?_
            refine NoPan.normal ?_
            clear hpv
            have hb9 : Below p w wv := hb0.trans ((hb1.trans (hbv.mono zr)).mono (by have := hb0.size; have := kx0.lt; omega))
            go_wp2
            go_ret
            exact ⟨by rw [Hv.out, HE.out]; rfl, by rw [Hp.out]; exact hb9⟩
        · skip
          have b1 : (x.2.1 == y.2.1) = false := by simpa using h1
          have b3 : (x.2.2.1 == y.2.2.1) = false := by simpa using h3
          have HE := Lib.hid (show endsB x y = false by simp [endsB, h1, h3])
          clear h1 h3
          refine wp_region_grow [.val (.pointer (some ⟨p, 1, none⟩)), .val (.int .i64 (x.2.1)), .val (.pointer (some ⟨q, 1, none⟩)), .val (.int .i64 (y.2.1)), .val (.bool false), .fix (.bool false), .fix undef, .fix undef, .fix undef, .fix undef, .fix undef, .fix (.bool false), .fix (.bool false), .val (.pointer (some ⟨p, 2, none⟩)), .val (.int .i64 (x.2.2.1)), .val (.pointer (some ⟨q, 2, none⟩)), .val (.int .i64 (y.2.2.1)), .val (.bool false), .fix (.bool false), .fix undef, .fix undef, .fix undef, .fix undef, .fix undef, .fix (.bool false), .fix (.bool false), .fix (.bool false)] mixed (by kernel_rfl) ?_
          refine SeqG.valStep (fun wv hbv hpv => ?_) ?_
          · skip
            go_wp2_with fail
            exact post_val (Below.refl _ _)
          simp only [Act.put, List.setIfInBounds_toArray, List.set_cons_zero, List.set_cons_succ]
          refine SeqG.valStep (fun wv hbv hpv => ?_) ?_
          · have cx := (kx.below' hbv).cell
            go_wp2_with fail
            exact post_val (Below.refl _ _)
          simp only [Act.put, List.setIfInBounds_toArray, List.set_cons_zero, List.set_cons_succ]
          refine SeqG.valStep (fun wv hbv hpv => ?_) ?_
          · skip
            go_wp2_with fail
            exact post_val (Below.refl _ _)
          simp only [Act.put, List.setIfInBounds_toArray, List.set_cons_zero, List.set_cons_succ]
          refine SeqG.valStep (fun wv hbv hpv => ?_) ?_
          · have cy := (ky.below' hbv).cell
            go_wp2_with fail
            exact post_val (Below.refl _ _)
          simp only [Act.put, List.setIfInBounds_toArray, List.set_cons_zero, List.set_cons_succ]
          refine SeqG.valStep (fun wv hbv hpv => ?_) ?_
          · skip
            go_wp2_with fail
            exact post_val (Below.refl _ _)
          simp only [Act.put, List.setIfInBounds_toArray, List.set_cons_zero, List.set_cons_succ]
          refine SeqG.fixStep (.inl ⟨rfl, fun _ => rfl⟩) ?_
          simp only [Act.put, List.setIfInBounds_toArray, List.set_cons_zero, List.set_cons_succ]
          refine SeqG.fixStep (.inr ⟨rfl, rfl⟩) ?_
          simp only [Act.put, List.setIfInBounds_toArray, List.set_cons_zero, List.set_cons_succ]
          refine SeqG.fixStep (.inr ⟨rfl, rfl⟩) ?_
          simp only [Act.put, List.setIfInBounds_toArray, List.set_cons_zero, List.set_cons_succ]
          refine SeqG.fixStep (.inr ⟨rfl, rfl⟩) ?_
          simp only [Act.put, List.setIfInBounds_toArray, List.set_cons_zero, List.set_cons_succ]
          refine SeqG.fixStep (.inr ⟨rfl, rfl⟩) ?_
          simp only [Act.put, List.setIfInBounds_toArray, List.set_cons_zero, List.set_cons_succ]
          refine SeqG.fixStep (.inr ⟨rfl, rfl⟩) ?_
          simp only [Act.put, List.setIfInBounds_toArray, List.set_cons_zero, List.set_cons_succ]
          refine SeqG.fixStep (.inl ⟨rfl, fun _ => rfl⟩) ?_
          simp only [Act.put, List.setIfInBounds_toArray, List.set_cons_zero, List.set_cons_succ]
          refine SeqG.fixStep (.inl ⟨rfl, fun _ => rfl⟩) ?_
          simp only [Act.put, List.setIfInBounds_toArray, List.set_cons_zero, List.set_cons_succ]
          refine SeqG.valStep (fun wv hbv hpv => ?_) ?_
          · skip
            go_wp2_with fail
            exact post_val (Below.refl _ _)
          simp only [Act.put, List.setIfInBounds_toArray, List.set_cons_zero, List.set_cons_succ]
          refine SeqG.valStep (fun wv hbv hpv => ?_) ?_
          · have cx := (kx.below' hbv).cell
            go_wp2_with fail
            exact post_val (Below.refl _ _)
          simp only [Act.put, List.setIfInBounds_toArray, List.set_cons_zero, List.set_cons_succ]
          refine SeqG.valStep (fun wv hbv hpv => ?_) ?_
          · skip
            go_wp2_with fail
            exact post_val (Below.refl _ _)
          simp only [Act.put, List.setIfInBounds_toArray, List.set_cons_zero, List.set_cons_succ]
          refine SeqG.valStep (fun wv hbv hpv => ?_) ?_
          · have cy := (ky.below' hbv).cell
            go_wp2_with fail
            exact post_val (Below.refl _ _)
          simp only [Act.put, List.setIfInBounds_toArray, List.set_cons_zero, List.set_cons_succ]
          refine SeqG.valStep (fun wv hbv hpv => ?_) ?_
          · skip
            go_wp2_with fail
            exact post_val (Below.refl _ _)
          simp only [Act.put, List.setIfInBounds_toArray, List.set_cons_zero, List.set_cons_succ]
          refine SeqG.fixStep (.inl ⟨rfl, fun _ => rfl⟩) ?_
          simp only [Act.put, List.setIfInBounds_toArray, List.set_cons_zero, List.set_cons_succ]
          refine SeqG.fixStep (.inr ⟨rfl, rfl⟩) ?_
          simp only [Act.put, List.setIfInBounds_toArray, List.set_cons_zero, List.set_cons_succ]
          refine SeqG.fixStep (.inr ⟨rfl, rfl⟩) ?_
          simp only [Act.put, List.setIfInBounds_toArray, List.set_cons_zero, List.set_cons_succ]
          refine SeqG.fixStep (.inr ⟨rfl, rfl⟩) ?_
          simp only [Act.put, List.setIfInBounds_toArray, List.set_cons_zero, List.set_cons_succ]
          refine SeqG.fixStep (.inr ⟨rfl, rfl⟩) ?_
          simp only [Act.put, List.setIfInBounds_toArray, List.set_cons_zero, List.set_cons_succ]
          refine SeqG.fixStep (.inr ⟨rfl, rfl⟩) ?_
          simp only [Act.put, List.setIfInBounds_toArray, List.set_cons_zero, List.set_cons_succ]
          refine SeqG.fixStep (.inl ⟨rfl, fun _ => rfl⟩) ?_
          simp only [Act.put, List.setIfInBounds_toArray, List.set_cons_zero, List.set_cons_succ]
          refine SeqG.fixStep (.inl ⟨rfl, fun _ => rfl⟩) ?_
          simp only [Act.put, List.setIfInBounds_toArray, List.set_cons_zero, List.set_cons_succ]
          refine SeqG.fixStep (.inl ⟨rfl, fun _ => rfl⟩) ?_
          simp only [Act.put, List.setIfInBounds_toArray, List.set_cons_zero, List.set_cons_succ]
          refine SeqG.done fun wv hbv hpv => ?_
          refine NoPan.normal ?_
          clear hpv
          have hb9 : Below p w wv := hb0.trans ((hb1.trans (hbv.mono zr)).mono (by have := hb0.size; have := kx0.lt; omega))
          go_wp2
          go_ret
          exact ⟨by rw [Hv.out, HE.out]; rfl, by rw [Hp.out]; exact hb9⟩

set_option maxRecDepth 20000 in
set_option maxHeartbeats 8000000 in
theorem l11FreeW_any (A : Option Addr) (c : Nat) (L : List T5) (t : T5) (w : World) (hr : SlR f5 5 w w.heap.size A L) (hm : (L.length : Int) ≤ 1048576) (hL : ∀ x ∈ L, TrW x) (ht : TrW t) :
    Calls Try.prog 76 #[.slice A L.length c, tripV t.1 t.2.1 t.2.2.1 t.2.2.2.1 t.2.2.2.2] w fun e w' => e = .returned (.bool (!metB L t)) ∧ Below w.heap.size w w' := by
  have kt0 := Blk.new w 25 #[.int .i64 t.1, .int .i64 t.2.1, .int .i64 t.2.2.1, .int .i64 t.2.2.2.1, .int .i64 t.2.2.2.2]
  have hb0 : Below w.heap.size w (w.alloc (.cells #[.int .i64 t.1, .int .i64 t.2.1, .int .i64 t.2.2.1, .int .i64 t.2.2.2.1, .int .i64 t.2.2.2.2] 25)) := by (repeat (first | exact Below.refl _ _ | refine Below.drew ?_ | refine below_drewN ?_ _ | (refine Below.alloc ?_ (by (try simp) <;> omega) _) | (refine Below.setCell ?_ (by (try simp) <;> omega) _) | (refine Below.trans ?_ (Below.mono (by assumption) (by (try simp) <;> omega)))))
  have hr0 := hr.alloc (.cells #[.int .i64 t.1, .int .i64 t.2.1, .int .i64 t.2.2.1, .int .i64 t.2.2.2.1, .int .i64 t.2.2.2.2] 25)
  go_enter Try.func76, Try.ntmps76
  go_upto_region 1 with fail
  generalize w.alloc (.cells #[.int .i64 t.1, .int .i64 t.2.1, .int .i64 t.2.2.1, .int .i64 t.2.2.2.1, .int .i64 t.2.2.2.2] 25) = W at *
  generalize hp : w.heap.size = p at *
  have Hp := Lib.hid hp
  have zp : p ≤ W.heap.size := Nat.le_of_lt kt0.lt
  clear hr hp
  go_wp2
  go_loopw [5] (fun i wr => ∃ k : Nat, i = .int .i64 k ∧ k ≤ L.length ∧ Hid (∀ j y, j < k → L[j]? = some y → anyB t y = false) ∧ Below W.heap.size W wr) (fun i _ => (L.length - intOf i).toNat)
  case atStart => exact ⟨0, rfl, by omega, fun j y h => by omega, Below.refl _ _⟩
  case round =>
    obtain ⟨k, rfl, hk, hs, hb⟩ := hrel
    have zr := hb.size
    by_cases hlt : k < L.length
    · have hx : L[k]? = some L[k] := List.getElem?_eq_getElem hlt
      obtain ⟨b, off, rfl, hB, hcs⟩ := hr0 (SlR.ne hx)
      generalize L[k] = x at *
      have htx := hL x (List.mem_of_getElem? hx)
      have hC := hcs.below hb hB
      have hBr : b < wr.heap.size := by omega
      have kt := kt0.below' hb
      have hk0 : (0 : Int) ≤ (k : Int) := by omega
      have hk1 : (k : Int) < (L.length : Int) := by omega
      by_cases h : x.1 = t.1
      · have hq : (x.1 != t.1) = false := by simpa using h
        have Hn : Hid (∀ j y, j < k + 1 → L[j]? = some y → anyB t y = false) := fun j y hj hy => by
          by_cases e : j = k
          · subst e; rw [hx] at hy; cases hy; simp [anyB, h]
          · exact hs.out j y (by omega) hy
        clear h hs hr0 hcs hlt
        go_wp2
        refine wp_region_grow [.fix (.slice (some ⟨b, off, none⟩) L.length c), .fix (.int .i64 k), .val (.pointer (some ⟨b, off + k * 5, none⟩)), .val (.pointer (some ⟨b, off + k * 5, none⟩)), .val (.int .i64 x.1), .val (.pointer (some ⟨p, 0, none⟩)), .val (.int .i64 t.1), .val (.bool false), .fix (.bool false), .fix undef, .fix undef, .fix undef, .fix undef, .fix undef, .fix undef, .fix (.bool false)] mixed (by kernel_rfl) ?_
        refine SeqG.fixStep (.inl ⟨rfl, fun _ => rfl⟩) ?_
        simp only [Act.put, List.setIfInBounds_toArray, List.set_cons_zero, List.set_cons_succ]
        refine SeqG.fixStep (.inl ⟨rfl, fun _ => rfl⟩) ?_
        simp only [Act.put, List.setIfInBounds_toArray, List.set_cons_zero, List.set_cons_succ]
        refine SeqG.valStep (fun wv hbv hpv => ?_) ?_
        · skip
          go_wp2_with fail
          exact post_val (Below.refl _ _)
        simp only [Act.put, List.setIfInBounds_toArray, List.set_cons_zero, List.set_cons_succ]
        refine SeqG.valStep (fun wv hbv hpv => ?_) ?_
        · skip
          go_wp2_with fail
          exact post_val (Below.refl _ _)
        simp only [Act.put, List.setIfInBounds_toArray, List.set_cons_zero, List.set_cons_succ]
        refine SeqG.valStep (fun wv hbv hpv => ?_) ?_
        · have c0 := (cells5 (hC.below hbv hBr) hx).1
          go_wp2_with fail
          exact post_val (Below.refl _ _)
        simp only [Act.put, List.setIfInBounds_toArray, List.set_cons_zero, List.set_cons_succ]
        refine SeqG.valStep (fun wv hbv hpv => ?_) ?_
        · skip
          go_wp2_with fail
          exact post_val (Below.refl _ _)
        simp only [Act.put, List.setIfInBounds_toArray, List.set_cons_zero, List.set_cons_succ]
        refine SeqG.valStep (fun wv hbv hpv => ?_) ?_
        · have ct := (kt.below' hbv).cell
          go_wp2_with fail
          exact post_val (Below.refl _ _)
        simp only [Act.put, List.setIfInBounds_toArray, List.set_cons_zero, List.set_cons_succ]
        refine SeqG.valStep (fun wv hbv hpv => ?_) ?_
        · skip
          go_wp2_with fail
          exact post_val (Below.refl _ _)
        simp only [Act.put, List.setIfInBounds_toArray, List.set_cons_zero, List.set_cons_succ]
        refine SeqG.fixStep (.inl ⟨rfl, fun _ => rfl⟩) ?_
        simp only [Act.put, List.setIfInBounds_toArray, List.set_cons_zero, List.set_cons_succ]
        refine SeqG.fixStep (.inr ⟨rfl, rfl⟩) ?_
        simp only [Act.put, List.setIfInBounds_toArray, List.set_cons_zero, List.set_cons_succ]
        refine SeqG.fixStep (.inr ⟨rfl, rfl⟩) ?_
        simp only [Act.put, List.setIfInBounds_toArray, List.set_cons_zero, List.set_cons_succ]
        refine SeqG.fixStep (.inr ⟨rfl, rfl⟩) ?_
        simp only [Act.put, List.setIfInBounds_toArray, List.set_cons_zero, List.set_cons_succ]
        refine SeqG.fixStep (.inr ⟨rfl, rfl⟩) ?_
        simp only [Act.put, List.setIfInBounds_toArray, List.set_cons_zero, List.set_cons_succ]
        refine SeqG.fixStep (.inr ⟨rfl, rfl⟩) ?_
        simp only [Act.put, List.setIfInBounds_toArray, List.set_cons_zero, List.set_cons_succ]
        refine SeqG.fixStep (.inr ⟨rfl, rfl⟩) ?_
        simp only [Act.put, List.setIfInBounds_toArray, List.set_cons_zero, List.set_cons_succ]
        refine SeqG.fixStep (.inl ⟨rfl, fun _ => rfl⟩) ?_
        simp only [Act.put, List.setIfInBounds_toArray, List.set_cons_zero, List.set_cons_succ]
        refine SeqG.done fun wv hbv hpv => ?_
        refine NoPan.normal ?_
        clear hpv
        have hb2 : Below W.heap.size W wv := hb.trans (hbv.mono zr)
        go_wp2
        go_roundw
        case rel => exact ⟨k + 1, by go_num, by omega, Hn, hb2⟩
        case measure => simp only [intOf]; omega
      · have hq : (x.1 != t.1) = true := by simpa using h
        have HA := Lib.hid (show anyB t x = meetB x t by simp [anyB, h])
        have HX := Lib.hid hx
        clear h hr0 hcs hlt
        go_wp2
        refine wp_region_grow [.fix (.slice (some ⟨b, off, none⟩) L.length c), .fix (.int .i64 k), .val (.pointer (some ⟨b, off + k * 5, none⟩)), .val (.pointer (some ⟨b, off + k * 5, none⟩)), .val (.int .i64 x.1), .val (.pointer (some ⟨p, 0, none⟩)), .val (.int .i64 t.1), .val (.bool true), .fix (.bool true), .fix (.slice (some ⟨b, off, none⟩) L.length c), .fix (.int .i64 k), .val (.pointer (some ⟨b, off + k * 5, none⟩)), .val (.agg #[.int .i64 x.1, .int .i64 x.2.1, .int .i64 x.2.2.1, .int .i64 x.2.2.2.1, .int .i64 x.2.2.2.2]), .val (.agg #[.int .i64 t.1, .int .i64 t.2.1, .int .i64 t.2.2.1, .int .i64 t.2.2.2.1, .int .i64 t.2.2.2.2]), .val (.bool (meetB x t)), .fix (.bool (meetB x t))] mixed (by kernel_rfl) ?_
        refine SeqG.fixStep (.inl ⟨rfl, fun _ => rfl⟩) ?_
        simp only [Act.put, List.setIfInBounds_toArray, List.set_cons_zero, List.set_cons_succ]
        refine SeqG.fixStep (.inl ⟨rfl, fun _ => rfl⟩) ?_
        simp only [Act.put, List.setIfInBounds_toArray, List.set_cons_zero, List.set_cons_succ]
        refine SeqG.valStep (fun wv hbv hpv => ?_) ?_
        · skip
          go_wp2_with fail
          exact post_val (Below.refl _ _)
        simp only [Act.put, List.setIfInBounds_toArray, List.set_cons_zero, List.set_cons_succ]
        refine SeqG.valStep (fun wv hbv hpv => ?_) ?_
        · skip
          go_wp2_with fail
          exact post_val (Below.refl _ _)
        simp only [Act.put, List.setIfInBounds_toArray, List.set_cons_zero, List.set_cons_succ]
        refine SeqG.valStep (fun wv hbv hpv => ?_) ?_
        · have c0 := (cells5 (hC.below hbv hBr) hx).1
          go_wp2_with fail
          exact post_val (Below.refl _ _)
        simp only [Act.put, List.setIfInBounds_toArray, List.set_cons_zero, List.set_cons_succ]
        refine SeqG.valStep (fun wv hbv hpv => ?_) ?_
        · skip
          go_wp2_with fail
          exact post_val (Below.refl _ _)
        simp only [Act.put, List.setIfInBounds_toArray, List.set_cons_zero, List.set_cons_succ]
        refine SeqG.valStep (fun wv hbv hpv => ?_) ?_
        · have ct := (kt.below' hbv).cell
          go_wp2_with fail
          exact post_val (Below.refl _ _)
        simp only [Act.put, List.setIfInBounds_toArray, List.set_cons_zero, List.set_cons_succ]
        refine SeqG.valStep (fun wv hbv hpv => ?_) ?_
        · skip
          go_wp2_with fail
          exact post_val (Below.refl _ _)
        simp only [Act.put, List.setIfInBounds_toArray, List.set_cons_zero, List.set_cons_succ]
        refine SeqG.fixStep (.inl ⟨rfl, fun _ => rfl⟩) ?_
        simp only [Act.put, List.setIfInBounds_toArray, List.set_cons_zero, List.set_cons_succ]
        refine SeqG.fixStep (.inl ⟨rfl, fun _ => rfl⟩) ?_
        simp only [Act.put, List.setIfInBounds_toArray, List.set_cons_zero, List.set_cons_succ]
        refine SeqG.fixStep (.inl ⟨rfl, fun _ => rfl⟩) ?_
        simp only [Act.put, List.setIfInBounds_toArray, List.set_cons_zero, List.set_cons_succ]
        refine SeqG.valStep (fun wv hbv hpv => ?_) ?_
        · skip
          go_wp2_with fail
          exact post_val (Below.refl _ _)
        simp only [Act.put, List.setIfInBounds_toArray, List.set_cons_zero, List.set_cons_succ]
        refine SeqG.valStep (fun wv hbv hpv => ?_) ?_
        · obtain ⟨c0, c1, c2, c3, c4⟩ := cells5 (hC.below hbv hBr) hx
          go_wp2_with fail
          exact post_val (Below.refl _ _)
        simp only [Act.put, List.setIfInBounds_toArray, List.set_cons_zero, List.set_cons_succ]
        refine SeqG.valStep (fun wv hbv hpv => ?_) ?_
        · have ct := (kt.below' hbv).cell
          go_wp2_with fail
          exact post_val (Below.refl _ _)
        simp only [Act.put, List.setIfInBounds_toArray, List.set_cons_zero, List.set_cons_succ]
        refine SeqG.valStep (fun wv hbv hpv => ?_) ?_
        · go_wp2_with fail
          refine (l11MeetW_any x t _ htx ht).mono ?_; rintro e w' ⟨he, hb⟩; subst he
          go_wp2_with fail
          exact post_val hb
        simp only [Act.put, List.setIfInBounds_toArray, List.set_cons_zero, List.set_cons_succ]
        refine SeqG.fixStep (.inl ⟨rfl, fun _ => rfl⟩) ?_
        simp only [Act.put, List.setIfInBounds_toArray, List.set_cons_zero, List.set_cons_succ]
        refine SeqG.done fun wv hbv hpv => ?_
        refine NoPan.normal ?_
        clear hpv
        have hb2 : Below W.heap.size W wv := hb.trans (hbv.mono zr)
        cases hm : meetB x t
        · have Hn : Hid (∀ j y, j < k + 1 → L[j]? = some y → anyB t y = false) := fun j y hj hy => by
            by_cases e : j = k
            · subst e; have := HX.out; rw [this] at hy; cases hy; rw [HA.out, hm]
            · exact hs.out j y (by omega) hy
          clear hs
          go_wp2
          go_roundw
          case rel => exact ⟨k + 1, by go_num, by omega, Hn, hb2⟩
          case measure => simp only [intOf]; omega
        · have Hv := Lib.hid (show (!metB L t) = false by
            have : metB L t = true := List.any_eq_true.2 ⟨x, List.mem_of_getElem? HX.out, by rw [HA.out, hm]⟩
            rw [this]; rfl)
          clear hs
          go_wp2
          go_ret
          exact ⟨by rw [Hv.out]; rfl, by rw [Hp.out]; exact hb0.trans (hb2.mono zp)⟩
    · obtain rfl : k = L.length := by omega
      have Hv := Lib.hid (show (!metB L t) = true by
        have : metB L t = false := by
          unfold metB
          rw [List.any_eq_false]
          intro y hy
          obtain ⟨j, hj, rfl⟩ := List.getElem_of_mem hy
          rw [hs.out j _ hj (List.getElem?_eq_getElem hj)]
          simp
        rw [this]; rfl)
      clear hs
      go_wp2
      go_ret
      exact ⟨by rw [Hv.out]; rfl, by rw [Hp.out]; exact hb0.trans (hb.mono zp)⟩
end Go.Proofs.Ytfcmfadkkfkidaa
namespace Go.Proofs.Ytfcmfadkkfkidaa
open Go.RowKit

/-- A list of small trips. -/
def TripsOk (n : Nat) (M : List T5) : Prop := M.length ≤ n ∧ ∀ x ∈ M, SmT x
theorem TripsOk.nil {n : Nat} : TripsOk n [] := ⟨Nat.zero_le _, fun x h => by cases h⟩
theorem TripsOk.snoc {n : Nat} {M : List T5} {x : T5} (h : TripsOk n M) (hx : SmT x) : TripsOk (n + 1) (M ++ [x]) :=
  ⟨by rw [List.length_append]; have := h.1; simp; omega, fun y hy => by
    rw [List.mem_append] at hy
    rcases hy with hy | hy
    · exact h.2 y hy
    · rw [List.mem_singleton] at hy; rw [hy]; exact hx⟩
theorem TripsOk.mono {n m : Nat} {M : List T5} (h : TripsOk n M) (hm : n ≤ m) : TripsOk m M := ⟨Nat.le_trans h.1 hm, h.2⟩
theorem TripsOk.inI {n : Nat} {M : List T5} (h : TripsOk n M) : ∀ x ∈ M, InI5 x := fun x hx => (h.2 x hx).inI
theorem SmT.trW {t : T5} (h : SmT t) : TrW t := ⟨h.2.1, h.2.2.1, h.2.2.2.1⟩
theorem Gath.form5 {t : TypeId} {w : World} {B : Nat} {v : Value} {L : List T5} (h : Gath f5 5 t w B v L) (hv : v ≠ .slice none 0 0) :
    ∃ g c, v = .slice (some ⟨g, 0, none⟩) L.length c ∧ B ≤ g ∧ L.length ≤ c ∧ g < w.heap.size ∧ Cells f5 5 w g 0 L := by
  obtain ⟨A, c0, e, ho⟩ := Gath.own (f := f5) (m := 5) (fun _ => rfl) h
  obtain ⟨h0, ⟨hn, _⟩ | ⟨g, cap, cur, hv', hB, hh, hn, hcm, hs, ht⟩⟩ := h
  · exact absurd hn hv
  · refine ⟨g, cap, hv', hB, hn, ?_, ?_⟩
    · rcases Nat.lt_or_ge g w.heap.size with h | h
      · exact h
      · rw [Array.getElem?_eq_none h] at hh; cases hh
    · rw [hv'] at e
      injection e with e1 _ _
      intro k x hx
      obtain ⟨g1, e2, _, _, hC⟩ := ho (SlR.ne hx)
      rw [e2] at e1
      injection e1 with e1
      injection e1 with e1
      subst e1
      exact hC k x hx
/-- The cursor hands back a list of small trips, not nil. -/
def CurTs (A : Option Addr) (c : Nat) (L : List Int) (g n : Nat) (w : World) (e : Ending) (w' : World) : Prop :=
  ∃ A' c' M, e = .returned (.slice A' M.length c') ∧ TripsOk 12 M ∧ OwnR f5 5 25 w' w.heap.size A' M ∧ (M.length ≤ c' ∧ ∃ x, A' = some x) ∧ Cur A c L g n w' ∧ ButG g w w'
theorem curTs_end {A : Option Addr} {c : Nat} {L : List Int} {g n n' : Nat} {w w1 : World} {v : Value} {M : List T5} (hG : Gath f5 5 25 w1 w.heap.size v M) (hv : v ≠ .slice none 0 0) (hM : TripsOk 12 M) (hc : Cur A c L g n w1) (hn : n ≤ n') (hB : ButG g w w1) : CurTs A c L g n' w (.returned v) w1 := by
  obtain ⟨q, c5, rfl, h1, h2, h3, h4⟩ := hG.form5 hv
  obtain ⟨A', c', e, ho⟩ := Gath.own (f := f5) (m := 5) (fun _ => rfl) hG
  cases e
  exact ⟨_, _, M, rfl, hM, ho, ⟨h2, _, rfl⟩, hc.mono hn, hB⟩
theorem SeqNoPan {P : Program} {ops : Array Oper} {Q : Exit → Act → World → Prop} {l : List Oper} {a : Act} {w : World} (h : wpList P ops Q l a w) : wpList P ops Q l a w := h

set_option maxRecDepth 20000 in
set_option maxHeartbeats 16000000 in
theorem trips_any (A : Option Addr) (c : Nat) (L : List Int) (g nn : Nat) (w : World) (hI : ∀ x ∈ L, 0 ≤ x ∧ x ≤ 255) (hl : (L.length : Int) ≤ 65536) (hnn : nn ≤ 100000) (hc : Cur A c L g nn w) :
    Calls Try.prog 88 #[.pointer (some ⟨g, 0, none⟩)] w (CurTs A c L g (nn + 200) w) := by
  obtain ⟨i0, hi, hz0, hz1, hz2⟩ := info_parts infoTrip
  have HII := Lib.hid hi; have HZ0 := Lib.hid hz0; have HZ1 := Lib.hid hz1; have HZ2 := Lib.hid hz2
  clear hi hz0 hz1 hz2
  have g0 := hc.lt
  have hG0 := Gath.made (f := f5) (m := 5) (t := 25) (B := w.heap.size) (w := w) (Nat.le_refl _)
  go_enter Try.func88, Try.ntmps88
  go_wp2_with fail
  refine (one_any A c L g (nn) (2) _ hI hl (by omega) (by omega) (hc.next (by (repeat (first | exact Below.refl _ _ | refine Below.drew ?_ | refine below_drewN ?_ _ | (refine Below.alloc ?_ (by (try simp) <;> omega) _) | (refine Below.setCell ?_ (by (try simp) <;> omega) _) | (refine Below.trans ?_ (Below.mono (by assumption) (by (try simp) <;> omega)))))))).mono ?_; rintro e w1 ⟨x1, rfl, hc1, hb1⟩
  have G1 : ButG g w w1 := ButG.refl.trans ((ButG.of (by (repeat (first | exact Below.refl _ _ | refine Below.drew ?_ | refine below_drewN ?_ _ | (refine Below.alloc ?_ (by (try simp) <;> omega) _) | (refine Below.setCell ?_ (by (try simp) <;> omega) _) | (refine Below.trans ?_ (Below.mono (by assumption) (by (try simp) <;> omega)))))) : ButG g w _).trans hb1)
  have hG1 := Gath.but hG0 g0 hb1
  go_wp2_with fail
  refine (pick_any A c L g (nn + 2) (9) _ hI hl (by omega) (by omega) (hc1.next (by (repeat (first | exact Below.refl _ _ | refine Below.drew ?_ | refine below_drewN ?_ _ | (refine Below.alloc ?_ (by (try simp) <;> omega) _) | (refine Below.setCell ?_ (by (try simp) <;> omega) _) | (refine Below.trans ?_ (Below.mono (by assumption) (by (try simp) <;> omega)))))))).mono ?_; rintro e w2 ⟨x2, rfl, hx2, hc2, hb2⟩
  have G2 : ButG g w w2 := G1.trans ((ButG.of (by (repeat (first | exact Below.refl _ _ | refine Below.drew ?_ | refine below_drewN ?_ _ | (refine Below.alloc ?_ (by (try simp) <;> omega) _) | (refine Below.setCell ?_ (by (try simp) <;> omega) _) | (refine Below.trans ?_ (Below.mono (by assumption) (by (try simp) <;> omega)))))) : ButG g w1 _).trans hb2)
  have hG2 := Gath.but hG1 g0 hb2
  obtain ⟨u2, v2⟩ := hx2
  generalize x1 = calm at *
  clear hb1 hb2 hc1 hG0 hG1 G1
  go_wp2
  go_loopw [3, 4, 6] (fun v3 v4 v6 wr => ∃ (M : List T5) (id j : Int), Gath f5 5 25 wr w.heap.size v3 M ∧ v3 ≠ .slice none 0 0 ∧ v4 = .int .i64 id ∧ v6 = .int .i64 j ∧ (0 ≤ j ∧ M.length + j ≤ 8) ∧ (0 ≤ id ∧ id + 2 * j ≤ 16) ∧ Hid (TripsOk M.length M) ∧ Cur A c L g (nn + 4 + 16 * (8 - j).toNat) wr ∧ ButG g w wr) (fun _ _ v6 _ => (intOf v6).toNat)
  case atStart => exact ⟨[], 0, x2, hG2, by simp, rfl, rfl, ⟨by omega, by simp; omega⟩, ⟨by omega, by omega⟩, TripsOk.nil, hc2.mono (by omega), G2⟩
  case round =>
    obtain ⟨M, id, j, hG, hv3, rfl, rfl, ⟨hj, hMj⟩, ⟨hid0, hid1⟩, hM, hcr, hB⟩ := hrel
    have zr := hB.size
    have hc9 := hcr
    have G9 := hB
    generalize wr = w9 at *
    clear hc2 hG2 G2 hcr hB
    have hn8 : M.length ≤ 8 := by omega
    have hn80 : (M.length : Int) ≤ 8 := by omega
    by_cases hj0 : 0 < j
    · go_wp2_with fail
      refine (pick_any A c L g (nn + 4 + 16 * (8 - j).toNat) (2) _ hI hl (by omega) (by omega) (hc9.next (by (repeat (first | exact Below.refl _ _ | refine Below.drew ?_ | refine below_drewN ?_ _ | (refine Below.alloc ?_ (by (try simp) <;> omega) _) | (refine Below.setCell ?_ (by (try simp) <;> omega) _) | (refine Below.trans ?_ (Below.mono (by assumption) (by (try simp) <;> omega)))))))).mono ?_; rintro e w3 ⟨x3, rfl, hx3, hc3, hb3⟩
      have G3 : ButG g w w3 := G9.trans ((ButG.of (by (repeat (first | exact Below.refl _ _ | refine Below.drew ?_ | refine below_drewN ?_ _ | (refine Below.alloc ?_ (by (try simp) <;> omega) _) | (refine Below.setCell ?_ (by (try simp) <;> omega) _) | (refine Below.trans ?_ (Below.mono (by assumption) (by (try simp) <;> omega)))))) : ButG g w9 _).trans hb3)
      obtain ⟨u3, y3⟩ := hx3
      have hG3' := Gath.but hG g0 hb3
      obtain ⟨id', hid'⟩ : ∃ id', id + 1 + x3 = id' := ⟨_, rfl⟩
      have hid3 : 0 ≤ id' ∧ id' + 2 * (j - 1) ≤ 16 := by omega
      go_wp2_with fail
      refine (trip_any A c L g (nn + 4 + 16 * (8 - j).toNat + 2) id' w3 hI hl (by omega) ⟨by omega, by omega⟩ hc3).mono ?_; rintro e w4 ⟨t, rfl, hsm, hc4, hb4⟩
      have hG4 := Gath.but hG3' g0 hb4
      have G4 := G3.trans hb4
      have z4 := G4.size
      clear hid' u3 y3 hb3 hb4 hc3 hc9 hG hG3' G3 G9 hid0 hid1
      have hqg : w4.heap.size ≠ g := by omega
      have KB := Lib.hid (show Blk (w4.alloc (.cells #[.int .i64 t.1, .int .i64 t.2.1, .int .i64 t.2.2.1, .int .i64 t.2.2.2.1, .int .i64 t.2.2.2.2] 25)) w4.heap.size 25 #[.int .i64 t.1, .int .i64 t.2.1, .int .i64 t.2.2.1, .int .i64 t.2.2.2.1, .int .i64 t.2.2.2.2] from Blk.new w4 _ _)
      have HCZ := Lib.hid (show Cur A c L g _ (w4.alloc (.cells #[.int .i64 t.1, .int .i64 t.2.1, .int .i64 t.2.2.1, .int .i64 t.2.2.2.1, .int .i64 t.2.2.2.2] 25)) from hc4.next (by (repeat (first | exact Below.refl _ _ | refine Below.drew ?_ | refine below_drewN ?_ _ | (refine Below.alloc ?_ (by (try simp) <;> omega) _) | (refine Below.setCell ?_ (by (try simp) <;> omega) _) | (refine Below.trans ?_ (Below.mono (by assumption) (by (try simp) <;> omega)))))))
      have HGZ := Lib.hid (show Gath f5 5 25 (w4.alloc (.cells #[.int .i64 t.1, .int .i64 t.2.1, .int .i64 t.2.2.1, .int .i64 t.2.2.2.1, .int .i64 t.2.2.2.2] 25)) w.heap.size _ M from hG4.below (by (repeat (first | exact Below.refl _ _ | refine Below.drew ?_ | refine below_drewN ?_ _ | (refine Below.alloc ?_ (by (try simp) <;> omega) _) | (refine Below.setCell ?_ (by (try simp) <;> omega) _) | (refine Below.trans ?_ (Below.mono (by assumption) (by (try simp) <;> omega)))))))
      have HBZ := Lib.hid (show ButG g w (w4.alloc (.cells #[.int .i64 t.1, .int .i64 t.2.1, .int .i64 t.2.2.1, .int .i64 t.2.2.2.1, .int .i64 t.2.2.2.2] 25)) from G4.trans (.of (by (repeat (first | exact Below.refl _ _ | refine Below.drew ?_ | refine below_drewN ?_ _ | (refine Below.alloc ?_ (by (try simp) <;> omega) _) | (refine Below.setCell ?_ (by (try simp) <;> omega) _) | (refine Below.trans ?_ (Below.mono (by assumption) (by (try simp) <;> omega))))))))
      go_wp2
      generalize w4.alloc (.cells #[.int .i64 t.1, .int .i64 t.2.1, .int .i64 t.2.2.1, .int .i64 t.2.2.2.1, .int .i64 t.2.2.2.2] 25) = wz at *
      generalize w4.heap.size = q at *
      have hcz := HCZ.out
      have hGz := HGZ.out
      have Gz := HBZ.out
      have zz := Gz.size
      have gz := hcz.lt
      obtain ⟨q5, c5, rfl, hq5, hc5, hl5, hC5⟩ := hGz.form5 hv3
      have kz := KB.out
      have HGz := Lib.hid hGz
      have HV3 := Lib.hid hv3
      clear hc4 hG4 G4 z4 HCZ HGZ HBZ KB hGz hv3
      refine wp_region_grow [.pred (EmpT wz.heap.size), .fix (.slice (some ⟨q5, 0, none⟩) M.length c5), .pred (GathT wz.heap.size M), .val (.agg #[.int .i64 t.1, .int .i64 t.2.1, .int .i64 t.2.2.1, .int .i64 t.2.2.2.1, .int .i64 t.2.2.2.2]), .pred (LitT wz.heap.size t)] mixed (by kernel_rfl) ?_
      refine SeqG.predStep EmpT.next (fun wv hbv hpv => ?_) (fun v0 => ?_)
      · clear hpv
        go_wp2_with fail
        exact post_pred (F := EmpT wz.heap.size) _ (by (repeat (first | exact Below.refl _ _ | refine Below.drew ?_ | refine below_drewN ?_ _ | (refine Below.alloc ?_ (by (try simp) <;> omega) _) | (refine Below.setCell ?_ (by (try simp) <;> omega) _) | (refine Below.trans ?_ (Below.mono (by assumption) (by (try simp) <;> omega)))))) ⟨_, rfl, hbv.size, Gath.made hbv.size⟩
      simp only [Act.put, List.setIfInBounds_toArray, List.set_cons_zero, List.set_cons_succ]
      refine SeqG.fixStep (.inl ⟨rfl, fun _ => rfl⟩) ?_
      simp only [Act.put, List.setIfInBounds_toArray, List.set_cons_zero, List.set_cons_succ]
      refine SeqG.predStep GathT.next (fun wv hbv hpv => ?_) (fun v1 => ?_)
      · obtain ⟨g0, rfl, hg0, hE0⟩ := hpv _ (.head _) (by kernel_rfl)
        clear hpv
        have HP := Lib.hid (cells_flat (f := f5) (m := 5) (fun _ => rfl) (by omega) (hC5.below hbv hl5))
        refine wpList_append_arg _ rfl _ _ 33 rfl 25 i0 (.agg #[.int .i64 0, .int .i64 0, .int .i64 0, .int .i64 0, .int .i64 0]) 5 40 Try.underlying33 HII.out HZ0.out HZ1.out HZ2.out rfl (by decide) g0 0 0 0 [] rfl rfl (by intro j u h; simp at h) ⟨q5, 0, none⟩ M.length c5 (M.flatMap f5) rfl (by rw [flat_len (f := f5) (m := 5) (fun _ => rfl)]) HP.out (flat_one f_one5) ?_ ?_ ?_ ?_ ?_
        · intro h; intro j hj; rw [flat_len (f := f5) (m := 5) (fun _ => rfl)] at hj; omega
        · unfold maxLen; omega
        · omega
        · intro h
          have e0 : M = [] := List.length_eq_zero_iff.1 (by omega)
          have hm0 : M.length = 0 := by omega
          rw [e0]
          simp only [List.flatMap_nil, World.setCells]
          exact ⟨rfl, _, by simp [hm0, Act.put], Below.refl _ _, hE0⟩
        · intro h v' w' hown hgrow
          refine ⟨rfl, v', rfl, below_grown hgrow (fun k h => by cases h), ?_⟩
          have := own_mono hown hbv.size
          unfold GathT Gath; simpa using this
      simp only [Act.put, List.setIfInBounds_toArray, List.set_cons_zero, List.set_cons_succ]
      refine SeqG.valStep (fun wv hbv hpv => ?_) ?_
      · have ct := (kz.below' hbv).cell
        go_wp2_with fail
        exact post_val (Below.refl _ _)
      simp only [Act.put, List.setIfInBounds_toArray, List.set_cons_zero, List.set_cons_succ]
      refine SeqG.predStep LitT.next (fun wv hbv hpv => ?_) (fun v2 => ?_)
      · clear hpv
        go_wp2_with fail
        exact post_pred (F := LitT wz.heap.size t) _ (by (repeat (first | exact Below.refl _ _ | refine Below.drew ?_ | refine below_drewN ?_ _ | (refine Below.alloc ?_ (by (try simp) <;> omega) _) | (refine Below.setCell ?_ (by (try simp) <;> omega) _) | (refine Below.trans ?_ (Below.mono (by assumption) (by (try simp) <;> omega)))))) ⟨wv.heap.size, rfl, hbv.size, Blk.new _ _ _⟩
      simp only [Act.put, List.setIfInBounds_toArray, List.set_cons_zero, List.set_cons_succ]
      refine SeqG.done fun wv hbv hpv => ?_
      obtain ⟨g9, rfl, hg9, hc9⟩ := hpv _ (.head _)
      have hG3 : Gath f5 5 25 wv wz.heap.size v1 (M) := hpv _ (.tail _ (.head _))
      clear hpv
      have zv := hbv.size
      refine SeqNoPan ?_
      refine wpList_append_own _ rfl _ _ 33 rfl wz.heap.size 25 i0 (.agg #[.int .i64 0, .int .i64 0, .int .i64 0, .int .i64 0, .int .i64 0]) 5 40 Try.underlying33 HII.out HZ0.out HZ1.out HZ2.out rfl (by decide) _ _ _ rfl hG3 ⟨g9, 0, none⟩ 1 1 (f5 t) rfl rfl (trip_src hc9) (f_one5 t) ?_ ?_ zv ?_
      · unfold maxLen; omega
      · omega
      intro v' w8 hown hgrow hnil
      have hb8 : Below wz.heap.size wz w8 := below_grown' hbv hgrow hG3 (Nat.le_refl _) zv
      have hG8 : Gath f5 5 25 w8 w.heap.size v' (M ++ [t]) := own_mono (Gath.snoc hown) (by omega)
      have hv8 : v' ≠ .slice none 0 0 := fun e => by have := (hnil.1 e).2; omega
      have HG8 := Lib.hid hG8; have HV8 := Lib.hid hv8
      clear hown hgrow hnil hG3 hc9 hG8 hv8 hbv
      go_wp2_with fail
      refine NoPan.normal ?_
      have hc8 := hcz.next hb8
      have G8 := Gz.trans (.of hb8)
      have HGo8 := Lib.hid (HGz.out.below hb8)
      have HGn8 := HG8
      have kq8 := kz.below' hb8
      have HM9 : Hid (TripsOk (M ++ [t]).length (M ++ [t])) := by show TripsOk _ _; have h := hM.out.snoc hsm; rwa [show M.length + 1 = (M ++ [t]).length by simp] at h
      have HL9 := Lib.hid (show ((M ++ [t]).length : Int) = M.length + 1 by simp)
      have HI9 := Lib.hid (TripsOk.inI HM9.out)
      generalize M ++ [t] = O at *
      have HO8 := Lib.hid (show ∃ c8, ∃ A8, v' = .slice A8 O.length c8 ∧ SlR f5 5 w8 w8.heap.size A8 O from by
        obtain ⟨A8, c8, e8, o8⟩ := Gath.own (f := f5) (m := 5) (fun _ => rfl) HG8.out
        exact ⟨c8, A8, e8, o8.sl⟩)
      obtain ⟨c8, A8, rfl, s8⟩ := HO8.out
      have HVo := HV3
      clear HO8 hC5 hcz Gz zz gz HGz HG8 kz hb8 HV3
      have CG := Lib.hid (l11Good_any A8 c8 O w8 s8 (by rw [HL9.out]; omega) HI9.out)
      go_wp2_with fail
      refine CG.out.mono ?_; rintro e w10 ⟨rfl, hb10⟩
      have hc10 := hc8.next hb10
      have G10 := G8.trans (.of hb10)
      have HGn10 := Lib.hid (HGn8.out.below hb10)
      have HGo10 := Lib.hid (HGo8.out.below hb10)
      have kq10 := kq8.below' hb10
      clear CG s8 hb10 hc8 G8 HGn8 HGo8 kq8
      generalize tripsB O = good
      have own10 : ∀ (wx : World), Gath f5 5 25 wx w.heap.size (.slice (some ⟨q5, 0, none⟩) M.length c5) M → SlR f5 5 wx wx.heap.size (some ⟨q5, 0, none⟩) M := fun wx h => by
        obtain ⟨A9, c9, e9, o9⟩ := Gath.own (f := f5) (m := 5) (fun _ => rfl) h
        cases e9; exact o9.sl
      have OWN := Lib.hid own10
      clear own10
      cases good
      case true =>
        have HSo10 := Lib.hid (OWN.out _ HGo10.out)
        cases calm
        case false =>
          go_wp2
          go_roundw
          case rel => exact ⟨O, id', j - 1, HGn10.out, HV8.out, rfl, by go_num, ⟨by omega, by rw [HL9.out]; omega⟩, ⟨by omega, by omega⟩, HM9, hc10.mono (by omega), G10⟩
          case measure => simp only [intOf]; omega
        case true =>
          have C30 := Lib.hid (l11FreeW_any (some ⟨q5, 0, none⟩) c5 M t w10 HSo10.out (by omega) (fun x hx => (hM.out.2 x hx).trW) hsm.trW)
          have e30 := kq10.cell
          go_wp2_with fail
          refine C30.out.mono ?_; rintro e w30 ⟨rfl, hb30⟩
          have hc30 := hc10.next hb30
          have G30 := G10.trans (.of hb30)
          have HGn30 := Lib.hid (HGn10.out.below hb30)
          have HGo30 := Lib.hid (HGo10.out.below hb30)
          clear e30 C30 hb30
          cases metB M t
          case false =>
            go_wp2
            go_roundw
            case rel => exact ⟨O, id', j - 1, HGn30.out, HV8.out, rfl, by go_num, ⟨by omega, by rw [HL9.out]; omega⟩, ⟨by omega, by omega⟩, HM9, hc30.mono (by omega), G30⟩
            case measure => simp only [intOf]; omega
          case true =>
            go_wp2
            go_roundw
            case rel => exact ⟨M, id', j - 1, HGo30.out, HVo.out, rfl, by go_num, ⟨by omega, by omega⟩, ⟨by omega, by omega⟩, hM, hc30.mono (by omega), G30⟩
            case measure => simp only [intOf]; omega
      case false =>
        go_wp2_with fail
        refine (one_any A c L g (nn + 4 + 16 * (8 - j).toNat + 2 + 12) (40) _ hI hl (by omega) (by omega) (hc10.next (by (repeat (first | exact Below.refl _ _ | refine Below.drew ?_ | refine below_drewN ?_ _ | (refine Below.alloc ?_ (by (try simp) <;> omega) _) | (refine Below.setCell ?_ (by (try simp) <;> omega) _) | (refine Below.trans ?_ (Below.mono (by assumption) (by (try simp) <;> omega)))))))).mono ?_; rintro e w11 ⟨x11, rfl, hc11, hb11⟩
        have G11 : ButG g w w11 := G10.trans ((ButG.of (by (repeat (first | exact Below.refl _ _ | refine Below.drew ?_ | refine below_drewN ?_ _ | (refine Below.alloc ?_ (by (try simp) <;> omega) _) | (refine Below.setCell ?_ (by (try simp) <;> omega) _) | (refine Below.trans ?_ (Below.mono (by assumption) (by (try simp) <;> omega)))))) : ButG g w10 _).trans hb11)
        have HGn11 := Lib.hid (Gath.but HGn10.out g0 hb11)
        have HGo11 := Lib.hid (Gath.but HGo10.out g0 hb11)
        have kq11 := kq10.but hb11 hqg
        have HSo11 := Lib.hid (OWN.out _ HGo11.out)
        clear hb11 hc10 G10 kq10
        cases x11
        case false =>
          go_wp2
          go_roundw
          case rel => exact ⟨M, id', j - 1, HGo11.out, HVo.out, rfl, by go_num, ⟨by omega, by omega⟩, ⟨by omega, by omega⟩, hM, hc11.mono (by omega), G11⟩
          case measure => simp only [intOf]; omega
        case true =>
          cases calm
          case false =>
            go_wp2
            go_roundw
            case rel => exact ⟨O, id', j - 1, HGn11.out, HV8.out, rfl, by go_num, ⟨by omega, by rw [HL9.out]; omega⟩, ⟨by omega, by omega⟩, HM9, hc11.mono (by omega), G11⟩
            case measure => simp only [intOf]; omega
          case true =>
            have C30 := Lib.hid (l11FreeW_any (some ⟨q5, 0, none⟩) c5 M t w11 HSo11.out (by omega) (fun x hx => (hM.out.2 x hx).trW) hsm.trW)
            have e30 := kq11.cell
            go_wp2_with fail
            refine C30.out.mono ?_; rintro e w30 ⟨rfl, hb30⟩
            have hc30 := hc11.next hb30
            have G30 := G11.trans (.of hb30)
            have HGn30 := Lib.hid (HGn11.out.below hb30)
            have HGo30 := Lib.hid (HGo11.out.below hb30)
            clear e30 C30 hb30
            cases metB M t
            case false =>
              go_wp2
              go_roundw
              case rel => exact ⟨O, id', j - 1, HGn30.out, HV8.out, rfl, by go_num, ⟨by omega, by rw [HL9.out]; omega⟩, ⟨by omega, by omega⟩, HM9, hc30.mono (by omega), G30⟩
              case measure => simp only [intOf]; omega
            case true =>
              go_wp2
              go_roundw
              case rel => exact ⟨M, id', j - 1, HGo30.out, HVo.out, rfl, by go_num, ⟨by omega, by omega⟩, ⟨by omega, by omega⟩, hM, hc30.mono (by omega), G30⟩
              case measure => simp only [intOf]; omega
    · have hj2 : ¬ 0 < j := hj0
      have hc9' : Cur A c L g (nn + 132) w9 := hc9.mono (by omega)
      clear hc9 hid0 hid1
      have hc9 := hc9'
      clear hc9'
      go_wp2_with fail
      refine (pick_any A c L g (nn + 132) (30) _ hI hl (by omega) (by omega) (hc9.next (by (repeat (first | exact Below.refl _ _ | refine Below.drew ?_ | refine below_drewN ?_ _ | (refine Below.alloc ?_ (by (try simp) <;> omega) _) | (refine Below.setCell ?_ (by (try simp) <;> omega) _) | (refine Below.trans ?_ (Below.mono (by assumption) (by (try simp) <;> omega)))))))).mono ?_; rintro e w12 ⟨x12, rfl, hx12, hc12, hb12⟩
      have G12 : ButG g w w12 := G9.trans ((ButG.of (by (repeat (first | exact Below.refl _ _ | refine Below.drew ?_ | refine below_drewN ?_ _ | (refine Below.alloc ?_ (by (try simp) <;> omega) _) | (refine Below.setCell ?_ (by (try simp) <;> omega) _) | (refine Below.trans ?_ (Below.mono (by assumption) (by (try simp) <;> omega)))))) : ButG g w9 _).trans hb12)
      have hG12 := Gath.but hG g0 hb12
      have z12 := G12.size
      obtain ⟨u12, y12⟩ := hx12
      clear hb12 hc9 G9 hG zr hj hMj hj2 hj0
      by_cases h0 : x12 = 0
      · have q0 : (x12 == 0) = true := by simpa using h0
        have H0 := Lib.hid h0; clear h0 u12 y12
        have hE := Gath.made (f := f5) (m := 5) (t := 25) (B := w.heap.size) (w := w12) z12
        have hcE : Cur A c L g (nn + 134) (w12.alloc (.cells #[] 25 (0, 0))) := hc12.next (by (repeat (first | exact Below.refl _ _ | refine Below.drew ?_ | refine below_drewN ?_ _ | (refine Below.alloc ?_ (by (try simp) <;> omega) _) | (refine Below.setCell ?_ (by (try simp) <;> omega) _) | (refine Below.trans ?_ (Below.mono (by assumption) (by (try simp) <;> omega))))))
        have GE := G12.alloc (.cells #[] 25 (0, 0))
        clear hG12 hc12 G12 hv3
        go_wp2
        go_loopw [3, 9] (fun v3 v9 wr => ∃ (M' : List T5) (n : Int), Gath f5 5 25 wr w.heap.size v3 M' ∧ v3 ≠ .slice none 0 0 ∧ v9 = .int .i64 n ∧ (0 ≤ n ∧ n ≤ 11 ∧ (M'.length : Int) ≤ n) ∧ Hid (∀ x ∈ M', SmT x) ∧ Cur A c L g (nn + 134 + 2 * n.toNat) wr ∧ ButG g w wr) (fun _ v9 _ => (11 - intOf v9).toNat)
        case atStart => exact ⟨[], 0, hE, by simp, rfl, ⟨by omega, by omega, by simp⟩, fun x hx => by (cases hx), hcE.mono (by omega), GE⟩
        case round =>
          obtain ⟨M', n, hG, hv3, rfl, ⟨hn0, hn1, hMn⟩, hM', hcr, hB⟩ := hrel
          have hc20 := hcr
          have G20 := hB
          generalize wr = w20 at *
          clear hE hcE GE hcr hB
          go_wp2_with fail
          refine (pick_any A c L g (nn + 134 + 2 * n.toNat) (2) _ hI hl (by omega) (by omega) (hc20.next (by (repeat (first | exact Below.refl _ _ | refine Below.drew ?_ | refine below_drewN ?_ _ | (refine Below.alloc ?_ (by (try simp) <;> omega) _) | (refine Below.setCell ?_ (by (try simp) <;> omega) _) | (refine Below.trans ?_ (Below.mono (by assumption) (by (try simp) <;> omega)))))))).mono ?_; rintro e w21 ⟨x21, rfl, hx21, hc21, hb21⟩
          have G21 : ButG g w w21 := G20.trans ((ButG.of (by (repeat (first | exact Below.refl _ _ | refine Below.drew ?_ | refine below_drewN ?_ _ | (refine Below.alloc ?_ (by (try simp) <;> omega) _) | (refine Below.setCell ?_ (by (try simp) <;> omega) _) | (refine Below.trans ?_ (Below.mono (by assumption) (by (try simp) <;> omega)))))) : ButG g w20 _).trans hb21)
          have hG21 := Gath.but hG g0 hb21
          have z21 := G21.size
          obtain ⟨u21, y21⟩ := hx21
          clear hb21 hc20 G20 hG
          by_cases hlt : n < 10 + x21
          · have HG := Lib.hid (Gath.alloc hG21 (.cells #[.int .i64 (n + 1), .int .i64 0, .int .i64 2, .int .i64 (480 + 10 * n), .int .i64 2] 25))
            have HG0 := Lib.hid hG21
            clear hG21
            have hMl : M'.length ≤ 11 := by omega
            go_wp2_with (at_builtin; refine wpList_append_own _ rfl _ _ 33 rfl w.heap.size 25 i0 (.agg #[.int .i64 0, .int .i64 0, .int .i64 0, .int .i64 0, .int .i64 0]) 5 40 Try.underlying33 HII.out HZ0.out HZ1.out HZ2.out rfl (by decide) _ _ _ rfl HG.out ⟨_, 0, none⟩ 1 1 (f5 (n + 1, 0, 2, 480 + 10 * n, 2)) rfl rfl (lit_cells _ _ _) (f_one5 _) ?c3 ?c4 ?c5 ?c6)
            case c3 => unfold maxLen; first | omega | (simp; omega)
            case c4 => first | omega | (simp; omega)
            case c5 => first | omega | (simp; omega)
            case c6 =>
              intro v' w8 hown hgrow hnil
              have hG8 : Gath f5 5 25 w8 w.heap.size v' (M' ++ [(n + 1, 0, 2, 480 + 10 * n, 2)]) := Gath.snoc hown
              have hv8 : v' ≠ .slice none 0 0 := by first | exact hnil | exact fun e => by have := (hnil.1 e).2; omega
              have hc8 : Cur A c L g (nn + 134 + 2 * n.toNat + 2) w8 := (hc21.next (by (repeat (first | exact Below.refl _ _ | refine Below.drew ?_ | refine below_drewN ?_ _ | (refine Below.alloc ?_ (by (try simp) <;> omega) _) | (refine Below.setCell ?_ (by (try simp) <;> omega) _) | (refine Below.trans ?_ (Below.mono (by assumption) (by (try simp) <;> omega)))))) : Cur A c L g (nn + 134 + 2 * n.toNat + 2) (w21.alloc (.cells #[.int .i64 (n + 1), .int .i64 0, .int .i64 2, .int .i64 (480 + 10 * n), .int .i64 2] 25))).grown hgrow (fun k hk => by have := HG0.out.rowGe k hk; omega)
              have G8 : ButG g w w8 := (G21.alloc _).grown hgrow (fun k hk => HG0.out.rowGe k hk)
              have HL8 := Lib.hid (show ((M' ++ [(n + 1, 0, 2, 480 + 10 * n, 2)]).length : Int) = M'.length + 1 by simp)
              have HM8 : Hid (∀ x ∈ M' ++ [((n + 1, 0, 2, 480 + 10 * n, 2) : T5)], SmT x) := fun x hx => by
                rw [List.mem_append] at hx
                rcases hx with hx | hx
                · exact hM'.out x hx
                · rw [List.mem_singleton] at hx; subst hx; unfold SmT Small; simp; omega
              clear hown hgrow hnil HG HG0 hc21 G21
              go_wp2
              go_roundw
              case rel => exact ⟨_, n + 1, hG8, hv8, by go_num, ⟨by omega, by omega, by rw [HL8.out]; omega⟩, HM8, hc8.mono (by omega), G8⟩
              case measure => simp only [intOf]; omega
          · have HX := Lib.hid (curTs_end (n' := nn + 200) hG21 hv3 ⟨by omega, hM'.out⟩ hc21 (by omega) G21)
            clear hG21 hv3 hc21 G21
            go_wp2
            go_ret
            exact HX.out
      have q0 : (x12 == 0) = false := by simpa using h0
      by_cases h1 : x12 = 1
      · have q1 : (x12 == 1) = true := by simpa using h1
        have H1 := Lib.hid h1; clear h0 h1 u12 y12
        obtain ⟨q5, c5, rfl, hq5, hc5, hl5, hC5⟩ := hG12.form5 hv3
        by_cases hM1 : 1 < M.length
        · have hM1i : (1 : Int) < (M.length : Int) := by omega
          have hx : M[0]? = some (M[0]'(by omega)) := List.getElem?_eq_getElem _
          generalize M[0]'(by omega) = x0 at hx
          have hxs := hM.out.2 x0 (List.mem_of_getElem? hx)
          have hk1 : ¬ (c5 = 1) := by omega
          have hk2 : (1 : Int) ≤ (c5 : Int) := by omega
          have HX := Lib.hid hx
          have HDL := Lib.hid (show (M.drop 1 ++ [x0]).length ≤ 12 by rw [List.length_append, List.length_drop]; simp; omega)
          have HDM : Hid (∀ x ∈ M.drop 1 ++ [x0], SmT x) := fun x hx => by
            rw [List.mem_append] at hx
            rcases hx with hx | hx
            · exact hM.out.2 x (List.mem_of_mem_drop hx)
            · rw [List.mem_singleton] at hx; rw [hx]; exact hxs
          generalize w12 = wz at *
          clear hx hG12 hv3
          go_wp2
          refine wp_region_grow [.pred (EmpT wz.heap.size), .fix (.slice (some ⟨q5, 0, none⟩) M.length c5), .val (.slice (some ⟨q5, 5, none⟩) (M.length - 1) (c5 - 1)), .pred (GathT wz.heap.size (M.drop 1)), .fix (.slice (some ⟨q5, 0, none⟩) M.length c5), .val (.pointer (some ⟨q5, 0, none⟩)), .val (.agg #[.int .i64 x0.1, .int .i64 x0.2.1, .int .i64 x0.2.2.1, .int .i64 x0.2.2.2.1, .int .i64 x0.2.2.2.2]), .pred (LitT wz.heap.size x0)] mixed (by kernel_rfl) ?_
          refine SeqG.predStep EmpT.next (fun wv hbv hpv => ?_) (fun v0 => ?_)
          · clear hpv
            go_wp2_with fail
            exact post_pred (F := EmpT wz.heap.size) _ (by (repeat (first | exact Below.refl _ _ | refine Below.drew ?_ | refine below_drewN ?_ _ | (refine Below.alloc ?_ (by (try simp) <;> omega) _) | (refine Below.setCell ?_ (by (try simp) <;> omega) _) | (refine Below.trans ?_ (Below.mono (by assumption) (by (try simp) <;> omega)))))) ⟨_, rfl, hbv.size, Gath.made hbv.size⟩
          simp only [Act.put, List.setIfInBounds_toArray, List.set_cons_zero, List.set_cons_succ]
          refine SeqG.fixStep (.inl ⟨rfl, fun _ => rfl⟩) ?_
          simp only [Act.put, List.setIfInBounds_toArray, List.set_cons_zero, List.set_cons_succ]
          refine SeqG.valStep (fun wv hbv hpv => ?_) ?_
          · skip
            go_wp2_with fail
            exact post_val (Below.refl _ _)
          simp only [Act.put, List.setIfInBounds_toArray, List.set_cons_zero, List.set_cons_succ]
          refine SeqG.predStep GathT.next (fun wv hbv hpv => ?_) (fun v1 => ?_)
          · obtain ⟨g0, rfl, hg0, hE0⟩ := hpv _ (.head _) (by kernel_rfl)
            clear hpv
            have HP := Lib.hid (cells_flat (f := f5) (m := 5) (fun _ => rfl) (by omega) (cells_drop (hC5.below hbv hl5) 1))
            refine wpList_append_arg _ rfl _ _ 33 rfl 25 i0 (.agg #[.int .i64 0, .int .i64 0, .int .i64 0, .int .i64 0, .int .i64 0]) 5 40 Try.underlying33 HII.out HZ0.out HZ1.out HZ2.out rfl (by decide) g0 0 0 0 [] rfl rfl (by intro j u h; simp at h) ⟨q5, 5, none⟩ (M.length - 1) (c5 - 1) ((M.drop 1).flatMap f5) rfl (by rw [flat_len (f := f5) (m := 5) (fun _ => rfl), List.length_drop]) HP.out (flat_one f_one5) ?_ ?_ ?_ ?_ ?_
            · intro h; intro j hj; rw [flat_len (f := f5) (m := 5) (fun _ => rfl), List.length_drop] at hj; omega
            · unfold maxLen; omega
            · omega
            · intro h
              have e0 : (M.drop 1) = [] := List.length_eq_zero_iff.1 (by rw [List.length_drop]; omega)
              have hm0 : (M.length - 1) = 0 := by omega
              rw [e0]
              simp only [List.flatMap_nil, World.setCells]
              exact ⟨rfl, _, by simp [hm0, Act.put], Below.refl _ _, hE0⟩
            · intro h v' w' hown hgrow
              refine ⟨rfl, v', rfl, below_grown hgrow (fun k h => by cases h), ?_⟩
              have := own_mono hown hbv.size
              unfold GathT Gath; rw [List.length_drop]; simpa using this
          simp only [Act.put, List.setIfInBounds_toArray, List.set_cons_zero, List.set_cons_succ]
          refine SeqG.fixStep (.inl ⟨rfl, fun _ => rfl⟩) ?_
          simp only [Act.put, List.setIfInBounds_toArray, List.set_cons_zero, List.set_cons_succ]
          refine SeqG.valStep (fun wv hbv hpv => ?_) ?_
          · skip
            go_wp2_with fail
            exact post_val (Below.refl _ _)
          simp only [Act.put, List.setIfInBounds_toArray, List.set_cons_zero, List.set_cons_succ]
          refine SeqG.valStep (fun wv hbv hpv => ?_) ?_
          · obtain ⟨e0, e1, e2, e3, e4⟩ := cells5 (hC5.below hbv hl5) HX.out; simp only [Nat.zero_add, Nat.zero_mul] at e0 e1 e2 e3 e4
            go_wp2_with fail
            exact post_val (Below.refl _ _)
          simp only [Act.put, List.setIfInBounds_toArray, List.set_cons_zero, List.set_cons_succ]
          refine SeqG.predStep LitT.next (fun wv hbv hpv => ?_) (fun v2 => ?_)
          · clear hpv
            go_wp2_with fail
            exact post_pred (F := LitT wz.heap.size x0) _ (by (repeat (first | exact Below.refl _ _ | refine Below.drew ?_ | refine below_drewN ?_ _ | (refine Below.alloc ?_ (by (try simp) <;> omega) _) | (refine Below.setCell ?_ (by (try simp) <;> omega) _) | (refine Below.trans ?_ (Below.mono (by assumption) (by (try simp) <;> omega)))))) ⟨wv.heap.size, rfl, hbv.size, Blk.new _ _ _⟩
          simp only [Act.put, List.setIfInBounds_toArray, List.set_cons_zero, List.set_cons_succ]
          refine SeqG.done fun wv hbv hpv => ?_
          obtain ⟨g9, rfl, hg9, hc9⟩ := hpv _ (.head _)
          have hG3 : Gath f5 5 25 wv wz.heap.size v1 (M.drop 1) := hpv _ (.tail _ (.head _))
          clear hpv
          have zv := hbv.size
          refine SeqNoPan ?_
          refine wpList_append_own _ rfl _ _ 33 rfl wz.heap.size 25 i0 (.agg #[.int .i64 0, .int .i64 0, .int .i64 0, .int .i64 0, .int .i64 0]) 5 40 Try.underlying33 HII.out HZ0.out HZ1.out HZ2.out rfl (by decide) _ _ _ rfl hG3 ⟨g9, 0, none⟩ 1 1 (f5 x0) rfl rfl (trip_src hc9) (f_one5 x0) ?_ ?_ zv ?_
          · rw [List.length_drop]; unfold maxLen; omega
          · rw [List.length_drop]; omega
          intro v' w8 hown hgrow hnil
          have hb8 : Below wz.heap.size wz w8 := below_grown' hbv hgrow hG3 (Nat.le_refl _) zv
          have hG8 : Gath f5 5 25 w8 w.heap.size v' (M.drop 1 ++ [x0]) := own_mono (Gath.snoc hown) (by omega)
          have hv8 : v' ≠ .slice none 0 0 := fun e => by have := (hnil.1 e).2; omega
          have HG8 := Lib.hid hG8; have HV8 := Lib.hid hv8
          clear hown hgrow hnil hG3 hc9 hG8 hv8 hbv
          go_wp2_with fail
          refine NoPan.normal ?_
          have hc8 := hc12.next hb8
          have G8 := G12.trans (.of hb8)
          have HX2 := Lib.hid (curTs_end (n' := nn + 200) HG8.out HV8.out ⟨HDL.out, HDM.out⟩ hc8 (by omega) G8)
          clear hc8 G8 HG8 HV8 hc12 G12 hb8 hC5
          go_wp2
          go_ret
          exact HX2.out
        · have hM1i : ¬ (1 : Int) < (M.length : Int) := by omega
          have HX := Lib.hid (curTs_end (n' := nn + 200) hG12 hv3 ⟨by omega, hM.out.2⟩ hc12 (by omega) G12)
          clear hG12 hv3 hc12 G12 hC5
          go_wp2
          go_ret
          exact HX.out
      have q1 : (x12 == 1) = false := by simpa using h1
      have HX := Lib.hid (curTs_end (n' := nn + 200) hG12 hv3 ⟨by omega, hM.out.2⟩ hc12 (by omega) G12)
      clear h0 h1 hG12 hv3 hc12 G12 u12 y12
      go_wp2
      go_ret
      exact HX.out
end Go.Proofs.Ytfcmfadkkfkidaa
namespace Go.Proofs.Ytfcmfadkkfkidaa
open Go.RowKit

/-- A trip; a list and a trip; a list and one or two ints. -/
def IsTp (v : Value) (_ : World) : Prop := ∃ t : T5, v = tripV t.1 t.2.1 t.2.2.1 t.2.2.2.1 t.2.2.2.2 ∧ SmT t
def ListOk (A : Option Addr) (c : Nat) (M : List T5) (w : World) : Prop := TripsOk 12 M ∧ SlR f5 5 w w.heap.size A M ∧ M.length ≤ c ∧ ∃ x, A = some x
def IsTsT (v : Value) (w : World) : Prop := ∃ A c M, ∃ t : T5, v = .tuple #[.slice A M.length c, tripV t.1 t.2.1 t.2.2.1 t.2.2.2.1 t.2.2.2.2] ∧ ListOk A c M w ∧ SmT t
def IsTsI (v : Value) (w : World) : Prop := ∃ A c M x, v = .tuple #[.slice A M.length c, .int .i64 x] ∧ ListOk A c M w ∧ Small x
def IsTsII (v : Value) (w : World) : Prop := ∃ A c M x y, v = .tuple #[.slice A M.length c, .int .i64 x, .int .i64 y] ∧ ListOk A c M w ∧ Small x ∧ Small y
theorem own_box {α : Type} {f : α → List Value} {m B q : Nat} {t : TypeId} {w : World} {A : Option Addr} {L : List α} (h : OwnR f m t w B A L) (hq : q < B) (u0 u1 u2 u3 u4 : Value) :
    OwnR f m t (((((w.setCell ⟨q, 0, none⟩ u0).setCell ⟨q, 1, none⟩ u1).setCell ⟨q, 2, none⟩ u2).setCell ⟨q, 3, none⟩ u3).setCell ⟨q, 4, none⟩ u4) B A L :=
  h.below_ (FarQ.set (FarQ.set (FarQ.set (FarQ.set (FarQ.set FarQ.refl))))) hq
theorem below_box {w w' : World} {q : Nat} (h : Below q w w') (u0 u1 u2 u3 u4 : Value) :
    Below q w (((((w'.setCell ⟨q, 0, none⟩ u0).setCell ⟨q, 1, none⟩ u1).setCell ⟨q, 2, none⟩ u2).setCell ⟨q, 3, none⟩ u3).setCell ⟨q, 4, none⟩ u4) :=
  ((((h.setCell (p := ⟨q, 0, none⟩) (Nat.le_refl _) u0).setCell (p := ⟨q, 1, none⟩) (Nat.le_refl _) u1).setCell (p := ⟨q, 2, none⟩) (Nat.le_refl _) u2).setCell (p := ⟨q, 3, none⟩) (Nat.le_refl _) u3).setCell (p := ⟨q, 4, none⟩) (Nat.le_refl _) u4
set_option maxHeartbeats 1000000 in
/-- One of the first m of the numbers M that a literal in block b holds. -/
theorem amongT_any (M : List Int) (A : Option Addr) (c : Nat) (L : List Int) (g n b m cp : Nat) (w : World) (hI : ∀ x ∈ L, 0 ≤ x ∧ x ≤ 255) (hl : (L.length : Int) ≤ 65536) (hn : n ≤ 900000) (hc : Cur A c L g n w)
    (hM : m ≤ M.length) (hm0 : 0 < m) (hm1 : m ≤ 1000) (hB : Blk w b 3 (M.map (Value.int .i64)).toArray) (hne : b ≠ g) :
    Calls Try.prog 90 #[.pointer (some ⟨g, 0, none⟩), .slice (some ⟨b, 0, none⟩) m cp] w (CurI A c L g (n + 2) w (· ∈ M)) := by
  have HM := Lib.hid hM
  clear hM
  go_enter Try.func90, Try.ntmps90
  go_wp2_with fail
  refine (pick_any A c L g n m w hI hl hn (by omega) hc).mono ?_; rintro e w1 ⟨x, rfl, ⟨hx0, hx1⟩, hc1, hb1⟩
  obtain ⟨j, rfl⟩ := Int.eq_ofNat_of_zero_le hx0
  have hj : j < m := by omega
  have q1 : (j : Int) < (m : Int) := by omega
  obtain ⟨y, hy⟩ : ∃ y, M[j]? = some y := ⟨M[j]'(by have := HM.out; omega), List.getElem?_eq_getElem _⟩
  have hcell : w1.cell? ⟨b, j, none⟩ = some (.int .i64 y) := by
    have := (hB.but hb1 hne).cell j
    simpa [hy] using this
  have HY := Lib.hid hy
  clear hy
  go_wp2
  go_ret
  exact ⟨y, rfl, List.mem_of_getElem? HY.out, hc1, hb1⟩
/-- A slice literal of ints, small ones. -/
theorem lit_blk (w : World) (M : List Int) : Blk (w.alloc (.cells (M.map (Value.int .i64)).toArray 3)) w.heap.size 3 (M.map (Value.int .i64)).toArray := Blk.new _ _ _

set_option maxRecDepth 20000 in
set_option maxHeartbeats 8000000 in
theorem DrawIsTrip_any (A : Option Addr) (c : Nat) (L : List Int) (wo : World) (hI : ∀ x ∈ L, 0 ≤ x ∧ x ≤ 255) (hl : (L.length : Int) ≤ 65536) (hs : SlR fb 1 wo wo.heap.size A L) :
    Calls Try.prog 92 #[.slice A L.length c] wo (DrW IsTp wo) := by
  have hc := cur_new (c := c) (W := (wo.alloc (.cells #[.int .i64 0, .int .i64 0, .int .i64 0, .int .i64 0, .int .i64 0] 25 (0, 0)))) hs (by (repeat (first | exact Below.refl _ _ | refine Below.drew ?_ | refine below_drewN ?_ _ | (refine Below.alloc ?_ (by (try simp) <;> omega) _) | (refine Below.setCell ?_ (by (try simp) <;> omega) _) | (refine Below.trans ?_ (Below.mono (by assumption) (by (try simp) <;> omega))))))
  have hB : Below wo.heap.size wo ((wo.alloc (.cells #[.int .i64 0, .int .i64 0, .int .i64 0, .int .i64 0, .int .i64 0] 25 (0, 0))).alloc (.cells #[.slice A L.length c, .int .i64 0, .int .u64 0] 84)) := by (repeat (first | exact Below.refl _ _ | refine Below.drew ?_ | refine below_drewN ?_ _ | (refine Below.alloc ?_ (by (try simp) <;> omega) _) | (refine Below.setCell ?_ (by (try simp) <;> omega) _) | (refine Below.trans ?_ (Below.mono (by assumption) (by (try simp) <;> omega)))))
  have kR := (Blk.new wo 25 #[.int .i64 0, .int .i64 0, .int .i64 0, .int .i64 0, .int .i64 0]).alloc (.cells #[.slice A L.length c, .int .i64 0, .int .u64 0] 84)
  have zE : (wo.alloc (.cells #[.int .i64 0, .int .i64 0, .int .i64 0, .int .i64 0, .int .i64 0] 25 (0, 0))).heap.size = wo.heap.size + 1 := by simp
  rw [zE] at hc
  go_enter Try.func92, Try.ntmps92
  go_upto_region 2 with fail
  generalize (wo.alloc (.cells #[.int .i64 0, .int .i64 0, .int .i64 0, .int .i64 0, .int .i64 0] 25 (0, 0))).alloc (.cells #[.slice A L.length c, .int .i64 0, .int .u64 0] 84) = w at *
  obtain ⟨q, hq⟩ : ∃ q, wo.heap.size = q := ⟨_, rfl⟩
  rw [hq] at hc hB kR
  have Hq := Lib.hid hq
  obtain ⟨g, hg⟩ : ∃ g, q + 1 = g := ⟨_, rfl⟩
  rw [hg] at hc
  have hqg : q < g := by omega
  have hne : q ≠ g := by omega
  have gg := hc.lt
  have qq : q < w.heap.size := by omega
  rw [hq]
  simp only [hg]
  clear hg hq hs zE
  go_wp2_with fail
  refine (among_any [1, 42, 99] A c L g (0) _ _ _ _ hI hl (by omega) (hc.next (by (repeat (first | exact Below.refl _ _ | refine Below.drew ?_ | refine below_drewN ?_ _ | (refine Below.alloc ?_ (by (try simp) <;> omega) _) | (refine Below.setCell ?_ (by (try simp) <;> omega) _) | (refine Below.trans ?_ (Below.mono (by assumption) (by (try simp) <;> omega))))))) (by rfl) (by omega) (by omega) (by first | exact Blk.new _ _ _ | exact Blk.new1 _ _ _ _) (by have := hc.lt; (try simp); omega)).mono ?_; rintro e w1 ⟨x1, rfl, hx1, hc1, hb1⟩
  have G1 : ButG g w w1 := ButG.refl.trans ((ButG.of (by (repeat (first | exact Below.refl _ _ | refine Below.drew ?_ | refine below_drewN ?_ _ | (refine Below.alloc ?_ (by (try simp) <;> omega) _) | (refine Below.setCell ?_ (by (try simp) <;> omega) _) | (refine Below.trans ?_ (Below.mono (by assumption) (by (try simp) <;> omega)))))) : ButG g w _).trans hb1)
  have m1 := mem_small hx1 (by decide)
  go_wp2_with fail
  refine (trip_any A c L g (0 + 2) x1 w1 hI hl (by omega) m1 hc1).mono ?_; rintro e w2 ⟨t, rfl, ht, hc2, hb2⟩
  have G2 := G1.trans hb2
  have k2 := kR.but G2 hne
  have ck := k2.cell
  have fk := k2.frozen
  have lk := k2.lt
  have HW := Lib.hid (below_box (hB.trans (G2.below (Nat.le_of_lt hqg) gg)) (.int .i64 t.1) (.int .i64 t.2.1) (.int .i64 t.2.2.1) (.int .i64 t.2.2.2.1) (.int .i64 t.2.2.2.2))
  clear hb1 hb2 G1 hc1
  go_wp2
  refine bodyPost_ret (v := tripV t.1 t.2.1 t.2.2.1 t.2.2.2.1 t.2.2.2.2) (by simp [results, Try.results92, go_sem, *] <;> rfl) rfl ?_
  exact ⟨_, rfl, ⟨t, rfl, ht⟩, by rw [Hq.out]; exact HW.out⟩

set_option maxRecDepth 20000 in
set_option maxHeartbeats 8000000 in
theorem DrawSectionTimes_any (A : Option Addr) (c : Nat) (L : List Int) (wo : World) (hI : ∀ x ∈ L, 0 ≤ x ∧ x ≤ 255) (hl : (L.length : Int) ≤ 65536) (hs : SlR fb 1 wo wo.heap.size A L) :
    Calls Try.prog 56 #[.slice A L.length c] wo (DrW IsTp wo) := by
  have kR := Blk.new wo 25 #[.int .i64 0, .int .i64 0, .int .i64 0, .int .i64 0, .int .i64 0]
  have hB : Below wo.heap.size wo (wo.alloc (.cells #[.int .i64 0, .int .i64 0, .int .i64 0, .int .i64 0, .int .i64 0] 25 (0, 0))) := by (repeat (first | exact Below.refl _ _ | refine Below.drew ?_ | refine below_drewN ?_ _ | (refine Below.alloc ?_ (by (try simp) <;> omega) _) | (refine Below.setCell ?_ (by (try simp) <;> omega) _) | (refine Below.trans ?_ (Below.mono (by assumption) (by (try simp) <;> omega)))))
  have hs1 := hs.alloc (.cells #[.int .i64 0, .int .i64 0, .int .i64 0, .int .i64 0, .int .i64 0] 25 (0, 0))
  go_enter Try.func56, Try.ntmps56
  go_upto_region 1 with fail
  generalize wo.alloc (.cells #[.int .i64 0, .int .i64 0, .int .i64 0, .int .i64 0, .int .i64 0] 25 (0, 0)) = w at *
  obtain ⟨q, hq⟩ : ∃ q, wo.heap.size = q := ⟨_, rfl⟩
  rw [hq] at kR hB
  have Hq := Lib.hid hq
  have zq : q < w.heap.size := kR.lt
  rw [hq]
  clear hq hs
  go_wp2_with fail
  refine (DrawIsTrip_any A c L w hI hl hs1).mono ?_; rintro e w2 ⟨v, rfl, ⟨t, rfl, ht⟩, hb2⟩
  have k2 := kR.below' hb2
  have ck := k2.cell
  have fk := k2.frozen
  have lk := k2.lt
  have HW := Lib.hid (below_box (hB.trans (hb2.mono (Nat.le_of_lt zq))) (.int .i64 t.1) (.int .i64 t.2.1) (.int .i64 t.2.2.1) (.int .i64 t.2.2.2.1) (.int .i64 t.2.2.2.2))
  clear hb2 hs1
  go_wp2
  refine bodyPost_ret (v := tripV t.1 t.2.1 t.2.2.1 t.2.2.2.1 t.2.2.2.2) (by simp [results, Try.results56, go_sem, *] <;> rfl) rfl ?_
  exact ⟨_, rfl, ⟨t, rfl, ht⟩, by rw [Hq.out]; exact HW.out⟩

set_option maxRecDepth 20000 in
set_option maxHeartbeats 8000000 in
theorem DrawFirstStart_any (A : Option Addr) (c : Nat) (L : List Int) (wo : World) (hI : ∀ x ∈ L, 0 ≤ x ∧ x ≤ 255) (hl : (L.length : Int) ≤ 65536) (hs : SlR fb 1 wo wo.heap.size A L) :
    Calls Try.prog 57 #[.slice A L.length c] wo (DrW IsTsT wo) := by
  have hc := cur_new (c := c) (W := (wo.alloc (.cells #[.int .i64 0, .int .i64 0, .int .i64 0, .int .i64 0, .int .i64 0] 25 (0, 0)))) hs (by (repeat (first | exact Below.refl _ _ | refine Below.drew ?_ | refine below_drewN ?_ _ | (refine Below.alloc ?_ (by (try simp) <;> omega) _) | (refine Below.setCell ?_ (by (try simp) <;> omega) _) | (refine Below.trans ?_ (Below.mono (by assumption) (by (try simp) <;> omega))))))
  have hB : Below wo.heap.size wo ((wo.alloc (.cells #[.int .i64 0, .int .i64 0, .int .i64 0, .int .i64 0, .int .i64 0] 25 (0, 0))).alloc (.cells #[.slice A L.length c, .int .i64 0, .int .u64 0] 84)) := by (repeat (first | exact Below.refl _ _ | refine Below.drew ?_ | refine below_drewN ?_ _ | (refine Below.alloc ?_ (by (try simp) <;> omega) _) | (refine Below.setCell ?_ (by (try simp) <;> omega) _) | (refine Below.trans ?_ (Below.mono (by assumption) (by (try simp) <;> omega)))))
  have kR := (Blk.new wo 25 #[.int .i64 0, .int .i64 0, .int .i64 0, .int .i64 0, .int .i64 0]).alloc (.cells #[.slice A L.length c, .int .i64 0, .int .u64 0] 84)
  have zE : (wo.alloc (.cells #[.int .i64 0, .int .i64 0, .int .i64 0, .int .i64 0, .int .i64 0] 25 (0, 0))).heap.size = wo.heap.size + 1 := by simp
  rw [zE] at hc
  go_enter Try.func57, Try.ntmps57
  go_upto_region 2 with fail
  generalize (wo.alloc (.cells #[.int .i64 0, .int .i64 0, .int .i64 0, .int .i64 0, .int .i64 0] 25 (0, 0))).alloc (.cells #[.slice A L.length c, .int .i64 0, .int .u64 0] 84) = w at *
  obtain ⟨q, hq⟩ : ∃ q, wo.heap.size = q := ⟨_, rfl⟩
  rw [hq] at hc hB kR
  have Hq := Lib.hid hq
  obtain ⟨g, hg⟩ : ∃ g, q + 1 = g := ⟨_, rfl⟩
  rw [hg] at hc
  have hqg : q < g := by omega
  have hne : q ≠ g := by omega
  have gg := hc.lt
  have qq : q < w.heap.size := by omega
  rw [hq]
  simp only [hg]
  clear hg hq hs zE
  go_wp2_with fail
  refine (trips_any A c L g 0 _ hI hl (by omega) hc).mono ?_; rintro e w1 ⟨A1, c1, M1, rfl, hM1, o1, hcap, hc1, hb1⟩
  have G1 := hb1
  have z1 := hb1.size
  go_wp2_with fail
  refine (among_any [50, 60, 70, 4] A c L g (200) _ _ _ _ hI hl (by omega) (hc1.next (by (repeat (first | exact Below.refl _ _ | refine Below.drew ?_ | refine below_drewN ?_ _ | (refine Below.alloc ?_ (by (try simp) <;> omega) _) | (refine Below.setCell ?_ (by (try simp) <;> omega) _) | (refine Below.trans ?_ (Below.mono (by assumption) (by (try simp) <;> omega))))))) (by rfl) (by omega) (by omega) (by first | exact Blk.new _ _ _ | exact Blk.new1 _ _ _ _) (by have := hc1.lt; (try simp); omega)).mono ?_; rintro e w2 ⟨x2, rfl, hx2, hc2, hb2⟩
  have G2 : ButG g w w2 := G1.trans ((ButG.of (by (repeat (first | exact Below.refl _ _ | refine Below.drew ?_ | refine below_drewN ?_ _ | (refine Below.alloc ?_ (by (try simp) <;> omega) _) | (refine Below.setCell ?_ (by (try simp) <;> omega) _) | (refine Below.trans ?_ (Below.mono (by assumption) (by (try simp) <;> omega)))))) : ButG g w1 _).trans hb2)
  have m2 := mem_small hx2 (by decide)
  go_wp2_with fail
  refine (trip_any A c L g (200 + 2) x2 w2 hI hl (by omega) m2 hc2).mono ?_; rintro e w3 ⟨t, rfl, ht, hc3, hb3⟩
  have G3 := G2.trans hb3
  have k2 := kR.but G3 hne
  have ck := k2.cell
  have fk := k2.frozen
  have lk := k2.lt
  have O1 := Lib.hid (own_box ((o1.next (by (repeat (first | exact Below.refl _ _ | refine Below.drew ?_ | refine below_drewN ?_ _ | (refine Below.alloc ?_ (by (try simp) <;> omega) _) | (refine Below.setCell ?_ (by (try simp) <;> omega) _) | (refine Below.trans ?_ (Below.mono (by assumption) (by (try simp) <;> omega))))))).but gg (hb2.trans hb3)) qq (.int .i64 t.1) (.int .i64 t.2.1) (.int .i64 t.2.2.1) (.int .i64 t.2.2.2.1) (.int .i64 t.2.2.2.2)).sl
  have HW := Lib.hid (below_box (hB.trans (G3.below (Nat.le_of_lt hqg) gg)) (.int .i64 t.1) (.int .i64 t.2.1) (.int .i64 t.2.2.1) (.int .i64 t.2.2.2.1) (.int .i64 t.2.2.2.2))
  have HM := Lib.hid hM1
  have HC := Lib.hid hcap
  clear hb1 hb2 hb3 G1 G2 hc1 hc2 o1 hM1 hcap
  go_wp2
  refine bodyPost_ret (v := .tuple #[.slice A1 M1.length c1, tripV t.1 t.2.1 t.2.2.1 t.2.2.2.1 t.2.2.2.2]) (by simp [results, Try.results57, go_sem, *] <;> rfl) rfl ?_
  exact ⟨_, rfl, ⟨A1, c1, M1, t, rfl, ⟨HM.out, O1.out, HC.out⟩, ht⟩, by rw [Hq.out]; exact HW.out⟩

set_option maxRecDepth 20000 in
set_option maxHeartbeats 8000000 in
theorem DrawAddTrip_any (A : Option Addr) (c : Nat) (L : List Int) (wo : World) (hI : ∀ x ∈ L, 0 ≤ x ∧ x ≤ 255) (hl : (L.length : Int) ≤ 65536) (hs : SlR fb 1 wo wo.heap.size A L) :
    Calls Try.prog 58 #[.slice A L.length c] wo (DrW IsTsT wo) := by
  have hc := cur_new (c := c) (W := (wo.alloc (.cells #[.int .i64 0, .int .i64 0, .int .i64 0, .int .i64 0, .int .i64 0] 25 (0, 0)))) hs (by (repeat (first | exact Below.refl _ _ | refine Below.drew ?_ | refine below_drewN ?_ _ | (refine Below.alloc ?_ (by (try simp) <;> omega) _) | (refine Below.setCell ?_ (by (try simp) <;> omega) _) | (refine Below.trans ?_ (Below.mono (by assumption) (by (try simp) <;> omega))))))
  have hB : Below wo.heap.size wo ((wo.alloc (.cells #[.int .i64 0, .int .i64 0, .int .i64 0, .int .i64 0, .int .i64 0] 25 (0, 0))).alloc (.cells #[.slice A L.length c, .int .i64 0, .int .u64 0] 84)) := by (repeat (first | exact Below.refl _ _ | refine Below.drew ?_ | refine below_drewN ?_ _ | (refine Below.alloc ?_ (by (try simp) <;> omega) _) | (refine Below.setCell ?_ (by (try simp) <;> omega) _) | (refine Below.trans ?_ (Below.mono (by assumption) (by (try simp) <;> omega)))))
  have kR := (Blk.new wo 25 #[.int .i64 0, .int .i64 0, .int .i64 0, .int .i64 0, .int .i64 0]).alloc (.cells #[.slice A L.length c, .int .i64 0, .int .u64 0] 84)
  have zE : (wo.alloc (.cells #[.int .i64 0, .int .i64 0, .int .i64 0, .int .i64 0, .int .i64 0] 25 (0, 0))).heap.size = wo.heap.size + 1 := by simp
  rw [zE] at hc
  go_enter Try.func58, Try.ntmps58
  go_upto_region 2 with fail
  generalize (wo.alloc (.cells #[.int .i64 0, .int .i64 0, .int .i64 0, .int .i64 0, .int .i64 0] 25 (0, 0))).alloc (.cells #[.slice A L.length c, .int .i64 0, .int .u64 0] 84) = w at *
  obtain ⟨q, hq⟩ : ∃ q, wo.heap.size = q := ⟨_, rfl⟩
  rw [hq] at hc hB kR
  have Hq := Lib.hid hq
  obtain ⟨g, hg⟩ : ∃ g, q + 1 = g := ⟨_, rfl⟩
  rw [hg] at hc
  have hqg : q < g := by omega
  have hne : q ≠ g := by omega
  have gg := hc.lt
  have qq : q < w.heap.size := by omega
  rw [hq]
  simp only [hg]
  clear hg hq hs zE
  go_wp2_with fail
  refine (trips_any A c L g 0 _ hI hl (by omega) hc).mono ?_; rintro e w1 ⟨A1, c1, M1, rfl, hM1, o1, hcap, hc1, hb1⟩
  have G1 := hb1
  have z1 := hb1.size
  go_wp2_with fail
  refine (among_any [4, 5, 7, 60] A c L g (200) _ _ _ _ hI hl (by omega) (hc1.next (by (repeat (first | exact Below.refl _ _ | refine Below.drew ?_ | refine below_drewN ?_ _ | (refine Below.alloc ?_ (by (try simp) <;> omega) _) | (refine Below.setCell ?_ (by (try simp) <;> omega) _) | (refine Below.trans ?_ (Below.mono (by assumption) (by (try simp) <;> omega))))))) (by rfl) (by omega) (by omega) (by first | exact Blk.new _ _ _ | exact Blk.new1 _ _ _ _) (by have := hc1.lt; (try simp); omega)).mono ?_; rintro e w2 ⟨x2, rfl, hx2, hc2, hb2⟩
  have G2 : ButG g w w2 := G1.trans ((ButG.of (by (repeat (first | exact Below.refl _ _ | refine Below.drew ?_ | refine below_drewN ?_ _ | (refine Below.alloc ?_ (by (try simp) <;> omega) _) | (refine Below.setCell ?_ (by (try simp) <;> omega) _) | (refine Below.trans ?_ (Below.mono (by assumption) (by (try simp) <;> omega)))))) : ButG g w1 _).trans hb2)
  have m2 := mem_small hx2 (by decide)
  go_wp2_with fail
  refine (trip_any A c L g (200 + 2) x2 w2 hI hl (by omega) m2 hc2).mono ?_; rintro e w3 ⟨t, rfl, ht, hc3, hb3⟩
  have G3 := G2.trans hb3
  have k2 := kR.but G3 hne
  have ck := k2.cell
  have fk := k2.frozen
  have lk := k2.lt
  have O1 := Lib.hid (own_box ((o1.next (by (repeat (first | exact Below.refl _ _ | refine Below.drew ?_ | refine below_drewN ?_ _ | (refine Below.alloc ?_ (by (try simp) <;> omega) _) | (refine Below.setCell ?_ (by (try simp) <;> omega) _) | (refine Below.trans ?_ (Below.mono (by assumption) (by (try simp) <;> omega))))))).but gg (hb2.trans hb3)) qq (.int .i64 t.1) (.int .i64 t.2.1) (.int .i64 t.2.2.1) (.int .i64 t.2.2.2.1) (.int .i64 t.2.2.2.2)).sl
  have HW := Lib.hid (below_box (hB.trans (G3.below (Nat.le_of_lt hqg) gg)) (.int .i64 t.1) (.int .i64 t.2.1) (.int .i64 t.2.2.1) (.int .i64 t.2.2.2.1) (.int .i64 t.2.2.2.2))
  have HM := Lib.hid hM1
  have HC := Lib.hid hcap
  clear hb1 hb2 hb3 G1 G2 hc1 hc2 o1 hM1 hcap
  go_wp2
  refine bodyPost_ret (v := .tuple #[.slice A1 M1.length c1, tripV t.1 t.2.1 t.2.2.1 t.2.2.2.1 t.2.2.2.2]) (by simp [results, Try.results58, go_sem, *] <;> rfl) rfl ?_
  exact ⟨_, rfl, ⟨A1, c1, M1, t, rfl, ⟨HM.out, O1.out, HC.out⟩, ht⟩, by rw [Hq.out]; exact HW.out⟩

set_option maxRecDepth 20000 in
set_option maxHeartbeats 8000000 in
theorem DrawOnTheWay_any (A : Option Addr) (c : Nat) (L : List Int) (wo : World) (hI : ∀ x ∈ L, 0 ≤ x ∧ x ≤ 255) (hl : (L.length : Int) ≤ 65536) (hs : SlR fb 1 wo wo.heap.size A L) :
    Calls Try.prog 59 #[.slice A L.length c] wo (DrW IsTsI wo) := by
  have hc := cur_new (c := c) (W := wo) hs (by (repeat (first | exact Below.refl _ _ | refine Below.drew ?_ | refine below_drewN ?_ _ | (refine Below.alloc ?_ (by (try simp) <;> omega) _) | (refine Below.setCell ?_ (by (try simp) <;> omega) _) | (refine Below.trans ?_ (Below.mono (by assumption) (by (try simp) <;> omega))))))
  have hB : Below wo.heap.size wo (wo.alloc (.cells #[.slice A L.length c, .int .i64 0, .int .u64 0] 84)) := by (repeat (first | exact Below.refl _ _ | refine Below.drew ?_ | refine below_drewN ?_ _ | (refine Below.alloc ?_ (by (try simp) <;> omega) _) | (refine Below.setCell ?_ (by (try simp) <;> omega) _) | (refine Below.trans ?_ (Below.mono (by assumption) (by (try simp) <;> omega)))))
  go_enter Try.func59, Try.ntmps59
  go_upto_region 2 with fail
  generalize wo.alloc (.cells #[.slice A L.length c, .int .i64 0, .int .u64 0] 84) = w at *
  obtain ⟨q, hq⟩ : ∃ q, wo.heap.size = q := ⟨_, rfl⟩
  rw [hq] at hc hB
  have Hq := Lib.hid hq
  obtain ⟨g, hg⟩ : ∃ g, q = g := ⟨_, rfl⟩
  rw [hg] at hc
  have hqg : q ≤ g := by omega
  have gg := hc.lt
  have qq : q < w.heap.size := by omega
  rw [hq]
  simp only [hg]
  clear hg hq hs
  go_wp2_with fail
  refine (trips_any A c L g 0 _ hI hl (by omega) hc).mono ?_; rintro e w1 ⟨A1, c1, M1, rfl, hM1, o1, hcap, hc1, hb1⟩
  have G1 := hb1
  have z1 := hb1.size
  have jb : Blk (w1.alloc (.cells #[.int .i64 0, .int .i64 480, .int .i64 483, .int .i64 484, .int .i64 500, .int .i64 1440, .int .i64 (-1), .int .i64 1441] 3)) w1.heap.size 3 ([0, 480, 483, 484, 500, 1440, -1, 1441].map (Value.int .i64)).toArray := lit_blk w1 [0, 480, 483, 484, 500, 1440, -1, 1441]
  have hbg : w1.heap.size ≠ g := by have := hc1.lt; omega
  go_wp2_with fail
  refine (pick_any A c L g (200) (24) _ hI hl (by omega) (by omega) (hc1.next (by (repeat (first | exact Below.refl _ _ | refine Below.drew ?_ | refine below_drewN ?_ _ | (refine Below.alloc ?_ (by (try simp) <;> omega) _) | (refine Below.setCell ?_ (by (try simp) <;> omega) _) | (refine Below.trans ?_ (Below.mono (by assumption) (by (try simp) <;> omega)))))))).mono ?_; rintro e w2 ⟨x2, rfl, hx2, hc2, hb2⟩
  have G2 : ButG g w w2 := G1.trans ((ButG.of (by (repeat (first | exact Below.refl _ _ | refine Below.drew ?_ | refine below_drewN ?_ _ | (refine Below.alloc ?_ (by (try simp) <;> omega) _) | (refine Below.setCell ?_ (by (try simp) <;> omega) _) | (refine Below.trans ?_ (Below.mono (by assumption) (by (try simp) <;> omega)))))) : ButG g w1 _).trans hb2)
  have o2 := (o1.next (w' := (w1.alloc (.cells #[.int .i64 0, .int .i64 480, .int .i64 483, .int .i64 484, .int .i64 500, .int .i64 1440, .int .i64 (-1), .int .i64 1441] 3))) (by (repeat (first | exact Below.refl _ _ | refine Below.drew ?_ | refine below_drewN ?_ _ | (refine Below.alloc ?_ (by (try simp) <;> omega) _) | (refine Below.setCell ?_ (by (try simp) <;> omega) _) | (refine Below.trans ?_ (Below.mono (by assumption) (by (try simp) <;> omega))))))).but gg hb2
  have jb2 := jb.but hb2 hbg
  obtain ⟨y0, y1⟩ := hx2
  have y2 : x2 < 24 := by omega
  obtain ⟨n2, hn2⟩ : ∃ n : Nat, x2.tdiv 11 = (n : Int) ∧ n ≤ 2 := ⟨(x2.tdiv 11).toNat, by rw [Int.tdiv_eq_ediv_of_nonneg y0]; omega, by rw [Int.tdiv_eq_ediv_of_nonneg y0]; omega⟩
  obtain ⟨hn2, hm2⟩ := hn2
  have hd2 : x2 / 11 = (n2 : Int) := by rw [← hn2, Int.tdiv_eq_ediv_of_nonneg y0]
  have hq2 : (6 + (n2 : Int)).toNat = 6 + n2 := by omega
  have HJ2 := Lib.hid jb2
  clear jb y1 hb2
  generalize hp2 : w1.heap.size = b2 at *
  clear hp2
  go_wp2_with fail
  refine (amongT_any [0, 480, 483, 484, 500, 1440, -1, 1441] A c L g (200 + 2) b2 (6 + n2) 8 _ hI hl (by omega) hc2 (by simp; omega) (by omega) (by omega) HJ2.out hbg).mono ?_; rintro e w3 ⟨x3, rfl, m3, hc3, hb3⟩
  have s3 : Small x3 := mem_small m3 (by decide)
  have G3 := G2.trans hb3
  have o3 := o2.but gg hb3
  clear hb3 o2 m3 hn2 hd2 y0 y2 hq2 HJ2 hbg jb2 hc2 G2
  have O1 := Lib.hid o3.sl
  have HW := Lib.hid (hB.trans (G3.below hqg gg))
  go_wp2
  refine bodyPost_ret (v := .tuple #[.slice A1 M1.length c1, .int .i64 x3]) (by simp [results, Try.results59, go_sem, *] <;> rfl) rfl ?_
  exact ⟨_, rfl, ⟨A1, c1, M1, x3, rfl, ⟨hM1, O1.out, hcap⟩, s3⟩, by rw [Hq.out]; exact HW.out⟩

set_option maxRecDepth 20000 in
set_option maxHeartbeats 8000000 in
theorem DrawLoadsTo_any (A : Option Addr) (c : Nat) (L : List Int) (wo : World) (hI : ∀ x ∈ L, 0 ≤ x ∧ x ≤ 255) (hl : (L.length : Int) ≤ 65536) (hs : SlR fb 1 wo wo.heap.size A L) :
    Calls Try.prog 54 #[.slice A L.length c] wo (DrW IsTsII wo) := by
  have hc := cur_new (c := c) (W := wo) hs (by (repeat (first | exact Below.refl _ _ | refine Below.drew ?_ | refine below_drewN ?_ _ | (refine Below.alloc ?_ (by (try simp) <;> omega) _) | (refine Below.setCell ?_ (by (try simp) <;> omega) _) | (refine Below.trans ?_ (Below.mono (by assumption) (by (try simp) <;> omega))))))
  have hB : Below wo.heap.size wo (wo.alloc (.cells #[.slice A L.length c, .int .i64 0, .int .u64 0] 84)) := by (repeat (first | exact Below.refl _ _ | refine Below.drew ?_ | refine below_drewN ?_ _ | (refine Below.alloc ?_ (by (try simp) <;> omega) _) | (refine Below.setCell ?_ (by (try simp) <;> omega) _) | (refine Below.trans ?_ (Below.mono (by assumption) (by (try simp) <;> omega)))))
  go_enter Try.func54, Try.ntmps54
  go_upto_region 2 with fail
  generalize wo.alloc (.cells #[.slice A L.length c, .int .i64 0, .int .u64 0] 84) = w at *
  obtain ⟨q, hq⟩ : ∃ q, wo.heap.size = q := ⟨_, rfl⟩
  rw [hq] at hc hB
  have Hq := Lib.hid hq
  obtain ⟨g, hg⟩ : ∃ g, q = g := ⟨_, rfl⟩
  rw [hg] at hc
  have hqg : q ≤ g := by omega
  have gg := hc.lt
  have qq : q < w.heap.size := by omega
  rw [hq]
  simp only [hg]
  clear hg hq hs
  go_wp2_with fail
  refine (trips_any A c L g 0 _ hI hl (by omega) hc).mono ?_; rintro e w1 ⟨A1, c1, M1, rfl, hM1, o1, hcap, hc1, hb1⟩
  have G1 := hb1
  have z1 := hb1.size
  have jb : Blk (w1.alloc (.cells #[.int .i64 1, .int .i64 3, .int .i64 5, .int .i64 8, .int .i64 9, .int .i64 (-1), .int .i64 10] 3)) w1.heap.size 3 ([1, 3, 5, 8, 9, -1, 10].map (Value.int .i64)).toArray := lit_blk w1 [1, 3, 5, 8, 9, -1, 10]
  have hbg : w1.heap.size ≠ g := by have := hc1.lt; omega
  go_wp2_with fail
  refine (pick_any A c L g (200) (24) _ hI hl (by omega) (by omega) (hc1.next (by (repeat (first | exact Below.refl _ _ | refine Below.drew ?_ | refine below_drewN ?_ _ | (refine Below.alloc ?_ (by (try simp) <;> omega) _) | (refine Below.setCell ?_ (by (try simp) <;> omega) _) | (refine Below.trans ?_ (Below.mono (by assumption) (by (try simp) <;> omega)))))))).mono ?_; rintro e w2 ⟨x2, rfl, hx2, hc2, hb2⟩
  have G2 : ButG g w w2 := G1.trans ((ButG.of (by (repeat (first | exact Below.refl _ _ | refine Below.drew ?_ | refine below_drewN ?_ _ | (refine Below.alloc ?_ (by (try simp) <;> omega) _) | (refine Below.setCell ?_ (by (try simp) <;> omega) _) | (refine Below.trans ?_ (Below.mono (by assumption) (by (try simp) <;> omega)))))) : ButG g w1 _).trans hb2)
  have o2 := (o1.next (w' := (w1.alloc (.cells #[.int .i64 1, .int .i64 3, .int .i64 5, .int .i64 8, .int .i64 9, .int .i64 (-1), .int .i64 10] 3))) (by (repeat (first | exact Below.refl _ _ | refine Below.drew ?_ | refine below_drewN ?_ _ | (refine Below.alloc ?_ (by (try simp) <;> omega) _) | (refine Below.setCell ?_ (by (try simp) <;> omega) _) | (refine Below.trans ?_ (Below.mono (by assumption) (by (try simp) <;> omega))))))).but gg hb2
  have jb2 := jb.but hb2 hbg
  obtain ⟨y0, y1⟩ := hx2
  have y2 : x2 < 24 := by omega
  obtain ⟨n2, hn2⟩ : ∃ n : Nat, x2.tdiv 11 = (n : Int) ∧ n ≤ 2 := ⟨(x2.tdiv 11).toNat, by rw [Int.tdiv_eq_ediv_of_nonneg y0]; omega, by rw [Int.tdiv_eq_ediv_of_nonneg y0]; omega⟩
  obtain ⟨hn2, hm2⟩ := hn2
  have hd2 : x2 / 11 = (n2 : Int) := by rw [← hn2, Int.tdiv_eq_ediv_of_nonneg y0]
  have hq2 : (5 + (n2 : Int)).toNat = 5 + n2 := by omega
  have HJ2 := Lib.hid jb2
  clear jb y1 hb2
  generalize hp2 : w1.heap.size = b2 at *
  clear hp2
  go_wp2_with fail
  refine (amongT_any [1, 3, 5, 8, 9, -1, 10] A c L g (200 + 2) b2 (5 + n2) 7 _ hI hl (by omega) hc2 (by simp; omega) (by omega) (by omega) HJ2.out hbg).mono ?_; rintro e w3 ⟨x3, rfl, m3, hc3, hb3⟩
  have s3 : Small x3 := mem_small m3 (by decide)
  have G3 := G2.trans hb3
  have o3 := o2.but gg hb3
  clear hb3 o2 m3 hn2 hd2 y0 y2 hq2 HJ2 hbg jb2 hc2 G2
  have jb : Blk (w3.alloc (.cells #[.int .i64 0, .int .i64 488, .int .i64 500, .int .i64 532, .int .i64 1440, .int .i64 (-1), .int .i64 1441] 3)) w3.heap.size 3 ([0, 488, 500, 532, 1440, -1, 1441].map (Value.int .i64)).toArray := lit_blk w3 [0, 488, 500, 532, 1440, -1, 1441]
  have hbg : w3.heap.size ≠ g := by have := hc3.lt; omega
  go_wp2_with fail
  refine (pick_any A c L g (200 + 2 + 2) (24) _ hI hl (by omega) (by omega) (hc3.next (by (repeat (first | exact Below.refl _ _ | refine Below.drew ?_ | refine below_drewN ?_ _ | (refine Below.alloc ?_ (by (try simp) <;> omega) _) | (refine Below.setCell ?_ (by (try simp) <;> omega) _) | (refine Below.trans ?_ (Below.mono (by assumption) (by (try simp) <;> omega)))))))).mono ?_; rintro e w4 ⟨x4, rfl, hx4, hc4, hb4⟩
  have G4 : ButG g w w4 := G3.trans ((ButG.of (by (repeat (first | exact Below.refl _ _ | refine Below.drew ?_ | refine below_drewN ?_ _ | (refine Below.alloc ?_ (by (try simp) <;> omega) _) | (refine Below.setCell ?_ (by (try simp) <;> omega) _) | (refine Below.trans ?_ (Below.mono (by assumption) (by (try simp) <;> omega)))))) : ButG g w3 _).trans hb4)
  have o4 := (o3.next (w' := (w3.alloc (.cells #[.int .i64 0, .int .i64 488, .int .i64 500, .int .i64 532, .int .i64 1440, .int .i64 (-1), .int .i64 1441] 3))) (by (repeat (first | exact Below.refl _ _ | refine Below.drew ?_ | refine below_drewN ?_ _ | (refine Below.alloc ?_ (by (try simp) <;> omega) _) | (refine Below.setCell ?_ (by (try simp) <;> omega) _) | (refine Below.trans ?_ (Below.mono (by assumption) (by (try simp) <;> omega))))))).but gg hb4
  have jb4 := jb.but hb4 hbg
  obtain ⟨y0, y1⟩ := hx4
  have y2 : x4 < 24 := by omega
  obtain ⟨n4, hn4⟩ : ∃ n : Nat, x4.tdiv 11 = (n : Int) ∧ n ≤ 2 := ⟨(x4.tdiv 11).toNat, by rw [Int.tdiv_eq_ediv_of_nonneg y0]; omega, by rw [Int.tdiv_eq_ediv_of_nonneg y0]; omega⟩
  obtain ⟨hn4, hm4⟩ := hn4
  have hd4 : x4 / 11 = (n4 : Int) := by rw [← hn4, Int.tdiv_eq_ediv_of_nonneg y0]
  have hq4 : (5 + (n4 : Int)).toNat = 5 + n4 := by omega
  have HJ4 := Lib.hid jb4
  clear jb y1 hb4
  generalize hp4 : w3.heap.size = b4 at *
  clear hp4
  go_wp2_with fail
  refine (amongT_any [0, 488, 500, 532, 1440, -1, 1441] A c L g (200 + 2 + 2 + 2) b4 (5 + n4) 7 _ hI hl (by omega) hc4 (by simp; omega) (by omega) (by omega) HJ4.out hbg).mono ?_; rintro e w5 ⟨x5, rfl, m5, hc5, hb5⟩
  have s5 : Small x5 := mem_small m5 (by decide)
  have G5 := G4.trans hb5
  have o5 := o4.but gg hb5
  clear hb5 o4 m5 hn4 hd4 y0 y2 hq4 HJ4 hbg jb4 hc4 G4
  have O1 := Lib.hid o5.sl
  have HW := Lib.hid (hB.trans (G5.below hqg gg))
  go_wp2
  refine bodyPost_ret (v := .tuple #[.slice A1 M1.length c1, .int .i64 x3, .int .i64 x5]) (by simp [results, Try.results54, go_sem, *] <;> rfl) rfl ?_
  exact ⟨_, rfl, ⟨A1, c1, M1, x3, x5, rfl, ⟨hM1, O1.out, hcap⟩, s3, s5⟩, by rw [Hq.out]; exact HW.out⟩

set_option maxRecDepth 20000 in
set_option maxHeartbeats 8000000 in
theorem DrawLongestQuiet_any (A : Option Addr) (c : Nat) (L : List Int) (wo : World) (hI : ∀ x ∈ L, 0 ≤ x ∧ x ≤ 255) (hl : (L.length : Int) ≤ 65536) (hs : SlR fb 1 wo wo.heap.size A L) :
    Calls Try.prog 55 #[.slice A L.length c] wo (DrW IsTsI wo) := by
  have hc := cur_new (c := c) (W := wo) hs (by (repeat (first | exact Below.refl _ _ | refine Below.drew ?_ | refine below_drewN ?_ _ | (refine Below.alloc ?_ (by (try simp) <;> omega) _) | (refine Below.setCell ?_ (by (try simp) <;> omega) _) | (refine Below.trans ?_ (Below.mono (by assumption) (by (try simp) <;> omega))))))
  have hB : Below wo.heap.size wo (wo.alloc (.cells #[.slice A L.length c, .int .i64 0, .int .u64 0] 84)) := by (repeat (first | exact Below.refl _ _ | refine Below.drew ?_ | refine below_drewN ?_ _ | (refine Below.alloc ?_ (by (try simp) <;> omega) _) | (refine Below.setCell ?_ (by (try simp) <;> omega) _) | (refine Below.trans ?_ (Below.mono (by assumption) (by (try simp) <;> omega)))))
  go_enter Try.func55, Try.ntmps55
  go_upto_region 2 with fail
  generalize wo.alloc (.cells #[.slice A L.length c, .int .i64 0, .int .u64 0] 84) = w at *
  obtain ⟨q, hq⟩ : ∃ q, wo.heap.size = q := ⟨_, rfl⟩
  rw [hq] at hc hB
  have Hq := Lib.hid hq
  obtain ⟨g, hg⟩ : ∃ g, q = g := ⟨_, rfl⟩
  rw [hg] at hc
  have hqg : q ≤ g := by omega
  have gg := hc.lt
  have qq : q < w.heap.size := by omega
  rw [hq]
  simp only [hg]
  clear hg hq hs
  go_wp2_with fail
  refine (trips_any A c L g 0 _ hI hl (by omega) hc).mono ?_; rintro e w1 ⟨A1, c1, M1, rfl, hM1, o1, hcap, hc1, hb1⟩
  have G1 := hb1
  have z1 := hb1.size
  have jb : Blk (w1.alloc (.cells #[.int .i64 0, .int .i64 0, .int .i64 1, .int .i64 2, .int .i64 4, .int .i64 8, .int .i64 (-1), .int .i64 9] 3)) w1.heap.size 3 ([0, 0, 1, 2, 4, 8, -1, 9].map (Value.int .i64)).toArray := lit_blk w1 [0, 0, 1, 2, 4, 8, -1, 9]
  have hbg : w1.heap.size ≠ g := by have := hc1.lt; omega
  go_wp2_with fail
  refine (pick_any A c L g (200) (24) _ hI hl (by omega) (by omega) (hc1.next (by (repeat (first | exact Below.refl _ _ | refine Below.drew ?_ | refine below_drewN ?_ _ | (refine Below.alloc ?_ (by (try simp) <;> omega) _) | (refine Below.setCell ?_ (by (try simp) <;> omega) _) | (refine Below.trans ?_ (Below.mono (by assumption) (by (try simp) <;> omega)))))))).mono ?_; rintro e w2 ⟨x2, rfl, hx2, hc2, hb2⟩
  have G2 : ButG g w w2 := G1.trans ((ButG.of (by (repeat (first | exact Below.refl _ _ | refine Below.drew ?_ | refine below_drewN ?_ _ | (refine Below.alloc ?_ (by (try simp) <;> omega) _) | (refine Below.setCell ?_ (by (try simp) <;> omega) _) | (refine Below.trans ?_ (Below.mono (by assumption) (by (try simp) <;> omega)))))) : ButG g w1 _).trans hb2)
  have o2 := (o1.next (w' := (w1.alloc (.cells #[.int .i64 0, .int .i64 0, .int .i64 1, .int .i64 2, .int .i64 4, .int .i64 8, .int .i64 (-1), .int .i64 9] 3))) (by (repeat (first | exact Below.refl _ _ | refine Below.drew ?_ | refine below_drewN ?_ _ | (refine Below.alloc ?_ (by (try simp) <;> omega) _) | (refine Below.setCell ?_ (by (try simp) <;> omega) _) | (refine Below.trans ?_ (Below.mono (by assumption) (by (try simp) <;> omega))))))).but gg hb2
  have jb2 := jb.but hb2 hbg
  obtain ⟨y0, y1⟩ := hx2
  have y2 : x2 < 24 := by omega
  obtain ⟨n2, hn2⟩ : ∃ n : Nat, x2.tdiv 11 = (n : Int) ∧ n ≤ 2 := ⟨(x2.tdiv 11).toNat, by rw [Int.tdiv_eq_ediv_of_nonneg y0]; omega, by rw [Int.tdiv_eq_ediv_of_nonneg y0]; omega⟩
  obtain ⟨hn2, hm2⟩ := hn2
  have hd2 : x2 / 11 = (n2 : Int) := by rw [← hn2, Int.tdiv_eq_ediv_of_nonneg y0]
  have hq2 : (6 + (n2 : Int)).toNat = 6 + n2 := by omega
  have HJ2 := Lib.hid jb2
  clear jb y1 hb2
  generalize hp2 : w1.heap.size = b2 at *
  clear hp2
  go_wp2_with fail
  refine (amongT_any [0, 0, 1, 2, 4, 8, -1, 9] A c L g (200 + 2) b2 (6 + n2) 8 _ hI hl (by omega) hc2 (by simp; omega) (by omega) (by omega) HJ2.out hbg).mono ?_; rintro e w3 ⟨x3, rfl, m3, hc3, hb3⟩
  have s3 : Small x3 := mem_small m3 (by decide)
  have G3 := G2.trans hb3
  have o3 := o2.but gg hb3
  clear hb3 o2 m3 hn2 hd2 y0 y2 hq2 HJ2 hbg jb2 hc2 G2
  have O1 := Lib.hid o3.sl
  have HW := Lib.hid (hB.trans (G3.below hqg gg))
  go_wp2
  refine bodyPost_ret (v := .tuple #[.slice A1 M1.length c1, .int .i64 x3]) (by simp [results, Try.results55, go_sem, *] <;> rfl) rfl ?_
  exact ⟨_, rfl, ⟨A1, c1, M1, x3, rfl, ⟨hM1, O1.out, hcap⟩, s3⟩, by rw [Hq.out]; exact HW.out⟩

end Go.Proofs.Ytfcmfadkkfkidaa
namespace Go.Proofs.Ytfcmfadkkfkidaa
open Go.RowKit

set_option maxRecDepth 20000 in
set_option maxHeartbeats 8000000 in
theorem tripId_any (A : Option Addr) (c : Nat) (L : List Int) (g n B : Nat) (A5 : Option Addr) (c5 : Nat) (M : List T5) (w : World) (hI : ∀ x ∈ L, 0 ≤ x ∧ x ≤ 255) (hl : (L.length : Int) ≤ 65536) (hn : n ≤ 800000) (hc : Cur A c L g n w)
    (ho : OwnR f5 5 25 w B A5 M) (hgB : g < B) (hM : TripsOk 12 M) :
    Calls Try.prog 89 #[.pointer (some ⟨g, 0, none⟩), .slice A5 M.length c5] w (CurI A c L g (n + 6) w Small) := by
  have hM12 := hM.1
  have HMS := Lib.hid hM.2
  by_cases hMn : M.length = 0
  · have hM1 : M = [] := List.length_eq_zero_iff.1 hMn
    subst hM1
    clear hMn hM
    go_enter Try.func89, Try.ntmps89
    go_wp2_with fail
    refine (among_any [0, 1, 50] A c L g (n) _ _ _ _ hI hl (by omega) (hc.next (by (repeat (first | exact Below.refl _ _ | refine Below.drew ?_ | refine below_drewN ?_ _ | (refine Below.alloc ?_ (by (try simp) <;> omega) _) | (refine Below.setCell ?_ (by (try simp) <;> omega) _) | (refine Below.trans ?_ (Below.mono (by assumption) (by (try simp) <;> omega))))))) (by rfl) (by omega) (by omega) (by first | exact Blk.new _ _ _ | exact Blk.new1 _ _ _ _) (by have := hc.lt; (try simp); omega)).mono ?_; rintro e w1 ⟨x1, rfl, hx1, hc1, hb1⟩
    have G1 : ButG g w w1 := ButG.refl.trans ((ButG.of (by (repeat (first | exact Below.refl _ _ | refine Below.drew ?_ | refine below_drewN ?_ _ | (refine Below.alloc ?_ (by (try simp) <;> omega) _) | (refine Below.setCell ?_ (by (try simp) <;> omega) _) | (refine Below.trans ?_ (Below.mono (by assumption) (by (try simp) <;> omega)))))) : ButG g w _).trans hb1)
    have m1 := mem_small hx1 (by decide)
    go_wp2
    refine bodyPost_ret (v := .int .i64 x1) (by simp [results, Try.results89, go_sem, *] <;> rfl) rfl ?_
    exact ⟨x1, rfl, m1, hc1.mono (by omega), G1⟩
  · have hM0 : (M.length == 0) = false := by simpa using hMn
    have hM0i : ((M.length : Int) == 0) = false := by
      have : ¬ ((M.length : Int) = 0) := by omega
      simpa using this
    have hMp : (0 : Int) < M.length := by omega
    have hMi : (M.length : Int) ≤ 12 := by omega
    have hMz : ¬ (M.length : Int) = 0 := by omega
    clear hMn
    go_enter Try.func89, Try.ntmps89
    go_wp2_with fail
    refine (one_any A c L g (n) (10) _ hI hl (by omega) (by omega) (hc.next (by (repeat (first | exact Below.refl _ _ | refine Below.drew ?_ | refine below_drewN ?_ _ | (refine Below.alloc ?_ (by (try simp) <;> omega) _) | (refine Below.setCell ?_ (by (try simp) <;> omega) _) | (refine Below.trans ?_ (Below.mono (by assumption) (by (try simp) <;> omega)))))))).mono ?_; rintro e w1 ⟨x1, rfl, hc1, hb1⟩
    have G1 : ButG g w w1 := ButG.refl.trans ((ButG.of (by (repeat (first | exact Below.refl _ _ | refine Below.drew ?_ | refine below_drewN ?_ _ | (refine Below.alloc ?_ (by (try simp) <;> omega) _) | (refine Below.setCell ?_ (by (try simp) <;> omega) _) | (refine Below.trans ?_ (Below.mono (by assumption) (by (try simp) <;> omega)))))) : ButG g w _).trans hb1)
    have o1 := ho.but hgB hb1
    cases x1
    case true =>
      go_wp2_with fail
      refine (among_any [0, 1, 50] A c L g (n + 2) _ _ _ _ hI hl (by omega) (hc1.next (by (repeat (first | exact Below.refl _ _ | refine Below.drew ?_ | refine below_drewN ?_ _ | (refine Below.alloc ?_ (by (try simp) <;> omega) _) | (refine Below.setCell ?_ (by (try simp) <;> omega) _) | (refine Below.trans ?_ (Below.mono (by assumption) (by (try simp) <;> omega))))))) (by rfl) (by omega) (by omega) (by first | exact Blk.new _ _ _ | exact Blk.new1 _ _ _ _) (by have := hc1.lt; (try simp); omega)).mono ?_; rintro e w2 ⟨x2, rfl, hx2, hc2, hb2⟩
      have G2 : ButG g w w2 := G1.trans ((ButG.of (by (repeat (first | exact Below.refl _ _ | refine Below.drew ?_ | refine below_drewN ?_ _ | (refine Below.alloc ?_ (by (try simp) <;> omega) _) | (refine Below.setCell ?_ (by (try simp) <;> omega) _) | (refine Below.trans ?_ (Below.mono (by assumption) (by (try simp) <;> omega)))))) : ButG g w1 _).trans hb2)
      have m2 := mem_small hx2 (by decide)
      go_wp2
      refine bodyPost_ret (v := .int .i64 x2) (by simp [results, Try.results89, go_sem, *] <;> rfl) rfl ?_
      exact ⟨x2, rfl, m2, hc2.mono (by omega), G2⟩
    case false =>
      go_wp2_with fail
      refine (pick_any A c L g (n + 2) (M.length) _ hI hl (by omega) (by omega) (hc1.next (by (repeat (first | exact Below.refl _ _ | refine Below.drew ?_ | refine below_drewN ?_ _ | (refine Below.alloc ?_ (by (try simp) <;> omega) _) | (refine Below.setCell ?_ (by (try simp) <;> omega) _) | (refine Below.trans ?_ (Below.mono (by assumption) (by (try simp) <;> omega)))))))).mono ?_; rintro e w2 ⟨x2, rfl, hx2, hc2, hb2⟩
      have G2 : ButG g w w2 := G1.trans ((ButG.of (by (repeat (first | exact Below.refl _ _ | refine Below.drew ?_ | refine below_drewN ?_ _ | (refine Below.alloc ?_ (by (try simp) <;> omega) _) | (refine Below.setCell ?_ (by (try simp) <;> omega) _) | (refine Below.trans ?_ (Below.mono (by assumption) (by (try simp) <;> omega)))))) : ButG g w1 _).trans hb2)
      obtain ⟨y0, y1⟩ := hx2
      have y2 : x2 < M.length := by omega
      obtain ⟨k, rfl⟩ := Int.eq_ofNat_of_zero_le y0
      have hx : M[k]? = some (M[k]'(by omega)) := List.getElem?_eq_getElem _
      generalize M[k]'(by omega) = x at hx
      have o2 := o1.but hgB hb2
      obtain ⟨q, rfl, hq, hR, hC⟩ := o2 (SlR.ne hx)
      have c0 := (cells5 hC hx).1
      simp only [Nat.zero_add] at c0
      have hsm := (HMS.out x (List.mem_of_getElem? hx)).1
      clear hC hR hx y1 hb1 hb2
      go_wp2
      refine bodyPost_ret (v := .int .i64 x.1) (by simp [results, Try.results89, go_sem, *] <;> rfl) rfl ?_
      exact ⟨x.1, rfl, hsm, hc2.mono (by omega), G2⟩
set_option maxRecDepth 20000 in
set_option maxHeartbeats 8000000 in
theorem DrawReverseTrip_any (A : Option Addr) (c : Nat) (L : List Int) (wo : World) (hI : ∀ x ∈ L, 0 ≤ x ∧ x ≤ 255) (hl : (L.length : Int) ≤ 65536) (hs : SlR fb 1 wo wo.heap.size A L) :
    Calls Try.prog 51 #[.slice A L.length c] wo (DrW IsTsI wo) := by
  have hc := cur_new (c := c) (W := wo) hs (by (repeat (first | exact Below.refl _ _ | refine Below.drew ?_ | refine below_drewN ?_ _ | (refine Below.alloc ?_ (by (try simp) <;> omega) _) | (refine Below.setCell ?_ (by (try simp) <;> omega) _) | (refine Below.trans ?_ (Below.mono (by assumption) (by (try simp) <;> omega))))))
  have hB : Below wo.heap.size wo (wo.alloc (.cells #[.slice A L.length c, .int .i64 0, .int .u64 0] 84)) := by (repeat (first | exact Below.refl _ _ | refine Below.drew ?_ | refine below_drewN ?_ _ | (refine Below.alloc ?_ (by (try simp) <;> omega) _) | (refine Below.setCell ?_ (by (try simp) <;> omega) _) | (refine Below.trans ?_ (Below.mono (by assumption) (by (try simp) <;> omega)))))
  go_enter Try.func51, Try.ntmps51
  go_upto_region 2 with fail
  generalize wo.alloc (.cells #[.slice A L.length c, .int .i64 0, .int .u64 0] 84) = w at *
  obtain ⟨q, hq⟩ : ∃ q, wo.heap.size = q := ⟨_, rfl⟩
  rw [hq] at hc hB
  have Hq := Lib.hid hq
  obtain ⟨g, hg⟩ : ∃ g, q = g := ⟨_, rfl⟩
  rw [hg] at hc
  have hqg : q ≤ g := by omega
  have gg := hc.lt
  have qq : q < w.heap.size := by omega
  rw [hq]
  simp only [hg]
  clear hg hq hs
  go_wp2_with fail
  refine (trips_any A c L g 0 _ hI hl (by omega) hc).mono ?_; rintro e w1 ⟨A1, c1, M1, rfl, hM1, o1, hcap, hc1, hb1⟩
  have C2 := Lib.hid (tripId_any A c L g 200 w.heap.size A1 c1 M1 w1 hI hl (by omega) (hc1.mono (by omega)) o1 gg hM1)
  have HM := Lib.hid hM1
  have HC := Lib.hid hcap
  clear hM1 hcap
  go_wp2_with fail
  refine C2.out.mono ?_; rintro e w2 ⟨x2, rfl, s2, hc2, hb2⟩
  have G2 := hb1.trans hb2
  have O1 := Lib.hid (o1.but gg hb2).sl
  have HW := Lib.hid (hB.trans (G2.below hqg gg))
  clear C2 o1 hb1 hb2 hc1 hc2
  go_wp2
  refine bodyPost_ret (v := .tuple #[.slice A1 M1.length c1, .int .i64 x2]) (by simp [results, Try.results51, go_sem, *] <;> rfl) rfl ?_
  exact ⟨_, rfl, ⟨A1, c1, M1, x2, rfl, ⟨HM.out, O1.out, HC.out⟩, s2⟩, by rw [Hq.out]; exact HW.out⟩
end Go.Proofs.Ytfcmfadkkfkidaa
