/-
  The Draw functions of washing, each whole.
-/
import Derived.Test.YtpgoenhekmoedaaDrawB
import Derived.Test.YtpgoenhekmoedaaChg
import Derived.Test.YtpgoenhekmoedaaLaws2
namespace Go.Proofs.Ytpgoenhekmoedaa
open Go.RowKit

/-- A Draw function: it hands back a value of which F holds, and turns no older memory. -/
def DrV (F : Value → Prop) (w : World) (e : Ending) (w' : World) : Prop := ∃ v, e = .returned v ∧ F v ∧ Below w.heap.size w w'
def IsB (v : Value) : Prop := ∃ s d t : Int, v = .agg #[.int .i64 s, .int .i64 d, .int .i64 t] ∧ Small s ∧ Small d ∧ Small t
def IsBI (v : Value) : Prop := ∃ s d t a : Int, v = .tuple #[.agg #[.int .i64 s, .int .i64 d, .int .i64 t], .int .i64 a] ∧ (Small s ∧ Small d ∧ Small t) ∧ InI a
def IsBII (v : Value) : Prop := ∃ s d t a b : Int, v = .tuple #[.agg #[.int .i64 s, .int .i64 d, .int .i64 t], .int .i64 a, .int .i64 b] ∧ (Small s ∧ Small d ∧ Small t) ∧ InI a ∧ InI b
def IsBB (v : Value) : Prop := ∃ s d t a b c : Int, v = .tuple #[.agg #[.int .i64 s, .int .i64 d, .int .i64 t], .agg #[.int .i64 a, .int .i64 b, .int .i64 c]] ∧ (Small s ∧ Small d ∧ Small t) ∧ Small a ∧ Small b ∧ Small c

theorem tdiv_bd {x k B : Int} (h1 : -B ≤ x) (h2 : x ≤ B) (hk : 1 ≤ k) : -B ≤ x.tdiv k ∧ x.tdiv k ≤ B := by
  rcases Int.le_total 0 x with h | h
  · have := IntWalk.tdiv_le x k h hk
    rw [Int.tdiv_eq_ediv_of_nonneg h]
    omega
  · obtain ⟨y, rfl⟩ : ∃ y, x = -y := ⟨-x, by omega⟩
    have := IntWalk.tdiv_le y k (by omega) hk
    rw [Int.neg_tdiv, Int.tdiv_eq_ediv_of_nonneg (by omega)]
    omega
theorem Small.inI {x : Int} (h : Small x) : InI x := ⟨by have := h.1; omega, by have := h.2; omega⟩
theorem cur_new {A : Option Addr} {c : Nat} {L : List Int} {w W : World} (hs : SlR fb 1 w w.heap.size A L) (hb : Below w.heap.size w W) : Cur A c L W.heap.size 0 (W.alloc (.cells #[.slice A L.length c, .int .i64 0, .int .u64 0] 76)) :=
  ⟨⟨0, 0, by omega, by omega, Blk.new _ _ _⟩, (hs.below (hb.alloc hb.size _)).mono hb.size⟩
theorem cur_new1 {A : Option Addr} {c : Nat} {L : List Int} {w : World} (R : Obj) (hs : SlR fb 1 w w.heap.size A L) : Cur A c L (w.heap.size + 1) 0 ((w.alloc R).alloc (.cells #[.slice A L.length c, .int .i64 0, .int .u64 0] 76)) := by
  have := cur_new (c := c) (W := w.alloc R) hs ((Below.refl _ _).alloc (Nat.le_refl _) _)
  simpa using this

set_option maxHeartbeats 4000000 in
theorem DrawIsBatch_any (A : Option Addr) (c : Nat) (L : List Int) (wo : World) (hI : ∀ x ∈ L, 0 ≤ x ∧ x ≤ 255) (hl : (L.length : Int) ≤ 65536) (hs : SlR fb 1 wo wo.heap.size A L) :
    Calls Try.prog 68 #[.slice A L.length c] wo (DrV IsB wo) := by
  have hc := cur_new1 (c := c) (.cells #[.int .i64 0, .int .i64 0, .int .i64 0] 25) hs
  have kR := (Blk.new wo 25 #[.int .i64 0, .int .i64 0, .int .i64 0]).alloc (.cells #[.slice A L.length c, .int .i64 0, .int .u64 0] 76)
  have hB : Below wo.heap.size wo ((wo.alloc (.cells #[.int .i64 0, .int .i64 0, .int .i64 0] 25)).alloc (.cells #[.slice A L.length c, .int .i64 0, .int .u64 0] 76)) := by (repeat (first | exact Below.refl _ _ | refine Below.drew ?_ | refine below_drewN ?_ _ | (refine Below.alloc ?_ (by (try simp) <;> omega) _) | (refine Below.setCell ?_ (by (try simp) <;> omega) _) | (refine Below.trans ?_ (Below.mono (by assumption) (by (try simp) <;> omega)))))
  go_enter Try.func68, Try.ntmps68
  go_wp2_with fail
  generalize (wo.alloc (.cells #[.int .i64 0, .int .i64 0, .int .i64 0] 25)).alloc (.cells #[.slice A L.length c, .int .i64 0, .int .u64 0] 76) = w at *
  generalize hg : wo.heap.size + 1 = g at *
  generalize hq : wo.heap.size = q at *
  have Hq := Lib.hid hq; have hne : q ≠ g := by omega
  have hqg : q ≤ g := by omega
  clear hq hg hs
  go_wp2_with fail
  refine (batch_any A c L g (0) _ hI hl (by omega) (hc.next (by (repeat (first | exact Below.refl _ _ | refine Below.drew ?_ | refine below_drewN ?_ _ | (refine Below.alloc ?_ (by (try simp) <;> omega) _) | (refine Below.setCell ?_ (by (try simp) <;> omega) _) | (refine Below.trans ?_ (Below.mono (by assumption) (by (try simp) <;> omega)))))))).mono ?_; rintro e w1 ⟨s1, d1, t1, rfl, m1, hc1, hb1⟩
  have G1 : ButG g w w1 := ButG.refl.trans ((ButG.of (by (repeat (first | exact Below.refl _ _ | refine Below.drew ?_ | refine below_drewN ?_ _ | (refine Below.alloc ?_ (by (try simp) <;> omega) _) | (refine Below.setCell ?_ (by (try simp) <;> omega) _) | (refine Below.trans ?_ (Below.mono (by assumption) (by (try simp) <;> omega)))))) : ButG g w _).trans hb1)
  have kZ := kR.but G1 hne
  have cR := kZ.cell
  have fR := kZ.frozen
  have hw : Below q wo w1 := hB.trans (G1.below hqg hc.lt)
  have HW := Lib.hid hw; clear hw
  go_wp2
  refine bodyPost_ret (v := .agg #[.int .i64 s1, .int .i64 d1, .int .i64 t1]) (by simp [results, Try.results68, go_sem, *] <;> rfl) rfl ?_
  exact ⟨_, rfl, ⟨_, _, _, rfl, m1⟩, (((by have := HW.out; rw [Hq.out]; exact this : Below wo.heap.size wo w1).setCell (by show _ ≤ q; rw [Hq.out]; omega) _).setCell (by show _ ≤ q; rw [Hq.out]; omega) _).setCell (by show _ ≤ q; rw [Hq.out]; omega) _⟩

set_option maxHeartbeats 4000000 in
theorem DrawAfterStages_any (A : Option Addr) (c : Nat) (L : List Int) (wo : World) (hI : ∀ x ∈ L, 0 ≤ x ∧ x ≤ 255) (hl : (L.length : Int) ≤ 65536) (hs : SlR fb 1 wo wo.heap.size A L) :
    Calls Try.prog 42 #[.slice A L.length c] wo (DrV IsBII wo) := by
  have hc := cur_new1 (c := c) (.cells #[.int .i64 0, .int .i64 0, .int .i64 0] 25) hs
  have kR := (Blk.new wo 25 #[.int .i64 0, .int .i64 0, .int .i64 0]).alloc (.cells #[.slice A L.length c, .int .i64 0, .int .u64 0] 76)
  have hB : Below wo.heap.size wo ((wo.alloc (.cells #[.int .i64 0, .int .i64 0, .int .i64 0] 25)).alloc (.cells #[.slice A L.length c, .int .i64 0, .int .u64 0] 76)) := by (repeat (first | exact Below.refl _ _ | refine Below.drew ?_ | refine below_drewN ?_ _ | (refine Below.alloc ?_ (by (try simp) <;> omega) _) | (refine Below.setCell ?_ (by (try simp) <;> omega) _) | (refine Below.trans ?_ (Below.mono (by assumption) (by (try simp) <;> omega)))))
  go_enter Try.func42, Try.ntmps42
  go_wp2_with fail
  generalize (wo.alloc (.cells #[.int .i64 0, .int .i64 0, .int .i64 0] 25)).alloc (.cells #[.slice A L.length c, .int .i64 0, .int .u64 0] 76) = w at *
  generalize hg : wo.heap.size + 1 = g at *
  generalize hq : wo.heap.size = q at *
  have Hq := Lib.hid hq; have hne : q ≠ g := by omega
  have hqg : q ≤ g := by omega
  clear hq hg hs
  go_wp2_with fail
  refine (batch_any A c L g (0) _ hI hl (by omega) (hc.next (by (repeat (first | exact Below.refl _ _ | refine Below.drew ?_ | refine below_drewN ?_ _ | (refine Below.alloc ?_ (by (try simp) <;> omega) _) | (refine Below.setCell ?_ (by (try simp) <;> omega) _) | (refine Below.trans ?_ (Below.mono (by assumption) (by (try simp) <;> omega)))))))).mono ?_; rintro e w1 ⟨s1, d1, t1, rfl, m1, hc1, hb1⟩
  have G1 : ButG g w w1 := ButG.refl.trans ((ButG.of (by (repeat (first | exact Below.refl _ _ | refine Below.drew ?_ | refine below_drewN ?_ _ | (refine Below.alloc ?_ (by (try simp) <;> omega) _) | (refine Below.setCell ?_ (by (try simp) <;> omega) _) | (refine Below.trans ?_ (Below.mono (by assumption) (by (try simp) <;> omega)))))) : ButG g w _).trans hb1)
  go_wp2_with fail
  refine (washWater_any A c L g (0 + 10) _ hI hl (by omega) (hc1.next (by (repeat (first | exact Below.refl _ _ | refine Below.drew ?_ | refine below_drewN ?_ _ | (refine Below.alloc ?_ (by (try simp) <;> omega) _) | (refine Below.setCell ?_ (by (try simp) <;> omega) _) | (refine Below.trans ?_ (Below.mono (by assumption) (by (try simp) <;> omega)))))))).mono ?_; rintro e w2 ⟨x2, rfl, m2, hc2, hb2⟩
  have G2 : ButG g w w2 := G1.trans ((ButG.of (by (repeat (first | exact Below.refl _ _ | refine Below.drew ?_ | refine below_drewN ?_ _ | (refine Below.alloc ?_ (by (try simp) <;> omega) _) | (refine Below.setCell ?_ (by (try simp) <;> omega) _) | (refine Below.trans ?_ (Below.mono (by assumption) (by (try simp) <;> omega)))))) : ButG g w1 _).trans hb2)
  go_wp2_with fail
  refine (among_any [1, 2, 3, 4, 5, 6, 0, 7] A c L g (0 + 10 + 2) _ _ _ _ hI hl (by omega) (hc2.next (by (repeat (first | exact Below.refl _ _ | refine Below.drew ?_ | refine below_drewN ?_ _ | (refine Below.alloc ?_ (by (try simp) <;> omega) _) | (refine Below.setCell ?_ (by (try simp) <;> omega) _) | (refine Below.trans ?_ (Below.mono (by assumption) (by (try simp) <;> omega))))))) (by rfl) (by omega) (by omega) (by first | exact Blk.new _ _ _ | exact Blk.new1 _ _ _ _) (by have := hc2.lt; (try simp); omega)).mono ?_; rintro e w3 ⟨x3, rfl, hx3, hc3, hb3⟩
  have G3 : ButG g w w3 := G2.trans ((ButG.of (by (repeat (first | exact Below.refl _ _ | refine Below.drew ?_ | refine below_drewN ?_ _ | (refine Below.alloc ?_ (by (try simp) <;> omega) _) | (refine Below.setCell ?_ (by (try simp) <;> omega) _) | (refine Below.trans ?_ (Below.mono (by assumption) (by (try simp) <;> omega)))))) : ButG g w2 _).trans hb3)
  have m3 := mem_small hx3 (by decide)
  have kZ := kR.but G3 hne
  have cR := kZ.cell
  have fR := kZ.frozen
  have hw : Below q wo w3 := hB.trans (G3.below hqg hc.lt)
  have HW := Lib.hid hw; clear hw
  go_wp2
  refine bodyPost_ret (v := .tuple #[.agg #[.int .i64 s1, .int .i64 d1, .int .i64 t1], .int .i64 x2, .int .i64 x3]) (by simp [results, Try.results42, go_sem, *] <;> rfl) rfl ?_
  exact ⟨_, rfl, ⟨_, _, _, _, _, rfl, m1, m2.inI, Small.inI m3⟩, (((by have := HW.out; rw [Hq.out]; exact this : Below wo.heap.size wo w3).setCell (by show _ ≤ q; rw [Hq.out]; omega) _).setCell (by show _ ≤ q; rw [Hq.out]; omega) _).setCell (by show _ ≤ q; rw [Hq.out]; omega) _⟩

set_option maxHeartbeats 4000000 in
theorem DrawDryBatch_any (A : Option Addr) (c : Nat) (L : List Int) (wo : World) (hI : ∀ x ∈ L, 0 ≤ x ∧ x ≤ 255) (hl : (L.length : Int) ≤ 65536) (hs : SlR fb 1 wo wo.heap.size A L) :
    Calls Try.prog 47 #[.slice A L.length c] wo (DrV IsBI wo) := by
  have hc := cur_new1 (c := c) (.cells #[.int .i64 0, .int .i64 0, .int .i64 0] 25) hs
  have kR := (Blk.new wo 25 #[.int .i64 0, .int .i64 0, .int .i64 0]).alloc (.cells #[.slice A L.length c, .int .i64 0, .int .u64 0] 76)
  have hB : Below wo.heap.size wo ((wo.alloc (.cells #[.int .i64 0, .int .i64 0, .int .i64 0] 25)).alloc (.cells #[.slice A L.length c, .int .i64 0, .int .u64 0] 76)) := by (repeat (first | exact Below.refl _ _ | refine Below.drew ?_ | refine below_drewN ?_ _ | (refine Below.alloc ?_ (by (try simp) <;> omega) _) | (refine Below.setCell ?_ (by (try simp) <;> omega) _) | (refine Below.trans ?_ (Below.mono (by assumption) (by (try simp) <;> omega)))))
  go_enter Try.func47, Try.ntmps47
  go_wp2_with fail
  generalize (wo.alloc (.cells #[.int .i64 0, .int .i64 0, .int .i64 0] 25)).alloc (.cells #[.slice A L.length c, .int .i64 0, .int .u64 0] 76) = w at *
  generalize hg : wo.heap.size + 1 = g at *
  generalize hq : wo.heap.size = q at *
  have Hq := Lib.hid hq; have hne : q ≠ g := by omega
  have hqg : q ≤ g := by omega
  clear hq hg hs
  go_wp2_with fail
  refine (batch_any A c L g (0) _ hI hl (by omega) (hc.next (by (repeat (first | exact Below.refl _ _ | refine Below.drew ?_ | refine below_drewN ?_ _ | (refine Below.alloc ?_ (by (try simp) <;> omega) _) | (refine Below.setCell ?_ (by (try simp) <;> omega) _) | (refine Below.trans ?_ (Below.mono (by assumption) (by (try simp) <;> omega)))))))).mono ?_; rintro e w1 ⟨s1, d1, t1, rfl, m1, hc1, hb1⟩
  have G1 : ButG g w w1 := ButG.refl.trans ((ButG.of (by (repeat (first | exact Below.refl _ _ | refine Below.drew ?_ | refine below_drewN ?_ _ | (refine Below.alloc ?_ (by (try simp) <;> omega) _) | (refine Below.setCell ?_ (by (try simp) <;> omega) _) | (refine Below.trans ?_ (Below.mono (by assumption) (by (try simp) <;> omega)))))) : ButG g w _).trans hb1)
  go_wp2_with fail
  refine (among_any [0, 1, 33, 50, 100, 101, -1] A c L g (0 + 10) _ _ _ _ hI hl (by omega) (hc1.next (by (repeat (first | exact Below.refl _ _ | refine Below.drew ?_ | refine below_drewN ?_ _ | (refine Below.alloc ?_ (by (try simp) <;> omega) _) | (refine Below.setCell ?_ (by (try simp) <;> omega) _) | (refine Below.trans ?_ (Below.mono (by assumption) (by (try simp) <;> omega))))))) (by rfl) (by omega) (by omega) (by first | exact Blk.new _ _ _ | exact Blk.new1 _ _ _ _) (by have := hc1.lt; (try simp); omega)).mono ?_; rintro e w2 ⟨x2, rfl, hx2, hc2, hb2⟩
  have G2 : ButG g w w2 := G1.trans ((ButG.of (by (repeat (first | exact Below.refl _ _ | refine Below.drew ?_ | refine below_drewN ?_ _ | (refine Below.alloc ?_ (by (try simp) <;> omega) _) | (refine Below.setCell ?_ (by (try simp) <;> omega) _) | (refine Below.trans ?_ (Below.mono (by assumption) (by (try simp) <;> omega)))))) : ButG g w1 _).trans hb2)
  have m2 := mem_small hx2 (by decide)
  have kZ := kR.but G2 hne
  have cR := kZ.cell
  have fR := kZ.frozen
  have hw : Below q wo w2 := hB.trans (G2.below hqg hc.lt)
  have HW := Lib.hid hw; clear hw
  go_wp2
  refine bodyPost_ret (v := .tuple #[.agg #[.int .i64 s1, .int .i64 d1, .int .i64 t1], .int .i64 x2]) (by simp [results, Try.results47, go_sem, *] <;> rfl) rfl ?_
  exact ⟨_, rfl, ⟨_, _, _, _, rfl, m1, Small.inI m2⟩, (((by have := HW.out; rw [Hq.out]; exact this : Below wo.heap.size wo w2).setCell (by show _ ≤ q; rw [Hq.out]; omega) _).setCell (by show _ ≤ q; rw [Hq.out]; omega) _).setCell (by show _ ≤ q; rw [Hq.out]; omega) _⟩

set_option maxHeartbeats 4000000 in
theorem DrawAfterWash_any (A : Option Addr) (c : Nat) (L : List Int) (wo : World) (hI : ∀ x ∈ L, 0 ≤ x ∧ x ≤ 255) (hl : (L.length : Int) ≤ 65536) (hs : SlR fb 1 wo wo.heap.size A L) :
    Calls Try.prog 40 #[.slice A L.length c] wo (DrV IsBII wo) := by
  have hc := cur_new1 (c := c) (.cells #[.int .i64 0, .int .i64 0, .int .i64 0] 25) hs
  have kR := (Blk.new wo 25 #[.int .i64 0, .int .i64 0, .int .i64 0]).alloc (.cells #[.slice A L.length c, .int .i64 0, .int .u64 0] 76)
  have hB : Below wo.heap.size wo ((wo.alloc (.cells #[.int .i64 0, .int .i64 0, .int .i64 0] 25)).alloc (.cells #[.slice A L.length c, .int .i64 0, .int .u64 0] 76)) := by (repeat (first | exact Below.refl _ _ | refine Below.drew ?_ | refine below_drewN ?_ _ | (refine Below.alloc ?_ (by (try simp) <;> omega) _) | (refine Below.setCell ?_ (by (try simp) <;> omega) _) | (refine Below.trans ?_ (Below.mono (by assumption) (by (try simp) <;> omega)))))
  go_enter Try.func40, Try.ntmps40
  go_wp2_with fail
  generalize (wo.alloc (.cells #[.int .i64 0, .int .i64 0, .int .i64 0] 25)).alloc (.cells #[.slice A L.length c, .int .i64 0, .int .u64 0] 76) = w at *
  generalize hg : wo.heap.size + 1 = g at *
  generalize hq : wo.heap.size = q at *
  have Hq := Lib.hid hq; have hne : q ≠ g := by omega
  have hqg : q ≤ g := by omega
  clear hq hg hs
  go_wp2_with fail
  refine (washWater_any A c L g (0) _ hI hl (by omega) (hc.next (by (repeat (first | exact Below.refl _ _ | refine Below.drew ?_ | refine below_drewN ?_ _ | (refine Below.alloc ?_ (by (try simp) <;> omega) _) | (refine Below.setCell ?_ (by (try simp) <;> omega) _) | (refine Below.trans ?_ (Below.mono (by assumption) (by (try simp) <;> omega)))))))).mono ?_; rintro e w1 ⟨x1, rfl, m1, hc1, hb1⟩
  have G1 : ButG g w w1 := ButG.refl.trans ((ButG.of (by (repeat (first | exact Below.refl _ _ | refine Below.drew ?_ | refine below_drewN ?_ _ | (refine Below.alloc ?_ (by (try simp) <;> omega) _) | (refine Below.setCell ?_ (by (try simp) <;> omega) _) | (refine Below.trans ?_ (Below.mono (by assumption) (by (try simp) <;> omega)))))) : ButG g w _).trans hb1)
  obtain ⟨u1, u2⟩ := m1
  go_wp2_with fail
  refine (batch_any A c L g (0 + 2) _ hI hl (by omega) (hc1.next (by (repeat (first | exact Below.refl _ _ | refine Below.drew ?_ | refine below_drewN ?_ _ | (refine Below.alloc ?_ (by (try simp) <;> omega) _) | (refine Below.setCell ?_ (by (try simp) <;> omega) _) | (refine Below.trans ?_ (Below.mono (by assumption) (by (try simp) <;> omega)))))))).mono ?_; rintro e w2 ⟨s2, d2, t2, rfl, m2, hc2, hb2⟩
  have G2 : ButG g w w2 := G1.trans ((ButG.of (by (repeat (first | exact Below.refl _ _ | refine Below.drew ?_ | refine below_drewN ?_ _ | (refine Below.alloc ?_ (by (try simp) <;> omega) _) | (refine Below.setCell ?_ (by (try simp) <;> omega) _) | (refine Below.trans ?_ (Below.mono (by assumption) (by (try simp) <;> omega)))))) : ButG g w1 _).trans hb2)
  go_wp2_with fail
  refine (among_any [0, 0, 1, x1, x1.tdiv 2, x1 + 1, -1] A c L g (0 + 2 + 10) _ _ _ _ hI hl (by omega) (hc2.next (by (repeat (first | exact Below.refl _ _ | refine Below.drew ?_ | refine below_drewN ?_ _ | (refine Below.alloc ?_ (by (try simp) <;> omega) _) | (refine Below.setCell ?_ (by (try simp) <;> omega) _) | (refine Below.trans ?_ (Below.mono (by assumption) (by (try simp) <;> omega))))))) (by rfl) (by omega) (by omega) (by first | exact Blk.new _ _ _ | exact Blk.new1 _ _ _ _) (by have := hc2.lt; (try simp); omega)).mono ?_; rintro e w3 ⟨x3, rfl, hx3, hc3, hb3⟩
  have G3 : ButG g w w3 := G2.trans ((ButG.of (by (repeat (first | exact Below.refl _ _ | refine Below.drew ?_ | refine below_drewN ?_ _ | (refine Below.alloc ?_ (by (try simp) <;> omega) _) | (refine Below.setCell ?_ (by (try simp) <;> omega) _) | (refine Below.trans ?_ (Below.mono (by assumption) (by (try simp) <;> omega)))))) : ButG g w2 _).trans hb3)
  have m3 : InI x3 := by
    have t1 := tdiv_bd (k := 2) u1 u2 (by omega)
    simp only [List.mem_cons, List.not_mem_nil, or_false] at hx3
    rcases hx3 with rfl | rfl | rfl | rfl | rfl | rfl | rfl <;> exact ⟨by omega, by omega⟩
  have kZ := kR.but G3 hne
  have cR := kZ.cell
  have fR := kZ.frozen
  have hw : Below q wo w3 := hB.trans (G3.below hqg hc.lt)
  have HW := Lib.hid hw; clear hw
  go_wp2
  refine bodyPost_ret (v := .tuple #[.agg #[.int .i64 s2, .int .i64 d2, .int .i64 t2], .int .i64 x1, .int .i64 x3]) (by simp [results, Try.results40, go_sem, *] <;> rfl) rfl ?_
  exact ⟨_, rfl, ⟨_, _, _, _, _, rfl, m2, Small.inI ⟨u1, u2⟩, m3⟩, (((by have := HW.out; rw [Hq.out]; exact this : Below wo.heap.size wo w3).setCell (by show _ ≤ q; rw [Hq.out]; omega) _).setCell (by show _ ≤ q; rw [Hq.out]; omega) _).setCell (by show _ ≤ q; rw [Hq.out]; omega) _⟩

set_option maxHeartbeats 4000000 in
theorem DrawPurityOf_any (A : Option Addr) (c : Nat) (L : List Int) (wo : World) (hI : ∀ x ∈ L, 0 ≤ x ∧ x ≤ 255) (hl : (L.length : Int) ≤ 65536) (hs : SlR fb 1 wo wo.heap.size A L) :
    Calls Try.prog 48 #[.slice A L.length c] wo (DrV IsB wo) := by
  have kR := Blk.new wo 25 #[.int .i64 0, .int .i64 0, .int .i64 0]
  have hB : Below wo.heap.size wo (wo.alloc (.cells #[.int .i64 0, .int .i64 0, .int .i64 0] 25)) := by (repeat (first | exact Below.refl _ _ | refine Below.drew ?_ | refine below_drewN ?_ _ | (refine Below.alloc ?_ (by (try simp) <;> omega) _) | (refine Below.setCell ?_ (by (try simp) <;> omega) _) | (refine Below.trans ?_ (Below.mono (by assumption) (by (try simp) <;> omega)))))
  go_enter Try.func48, Try.ntmps48
  go_wp2_with fail
  refine (DrawIsBatch_any A c L _ hI hl (hs.alloc _)).mono ?_; rintro e w1 ⟨v, rfl, ⟨s1, d1, t1, rfl, m1⟩, hb1⟩
  have k1 := kR.below' hb1
  have cR := k1.cell
  have fR := k1.frozen
  have hw : Below wo.heap.size wo w1 := by (repeat (first | exact Below.refl _ _ | refine Below.drew ?_ | refine below_drewN ?_ _ | (refine Below.alloc ?_ (by (try simp) <;> omega) _) | (refine Below.setCell ?_ (by (try simp) <;> omega) _) | (refine Below.trans ?_ (Below.mono (by assumption) (by (try simp) <;> omega)))))
  have HW := Lib.hid hw; clear hw
  go_wp2
  refine bodyPost_ret (v := .agg #[.int .i64 s1, .int .i64 d1, .int .i64 t1]) (by simp [results, Try.results48, go_sem, *] <;> rfl) rfl ?_
  exact ⟨_, rfl, ⟨_, _, _, rfl, m1⟩, ((HW.out.setCell (Nat.le_refl _) _).setCell (Nat.le_refl _) _).setCell (Nat.le_refl _) _⟩

set_option maxHeartbeats 4000000 in
theorem DrawJoinBatches_any (A : Option Addr) (c : Nat) (L : List Int) (wo : World) (hI : ∀ x ∈ L, 0 ≤ x ∧ x ≤ 255) (hl : (L.length : Int) ≤ 65536) (hs : SlR fb 1 wo wo.heap.size A L) :
    Calls Try.prog 46 #[.slice A L.length c] wo (DrV IsBB wo) := by
  have hc : Cur A c L (wo.heap.size + 1 + 1) 0 (((wo.alloc (.cells #[.int .i64 0, .int .i64 0, .int .i64 0] 25)).alloc (.cells #[.int .i64 0, .int .i64 0, .int .i64 0] 25)).alloc (.cells #[.slice A L.length c, .int .i64 0, .int .u64 0] 76)) := by
    have := cur_new (c := c) (W := (wo.alloc (.cells #[.int .i64 0, .int .i64 0, .int .i64 0] 25)).alloc (.cells #[.int .i64 0, .int .i64 0, .int .i64 0] 25)) hs (by (repeat (first | exact Below.refl _ _ | refine Below.drew ?_ | refine below_drewN ?_ _ | (refine Below.alloc ?_ (by (try simp) <;> omega) _) | (refine Below.setCell ?_ (by (try simp) <;> omega) _) | (refine Below.trans ?_ (Below.mono (by assumption) (by (try simp) <;> omega))))))
    simpa using this
  have kR := ((Blk.new wo 25 #[.int .i64 0, .int .i64 0, .int .i64 0]).alloc (.cells #[.int .i64 0, .int .i64 0, .int .i64 0] 25)).alloc (.cells #[.slice A L.length c, .int .i64 0, .int .u64 0] 76)
  have kS := (Blk.new1 wo 25 #[.int .i64 0, .int .i64 0, .int .i64 0] (.cells #[.int .i64 0, .int .i64 0, .int .i64 0] 25)).alloc (.cells #[.slice A L.length c, .int .i64 0, .int .u64 0] 76)
  have hB : Below wo.heap.size wo (((wo.alloc (.cells #[.int .i64 0, .int .i64 0, .int .i64 0] 25)).alloc (.cells #[.int .i64 0, .int .i64 0, .int .i64 0] 25)).alloc (.cells #[.slice A L.length c, .int .i64 0, .int .u64 0] 76)) := by (repeat (first | exact Below.refl _ _ | refine Below.drew ?_ | refine below_drewN ?_ _ | (refine Below.alloc ?_ (by (try simp) <;> omega) _) | (refine Below.setCell ?_ (by (try simp) <;> omega) _) | (refine Below.trans ?_ (Below.mono (by assumption) (by (try simp) <;> omega)))))
  go_enter Try.func46, Try.ntmps46
  go_wp2_with fail
  generalize ((wo.alloc (.cells #[.int .i64 0, .int .i64 0, .int .i64 0] 25)).alloc (.cells #[.int .i64 0, .int .i64 0, .int .i64 0] 25)).alloc (.cells #[.slice A L.length c, .int .i64 0, .int .u64 0] 76) = w at *
  generalize hg : wo.heap.size + 1 + 1 = g at *
  generalize hr : wo.heap.size + 1 = r at *
  generalize hq : wo.heap.size = q at *
  have Hq := Lib.hid hq
  have hne : q ≠ g := by omega
  have hner : r ≠ g := by omega
  have hneq : r ≠ q := by omega
  have hqg : q ≤ g := by omega
  have hqr : q ≤ r := by omega
  clear hq hg hr hs
  go_wp2_with fail
  refine (batch_any A c L g (0) _ hI hl (by omega) (hc.next (by (repeat (first | exact Below.refl _ _ | refine Below.drew ?_ | refine below_drewN ?_ _ | (refine Below.alloc ?_ (by (try simp) <;> omega) _) | (refine Below.setCell ?_ (by (try simp) <;> omega) _) | (refine Below.trans ?_ (Below.mono (by assumption) (by (try simp) <;> omega)))))))).mono ?_; rintro e w1 ⟨s1, d1, t1, rfl, m1, hc1, hb1⟩
  have G1 : ButG g w w1 := ButG.refl.trans ((ButG.of (by (repeat (first | exact Below.refl _ _ | refine Below.drew ?_ | refine below_drewN ?_ _ | (refine Below.alloc ?_ (by (try simp) <;> omega) _) | (refine Below.setCell ?_ (by (try simp) <;> omega) _) | (refine Below.trans ?_ (Below.mono (by assumption) (by (try simp) <;> omega)))))) : ButG g w _).trans hb1)
  go_wp2_with fail
  refine (batch_any A c L g (0 + 10) _ hI hl (by omega) (hc1.next (by (repeat (first | exact Below.refl _ _ | refine Below.drew ?_ | refine below_drewN ?_ _ | (refine Below.alloc ?_ (by (try simp) <;> omega) _) | (refine Below.setCell ?_ (by (try simp) <;> omega) _) | (refine Below.trans ?_ (Below.mono (by assumption) (by (try simp) <;> omega)))))))).mono ?_; rintro e w2 ⟨s2, d2, t2, rfl, m2, hc2, hb2⟩
  have G2 : ButG g w w2 := G1.trans ((ButG.of (by (repeat (first | exact Below.refl _ _ | refine Below.drew ?_ | refine below_drewN ?_ _ | (refine Below.alloc ?_ (by (try simp) <;> omega) _) | (refine Below.setCell ?_ (by (try simp) <;> omega) _) | (refine Below.trans ?_ (Below.mono (by assumption) (by (try simp) <;> omega)))))) : ButG g w1 _).trans hb2)
  have kZ := kR.but G2 hne
  have cR := kZ.cell
  have fR := kZ.frozen
  have kY := kS.but G2 hner
  have cS := kY.cell
  have fS := kY.frozen
  have hw : Below q wo w2 := hB.trans (G2.below hqg hc.lt)
  have HW := Lib.hid hw; clear hw
  go_wp2
  refine bodyPost_ret (v := .tuple #[.agg #[.int .i64 s1, .int .i64 d1, .int .i64 t1], .agg #[.int .i64 s2, .int .i64 d2, .int .i64 t2]]) (by simp [results, Try.results46, go_sem, *] <;> rfl) rfl ?_
  exact ⟨_, rfl, ⟨_, _, _, _, _, _, rfl, m1, m2⟩, by have := HW.out; rw [Hq.out]; exact (((((this.setCell (Nat.le_refl _) _).setCell (Nat.le_refl _) _).setCell (Nat.le_refl _) _).setCell (p := ⟨r, 0, none⟩) hqr _).setCell (p := ⟨r, 1, none⟩) hqr _).setCell (p := ⟨r, 2, none⟩) hqr _⟩

end Go.Proofs.Ytpgoenhekmoedaa
