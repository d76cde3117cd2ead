/-
  DrawSectionTimes, DrawFirstStart, DrawAddTrip, DrawOnTheWay, DrawReverseTrip, DrawLoadsTo, DrawLongestQuiet.
-/
import Derived.Test.YtfcmfadkkfkidaaDrawT2
import Derived.Test.YtfcmfadkkfkidaaRegion
import Derived.WalkKit
import Derived.WalkSpells
import Derived.WalkLawsBesides
import Derived.Lib.Hide
import Derived.Deep.QuietTactic
import Derived.BigQuiet
import Derived.StillTailTactics
namespace Go.Proofs.Ytfcmfadkkfkidaa
open Go.RowKit

/-- A trip; a list and a trip; a list and one or two ints. -/
def IsTp (v : Value) (_ : World) : Prop := ∃ t : T5, v = tripV t.1 t.2.1 t.2.2.1 t.2.2.2.1 t.2.2.2.2 ∧ SmT t
def ListOk (A : Option Addr) (c : Nat) (M : List T5) (w : World) : Prop := TripsOk 12 M ∧ SlR f5 5 w w.heap.size A M ∧ M.length ≤ c ∧ ∃ x, A = some x
def IsTsT (v : Value) (w : World) : Prop := ∃ A c M, ∃ t : T5, v = .tuple #[.slice A M.length c, tripV t.1 t.2.1 t.2.2.1 t.2.2.2.1 t.2.2.2.2] ∧ ListOk A c M w ∧ SmT t
def IsTsI (v : Value) (w : World) : Prop := ∃ A c M x, v = .tuple #[.slice A M.length c, .int .i64 x] ∧ ListOk A c M w ∧ Small x
def IsTsII (v : Value) (w : World) : Prop := ∃ A c M x y, v = .tuple #[.slice A M.length c, .int .i64 x, .int .i64 y] ∧ ListOk A c M w ∧ Small x ∧ Small y
theorem own_box {α : Type} {f : α → List Value} {m B q : Nat} {t : TypeId} {w : World} {A : Option Addr} {L : List α} (h : OwnR f m t w B A L) (hq : q < B) (u0 u1 u2 u3 u4 : Value) :
    OwnR f m t (((((w.setCell ⟨q, 0, none⟩ u0).setCell ⟨q, 1, none⟩ u1).setCell ⟨q, 2, none⟩ u2).setCell ⟨q, 3, none⟩ u3).setCell ⟨q, 4, none⟩ u4) B A L :=
  h.below_ (FarQ.set (FarQ.set (FarQ.set (FarQ.set (FarQ.set FarQ.refl))))) hq
theorem below_box {w w' : World} {q : Nat} (h : Below q w w') (u0 u1 u2 u3 u4 : Value) :
    Below q w (((((w'.setCell ⟨q, 0, none⟩ u0).setCell ⟨q, 1, none⟩ u1).setCell ⟨q, 2, none⟩ u2).setCell ⟨q, 3, none⟩ u3).setCell ⟨q, 4, none⟩ u4) :=
  ((((h.setCell (p := ⟨q, 0, none⟩) (Nat.le_refl _) u0).setCell (p := ⟨q, 1, none⟩) (Nat.le_refl _) u1).setCell (p := ⟨q, 2, none⟩) (Nat.le_refl _) u2).setCell (p := ⟨q, 3, none⟩) (Nat.le_refl _) u3).setCell (p := ⟨q, 4, none⟩) (Nat.le_refl _) u4
set_option maxHeartbeats 1000000 in
/-- One of the first m of the numbers M that a literal in block b holds. -/
theorem amongT_any (M : List Int) (A : Option Addr) (c : Nat) (L : List Int) (g n b m cp : Nat) (w : World) (hI : ∀ x ∈ L, 0 ≤ x ∧ x ≤ 255) (hl : (L.length : Int) ≤ 65536) (hn : n ≤ 900000) (hc : Cur A c L g n w)
    (hM : m ≤ M.length) (hm0 : 0 < m) (hm1 : m ≤ 1000) (hB : Blk w b 3 (M.map (Value.int .i64)).toArray) (hne : b ≠ g) :
    Calls Try.prog 90 #[.pointer (some ⟨g, 0, none⟩), .slice (some ⟨b, 0, none⟩) m cp] w (CurI A c L g (n + 2) w (· ∈ M)) := by
  have HM := Lib.hid hM
  clear hM
  go_enter Try.func90, Try.ntmps90
  go_wp2_with fail
  refine (pick_any A c L g n m w hI hl hn (by omega) hc).mono ?_; rintro e w1 ⟨x, rfl, ⟨hx0, hx1⟩, hc1, hb1⟩
  obtain ⟨j, rfl⟩ := Int.eq_ofNat_of_zero_le hx0
  have hj : j < m := by omega
  have q1 : (j : Int) < (m : Int) := by omega
  obtain ⟨y, hy⟩ : ∃ y, M[j]? = some y := ⟨M[j]'(by have := HM.out; omega), List.getElem?_eq_getElem _⟩
  have hcell : w1.cell? ⟨b, j, none⟩ = some (.int .i64 y) := by
    have := (hB.but hb1 hne).cell j
    simpa [hy] using this
  have HY := Lib.hid hy
  clear hy
  go_wp2
  go_ret
  exact ⟨y, rfl, List.mem_of_getElem? HY.out, hc1, hb1⟩
/-- A slice literal of ints, small ones. -/
theorem lit_blk (w : World) (M : List Int) : Blk (w.alloc (.cells (M.map (Value.int .i64)).toArray 3)) w.heap.size 3 (M.map (Value.int .i64)).toArray := Blk.new _ _ _

set_option maxRecDepth 20000 in
set_option maxHeartbeats 8000000 in
theorem DrawIsTrip_any (A : Option Addr) (c : Nat) (L : List Int) (wo : World) (hI : ∀ x ∈ L, 0 ≤ x ∧ x ≤ 255) (hl : (L.length : Int) ≤ 65536) (hs : SlR fb 1 wo wo.heap.size A L) :
    Calls Try.prog 92 #[.slice A L.length c] wo (DrW IsTp wo) := by
  have hc := cur_new (c := c) (W := (wo.alloc (.cells #[.int .i64 0, .int .i64 0, .int .i64 0, .int .i64 0, .int .i64 0] 25 (0, 0)))) hs (by (repeat (first | exact Below.refl _ _ | refine Below.drew ?_ | refine below_drewN ?_ _ | (refine Below.alloc ?_ (by (try simp) <;> omega) _) | (refine Below.setCell ?_ (by (try simp) <;> omega) _) | (refine Below.trans ?_ (Below.mono (by assumption) (by (try simp) <;> omega))))))
  have hB : Below wo.heap.size wo ((wo.alloc (.cells #[.int .i64 0, .int .i64 0, .int .i64 0, .int .i64 0, .int .i64 0] 25 (0, 0))).alloc (.cells #[.slice A L.length c, .int .i64 0, .int .u64 0] 84)) := by (repeat (first | exact Below.refl _ _ | refine Below.drew ?_ | refine below_drewN ?_ _ | (refine Below.alloc ?_ (by (try simp) <;> omega) _) | (refine Below.setCell ?_ (by (try simp) <;> omega) _) | (refine Below.trans ?_ (Below.mono (by assumption) (by (try simp) <;> omega)))))
  have kR := (Blk.new wo 25 #[.int .i64 0, .int .i64 0, .int .i64 0, .int .i64 0, .int .i64 0]).alloc (.cells #[.slice A L.length c, .int .i64 0, .int .u64 0] 84)
  have zE : (wo.alloc (.cells #[.int .i64 0, .int .i64 0, .int .i64 0, .int .i64 0, .int .i64 0] 25 (0, 0))).heap.size = wo.heap.size + 1 := by simp
  rw [zE] at hc
  go_enter Try.func92, Try.ntmps92
  go_upto_region 2 with fail
  generalize (wo.alloc (.cells #[.int .i64 0, .int .i64 0, .int .i64 0, .int .i64 0, .int .i64 0] 25 (0, 0))).alloc (.cells #[.slice A L.length c, .int .i64 0, .int .u64 0] 84) = w at *
  obtain ⟨q, hq⟩ : ∃ q, wo.heap.size = q := ⟨_, rfl⟩
  rw [hq] at hc hB kR
  have Hq := Lib.hid hq
  obtain ⟨g, hg⟩ : ∃ g, q + 1 = g := ⟨_, rfl⟩
  rw [hg] at hc
  have hqg : q < g := by omega
  have hne : q ≠ g := by omega
  have gg := hc.lt
  have qq : q < w.heap.size := by omega
  rw [hq]
  simp only [hg]
  clear hg hq hs zE
  go_wp2_with fail
  refine (among_any [1, 42, 99] A c L g (0) _ _ _ _ hI hl (by omega) (hc.next (by (repeat (first | exact Below.refl _ _ | refine Below.drew ?_ | refine below_drewN ?_ _ | (refine Below.alloc ?_ (by (try simp) <;> omega) _) | (refine Below.setCell ?_ (by (try simp) <;> omega) _) | (refine Below.trans ?_ (Below.mono (by assumption) (by (try simp) <;> omega))))))) (by rfl) (by omega) (by omega) (by first | exact Blk.new _ _ _ | exact Blk.new1 _ _ _ _) (by have := hc.lt; (try simp); omega)).mono ?_; rintro e w1 ⟨x1, rfl, hx1, hc1, hb1⟩
  have G1 : ButG g w w1 := ButG.refl.trans ((ButG.of (by (repeat (first | exact Below.refl _ _ | refine Below.drew ?_ | refine below_drewN ?_ _ | (refine Below.alloc ?_ (by (try simp) <;> omega) _) | (refine Below.setCell ?_ (by (try simp) <;> omega) _) | (refine Below.trans ?_ (Below.mono (by assumption) (by (try simp) <;> omega)))))) : ButG g w _).trans hb1)
  have m1 := mem_small hx1 (by decide)
  go_wp2_with fail
  refine (trip_any A c L g (0 + 2) x1 w1 hI hl (by omega) m1 hc1).mono ?_; rintro e w2 ⟨t, rfl, ht, hc2, hb2⟩
  have G2 := G1.trans hb2
  have k2 := kR.but G2 hne
  have ck := k2.cell
  have fk := k2.frozen
  have lk := k2.lt
  have HW := Lib.hid (below_box (hB.trans (G2.below (Nat.le_of_lt hqg) gg)) (.int .i64 t.1) (.int .i64 t.2.1) (.int .i64 t.2.2.1) (.int .i64 t.2.2.2.1) (.int .i64 t.2.2.2.2))
  clear hb1 hb2 G1 hc1
  go_wp2
  refine bodyPost_ret (v := tripV t.1 t.2.1 t.2.2.1 t.2.2.2.1 t.2.2.2.2) (by simp [results, Try.results92, go_sem, *] <;> rfl) rfl ?_
  exact ⟨_, rfl, ⟨t, rfl, ht⟩, by rw [Hq.out]; exact HW.out⟩

set_option maxRecDepth 20000 in
set_option maxHeartbeats 8000000 in
theorem DrawSectionTimes_any (A : Option Addr) (c : Nat) (L : List Int) (wo : World) (hI : ∀ x ∈ L, 0 ≤ x ∧ x ≤ 255) (hl : (L.length : Int) ≤ 65536) (hs : SlR fb 1 wo wo.heap.size A L) :
    Calls Try.prog 56 #[.slice A L.length c] wo (DrW IsTp wo) := by
  have kR := Blk.new wo 25 #[.int .i64 0, .int .i64 0, .int .i64 0, .int .i64 0, .int .i64 0]
  have hB : Below wo.heap.size wo (wo.alloc (.cells #[.int .i64 0, .int .i64 0, .int .i64 0, .int .i64 0, .int .i64 0] 25 (0, 0))) := by (repeat (first | exact Below.refl _ _ | refine Below.drew ?_ | refine below_drewN ?_ _ | (refine Below.alloc ?_ (by (try simp) <;> omega) _) | (refine Below.setCell ?_ (by (try simp) <;> omega) _) | (refine Below.trans ?_ (Below.mono (by assumption) (by (try simp) <;> omega)))))
  have hs1 := hs.alloc (.cells #[.int .i64 0, .int .i64 0, .int .i64 0, .int .i64 0, .int .i64 0] 25 (0, 0))
  go_enter Try.func56, Try.ntmps56
  go_upto_region 1 with fail
  generalize wo.alloc (.cells #[.int .i64 0, .int .i64 0, .int .i64 0, .int .i64 0, .int .i64 0] 25 (0, 0)) = w at *
  obtain ⟨q, hq⟩ : ∃ q, wo.heap.size = q := ⟨_, rfl⟩
  rw [hq] at kR hB
  have Hq := Lib.hid hq
  have zq : q < w.heap.size := kR.lt
  rw [hq]
  clear hq hs
  go_wp2_with fail
  refine (DrawIsTrip_any A c L w hI hl hs1).mono ?_; rintro e w2 ⟨v, rfl, ⟨t, rfl, ht⟩, hb2⟩
  have k2 := kR.below' hb2
  have ck := k2.cell
  have fk := k2.frozen
  have lk := k2.lt
  have HW := Lib.hid (below_box (hB.trans (hb2.mono (Nat.le_of_lt zq))) (.int .i64 t.1) (.int .i64 t.2.1) (.int .i64 t.2.2.1) (.int .i64 t.2.2.2.1) (.int .i64 t.2.2.2.2))
  clear hb2 hs1
  go_wp2
  refine bodyPost_ret (v := tripV t.1 t.2.1 t.2.2.1 t.2.2.2.1 t.2.2.2.2) (by simp [results, Try.results56, go_sem, *] <;> rfl) rfl ?_
  exact ⟨_, rfl, ⟨t, rfl, ht⟩, by rw [Hq.out]; exact HW.out⟩

set_option maxRecDepth 20000 in
set_option maxHeartbeats 8000000 in
theorem DrawFirstStart_any (A : Option Addr) (c : Nat) (L : List Int) (wo : World) (hI : ∀ x ∈ L, 0 ≤ x ∧ x ≤ 255) (hl : (L.length : Int) ≤ 65536) (hs : SlR fb 1 wo wo.heap.size A L) :
    Calls Try.prog 57 #[.slice A L.length c] wo (DrW IsTsT wo) := by
  have hc := cur_new (c := c) (W := (wo.alloc (.cells #[.int .i64 0, .int .i64 0, .int .i64 0, .int .i64 0, .int .i64 0] 25 (0, 0)))) hs (by (repeat (first | exact Below.refl _ _ | refine Below.drew ?_ | refine below_drewN ?_ _ | (refine Below.alloc ?_ (by (try simp) <;> omega) _) | (refine Below.setCell ?_ (by (try simp) <;> omega) _) | (refine Below.trans ?_ (Below.mono (by assumption) (by (try simp) <;> omega))))))
  have hB : Below wo.heap.size wo ((wo.alloc (.cells #[.int .i64 0, .int .i64 0, .int .i64 0, .int .i64 0, .int .i64 0] 25 (0, 0))).alloc (.cells #[.slice A L.length c, .int .i64 0, .int .u64 0] 84)) := by (repeat (first | exact Below.refl _ _ | refine Below.drew ?_ | refine below_drewN ?_ _ | (refine Below.alloc ?_ (by (try simp) <;> omega) _) | (refine Below.setCell ?_ (by (try simp) <;> omega) _) | (refine Below.trans ?_ (Below.mono (by assumption) (by (try simp) <;> omega)))))
  have kR := (Blk.new wo 25 #[.int .i64 0, .int .i64 0, .int .i64 0, .int .i64 0, .int .i64 0]).alloc (.cells #[.slice A L.length c, .int .i64 0, .int .u64 0] 84)
  have zE : (wo.alloc (.cells #[.int .i64 0, .int .i64 0, .int .i64 0, .int .i64 0, .int .i64 0] 25 (0, 0))).heap.size = wo.heap.size + 1 := by simp
  rw [zE] at hc
  go_enter Try.func57, Try.ntmps57
  go_upto_region 2 with fail
  generalize (wo.alloc (.cells #[.int .i64 0, .int .i64 0, .int .i64 0, .int .i64 0, .int .i64 0] 25 (0, 0))).alloc (.cells #[.slice A L.length c, .int .i64 0, .int .u64 0] 84) = w at *
  obtain ⟨q, hq⟩ : ∃ q, wo.heap.size = q := ⟨_, rfl⟩
  rw [hq] at hc hB kR
  have Hq := Lib.hid hq
  obtain ⟨g, hg⟩ : ∃ g, q + 1 = g := ⟨_, rfl⟩
  rw [hg] at hc
  have hqg : q < g := by omega
  have hne : q ≠ g := by omega
  have gg := hc.lt
  have qq : q < w.heap.size := by omega
  rw [hq]
  simp only [hg]
  clear hg hq hs zE
  go_wp2_with fail
  refine (trips_any A c L g 0 _ hI hl (by omega) hc).mono ?_; rintro e w1 ⟨A1, c1, M1, rfl, hM1, o1, hcap, hc1, hb1⟩
  have G1 := hb1
  have z1 := hb1.size
  go_wp2_with fail
  refine (among_any [50, 60, 70, 4] A c L g (200) _ _ _ _ hI hl (by omega) (hc1.next (by (repeat (first | exact Below.refl _ _ | refine Below.drew ?_ | refine below_drewN ?_ _ | (refine Below.alloc ?_ (by (try simp) <;> omega) _) | (refine Below.setCell ?_ (by (try simp) <;> omega) _) | (refine Below.trans ?_ (Below.mono (by assumption) (by (try simp) <;> omega))))))) (by rfl) (by omega) (by omega) (by first | exact Blk.new _ _ _ | exact Blk.new1 _ _ _ _) (by have := hc1.lt; (try simp); omega)).mono ?_; rintro e w2 ⟨x2, rfl, hx2, hc2, hb2⟩
  have G2 : ButG g w w2 := G1.trans ((ButG.of (by (repeat (first | exact Below.refl _ _ | refine Below.drew ?_ | refine below_drewN ?_ _ | (refine Below.alloc ?_ (by (try simp) <;> omega) _) | (refine Below.setCell ?_ (by (try simp) <;> omega) _) | (refine Below.trans ?_ (Below.mono (by assumption) (by (try simp) <;> omega)))))) : ButG g w1 _).trans hb2)
  have m2 := mem_small hx2 (by decide)
  go_wp2_with fail
  refine (trip_any A c L g (200 + 2) x2 w2 hI hl (by omega) m2 hc2).mono ?_; rintro e w3 ⟨t, rfl, ht, hc3, hb3⟩
  have G3 := G2.trans hb3
  have k2 := kR.but G3 hne
  have ck := k2.cell
  have fk := k2.frozen
  have lk := k2.lt
  have O1 := Lib.hid (own_box ((o1.next (by (repeat (first | exact Below.refl _ _ | refine Below.drew ?_ | refine below_drewN ?_ _ | (refine Below.alloc ?_ (by (try simp) <;> omega) _) | (refine Below.setCell ?_ (by (try simp) <;> omega) _) | (refine Below.trans ?_ (Below.mono (by assumption) (by (try simp) <;> omega))))))).but gg (hb2.trans hb3)) qq (.int .i64 t.1) (.int .i64 t.2.1) (.int .i64 t.2.2.1) (.int .i64 t.2.2.2.1) (.int .i64 t.2.2.2.2)).sl
  have HW := Lib.hid (below_box (hB.trans (G3.below (Nat.le_of_lt hqg) gg)) (.int .i64 t.1) (.int .i64 t.2.1) (.int .i64 t.2.2.1) (.int .i64 t.2.2.2.1) (.int .i64 t.2.2.2.2))
  have HM := Lib.hid hM1
  have HC := Lib.hid hcap
  clear hb1 hb2 hb3 G1 G2 hc1 hc2 o1 hM1 hcap
  go_wp2
  refine bodyPost_ret (v := .tuple #[.slice A1 M1.length c1, tripV t.1 t.2.1 t.2.2.1 t.2.2.2.1 t.2.2.2.2]) (by simp [results, Try.results57, go_sem, *] <;> rfl) rfl ?_
  exact ⟨_, rfl, ⟨A1, c1, M1, t, rfl, ⟨HM.out, O1.out, HC.out⟩, ht⟩, by rw [Hq.out]; exact HW.out⟩

set_option maxRecDepth 20000 in
set_option maxHeartbeats 8000000 in
theorem DrawAddTrip_any (A : Option Addr) (c : Nat) (L : List Int) (wo : World) (hI : ∀ x ∈ L, 0 ≤ x ∧ x ≤ 255) (hl : (L.length : Int) ≤ 65536) (hs : SlR fb 1 wo wo.heap.size A L) :
    Calls Try.prog 58 #[.slice A L.length c] wo (DrW IsTsT wo) := by
  have hc := cur_new (c := c) (W := (wo.alloc (.cells #[.int .i64 0, .int .i64 0, .int .i64 0, .int .i64 0, .int .i64 0] 25 (0, 0)))) hs (by (repeat (first | exact Below.refl _ _ | refine Below.drew ?_ | refine below_drewN ?_ _ | (refine Below.alloc ?_ (by (try simp) <;> omega) _) | (refine Below.setCell ?_ (by (try simp) <;> omega) _) | (refine Below.trans ?_ (Below.mono (by assumption) (by (try simp) <;> omega))))))
  have hB : Below wo.heap.size wo ((wo.alloc (.cells #[.int .i64 0, .int .i64 0, .int .i64 0, .int .i64 0, .int .i64 0] 25 (0, 0))).alloc (.cells #[.slice A L.length c, .int .i64 0, .int .u64 0] 84)) := by (repeat (first | exact Below.refl _ _ | refine Below.drew ?_ | refine below_drewN ?_ _ | (refine Below.alloc ?_ (by (try simp) <;> omega) _) | (refine Below.setCell ?_ (by (try simp) <;> omega) _) | (refine Below.trans ?_ (Below.mono (by assumption) (by (try simp) <;> omega)))))
  have kR := (Blk.new wo 25 #[.int .i64 0, .int .i64 0, .int .i64 0, .int .i64 0, .int .i64 0]).alloc (.cells #[.slice A L.length c, .int .i64 0, .int .u64 0] 84)
  have zE : (wo.alloc (.cells #[.int .i64 0, .int .i64 0, .int .i64 0, .int .i64 0, .int .i64 0] 25 (0, 0))).heap.size = wo.heap.size + 1 := by simp
  rw [zE] at hc
  go_enter Try.func58, Try.ntmps58
  go_upto_region 2 with fail
  generalize (wo.alloc (.cells #[.int .i64 0, .int .i64 0, .int .i64 0, .int .i64 0, .int .i64 0] 25 (0, 0))).alloc (.cells #[.slice A L.length c, .int .i64 0, .int .u64 0] 84) = w at *
  obtain ⟨q, hq⟩ : ∃ q, wo.heap.size = q := ⟨_, rfl⟩
  rw [hq] at hc hB kR
  have Hq := Lib.hid hq
  obtain ⟨g, hg⟩ : ∃ g, q + 1 = g := ⟨_, rfl⟩
  rw [hg] at hc
  have hqg : q < g := by omega
  have hne : q ≠ g := by omega
  have gg := hc.lt
  have qq : q < w.heap.size := by omega
  rw [hq]
  simp only [hg]
  clear hg hq hs zE
  go_wp2_with fail
  refine (trips_any A c L g 0 _ hI hl (by omega) hc).mono ?_; rintro e w1 ⟨A1, c1, M1, rfl, hM1, o1, hcap, hc1, hb1⟩
  have G1 := hb1
  have z1 := hb1.size
  go_wp2_with fail
  refine (among_any [4, 5, 7, 60] A c L g (200) _ _ _ _ hI hl (by omega) (hc1.next (by (repeat (first | exact Below.refl _ _ | refine Below.drew ?_ | refine below_drewN ?_ _ | (refine Below.alloc ?_ (by (try simp) <;> omega) _) | (refine Below.setCell ?_ (by (try simp) <;> omega) _) | (refine Below.trans ?_ (Below.mono (by assumption) (by (try simp) <;> omega))))))) (by rfl) (by omega) (by omega) (by first | exact Blk.new _ _ _ | exact Blk.new1 _ _ _ _) (by have := hc1.lt; (try simp); omega)).mono ?_; rintro e w2 ⟨x2, rfl, hx2, hc2, hb2⟩
  have G2 : ButG g w w2 := G1.trans ((ButG.of (by (repeat (first | exact Below.refl _ _ | refine Below.drew ?_ | refine below_drewN ?_ _ | (refine Below.alloc ?_ (by (try simp) <;> omega) _) | (refine Below.setCell ?_ (by (try simp) <;> omega) _) | (refine Below.trans ?_ (Below.mono (by assumption) (by (try simp) <;> omega)))))) : ButG g w1 _).trans hb2)
  have m2 := mem_small hx2 (by decide)
  go_wp2_with fail
  refine (trip_any A c L g (200 + 2) x2 w2 hI hl (by omega) m2 hc2).mono ?_; rintro e w3 ⟨t, rfl, ht, hc3, hb3⟩
  have G3 := G2.trans hb3
  have k2 := kR.but G3 hne
  have ck := k2.cell
  have fk := k2.frozen
  have lk := k2.lt
  have O1 := Lib.hid (own_box ((o1.next (by (repeat (first | exact Below.refl _ _ | refine Below.drew ?_ | refine below_drewN ?_ _ | (refine Below.alloc ?_ (by (try simp) <;> omega) _) | (refine Below.setCell ?_ (by (try simp) <;> omega) _) | (refine Below.trans ?_ (Below.mono (by assumption) (by (try simp) <;> omega))))))).but gg (hb2.trans hb3)) qq (.int .i64 t.1) (.int .i64 t.2.1) (.int .i64 t.2.2.1) (.int .i64 t.2.2.2.1) (.int .i64 t.2.2.2.2)).sl
  have HW := Lib.hid (below_box (hB.trans (G3.below (Nat.le_of_lt hqg) gg)) (.int .i64 t.1) (.int .i64 t.2.1) (.int .i64 t.2.2.1) (.int .i64 t.2.2.2.1) (.int .i64 t.2.2.2.2))
  have HM := Lib.hid hM1
  have HC := Lib.hid hcap
  clear hb1 hb2 hb3 G1 G2 hc1 hc2 o1 hM1 hcap
  go_wp2
  refine bodyPost_ret (v := .tuple #[.slice A1 M1.length c1, tripV t.1 t.2.1 t.2.2.1 t.2.2.2.1 t.2.2.2.2]) (by simp [results, Try.results58, go_sem, *] <;> rfl) rfl ?_
  exact ⟨_, rfl, ⟨A1, c1, M1, t, rfl, ⟨HM.out, O1.out, HC.out⟩, ht⟩, by rw [Hq.out]; exact HW.out⟩

set_option maxRecDepth 20000 in
set_option maxHeartbeats 8000000 in
theorem DrawOnTheWay_any (A : Option Addr) (c : Nat) (L : List Int) (wo : World) (hI : ∀ x ∈ L, 0 ≤ x ∧ x ≤ 255) (hl : (L.length : Int) ≤ 65536) (hs : SlR fb 1 wo wo.heap.size A L) :
    Calls Try.prog 59 #[.slice A L.length c] wo (DrW IsTsI wo) := by
  have hc := cur_new (c := c) (W := wo) hs (by (repeat (first | exact Below.refl _ _ | refine Below.drew ?_ | refine below_drewN ?_ _ | (refine Below.alloc ?_ (by (try simp) <;> omega) _) | (refine Below.setCell ?_ (by (try simp) <;> omega) _) | (refine Below.trans ?_ (Below.mono (by assumption) (by (try simp) <;> omega))))))
  have hB : Below wo.heap.size wo (wo.alloc (.cells #[.slice A L.length c, .int .i64 0, .int .u64 0] 84)) := by (repeat (first | exact Below.refl _ _ | refine Below.drew ?_ | refine below_drewN ?_ _ | (refine Below.alloc ?_ (by (try simp) <;> omega) _) | (refine Below.setCell ?_ (by (try simp) <;> omega) _) | (refine Below.trans ?_ (Below.mono (by assumption) (by (try simp) <;> omega)))))
  go_enter Try.func59, Try.ntmps59
  go_upto_region 2 with fail
  generalize wo.alloc (.cells #[.slice A L.length c, .int .i64 0, .int .u64 0] 84) = w at *
  obtain ⟨q, hq⟩ : ∃ q, wo.heap.size = q := ⟨_, rfl⟩
  rw [hq] at hc hB
  have Hq := Lib.hid hq
  obtain ⟨g, hg⟩ : ∃ g, q = g := ⟨_, rfl⟩
  rw [hg] at hc
  have hqg : q ≤ g := by omega
  have gg := hc.lt
  have qq : q < w.heap.size := by omega
  rw [hq]
  simp only [hg]
  clear hg hq hs
  go_wp2_with fail
  refine (trips_any A c L g 0 _ hI hl (by omega) hc).mono ?_; rintro e w1 ⟨A1, c1, M1, rfl, hM1, o1, hcap, hc1, hb1⟩
  have G1 := hb1
  have z1 := hb1.size
  have jb : Blk (w1.alloc (.cells #[.int .i64 0, .int .i64 480, .int .i64 483, .int .i64 484, .int .i64 500, .int .i64 1440, .int .i64 (-1), .int .i64 1441] 3)) w1.heap.size 3 ([0, 480, 483, 484, 500, 1440, -1, 1441].map (Value.int .i64)).toArray := lit_blk w1 [0, 480, 483, 484, 500, 1440, -1, 1441]
  have hbg : w1.heap.size ≠ g := by have := hc1.lt; omega
  go_wp2_with fail
  refine (pick_any A c L g (200) (24) _ hI hl (by omega) (by omega) (hc1.next (by (repeat (first | exact Below.refl _ _ | refine Below.drew ?_ | refine below_drewN ?_ _ | (refine Below.alloc ?_ (by (try simp) <;> omega) _) | (refine Below.setCell ?_ (by (try simp) <;> omega) _) | (refine Below.trans ?_ (Below.mono (by assumption) (by (try simp) <;> omega)))))))).mono ?_; rintro e w2 ⟨x2, rfl, hx2, hc2, hb2⟩
  have G2 : ButG g w w2 := G1.trans ((ButG.of (by (repeat (first | exact Below.refl _ _ | refine Below.drew ?_ | refine below_drewN ?_ _ | (refine Below.alloc ?_ (by (try simp) <;> omega) _) | (refine Below.setCell ?_ (by (try simp) <;> omega) _) | (refine Below.trans ?_ (Below.mono (by assumption) (by (try simp) <;> omega)))))) : ButG g w1 _).trans hb2)
  have o2 := (o1.next (w' := (w1.alloc (.cells #[.int .i64 0, .int .i64 480, .int .i64 483, .int .i64 484, .int .i64 500, .int .i64 1440, .int .i64 (-1), .int .i64 1441] 3))) (by (repeat (first | exact Below.refl _ _ | refine Below.drew ?_ | refine below_drewN ?_ _ | (refine Below.alloc ?_ (by (try simp) <;> omega) _) | (refine Below.setCell ?_ (by (try simp) <;> omega) _) | (refine Below.trans ?_ (Below.mono (by assumption) (by (try simp) <;> omega))))))).but gg hb2
  have jb2 := jb.but hb2 hbg
  obtain ⟨y0, y1⟩ := hx2
  have y2 : x2 < 24 := by omega
  obtain ⟨n2, hn2⟩ : ∃ n : Nat, x2.tdiv 11 = (n : Int) ∧ n ≤ 2 := ⟨(x2.tdiv 11).toNat, by rw [Int.tdiv_eq_ediv_of_nonneg y0]; omega, by rw [Int.tdiv_eq_ediv_of_nonneg y0]; omega⟩
  obtain ⟨hn2, hm2⟩ := hn2
  have hd2 : x2 / 11 = (n2 : Int) := by rw [← hn2, Int.tdiv_eq_ediv_of_nonneg y0]
  have hq2 : (6 + (n2 : Int)).toNat = 6 + n2 := by omega
  have HJ2 := Lib.hid jb2
  clear jb y1 hb2
  generalize hp2 : w1.heap.size = b2 at *
  clear hp2
  go_wp2_with fail
  refine (amongT_any [0, 480, 483, 484, 500, 1440, -1, 1441] A c L g (200 + 2) b2 (6 + n2) 8 _ hI hl (by omega) hc2 (by simp; omega) (by omega) (by omega) HJ2.out hbg).mono ?_; rintro e w3 ⟨x3, rfl, m3, hc3, hb3⟩
  have s3 : Small x3 := mem_small m3 (by decide)
  have G3 := G2.trans hb3
  have o3 := o2.but gg hb3
  clear hb3 o2 m3 hn2 hd2 y0 y2 hq2 HJ2 hbg jb2 hc2 G2
  have O1 := Lib.hid o3.sl
  have HW := Lib.hid (hB.trans (G3.below hqg gg))
  go_wp2
  refine bodyPost_ret (v := .tuple #[.slice A1 M1.length c1, .int .i64 x3]) (by simp [results, Try.results59, go_sem, *] <;> rfl) rfl ?_
  exact ⟨_, rfl, ⟨A1, c1, M1, x3, rfl, ⟨hM1, O1.out, hcap⟩, s3⟩, by rw [Hq.out]; exact HW.out⟩

set_option maxRecDepth 20000 in
set_option maxHeartbeats 8000000 in
theorem DrawLoadsTo_any (A : Option Addr) (c : Nat) (L : List Int) (wo : World) (hI : ∀ x ∈ L, 0 ≤ x ∧ x ≤ 255) (hl : (L.length : Int) ≤ 65536) (hs : SlR fb 1 wo wo.heap.size A L) :
    Calls Try.prog 54 #[.slice A L.length c] wo (DrW IsTsII wo) := by
  have hc := cur_new (c := c) (W := wo) hs (by (repeat (first | exact Below.refl _ _ | refine Below.drew ?_ | refine below_drewN ?_ _ | (refine Below.alloc ?_ (by (try simp) <;> omega) _) | (refine Below.setCell ?_ (by (try simp) <;> omega) _) | (refine Below.trans ?_ (Below.mono (by assumption) (by (try simp) <;> omega))))))
  have hB : Below wo.heap.size wo (wo.alloc (.cells #[.slice A L.length c, .int .i64 0, .int .u64 0] 84)) := by (repeat (first | exact Below.refl _ _ | refine Below.drew ?_ | refine below_drewN ?_ _ | (refine Below.alloc ?_ (by (try simp) <;> omega) _) | (refine Below.setCell ?_ (by (try simp) <;> omega) _) | (refine Below.trans ?_ (Below.mono (by assumption) (by (try simp) <;> omega)))))
  go_enter Try.func54, Try.ntmps54
  go_upto_region 2 with fail
  generalize wo.alloc (.cells #[.slice A L.length c, .int .i64 0, .int .u64 0] 84) = w at *
  obtain ⟨q, hq⟩ : ∃ q, wo.heap.size = q := ⟨_, rfl⟩
  rw [hq] at hc hB
  have Hq := Lib.hid hq
  obtain ⟨g, hg⟩ : ∃ g, q = g := ⟨_, rfl⟩
  rw [hg] at hc
  have hqg : q ≤ g := by omega
  have gg := hc.lt
  have qq : q < w.heap.size := by omega
  rw [hq]
  simp only [hg]
  clear hg hq hs
  go_wp2_with fail
  refine (trips_any A c L g 0 _ hI hl (by omega) hc).mono ?_; rintro e w1 ⟨A1, c1, M1, rfl, hM1, o1, hcap, hc1, hb1⟩
  have G1 := hb1
  have z1 := hb1.size
  have jb : Blk (w1.alloc (.cells #[.int .i64 1, .int .i64 3, .int .i64 5, .int .i64 8, .int .i64 9, .int .i64 (-1), .int .i64 10] 3)) w1.heap.size 3 ([1, 3, 5, 8, 9, -1, 10].map (Value.int .i64)).toArray := lit_blk w1 [1, 3, 5, 8, 9, -1, 10]
  have hbg : w1.heap.size ≠ g := by have := hc1.lt; omega
  go_wp2_with fail
  refine (pick_any A c L g (200) (24) _ hI hl (by omega) (by omega) (hc1.next (by (repeat (first | exact Below.refl _ _ | refine Below.drew ?_ | refine below_drewN ?_ _ | (refine Below.alloc ?_ (by (try simp) <;> omega) _) | (refine Below.setCell ?_ (by (try simp) <;> omega) _) | (refine Below.trans ?_ (Below.mono (by assumption) (by (try simp) <;> omega)))))))).mono ?_; rintro e w2 ⟨x2, rfl, hx2, hc2, hb2⟩
  have G2 : ButG g w w2 := G1.trans ((ButG.of (by (repeat (first | exact Below.refl _ _ | refine Below.drew ?_ | refine below_drewN ?_ _ | (refine Below.alloc ?_ (by (try simp) <;> omega) _) | (refine Below.setCell ?_ (by (try simp) <;> omega) _) | (refine Below.trans ?_ (Below.mono (by assumption) (by (try simp) <;> omega)))))) : ButG g w1 _).trans hb2)
  have o2 := (o1.next (w' := (w1.alloc (.cells #[.int .i64 1, .int .i64 3, .int .i64 5, .int .i64 8, .int .i64 9, .int .i64 (-1), .int .i64 10] 3))) (by (repeat (first | exact Below.refl _ _ | refine Below.drew ?_ | refine below_drewN ?_ _ | (refine Below.alloc ?_ (by (try simp) <;> omega) _) | (refine Below.setCell ?_ (by (try simp) <;> omega) _) | (refine Below.trans ?_ (Below.mono (by assumption) (by (try simp) <;> omega))))))).but gg hb2
  have jb2 := jb.but hb2 hbg
  obtain ⟨y0, y1⟩ := hx2
  have y2 : x2 < 24 := by omega
  obtain ⟨n2, hn2⟩ : ∃ n : Nat, x2.tdiv 11 = (n : Int) ∧ n ≤ 2 := ⟨(x2.tdiv 11).toNat, by rw [Int.tdiv_eq_ediv_of_nonneg y0]; omega, by rw [Int.tdiv_eq_ediv_of_nonneg y0]; omega⟩
  obtain ⟨hn2, hm2⟩ := hn2
  have hd2 : x2 / 11 = (n2 : Int) := by rw [← hn2, Int.tdiv_eq_ediv_of_nonneg y0]
  have hq2 : (5 + (n2 : Int)).toNat = 5 + n2 := by omega
  have HJ2 := Lib.hid jb2
  clear jb y1 hb2
  generalize hp2 : w1.heap.size = b2 at *
  clear hp2
  go_wp2_with fail
  refine (amongT_any [1, 3, 5, 8, 9, -1, 10] A c L g (200 + 2) b2 (5 + n2) 7 _ hI hl (by omega) hc2 (by simp; omega) (by omega) (by omega) HJ2.out hbg).mono ?_; rintro e w3 ⟨x3, rfl, m3, hc3, hb3⟩
  have s3 : Small x3 := mem_small m3 (by decide)
  have G3 := G2.trans hb3
  have o3 := o2.but gg hb3
  clear hb3 o2 m3 hn2 hd2 y0 y2 hq2 HJ2 hbg jb2 hc2 G2
  have jb : Blk (w3.alloc (.cells #[.int .i64 0, .int .i64 488, .int .i64 500, .int .i64 532, .int .i64 1440, .int .i64 (-1), .int .i64 1441] 3)) w3.heap.size 3 ([0, 488, 500, 532, 1440, -1, 1441].map (Value.int .i64)).toArray := lit_blk w3 [0, 488, 500, 532, 1440, -1, 1441]
  have hbg : w3.heap.size ≠ g := by have := hc3.lt; omega
  go_wp2_with fail
  refine (pick_any A c L g (200 + 2 + 2) (24) _ hI hl (by omega) (by omega) (hc3.next (by (repeat (first | exact Below.refl _ _ | refine Below.drew ?_ | refine below_drewN ?_ _ | (refine Below.alloc ?_ (by (try simp) <;> omega) _) | (refine Below.setCell ?_ (by (try simp) <;> omega) _) | (refine Below.trans ?_ (Below.mono (by assumption) (by (try simp) <;> omega)))))))).mono ?_; rintro e w4 ⟨x4, rfl, hx4, hc4, hb4⟩
  have G4 : ButG g w w4 := G3.trans ((ButG.of (by (repeat (first | exact Below.refl _ _ | refine Below.drew ?_ | refine below_drewN ?_ _ | (refine Below.alloc ?_ (by (try simp) <;> omega) _) | (refine Below.setCell ?_ (by (try simp) <;> omega) _) | (refine Below.trans ?_ (Below.mono (by assumption) (by (try simp) <;> omega)))))) : ButG g w3 _).trans hb4)
  have o4 := (o3.next (w' := (w3.alloc (.cells #[.int .i64 0, .int .i64 488, .int .i64 500, .int .i64 532, .int .i64 1440, .int .i64 (-1), .int .i64 1441] 3))) (by (repeat (first | exact Below.refl _ _ | refine Below.drew ?_ | refine below_drewN ?_ _ | (refine Below.alloc ?_ (by (try simp) <;> omega) _) | (refine Below.setCell ?_ (by (try simp) <;> omega) _) | (refine Below.trans ?_ (Below.mono (by assumption) (by (try simp) <;> omega))))))).but gg hb4
  have jb4 := jb.but hb4 hbg
  obtain ⟨y0, y1⟩ := hx4
  have y2 : x4 < 24 := by omega
  obtain ⟨n4, hn4⟩ : ∃ n : Nat, x4.tdiv 11 = (n : Int) ∧ n ≤ 2 := ⟨(x4.tdiv 11).toNat, by rw [Int.tdiv_eq_ediv_of_nonneg y0]; omega, by rw [Int.tdiv_eq_ediv_of_nonneg y0]; omega⟩
  obtain ⟨hn4, hm4⟩ := hn4
  have hd4 : x4 / 11 = (n4 : Int) := by rw [← hn4, Int.tdiv_eq_ediv_of_nonneg y0]
  have hq4 : (5 + (n4 : Int)).toNat = 5 + n4 := by omega
  have HJ4 := Lib.hid jb4
  clear jb y1 hb4
  generalize hp4 : w3.heap.size = b4 at *
  clear hp4
  go_wp2_with fail
  refine (amongT_any [0, 488, 500, 532, 1440, -1, 1441] A c L g (200 + 2 + 2 + 2) b4 (5 + n4) 7 _ hI hl (by omega) hc4 (by simp; omega) (by omega) (by omega) HJ4.out hbg).mono ?_; rintro e w5 ⟨x5, rfl, m5, hc5, hb5⟩
  have s5 : Small x5 := mem_small m5 (by decide)
  have G5 := G4.trans hb5
  have o5 := o4.but gg hb5
  clear hb5 o4 m5 hn4 hd4 y0 y2 hq4 HJ4 hbg jb4 hc4 G4
  have O1 := Lib.hid o5.sl
  have HW := Lib.hid (hB.trans (G5.below hqg gg))
  go_wp2
  refine bodyPost_ret (v := .tuple #[.slice A1 M1.length c1, .int .i64 x3, .int .i64 x5]) (by simp [results, Try.results54, go_sem, *] <;> rfl) rfl ?_
  exact ⟨_, rfl, ⟨A1, c1, M1, x3, x5, rfl, ⟨hM1, O1.out, hcap⟩, s3, s5⟩, by rw [Hq.out]; exact HW.out⟩

set_option maxRecDepth 20000 in
set_option maxHeartbeats 8000000 in
theorem DrawLongestQuiet_any (A : Option Addr) (c : Nat) (L : List Int) (wo : World) (hI : ∀ x ∈ L, 0 ≤ x ∧ x ≤ 255) (hl : (L.length : Int) ≤ 65536) (hs : SlR fb 1 wo wo.heap.size A L) :
    Calls Try.prog 55 #[.slice A L.length c] wo (DrW IsTsI wo) := by
  have hc := cur_new (c := c) (W := wo) hs (by (repeat (first | exact Below.refl _ _ | refine Below.drew ?_ | refine below_drewN ?_ _ | (refine Below.alloc ?_ (by (try simp) <;> omega) _) | (refine Below.setCell ?_ (by (try simp) <;> omega) _) | (refine Below.trans ?_ (Below.mono (by assumption) (by (try simp) <;> omega))))))
  have hB : Below wo.heap.size wo (wo.alloc (.cells #[.slice A L.length c, .int .i64 0, .int .u64 0] 84)) := by (repeat (first | exact Below.refl _ _ | refine Below.drew ?_ | refine below_drewN ?_ _ | (refine Below.alloc ?_ (by (try simp) <;> omega) _) | (refine Below.setCell ?_ (by (try simp) <;> omega) _) | (refine Below.trans ?_ (Below.mono (by assumption) (by (try simp) <;> omega)))))
  go_enter Try.func55, Try.ntmps55
  go_upto_region 2 with fail
  generalize wo.alloc (.cells #[.slice A L.length c, .int .i64 0, .int .u64 0] 84) = w at *
  obtain ⟨q, hq⟩ : ∃ q, wo.heap.size = q := ⟨_, rfl⟩
  rw [hq] at hc hB
  have Hq := Lib.hid hq
  obtain ⟨g, hg⟩ : ∃ g, q = g := ⟨_, rfl⟩
  rw [hg] at hc
  have hqg : q ≤ g := by omega
  have gg := hc.lt
  have qq : q < w.heap.size := by omega
  rw [hq]
  simp only [hg]
  clear hg hq hs
  go_wp2_with fail
  refine (trips_any A c L g 0 _ hI hl (by omega) hc).mono ?_; rintro e w1 ⟨A1, c1, M1, rfl, hM1, o1, hcap, hc1, hb1⟩
  have G1 := hb1
  have z1 := hb1.size
  have jb : Blk (w1.alloc (.cells #[.int .i64 0, .int .i64 0, .int .i64 1, .int .i64 2, .int .i64 4, .int .i64 8, .int .i64 (-1), .int .i64 9] 3)) w1.heap.size 3 ([0, 0, 1, 2, 4, 8, -1, 9].map (Value.int .i64)).toArray := lit_blk w1 [0, 0, 1, 2, 4, 8, -1, 9]
  have hbg : w1.heap.size ≠ g := by have := hc1.lt; omega
  go_wp2_with fail
  refine (pick_any A c L g (200) (24) _ hI hl (by omega) (by omega) (hc1.next (by (repeat (first | exact Below.refl _ _ | refine Below.drew ?_ | refine below_drewN ?_ _ | (refine Below.alloc ?_ (by (try simp) <;> omega) _) | (refine Below.setCell ?_ (by (try simp) <;> omega) _) | (refine Below.trans ?_ (Below.mono (by assumption) (by (try simp) <;> omega)))))))).mono ?_; rintro e w2 ⟨x2, rfl, hx2, hc2, hb2⟩
  have G2 : ButG g w w2 := G1.trans ((ButG.of (by (repeat (first | exact Below.refl _ _ | refine Below.drew ?_ | refine below_drewN ?_ _ | (refine Below.alloc ?_ (by (try simp) <;> omega) _) | (refine Below.setCell ?_ (by (try simp) <;> omega) _) | (refine Below.trans ?_ (Below.mono (by assumption) (by (try simp) <;> omega)))))) : ButG g w1 _).trans hb2)
  have o2 := (o1.next (w' := (w1.alloc (.cells #[.int .i64 0, .int .i64 0, .int .i64 1, .int .i64 2, .int .i64 4, .int .i64 8, .int .i64 (-1), .int .i64 9] 3))) (by (repeat (first | exact Below.refl _ _ | refine Below.drew ?_ | refine below_drewN ?_ _ | (refine Below.alloc ?_ (by (try simp) <;> omega) _) | (refine Below.setCell ?_ (by (try simp) <;> omega) _) | (refine Below.trans ?_ (Below.mono (by assumption) (by (try simp) <;> omega))))))).but gg hb2
  have jb2 := jb.but hb2 hbg
  obtain ⟨y0, y1⟩ := hx2
  have y2 : x2 < 24 := by omega
  obtain ⟨n2, hn2⟩ : ∃ n : Nat, x2.tdiv 11 = (n : Int) ∧ n ≤ 2 := ⟨(x2.tdiv 11).toNat, by rw [Int.tdiv_eq_ediv_of_nonneg y0]; omega, by rw [Int.tdiv_eq_ediv_of_nonneg y0]; omega⟩
  obtain ⟨hn2, hm2⟩ := hn2
  have hd2 : x2 / 11 = (n2 : Int) := by rw [← hn2, Int.tdiv_eq_ediv_of_nonneg y0]
  have hq2 : (6 + (n2 : Int)).toNat = 6 + n2 := by omega
  have HJ2 := Lib.hid jb2
  clear jb y1 hb2
  generalize hp2 : w1.heap.size = b2 at *
  clear hp2
  go_wp2_with fail
  refine (amongT_any [0, 0, 1, 2, 4, 8, -1, 9] A c L g (200 + 2) b2 (6 + n2) 8 _ hI hl (by omega) hc2 (by simp; omega) (by omega) (by omega) HJ2.out hbg).mono ?_; rintro e w3 ⟨x3, rfl, m3, hc3, hb3⟩
  have s3 : Small x3 := mem_small m3 (by decide)
  have G3 := G2.trans hb3
  have o3 := o2.but gg hb3
  clear hb3 o2 m3 hn2 hd2 y0 y2 hq2 HJ2 hbg jb2 hc2 G2
  have O1 := Lib.hid o3.sl
  have HW := Lib.hid (hB.trans (G3.below hqg gg))
  go_wp2
  refine bodyPost_ret (v := .tuple #[.slice A1 M1.length c1, .int .i64 x3]) (by simp [results, Try.results55, go_sem, *] <;> rfl) rfl ?_
  exact ⟨_, rfl, ⟨A1, c1, M1, x3, rfl, ⟨hM1, O1.out, hcap⟩, s3⟩, by rw [Hq.out]; exact HW.out⟩

end Go.Proofs.Ytfcmfadkkfkidaa
