/-
  DrawFractions, DrawJoinSamples, DrawSieveFor, DrawBrokenGrains.
-/
import Derived.Test.YtapfnelghmnajaaDoorDrawV2
import Derived.WalkKit
import Derived.WalkSpells
import Derived.WalkLawsBesides
import Derived.Lib.Hide
import Derived.Deep.QuietTactic
import Derived.BigQuiet
import Derived.StillTailTactics
namespace Go.Proofs.YtapfnelghmnajaaDoor
open Go.RowKit

/-- A set and a sample; two samples; a sample and an int. -/
def IsSetSm (v : Value) (w : World) : Prop := ∃ A c M A' c' M', v = .tuple #[.slice A M.length c, .agg #[.slice A' M'.length c']] ∧ (FewOk 6 M ∧ SlR f1 1 w w.heap.size A M) ∧ FewOk 22 M' ∧ SlR f1 1 w w.heap.size A' M'
def IsSmSm (v : Value) (w : World) : Prop := ∃ A c M A' c' M', v = .tuple #[.agg #[.slice A M.length c], .agg #[.slice A' M'.length c']] ∧ (FewOk 22 M ∧ SlR f1 1 w w.heap.size A M) ∧ FewOk 22 M' ∧ SlR f1 1 w w.heap.size A' M'
def IsSmI (v : Value) (w : World) : Prop := ∃ A c M x, v = .tuple #[.agg #[.slice A M.length c], .int .i64 x] ∧ (FewOk 22 M ∧ SlR f1 1 w w.heap.size A M) ∧ Small x
/-- A row of the call's own, and a box elsewhere that is turned. -/
theorem OwnR.farN {α : Type} {f : α → List Value} {m B q : Nat} {t : TypeId} {w : World} {A : Option Addr} {L : List α} (h : OwnR f m t w B A L) (hq : q < B) (o : Nat) (u : Value) : OwnR f m t (w.setCell ⟨q, o, none⟩ u) B A L := h.below_ (FarQ.set FarQ.refl) hq
def IntK (a b : Int) (v : Value) (_ : World) : Prop := ∃ x, v = .int .i64 x ∧ a ≤ x ∧ x ≤ b
theorem IntK.next {a b : Int} : ∀ (v : Value) (w w' : World), Below w.heap.size w w' → IntK a b v w → IntK a b v w' := fun _ _ _ _ h => h
/-- A literal of which the first few are taken. -/
def LitC (g : Nat) (M : List Int) (v : Value) (w : World) : Prop := ∃ (b n : Nat), v = .slice (some ⟨b, 0, none⟩) n M.length ∧ 1 ≤ n ∧ n ≤ M.length ∧ b ≠ g ∧ Blk w b 3 (M.map (Value.int .i64)).toArray
theorem LitC.next {g : Nat} {M : List Int} : ∀ (v : Value) (w w' : World), Below w.heap.size w w' → LitC g M v w → LitC g M v w' := fun v w w' hb h => by
  obtain ⟨b, n, h1, h2, h3, h4, h5⟩ := h
  exact ⟨b, n, h1, h2, h3, h4, h5.below' hb⟩
set_option maxHeartbeats 1000000 in
/-- One of the first m of the numbers M that a literal in block b holds. -/
theorem amongT_any (M : List Int) (A : Option Addr) (c : Nat) (L : List Int) (g n b m cp : Nat) (w : World) (hI : ∀ x ∈ L, 0 ≤ x ∧ x ≤ 255) (hl : (L.length : Int) ≤ 65536) (hn : n ≤ 900000) (hc : Cur A c L g n w)
    (hM : m ≤ M.length) (hm0 : 0 < m) (hm1 : m ≤ 1000) (hB : Blk w b 3 (M.map (Value.int .i64)).toArray) (hne : b ≠ g) :
    Calls Tryd.prog 55 #[.pointer (some ⟨g, 0, none⟩), .slice (some ⟨b, 0, none⟩) m cp] w (CurI A c L g (n + 2) w (· ∈ M)) := by
  have HM := Lib.hid hM
  clear hM
  go_enter Tryd.func55, Tryd.ntmps55
  go_wp2_with fail
  refine (pick_any A c L g n m w hI hl hn (by omega) hc).mono ?_; rintro e w1 ⟨x, rfl, ⟨hx0, hx1⟩, hc1, hb1⟩
  obtain ⟨j, rfl⟩ := Int.eq_ofNat_of_zero_le hx0
  have hj : j < m := by omega
  have q1 : (j : Int) < (m : Int) := by omega
  obtain ⟨y, hy⟩ : ∃ y, M[j]? = some y := ⟨M[j]'(by have := HM.out; omega), List.getElem?_eq_getElem _⟩
  have hcell : w1.cell? ⟨b, j, none⟩ = some (.int .i64 y) := by
    have := (hB.but hb1 hne).cell j
    simpa [hy] using this
  have HY := Lib.hid hy
  clear hy
  go_wp2
  go_ret
  exact ⟨y, rfl, List.mem_of_getElem? HY.out, hc1, hb1⟩

set_option maxRecDepth 20000 in
set_option maxHeartbeats 8000000 in
theorem DrawFractions_any (A : Option Addr) (c : Nat) (L : List Int) (wo : World) (hI : ∀ x ∈ L, 0 ≤ x ∧ x ≤ 255) (hl : (L.length : Int) ≤ 65536) (hs : SlR fb 1 wo wo.heap.size A L) :
    Calls Tryd.prog 52 #[.slice A L.length c] wo (DrW IsSetSm wo) := by
  have hc := cur_new (c := c) (W := (wo.alloc (.cells #[.slice none 0 0] 29 (0, 0)))) hs (by (repeat (first | exact Below.refl _ _ | refine Below.drew ?_ | refine below_drewN ?_ _ | (refine Below.alloc ?_ (by (try simp) <;> omega) _) | (refine Below.setCell ?_ (by (try simp) <;> omega) _) | (refine Below.trans ?_ (Below.mono (by assumption) (by (try simp) <;> omega))))))
  have hB : Below wo.heap.size wo ((wo.alloc (.cells #[.slice none 0 0] 29 (0, 0))).alloc (.cells #[.slice A L.length c, .int .i64 0, .int .u64 0] 59)) := by (repeat (first | exact Below.refl _ _ | refine Below.drew ?_ | refine below_drewN ?_ _ | (refine Below.alloc ?_ (by (try simp) <;> omega) _) | (refine Below.setCell ?_ (by (try simp) <;> omega) _) | (refine Below.trans ?_ (Below.mono (by assumption) (by (try simp) <;> omega)))))
  have kR := (Blk.new wo 29 #[.slice none 0 0]).alloc (.cells #[.slice A L.length c, .int .i64 0, .int .u64 0] 59)
  have zE : (wo.alloc (.cells #[.slice none 0 0] 29 (0, 0))).heap.size = wo.heap.size + 1 := by simp
  rw [zE] at hc
  go_enter Tryd.func52, Tryd.ntmps52
  go_upto_region 2 with fail
  generalize (wo.alloc (.cells #[.slice none 0 0] 29 (0, 0))).alloc (.cells #[.slice A L.length c, .int .i64 0, .int .u64 0] 59) = w at *
  obtain ⟨q, hq⟩ : ∃ q, wo.heap.size = q := ⟨_, rfl⟩
  rw [hq] at hc kR hB
  obtain ⟨g, hg⟩ : ∃ g, q + 1 = g := ⟨_, rfl⟩
  rw [hg] at hc
  have Hq := Lib.hid hq
  have hqg : q < g := by omega
  have hne : q ≠ g := by omega
  have gg := hc.lt
  have qq : q < w.heap.size := by omega
  rw [hq]
  simp only [hg]
  clear hg hq hs zE
  go_wp2_with fail
  refine (set14_any A c L g 0 _ hI hl (by omega) hc).mono ?_; rintro e w1 ⟨A1, c1, M1, rfl, hM1, o1, hc1, hb1⟩
  go_wp2_with fail
  refine (sample14_any A c L g 30 _ hI hl (by omega) hc1).mono ?_; rintro e w2 ⟨A2, c2, M2, rfl, hM2, o2, hc2, hb2⟩
  have z1 := hb1.size
  have z2 := hb2.size
  have G2 : ButG g w w2 := hb1.trans hb2
  have k2 := kR.but G2 hne
  have ck := k2.cell
  have fk := k2.frozen
  have lk := k2.lt
  have O1 := Lib.hid ((o1.but gg hb2).farN qq 0 (.slice A2 M2.length c2)).sl
  have O2 := Lib.hid (o2.farN (q := q) (by omega) 0 (.slice A2 M2.length c2)).sl
  have HW := Lib.hid ((hB.trans (G2.below (Nat.le_of_lt hqg) gg)).setCell (p := ⟨q, 0, none⟩) (Nat.le_refl _) (.slice A2 M2.length c2))
  have HM1 := Lib.hid hM1
  have HM2 := Lib.hid hM2
  clear o1 o2 hb1 hb2 hM1 hM2
  go_wp2
  refine bodyPost_ret (v := .tuple #[.slice A1 M1.length c1, .agg #[.slice A2 M2.length c2]]) (by simp [results, Tryd.results52, go_sem, *] <;> rfl) rfl ?_
  exact ⟨_, rfl, ⟨A1, c1, M1, A2, c2, M2, rfl, ⟨HM1.out, O1.out⟩, HM2.out, O2.out⟩, by rw [Hq.out]; exact HW.out⟩




end Go.Proofs.YtapfnelghmnajaaDoor
