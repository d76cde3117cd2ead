/-
  sampleOf; BrokenGrains of the program.
-/
import Derived.Test.YtapfnelghmnajaaSrt1
import Derived.WalkKit
import Derived.WalkSpells
import Derived.WalkLawsBesides
import Derived.Lib.Hide
import Derived.Deep.QuietTactic
import Derived.BigQuiet
import Derived.StillTailTactics
namespace Go.Proofs.Ytapfnelghmnajaa
open Go.RowKit

/-- A sample's sizes, if they are valid. -/
def okL (L : List Int) : List Int := if smpB (sortL L) then sortL L else []
theorem okL_no {L : List Int} (h : smpB (sortL L) = false) : okL L = [] := by simp [okL, h]
theorem okL_yes {L : List Int} (h : smpB (sortL L) = true) : okL L = sortL L := by simp [okL, h]
theorem okL_len (L : List Int) : (okL L).length ≤ 20 := by
  unfold okL
  split
  · rename_i h
    exact (smpB_len h).2
  · simp

set_option maxHeartbeats 2000000 in
theorem sampleOf_any (A : Option Addr) (c B : Nat) (L : List Int) (w : World) (hr : OwnR f1 1 3 w B A L) (hB : B ≤ w.heap.size) (hm : (L.length : Int) ≤ 1048576) :
    Calls Try.prog 73 #[.slice A L.length c] w fun e w' => ∃ A' c', e = .returned (.tuple #[.agg #[.slice A' (okL L).length c'], .bool (smpB (sortL L))]) ∧ OwnR f1 1 3 w' B A' (okL L) ∧ Below B w w' := by
  have hbE : Below w.heap.size w (w.alloc (.cells #[.slice none 0 0] 30 (0, 0))) := by (repeat (first | exact Below.refl _ _ | refine Below.drew ?_ | refine below_drewN ?_ _ | (refine Below.alloc ?_ (by (try simp) <;> omega) _) | (refine Below.setCell ?_ (by (try simp) <;> omega) _) | (refine Below.trans ?_ (Below.mono (by assumption) (by (try simp) <;> omega)))))
  have zE : (w.alloc (.cells #[.slice none 0 0] 30 (0, 0))).heap.size = w.heap.size + 1 := by simp
  have hrE := hr.next hbE
  have k0 := Lib.hid (Blk.new w 30 #[.slice none 0 0])
  have hA : L ≠ [] → ∀ a, A = some a → a.block < w.heap.size := fun hn a ha => by
    obtain ⟨g, hg, _, hR, _⟩ := hr hn
    rw [hg] at ha; cases ha
    exact hR.lt
  have HA := Lib.hid hA
  have HbE := Lib.hid (hbE.mono hB)
  have HlS := Lib.hid ((sortL_len L).symm)
  clear hA hbE
  cases h : smpB (sortL L)
  all_goals
    have Hok := Lib.hid (show okL L = if smpB (sortL L) then sortL L else [] from rfl)
    rw [h] at Hok
    go_enter Try.func73, Try.ntmps73
    go_wp2_with fail
    refine (sortI_any A c B L _ hrE hm).mono ?_; rintro e w1 ⟨rfl, o1, hb1, z1, hk1⟩
    have kB : Blk w1 w.heap.size 30 #[.slice none 0 0] := (hk1 w.heap.size (by omega) (fun hn a ha => by have := HA.out hn a ha; omega)).trans k0.out
    clear hk1
    have hnL : sortL L ≠ [] → L ≠ [] := fun hn e => hn (by rw [e]; simp [sortL])
    have HN := Lib.hid hnL
    clear hnL
    rw [zE] at z1
    have hlS := HlS.out
    clear HlS
    generalize sortL L = S at *
    rw [hlS]
    rw [hlS] at hm
    clear hlS
    have hb2 : Below w1.heap.size w1 (w1.alloc (.cells #[.slice A S.length c] 30 (0, 0))) := by (repeat (first | exact Below.refl _ _ | refine Below.drew ?_ | refine below_drewN ?_ _ | (refine Below.alloc ?_ (by (try simp) <;> omega) _) | (refine Below.setCell ?_ (by (try simp) <;> omega) _) | (refine Below.trans ?_ (Below.mono (by assumption) (by (try simp) <;> omega)))))
    have o2 := o1.next hb2
    have kC := kB.below' hb2
    have q2 : (w1.alloc (.cells #[.slice A S.length c] 30 (0, 0))).cell? ⟨w1.heap.size, 0, none⟩ = some (.slice A S.length c) := by simp
    have z2 : (w1.alloc (.cells #[.slice A S.length c] 30 (0, 0))).heap.size = w1.heap.size + 1 := by simp
    have hs2 := o2.sl
    have HBw := Lib.hid (HbE.out.trans (hb1.trans (hb2.mono (by omega))))
    clear hrE hr kB o1 hb1 HbE k0
    go_wp2_with fail
    generalize w1.alloc (.cells #[.slice A S.length c] 30 (0, 0)) = w2 at *
    refine (IsSample_any _ _ _ _ hs2 hm).mono ?_; rintro e w3 ⟨rfl, hb3⟩
    rw [h]
    have z3 := hb3.size
    have q3 := ((bblk hb3 (g := w1.heap.size) (by omega)).1 0).trans q2
    have kD := kC.below' hb3
    have b0 := kD.cell 0
    simp at b0
    have fb := kD.frozen
    have l3 : w.heap.size < w3.heap.size := by omega
    have l4 : w1.heap.size < w3.heap.size := by omega
    have o3 := Lib.hid (o2.next hb3)
    have HB3 := Lib.hid (HBw.out.trans (hb3.mono (by omega)))
    clear kC kD hs2 o2 hb2 hb3 q2
    go_wp2
  · refine bodyPost_ret (v := .tuple #[.agg #[.slice none 0 0], .bool false]) (by simp [results, Try.results73, go_sem, *] <;> rfl) rfl ?_
    exact ⟨none, 0, by rw [Hok.out]; rfl, by rw [Hok.out]; exact OwnR.nil, HB3.out.setCell (p := ⟨w.heap.size, 0, none⟩) hB _⟩
  · refine bodyPost_ret (v := .tuple #[.agg #[.slice A S.length c], .bool true]) (by simp [results, Try.results73, go_sem, *] <;> rfl) rfl ?_
    refine ⟨A, c, by rw [Hok.out]; rfl, ?_, HB3.out.setCell (p := ⟨w.heap.size, 0, none⟩) hB _⟩
    rw [Hok.out]
    intro hn
    obtain ⟨g, hgA, hgB, hR, hC⟩ := o3.out hn
    have hne : g ≠ w.heap.size := by have := HA.out (HN.out hn) _ hgA; simp at this; omega
    exact ⟨g, hgA, hgB, hR.set _ _, hC.far hne⟩

/-- The grains, those that are too great broken into two. -/
def brkL (L : List Int) (z : Int) : Nat → List Int
  | 0 => []
  | k + 1 => match L[k]? with
    | none => brkL L z k
    | some n => if n > z then brkL L z k ++ [(n + 1) / 2, n / 2] else brkL L z k ++ [n]
theorem brkL_two {L : List Int} {z n : Int} {k : Nat} (hx : L[k]? = some n) (h : n > z) : brkL L z (k + 1) = brkL L z k ++ [(n + 1) / 2, n / 2] := by rw [brkL, hx]; simp only [if_pos h]
theorem brkL_one {L : List Int} {z n : Int} {k : Nat} (hx : L[k]? = some n) (h : ¬ n > z) : brkL L z (k + 1) = brkL L z k ++ [n] := by rw [brkL, hx]; simp only [if_neg h]
theorem brkL_len (L : List Int) (z : Int) : ∀ k, (brkL L z k).length ≤ 2 * k
  | 0 => Nat.le_refl 0
  | k + 1 => by
    have ih := brkL_len L z k
    rw [brkL]
    split
    · omega
    · split <;> (rw [List.length_append]; simp; omega)
def brkB (L : List Int) (z : Int) : Bool := smpB L && inB z 1 500
def brkU (L : List Int) (z : Int) : Bool := brkB L z && smpB (sortL (brkL L z L.length))
def brkR (L : List Int) (z : Int) : List Int := if brkB L z then okL (brkL L z L.length) else []
theorem brkR_no {L : List Int} {z : Int} (h : brkB L z = false) : brkR L z = [] := by simp [brkR, h]
theorem brkR_yes {L : List Int} {z : Int} (h : brkB L z = true) : brkR L z = okL (brkL L z L.length) := by simp [brkR, h]
theorem brkR_len (L : List Int) (z : Int) : (brkR L z).length ≤ 20 := by
  unfold brkR
  split
  · exact okL_len _
  · simp
theorem Gath.snoc2 {t : TypeId} {w : World} {B : Nat} {v : Value} {L : List Int} {x y : Int} (h : w.ownsRow B t 1 v (L.length + 2) (L.flatMap f1 ++ [.int .i64 x, .int .i64 y])) : Gath f1 1 t w B v (L ++ [x, y]) := by
  unfold Gath
  rw [List.length_append, List.flatMap_append]
  simpa [f1] using h
theorem two_cells {w : World} {g : Nat} {x y : Int} (h : w.cell? ⟨g, 0, none⟩ = some (.int .i64 x)) (h' : w.cell? ⟨g, 1, none⟩ = some (.int .i64 y)) : ∀ j u, [Value.int .i64 x, Value.int .i64 y][j]? = some u → w.cell? ((⟨g, 0, none⟩ : Addr).add j) = some u := by
  intro j u hj
  rw [Go.WideShapes.add_plain]
  match j, hj with
  | 0, hj => rw [h]; simpa using hj
  | 1, hj => rw [h']; simpa using hj
theorem two_ok {x y : Int} : ∀ u ∈ [Value.int .i64 x, Value.int .i64 y], u.oneCell' = true := by
  intro u hu; simp at hu; rcases hu with rfl | rfl <;> rfl
theorem one_ok1 {x : Int} : ∀ u ∈ [Value.int .i64 x], u.oneCell' = true := by
  intro u hu; simp at hu; subst hu; rfl
theorem one_cell1 {w : World} {g : Nat} {x : Int} (h : w.cell? ⟨g, 0, none⟩ = some (.int .i64 x)) : ∀ j u, [Value.int .i64 x][j]? = some u → w.cell? ((⟨g, 0, none⟩ : Addr).add j) = some u := by
  intro j u hj
  rw [Go.WideShapes.add_plain]
  match j, hj with
  | 0, hj => rw [h]; simpa using hj

set_option maxRecDepth 4000 in
set_option maxHeartbeats 4000000 in
theorem BrokenGrains_any (A : Option Addr) (c : Nat) (L : List Int) (z : Int) (w : World) (hr : SlR f1 1 w w.heap.size A L) (hm : (L.length : Int) ≤ 1048576) :
    Calls Try.prog 43 #[.agg #[.slice A L.length c], .int .i64 z] w (NewSm2 3 w (brkR L z) (brkU L z)) := by
  obtain ⟨i0, hi, hz0, hz1, hz2⟩ := info_parts infoInt
  have hrE := (hr.alloc (.cells #[.slice A L.length c] 30 (0, 0))).alloc (.cells #[.slice none 0 0] 30 (0, 0))
  have HbE := Lib.hid (show Below w.heap.size w ((w.alloc (.cells #[.slice A L.length c] 30 (0, 0))).alloc (.cells #[.slice none 0 0] 30 (0, 0))) by (repeat (first | exact Below.refl _ _ | refine Below.drew ?_ | refine below_drewN ?_ _ | (refine Below.alloc ?_ (by (try simp) <;> omega) _) | (refine Below.setCell ?_ (by (try simp) <;> omega) _) | (refine Below.trans ?_ (Below.mono (by assumption) (by (try simp) <;> omega))))))
  have zE : ((w.alloc (.cells #[.slice A L.length c] 30 (0, 0))).alloc (.cells #[.slice none 0 0] 30 (0, 0))).heap.size = w.heap.size + 2 := by simp
  have kC : Hid (Blk ((w.alloc (.cells #[.slice A L.length c] 30 (0, 0))).alloc (.cells #[.slice none 0 0] 30 (0, 0))) (w.heap.size + 1) 30 #[.slice none 0 0]) := Lib.hid (by have := Blk.new (w.alloc (.cells #[.slice A L.length c] 30 (0, 0))) 30 #[.slice none 0 0]; simpa using this)
  have kS : ((w.alloc (.cells #[.slice A L.length c] 30 (0, 0))).alloc (.cells #[.slice none 0 0] 30 (0, 0))).cell? ⟨w.heap.size, 0, none⟩ = some (.slice A L.length c) := by simp
  cases h1 : smpB L
  · skip
    have Hb := Lib.hid (show brkB L z = false by simp [brkB, h1])
    have Hu := Lib.hid (show brkU L z = false by simp [brkU, brkB, h1])
    have Hl := Lib.hid (brkR_no Hb.out)
    go_enter Try.func43, Try.ntmps43
    go_wp2_with fail
    generalize ((w.alloc (.cells #[.slice A L.length c] 30 (0, 0))).alloc (.cells #[.slice none 0 0] 30 (0, 0))) = E at *
    refine (IsSample_any _ _ _ _ hrE hm).mono ?_; rintro e w1 ⟨rfl, hb1⟩
    have z1 := hb1.size
    rw [h1]
    have kD := kC.out.below' hb1
    have b0 := kD.cell 0
    simp at b0
    have fb := kD.frozen
    have l3 : w.heap.size + 1 < w1.heap.size := by omega
    clear kD
    go_wp2
    refine bodyPost_ret (v := .tuple #[.agg #[.slice none 0 0], .bool false]) (by simp [results, Try.results43, go_sem, *] <;> rfl) rfl ?_
    exact ⟨none, 0, by rw [Hu.out, Hl.out]; rfl, by rw [Hl.out]; exact OwnR.nil, (HbE.out.trans (hb1.mono (by omega))).setCell (p := ⟨w.heap.size + 1, 0, none⟩) (by show w.heap.size ≤ w.heap.size + 1; omega) _⟩
  cases h2 : inB z 1 500
  · skip
    have Hb := Lib.hid (show brkB L z = false by simp [brkB, h1, h2])
    have Hu := Lib.hid (show brkU L z = false by simp [brkU, brkB, h1, h2])
    have Hl := Lib.hid (brkR_no Hb.out)
    go_enter Try.func43, Try.ntmps43
    go_wp2_with fail
    generalize ((w.alloc (.cells #[.slice A L.length c] 30 (0, 0))).alloc (.cells #[.slice none 0 0] 30 (0, 0))) = E at *
    refine (IsSample_any _ _ _ _ hrE hm).mono ?_; rintro e w1 ⟨rfl, hb1⟩
    have z1 := hb1.size
    rw [h1]
    go_wp2_with fail
    refine (within_any _ _ _ _).mono ?_; rintro e w' ⟨rfl, rfl⟩
    rw [h2]
    have kD := kC.out.below' hb1
    have b0 := kD.cell 0
    simp at b0
    have fb := kD.frozen
    have l3 : w.heap.size + 1 < w1.heap.size := by omega
    clear kD
    go_wp2
    refine bodyPost_ret (v := .tuple #[.agg #[.slice none 0 0], .bool false]) (by simp [results, Try.results43, go_sem, *] <;> rfl) rfl ?_
    exact ⟨none, 0, by rw [Hu.out, Hl.out]; rfl, by rw [Hl.out]; exact OwnR.nil, (HbE.out.trans (hb1.mono (by omega))).setCell (p := ⟨w.heap.size + 1, 0, none⟩) (by show w.heap.size ≤ w.heap.size + 1; omega) _⟩
  have Hb := Lib.hid (show brkB L z = true by simp [brkB, h1, h2])
  have Hu := Lib.hid (show brkU L z = smpB (sortL (brkL L z L.length)) by simp [brkU, Hb.out])
  have Hl := Lib.hid (brkR_yes Hb.out)
  have Hg := Lib.hid (fun (k : Nat) (x : Int) (hx : L[k]? = some x) => smpB_one h1 hx)
  have hl20 := smpB_len h1
  have hz9 := inB_iff.1 h2
  go_enter Try.func43, Try.ntmps43
  go_wp2_with fail
  generalize ((w.alloc (.cells #[.slice A L.length c] 30 (0, 0))).alloc (.cells #[.slice none 0 0] 30 (0, 0))) = E at *
  refine (IsSample_any _ _ _ _ hrE hm).mono ?_; rintro e w1 ⟨rfl, hb1⟩
  have z1 := hb1.size
  rw [h1]
  go_wp2_with fail
  refine (within_any _ _ _ _).mono ?_; rintro e w' ⟨rfl, rfl⟩
  rw [h2]
  have k1 := ((bblk hb1 (g := w.heap.size) (by omega)).1 0).trans kS
  have l1 : w.heap.size < w1.heap.size := by omega
  have kS0 := Lib.hid kS
  clear h1 h2 kS hrE
  skip
  go_wp2
  go_loopw [21, 6] (fun i v wr => ∃ k : Nat, i = .int .i64 k ∧ k ≤ L.length ∧ Gath f1 1 3 wr (w.heap.size + 2) v (brkL L z k) ∧ Below (w.heap.size + 2) E wr) (fun i _ _ => (L.length - intOf i).toNat)
  case atStart => exact ⟨0, rfl, by omega, Gath.nil, hb1.mono (by omega)⟩
  case round =>
    obtain ⟨k, rfl, hk, hG, hb⟩ := hrel
    have zr := hb.size
    by_cases hlt : k < L.length
    · have hx : L[k]? = some L[k] := List.getElem?_eq_getElem hlt
      obtain ⟨b, off, rfl, hB, hcs⟩ := hr (SlR.ne hx)
      have hC := (hcs.below HbE.out hB).below hb (by omega)
      have c0 := cells1 hC hx
      have hBr : b < wr.heap.size := by omega
      have hk0 : (0 : Int) ≤ (k : Int) := by omega
      have hk1 : (k : Int) < (L.length : Int) := by omega
      have g0 := Hg.out k _ hx
      generalize L[k] = x at *
      have hl9 := brkL_len L z k
      clear hr hcs hlt Hg hC
      by_cases h5 : x > z
      · obtain ⟨q1, hq1⟩ : ∃ q, (x + 1) / 2 = q := ⟨_, rfl⟩
        obtain ⟨q2, hq2⟩ : ∃ q, x / 2 = q := ⟨_, rfl⟩
        have Hn := Lib.hid (show brkL L z (k + 1) = brkL L z k ++ [q1, q2] by rw [brkL_two hx h5, hq1, hq2])
        generalize brkL L z k = G at *
        have HG := Lib.hid hG
        clear hG hx
        go_wp2_with (at_builtin; refine wpList_append_own _ rfl _ _ 22 rfl (w.heap.size + 2) 3 i0 (.int .i64 0) 1 8 Try.underlying22 hi hz0 hz1 hz2 rfl (by decide) _ _ _ rfl (HG.out.alloc _) ⟨wr.heap.size, 0, none⟩ 2 2 [.int .i64 q1, .int .i64 q2] rfl rfl ?c1 ?c2 ?c3 ?c4 ?c5 ?c6)
        try (case c1 => exact two_cells (by simp) (by simp))
        case c2 => first | exact two_ok | rfl
        case c3 => unfold maxLen; omega
        case c4 => omega
        case c5 => first | omega | (simp; omega)
        case c6 =>
          intro v' w9 hown hgrow _
          have hG9 : Gath f1 1 3 w9 (w.heap.size + 2) v' (G ++ [q1, q2]) := Gath.snoc2 hown
          have hb9 : Below (w.heap.size + 2) E w9 := below_grown' (hb.alloc (by omega) _) hgrow (HG.out.alloc _) (Nat.le_refl _) (by simp; omega)
          have HG9 := Lib.hid hG9
          clear hown hG9 hgrow
          go_wp2
          go_roundw
          case rel => exact ⟨k + 1, by go_num, by omega, by rw [Hn.out]; exact HG9.out, hb9⟩
          case measure => simp only [intOf]; omega
      · have Hn := Lib.hid (brkL_one hx h5)
        generalize brkL L z k = G at *
        have HG := Lib.hid hG
        clear hG hx
        go_wp2_with (at_builtin; refine wpList_append_own _ rfl _ _ 22 rfl (w.heap.size + 2) 3 i0 (.int .i64 0) 1 8 Try.underlying22 hi hz0 hz1 hz2 rfl (by decide) _ _ _ rfl (HG.out.alloc _) ⟨wr.heap.size, 0, none⟩ 1 1 [.int .i64 x] rfl rfl ?c1 ?c2 ?c3 ?c4 ?c5 ?c6)
        try (case c1 => exact one_cell1 (by simp))
        case c2 => first | exact one_ok1 | rfl
        case c3 => unfold maxLen; omega
        case c4 => omega
        case c5 => first | omega | (simp; omega)
        case c6 =>
          intro v' w9 hown hgrow _
          have hG9 : Gath f1 1 3 w9 (w.heap.size + 2) v' (G ++ [x]) := Gath.snoc hown
          have hb9 : Below (w.heap.size + 2) E w9 := below_grown' (hb.alloc (by omega) _) hgrow (HG.out.alloc _) (Nat.le_refl _) (by simp; omega)
          have HG9 := Lib.hid hG9
          clear hown hG9 hgrow
          go_wp2
          go_roundw
          case rel => exact ⟨k + 1, by go_num, by omega, by rw [Hn.out]; exact HG9.out, hb9⟩
          case measure => simp only [intOf]; omega
    · obtain rfl : k = L.length := by omega
      have hl9 := brkL_len L z L.length
      obtain ⟨A1, c1, rfl, hO⟩ := Gath.own (f := f1) (m := 1) (fun _ => rfl) hG
      generalize brkL L z L.length = G at *
      have kD0 := Lib.hid (kC.out.below hb (by omega))
      clear hG
      go_wp2_with fail
      refine (sampleOf_any A1 c1 (w.heap.size + 2) G _ hO (by omega) (by omega)).mono ?_; rintro e w5 ⟨A5, c5, rfl, o5, hb5⟩
      have kD := kD0.out.below hb5 (by omega)
      have b0 := kD.cell 0
      simp at b0
      have fb := kD.frozen
      have z5 := hb5.size
      have l3 : w.heap.size + 1 < w5.heap.size := by omega
      have HO5 := Lib.hid o5
      have HB5 := Lib.hid (HbE.out.trans ((hb.mono (by omega)).trans (hb5.mono (by omega))))
      clear kD o5 hO hb5
      rw [← Hl.out]
      rw [← Hl.out] at HO5
      go_wp2
      refine bodyPost_ret (v := .tuple #[.agg #[.slice A5 (brkR L z).length c5], .bool (smpB (sortL G))]) (by simp [results, Try.results43, go_sem, *] <;> rfl) rfl ?_
      exact ⟨A5, c5, by rw [Hu.out], (HO5.out.farBelow (p := ⟨w.heap.size + 1, 0, none⟩) (by show w.heap.size + 1 < w.heap.size + 2; omega)).mono (by omega), HB5.out.setCell (p := ⟨w.heap.size + 1, 0, none⟩) (by show w.heap.size ≤ w.heap.size + 1; omega) _⟩
end Go.Proofs.Ytapfnelghmnajaa
