/-
  MostWith: the reference.
-/
import Derived.Test.YtjpoaiiminofdaaMw3
import Derived.Test.YtjpoaiiminofdaaScalar
import Derived.Deep.DeepCutAuto
import Derived.WalkKit
import Derived.WalkSpells
import Derived.WalkLawsBesides
import Derived.Lib.Hide
import Derived.Deep.QuietTactic
import Derived.BigQuiet
import Derived.StillTailTactics
namespace Go.Proofs.Ytjpoaiiminofdaa
open Go.RowKit

theorem below_box3 {w : World} {B : Nat} (hB : B ≤ w.heap.size) (o : Obj) : Below B w (w.alloc o) := (Below.refl _ _).alloc hB _

set_option maxRecDepth 20000 in
set_option maxHeartbeats 16000000 in
theorem SMostWith_any (A : Option Addr) (c : Nat) (L : List B3) (q : Int) (w : World) (hr : SlR f3 3 w w.heap.size A L) (hm : (L.length : Int) ≤ 1048576) (hI : ∀ x ∈ L, InI3 x) :
    Calls Try.prog 24 #[.slice A L.length c, .int .i64 q] w fun e w' => e = .returned (.tuple #[.int .i64 (mwN L q), .bool (mwB L q)]) ∧ Below w.heap.size w w' := by
  have HI := Lib.hid hI; clear hI
  go_enter Try.func24, Try.ntmps24
  go_wp2_with fail
  refine (l15Good_any _ _ L _ (by exact hr) hm HI.out).mono ?_; rintro e w1 ⟨rfl, hb1⟩
  cases h1 : bitB L
  · have Hv := Lib.hid (mw_no (L := L) (q := q) (by simp [mwB, h1]))
    clear h1
    go_wp2
    go_ret2
    exact ⟨by rw [Hv.out.1, Hv.out.2]; rfl, hb1⟩
  have H1 := Lib.hid h1
  clear h1
  go_wp2_with fail
  refine (l1In_any _ _ _ _).mono ?_; rintro e w' ⟨rfl, rfl⟩
  cases h2 : inB q 0 1000
  · have Hv := Lib.hid (mw_no (L := L) (q := q) (by simp [mwB, h2]))
    clear h2
    go_wp2
    go_ret2
    exact ⟨by rw [Hv.out.1, Hv.out.2]; rfl, hb1⟩
  have Hv := Lib.hid (mw_yes H1.out h2)
  obtain ⟨hq0, hq1⟩ := inB_iff.1 h2
  have h8 : L.length ≤ 8 := by
    have h := H1.out
    simp only [bitB, Bool.and_eq_true, decide_eq_true_eq] at h; omega
  have h8i : (L.length : Int) ≤ 8 := by omega
  have h0i : (0 : Int) ≤ L.length := by omega
  have HBD := Lib.hid (mwK_bd ⟨hq0, hq1⟩ (ordM_ok H1.out))
  have HOK := Lib.hid (ordM_ok H1.out)
  have HOL := Lib.hid (ordM_len L L.length (Nat.le_refl _))
  have hr1 := hr.next hb1
  clear h2 hr
  go_wp2_with fail
  refine (l15Order_any _ _ L _ (by exact hr1) h8).mono ?_; rintro e w2 ⟨A2, c2, I, rfl, hIO, s2, hb2⟩
  have HIO := Lib.hid hIO
  have HIL := Lib.hid (show I.length = L.length by rw [hIO.1, HOL.out])
  have hIl : (I.length : Int) ≤ 8 := by have := HIL.out; omega
  have hI0 : (0 : Int) ≤ I.length := by omega
  have hb02 := hb1.trans (hb2.mono hb1.size)
  have hr2 := hr1.next hb2
  clear hIO hb1 hb2 hr1
  generalize ordM L L.length = O at *
  go_wp2
  go_loopw [7, 8, 9] (fun v7 v8 v9 wr => ∃ (r : Nat) (z : Int), v7 = .int .i64 (mwK O q r).1 ∧ v8 = .int .i64 (mwK O q r).2 ∧ v9 = .int .i64 z ∧ Hid (z = (L.length : Int) - 1 - r) ∧ r ≤ L.length ∧ (-1 ≤ z ∧ z ≤ 7) ∧ Below w2.heap.size w2 wr) (fun _ _ v9 _ => (intOf v9 + 1).toNat)
  case atStart => exact ⟨0, (I.length : Int) - 1, rfl, rfl, rfl, by show _ = _; have := HIL.out; omega, by omega, ⟨by omega, by omega⟩, Below.refl _ _⟩
  case round =>
    obtain ⟨r, z, rfl, rfl, rfl, hz, hrl, ⟨hz0, hz1⟩, hb⟩ := hrel
    have zr := hb.size
    by_cases hlt : r < L.length
    · have hzn : 0 ≤ z := by have := hz.out; omega
      have hjO : L.length - 1 - r < O.length := by have := HOL.out; omega
      have hbO : O[O.length - 1 - r]? = some (O[O.length - 1 - r]'(by have := HOL.out; omega)) := List.getElem?_eq_getElem _
      generalize O[O.length - 1 - r]'(by have := HOL.out; omega) = bb at hbO
      have HST := Lib.hid (mwK_succ (q := q) hbO)
      rw [HOL.out] at hbO
      obtain ⟨i, hi, hLi⟩ := HIO.out.2 _ bb hbO
      obtain ⟨⟨k0, k1⟩, b0, b1⟩ := HOK.out bb (List.mem_of_getElem? hbO)
      obtain ⟨g, off2, rfl, hgB, hCI⟩ := s2 (SlR.ne hi)
      obtain ⟨b, off, rfl, hB, hCL⟩ := hr2 (SlR.ne hLi)
      have cg := cells1 (hCI.below hb hgB) hi
      obtain ⟨c0, c1, c2'⟩ := cells3 (hCL.below hb hB) hLi
      have hil := (List.getElem?_eq_some_iff.1 hLi).1
      have hi0 : (0 : Int) ≤ (i : Int) := by omega
      have hi1 : (i : Int) < (L.length : Int) := by omega
      have htn : z.toNat = L.length - 1 - r := by have := hz.out; omega
      have hzI : z < (I.length : Int) := by have := hz.out; have := HIL.out; omega
      obtain ⟨⟨s10, s11⟩, s20, s21⟩ := HBD.out r
      obtain ⟨⟨t10, t11⟩, t20, t21⟩ := HBD.out (r + 1)
      have hr8 : (r : Int) ≤ 8 := by omega
      rw [HST.out] at t10 t11 t20 t21
      have HZ := hz
      have hrl2 : r + 1 ≤ L.length := hlt
      clear hCI hCL hi hLi hil hbO hjO hlt hz
      generalize hs1 : (mwK O q r).1 = s1 at *
      generalize hs2 : (mwK O q r).2 = s2v at *
      have hmk : mwK O q r = (s1, s2v) := by rw [← hs1, ← hs2]
      rw [hmk] at HST t10 t11 t20 t21
      have HMK := HST
      clear hs1 hs2 hmk HST
      unfold stepM at t10 t11 t20 t21 HMK
      simp only [] at t10 t11 t20 t21
      have hrc : ((r + 1 : Nat) : Int) = r + 1 := by omega
      rw [hrc] at t11 t21
      have hb3 := Lib.hid (hb.alloc zr (.cells #[.int .i64 bb.1, .int .i64 bb.2.1, .int .i64 bb.2.2] 40))
      have kb := Lib.hid (Blk.new wr 40 #[.int .i64 bb.1, .int .i64 bb.2.1, .int .i64 bb.2.2])
      clear hrc
      go_upto_region 8 with fail
      generalize wr.alloc (.cells #[.int .i64 bb.1, .int .i64 bb.2.1, .int .i64 bb.2.2] 40) = W3 at *
      generalize wr.heap.size = p3 at *
      have ck := kb.out.cell
      clear cg c0 c1 c2' hb
      by_cases hbq : bb.2.2 < q
      · rw [if_pos hbq] at t10 t11 t20 t21 HMK
        have hd0 : 0 ≤ s2v.tdiv (q - bb.2.2) := by rw [Int.tdiv_eq_ediv_of_nonneg s20]; exact Int.ediv_nonneg s20 (by omega)
        have hd1 : s2v.tdiv (q - bb.2.2) ≤ s2v := by rw [Int.tdiv_eq_ediv_of_nonneg s20]; exact Int.ediv_le_self _ s20
        have hdz : ¬ q - bb.2.2 = 0 := by omega
        have HM := HMK
        clear HMK
        go_wp2_with fail
        refine (l1Least_any _ _ _).mono ?_; rintro e w' ⟨rfl, rfl⟩
        generalize s2v.tdiv (q - bb.2.2) = dv at *
        have hn0 : 0 ≤ min bb.2.1 dv ∧ min bb.2.1 dv ≤ 10000 := by omega
        generalize min bb.2.1 dv = n at *
        have hp0 : -1000000000 ≤ n * (bb.2.2 - q) := by omega
        have hp1 : n * (bb.2.2 - q) ≤ 1000000000 := by omega
        obtain ⟨hn0, hn1⟩ := hn0
        go_wp2
        go_roundw
        case rel => exact ⟨r + 1, z - 1, by rw [HM.out], by rw [HM.out], by go_num, by show _ = _; have := HZ.out; omega, by omega, ⟨by omega, by omega⟩, hb3.out⟩
        case measure => simp only [intOf]; omega
      · rw [if_neg hbq] at t10 t11 t20 t21 HMK
        have hp0 : -1000000000 ≤ bb.2.1 * (bb.2.2 - q) := by omega
        have hp1 : bb.2.1 * (bb.2.2 - q) ≤ 1000000000 := by omega
        have HM := HMK
        clear HMK
        go_wp2
        go_roundw
        case rel => exact ⟨r + 1, z - 1, by rw [HM.out], by rw [HM.out], by go_num, by show _ = _; have := HZ.out; omega, by omega, ⟨by omega, by omega⟩, hb3.out⟩
        case measure => simp only [intOf]; omega
    · have hrL : r = L.length := by omega
      have hz2 : ¬ 0 ≤ z := by have := hz.out; omega
      have hbX := hb02.trans (hb.mono hb02.size)
      subst hrL
      clear hlt hz
      go_wp2
      go_ret2
      exact ⟨by rw [Hv.out.1, Hv.out.2]; rfl, hbX⟩
end Go.Proofs.Ytjpoaiiminofdaa
