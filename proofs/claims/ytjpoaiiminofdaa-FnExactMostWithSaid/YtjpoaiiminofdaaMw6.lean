/-
  MostWith: the program.
-/
import Derived.Test.YtjpoaiiminofdaaMw5
namespace Go.Proofs.Ytjpoaiiminofdaa
open Go.RowKit

theorem blk_own {X Y : World} {row : Option Nat} {B : Nat} {cs : Array Value} {t : TypeId} {z : Nat × Nat} (h : X.heap[B]? = some (.cells cs t z)) (hg : X.grownBy Y row) (hr : ∀ r, row = some r → ∃ o : Obj, X.heap[r]? = some o ∧ o.isCells = false) : Y.heap[B]? = some (.cells cs t z) :=
  (hg.block B (Array.getElem?_eq_some_iff.1 h).1 (fun e => by obtain ⟨o, h1, h2⟩ := hr B e.symm; rw [h] at h1; cases h1; cases h2)).trans h
theorem early_ret {F : Fence} {n : Nat} {P : Program} {fn : Func} {R : Ending → World → Prop} {tmps : Array Value} {w : World} (v : Value) (h : (results fn tmps).run P w = .ok v w) (hR : R (.returned v) w) : bodyPostM F n P fn R .ret { tmps := tmps, defers := [] } w := ⟨v, h, hR⟩

section
attribute [local go_sem] Oper.semAt_some

set_option maxRecDepth 100000 in
set_option maxHeartbeats 16000000 in
theorem MostWith_any (A : Option Addr) (c : Nat) (L : List B3) (q : Int) (w : World) (hr : SlR f3 3 w w.heap.size A L) (hm : (L.length : Int) ≤ 1048576) (hI : ∀ x ∈ L, InI3 x) :
    Calls Try.prog 25 #[.slice A L.length c, .int .i64 q] w fun e w' => e = .returned (.tuple #[.int .i64 (mwN L q), .bool (mwB L q)]) ∧ Below w.heap.size w w' := by
  have HI := Lib.hid hI; clear hI
  have hb0 : Below w.heap.size w (w.alloc (.cells #[.int .i64 q] 3)) := below_box3 (Nat.le_refl _) _
  have hr0 := hr.next hb0
  have bq0 := Boxed.new w 3 (.int .i64 q)
  have C1 := Lib.hid (AreBitterns_any A c L _ hr0 hm HI.out)
  have z0 : w.heap.size + 1 = (w.alloc (.cells #[.int .i64 q] 3)).heap.size := by simp
  refine (callsIn_wide (n := 9)).1 ?_
  refine callsIn_of_wp_marks Try.func25 rfl trivial ?_ rfl
  simp only [Try.ntmps25, List.size_toArray, List.length_cons, List.length_nil, Nat.reduceAdd, Nat.reduceSub, Array.replicate_succ, Array.replicate_zero, List.push_toArray, List.append_toArray, List.nil_append, List.cons_append]
  gi_wp2_with fail
  refine ⟨trivial, (callsIn_wide.2 C1.out).mono ?_⟩; rintro e w1 ⟨rfl, hb1⟩
  have bq1 : Boxed w1 w.heap.size 3 (.int .i64 q) := (hb1.block _ (by simp)).trans bq0
  have hb01 : Below w.heap.size w w1 := hb0.trans (hb1.mono (by simp))
  have hr1 := hr0.next hb1
  clear C1 bq0 hb0 hr0 z0 hb1
  have cq1 := bq1.cell
  cases h1 : bitB L
  · have Hv := Lib.hid (mw_no (L := L) (q := q) (by simp [mwB, h1]))
    clear h1
    gi_wp2
    refine ⟨trivial, ?_⟩
    gi_wp2
    refine early_ret (fn := Try.f25) _ (results_tmp2 rfl _ _ _) ?_
    exact ⟨by rw [Hv.out.1, Hv.out.2]; rfl, hb01⟩
  have H1 := Lib.hid h1
  clear h1
  gi_wp2_with fail
  refine ⟨trivial, (callsIn_wide.2 (isBitter_any _ _)).mono ?_⟩; rintro e w' ⟨rfl, rfl⟩
  cases h2 : inB q 0 1000
  · have Hv := Lib.hid (mw_no (L := L) (q := q) (by simp [mwB, h2]))
    clear h2
    gi_wp2
    refine early_ret (fn := Try.f25) _ (results_tmp2 rfl _ _ _) ?_
    exact ⟨by rw [Hv.out.1, Hv.out.2]; rfl, hb01⟩
  have Hv := Lib.hid (mw_yes H1.out h2)
  obtain ⟨hq0, hq1⟩ := inB_iff.1 h2
  have h8 : L.length ≤ 8 := by
    have h := H1.out
    simp only [bitB, Bool.and_eq_true, decide_eq_true_eq] at h; omega
  have HOL := Lib.hid (ordM_len L L.length (Nat.le_refl _))
  have HOK := Lib.hid (ordM_ok H1.out)
  have hbX := hb01.trans (((below_box3 (Nat.le_refl w1.heap.size) (.cells #[.int .i64 0] 3)).trans (below_box3 (by simp) (.cells #[.int .i64 0] 3))).mono hb01.size)
  have hr2 : SlR f3 3 _ _ A L := (hr1.next (below_box3 (Nat.le_refl _) (.cells #[.int .i64 0] 3))).next (below_box3 (Nat.le_refl _) (.cells #[.int .i64 0] 3))
  have b1 := (Boxed.new w1 3 (.int .i64 0)).alloc (.cells #[.int .i64 0] 3)
  have b2 := Boxed.new (w1.alloc (.cells #[.int .i64 0] 3)) 3 (.int .i64 0)
  have bq := (bq1.alloc (.cells #[.int .i64 0] 3)).alloc (.cells #[.int .i64 0] 3)
  have C2 := Lib.hid (byBitter2_any A c L _ hr2 H1.out)
  have z2 : ((w1.alloc (.cells #[.int .i64 0] 3)).alloc (.cells #[.int .i64 0] 3)).heap.size = w1.heap.size + 2 := by simp
  have hw1 : w.heap.size < w1.heap.size := bq1.lt
  rw [World.size_alloc] at b2
  clear h2 hr hr1 bq1 hb01
  gi_wp2_with fail
  refine ⟨trivial, (callsIn_wide.2 C2.out).mono ?_⟩; rintro e w3 ⟨A', c', g, rfl, ⟨hg0, hg1⟩, hCs, hb3⟩
  have z3 := hb3.size
  rw [z2] at z3 hg0
  have hT3 : ∀ {B : Nat} {t : TypeId} {v : Value}, Boxed _ B t v → Boxed w3 B t v := fun h => (hb3.block _ h.lt).trans h
  have b1 := hT3 b1
  have b2 := hT3 b2
  have bq := hT3 bq
  have hbY := hbX.trans (hb3.mono hbX.size)
  clear C2 hbX hr2 hb3 hT3 z2
  gi_wp2_with fail
  refine ⟨trivial, (back_in Fence.wide _ trivial rfl _ _ _ _).mono ?_⟩; rintro e w' ⟨rfl, rfl⟩
  gi_wp2
  have b1 := b1.alloc (.cells #[.slice A' L.length c'] 25)
  have b2 := b2.alloc (.cells #[.slice A' L.length c'] 25)
  have bq := bq.alloc (.cells #[.slice A' L.length c'] 25)
  have bs := (Boxed.new w3 25 (.slice A' L.length c')).cell
  have hB0 : Below w.heap.size w (w3.alloc (.cells #[.slice A' L.length c'] 25)) := hbY.alloc hbY.size _
  have hsz : (w3.alloc (.cells #[.slice A' L.length c'] 25)).heap.size = w3.heap.size + 1 := by simp
  have hC' : ordM L L.length ≠ [] → A' = some ⟨g, 0, none⟩ ∧ Cells f3 3 (w3.alloc (.cells #[.slice A' L.length c'] 25)) g 0 (ordM L L.length) := fun h => by
    have hn : L ≠ [] := fun e => h (by subst e; rfl)
    obtain ⟨h1, h2, h3⟩ := hCs hn
    exact ⟨h1, h3.below (below_box3 (Nat.le_refl _) _) h2⟩
  rw [← HOL.out] at bs
  obtain ⟨W0, hW0⟩ : ∃ W0, w3.alloc (.cells #[.slice A' L.length c'] 25) = W0 := ⟨_, rfl⟩
  rw [HOL.out] at bs
  rw [hW0] at b1 b2 bq bs hB0 hsz hC' ⊢
  clear hW0 hCs hbY
  rw [← HOL.out] at bs
  have HOL8 : (ordM L L.length).length ≤ 8 := by rw [HOL.out]; exact h8
  have hw1' : w.heap.size < w1.heap.size := hw1
  have HQ : 0 ≤ q ∧ q ≤ 1000 := ⟨hq0, hq1⟩
  generalize hO : ordM L L.length = O at *
  clear hO
  refine wpIn_rangeFunc_ownH rfl (by omega) (gf := 49) (lb := #[.pointer (some ⟨w3.heap.size, 0, none⟩)]) rfl trivial (enters_of Try.func49 (by kernel_rfl) rfl)
    (back_stops Fence.wide _ trivial rfl (by omega) w3.heap.size g 0 c' A' O HOK.out HOL8 W0 (by omega) (by omega) bs hC') Two.trans (Two.keeps (by omega) (by omega)) (Below.refl _ _) (fun _ => rfl)
    (fun pre W => (((Boxed W w1.heap.size 3 (.int .i64 (foldW q pre).1) ∧ Boxed W (w1.heap.size + 1) 3 (.int .i64 (foldW q pre).2)) ∧ Boxed W w.heap.size 3 (.int .i64 q)) ∧ Below w.heap.size w W) ∧ W0.heap.size ≤ W.heap.size)
    (fun _ _ _ => False)
    (OwnFrom.and (OwnFrom.and (OwnFrom.and (OwnFrom.and (Own.from (boxed_own _ _ _) _) (Own.from (boxed_own _ _ _) _)) (Own.from (boxed_own _ _ _) _)) (ownFrom_below (Nat.le_refl _) (by omega))) (fun s W W' row hs hg hr => Nat.le_trans hs hg.size))
    (fun _ _ _ _ _ hs _ _ => hs)
    ⟨⟨⟨⟨b1, b2⟩, bq⟩, hB0⟩, Nat.le_refl _⟩
    (fun x a' W => ∃ Bx, W0.heap.size ≤ Bx ∧ W.heap[Bx]? = some (.cells #[.int .i64 x.1.2.1, .int .i64 x.1.2.2.1, .int .i64 x.1.2.2.2] 40 (0, 0)) ∧ a' = { tmps := #[.slice A L.length c, .int .i64 q, undef, .pointer (some ⟨w.heap.size, 0, none⟩), .int .i64 0, .bool false, .pointer (some ⟨w1.heap.size, 0, none⟩), .pointer (some ⟨w1.heap.size + 1, 0, none⟩), undef, .pointer (some ⟨Bx, 0, none⟩), undef, .slice A L.length c, .bool true, .bool false, .bool false, .int .i64 q, .bool true, .bool false, .bool false, .slice A L.length c, .slice A' L.length c', .func (.func 49) #[] #[.pointer (some ⟨w3.heap.size, 0, none⟩)], .int .i64 (x.1.1 : Int), .agg #[.int .i64 x.1.2.1, .int .i64 x.1.2.2.1, .int .i64 x.1.2.2.2], undef, undef, undef, undef, undef, undef, undef, undef, undef, undef, undef, undef, undef, undef, undef, undef, undef, undef, undef, undef, undef, undef, undef, undef, undef, undef], defers := [] })
    (fun x a' _ X Y row hs hg hr => by obtain ⟨Bx, h1, h2, h3⟩ := hs; exact ⟨Bx, h1, blk_own h2 hg (fun r e => (hr r e).2), h3⟩)
    ?assign ?body ?done ?stop
  case assign =>
    rintro l pre x W K ⟨⟨⟨⟨b1', b2'⟩, bq'⟩, hB'⟩, hs'⟩ hK
    gi_wp2
    exact hK _ _ ((KeepsOthers.alloc _ _).from _) (Two.alloc _ _ (by omega) (by omega)) ⟨⟨⟨⟨b1'.alloc _, b2'.alloc _⟩, bq'.alloc _⟩, hB'.alloc hB'.size _⟩, by simp; omega⟩ ⟨W.heap.size, hs', World.alloc_heap_new W _, rfl⟩
  case body =>
    rintro l pre x a' W hl ⟨r, hr⟩ ⟨⟨⟨⟨b1', b2'⟩, bq'⟩, hB'⟩, hs'⟩ ⟨Bx, hBx, bX, rfl⟩ hlt
    have HSN := Lib.hid (foldW_snoc q pre x)
    have HB' := Lib.hid hB'
    obtain ⟨⟨i, b0, k1, k2⟩, hok⟩ := x
    obtain ⟨⟨ok0, ok1⟩, ok2, ok3⟩ := hok
    dsimp only at ok0 ok1 ok2 ok3
    obtain ⟨⟨s10, s11⟩, s20, s21⟩ := foldW_bd HQ pre
    obtain ⟨⟨t10, t11⟩, t20, t21⟩ := stepM_bd (k := pre.length) (b := (b0, k1, k2)) HQ ⟨⟨ok0, ok1⟩, ok2, ok3⟩ (foldW_bd HQ pre).1 (foldW_bd HQ pre).2
    have hp8 : (pre.length : Int) < 8 := by omega
    have hpc : ((pre.length + 1 : Nat) : Int) = pre.length + 1 := by omega
    rw [hpc] at t11 t21
    have HB1 := Lib.hid b1'
    have HB2 := Lib.hid b2'
    have HBq := Lib.hid bq'
    have c1 := b1'.cell
    have e1 := b1'.frozen
    have c2 := b2'.cell
    have e2 := b2'.frozen
    have cq := bq'.cell
    have d1 : W.cell? ⟨Bx, 1, none⟩ = some (.int .i64 k1) := by simp [World.cell?, bX]
    have d2 : W.cell? ⟨Bx, 2, none⟩ = some (.int .i64 k2) := by simp [World.cell?, bX]
    have l1 := b1'.lt
    have l2 := b2'.lt
    dsimp only at HSN
    clear b1' b2' bq' hB' hpc bX HQ hr hC' bs b1 b2 bq hB0 cq1
    generalize hs1 : (foldW q pre).1 = s1 at *
    generalize hs2 : (foldW q pre).2 = s2v at *
    have hmk : foldW q pre = (s1, s2v) := by rw [← hs1, ← hs2]
    rw [hmk] at HSN t10 t11 t20 t21
    clear hs1 hs2 hmk
    have HM := HSN
    clear HSN
    unfold stepM at HM t10 t11 t20 t21
    simp only [] at t10 t11 t20 t21
    by_cases hbq : k2 < q
    · rw [if_pos hbq] at t10 t11 t20 t21 HM
      have hd0 : 0 ≤ s2v / (q - k2) := Int.ediv_nonneg s20 (by omega)
      have hd1 : s2v / (q - k2) ≤ s2v := Int.ediv_le_self _ s20
      rw [Int.tdiv_eq_ediv_of_nonneg s20] at t10 t11 t20 t21 HM
      have hdz : ¬ q - k2 = 0 := by omega
      have hn0 : 0 ≤ min k1 (s2v / (q - k2)) ∧ min k1 (s2v / (q - k2)) ≤ 10000 := by omega
      have hp0 : -1000000000 ≤ min k1 (s2v / (q - k2)) * (k2 - q) := by omega
      have hp1 : min k1 (s2v / (q - k2)) * (k2 - q) ≤ 1000000000 := by omega
      have hwq : wrap64 (q - k2) = q - k2 := IntWalk.wrap64_in _ (by omega)
      have hwd : wrap64 (s2v / (q - k2)) = s2v / (q - k2) := IntWalk.wrap64_in _ (by omega)
      have hwk : wrap64 (k2 - q) = k2 - q := IntWalk.wrap64_in _ (by omega)
      have hw3 : wrap64 (s1 + min k1 (s2v / (q - k2))) = s1 + min k1 (s2v / (q - k2)) := IntWalk.wrap64_in _ (by omega)
      have hw4 : wrap64 (min k1 (s2v / (q - k2)) * (k2 - q)) = min k1 (s2v / (q - k2)) * (k2 - q) := IntWalk.wrap64_in _ (by omega)
      have hw5 : wrap64 (s2v + min k1 (s2v / (q - k2)) * (k2 - q)) = s2v + min k1 (s2v / (q - k2)) * (k2 - q) := IntWalk.wrap64_in _ (by omega)
      have HM2 := HM
      clear HM hn0 hp0 hp1 hd0 hd1 t10 t11 t20 t21
      gi_wp2
      exact ⟨((KeepsOthers.setCell _ _ _).trans (KeepsOthers.setCell _ _ _)).from _, (Two.set _ _ _ (show w3.heap.size ≠ w1.heap.size by omega) (show g ≠ w1.heap.size by omega)).trans (Two.set _ _ _ (show w3.heap.size ≠ w1.heap.size + 1 by omega) (show g ≠ w1.heap.size + 1 by omega)),
        ⟨⟨⟨by rw [HM2.out]; exact (HB1.out.set _).other (by omega) _, by rw [HM2.out]; exact (HB2.out.other (by omega) _).set _⟩, (HBq.out.other (by omega) _).other (by omega) _⟩, (HB'.out.setCell (p := ⟨w1.heap.size, 0, none⟩) (show w.heap.size ≤ w1.heap.size by omega) _).setCell (p := ⟨w1.heap.size + 1, 0, none⟩) (show w.heap.size ≤ w1.heap.size + 1 by omega) _⟩, by simp; omega⟩
    · rw [if_neg hbq] at t10 t11 t20 t21 HM
      have hp0 : -1000000000 ≤ k1 * (k2 - q) := by omega
      have hp1 : k1 * (k2 - q) ≤ 1000000000 := by omega
      have hwk : wrap64 (k2 - q) = k2 - q := IntWalk.wrap64_in _ (by omega)
      have hw3 : wrap64 (s1 + k1) = s1 + k1 := IntWalk.wrap64_in _ (by omega)
      have hw4 : wrap64 (k1 * (k2 - q)) = k1 * (k2 - q) := IntWalk.wrap64_in _ (by omega)
      have hw5 : wrap64 (s2v + k1 * (k2 - q)) = s2v + k1 * (k2 - q) := IntWalk.wrap64_in _ (by omega)
      have HM2 := HM
      clear HM hp0 hp1 t10 t11 t20 t21
      gi_wp2
      exact ⟨((KeepsOthers.setCell _ _ _).trans (KeepsOthers.setCell _ _ _)).from _, (Two.set _ _ _ (show w3.heap.size ≠ w1.heap.size by omega) (show g ≠ w1.heap.size by omega)).trans (Two.set _ _ _ (show w3.heap.size ≠ w1.heap.size + 1 by omega) (show g ≠ w1.heap.size + 1 by omega)),
        ⟨⟨⟨by rw [HM2.out]; exact (HB1.out.set _).other (by omega) _, by rw [HM2.out]; exact (HB2.out.other (by omega) _).set _⟩, (HBq.out.other (by omega) _).other (by omega) _⟩, (HB'.out.setCell (p := ⟨w1.heap.size, 0, none⟩) (show w.heap.size ≤ w1.heap.size by omega) _).setCell (p := ⟨w1.heap.size + 1, 0, none⟩) (show w.heap.size ≤ w1.heap.size + 1 by omega) _⟩, by simp; omega⟩
  case done =>
    rintro D ys W hD rfl ⟨⟨⟨⟨b1', b2'⟩, bq'⟩, hB'⟩, hs'⟩ hK
    have hv := foldW_bwd O HOK.out q O.length (Nat.le_refl _)
    rw [hv] at b1'
    have c1' := b1'.cell
    have H9 := Lib.hid hB'
    clear hv b2' bq' hB'
    gi_wp2
    refine ⟨by simp, .inl ⟨_, _, rfl, run_takeDeferred hK, ?_⟩⟩
    exact ⟨_, results_tmp2 rfl _ _ _, by rw [Hv.out.1, Hv.out.2, ← HOL.out]; rfl, H9.out.trans (belowK_b (w := w) (Nat.le_refl _) W D _ _ (by omega) hK rfl rfl)⟩
  case stop =>
    rintro D c pre W _ _ h _
    exact h.elim
end
end Go.Proofs.Ytjpoaiiminofdaa
