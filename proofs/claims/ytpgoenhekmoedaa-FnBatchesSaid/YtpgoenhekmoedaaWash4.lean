/-
  Contracts: StagesNeeded and WaterNeeded of both.
-/
import Derived.Test.YtpgoenhekmoedaaWash3
namespace Go.Proofs.Ytpgoenhekmoedaa
open Go.RowKit

def snB (d wt water limit k : Int) : Bool := decide (water % k = 0) && decide (iterW d wt (water / k) k.toNat ≤ limit)
abbrev noneI : Value := .tuple #[.int .i64 0, .bool false]
def snC (a d wt water limit k : Int) : Bool := isBatch a d wt && inB water 1 100000000 && snB d wt water limit k
def snV (a d wt water limit : Int) : Value :=
  if 0 ≤ limit then (match ([1, 2, 3, 4, 5, 6] : List Int).find? (snC a d wt water limit) with | some k => .tuple #[.int .i64 k, .bool true] | none => noneI) else noneI

theorem six_cases {k : Int} (h1 : 1 ≤ k) (h2 : k ≤ 6) : k = 1 ∨ k = 2 ∨ k = 3 ∨ k = 4 ∨ k = 5 ∨ k = 6 := by omega
theorem find_some6 {p : Int → Bool} {k : Int} (h1 : 1 ≤ k) (h2 : k ≤ 6) (hlt : ∀ j, 1 ≤ j → j < k → p j = false) (hk : p k = true) : ([1, 2, 3, 4, 5, 6] : List Int).find? p = some k := by
  have a1 : 1 < k → p 1 = false := hlt 1 (by omega)
  have a2 : 2 < k → p 2 = false := hlt 2 (by omega)
  have a3 : 3 < k → p 3 = false := hlt 3 (by omega)
  have a4 : 4 < k → p 4 = false := hlt 4 (by omega)
  have a5 : 5 < k → p 5 = false := hlt 5 (by omega)
  rcases six_cases h1 h2 with rfl | rfl | rfl | rfl | rfl | rfl <;> simp_all
theorem find_none6 {p : Int → Bool} (hlt : ∀ j, 1 ≤ j → j < 7 → p j = false) : ([1, 2, 3, 4, 5, 6] : List Int).find? p = none := by
  simp [hlt 1 (by omega) (by omega), hlt 2 (by omega) (by omega), hlt 3 (by omega) (by omega), hlt 4 (by omega) (by omega), hlt 5 (by omega) (by omega), hlt 6 (by omega) (by omega)]
theorem snV_some {a d wt water limit k : Int} (h0 : 0 ≤ limit) (h1 : 1 ≤ k) (h2 : k ≤ 6) (hlt : ∀ j, 1 ≤ j → j < k → snC a d wt water limit j = false) (hk : snC a d wt water limit k = true) :
    snV a d wt water limit = .tuple #[.int .i64 k, .bool true] := by
  unfold snV; rw [if_pos h0, find_some6 h1 h2 hlt hk]
theorem snV_none {a d wt water limit : Int} (hlt : ∀ j, 1 ≤ j → j < 7 → snC a d wt water limit j = false) : snV a d wt water limit = noneI := by
  unfold snV; split
  · rw [find_none6 hlt]
  · rfl
theorem snHid_succ {p : Int → Bool} {n : Int} (h : Hid (∀ j, 1 ≤ j → j < n → p j = false)) (hn : p n = false) : Hid (∀ j, 1 ≤ j → j < n + 1 → p j = false) := by
  intro j h1 h2
  by_cases e : j = n
  · rw [e]; exact hn
  · exact h.out j h1 (by omega)

set_option maxHeartbeats 2000000 in
theorem StagesNeeded_any (a d wt water limit : Int) (w : World) :
    Calls Try.prog 31 #[.agg #[.int .i64 a, .int .i64 d, .int .i64 wt], .int .i64 water, .int .i64 limit] w fun e w' => e = .returned (snV a d wt water limit) ∧ Below w.heap.size w w' := by
  by_cases h0 : limit < 0
  · have Hv := Lib.hid (show snV a d wt water limit = noneI by unfold snV; rw [if_neg (by omega)])
    go_enter Try.func31, Try.ntmps31
    go_wp2
    go_ret2
    exact ⟨by rw [Hv.out]; rfl, by (repeat (first | exact Below.refl _ _ | refine Below.drew ?_ | refine below_drewN ?_ _ | (refine Below.alloc ?_ (by (try simp) <;> omega) _) | (refine Below.setCell ?_ (by (try simp) <;> omega) _) | (refine Below.trans ?_ (Below.mono (by assumption) (by (try simp) <;> omega)))))⟩
  have k1 := Blk.new w 25 #[.int .i64 a, .int .i64 d, .int .i64 wt]
  have hb0 : Below w.heap.size w (w.alloc (.cells #[.int .i64 a, .int .i64 d, .int .i64 wt] 25)) := by (repeat (first | exact Below.refl _ _ | refine Below.drew ?_ | refine below_drewN ?_ _ | (refine Below.alloc ?_ (by (try simp) <;> omega) _) | (refine Below.setCell ?_ (by (try simp) <;> omega) _) | (refine Below.trans ?_ (Below.mono (by assumption) (by (try simp) <;> omega)))))
  go_enter Try.func31, Try.ntmps31
  go_wp2
  generalize w.alloc (.cells #[.int .i64 a, .int .i64 d, .int .i64 wt] 25) = W at *
  generalize hg1 : w.heap.size = g1 at *
  have Hg1 := Lib.hid hg1; clear hg1
  go_loopw [8] (fun k wr => ∃ n : Int, k = .int .i64 n ∧ 1 ≤ n ∧ n ≤ 7 ∧ Hid (∀ j, 1 ≤ j → j < n → snC a d wt water limit j = false) ∧ Blk wr g1 25 #[.int .i64 a, .int .i64 d, .int .i64 wt] ∧ Below g1 w wr) (fun k _ => (7 - intOf k).toNat)
  case atStart => exact ⟨1, rfl, by omega, by omega, fun j h1 h2 => by omega, k1, hb0⟩
  case round =>
    obtain ⟨n, rfl, hn1, hn7, hp, r1, hb⟩ := hrel
    have c1 := r1.cell
    by_cases hlt : n ≤ 6
    · cases hc : (isBatch a d wt && inB water 1 100000000 && decide (water % n = 0))
      · have Hv := Lib.hid (show stagesV a d wt water n = noneS by unfold stagesV; rw [if_neg]; simp at hc ⊢; intro x1 x2 _ x4; exact hc x1 x2 x4)
        have hs : snC a d wt water limit n = false := by unfold snC snB; revert hc; cases isBatch a d wt <;> cases inB water 1 100000000 <;> cases decide (water % n = 0) <;> simp
        have Hp := snHid_succ hp hs
        clear hc hs hp
        go_wp2_with fail
        refine (AfterStages_any _ _ _ _ _ _).mono ?_; rintro e w1 ⟨he, hb1⟩; rw [Hv.out] at he; subst he
        go_wp2
        go_roundw
        case rel => exact ⟨n + 1, rfl, by omega, by omega, Hp, (r1.below' hb1).alloc _, by have := r1.lt; have := hb1.size; (repeat (first | exact Below.refl _ _ | refine Below.drew ?_ | refine below_drewN ?_ _ | (refine Below.alloc ?_ (by (try simp) <;> omega) _) | (refine Below.setCell ?_ (by (try simp) <;> omega) _) | (refine Below.trans ?_ (Below.mono (by assumption) (by (try simp) <;> omega)))))⟩
        case measure => simp only [intOf]; omega
      · have Hv := Lib.hid (show stagesV a d wt water n = .tuple #[.agg #[.int .i64 a, .int .i64 (iterW d wt (water / n) n.toNat), .int .i64 wt], .bool true] by unfold stagesV; rw [if_pos]; simp only [Bool.and_eq_true] at hc ⊢; exact ⟨⟨hc.1, inB_true ⟨hn1, hlt⟩⟩, hc.2⟩)
        have hs : snC a d wt water limit n = decide (iterW d wt (water / n) n.toNat ≤ limit) := by unfold snC snB; revert hc; cases isBatch a d wt <;> cases inB water 1 100000000 <;> cases decide (water % n = 0) <;> simp
        by_cases hle : iterW d wt (water / n) n.toNat ≤ limit
        · have Hr := Lib.hid (snV_some (by omega) hn1 hlt hp.out (by rw [hs]; simpa using hle))
          clear hc hs hp
          go_wp2_with fail
          refine (AfterStages_any _ _ _ _ _ _).mono ?_; rintro e w1 ⟨he, hb1⟩; rw [Hv.out] at he; subst he
          go_wp2
          go_ret2
          exact ⟨by rw [Hr.out]; rfl, by have := Hg1.out; have := r1.lt; have := hb1.size; (repeat (first | exact Below.refl _ _ | refine Below.drew ?_ | refine below_drewN ?_ _ | (refine Below.alloc ?_ (by (try simp) <;> omega) _) | (refine Below.setCell ?_ (by (try simp) <;> omega) _) | (refine Below.trans ?_ (Below.mono (by assumption) (by (try simp) <;> omega)))))⟩
        · have Hp := snHid_succ hp (show snC a d wt water limit n = false by rw [hs]; simpa using hle)
          clear hc hs hp
          go_wp2_with fail
          refine (AfterStages_any _ _ _ _ _ _).mono ?_; rintro e w1 ⟨he, hb1⟩; rw [Hv.out] at he; subst he
          go_wp2
          go_roundw
          case rel => exact ⟨n + 1, rfl, by omega, by omega, Hp, (r1.below' hb1).alloc _, by have := r1.lt; have := hb1.size; (repeat (first | exact Below.refl _ _ | refine Below.drew ?_ | refine below_drewN ?_ _ | (refine Below.alloc ?_ (by (try simp) <;> omega) _) | (refine Below.setCell ?_ (by (try simp) <;> omega) _) | (refine Below.trans ?_ (Below.mono (by assumption) (by (try simp) <;> omega)))))⟩
          case measure => simp only [intOf]; omega
    · obtain rfl : n = 7 := by omega
      have Hr := Lib.hid (snV_none hp.out)
      clear hp
      go_wp2
      go_ret2
      exact ⟨by rw [Hr.out]; rfl, by have := Hg1.out; (repeat (first | exact Below.refl _ _ | refine Below.drew ?_ | refine below_drewN ?_ _ | (refine Below.alloc ?_ (by (try simp) <;> omega) _) | (refine Below.setCell ?_ (by (try simp) <;> omega) _) | (refine Below.trans ?_ (Below.mono (by assumption) (by (try simp) <;> omega)))))⟩

set_option maxHeartbeats 2000000 in
theorem SStagesNeeded_any (a d wt water limit : Int) (w : World) :
    Calls Try.prog 30 #[.agg #[.int .i64 a, .int .i64 d, .int .i64 wt], .int .i64 water, .int .i64 limit] w fun e w' => e = .returned (snV a d wt water limit) ∧ Below w.heap.size w w' := by
  cases h1 : waterOk a d wt water 0
  · have hs : ∀ j, 1 ≤ j → j < 7 → snC a d wt water limit j = false := fun j _ _ => by rw [waterOk0] at h1; unfold snC; rw [h1]; rfl
    have Hv := Lib.hid (snV_none hs)
    clear hs
    go_enter Try.func30, Try.ntmps30
    go_wp2_with fail
    refine (l12Water_any _ _ _ _ _ _).mono ?_; rintro e w1 ⟨rfl, hb1⟩
    have z1 := hb1.size
    try simp at z1
    obtain ⟨c1_0, f1_0⟩ := bblk hb1 (g := w.heap.size) (by (try simp) <;> omega)
    have l1_0 : w.heap.size < w1.heap.size := by omega
    go_wp2
    go_ret2
    exact ⟨by rw [Hv.out]; rfl, by (repeat (first | exact Below.refl _ _ | refine Below.drew ?_ | refine below_drewN ?_ _ | (refine Below.alloc ?_ (by (try simp) <;> omega) _) | (refine Below.setCell ?_ (by (try simp) <;> omega) _) | (refine Below.trans ?_ (Below.mono (by assumption) (by (try simp) <;> omega)))))⟩
  have h1' := h1
  rw [waterOk0] at h1'
  obtain ⟨⟨_, ⟨g1, g2⟩, g3, g4⟩, ⟨g5, g6⟩, _⟩ := waterOk_iff.1 h1
  by_cases h0 : limit < 0
  · have Hv := Lib.hid (show snV a d wt water limit = noneI by unfold snV; rw [if_neg (by omega)])
    clear h1'
    go_enter Try.func30, Try.ntmps30
    go_wp2_with fail
    refine (l12Water_any _ _ _ _ _ _).mono ?_; rintro e w1 ⟨rfl, hb1⟩
    have z1 := hb1.size
    try simp at z1
    obtain ⟨c1_0, f1_0⟩ := bblk hb1 (g := w.heap.size) (by (try simp) <;> omega)
    have l1_0 : w.heap.size < w1.heap.size := by omega
    go_wp2
    go_ret2
    exact ⟨by rw [Hv.out]; rfl, by (repeat (first | exact Below.refl _ _ | refine Below.drew ?_ | refine below_drewN ?_ _ | (refine Below.alloc ?_ (by (try simp) <;> omega) _) | (refine Below.setCell ?_ (by (try simp) <;> omega) _) | (refine Below.trans ?_ (Below.mono (by assumption) (by (try simp) <;> omega)))))⟩
  have k0 := Blk.new w 25 #[.int .i64 a, .int .i64 d, .int .i64 wt]
  have H1 := Lib.hid h1'; clear h1'
  go_enter Try.func30, Try.ntmps30
  go_wp2_with fail
  refine (l12Water_any _ _ _ _ _ _).mono ?_; rintro e w1 ⟨rfl, hb1⟩
  have z1 := hb1.size
  try simp at z1
  obtain ⟨c1_0, f1_0⟩ := bblk hb1 (g := w.heap.size) (by (try simp) <;> omega)
  have l1_0 : w.heap.size < w1.heap.size := by omega
  have k1 := k0.below' hb1
  have hb0 : Below w.heap.size w w1 := by (repeat (first | exact Below.refl _ _ | refine Below.drew ?_ | refine below_drewN ?_ _ | (refine Below.alloc ?_ (by (try simp) <;> omega) _) | (refine Below.setCell ?_ (by (try simp) <;> omega) _) | (refine Below.trans ?_ (Below.mono (by assumption) (by (try simp) <;> omega)))))
  go_wp2
  clear hb1 c1_0 f1_0 l1_0 z1 k0
  generalize hp1 : w.heap.size = p1 at *
  have Hp1 := Lib.hid hp1; clear hp1
  go_loopw [8] (fun k wr => ∃ n : Int, k = .int .i64 n ∧ 1 ≤ n ∧ n ≤ 7 ∧ Hid (∀ j, 1 ≤ j → j < n → snC a d wt water limit j = false) ∧ Blk wr p1 25 #[.int .i64 a, .int .i64 d, .int .i64 wt] ∧ Below p1 w wr) (fun k _ => (7 - intOf k).toNat)
  case atStart => exact ⟨1, rfl, by omega, by omega, fun j h1 h2 => by omega, k1, hb0⟩
  case round =>
    obtain ⟨n, rfl, hn1, hn7, hp, r1, hb⟩ := hrel
    have c1 := r1.cell
    by_cases hlt : n ≤ 6
    · have hz : (n == 0) = false := by rw [beq_eq_false_iff_ne]; omega
      have hsn : snC a d wt water limit n = snB d wt water limit n := by unfold snC; rw [H1.out]; rfl
      by_cases hm : water % n = 0
      · have hm' : (water % n == 0) = true := by simpa using hm
        obtain ⟨m, rfl⟩ := Int.eq_ofNat_of_zero_le (show 0 ≤ n by omega)
        have hq := quo_ge water m g5 hn1 hm
        have hs : snC a d wt water limit m = decide (iterW d wt (water / m) m ≤ limit) := by rw [hsn]; unfold snB; simp [hm]
        by_cases hle : iterW d wt (water / m) m ≤ limit
        · have Hr := Lib.hid (snV_some (by omega) hn1 hlt hp.out (by rw [hs]; simpa using hle))
          clear hs hp hm hsn
          go_wp2_with fail
          refine (l12Stages_any _ _ _ _ _ _ g1 g2 g3 g4 hq g6 g5 hn1 hlt).mono ?_; rintro e w2 ⟨rfl, hb2⟩
          go_wp2_with fail
          rw [show (Instr.field 25 (.agg #[.int .i64 a, .int .i64 (iterW d wt (water / m) m), .int .i64 wt]) 1).run Try.prog w2 = .ok (.int .i64 (iterW d wt (water / m) m)) w2 from rfl]
          go_wp2
          go_ret2
          exact ⟨by rw [Hr.out]; rfl, by have := Hp1.out; have := r1.lt; have := hb2.size; (repeat (first | exact Below.refl _ _ | refine Below.drew ?_ | refine below_drewN ?_ _ | (refine Below.alloc ?_ (by (try simp) <;> omega) _) | (refine Below.setCell ?_ (by (try simp) <;> omega) _) | (refine Below.trans ?_ (Below.mono (by assumption) (by (try simp) <;> omega)))))⟩
        · have Hp := snHid_succ hp (show snC a d wt water limit m = false by rw [hs]; simpa using hle)
          clear hs hp hm hsn
          go_wp2_with fail
          refine (l12Stages_any _ _ _ _ _ _ g1 g2 g3 g4 hq g6 g5 hn1 hlt).mono ?_; rintro e w2 ⟨rfl, hb2⟩
          go_wp2_with fail
          rw [show (Instr.field 25 (.agg #[.int .i64 a, .int .i64 (iterW d wt (water / m) m), .int .i64 wt]) 1).run Try.prog w2 = .ok (.int .i64 (iterW d wt (water / m) m)) w2 from rfl]
          go_wp2
          go_roundw
          case rel => exact ⟨m + 1, rfl, by omega, by omega, Hp, r1.below' hb2, by have := r1.lt; have := hb2.size; (repeat (first | exact Below.refl _ _ | refine Below.drew ?_ | refine below_drewN ?_ _ | (refine Below.alloc ?_ (by (try simp) <;> omega) _) | (refine Below.setCell ?_ (by (try simp) <;> omega) _) | (refine Below.trans ?_ (Below.mono (by assumption) (by (try simp) <;> omega)))))⟩
          case measure => simp only [intOf]; omega
      · have hm' : (water % n == 0) = false := by simpa using hm
        have Hp := snHid_succ hp (show snC a d wt water limit n = false by rw [hsn]; unfold snB; simp [hm])
        clear hp hm hsn
        go_wp2
        go_roundw
        case rel => exact ⟨n + 1, rfl, by omega, by omega, Hp, r1, hb⟩
        case measure => simp only [intOf]; omega
    · obtain rfl : n = 7 := by omega
      have Hr := Lib.hid (snV_none hp.out)
      clear hp
      go_wp2
      go_ret2
      exact ⟨by rw [Hr.out]; rfl, by have := Hp1.out; (repeat (first | exact Below.refl _ _ | refine Below.drew ?_ | refine below_drewN ?_ _ | (refine Below.alloc ?_ (by (try simp) <;> omega) _) | (refine Below.setCell ?_ (by (try simp) <;> omega) _) | (refine Below.trans ?_ (Below.mono (by assumption) (by (try simp) <;> omega)))))⟩

/-! ### WaterNeeded -/
def wnV (a d wt limit : Int) : Value :=
  if isBatch a d wt && decide (0 ≤ limit) then
    if d ≤ limit then .tuple #[.int .i64 0, .bool true]
    else if wt = 0 then .tuple #[.int .i64 1, .bool true]
    else if limit = 0 then noneI
    else if leastW d wt limit ≤ 100000000 then .tuple #[.int .i64 (leastW d wt limit), .bool true] else noneI
  else noneI

set_option maxHeartbeats 2000000 in
theorem WaterNeeded_any (a d wt limit : Int) (_h : limit ≤ 9223372036854775807) (w : World) :
    Calls Try.prog 23 #[.agg #[.int .i64 a, .int .i64 d, .int .i64 wt], .int .i64 limit] w fun e w' => e = .returned (wnV a d wt limit) ∧ Below w.heap.size w w' := by
  cases h1 : isBatch a d wt
  · have Hv := Lib.hid (show wnV a d wt limit = noneI by simp [wnV, h1])
    go_enter Try.func23, Try.ntmps23
    go_wp2_with fail
    refine (IsBatch_any _ _ _ _).mono ?_; rintro e w1 ⟨rfl, hb1⟩
    have z1 := hb1.size
    try simp at z1
    obtain ⟨c1_0, f1_0⟩ := bblk hb1 (g := w.heap.size) (by (try simp) <;> omega)
    have l1_0 : w.heap.size < w1.heap.size := by omega
    go_wp2
    go_ret2
    exact ⟨by rw [Hv.out]; rfl, by (repeat (first | exact Below.refl _ _ | refine Below.drew ?_ | refine below_drewN ?_ _ | (refine Below.alloc ?_ (by (try simp) <;> omega) _) | (refine Below.setCell ?_ (by (try simp) <;> omega) _) | (refine Below.trans ?_ (Below.mono (by assumption) (by (try simp) <;> omega)))))⟩
  by_cases h2 : limit < 0
  · have Hv := Lib.hid (show wnV a d wt limit = noneI by have : ¬ 0 ≤ limit := by omega
                                                         simp [wnV, this])
    go_enter Try.func23, Try.ntmps23
    go_wp2_with fail
    refine (IsBatch_any _ _ _ _).mono ?_; rintro e w1 ⟨rfl, hb1⟩
    have z1 := hb1.size
    try simp at z1
    obtain ⟨c1_0, f1_0⟩ := bblk hb1 (g := w.heap.size) (by (try simp) <;> omega)
    have l1_0 : w.heap.size < w1.heap.size := by omega
    go_wp2
    go_ret2
    exact ⟨by rw [Hv.out]; rfl, by (repeat (first | exact Below.refl _ _ | refine Below.drew ?_ | refine below_drewN ?_ _ | (refine Below.alloc ?_ (by (try simp) <;> omega) _) | (refine Below.setCell ?_ (by (try simp) <;> omega) _) | (refine Below.trans ?_ (Below.mono (by assumption) (by (try simp) <;> omega)))))⟩
  have h3 : 0 ≤ limit := by omega
  by_cases h4 : d ≤ limit
  · have Hv := Lib.hid (show wnV a d wt limit = .tuple #[.int .i64 0, .bool true] by simp [wnV, h1, h3, h4])
    go_enter Try.func23, Try.ntmps23
    go_wp2_with fail
    refine (IsBatch_any _ _ _ _).mono ?_; rintro e w1 ⟨rfl, hb1⟩
    have z1 := hb1.size
    try simp at z1
    obtain ⟨c1_0, f1_0⟩ := bblk hb1 (g := w.heap.size) (by (try simp) <;> omega)
    have l1_0 : w.heap.size < w1.heap.size := by omega
    go_wp2
    go_ret2
    exact ⟨by rw [Hv.out]; rfl, by (repeat (first | exact Below.refl _ _ | refine Below.drew ?_ | refine below_drewN ?_ _ | (refine Below.alloc ?_ (by (try simp) <;> omega) _) | (refine Below.setCell ?_ (by (try simp) <;> omega) _) | (refine Below.trans ?_ (Below.mono (by assumption) (by (try simp) <;> omega)))))⟩
  by_cases h5 : wt = 0
  · have Hv := Lib.hid (show wnV a d wt limit = .tuple #[.int .i64 1, .bool true] by unfold wnV; rw [h1, if_pos (by simpa using h3), if_neg h4, if_pos h5])
    have hb : (wt == 0) = true := by simpa using h5
    have H5 := Lib.hid h5; clear h5
    go_enter Try.func23, Try.ntmps23
    go_wp2_with fail
    refine (IsBatch_any _ _ _ _).mono ?_; rintro e w1 ⟨rfl, hb1⟩
    have z1 := hb1.size
    try simp at z1
    obtain ⟨c1_0, f1_0⟩ := bblk hb1 (g := w.heap.size) (by (try simp) <;> omega)
    have l1_0 : w.heap.size < w1.heap.size := by omega
    go_wp2
    go_ret2
    exact ⟨by rw [Hv.out]; rfl, by (repeat (first | exact Below.refl _ _ | refine Below.drew ?_ | refine below_drewN ?_ _ | (refine Below.alloc ?_ (by (try simp) <;> omega) _) | (refine Below.setCell ?_ (by (try simp) <;> omega) _) | (refine Below.trans ?_ (Below.mono (by assumption) (by (try simp) <;> omega)))))⟩
  have hb : (wt == 0) = false := by simpa using h5
  by_cases h6 : limit = 0
  · have Hv := Lib.hid (show wnV a d wt limit = noneI by unfold wnV; rw [h1, if_pos (by simpa using h3), if_neg h4, if_neg h5, if_pos h6])
    have hb6 : (limit == 0) = true := by simpa using h6
    have H5 := Lib.hid h6; clear h6
    go_enter Try.func23, Try.ntmps23
    go_wp2_with fail
    refine (IsBatch_any _ _ _ _).mono ?_; rintro e w1 ⟨rfl, hb1⟩
    have z1 := hb1.size
    try simp at z1
    obtain ⟨c1_0, f1_0⟩ := bblk hb1 (g := w.heap.size) (by (try simp) <;> omega)
    have l1_0 : w.heap.size < w1.heap.size := by omega
    go_wp2
    go_ret2
    exact ⟨by rw [Hv.out]; rfl, by (repeat (first | exact Below.refl _ _ | refine Below.drew ?_ | refine below_drewN ?_ _ | (refine Below.alloc ?_ (by (try simp) <;> omega) _) | (refine Below.setCell ?_ (by (try simp) <;> omega) _) | (refine Below.trans ?_ (Below.mono (by assumption) (by (try simp) <;> omega)))))⟩
  have hb6 : (limit == 0) = false := by simpa using h6
  have hv : wnV a d wt limit = if leastW d wt limit ≤ 100000000 then .tuple #[.int .i64 (leastW d wt limit), .bool true] else noneI := by
    unfold wnV; rw [h1, if_pos (by simpa using h3), if_neg h4, if_neg h5, if_neg h6]
  have Hv := Lib.hid hv; clear hv
  obtain ⟨_, ⟨g1, g2⟩, g3, g4⟩ := isBatch_iff.1 h1
  have hp := mul_bd g1 g2 g3 g4
  have k0 := Blk.new w 25 #[.int .i64 a, .int .i64 d, .int .i64 wt]
  go_enter Try.func23, Try.ntmps23
  go_wp2_with fail
  refine (IsBatch_any _ _ _ _).mono ?_; rintro e w1 ⟨rfl, hb1⟩
  have z1 := hb1.size
  try simp at z1
  obtain ⟨c1_0, f1_0⟩ := bblk hb1 (g := w.heap.size) (by (try simp) <;> omega)
  have l1_0 : w.heap.size < w1.heap.size := by omega
  have k1 := k0.below' hb1
  have hb0 : Below w.heap.size w w1 := by (repeat (first | exact Below.refl _ _ | refine Below.drew ?_ | refine below_drewN ?_ _ | (refine Below.alloc ?_ (by (try simp) <;> omega) _) | (refine Below.setCell ?_ (by (try simp) <;> omega) _) | (refine Below.trans ?_ (Below.mono (by assumption) (by (try simp) <;> omega)))))
  have hq0 : 0 ≤ (d * wt + limit - 1) / limit ∧ (d * wt + limit - 1) / limit ≤ 10000000000000000 := by
    have e1 : 0 ≤ d * wt + limit - 1 := by omega
    refine ⟨Int.ediv_nonneg e1 (by omega), ?_⟩
    have : (d * wt + limit - 1) / limit ≤ d * wt := by
      have h7 : (d * wt + limit - 1) / limit < d * wt + 1 := by
        rw [Int.ediv_lt_iff_lt_mul (by omega), Int.add_mul]
        have : d * wt ≤ d * wt * limit := by
          have := Int.mul_le_mul_of_nonneg_left (show (1 : Int) ≤ limit by omega) hp.1
          omega
        omega
      omega
    omega
  go_wp2
  refine wp_region_grow [.fix (.pointer (some ⟨w.heap.size, 1, none⟩)), .val (.int .i64 d), .fix (.pointer (some ⟨w.heap.size, 2, none⟩)), .val (.int .i64 wt), .val (.int .i64 (d * wt)), .val (.int .i64 limit), .val (.int .i64 ((d * wt + limit - 1) / limit)), .fix (.pointer (some ⟨w.heap.size, 2, none⟩)), .val (.int .i64 wt), .val (.int .i64 ((d * wt + limit - 1) / limit - wt)), .val (.int .i64 (leastW d wt limit)), .val (.int .i64 (leastW d wt limit))] mixed (by kernel_rfl) ?_
  refine SeqG.fixStep (.inl ⟨rfl, fun _ => rfl⟩) ?_
  simp only [Act.put, List.setIfInBounds_toArray, List.set_cons_zero, List.set_cons_succ]
  refine SeqG.valStep (fun wv hbv hpv => ?_) ?_
  · have q0 := (k1.below' hbv).cell
    go_wp2_with fail
    exact post_val (Below.refl _ _)
  simp only [Act.put, List.setIfInBounds_toArray, List.set_cons_zero, List.set_cons_succ]
  refine SeqG.fixStep (.inl ⟨rfl, fun _ => rfl⟩) ?_
  simp only [Act.put, List.setIfInBounds_toArray, List.set_cons_zero, List.set_cons_succ]
  refine SeqG.valStep (fun wv hbv hpv => ?_) ?_
  · have q0 := (k1.below' hbv).cell
    go_wp2_with fail
    exact post_val (Below.refl _ _)
  simp only [Act.put, List.setIfInBounds_toArray, List.set_cons_zero, List.set_cons_succ]
  refine SeqG.valStep (fun wv hbv hpv => ?_) ?_
  · skip
    go_wp2_with fail
    exact post_val (Below.refl _ _)
  simp only [Act.put, List.setIfInBounds_toArray, List.set_cons_zero, List.set_cons_succ]
  refine SeqG.valStep (fun wv hbv hpv => ?_) ?_
  · skip
    go_wp2_with fail
    exact post_val (Below.refl _ _)
  simp only [Act.put, List.setIfInBounds_toArray, List.set_cons_zero, List.set_cons_succ]
  refine SeqG.valStep (fun wv hbv hpv => ?_) ?_
  · go_wp2_with fail
    refine (ceilDiv_any _ _ _ (by omega) (by omega) (by omega) (by omega)).mono ?_; rintro e w' ⟨he, rfl⟩; subst he
    go_wp2_with fail
    exact post_val (Below.refl _ _)
  simp only [Act.put, List.setIfInBounds_toArray, List.set_cons_zero, List.set_cons_succ]
  refine SeqG.fixStep (.inl ⟨rfl, fun _ => rfl⟩) ?_
  simp only [Act.put, List.setIfInBounds_toArray, List.set_cons_zero, List.set_cons_succ]
  refine SeqG.valStep (fun wv hbv hpv => ?_) ?_
  · have q0 := (k1.below' hbv).cell
    go_wp2_with fail
    exact post_val (Below.refl _ _)
  simp only [Act.put, List.setIfInBounds_toArray, List.set_cons_zero, List.set_cons_succ]
  refine SeqG.valStep (fun wv hbv hpv => ?_) ?_
  · skip
    go_wp2_with fail
    exact post_val (Below.refl _ _)
  simp only [Act.put, List.setIfInBounds_toArray, List.set_cons_zero, List.set_cons_succ]
  refine SeqG.valStep (fun wv hbv hpv => ?_) ?_
  · go_wp2_with fail
    · exact post_val_eq (v' := .int .i64 1) (congrArg (Value.int .i64) (by unfold leastW; omega)) (Below.refl _ _)
    · exact post_val_eq (v' := .int .i64 ((d * wt + limit - 1) / limit - wt)) (congrArg (Value.int .i64) (by unfold leastW; omega)) (Below.refl _ _)
  simp only [Act.put, List.setIfInBounds_toArray, List.set_cons_zero, List.set_cons_succ]
  refine SeqG.valStep (fun wv hbv hpv => ?_) ?_
  · skip
    go_wp2_with fail
    exact post_val (Below.refl _ _)
  simp only [Act.put, List.setIfInBounds_toArray, List.set_cons_zero, List.set_cons_succ]
  refine SeqG.done fun wv hbv hpv => ?_
  refine NoPan.normal ?_
  by_cases h7 : leastW d wt limit ≤ 100000000
  · go_wp2
    go_ret2
    exact ⟨by rw [Hv.out, if_pos h7]; rfl, by (repeat (first | exact Below.refl _ _ | refine Below.drew ?_ | refine below_drewN ?_ _ | (refine Below.alloc ?_ (by (try simp) <;> omega) _) | (refine Below.setCell ?_ (by (try simp) <;> omega) _) | (refine Below.trans ?_ (Below.mono (by assumption) (by (try simp) <;> omega)))))⟩
  · go_wp2
    go_ret2
    exact ⟨by rw [Hv.out, if_neg (Int.not_le.2 h7)]; rfl, by (repeat (first | exact Below.refl _ _ | refine Below.drew ?_ | refine below_drewN ?_ _ | (refine Below.alloc ?_ (by (try simp) <;> omega) _) | (refine Below.setCell ?_ (by (try simp) <;> omega) _) | (refine Below.trans ?_ (Below.mono (by assumption) (by (try simp) <;> omega)))))⟩

set_option maxHeartbeats 2000000 in
theorem SWaterNeeded_any (a d wt limit : Int) (w : World) :
    Calls Try.prog 22 #[.agg #[.int .i64 a, .int .i64 d, .int .i64 wt], .int .i64 limit] w fun e w' => e = .returned (wnV a d wt limit) ∧ Below w.heap.size w w' := by
  cases h1 : isBatch a d wt
  · have Hv := Lib.hid (show wnV a d wt limit = noneI by simp [wnV, h1])
    go_enter Try.func22, Try.ntmps22
    go_wp2_with fail
    refine (l12Good_any _ _ _ _).mono ?_; rintro e w1 ⟨rfl, hb1⟩
    have z1 := hb1.size
    try simp at z1
    obtain ⟨c1_0, f1_0⟩ := bblk hb1 (g := w.heap.size) (by (try simp) <;> omega)
    have l1_0 : w.heap.size < w1.heap.size := by omega
    go_wp2
    go_ret2
    exact ⟨by rw [Hv.out]; rfl, by (repeat (first | exact Below.refl _ _ | refine Below.drew ?_ | refine below_drewN ?_ _ | (refine Below.alloc ?_ (by (try simp) <;> omega) _) | (refine Below.setCell ?_ (by (try simp) <;> omega) _) | (refine Below.trans ?_ (Below.mono (by assumption) (by (try simp) <;> omega)))))⟩
  by_cases h2 : limit < 0
  · have Hv := Lib.hid (show wnV a d wt limit = noneI by have : ¬ 0 ≤ limit := by omega
                                                         simp [wnV, this])
    go_enter Try.func22, Try.ntmps22
    go_wp2_with fail
    refine (l12Good_any _ _ _ _).mono ?_; rintro e w1 ⟨rfl, hb1⟩
    have z1 := hb1.size
    try simp at z1
    obtain ⟨c1_0, f1_0⟩ := bblk hb1 (g := w.heap.size) (by (try simp) <;> omega)
    have l1_0 : w.heap.size < w1.heap.size := by omega
    go_wp2
    go_ret2
    exact ⟨by rw [Hv.out]; rfl, by (repeat (first | exact Below.refl _ _ | refine Below.drew ?_ | refine below_drewN ?_ _ | (refine Below.alloc ?_ (by (try simp) <;> omega) _) | (refine Below.setCell ?_ (by (try simp) <;> omega) _) | (refine Below.trans ?_ (Below.mono (by assumption) (by (try simp) <;> omega)))))⟩
  have h3 : 0 ≤ limit := by omega
  by_cases h4 : d ≤ limit
  · have Hv := Lib.hid (show wnV a d wt limit = .tuple #[.int .i64 0, .bool true] by simp [wnV, h1, h3, h4])
    go_enter Try.func22, Try.ntmps22
    go_wp2_with fail
    refine (l12Good_any _ _ _ _).mono ?_; rintro e w1 ⟨rfl, hb1⟩
    have z1 := hb1.size
    try simp at z1
    obtain ⟨c1_0, f1_0⟩ := bblk hb1 (g := w.heap.size) (by (try simp) <;> omega)
    have l1_0 : w.heap.size < w1.heap.size := by omega
    go_wp2
    go_ret2
    exact ⟨by rw [Hv.out]; rfl, by (repeat (first | exact Below.refl _ _ | refine Below.drew ?_ | refine below_drewN ?_ _ | (refine Below.alloc ?_ (by (try simp) <;> omega) _) | (refine Below.setCell ?_ (by (try simp) <;> omega) _) | (refine Below.trans ?_ (Below.mono (by assumption) (by (try simp) <;> omega)))))⟩
  obtain ⟨_, ⟨g1, g2⟩, g3, g4⟩ := isBatch_iff.1 h1
  -- the threshold
  obtain ⟨T, hT1, hTs, hTv⟩ : ∃ T : Int, 1 ≤ T ∧ (∀ m, 1 ≤ m → m ≤ 100000000 → (washD d wt m 0 ≤ limit ↔ T ≤ m)) ∧ wnV a d wt limit = if T ≤ 100000000 then .tuple #[.int .i64 T, .bool true] else noneI := by
    have hv : wnV a d wt limit = if wt = 0 then .tuple #[.int .i64 1, .bool true] else if limit = 0 then noneI
        else if leastW d wt limit ≤ 100000000 then .tuple #[.int .i64 (leastW d wt limit), .bool true] else noneI := by
      unfold wnV; rw [h1, if_pos (by simpa using h3), if_neg h4]
    by_cases h5 : wt = 0
    · refine ⟨1, by omega, fun m hm _ => ?_, by rw [hv, if_pos h5, if_pos (by omega)]⟩
      rw [washD_le_iff g3 hm, h5]
      have := Int.mul_nonneg h3 (show 0 ≤ 0 + m by omega)
      simp only [Int.mul_zero]
      omega
    · by_cases h6 : limit = 0
      · refine ⟨100000001, by omega, fun m hm hm' => ?_, by rw [hv, if_neg h5, if_pos h6, if_neg (by omega)]⟩
        have hpos : 0 < (d + 0) * wt := Int.mul_pos (by omega) (by omega)
        rw [washD_le_iff g3 hm, h6, Int.zero_mul]
        omega
      · exact ⟨leastW d wt limit, by unfold leastW; omega, fun m hm _ => leastW_spec g3 (by omega) hm, by rw [hv, if_neg h5, if_neg h6]⟩
  have Hv := Lib.hid hTv
  have Hs := Lib.hid hTs
  clear hTv hTs
  have k0 := Blk.new w 25 #[.int .i64 a, .int .i64 d, .int .i64 wt]
  by_cases hT : T ≤ 100000000
  · have hlast := (Hs.out 100000000 (by omega) (by omega)).2 hT
    go_enter Try.func22, Try.ntmps22
    go_wp2_with fail
    refine (l12Good_any _ _ _ _).mono ?_; rintro e w1 ⟨rfl, hb1⟩
    have z1 := hb1.size
    try simp at z1
    obtain ⟨c1_0, f1_0⟩ := bblk hb1 (g := w.heap.size) (by (try simp) <;> omega)
    have l1_0 : w.heap.size < w1.heap.size := by omega
    go_wp2_with fail
    refine (l12Wash_any _ _ _ _ _ _ g1 g2 g3 g4 (by omega) (by omega) (by omega) (by omega)).mono ?_; rintro e w2 ⟨rfl, hb2⟩
    have z2 := hb2.size
    try simp at z2
    obtain ⟨c2_0, f2_0⟩ := bblk hb2 (g := w.heap.size) (by (try simp) <;> omega)
    have l2_0 : w.heap.size < w2.heap.size := by omega
    have k1 := ((k0.below' hb1).below' hb2).alloc (.cells #[.int .i64 a, .int .i64 (washD d wt 100000000 0), .int .i64 wt] 25)
    have hb0 : Below w.heap.size w (w2.alloc (.cells #[.int .i64 a, .int .i64 (washD d wt 100000000 0), .int .i64 wt] 25)) := by (repeat (first | exact Below.refl _ _ | refine Below.drew ?_ | refine below_drewN ?_ _ | (refine Below.alloc ?_ (by (try simp) <;> omega) _) | (refine Below.setCell ?_ (by (try simp) <;> omega) _) | (refine Below.trans ?_ (Below.mono (by assumption) (by (try simp) <;> omega)))))
    go_wp2
    clear hb1 hb2 c1_0 f1_0 l1_0 z1 c2_0 f2_0 l2_0 z2 k0
    generalize w2.alloc (.cells #[.int .i64 a, .int .i64 (washD d wt 100000000 0), .int .i64 wt] 25) = W at *
    generalize hp1 : w.heap.size = p1 at *
    have Hp1 := Lib.hid hp1; clear hp1
    go_loopw [6, 7] (fun lo hi wr => ∃ l h : Int, lo = .int .i64 l ∧ hi = .int .i64 h ∧ 1 ≤ l ∧ l ≤ T ∧ T ≤ h ∧ h ≤ 100000000 ∧ Blk wr p1 25 #[.int .i64 a, .int .i64 d, .int .i64 wt] ∧ Below p1 w wr) (fun lo hi _ => (intOf hi - intOf lo).toNat)
    case atStart => exact ⟨1, 100000000, rfl, rfl, by omega, hT1, hT, by omega, k1, hb0⟩
    case round =>
      obtain ⟨l, h, rfl, rfl, hl1, hlT, hTh, hh, r1, hb⟩ := hrel
      have c1 := r1.cell
      by_cases hlt : l < h
      · have hm1 : l ≤ (l + h) / 2 ∧ (l + h) / 2 < h := by omega
        have hiff := Hs.out ((l + h) / 2) (by omega) (by omega)
        by_cases hle : washD d wt ((l + h) / 2) 0 ≤ limit
        · have hTm := hiff.1 hle
          clear hiff
          go_wp2_with fail
          refine (l12Wash_any _ _ _ _ _ _ g1 g2 g3 g4 (by omega) (by omega) (by omega) (by omega)).mono ?_; rintro e w1 ⟨rfl, hb1⟩
          go_wp2
          go_roundw
          case rel => exact ⟨l, (l + h) / 2, rfl, rfl, hl1, hlT, hTm, by omega, (r1.below' hb1).alloc _, by have := r1.lt; have := hb1.size; (repeat (first | exact Below.refl _ _ | refine Below.drew ?_ | refine below_drewN ?_ _ | (refine Below.alloc ?_ (by (try simp) <;> omega) _) | (refine Below.setCell ?_ (by (try simp) <;> omega) _) | (refine Below.trans ?_ (Below.mono (by assumption) (by (try simp) <;> omega)))))⟩
          case measure => simp only [intOf]; omega
        · have hTm : ¬ T ≤ (l + h) / 2 := fun hc => hle (hiff.2 hc)
          clear hiff
          go_wp2_with fail
          refine (l12Wash_any _ _ _ _ _ _ g1 g2 g3 g4 (by omega) (by omega) (by omega) (by omega)).mono ?_; rintro e w1 ⟨rfl, hb1⟩
          go_wp2
          go_roundw
          case rel => exact ⟨(l + h) / 2 + 1, h, rfl, rfl, by omega, by omega, hTh, hh, (r1.below' hb1).alloc _, by have := r1.lt; have := hb1.size; (repeat (first | exact Below.refl _ _ | refine Below.drew ?_ | refine below_drewN ?_ _ | (refine Below.alloc ?_ (by (try simp) <;> omega) _) | (refine Below.setCell ?_ (by (try simp) <;> omega) _) | (refine Below.trans ?_ (Below.mono (by assumption) (by (try simp) <;> omega)))))⟩
          case measure => simp only [intOf]; omega
      · have hTl : T = l := by omega
        have Hr := Lib.hid (Hv.out.trans (if_pos hT)); rw [hTl] at Hr
        have HTl := Lib.hid hTl
        clear hTl
        go_wp2
        go_ret2
        exact ⟨by rw [Hr.out]; rfl, by have := Hp1.out; (repeat (first | exact Below.refl _ _ | refine Below.drew ?_ | refine below_drewN ?_ _ | (refine Below.alloc ?_ (by (try simp) <;> omega) _) | (refine Below.setCell ?_ (by (try simp) <;> omega) _) | (refine Below.trans ?_ (Below.mono (by assumption) (by (try simp) <;> omega)))))⟩
  · have hlast : ¬ washD d wt 100000000 0 ≤ limit := fun hc => hT ((Hs.out 100000000 (by omega) (by omega)).1 hc)
    have Hr := Lib.hid (Hv.out.trans (if_neg hT))
    go_enter Try.func22, Try.ntmps22
    go_wp2_with fail
    refine (l12Good_any _ _ _ _).mono ?_; rintro e w1 ⟨rfl, hb1⟩
    have z1 := hb1.size
    try simp at z1
    obtain ⟨c1_0, f1_0⟩ := bblk hb1 (g := w.heap.size) (by (try simp) <;> omega)
    have l1_0 : w.heap.size < w1.heap.size := by omega
    go_wp2_with fail
    refine (l12Wash_any _ _ _ _ _ _ g1 g2 g3 g4 (by omega) (by omega) (by omega) (by omega)).mono ?_; rintro e w2 ⟨rfl, hb2⟩
    have z2 := hb2.size
    try simp at z2
    obtain ⟨c2_0, f2_0⟩ := bblk hb2 (g := w.heap.size) (by (try simp) <;> omega)
    have l2_0 : w.heap.size < w2.heap.size := by omega
    go_wp2
    go_ret2
    exact ⟨by rw [Hr.out]; rfl, by (repeat (first | exact Below.refl _ _ | refine Below.drew ?_ | refine below_drewN ?_ _ | (refine Below.alloc ?_ (by (try simp) <;> omega) _) | (refine Below.setCell ?_ (by (try simp) <;> omega) _) | (refine Below.trans ?_ (Below.mono (by assumption) (by (try simp) <;> omega)))))⟩
end Go.Proofs.Ytpgoenhekmoedaa
