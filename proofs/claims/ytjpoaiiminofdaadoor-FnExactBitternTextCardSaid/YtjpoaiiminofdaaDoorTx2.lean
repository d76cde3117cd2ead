/-
  BitternText: the program and the reference.
-/
import Derived.Test.YtjpoaiiminofdaaDoorTx1
import Derived.Test.YtjpoaiiminofdaaDoorBat
import Derived.Test.YtjpoaiiminofdaaDoorBit1
import Derived.Test.YtjpoaiiminofdaaDoorChain
import Derived.WalkKit
import Derived.WalkSpells
import Derived.WalkLawsBesides
import Derived.Lib.Hide
import Derived.Deep.QuietTactic
import Derived.BigQuiet
import Derived.StillTailTactics
namespace Go.Proofs.YtjpoaiiminofdaaDoor
open Go.RowKit

theorem idx_some {α : Type} {p : α → Bool} {L : List α} (h : 0 ≤ idxOf p L) : ∃ (k : Nat) (x : α), idxOf p L = (k : Int) ∧ L[k]? = some x ∧ p x = true := by
  unfold idxOf at h ⊢
  cases hf : L.findIdx? p with
  | none => rw [hf] at h; simp at h
  | some k =>
    rw [List.findIdx?_eq_some_iff_getElem] at hf
    obtain ⟨hk, hp, _⟩ := hf
    exact ⟨k, L[k], rfl, List.getElem?_eq_getElem hk, hp⟩
theorem at_some {L : List T3} {id : Int} (h : 0 ≤ atC L id) : ∃ (k : Nat) (x : T3), atC L id = (k : Int) ∧ L[k]? = some x ∧ x.1 = id := by
  obtain ⟨k, x, h1, h2, h3⟩ := idx_some h
  exact ⟨k, x, h1, h2, by simpa [atB] using h3⟩
theorem bitB_oneT {L : List T3} (h : bitB L = true) {k : Nat} {x} (hx : L[k]? = some x) : (1 ≤ x.1 ∧ x.1 ≤ 99) ∧ (0 ≤ x.2.1 ∧ x.2.1 ≤ 10000) ∧ (0 ≤ x.2.2 ∧ x.2.2 ≤ 1000) := by
  rw [bitB, Bool.and_eq_true] at h
  have := chain_one h.1 hx
  simp [bit1, inB] at this
  omega
/-- " bitter " -/
def midT : List UInt8 := [32, 98, 105, 116, 116, 101, 114, 32]
def btO (L : List T3) (id : Int) : Option (List UInt8) := if bitB L && decide (0 ≤ atC L id) then (match L[(atC L id).toNat]? with | some x => some (decS x.2.1 ++ midT ++ decS x.2.2) | none => none) else none
def btS (L : List T3) (id : Int) : List UInt8 := match btO L id with | some s => s | none => []
def btU (L : List T3) (id : Int) : Bool := (btO L id).isSome
theorem bt_no {L : List T3} {id : Int} (h : btO L id = none) : btS L id = [] ∧ btU L id = false := by simp [btS, btU, h]
theorem bt_yes {L : List T3} {id : Int} {s : List UInt8} (h : btO L id = some s) : btS L id = s ∧ btU L id = true := by simp [btS, btU, h]
theorem bt_off {L : List T3} {id : Int} (h : bitB L = false ∨ atC L id < 0) : btO L id = none := by
  unfold btO
  rcases h with h | h
  · simp [h]
  · have : decide (0 ≤ atC L id) = false := decide_eq_false (by omega)
    simp [this]
theorem bt_on {L : List T3} {id : Int} {k : Nat} {x : T3} (h : bitB L = true) (hk : atC L id = (k : Int)) (hx : L[k]? = some x) : btO L id = some (decS x.2.1 ++ midT ++ decS x.2.2) := by
  unfold btO
  have : decide (0 ≤ (k : Int)) = true := decide_eq_true (by omega)
  rw [hk, Int.toNat_natCast, hx, h, this]
  rfl
theorem txt_cat (a b : List UInt8) : (⟨(a ++ midT ++ b).toArray⟩ : ByteArray) = (ByteArray.mk a.toArray) ++ (ByteArray.mk #[32, 98, 105, 116, 116, 101, 114, 32]) ++ (ByteArray.mk b.toArray) := by
  apply ByteArray.ext
  simp [midT]
theorem tab_below {n : String} {g : Nat} {k : IntKind} {zs : List Int} {w w' : World} (hg : Tryd.prog.globalNamed n = some g) (h : Lib.TabIs Tryd.prog w n k zs) (hb : Below w.heap.size w w') : Lib.TabIs Tryd.prog w' n k zs := by
  unfold Lib.TabIs World.var? at h ⊢
  rw [hg] at h ⊢
  simp only [Option.bind_some] at h ⊢
  have hlt : g < w.heap.size := by
    rcases Nat.lt_or_ge g w.heap.size with h' | h'
    · exact h'
    · rw [Array.getElem?_eq_none h'] at h; cases h
  rw [hb.block g hlt]
  exact h
theorem gPow : ∃ g, Tryd.prog.globalNamed "internal/strconv.uint64pow10" = some g := Option.isSome_iff_exists.1 (by kernel_rfl)
theorem _root_.Go.Lib.TabIs.below {w w' : World} (h : Lib.TabIs Tryd.prog w "internal/strconv.uint64pow10" .u64 Lib.pow10Tab) (hb : Below w.heap.size w w') : Lib.TabIs Tryd.prog w' "internal/strconv.uint64pow10" .u64 Lib.pow10Tab := by
  obtain ⟨g, hg⟩ := gPow
  exact tab_below hg h hb
theorem decimal_any (z : Int) (w : World) (h0 : 0 ≤ z) (h1 : z ≤ 1000000) (htab : Lib.TabIs Tryd.prog w "internal/strconv.uint64pow10" .u64 Lib.pow10Tab) : Calls Tryd.prog 15 #[.int .i64 z] w fun e w' => e = .returned (.string ⟨(decS z).toArray⟩) ∧ Below w.heap.size w w' := by
  have C := Lib.hid (Tryd.strconv_Itoa z (by omega) (by omega) w htab)
  have HZ := Lib.hid (show Lib.itoa z = decS z by unfold Lib.itoa decS; rw [if_neg (by omega)])
  clear htab
  go_enter Tryd.func15, Tryd.ntmps15
  go_wp2_with fail
  refine C.out.mono ?_; rintro e w' ⟨rfl, k, os, rfl⟩
  rw [HZ.out]
  have hb : Below w.heap.size w (Go.Sort.grow (w.drewN k) os) := ⟨rfl, rfl, rfl, by simp [Go.Sort.grow], fun j hj => Go.Sort.heap_grow_old _ _ hj⟩
  go_wp2
  go_ret
  exact ⟨rfl, hb⟩

set_option maxRecDepth 20000 in
set_option maxHeartbeats 8000000 in
theorem SBitternText_any (A : Option Addr) (c : Nat) (L : List T3) (id : Int) (w : World) (hr : SlR f3 3 w w.heap.size A L) (hm : (L.length : Int) ≤ 1048576) (hI : ∀ x ∈ L, InI3 x) :
    Calls Tryd.prog 5 #[.slice A L.length c, .int .i64 id] w fun e w' => e = .returned (.tuple #[.string ⟨(btS L id).toArray⟩, .bool (btU L id)]) ∧ Below w.heap.size w w' := by
  have HI := Lib.hid hI; clear hI

  cases h1 : bitB L
  · have Hv := Lib.hid (bt_no (bt_off (id := id) (.inl h1)))
    go_enter Tryd.func5, Tryd.ntmps5
    go_wp2_with fail
    refine (l15Find_any _ _ L id _ (by exact hr) hm).mono ?_; rintro e w' ⟨rfl, rfl⟩
    go_wp2_with fail
    refine (l15Good_any _ _ L _ (by exact hr) hm HI.out).mono ?_; rintro e w3 ⟨rfl, hb3⟩
    rw [h1]
    have hb03 := hb3
    generalize atC L id = r at *
    go_wp2
    go_ret2
    exact ⟨by rw [Hv.out.1, Hv.out.2]; rfl, hb03⟩
  by_cases h2 : atC L id < 0
  · have Hv := Lib.hid (bt_no (bt_off (id := id) (.inr h2)))
    go_enter Tryd.func5, Tryd.ntmps5
    go_wp2_with fail
    refine (l15Find_any _ _ L id _ (by exact hr) hm).mono ?_; rintro e w' ⟨rfl, rfl⟩
    go_wp2_with fail
    refine (l15Good_any _ _ L _ (by exact hr) hm HI.out).mono ?_; rintro e w3 ⟨rfl, hb3⟩
    rw [h1]
    have hb03 := hb3
    generalize atC L id = r at *
    go_wp2
    go_ret2
    exact ⟨by rw [Hv.out.1, Hv.out.2]; rfl, hb03⟩
  obtain ⟨k, x, hk, hx, hid⟩ := at_some (L := L) (id := id) (by omega)
  have Hv := Lib.hid (bt_yes (bt_on h1 hk hx))
  obtain ⟨_, ⟨v1, v2⟩, v3, v4⟩ := bitB_oneT h1 hx
  have HK := Lib.hid hk
  have HX := Lib.hid hx
  have hkl := (List.getElem?_eq_some_iff.1 hx).1
  have hk0 : (0 : Int) ≤ (k : Int) := by omega
  have hk1 : (k : Int) < (L.length : Int) := by omega
  have hL1 := decS_le v1
  have hL2 := decS_le v3
  obtain ⟨b, off, rfl, hB, hcs⟩ := hr (SlR.ne hx)
  have H1 := Lib.hid h1
  clear h1 h2 hk hx hid
  go_enter Tryd.func5, Tryd.ntmps5
  go_wp2_with fail
  refine (l15Find_any _ _ L id _ (by exact hr) hm).mono ?_; rintro e w' ⟨rfl, rfl⟩
  rw [HK.out]
  go_wp2_with fail
  refine (l15Good_any _ _ L _ (by exact hr) hm HI.out).mono ?_; rintro e w3 ⟨rfl, hb3⟩
  rw [H1.out]
  have hb03 : Below w.heap.size w w3 := hb3
  have hCL := hcs.below hb03 hB
  have hBr : b < w3.heap.size := by have := hb03.size; omega
  go_wp2
  refine wp_region_grow [.fix (.slice (some ⟨b, off, none⟩) L.length c), .fix (.int .i64 k), .val (.pointer (some ⟨b, off + k * 3, none⟩)), .val (.pointer (some ⟨b, off + k * 3 + 1, none⟩)), .val (.int .i64 x.2.1), .val (.string ⟨(decS x.2.1).toArray⟩), .val (.string ((ByteArray.mk (decS x.2.1).toArray) ++ (ByteArray.mk #[32, 98, 105, 116, 116, 101, 114, 32]))), .fix (.slice (some ⟨b, off, none⟩) L.length c), .fix (.int .i64 k), .val (.pointer (some ⟨b, off + k * 3, none⟩)), .val (.pointer (some ⟨b, off + k * 3 + 2, none⟩)), .val (.int .i64 x.2.2), .val (.string ⟨(decS x.2.2).toArray⟩), .val (.string ((ByteArray.mk (decS x.2.1).toArray) ++ (ByteArray.mk #[32, 98, 105, 116, 116, 101, 114, 32]) ++ (ByteArray.mk (decS x.2.2).toArray))), .fix (.string ((ByteArray.mk (decS x.2.1).toArray) ++ (ByteArray.mk #[32, 98, 105, 116, 116, 101, 114, 32]) ++ (ByteArray.mk (decS x.2.2).toArray))), .fix (.bool true)] mixed (by kernel_rfl) ?_
  refine SeqG.fixStep (.inl ⟨rfl, fun _ => rfl⟩) ?_
  simp only [Act.put, List.setIfInBounds_toArray, List.set_cons_zero, List.set_cons_succ]
  refine SeqG.fixStep (.inl ⟨rfl, fun _ => rfl⟩) ?_
  simp only [Act.put, List.setIfInBounds_toArray, List.set_cons_zero, List.set_cons_succ]
  refine SeqG.valStep (fun wv hbv hpv => ?_) ?_
  · skip
    go_wp2_with fail
    exact post_val (Below.refl _ _)
  simp only [Act.put, List.setIfInBounds_toArray, List.set_cons_zero, List.set_cons_succ]
  refine SeqG.valStep (fun wv hbv hpv => ?_) ?_
  · skip
    go_wp2_with fail
    exact post_val (Below.refl _ _)
  simp only [Act.put, List.setIfInBounds_toArray, List.set_cons_zero, List.set_cons_succ]
  refine SeqG.valStep (fun wv hbv hpv => ?_) ?_
  · obtain ⟨c0, c1, c2⟩ := cells3 (hCL.below hbv hBr) HX.out
    go_wp2_with fail
    exact post_val (Below.refl _ _)
  simp only [Act.put, List.setIfInBounds_toArray, List.set_cons_zero, List.set_cons_succ]
  refine SeqG.valStep (fun wv hbv hpv => ?_) ?_
  · go_wp2_with fail
    refine (l1Num_any (x.2.1).toNat _ _ (by omega) (Nat.le_refl _) (by omega)).mono ?_; rintro e w' ⟨he, hb⟩; subst he
    go_wp2_with fail
    exact post_val hb
  simp only [Act.put, List.setIfInBounds_toArray, List.set_cons_zero, List.set_cons_succ]
  refine SeqG.valStep (fun wv hbv hpv => ?_) ?_
  · skip
    go_wp2_with fail
    exact post_val (Below.refl _ _)
  simp only [Act.put, List.setIfInBounds_toArray, List.set_cons_zero, List.set_cons_succ]
  refine SeqG.fixStep (.inl ⟨rfl, fun _ => rfl⟩) ?_
  simp only [Act.put, List.setIfInBounds_toArray, List.set_cons_zero, List.set_cons_succ]
  refine SeqG.fixStep (.inl ⟨rfl, fun _ => rfl⟩) ?_
  simp only [Act.put, List.setIfInBounds_toArray, List.set_cons_zero, List.set_cons_succ]
  refine SeqG.valStep (fun wv hbv hpv => ?_) ?_
  · skip
    go_wp2_with fail
    exact post_val (Below.refl _ _)
  simp only [Act.put, List.setIfInBounds_toArray, List.set_cons_zero, List.set_cons_succ]
  refine SeqG.valStep (fun wv hbv hpv => ?_) ?_
  · skip
    go_wp2_with fail
    exact post_val (Below.refl _ _)
  simp only [Act.put, List.setIfInBounds_toArray, List.set_cons_zero, List.set_cons_succ]
  refine SeqG.valStep (fun wv hbv hpv => ?_) ?_
  · obtain ⟨c0, c1, c2⟩ := cells3 (hCL.below hbv hBr) HX.out
    go_wp2_with fail
    exact post_val (Below.refl _ _)
  simp only [Act.put, List.setIfInBounds_toArray, List.set_cons_zero, List.set_cons_succ]
  refine SeqG.valStep (fun wv hbv hpv => ?_) ?_
  · go_wp2_with fail
    refine (l1Num_any (x.2.2).toNat _ _ (by omega) (Nat.le_refl _) (by omega)).mono ?_; rintro e w' ⟨he, hb⟩; subst he
    go_wp2_with fail
    exact post_val hb
  simp only [Act.put, List.setIfInBounds_toArray, List.set_cons_zero, List.set_cons_succ]
  refine SeqG.valStep (fun wv hbv hpv => ?_) ?_
  · skip
    go_wp2_with fail
    exact post_val (Below.refl _ _)
  simp only [Act.put, List.setIfInBounds_toArray, List.set_cons_zero, List.set_cons_succ]
  refine SeqG.fixStep (.inl ⟨rfl, fun _ => rfl⟩) ?_
  simp only [Act.put, List.setIfInBounds_toArray, List.set_cons_zero, List.set_cons_succ]
  refine SeqG.fixStep (.inl ⟨rfl, fun _ => rfl⟩) ?_
  simp only [Act.put, List.setIfInBounds_toArray, List.set_cons_zero, List.set_cons_succ]
  refine SeqG.done fun wv hbv hpv => ?_
  refine NoPan.normal ?_
  clear hpv
  have hb4 := hb03.trans (hbv.mono hb03.size)
  go_wp2
  go_ret2
  exact ⟨by rw [Hv.out.1, Hv.out.2, txt_cat]; rfl, hb4⟩

set_option maxRecDepth 20000 in
set_option maxHeartbeats 8000000 in
theorem BitternText_any (A : Option Addr) (c : Nat) (L : List T3) (id : Int) (w : World) (hr : SlR f3 3 w w.heap.size A L) (hm : (L.length : Int) ≤ 1048576) (hI : ∀ x ∈ L, InI3 x) (htab : Lib.TabIs Tryd.prog w "internal/strconv.uint64pow10" .u64 Lib.pow10Tab) :
    Calls Tryd.prog 7 #[.slice A L.length c, .int .i64 id] w fun e w' => e = .returned (.tuple #[.string ⟨(btS L id).toArray⟩, .bool (btU L id)]) ∧ Below w.heap.size w w' := by
  have HI := Lib.hid hI; clear hI
  have HT := Lib.hid htab; clear htab
  cases h1 : bitB L
  · have Hv := Lib.hid (bt_no (bt_off (id := id) (.inl h1)))
    go_enter Tryd.func7, Tryd.ntmps7
    go_wp2_with fail
    refine (bitternAt_any _ _ L id _ (by exact hr) hm).mono ?_; rintro e w2 ⟨rfl, hb2⟩
    go_wp2_with fail
    refine (AreBitterns_any _ _ L _ (by exact (hr.next hb2)) hm HI.out).mono ?_; rintro e w3 ⟨rfl, hb3⟩
    rw [h1]
    have hb03 := hb2.trans (hb3.mono hb2.size)
    generalize atC L id = r at *
    go_wp2
    go_ret2
    exact ⟨by rw [Hv.out.1, Hv.out.2]; rfl, hb03⟩
  by_cases h2 : atC L id < 0
  · have Hv := Lib.hid (bt_no (bt_off (id := id) (.inr h2)))
    go_enter Tryd.func7, Tryd.ntmps7
    go_wp2_with fail
    refine (bitternAt_any _ _ L id _ (by exact hr) hm).mono ?_; rintro e w2 ⟨rfl, hb2⟩
    go_wp2_with fail
    refine (AreBitterns_any _ _ L _ (by exact (hr.next hb2)) hm HI.out).mono ?_; rintro e w3 ⟨rfl, hb3⟩
    rw [h1]
    have hb03 := hb2.trans (hb3.mono hb2.size)
    generalize atC L id = r at *
    go_wp2
    go_ret2
    exact ⟨by rw [Hv.out.1, Hv.out.2]; rfl, hb03⟩
  obtain ⟨k, x, hk, hx, hid⟩ := at_some (L := L) (id := id) (by omega)
  have Hv := Lib.hid (bt_yes (bt_on h1 hk hx))
  obtain ⟨_, ⟨v1, v2⟩, v3, v4⟩ := bitB_oneT h1 hx
  have HK := Lib.hid hk
  have HX := Lib.hid hx
  have hkl := (List.getElem?_eq_some_iff.1 hx).1
  have hk0 : (0 : Int) ≤ (k : Int) := by omega
  have hk1 : (k : Int) < (L.length : Int) := by omega
  have hL1 := decS_le v1
  have hL2 := decS_le v3
  obtain ⟨b, off, rfl, hB, hcs⟩ := hr (SlR.ne hx)
  have H1 := Lib.hid h1
  clear h1 h2 hk hx hid
  go_enter Tryd.func7, Tryd.ntmps7
  go_wp2_with fail
  refine (bitternAt_any _ _ L id _ (by exact hr) hm).mono ?_; rintro e w2 ⟨rfl, hb2⟩
  rw [HK.out]
  go_wp2_with fail
  refine (AreBitterns_any _ _ L _ (by exact (hr.next hb2)) hm HI.out).mono ?_; rintro e w3 ⟨rfl, hb3⟩
  rw [H1.out]
  have hb03 : Below w.heap.size w w3 := hb2.trans (hb3.mono hb2.size)
  have hCL := hcs.below hb03 hB
  have hBr : b < w3.heap.size := by have := hb03.size; omega
  go_wp2
  refine wp_region_grow [.fix (.slice (some ⟨b, off, none⟩) L.length c), .fix (.int .i64 k), .val (.pointer (some ⟨b, off + k * 3, none⟩)), .val (.pointer (some ⟨b, off + k * 3 + 1, none⟩)), .val (.int .i64 x.2.1), .val (.string ⟨(decS x.2.1).toArray⟩), .val (.string ((ByteArray.mk (decS x.2.1).toArray) ++ (ByteArray.mk #[32, 98, 105, 116, 116, 101, 114, 32]))), .fix (.slice (some ⟨b, off, none⟩) L.length c), .fix (.int .i64 k), .val (.pointer (some ⟨b, off + k * 3, none⟩)), .val (.pointer (some ⟨b, off + k * 3 + 2, none⟩)), .val (.int .i64 x.2.2), .val (.string ⟨(decS x.2.2).toArray⟩), .val (.string ((ByteArray.mk (decS x.2.1).toArray) ++ (ByteArray.mk #[32, 98, 105, 116, 116, 101, 114, 32]) ++ (ByteArray.mk (decS x.2.2).toArray))), .fix (.string ((ByteArray.mk (decS x.2.1).toArray) ++ (ByteArray.mk #[32, 98, 105, 116, 116, 101, 114, 32]) ++ (ByteArray.mk (decS x.2.2).toArray))), .fix (.bool true)] mixed (by kernel_rfl) ?_
  refine SeqG.fixStep (.inl ⟨rfl, fun _ => rfl⟩) ?_
  simp only [Act.put, List.setIfInBounds_toArray, List.set_cons_zero, List.set_cons_succ]
  refine SeqG.fixStep (.inl ⟨rfl, fun _ => rfl⟩) ?_
  simp only [Act.put, List.setIfInBounds_toArray, List.set_cons_zero, List.set_cons_succ]
  refine SeqG.valStep (fun wv hbv hpv => ?_) ?_
  · skip
    go_wp2_with fail
    exact post_val (Below.refl _ _)
  simp only [Act.put, List.setIfInBounds_toArray, List.set_cons_zero, List.set_cons_succ]
  refine SeqG.valStep (fun wv hbv hpv => ?_) ?_
  · skip
    go_wp2_with fail
    exact post_val (Below.refl _ _)
  simp only [Act.put, List.setIfInBounds_toArray, List.set_cons_zero, List.set_cons_succ]
  refine SeqG.valStep (fun wv hbv hpv => ?_) ?_
  · obtain ⟨c0, c1, c2⟩ := cells3 (hCL.below hbv hBr) HX.out
    go_wp2_with fail
    exact post_val (Below.refl _ _)
  simp only [Act.put, List.setIfInBounds_toArray, List.set_cons_zero, List.set_cons_succ]
  refine SeqG.valStep (fun wv hbv hpv => ?_) ?_
  · go_wp2_with fail
    refine (decimal_any x.2.1 _ (by omega) (by omega) (HT.out.below (hb03.trans (hbv.mono hb03.size)))).mono ?_; rintro e w' ⟨he, hb⟩; subst he
    go_wp2_with fail
    exact post_val hb
  simp only [Act.put, List.setIfInBounds_toArray, List.set_cons_zero, List.set_cons_succ]
  refine SeqG.valStep (fun wv hbv hpv => ?_) ?_
  · skip
    go_wp2_with fail
    exact post_val (Below.refl _ _)
  simp only [Act.put, List.setIfInBounds_toArray, List.set_cons_zero, List.set_cons_succ]
  refine SeqG.fixStep (.inl ⟨rfl, fun _ => rfl⟩) ?_
  simp only [Act.put, List.setIfInBounds_toArray, List.set_cons_zero, List.set_cons_succ]
  refine SeqG.fixStep (.inl ⟨rfl, fun _ => rfl⟩) ?_
  simp only [Act.put, List.setIfInBounds_toArray, List.set_cons_zero, List.set_cons_succ]
  refine SeqG.valStep (fun wv hbv hpv => ?_) ?_
  · skip
    go_wp2_with fail
    exact post_val (Below.refl _ _)
  simp only [Act.put, List.setIfInBounds_toArray, List.set_cons_zero, List.set_cons_succ]
  refine SeqG.valStep (fun wv hbv hpv => ?_) ?_
  · skip
    go_wp2_with fail
    exact post_val (Below.refl _ _)
  simp only [Act.put, List.setIfInBounds_toArray, List.set_cons_zero, List.set_cons_succ]
  refine SeqG.valStep (fun wv hbv hpv => ?_) ?_
  · obtain ⟨c0, c1, c2⟩ := cells3 (hCL.below hbv hBr) HX.out
    go_wp2_with fail
    exact post_val (Below.refl _ _)
  simp only [Act.put, List.setIfInBounds_toArray, List.set_cons_zero, List.set_cons_succ]
  refine SeqG.valStep (fun wv hbv hpv => ?_) ?_
  · go_wp2_with fail
    refine (decimal_any x.2.2 _ (by omega) (by omega) (HT.out.below (hb03.trans (hbv.mono hb03.size)))).mono ?_; rintro e w' ⟨he, hb⟩; subst he
    go_wp2_with fail
    exact post_val hb
  simp only [Act.put, List.setIfInBounds_toArray, List.set_cons_zero, List.set_cons_succ]
  refine SeqG.valStep (fun wv hbv hpv => ?_) ?_
  · skip
    go_wp2_with fail
    exact post_val (Below.refl _ _)
  simp only [Act.put, List.setIfInBounds_toArray, List.set_cons_zero, List.set_cons_succ]
  refine SeqG.fixStep (.inl ⟨rfl, fun _ => rfl⟩) ?_
  simp only [Act.put, List.setIfInBounds_toArray, List.set_cons_zero, List.set_cons_succ]
  refine SeqG.fixStep (.inl ⟨rfl, fun _ => rfl⟩) ?_
  simp only [Act.put, List.setIfInBounds_toArray, List.set_cons_zero, List.set_cons_succ]
  refine SeqG.done fun wv hbv hpv => ?_
  refine NoPan.normal ?_
  clear hpv
  have hb4 := hb03.trans (hbv.mono hb03.size)
  go_wp2
  go_ret2
  exact ⟨by rw [Hv.out.1, Hv.out.2, txt_cat]; rfl, hb4⟩
end Go.Proofs.YtjpoaiiminofdaaDoor
