/-
  Numbers in decimal: both programs.
-/
import Derived.Test.YtapfnelghmnajaaDoorBase
import Derived.Test.YtapfnelghmnajaaDoorRegion
import Derived.Test.YtapfnelghmnajaaDoorScalar
import Derived.Test.YtapfnelghmnajaaDoorShelf
import Derived.Lib.ItoaNum
import Derived.WalkKit
import Derived.WalkSpells
import Derived.WalkLawsBesides
import Derived.Lib.Hide
import Derived.Deep.QuietTactic
import Derived.BigQuiet
import Derived.StillTailTactics
import Derived.Deep.DeepCutAuto
namespace Go.Proofs.YtapfnelghmnajaaDoor
open Go.RowKit

def decS (n : Int) : List UInt8 := Lib.decDigits n.toNat
theorem decDigits_le : ∀ (m n : Nat), n ≤ m → (Lib.decDigits n).length ≤ n + 1
  | 0, n, h => by rw [Lib.decDigits, dif_pos (by omega)]; simp
  | m + 1, n, h => by
    rw [Lib.decDigits]
    split
    · simp
    · have := decDigits_le m (n / 10) (by omega)
      rw [List.length_append]; simp; omega
theorem decS_le {z : Int} (h0 : 0 ≤ z) : ((decS z).length : Int) ≤ z + 1 := by
  have := decDigits_le z.toNat z.toNat (Nat.le_refl _)
  unfold decS; omega
theorem decS_small {z : Int} (h1 : z < 10) : decS z = [UInt8.ofNat (48 + z.toNat)] := by
  unfold decS
  rw [Lib.decDigits, dif_pos (by omega)]
theorem decS_step {z : Int} (h0 : 10 ≤ z) : decS z = decS (z / 10) ++ [UInt8.ofNat (48 + (z % 10).toNat)] := by
  unfold decS
  rw [Lib.decDigits, dif_neg (by omega), show (z / 10).toNat = z.toNat / 10 by omega, show (z % 10).toNat = z.toNat % 10 by omega]
theorem digit_cut {d : Nat} (h : d < 10) : (ByteArray.mk #[48, 49, 50, 51, 52, 53, 54, 55, 56, 57]).extract d (d + 1) = ⟨#[UInt8.ofNat (48 + d)]⟩ := by
  match d, h with
  | 0, _ => rfl
  | 1, _ => rfl
  | 2, _ => rfl
  | 3, _ => rfl
  | 4, _ => rfl
  | 5, _ => rfl
  | 6, _ => rfl
  | 7, _ => rfl
  | 8, _ => rfl
  | 9, _ => rfl
  | n + 10, h => omega

set_option maxHeartbeats 4000000 in
theorem l1Num_one (z : Int) (w : World) (h0 : 0 ≤ z) (h1 : z < 10) : Calls Tryd.prog 29 #[.int .i64 z] w fun e w' => e = .returned (.string ⟨(decS z).toArray⟩) ∧ Below w.heap.size w w' := by
  have HD := Lib.hid (decS_small h1)
  have HC := Lib.hid (digit_cut (d := z.toNat) (by omega))
  go_enter Tryd.func29, Tryd.ntmps29
  go_wp2
  go_ret
  refine ⟨?_, Below.refl _ _⟩
  rw [HD.out]
  have : ({ data := #[48, 49, 50, 51, 52, 53, 54, 55, 56, 57] } : ByteArray).extract z.toNat (z + 1).toNat = ⟨#[UInt8.ofNat (48 + z.toNat)]⟩ := by rw [← HC.out, show (z + 1).toNat = z.toNat + 1 by omega]
  exact congrArg (fun s => Ending.returned (.string s)) this
theorem bytes_cat (a : List UInt8) (x : UInt8) : (ByteArray.mk a.toArray) ++ (ByteArray.mk #[x]) = ⟨(a ++ [x]).toArray⟩ := by
  apply ByteArray.ext
  simp

set_option maxHeartbeats 4000000 in
theorem l1Num_any : ∀ (m : Nat) (z : Int) (w : World), 0 ≤ z → z.toNat ≤ m → z ≤ 1000000 → Calls Tryd.prog 29 #[.int .i64 z] w fun e w' => e = .returned (.string ⟨(decS z).toArray⟩) ∧ Below w.heap.size w w'
  | 0, z, w, h0, hm, h1 => l1Num_one z w h0 (by omega)
  | m + 1, z, w, h0, hm, h1 => by
    by_cases hz : z < 10
    · exact l1Num_one z w h0 hz
    have q0 : 0 ≤ z / 10 := by omega
    have q1 : z / 10 ≤ 100000 := by omega
    have q2 : (z / 10).toNat ≤ m := by omega
    have d0 : 0 ≤ z % 10 := by omega
    have d1 : z % 10 < 10 := by omega
    have IH := Lib.hid (fun w => l1Num_any m (z / 10) w q0 q2 (by omega))
    have HD := Lib.hid (decS_step (z := z) (by omega))
    have HC := Lib.hid (digit_cut (d := (z % 10).toNat) (by omega))
    have HE : Hid ((z % 10 + 1).toNat = (z % 10).toNat + 1) := (by omega : (z % 10 + 1).toNat = (z % 10).toNat + 1)
    have d2 : z % 10 + 1 ≤ 10 := by omega
    have d3 : 0 ≤ z % 10 + 1 := by omega
    have hL := decS_le q0
    have e1 : (z % 10).toNat ≤ 9 := by omega
    have e2 : (z % 10 + 1).toNat ≤ 10 := by omega
    go_enter Tryd.func29, Tryd.ntmps29
    go_wp2
    refine wp_region_grow [.fix (.int .i64 z), .val (.int .i64 (z / 10)), .val (.string ⟨(decS (z / 10)).toArray⟩), .fix (.int .i64 z), .val (.int .i64 (z % 10)), .fix (.int .i64 z), .val (.int .i64 (z % 10)), .val (.int .i64 (z % 10 + 1)), .val (.string ((ByteArray.mk #[48, 49, 50, 51, 52, 53, 54, 55, 56, 57]).extract (z % 10).toNat (z % 10 + 1).toNat)), .val (.string ((ByteArray.mk (decS (z / 10)).toArray) ++ (ByteArray.mk #[48, 49, 50, 51, 52, 53, 54, 55, 56, 57]).extract (z % 10).toNat (z % 10 + 1).toNat))] mixed (by kernel_rfl) ?_
    refine SeqG.fixStep (.inl ⟨rfl, fun _ => rfl⟩) ?_
    simp only [Act.put, List.setIfInBounds_toArray, List.set_cons_zero, List.set_cons_succ]
    refine SeqG.valStep (fun wv hbv hpv => ?_) ?_
    · skip
      go_wp2_with fail
      exact post_val (Below.refl _ _)
    simp only [Act.put, List.setIfInBounds_toArray, List.set_cons_zero, List.set_cons_succ]
    refine SeqG.valStep (fun wv hbv hpv => ?_) ?_
    · go_wp2_with fail
      refine (IH.out _).mono ?_; rintro e w' ⟨he, hb⟩; subst he
      go_wp2_with fail
      exact post_val hb
    simp only [Act.put, List.setIfInBounds_toArray, List.set_cons_zero, List.set_cons_succ]
    refine SeqG.fixStep (.inl ⟨rfl, fun _ => rfl⟩) ?_
    simp only [Act.put, List.setIfInBounds_toArray, List.set_cons_zero, List.set_cons_succ]
    refine SeqG.valStep (fun wv hbv hpv => ?_) ?_
    · skip
      go_wp2_with fail
      exact post_val (Below.refl _ _)
    simp only [Act.put, List.setIfInBounds_toArray, List.set_cons_zero, List.set_cons_succ]
    refine SeqG.fixStep (.inl ⟨rfl, fun _ => rfl⟩) ?_
    simp only [Act.put, List.setIfInBounds_toArray, List.set_cons_zero, List.set_cons_succ]
    refine SeqG.valStep (fun wv hbv hpv => ?_) ?_
    · skip
      go_wp2_with fail
      exact post_val (Below.refl _ _)
    simp only [Act.put, List.setIfInBounds_toArray, List.set_cons_zero, List.set_cons_succ]
    refine SeqG.valStep (fun wv hbv hpv => ?_) ?_
    · skip
      go_wp2_with fail
      exact post_val (Below.refl _ _)
    simp only [Act.put, List.setIfInBounds_toArray, List.set_cons_zero, List.set_cons_succ]
    refine SeqG.valStep (fun wv hbv hpv => ?_) ?_
    · skip
      go_wp2_with fail
      exact post_val (Below.refl _ _)
    simp only [Act.put, List.setIfInBounds_toArray, List.set_cons_zero, List.set_cons_succ]
    refine SeqG.valStep (fun wv hbv hpv => ?_) ?_
    · skip
      go_wp2_with fail
      exact post_val (Below.refl _ _)
    simp only [Act.put, List.setIfInBounds_toArray, List.set_cons_zero, List.set_cons_succ]
    refine SeqG.done fun wv hbv hpv => ?_
    clear hpv
    go_wp2_with fail
    refine NoPan.normal ?_
    go_wp2
    go_ret
    refine ⟨?_, hbv⟩
    rw [HD.out, ← bytes_cat, ← HC.out, ← HE.out]
    rfl
end Go.Proofs.YtapfnelghmnajaaDoor
