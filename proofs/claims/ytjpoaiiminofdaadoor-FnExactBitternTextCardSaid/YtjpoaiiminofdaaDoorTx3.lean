/-
  The law on BitternText, walked.
-/
import Derived.Test.YtjpoaiiminofdaaDoorTx2
import Derived.Test.YtjpoaiiminofdaaDoorHBittern
import Derived.Test.YtjpoaiiminofdaaDoorPred
import Derived.WalkKit
import Derived.WalkSpells
import Derived.WalkLawsBesides
import Derived.Lib.Hide
import Derived.Deep.QuietTactic
import Derived.BigQuiet
import Derived.StillTailTactics
namespace Go.Proofs.YtjpoaiiminofdaaDoor
open Go.RowKit

theorem neS (s : ByteArray) : (s != s) = false := by
  show (!(s == s)) = false
  have : (s == s) = true := by
    show (s.data == s.data) = true
    simp
  rw [this]; rfl

set_option maxHeartbeats 8000000 in
theorem walk_BitternText (A : Option Addr) (c : Nat) (L : List T3) (hn : (L.length : Int) ≤ 9223372036854775807) (_hI : ∀ x ∈ L, InI3 x) (id : Int) (_hi : InI id) (w : World) (hr : SlR f3 3 w w.heap.size A L) (htab : Lib.TabIs Tryd.prog w "internal/strconv.uint64pow10" .u64 Lib.pow10Tab) :
    Calls Tryd.prog 3 #[.slice A L.length c, .int .i64 id] w fun e w' => e = .returned (.bool true) ∧ Below w.heap.size w w' := by
  by_cases hs : (1048576 : Int) - L.length < 0
  · have Hv := Lib.hid (show szV 1048576 L.length = -1 from if_pos hs)
    clear _hI _hi htab
    go_enter Tryd.func3, Tryd.ntmps3
    go_wp2_with fail
    refine (szBitternS_any _ _ _ _ _ hn (by omega) (by omega)).mono ?_; rintro e w' ⟨rfl, rfl⟩
    rw [Hv.out]
    go_wp2
    go_ret
    exact ⟨rfl, by (repeat (first | exact Below.refl _ _ | refine Below.drew ?_ | refine below_drewN ?_ _ | (refine Below.alloc ?_ (by (try simp) <;> omega) _) | (refine Below.setCell ?_ (by (try simp) <;> omega) _) | (refine Below.trans ?_ (Below.mono (by assumption) (by (try simp) <;> omega)))))⟩
  have Hv := Lib.hid (show szV 1048576 L.length = 1048576 - L.length from if_neg hs)
  have hm : (L.length : Int) ≤ 1048576 := by omega
  have C1 := Lib.hid (fun A c w hr => SBitternText_any A c L id w hr hm _hI)
  have C2 := Lib.hid (fun A c w hr ht => BitternText_any A c L id w hr hm _hI ht)
  have HT := Lib.hid htab
  clear _hI _hi htab
  generalize btU L id = u at *
  generalize (ByteArray.mk (btS L id).toArray) = S at *
  have hm4 : (0 : Int) ≤ (L.length : Int) := by omega
  have E1 := Lib.hid (eqL_refl L)
  have nb := neB u
  have ns := neS S
  go_enter Tryd.func3, Tryd.ntmps3
  go_wp2_with fail
  refine (szBitternS_any _ _ _ _ _ hn (by omega) (by omega)).mono ?_; rintro e w' ⟨rfl, rfl⟩
  rw [Hv.out]
  go_wp2_with fail
  refine (toBitternS_any _ _ _ _ hr hm).mono ?_; rintro e w1 ⟨A1, c1, rfl, o1, hb1⟩
  have z1 := hb1.size
  have s1 := hr.below hb1
  go_wp2_with fail
  refine (C1.out _ _ _ o1.sl).mono ?_; rintro e w2 ⟨rfl, hb2⟩
  have z2 := hb2.size
  have s2 := s1.below (hb2.mono z1)
  have t2 := hb1.trans (hb2.mono z1)
  go_wp2_with fail
  refine (toBitternS_any _ _ _ _ (s2.mono (by omega)) hm).mono ?_; rintro e w3 ⟨A3, c3, rfl, o3, hb3⟩
  have z3 := hb3.size
  have s3 := s2.below (hb3.mono (by omega))
  have t3 := t2.trans (hb3.mono (by omega))
  go_wp2_with fail
  refine (C2.out _ _ _ o3.sl (HT.out.below t3)).mono ?_; rintro e w4 ⟨rfl, hb4⟩
  have z4 := hb4.size
  have s4 := s3.below (hb4.mono (by omega))
  have x4 := o3.next hb4
  have t4 := t3.trans (hb4.mono (by omega))
  go_wp2_with fail
  refine (toBitternS_any _ _ _ _ (s4.mono (by omega)) hm).mono ?_; rintro e w6 ⟨A6, c6, rfl, o6, hb6⟩
  have z6 := hb6.size
  have x6 := x4.next hb6
  have t6 := t4.trans (hb6.mono (by omega))
  go_wp2_with fail
  refine (eqBitternS_any _ _ _ _ _ _ _ x6.sl o6.sl hn).mono ?_; rintro e w7 ⟨rfl, hb7⟩
  rw [E1.out]
  have t7 := t6.trans (hb7.mono (by omega))
  go_wp2
  go_ret
  exact ⟨rfl, t7⟩
end Go.Proofs.YtjpoaiiminofdaaDoor
