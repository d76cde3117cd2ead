/-
  FewestSieves: the reference.
-/
import Derived.Test.YtapfnelghmnajaaDoorSms2
import Derived.Deep.DeepCutAuto
import Derived.BigRegion
import Derived.WalkKit
import Derived.WalkSpells
import Derived.WalkLawsBesides
import Derived.Lib.Hide
import Derived.Deep.QuietTactic
import Derived.BigQuiet
import Derived.StillTailTactics
namespace Go.Proofs.YtapfnelghmnajaaDoor
open Go.RowKit

theorem Gath.kept {α : Type} {f : α → List Value} {m : Nat} {t : TypeId} {w w' : World} {B : Nat} {v : Value} {L : List α} {r : Option Nat} (h : Gath f m t w B v L) (hg : w.grownBy w' r) (hne : v.ownBlock ≠ r) : Gath f m t w' B v L := by
  obtain ⟨h0, h | ⟨g, cap, cur, hv, hB, hh, rr⟩⟩ := h
  · exact ⟨h0, .inl h⟩
  · exact ⟨h0, .inr ⟨g, cap, cur, hv, hB, (hg.block g (Array.getElem?_eq_some_iff.1 hh).1 (fun e => hne (by rw [hv]; exact e))).trans hh, rr⟩⟩
theorem Gath.own_lt {α : Type} {f : α → List Value} {m : Nat} {t : TypeId} {w : World} {B : Nat} {v : Value} {L : List α} (h : Gath f m t w B v L) : ∀ k, v.ownBlock = some k → k < w.heap.size := fun k hk => by
  obtain ⟨_, cs, hh⟩ := h.ownTyB k hk
  exact (Array.getElem?_eq_some_iff.1 hh).1
/-- Two lists gathered side by side. -/
theorem two_kept {a b v' : Value} {s : Nat} (hab : a.ownBlock ≠ b.ownBlock) (hb : ∀ k, b.ownBlock = some k → k < s) (hv : v'.ownBlock = a.ownBlock ∨ v'.ownBlock = some s) : v'.ownBlock ≠ b.ownBlock := by
  rcases hv with h | h
  · rw [h]; exact hab
  · rw [h]; intro e
    have := hb _ e.symm
    omega
theorem one_okI {x : Int} : ∀ u ∈ [Value.int .i64 x], u.oneCell' = true := by
  intro u hu; simp at hu; rw [hu]; rfl

theorem Gath.base {α : Type} {f : α → List Value} {m : Nat} {t : TypeId} {w : World} {B B' : Nat} {v : Value} {L : List α} (h : Gath f m t w B v L) (hB : B' ≤ B) : Gath f m t w B' v L := by
  obtain ⟨h0, h | ⟨g, cap, cur, hv, hB0, rr⟩⟩ := h
  · exact ⟨h0, .inl h⟩
  · exact ⟨h0, .inr ⟨g, cap, cur, hv, Nat.le_trans hB hB0, rr⟩⟩
theorem bit_and : ∀ x : Nat, x < 32 → (Go.bits BinOp.and IntKind.i64 (x : Int) 1 == 1) = decide (x % 2 = 1) := by decide +kernel
theorem bit_at (bits k : Nat) (h : bits ≤ 31) : (Go.bits BinOp.and IntKind.i64 ((bits : Int) / 2 ^ k) 1 == 1) = decide (bits / 2 ^ k % 2 = 1) := by
  have he : (bits : Int) / 2 ^ k = ((bits / 2 ^ k : Nat) : Int) := by norm_cast
  have hl : bits / 2 ^ k < 32 := Nat.lt_of_le_of_lt (Nat.div_le_self _ _) (by omega)
  rw [he, bit_and _ hl]
theorem eqL_step {P W : List Bool} {i : Nat} {x y : Bool} (hx : P[i]? = some x) (hy : W[i]? = some y) : eqL (P.take (i + 1)) (W.take (i + 1)) = (eqL (P.take i) (W.take i) && decide (x = y)) := by
  have h1 : P.take (i + 1) = P.take i ++ [x] := by rw [List.take_add_one, hx]; rfl
  have h2 : W.take (i + 1) = W.take i ++ [y] := by rw [List.take_add_one, hy]; rfl
  have hl : (P.take i).length = (W.take i).length := by
    have := (List.getElem?_eq_some_iff.1 hx).1
    have := (List.getElem?_eq_some_iff.1 hy).1
    rw [List.length_take, List.length_take]; omega
  rw [h1, h2]
  unfold eqL
  by_cases h : P.take i = W.take i ∧ x = y
  · obtain ⟨e1, e2⟩ := h
    simp [e1, e2]
  · have hn : ¬ (P.take i ++ [x] = W.take i ++ [y]) := fun e => by
      obtain ⟨e1, e2⟩ := List.append_inj e hl
      simp at e2
      exact h ⟨e1, e2⟩
    by_cases e1 : P.take i = W.take i
    · have e2 : ¬ x = y := fun e2 => h ⟨e1, e2⟩
      simp [e1, e2]
    · have : ¬ (P.take i ++ [x] = W.take i ++ [y]) := hn
      simp only [decide_eq_false this, decide_eq_false e1, Bool.false_and]
theorem few_no {S : List Int} {T : List (List Int)} (h : fewB S T = false) : fewL S T = [] := by simp [fewL, h]

set_option maxRecDepth 20000 in
set_option maxHeartbeats 8000000 in
theorem SFewest_any (A A' : Option Addr) (c c' : Nat) (S : List Int) (M : List Smp) (w : World) (hr : SlR f1 1 w w.heap.size A S) (hm : (S.length : Int) ≤ 1048576) (hI : ∀ x ∈ S, InI1 x) (hs : SlSm w w.heap.size A' M) (hM : (M.length : Int) ≤ 1048576) (hl : ∀ x ∈ M, (x.2.2.length : Int) ≤ 1048576) :
    Calls Tryd.prog 20 #[.slice A S.length c, .slice A' M.length c'] w (NewSl2 f1 1 3 w (fewL S (smls M)) (fewB S (smls M))) := by
  obtain ⟨i0, hi, hz0, hz1, hz2⟩ := info_parts infoInt
  have HI0 := Lib.hid hi; have HZ0 := Lib.hid hz0; have HZ1 := Lib.hid hz1; have HZ2 := Lib.hid hz2
  clear hi hz0 hz1 hz2
  have HL := Lib.hid hl; clear hl
  have HI := Lib.hid hI; clear hI
  have mixed : Tryd.prog.follows .mixedOrders = true := by kernel_rfl
  have hb0 : Below w.heap.size w (w.alloc (.cells #[] 3 (0, 0))) := by (repeat (first | exact Below.refl _ _ | refine Below.drew ?_ | refine below_drewN ?_ _ | (refine Below.alloc ?_ (by (try simp) <;> omega) _) | (refine Below.setCell ?_ (by (try simp) <;> omega) _) | (refine Below.trans ?_ (Below.mono (by assumption) (by (try simp) <;> omega)))))
  have HR := Lib.hid (hr.next hb0)
  have HS := Lib.hid (hs.next hb0)
  have HG := Lib.hid (Gath.made (f := f1) (m := 1) (t := 3) (B := w.heap.size) (w := w) (Nat.le_refl _))
  clear hr hs
  go_enter Tryd.func20, Tryd.ntmps20
  go_wp2_with fail
  refine (l14Set_any A c S _ HR.out hm HI.out).mono ?_; rintro e w1 ⟨rfl, hb1⟩
  generalize w.alloc (.cells #[] 3 (0, 0)) = W at *
  have hb01 := hb0.trans (hb1.mono hb0.size)
  have HB01 := Lib.hid hb01
  have HG1 := Lib.hid (HG.out.below hb1)
  have HR1 := Lib.hid (HR.out.next hb1)
  have HS1 := Lib.hid (HS.out.next hb1)
  have zw1 := hb01.size
  clear hb0 hb1 HR HS HG hb01
  cases h1 : setB S
  · have Hb := Lib.hid (show fewB S (smls M) = false by simp [fewB, h1])
    have Hl := Lib.hid (few_no Hb.out)
    clear h1
    go_wp2
    go_ret2
    exact ⟨_, 0, by rw [Hb.out, Hl.out]; rfl, by rw [Hl.out]; exact OwnR.nil, HB01.out⟩
  have H1 := Lib.hid h1
  clear h1
  by_cases h8 : (8 : Int) < M.length
  · have Hb := Lib.hid (show fewB S (smls M) = false by simp [fewB, smls_len]; intro _ h; omega)
    have Hl := Lib.hid (few_no Hb.out)
    go_wp2
    go_ret2
    exact ⟨_, 0, by rw [Hb.out, Hl.out]; rfl, by rw [Hl.out]; exact OwnR.nil, HB01.out⟩
  have h8n : M.length ≤ 8 := by omega
  go_wp2
  go_loopw [7] (fun v7 wr => ∃ i : Nat, v7 = .int .i64 i ∧ i ≤ M.length ∧ Hid (∀ j, j < i → ∀ x, M[j]? = some x → smpB x.2.2 = true) ∧ Below w1.heap.size w1 wr) (fun v7 _ => (M.length - intOf v7).toNat)
  case atStart => exact ⟨0, rfl, by omega, fun j h => by omega, Below.refl _ _⟩
  case round =>
    obtain ⟨i, rfl, hil, hp, hb⟩ := hrel
    by_cases hlt : i < M.length
    · have hi0 : (0 : Int) ≤ (i : Int) := by omega
      have hi1 : (i : Int) < (M.length : Int) := by omega
      have hx : M[i]? = some M[i] := List.getElem?_eq_getElem hlt
      generalize M[i] = x at hx
      obtain ⟨b, off, rfl, hB, hC⟩ := HS1.out.sl (SlR.ne hx)
      have c0 := cellM (hC.below hb hB) hx
      have HX := Lib.hid hx
      have HRX := Lib.hid (((HS1.out.rows x (List.mem_of_getElem? hx)).below hb).mono hb.size)
      have hxl := HL.out x (List.mem_of_getElem? hx)
      clear hC hx hlt
      go_wp2_with fail
      refine (l14Sample_any _ _ _ _ HRX.out hxl).mono ?_; rintro e w2 ⟨rfl, hb2⟩
      have hb2' := hb.trans (hb2.mono hb.size)
      clear c0 hb hb2
      cases hsm : smpB x.2.2
      · have Hb := Lib.hid (show fewB S (smls M) = false by
          have : (smls M).all smpB = false := by
            rw [List.all_eq_false]
            exact ⟨x.2.2, List.mem_map.2 ⟨x, List.mem_of_getElem? HX.out, rfl⟩, by rw [hsm]; simp⟩
          simp [fewB, this])
        have Hl := Lib.hid (few_no Hb.out)
        have HB9 := Lib.hid (HB01.out.trans (hb2'.mono zw1))
        clear hsm hp
        go_wp2
        go_ret2
        exact ⟨_, 0, by rw [Hb.out, Hl.out]; rfl, by rw [Hl.out]; exact OwnR.nil, HB9.out⟩
      · have Hp : Hid (∀ j, j < i + 1 → ∀ x, M[j]? = some x → smpB x.2.2 = true) := fun j hj y hy => by
          by_cases e : j = i
          · subst e; rw [HX.out] at hy; cases hy; exact hsm
          · exact hp.out j (by omega) y hy
        clear hsm hp
        go_wp2
        go_roundw
        case rel => exact ⟨i + 1, by go_num, by omega, Hp, hb2'⟩
        case measure => simp only [intOf]; omega
    · have Hb := Lib.hid (show fewB S (smls M) = true by
        have : (smls M).all smpB = true := by
          rw [List.all_eq_true]
          intro l hl
          obtain ⟨x, hx, rfl⟩ := List.mem_map.1 hl
          obtain ⟨j, hj, rfl⟩ := List.getElem_of_mem hx
          exact hp.out j (by omega) _ (List.getElem?_eq_getElem hj)
        simp [fewB, H1.out, this, smls_len]; omega)
      have Hl := Lib.hid (show fewL S (smls M) = ci (fewK S (smls M)) by simp [fewL, Hb.out])
      have HRr := Lib.hid (HR1.out.next (hb.mono (Nat.le_refl _)))
      have HSr := Lib.hid (HS1.out.next hb)
      have HGr := Lib.hid (HG1.out.below hb)
      have HBr := Lib.hid (HB01.out.trans (hb.mono zw1))
      have zr := hb.size
      have hiM : i = M.length := by omega
      subst hiM
      clear hp hlt hil HR1 HS1 HG1 hb
      go_wp2_with fail
      refine (l14Parted_any _ _ _ _ _ _ _ HRr.out hm HSr.out h8n HL.out).mono ?_; rintro e w2 ⟨v8, rfl, hG8, hb2⟩
      obtain ⟨A8, c8, rfl, ho8⟩ := Gath.own (f := fB) (m := 1) (fun _ => rfl) hG8
      have hn5 : 1 ≤ S.length ∧ S.length ≤ 5 := by
        have h := H1.out
        rw [setB, Bool.and_eq_true] at h
        have := inB_iff.1 h.2
        omega
      have hN5 : 2 ^ S.length ≤ 32 := Nat.pow_le_pow_right (n := 2) (by omega) hn5.2
      have hN1 : 2 ≤ 2 ^ S.length := Nat.le_trans (by decide) (Nat.pow_le_pow_right (n := 2) (by omega) hn5.1)
      have hpc : (2 : Int) ^ S.length = ((2 ^ S.length : Nat) : Int) := by norm_cast
      have hw1 : wrap64 ((2 : Int) ^ S.length) = (2 : Int) ^ S.length := IntWalk.wrap64_in _ (by omega)
      have hw2 : wrap64 ((2 : Int) ^ S.length - 1) = (2 : Int) ^ S.length - 1 := IntWalk.wrap64_in _ (by omega)
      have HO8 := Lib.hid ho8.sl
      have HPL := Lib.hid (partsL_le S (smls M) (by rw [smls_len]; exact h8n))
      have HB2 := Lib.hid (HBr.out.trans (hb2.mono (Nat.le_trans zw1 zr)))
      have HS2 := Lib.hid (HSr.out.next hb2)
      have HR2 := Lib.hid (HRr.out.next hb2)
      have HG2 := Lib.hid (HGr.out.below hb2)
      have HN := Lib.hid (show ((2 ^ S.length - 1 : Nat) : Int) = (2 : Int) ^ S.length - 1 by omega)
      have hn5i : (S.length : Int) ≤ 5 := by omega
      have hn0i : (1 : Int) ≤ S.length := by omega
      have z2 := hb2.size
      obtain ⟨n1, n5⟩ := hn5
      have HW1 := Lib.hid hw1
      have HW2 := Lib.hid hw2
      clear hG8 ho8 HSr HRr HGr HBr hb2 hpc hw1 hw2
      obtain ⟨bS, oS, rfl, hBS, hCS⟩ := HR2.out (by intro e; rw [e] at n1; simp at n1)
      have HCS := Lib.hid hCS
      clear hCS
      obtain ⟨V, hV⟩ : ∃ V, partsL S (smls M) = V := ⟨_, rfl⟩
      have HV := Lib.hid hV
      rw [hV] at HO8 HPL ⊢
      clear hV
      go_wp2
      go_loopw [6, 9] (fun v6 v9 wr => ∃ (r : Nat) (bits : Nat), v9 = .int .i64 bits ∧ Hid (bits = 2 ^ S.length - 1 - r) ∧ Hid (r ≤ 2 ^ S.length - 1) ∧ Hid (Gath f1 1 3 wr w.heap.size v6 (ci (refK S (smls M) r))) ∧ Below w2.heap.size w2 wr) (fun _ v9 _ => (intOf v9).toNat)
      case atStart => exact ⟨0, 2 ^ S.length - 1, by rw [HN.out, HW1.out, HW2.out], rfl, Nat.zero_le _, HG2.out, Below.refl _ _⟩
      case round =>
        obtain ⟨wo, rfl⟩ : ∃ wo, wo = wr := ⟨_, rfl⟩
        obtain ⟨r, bits, rfl, hbi, hrl, hG, hb⟩ := hrel
        have hb31 : bits ≤ 31 := by have := hbi.out; omega
        have hb31i : (bits : Int) ≤ 31 := by omega
        have zr := hb.size
        obtain ⟨A6, c6, rfl, ho6⟩ := Gath.own (f := f1) (m := 1) (fun _ => rfl) hG.out
        have HO6 := Lib.hid ho6
        clear ho6
        by_cases hpos : 0 < bits
        · have hposi : (0 : Int) < (bits : Int) := by omega
          have hb3 : Below wo.heap.size wo ((wo.alloc (.cells #[] 3 (0, 0))).alloc (.cells #[] 3 (0, 0))) := by (repeat (first | exact Below.refl _ _ | refine Below.drew ?_ | refine below_drewN ?_ _ | (refine Below.alloc ?_ (by (try simp) <;> omega) _) | (refine Below.setCell ?_ (by (try simp) <;> omega) _) | (refine Below.trans ?_ (Below.mono (by assumption) (by (try simp) <;> omega)))))
          have hGA := Lib.hid ((Gath.made (f := f1) (m := 1) (t := 3) (B := wo.heap.size) (w := wo) (Nat.le_refl _)).alloc (.cells #[] 3 (0, 0)))
          have hGB := Lib.hid (Gath.made (f := f1) (m := 1) (t := 3) (B := wo.heap.size) (w := wo.alloc (.cells #[] 3 (0, 0))) (by simp))
          rw [World.size_alloc] at hGB
          have HNE := Lib.hid (ids_ne S.length (by omega) bits (by omega) hpos (by have := hbi.out; omega))
          have HPOS := Lib.hid hposi
          clear hposi
          go_wp2
          generalize (wo.alloc (.cells #[] 3 (0, 0))).alloc (.cells #[] 3 (0, 0)) = W3 at *
          obtain ⟨q, hq⟩ : ∃ q, wo.heap.size = q := ⟨_, rfl⟩
          have HQ := Lib.hid hq
          have hqb : w2.heap.size ≤ q := by omega
          have HB4 := Lib.hid hb
          rw [hq] at hb3 hGA hGB ⊢
          clear hq hb
          go_loopw [10, 11, 12] (fun v10 v11 v12 wq => ∃ i : Nat, v12 = .int .i64 i ∧ i ≤ S.length ∧ Hid (Gath f1 1 3 wq q v10 (ci (idsTo S.length bits i))) ∧ Hid (Gath f1 1 3 wq q v11 (someOf S (idsTo S.length bits i))) ∧ Hid (v10.ownBlock ≠ v11.ownBlock) ∧ Below q wo wq) (fun _ _ v12 _ => (S.length - intOf v12).toNat)
          case atStart => exact ⟨0, rfl, by omega, hGA.out, hGB.out, by show _ ≠ _; simp [Value.ownBlock], hb3⟩
          case round =>
            obtain ⟨i, rfl, hil, hGa, hGb, hne, hbq⟩ := hrel
            have zq : q ≤ wr.heap.size := by have := hbq.size; have := HQ.out; omega
            by_cases hlt : i < S.length
            · have hi0 : (0 : Int) ≤ (i : Int) := by omega
              have hi1 : (i : Int) < (S.length : Int) := by omega
              obtain ⟨x0, hx⟩ : ∃ x0, S[i]? = some x0 := ⟨_, List.getElem?_eq_getElem hlt⟩
              have HSX := Lib.hid (show S.getD i 0 = x0 from getD_of hx)
              have HLEN := Lib.hid (show (idsTo S.length bits i).length ≤ 5 by have := idsTo_len S.length bits i; omega)
              have hbit := bit_at bits (S.length - 1 - i) hb31
              have HIS := Lib.hid (idsTo_succ S.length bits i)
              clear hlt
              cases hd : decide (bits / 2 ^ (S.length - 1 - i) % 2 = 1)
              · rw [hd] at hbit
                have HE := Lib.hid (HIS.out.trans (if_neg (of_decide_eq_false hd)))
                clear hd hx
                go_wp2
                go_roundw
                case rel => exact ⟨i + 1, by go_num, by omega, by rw [HE.out]; exact hGa.out, by rw [HE.out]; exact hGb.out, hne.out, hbq⟩
                case measure => simp only [intOf]; omega
              · rw [hd] at hbit
                have HE := Lib.hid (HIS.out.trans (if_pos (of_decide_eq_true hd)))
                clear hd
                have HGa := Lib.hid (hGa.out.alloc (.cells #[.int .i64 i] 3))
                have HGb := Lib.hid (hGb.out.alloc (.cells #[.int .i64 i] 3))
                have HBA := Lib.hid (hbq.alloc zq (.cells #[.int .i64 i] 3))
                have HX := Lib.hid hx
                clear hx
                go_wp2_with (at_builtin; refine wpList_append_own_at _ rfl _ _ 22 rfl q 3 i0 (.int .i64 0) 1 8 Tryd.underlying22 HI0.out HZ0.out HZ1.out HZ2.out rfl (by decide) _ _ _ rfl HGa.out ⟨_, 0, none⟩ 1 1 [.int .i64 i] rfl rfl (cell_one_new _ _ _) one_okI ?c3 ?c4 ?c5 ?c6)
                case c3 => rw [ci_len]; have := HLEN.out; unfold maxLen; omega
                case c4 => rw [ci_len]; have := HLEN.out; omega
                case c5 => simp; omega
                case c6 =>
                  intro v' w9 hown hgrow _ hat
                  have hG9 := Lib.hid (Gath.snoc (x := (i : Int)) hown)
                  have hGb9 := HGb.out.kept hgrow (Ne.symm hne.out)
                  have hne9 := Lib.hid (two_kept hne.out (fun k hk => by have := HGb.out.own_lt k hk; simpa using this) hat)
                  have hb9 : Below q wo w9 := below_grown' HBA.out hgrow HGa.out (Nat.le_refl _) (by simp; omega)
                  have z9 : q ≤ w9.heap.size := by have := hb9.size; have := HQ.out; omega
                  have HGb9 := Lib.hid (hGb9.alloc (.cells #[.int .i64 x0] 3))
                  have HG9 := Lib.hid (hG9.out.alloc (.cells #[.int .i64 x0] 3))
                  have HB9 := Lib.hid (hb9.alloc z9 (.cells #[.int .i64 x0] 3))
                  have c0 := cells1 (HCS.out.below (HB4.out.trans (hb9.mono hqb)) hBS) HX.out
                  clear hown hgrow hat hGb9 hG9 HBA HGa HGb hGa hGb hb9 hne
                  go_wp2_with (at_builtin; refine wpList_append_own_at _ rfl _ _ 22 rfl q 3 i0 (.int .i64 0) 1 8 Tryd.underlying22 HI0.out HZ0.out HZ1.out HZ2.out rfl (by decide) _ _ _ rfl HGb9.out ⟨_, 0, none⟩ 1 1 [.int .i64 x0] rfl rfl (cell_one_new _ _ _) one_okI ?d3 ?d4 ?d5 ?d6)
                  case d3 => rw [someOf_len]; have := HLEN.out; unfold maxLen; omega
                  case d4 => rw [someOf_len]; have := HLEN.out; omega
                  case d5 => simp; omega
                  case d6 =>
                    intro v'' w10 hown hgrow _ hat
                    have hG10 := Lib.hid (Gath.snoc (x := x0) hown)
                    have hGa10 := Lib.hid (HG9.out.kept hgrow hne9.out)
                    have hne10 := Lib.hid (two_kept (Ne.symm hne9.out) (fun k hk => by have := HG9.out.own_lt k hk; simpa using this) hat)
                    have hb10 : Below q wo w10 := below_grown' HB9.out hgrow HGb9.out (Nat.le_refl _) (by simp; omega)
                    clear hown hgrow hat c0 HB9 HG9 HGb9 hne9
                    go_wp2
                    go_roundw
                    case rel => exact ⟨i + 1, by go_num, by omega, by rw [HE.out, ci_snoc]; exact hGa10.out, by rw [HE.out, someOf_snoc, HSX.out]; exact hG10.out, Ne.symm hne10.out, hb10⟩
                    case measure => simp only [intOf]; omega
            · obtain rfl : i = S.length := by omega
              obtain ⟨A10, c10, rfl, hoA⟩ := Gath.own (f := f1) (m := 1) (fun _ => rfl) hGa.out
              obtain ⟨A11, c11, rfl, hoB⟩ := Gath.own (f := f1) (m := 1) (fun _ => rfl) hGb.out
              have hids : idsTo S.length bits S.length = idsOf S.length bits := rfl
              rw [hids] at hGa hGb hoA hoB ⊢
              clear hids
              have hil5 : (idsOf S.length bits).length ≤ 5 := by have := idsTo_len S.length bits S.length; exact Nat.le_trans this n5
              have HSB := Lib.hid (refK_succ S (smls M) r)
              rw [← hbi.out] at HSB
              generalize idsOf S.length bits = C at *
              have hbw : Below w2.heap.size w2 wr := HB4.out.trans (hbq.mono hqb)
              have HSW := Lib.hid (((HS2.out.below hbw).mono hbw.size))
              have HOB := Lib.hid hoB.sl
              have HOA := Lib.hid hoA.sl
              have HBW := Lib.hid hbw
              have h6l : Hid (SlR f1 1 wo wo.heap.size A6 (ci (refK S (smls M) r))) := HO6.out.sl
              have HG6 := Lib.hid (hG.out.below (hbq.mono (by have := HQ.out; omega)))
              have HGA2 := Lib.hid hGa.out
              have hlC : (((someOf S C).length : Nat) : Int) ≤ 1048576 := by rw [someOf_len]; omega
              clear hoA hoB hGa hGb hne hlt hG hGA hGB HO6 h6l hbw
              go_wp2_with fail
              refine (l14Parted_any _ _ _ _ _ _ _ HOB.out hlC HSW.out h8n HL.out).mono ?_; rintro e w5 ⟨v13, rfl, hG13, hb5⟩
              obtain ⟨A13, c13, rfl, ho13⟩ := Gath.own (f := fB) (m := 1) (fun _ => rfl) hG13
              have HO13 := Lib.hid ho13.sl
              have HBW5 := Lib.hid (HBW.out.trans (hb5.mono (by have := HBW.out.size; omega)))
              have HO85 := Lib.hid (((HO8.out.below HBW5.out).mono HBW5.out.size))
              have HG65 := Lib.hid (HG6.out.below hb5)
              have HGA5 := Lib.hid (HGA2.out.below hb5)
              have hPl : (partsL (someOf S C) (smls M)).length = V.length := by rw [← HV.out]; exact partsL_len _ _ _
              have HPl := Lib.hid hPl
              have HF := Lib.hid (show fineF S (smls M) C = eqL (partsL (someOf S C) (smls M)) V from (by rw [← HV.out]; rfl))
              clear hG13 ho13 HBW HG6 HGA2 HOB hPl hb5
              generalize partsL (someOf S C) (smls M) = P at *
              go_wp2
              go_loopw [14, 15] (fun v14 v15 wr => ∃ (j : Nat) (fb : Bool), v15 = .int .i64 j ∧ j ≤ V.length ∧ v14 = .bool fb ∧ Hid (fb = eqL (P.take j) (V.take j)) ∧ Below w5.heap.size w5 wr) (fun _ v15 _ => (V.length - intOf v15).toNat)
              case atStart => exact ⟨0, true, rfl, by omega, rfl, rfl, Below.refl _ _⟩
              case round =>
                obtain ⟨j, fb, rfl, hjl, rfl, hfb, hb6⟩ := hrel
                by_cases hlt : j < V.length
                · have hj0 : (0 : Int) ≤ (j : Int) := by omega
                  have hj1 : (j : Int) < (V.length : Int) := by omega
                  have hv64 : (V.length : Int) ≤ 64 := by have := HPL.out; omega
                  have hj2 : (j : Int) < (P.length : Int) := by have := HPl.out; omega
                  obtain ⟨y, hy⟩ : ∃ y, V[j]? = some y := ⟨_, List.getElem?_eq_getElem hlt⟩
                  obtain ⟨x, hx⟩ : ∃ x, P[j]? = some x := ⟨_, List.getElem?_eq_getElem (by have := HPl.out; omega)⟩
                  obtain ⟨b1, o1, rfl, hB1, hC1⟩ := HO13.out (SlR.ne hx)
                  obtain ⟨b2, o2, rfl, hB2, hC2⟩ := HO85.out (SlR.ne hy)
                  have c1 := cellsB (hC1.below hb6 hB1) hx
                  have c2 := cellsB (hC2.below hb6 hB2) hy
                  have HST := Lib.hid (eqL_step hx hy)
                  rw [← hfb.out] at HST
                  clear hC1 hC2 hx hy hfb hlt
                  cases fb
                  · go_wp2
                    go_quiet (fail)
                    go_wp2
                    go_roundw
                    case rel => exact ⟨j + 1, false, by go_num, by omega, rfl, by rw [HST.out]; rfl, by (repeat (first | exact Below.refl _ _ | refine Below.drew ?_ | refine below_drewN ?_ _ | (refine Below.alloc ?_ (by (try simp) <;> omega) _) | (refine Below.setCell ?_ (by (try simp) <;> omega) _) | (refine Below.trans ?_ (Below.mono (by assumption) (by (try simp) <;> omega)))))⟩
                    case measure => simp only [intOf]; omega
                  · cases x <;> cases y
                    all_goals
                      go_wp2
                      go_quiet (fail)
                      go_wp2
                      go_roundw
                      case rel => exact ⟨j + 1, _, by go_num, by omega, rfl, by rw [HST.out]; rfl, by (repeat (first | exact Below.refl _ _ | refine Below.drew ?_ | refine below_drewN ?_ _ | (refine Below.alloc ?_ (by (try simp) <;> omega) _) | (refine Below.setCell ?_ (by (try simp) <;> omega) _) | (refine Below.trans ?_ (Below.mono (by assumption) (by (try simp) <;> omega)))))⟩
                      case measure => simp only [intOf]; omega
                · have hjV : j = V.length := by omega
                  have hfb2 : fb = fineF S (smls M) C := by
                    have h1 := hfb.out
                    rw [hjV, List.take_of_length_le (by have := HPl.out; omega), List.take_of_length_le (Nat.le_refl _)] at h1
                    rw [h1, HF.out]
                  have HFB := Lib.hid hfb2
                  subst hjV
                  have HG69 := Lib.hid (HG65.out.below hb6)
                  have HGA9 := Lib.hid ((HGA5.out.below hb6).base (B' := w.heap.size) (by have := HQ.out; have := HB2.out.size; omega))
                  have HB9 := Lib.hid (HBW5.out.trans (hb6.mono HBW5.out.size))
                  have hbn : ((bits : Int) - 1) = ((bits - 1 : Nat) : Int) := by have := HPOS.out; omega
                  have HBN := Lib.hid hbn
                  clear hfb hfb2 HG65 HGA5 hb6 hlt hbn HF
                  have hcl1 := ci_len C
                  have hcl2 := ci_len (refK S (smls M) r)
                  have HC1 := Lib.hid hcl1
                  have HC2 := Lib.hid hcl2
                  clear hcl1 hcl2
                  cases fb
                  · skip
                    have HT := Lib.hid (HSB.out.trans (takeF_no (.inl HFB.out.symm)))
                    go_wp2
                    go_roundw
                    case rel => exact ⟨r + 1, bits - 1, by rw [← HBN.out], by have := hbi.out; show _ = _; omega, by have := hbi.out; have := hrl.out; have := HPOS.out; show _ ≤ _; omega, by rw [HT.out]; exact HG69.out, HB9.out⟩
                    case measure => simp only [intOf]; have := HPOS.out; omega
                  · by_cases h0 : (refK S (smls M) r).length = 0
                    · have h0b : (((ci (refK S (smls M) r)).length : Int) == 0) = true := by rw [HC2.out, h0]; rfl
                      have H0 := Lib.hid (List.length_eq_zero_iff.1 h0)
                      clear h0
                      have HT := Lib.hid (HSB.out.trans (takeF_yes HNE.out HFB.out.symm (.inl H0.out)))
                      go_wp2
                      go_roundw
                      case rel => exact ⟨r + 1, bits - 1, by rw [← HBN.out], by have := hbi.out; show _ = _; omega, by have := hbi.out; have := hrl.out; have := HPOS.out; show _ ≤ _; omega, by rw [HT.out]; exact HGA9.out, HB9.out⟩
                      case measure => simp only [intOf]; have := HPOS.out; omega
                    · have h0b : (((ci (refK S (smls M) r)).length : Int) == 0) = false := by
                        rw [beq_eq_false_iff_ne, HC2.out]; omega
                      by_cases hs : C.length < (refK S (smls M) r).length
                      · have hsi : ((ci C).length : Int) < ((ci (refK S (smls M) r)).length : Int) := by rw [HC1.out, HC2.out]; omega
                        have HS9 := Lib.hid hs
                        clear h0 hs
                        have HT := Lib.hid (HSB.out.trans (takeF_yes HNE.out HFB.out.symm (.inr HS9.out)))
                        go_wp2
                        go_roundw
                        case rel => exact ⟨r + 1, bits - 1, by rw [← HBN.out], by have := hbi.out; show _ = _; omega, by have := hbi.out; have := hrl.out; have := HPOS.out; show _ ≤ _; omega, by rw [HT.out]; exact HGA9.out, HB9.out⟩
                        case measure => simp only [intOf]; have := HPOS.out; omega
                      · have hsi : ¬ ((ci C).length : Int) < ((ci (refK S (smls M) r)).length : Int) := by rw [HC1.out, HC2.out]; omega
                        have HS9 := Lib.hid hs
                        have H0 := Lib.hid (show refK S (smls M) r ≠ [] by intro e; rw [e] at h0; exact h0 rfl)
                        clear h0 hs
                        have HT := Lib.hid (HSB.out.trans (takeF_no (.inr (.inl ⟨H0.out, HS9.out⟩))))
                        go_wp2
                        go_roundw
                        case rel => exact ⟨r + 1, bits - 1, by rw [← HBN.out], by have := hbi.out; show _ = _; omega, by have := hbi.out; have := hrl.out; have := HPOS.out; show _ ≤ _; omega, by rw [HT.out]; exact HG69.out, HB9.out⟩
                        case measure => simp only [intOf]; have := HPOS.out; omega
        · have hb0 : bits = 0 := by omega
          have hr9 : r = 2 ^ S.length - 1 := by have := hbi.out; have := hrl.out; omega
          have HF := Lib.hid (show refK S (smls M) r = fewK S (smls M) by rw [hr9]; rfl)
          have hB9 : Below w.heap.size w wo := HB2.out.trans (hb.mono (by have := HB2.out.size; omega))
          have HB9 := Lib.hid hB9
          have HO9 := Lib.hid (show OwnR f1 1 3 wo w.heap.size A6 (ci (fewK S (smls M))) from (by rw [← HF.out]; exact HO6.out))
          have HLN := Lib.hid (show (ci (refK S (smls M) r)).length = (ci (fewK S (smls M))).length by rw [HF.out])
          subst hb0
          clear hr9 hpos hB9
          go_wp2
          go_ret2
          exact ⟨A6, c6, by rw [Hb.out, Hl.out, ← HLN.out]; rfl, by rw [Hl.out]; exact HO9.out, HB9.out⟩
end Go.Proofs.YtapfnelghmnajaaDoor
