/-
  FewestSieves: the program.
-/
import Derived.Test.YtapfnelghmnajaaDoorSms4
import Derived.Test.YtapfnelghmnajaaDoorIdxSmp
import Derived.Laws.EntriesVeiled
import Derived.WalkKit
import Derived.WalkSpells
import Derived.WalkLawsBesides
import Derived.Lib.Hide
import Derived.Deep.QuietTactic
import Derived.BigQuiet
import Derived.StillTailTactics
namespace Go.Proofs.YtapfnelghmnajaaDoor
open Go.RowKit

theorem fewK_len {S : List Int} {T : List (List Int)} (h : fewB S T = true) : (fewK S T).length ≤ 5 := by
  have h1 : setB S = true := by simp [fewB] at h; exact h.1.1
  have hn : S.length < 6 := by
    rw [setB, Bool.and_eq_true] at h1
    have := inB_iff.1 h1.2
    omega
  have hp : ∀ (X : List (List Nat)) (b : List Nat), (∀ C ∈ X, C.length ≤ 5) → b.length ≤ 5 → (X.foldl (takeF (fineF S T)) b).length ≤ 5 := by
    intro X
    induction X with
    | nil => intro b _ hb; exact hb
    | cons C X ih =>
      intro b hX hb
      rw [List.foldl_cons]
      exact ih _ (fun C hC => hX C (by simp [hC])) (takeF_mem (P := fun C => C.length ≤ 5) hb (hX C (by simp)))
  exact hp _ [] (orders_len S.length hn).2 (by simp)
theorem few_fold {S : List Int} {T : List (List Int)} (h : setB S = true) : ([] :: lp S.length S.length []).foldl (takeF (fineF S T)) [] = fewK S T := by
  have hn : S.length < 6 := by
    rw [setB, Bool.and_eq_true] at h
    have := inB_iff.1 h.2
    omega
  rw [List.foldl_cons]
  exact fewest_same (fineF S T) hn
theorem few_any (M : List Smp) : (smls M).all smpB = !M.any (fun x => !smpB x.2.2) := by
  rw [smls, List.all_map]
  induction M with
  | nil => rfl
  | cons x M ih => rw [List.all_cons, List.any_cons, ih]; simp

set_option maxHeartbeats 1000000 in
theorem fewSmp_any (A : Option Addr) (c : Nat) (L : List Int) (w : World) (hr : SlR f1 1 w w.heap.size A L) (hm : (L.length : Int) ≤ 1048576) :
    Calls Tryd.prog 45 #[.agg #[.slice A L.length c]] w fun e w' => e = .returned (.bool (!smpB L)) ∧ Below w.heap.size w w' := by
  have hr' := hr.alloc (.cells #[.slice A L.length c] 29 (0, 0))
  go_enter Tryd.func45, Tryd.ntmps45
  go_wp2_with fail
  refine (IsSample_any _ _ _ _ hr' hm).mono ?_; rintro e w1 ⟨rfl, hb1⟩
  have z1 := hb1.size
  simp at z1
  cases h : smpB L
  all_goals
    go_wp2
    go_ret
    exact ⟨by rw [h]; rfl, by (repeat (first | exact Below.refl _ _ | refine Below.drew ?_ | refine below_drewN ?_ _ | (refine Below.alloc ?_ (by (try simp) <;> omega) _) | (refine Below.setCell ?_ (by (try simp) <;> omega) _) | (refine Below.trans ?_ (Below.mono (by assumption) (by (try simp) <;> omega)))))⟩

set_option maxRecDepth 20000 in
set_option maxHeartbeats 8000000 in
theorem FewestSieves_any (A A' : Option Addr) (c c' : Nat) (S : List Int) (M : List Smp) (w : World) (hr : SlR f1 1 w w.heap.size A S) (hm : (S.length : Int) ≤ 1048576) (hI : ∀ x ∈ S, InI1 x) (hs : SlSm w w.heap.size A' M) (hM : (M.length : Int) ≤ 1048576) (hl : ∀ x ∈ M, (x.2.2.length : Int) ≤ 1048576) (hcap : M.length ≤ c') :
    Calls Tryd.prog 19 #[.slice A S.length c, .slice A' M.length c'] w (NewSl2 f1 1 3 w (fewL S (smls M)) (fewB S (smls M))) := by
  have eg : ∀ args w, (callFunc 45 args).run Tryd.prog w = .ok (.enter 45 args) w := Go.Proofs.enters_of Tryd.func45 (by kernel_rfl) rfl
  have HEG := Lib.hid eg; clear eg
  have HL := Lib.hid hl; clear hl
  have HCAP := Lib.hid hcap; clear hcap
  have hb0 : Below w.heap.size w ((w.alloc (.cells #[.slice A S.length c] 22 (0, 0))).alloc (.cells #[.slice A' M.length c'] 41 (0, 0))) := by (repeat (first | exact Below.refl _ _ | refine Below.drew ?_ | refine below_drewN ?_ _ | (refine Below.alloc ?_ (by (try simp) <;> omega) _) | (refine Below.setCell ?_ (by (try simp) <;> omega) _) | (refine Below.trans ?_ (Below.mono (by assumption) (by (try simp) <;> omega)))))
  have k1 := (Blk.new w 22 #[.slice A S.length c]).alloc (.cells #[.slice A' M.length c'] 41 (0, 0))
  have k2 := Blk.new1 w 41 #[.slice A' M.length c'] (.cells #[.slice A S.length c] 22 (0, 0))
  have HR := Lib.hid (hr.next hb0)
  have HS := Lib.hid (hs.next hb0)
  clear hr hs
  go_enter Tryd.func19, Tryd.ntmps19
  go_wp2_with fail
  generalize hW : (w.alloc (.cells #[.slice A S.length c] 22 (0, 0))).alloc (.cells #[.slice A' M.length c'] 41 (0, 0)) = W at *
  clear hW
  refine (IsSet_any A c S _ HR.out hm hI).mono ?_; rintro e w1 ⟨rfl, hb1⟩
  have HB1 := Lib.hid (hb0.trans (hb1.mono hb0.size))
  have K1 := Lib.hid (k1.below' hb1)
  have K2 := Lib.hid (k2.below' hb1)
  have HR1 := Lib.hid (HR.out.next hb1)
  have HS1 := Lib.hid (HS.out.next hb1)
  have zw1 := HB1.out.size
  have n1 := K1.out.lt
  have n2 := K2.out.lt
  clear hb0 hb1 k1 k2 HR HS
  have c2 := K2.out.cell 0
  cases h1 : setB S
  · have Hb := Lib.hid (show fewB S (smls M) = false by simp [fewB, h1])
    have Hl := Lib.hid (few_no Hb.out)
    clear h1
    go_wp2
    go_ret2
    exact ⟨_, 0, by rw [Hb.out, Hl.out]; rfl, by rw [Hl.out]; exact OwnR.nil, HB1.out⟩
  have H1 := Lib.hid h1
  clear h1
  by_cases h8 : (8 : Int) < M.length
  · have Hb := Lib.hid (show fewB S (smls M) = false by simp [fewB, smls_len]; intro _ h; omega)
    have Hl := Lib.hid (few_no Hb.out)
    go_wp2
    go_ret2
    exact ⟨_, 0, by rw [Hb.out, Hl.out]; rfl, by rw [Hl.out]; exact OwnR.nil, HB1.out⟩
  have h8n : M.length ≤ 8 := by omega
  go_wp2_with fail
  refine (contSmp_any 45 #[] HEG.out (fun x => !smpB x.2.2) A' c' M w1 HS1.out.sl hM (fun W x hx hbx => fewSmp_any x.1 x.2.1 x.2.2 W ((HS1.out.rows x hx).next hbx) (HL.out x hx))).mono ?_; rintro e w2 ⟨rfl, hb2⟩
  have HB2 := Lib.hid (HB1.out.trans (hb2.mono zw1))
  have K12 := Lib.hid (K1.out.below' hb2)
  have K22 := Lib.hid (K2.out.below' hb2)
  have HR2 := Lib.hid (HR1.out.next hb2)
  have HS2 := Lib.hid (HS1.out.next hb2)
  have zw2 := HB2.out.size
  clear hb2 K1 K2 HR1 HS1 HB1 zw1 c2 n1 n2
  cases h2 : M.any (fun x => !smpB x.2.2)
  case true =>
    have Hb := Lib.hid (show fewB S (smls M) = false by rw [fewB, few_any, h2]; simp)
    have Hl := Lib.hid (few_no Hb.out)
    clear h2
    go_wp2
    go_ret2
    exact ⟨_, 0, by rw [Hb.out, Hl.out]; rfl, by rw [Hl.out]; exact OwnR.nil, HB2.out⟩
  have Hb := Lib.hid (show fewB S (smls M) = true by rw [fewB, few_any, h2, H1.out, smls_len]; simp [h8n])
  have Hl := Lib.hid (show fewL S (smls M) = ci (fewK S (smls M)) by simp [fewL, Hb.out])
  clear h2
  have c1 := K12.out.cell 0
  have c2 := K22.out.cell 0
  go_wp2_with fail
  refine (parts_any _ _ _ _ S M _ HR2.out hm HS2.out h8n HL.out HCAP.out).mono ?_; rintro e w3 ⟨v8, rfl, hG8, hb3⟩
  obtain ⟨A8, c8, rfl, ho8⟩ := Gath.own (f := fB) (m := 1) (fun _ => rfl) hG8
  obtain ⟨V, hV⟩ : ∃ V, partsL S (smls M) = V := ⟨_, rfl⟩
  have HV := Lib.hid hV
  rw [hV] at hG8 ho8 ⊢
  clear hV
  have HO8 := Lib.hid ho8.sl
  have HB3 := Lib.hid (HB2.out.trans (hb3.mono zw2))
  have K13 := Lib.hid (K12.out.below' hb3)
  have K23 := Lib.hid (K22.out.below' hb3)
  have HR3 := Lib.hid (HR2.out.next hb3)
  have HS3 := Lib.hid (HS2.out.next hb3)
  have zw3 := HB3.out.size
  clear hG8 ho8 hb3 K12 K22 HR2 HS2 HB2 zw2 c1 c2
  have hS5 : S.length ≤ 5 := by
    have h := H1.out
    rw [setB, Bool.and_eq_true] at h
    have := inB_iff.1 h.2
    omega
  have n1 := K13.out.lt
  have n2 := K23.out.lt
  have hb6 : Below w3.heap.size w3 (((w3.alloc (.cells #[.slice A8 V.length c8] 68 (0, 0))).alloc (.cells #[.slice none 0 0] 22 (0, 0))).alloc (.cells #[.nilFunc] 70 (0, 0))) := by (repeat (first | exact Below.refl _ _ | refine Below.drew ?_ | refine below_drewN ?_ _ | (refine Below.alloc ?_ (by (try simp) <;> omega) _) | (refine Below.setCell ?_ (by (try simp) <;> omega) _) | (refine Below.trans ?_ (Below.mono (by assumption) (by (try simp) <;> omega)))))
  have q1 := ((Blk.new w3 68 #[.slice A8 V.length c8]).alloc (.cells #[.slice none 0 0] 22 (0, 0))).alloc (.cells #[.nilFunc] 70 (0, 0))
  have q2 := (Blk.new1 w3 22 #[.slice none 0 0] (.cells #[.slice A8 V.length c8] 68 (0, 0))).alloc (.cells #[.nilFunc] 70 (0, 0))
  have q3 := Blk.new1 (w3.alloc (.cells #[.slice A8 V.length c8] 68 (0, 0))) 70 #[.nilFunc] (.cells #[.slice none 0 0] 22 (0, 0))
  have ez : (w3.alloc (.cells #[.slice A8 V.length c8] 68 (0, 0))).heap.size = w3.heap.size + 1 := by simp
  rw [ez] at q3
  clear ez
  go_upto_region 6 with fail
  generalize hW6 : ((w3.alloc (.cells #[.slice A8 V.length c8] 68 (0, 0))).alloc (.cells #[.slice none 0 0] 22 (0, 0))).alloc (.cells #[.nilFunc] 70 (0, 0)) = W6 at *
  clear hW6
  have zb6 := hb6.size
  have HB6 := Lib.hid (HB3.out.trans (hb6.mono zw3))
  have K16 := Lib.hid (K13.out.below' hb6)
  have K26 := Lib.hid (K23.out.below' hb6)
  have HR6 := Lib.hid (HR3.out.below hb6)
  have HS6 := Lib.hid (HS3.out.below hb6)
  have HO6 := Lib.hid (HO8.out.below hb6)
  obtain ⟨pw, hpw⟩ : ∃ pw, w3.heap.size = pw := ⟨_, rfl⟩
  obtain ⟨ps, hps⟩ : ∃ ps, w.heap.size = ps := ⟨_, rfl⟩
  rw [hpw] at q1 q2 q3 HR6 HS6 HO6 n1 n2 zb6 ⊢
  rw [hps] at K16 K26 HB6 n1 n2
  clear hb6 K13 K23 HR3 HS3 HO8 HB3
  obtain ⟨pb, hpb⟩ : ∃ pb, pw + 1 = pb := ⟨_, rfl⟩
  obtain ⟨pf, hpf⟩ : ∃ pf, pb + 1 = pf := ⟨_, rfl⟩
  obtain ⟨pl, hpl⟩ : ∃ pl, ps + 1 = pl := ⟨_, rfl⟩
  rw [hpb] at q2 q3
  rw [hpf] at q3
  rw [hpl] at K26 n2
  have Q1 := Lib.hid q1
  have Q2 := Lib.hid q2
  have c3 : W6.cell? ⟨pf, 0, none⟩ = some .nilFunc := q3.cell 0
  have f3 := q3.frozen 0
  have Q3 := Lib.hid q3
  have np := q3.lt
  have e1 : ps ≠ pb := by omega
  have e2 : pl ≠ pb := by omega
  have e3 : pw ≠ pb := by omega
  have e4 : pf ≠ pb := by omega
  have f1' : ps ≠ pf := by omega
  have f2' : pl ≠ pf := by omega
  have f3' : pw ≠ pf := by omega
  clear q1 q2 q3
  obtain ⟨F, hF⟩ : ∃ F : Value, F = .func (.func 47) #[] #[.pointer (some ⟨pb, 0, none⟩), .pointer (some ⟨ps, 0, none⟩), .pointer (some ⟨pl, 0, none⟩), .pointer (some ⟨pw, 0, none⟩), .pointer (some ⟨pf, 0, none⟩)] := ⟨_, rfl⟩
  have hbs : Below pw W6 (W6.setCell ⟨pf, 0, none⟩ F) := (Below.refl _ _).setCell (p := ⟨pf, 0, none⟩) (by show pw ≤ pf; omega) F
  have zs : pw ≤ (W6.setCell ⟨pf, 0, none⟩ F).heap.size := by simpa using zb6
  have hpg : pw ≤ pb := by omega
  have HE := Lib.hid (show Env S M V A A' A8 c c' c8 pb ps pl pw pf (W6.setCell ⟨pf, 0, none⟩ F) by
    refine ⟨K16.out.far1 f1' 0 F, K26.out.far1 f2' 0 F, Q1.out.far1 f3' 0 F, ?_, e1, e2, e3, e4, SlE.of (HR6.out.below hbs) zs hpg, SlE.of (HS6.out.sl.below hbs) zs hpg, fun x hx => SlE.of ((HS6.out.rows x hx).below hbs) zs hpg, SlE.of (HO6.out.below hbs) zs hpg⟩
    have := Q3.out.set_ 0 F
    rw [hF] at this ⊢
    simpa using this)
  have HBest := Lib.hid (show Best ps (W6.setCell ⟨pf, 0, none⟩ F) pb [] from ⟨_, Q2.out.far1 (by omega) 0 F, .inl ⟨rfl, rfl⟩⟩)
  have HBW := Lib.hid (HB6.out.trans (hbs.mono (show ps ≤ pw by omega)))
  have hpsb : ps ≤ pb := by omega
  have HFO := Lib.hid (few_fold (T := smls M) H1.out)
  have hC := choose_any (B0 := ps) (S := S) (M := M) (V := V) (A := A) (A' := A') (A8 := A8) (c := c) (c' := c') (c8 := c8) (pb := pb) (ps := ps) (pl := pl) (pw := pw) (pf := pf) hS5 h8n HL.out HCAP.out HV.out hpsb S.length (Nat.le_refl _) [] [] (.slice none 0 0) _ HE.out (fun k hk => by cases hk) (by simp) (.inl ⟨rfl, rfl⟩) HBest.out
  rw [show (((S.length - S.length : Nat)) : Int) = 0 by simp, HFO.out] at hC
  have HC := Lib.hid hC
  have HF := Lib.hid hF
  rw [hps, hpl, hpb, hpf]
  clear hC K16 K26 HR6 HS6 HO6 HE HBest HFO hbs zs hF
  subst hps
  rw [HF.out] at HC
  go_wp2_with fail
  refine HC.out.mono ?_; rintro e9 w9 ⟨rfl, hB9, hbt9⟩
  rw [← HF.out] at hbt9
  have HB9 := Lib.hid (HBW.out.trans (hbt9.below hpsb (by simpa using Nat.le_trans (Nat.le_of_lt n1) zb6)))
  obtain ⟨v9, kb9, hv9⟩ := hB9
  have c9 := kb9.cell 0
  clear HC hbt9 kb9 c3 f3
  rcases hv9 with ⟨h0, rfl⟩ | ⟨hn, b, cc, rfl, ⟨hb1, hb2⟩, hRw, hCe⟩
  · have H0 := Lib.hid h0
    clear h0
    go_wp2
    go_ret2
    exact ⟨none, 0, by rw [Hb.out, Hl.out, H0.out]; rfl, by rw [Hl.out, H0.out]; exact OwnR.nil, HB9.out⟩
  · have HO := Lib.hid (show OwnR f1 1 3 w9 w.heap.size (some ⟨b, 0, none⟩) (ci (fewK S (smls M))) from fun _ => ⟨b, rfl, hb1, hRw, hCe⟩)
    clear hRw hCe hn
    go_wp2
    go_ret2
    exact ⟨some ⟨b, 0, none⟩, cc, by rw [Hb.out, Hl.out]; rfl, by rw [Hl.out]; exact HO.out, HB9.out⟩
end Go.Proofs.YtapfnelghmnajaaDoor
