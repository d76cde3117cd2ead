/-
  Plain facts that the law FnTracks asks.
  The law FnTracks, walked.
-/
import Derived.Test.YtfcmfadkkfkidaaRev0
import Derived.Test.YtfcmfadkkfkidaaLqZ
import Derived.Test.YtfcmfadkkfkidaaTrip5
import Derived.Test.YtfcmfadkkfkidaaDrawTZ
import Derived.Test.YtfcmfadkkfkidaaRev1
import Derived.Test.YtfcmfadkkfkidaaMt2
import Derived.Test.YtfcmfadkkfkidaaSecH
import Derived.Test.YtfcmfadkkfkidaaRs
import Derived.Deep.DeepCutAuto
import Derived.WalkKit
import Derived.WalkSpells
import Derived.WalkLawsBesides
import Derived.Lib.Hide
import Derived.Deep.QuietTactic
import Derived.BigQuiet
import Derived.StillTailTactics
namespace Go.Proofs.Ytfcmfadkkfkidaa
open Go.RowKit

theorem entM_symm (x y : T5) (s : Int) : entM x y s = entM y x s := by
  rw [Bool.eq_iff_iff, entM_iff, entM_iff]
  constructor <;> (rintro ⟨h1, h2, h3, h4⟩; exact ⟨h2, h1, h4, h3⟩)
theorem meetB_symm (x y : T5) : meetB x y = meetB y x := by
  have h1 : secsB x y = secsB y x := by
    unfold secsB
    congr 1
    funext s
    exact entM_symm x y s
  have h2 : endsB x y = endsB y x := by
    unfold endsB
    rw [Bool.eq_iff_iff]
    simp only [Bool.or_eq_true, Bool.and_eq_true, decide_eq_true_eq]
    constructor
    · rintro (⟨h1, h2⟩ | ⟨h1, h2⟩)
      · exact .inl ⟨h1.symm, h2.symm⟩
      · exact .inr ⟨h1.symm, h2.symm⟩
    · rintro (⟨h1, h2⟩ | ⟨h1, h2⟩)
      · exact .inl ⟨h1.symm, h2.symm⟩
      · exact .inr ⟨h1.symm, h2.symm⟩
  unfold meetB
  rw [h1, h2]
theorem arr_symm (b c d : Int) : arr b c d = arr c b d := by
  unfold arr
  split <;> split <;> omega
theorem okT_rev {x : T5} : okT (revT x) = okT x := by
  have e : decide (x.2.2.1 = x.2.1) = decide (x.2.1 = x.2.2.1) := decide_eq_decide.2 ⟨Eq.symm, Eq.symm⟩
  unfold okT revT tripB
  simp only []
  rw [arr_symm x.2.2.1 x.2.1, e]
  cases inB x.2.1 0 9 <;> cases inB x.2.2.1 0 9 <;> simp
theorem revT_revT (x : T5) : revT (revT x) = x := rfl
theorem trips_set {L : List T5} {k : Nat} {x : T5} (ht : tripsB L = true) (hx : L[k]? = some x) : tripsB (L.set k (revT x)) = true := by
  have hc : chain trip1 trip2 L = true := by rw [tripsB, Bool.and_eq_true] at ht; exact ht.1
  have hk := (List.getElem?_eq_some_iff.1 hx).1
  have hl := tripsB_len ht
  have key : ∀ j y, (L.set k (revT x))[j]? = some y → ∃ z, L[j]? = some z ∧ z.1 = y.1 ∧ trip1 y = trip1 z := fun j y hy => by
    by_cases e : j = k
    · subst e
      rw [List.getElem?_set_self hk] at hy
      cases hy
      exact ⟨x, hx, rfl, okT_rev⟩
    · rw [List.getElem?_set_ne (Ne.symm e)] at hy
      exact ⟨y, hy, rfl, rfl⟩
  have hch : chain trip1 trip2 (L.set k (revT x)) = true := chain_ok fun j hj => by
    obtain ⟨y, hy⟩ : ∃ y, (L.set k (revT x))[j]? = some y := ⟨_, List.getElem?_eq_getElem hj⟩
    obtain ⟨z, hz, _, h1⟩ := key j y hy
    have hone : trip1 y = true := by rw [h1]; exact chain_one hc hz
    cases j with
    | zero => exact ok_zero hy hone
    | succ j =>
      obtain ⟨p, hp⟩ : ∃ p, (L.set k (revT x))[j]? = some p := ⟨_, List.getElem?_eq_getElem (by omega)⟩
      obtain ⟨q, hq, h2, _⟩ := key j p hp
      obtain ⟨z, hz, h3, _⟩ := key (j + 1) y hy
      refine ok_succ hy hp hone ?_
      have := chain_two hc hz hq
      simp only [trip2, decide_eq_true_eq] at this ⊢
      omega
  rw [tripsB_ok hch, List.length_set]
  exact decide_eq_true (by omega)
theorem at_set {L : List T5} {id : Int} {k : Nat} {x y : T5} (hk : atT L id = (k : Int)) (hx : L[k]? = some x) (hy : y.1 = x.1) : atT (L.set k y) id = (k : Int) := by
  unfold atT idxOf at hk ⊢
  have hkl := (List.getElem?_eq_some_iff.1 hx).1
  cases hf : L.findIdx? (atB id) with
  | none => rw [hf] at hk; simp at hk
  | some k' =>
    rw [hf] at hk
    simp only [] at hk
    have e : k' = k := by omega
    subst e
    rw [List.findIdx?_eq_some_iff_getElem] at hf
    obtain ⟨h1, h2, h3⟩ := hf
    have : (L.set k' y).findIdx? (atB id) = some k' := by
      rw [List.findIdx?_eq_some_iff_getElem]
      refine ⟨by rw [List.length_set]; exact h1, ?_, fun j hj => ?_⟩
      · rw [List.getElem_set_self]
        have hx2 := (List.getElem?_eq_some_iff.1 hx).2
        rw [hx2] at h2
        simp only [atB, decide_eq_true_eq] at h2 ⊢
        rw [hy]; exact h2
      · rw [List.getElem_set_ne (by omega)]
        exact h3 j hj
    rw [this]
theorem met_back {L : List T5} {k : Nat} {x : T5} (ht : tripsB L = true) (h : mtL L = []) (hx : L[k]? = some x) : metB (L.set k (revT x)) x = false := by
  unfold metB
  rw [List.any_eq_false]
  intro y hy
  obtain ⟨j, hj, rfl⟩ := List.getElem_of_mem hy
  rw [List.getElem_set]
  unfold anyB
  split
  · show ¬ (!decide ((revT x).1 = x.1) && meetB (revT x) x) = true
    simp [revT]
  · rename_i hne
    have hj' : j < L.length := by simpa using hj
    have hyj : L[j]? = some L[j] := List.getElem?_eq_getElem hj'
    have : meetB L[j] x = false := by
      rcases Nat.lt_or_ge j k with hlt | hge
      · exact noMeet ht h hlt hyj hx
      · rw [meetB_symm]; exact noMeet ht h (by omega) hx hyj
    simp [this]
theorem rv_back {L : List T5} {id : Int} (hu : rvU L id = true) (h : mtL L = []) : rvL (rvL L id) id = L ∧ rvU (rvL L id) id = true := by
  unfold rvU at hu
  obtain ⟨l, hl⟩ := Option.isSome_iff_exists.1 hu
  rw [(rv_yes hl).1]
  have ht : tripsB L = true ∧ 0 ≤ atT L id := by
    unfold rvO at hl
    split at hl
    · rename_i h1; simpa using h1
    · cases hl
  obtain ⟨k, x, hk, hx, hid⟩ := at_some ht.2
  have hm : metB L (revT x) = false := by
    cases hm : metB L (revT x)
    · rfl
    · rw [rv_met hk hx hm] at hl; cases hl
  rw [rv_ok ht.1 hk hx hm] at hl
  cases hl
  have h2 := rv_ok (L := L.set k (revT x)) (id := id) (k := k) (x := revT x) (trips_set ht.1 hx) (at_set hk hx rfl) (by rw [List.getElem?_set_self (List.getElem?_eq_some_iff.1 hx).1]) (by rw [revT_revT]; exact met_back ht.1 h hx)
  rw [revT_revT, List.set_set] at h2
  have hset : L.set k x = L := by
    have := List.getElem?_eq_some_iff.1 hx
    obtain ⟨h3, h4⟩ := this
    rw [← h4]; exact List.set_getElem_self h3
  rw [hset] at h2
  exact rv_yes h2
theorem rvU_trips {L : List T5} {id : Int} (hu : rvU L id = true) : tripsB L = true := by
  cases h : tripsB L
  · rw [(rv_no (rv_off (.inl h))).2] at hu; cases hu
  · rfl
theorem rvL_small {L : List T5} {id : Int} (h : ∀ x ∈ L, InI5 x) : ∀ x ∈ rvL L id, InI5 x := fun y hy => by
  cases hl : rvO L id with
  | none => rw [(rv_no hl).1] at hy; cases hy
  | some l =>
    rw [(rv_yes hl).1] at hy
    unfold rvO at hl
    split at hl
    · split at hl
      · rename_i x hx
        split at hl
        · cases hl
        · cases hl
          rcases List.mem_or_eq_of_mem_set hy with hy | hy
          · exact h y hy
          · have := h x (List.mem_of_getElem? hx)
            rw [hy]; exact ⟨this.1, this.2.2.1, this.2.1, this.2.2.2⟩
      · cases hl
    · cases hl
def ldU (L : List T5) (p q : Int) : Bool := tripsB L && inB p 0 9 && inB q 0 1440
def ldN (L : List T5) (p q : Int) : Int := if ldU L p q then loadSum L p q L.length else 0
theorem loadV_ld (L : List T5) (p q : Int) : loadV L p q = .tuple #[.int .i64 (ldN L p q), .bool (ldU L p q)] := by
  unfold loadV ldN ldU
  split <;> rename_i h
  · rw [h]
  · simp only [Bool.not_eq_true] at h; rw [h]
theorem toAt_mono {L : List T5} {p q : Int} {k : Nat} {x : T5} (hx : L[k]? = some x) (hb : 0 ≤ x.2.2.2.2) : toAt L p q k ≤ toAt L p (q + 1) k := by
  unfold toAt
  rw [hx]
  dsimp only
  by_cases h1 : x.2.2.1 = p
  · by_cases h2 : arr x.2.1 x.2.2.1 x.2.2.2.1 ≤ q
    · have h3 : arr x.2.1 x.2.2.1 x.2.2.2.1 ≤ q + 1 := by omega
      rw [if_pos (by rw [decide_eq_true h1, decide_eq_true h2]; rfl), if_pos (by rw [decide_eq_true h1, decide_eq_true h3]; rfl)]
      exact Int.le_refl _
    · rw [if_neg (by simp [h2])]
      split
      · exact hb
      · exact Int.le_refl _
  · rw [if_neg (by simp [h1]), if_neg (by simp [h1])]
    exact Int.le_refl _
theorem ld_mono {L : List T5} {p q : Int} (h1 : ldU L p q = true) (h2 : ldU L p (q + 1) = true) : ldN L p q ≤ ldN L p (q + 1) := by
  have ht : tripsB L = true := by simp only [ldU, Bool.and_eq_true] at h1; exact h1.1.1
  unfold ldN
  rw [if_pos h1, if_pos h2]
  have : ∀ k, k ≤ L.length → loadSum L p q k ≤ loadSum L p (q + 1) k := by
    intro k
    induction k with
    | zero => intro _; exact Int.le_refl _
    | succ k ih =>
      intro hk
      have ih := ih (by omega)
      have hx : L[k]? = some L[k] := List.getElem?_eq_getElem (by omega)
      have hb := (tripB_bounds (tripsB_one ht hx)).2.2.2.2.2.2
      have := toAt_mono (p := p) (q := q) hx (by omega)
      unfold loadSum
      omega
  exact this L.length (Nat.le_refl _)
end Go.Proofs.Ytfcmfadkkfkidaa
namespace Go.Proofs.Ytfcmfadkkfkidaa
open Go.RowKit

set_option maxHeartbeats 32000000 in
set_option maxRecDepth 100000 in
theorem walk_FnTracks (A : Option Addr) (c : Nat) (L : List Int) (hI : ∀ x ∈ L, 0 ≤ x ∧ x ≤ 255) (wo : World) (hs : SlR fb 1 wo wo.heap.size A L) :
    Calls Try.prog 14 #[.slice A L.length c] wo fun e w' => e = .returned (.bool true) ∧ Below wo.heap.size wo w' := by
  by_cases hl : (65536 : Int) < L.length
  · go_enter Try.func14, Try.ntmps14
    go_wp2_with (go_at_call 50; refine (rBig_any _ _ _ _).mono ?_; rintro e w' ⟨rfl, rfl⟩)
    go_ret
    exact ⟨rfl, Below.refl _ _⟩
  have hl : (L.length : Int) ≤ 65536 := by omega
  have hz0 : (0 : Int) ≤ L.length := by omega
  go_enter Try.func14, Try.ntmps14
  go_wp2_with (go_at_call 50; refine (rBig_any _ _ _ _).mono ?_; rintro e w' ⟨rfl, rfl⟩)
  refine (DrawReverseTrip_any A c L _ hI hl hs).mono ?_; rintro e w1 ⟨v, rfl, ⟨A1, c1, F, id, rfl, ⟨hF, s1, hcap⟩, -⟩, hb01⟩
  have hFl := hF.1
  have HIF := Lib.hid hF.inI
  have hm : (F.length : Int) ≤ 1048576 := by omega
  have HCAP := Lib.hid hcap
  have C2 := Lib.hid (ReverseTrip_any A1 c1 F id w1 s1 hm HIF.out)
  clear hcap hF
  go_wp2_with fail
  refine C2.out.mono ?_; rintro e w2 ⟨A2, c2, rfl, o2, hb2⟩
  have hb02 := hb01.trans (hb2.mono hb01.size)
  have s2 := s1.next hb2
  have C3 := Lib.hid (SReverseTrip_any A1 c1 F id w2 s2 hm HIF.out)
  clear C2 hb01 hb2 s1
  go_wp2_with fail
  refine C3.out.mono ?_; rintro e w3 ⟨A3, c3, rfl, o3, hb3⟩
  have hb03 := hb02.trans (hb3.mono hb02.size)
  have s3 := s2.next hb3
  have r2 := Lib.hid (o2.next hb3).sl
  have r3 := Lib.hid o3.sl
  have hRl := rvL_len F id
  have HRI := Lib.hid (rvL_small (id := id) HIF.out)
  have HBK := Lib.hid (fun hu h => rv_back (L := F) (id := id) hu h)
  have HTR := Lib.hid (fun hu => rvU_trips (L := F) (id := id) hu)
  clear C3 hb02 hb3 s2 o2 o3
  generalize rvL F id = R at *
  generalize rvU F id = u at *
  have nb := neB u
  have C4 := Lib.hid (rTrips_same A2 A3 c2 c3 R w3 r2.out r3.out (by omega))
  go_wp2_with fail
  refine C4.out.mono ?_; rintro e w4 ⟨rfl, hb4⟩
  have hb04 := hb03.trans (hb4.mono hb03.size)
  have s4 := s3.next hb4
  have r4 := Lib.hid (r2.out.next hb4)
  have C5 := Lib.hid (MeetingTrips_any A1 c1 F w4 s4 hm HIF.out HCAP.out)
  clear C4 hb03 hb4 s3 r2 r3
  go_wp2_with fail
  refine C5.out.mono ?_; rintro e w5 ⟨A5, c5, M, rfl, hM, o5, hb5⟩
  have hb05 := hb04.trans (hb5.mono hb04.size)
  have s5 := s4.next hb5
  have r5 := Lib.hid (r4.out.next hb5)
  have C6 := Lib.hid (SMeetingTrips_any A1 c1 F w5 s5 hm HIF.out)
  clear C5 hb04 hb5 s4 r4
  go_wp2_with fail
  refine C6.out.mono ?_; rintro e w6 ⟨A6, c6, N, rfl, hN, o6, hb6⟩
  have hb06 := hb05.trans (hb6.mono hb05.size)
  have s6 := s5.next hb6
  have r6 := Lib.hid (r5.out.next hb6)
  obtain ⟨hml, hmb⟩ := mtL_facts F
  have hMl : M.length = (mtL F).length := by rw [← lls_len, hM]
  have C7 := Lib.hid (rTable_same A5 A6 c5 c6 M N w6 (o5.next hb6).sl o6.sl (hM.trans hN.symm) (by omega) (fun l h => by rw [hM] at h; have := hmb l h; omega))
  have HM := Lib.hid hM
  clear C6 hb05 hb6 s5 r5 hN hM hMl hml hmb o5 o6
  generalize hf : tripsB F = f at *
  have HTF : Hid (u = true → f = true) := HTR
  clear hf HTR
  have nf := neB f
  go_wp2_with fail
  refine C7.out.mono ?_; rintro e w7 ⟨rfl, hb7⟩
  have hb07 := hb06.trans (hb7.mono hb06.size)
  have s7 := s6.next hb7
  have r7 := Lib.hid (r6.out.next hb7)
  clear C7 hb06 hb7 s6 r6
  have C8 := Lib.hid (ReverseTrip_any A2 c2 R id w7 r7.out (by omega) HRI.out)
  cases u
  case false =>
    clear HBK HTF s7 HCAP
    go_wp2_with fail
    refine C8.out.mono ?_; rintro e w8 ⟨A8, c8, rfl, -, hb8⟩
    have hb08 := hb07.trans (hb8.mono hb07.size)
    clear C8 hb07 hb8 r7 HM
    go_wp2_with fail
    refine (DrawLoadsTo_any A c L _ hI hl (hs.next hb08)).mono ?_; rintro e w11 ⟨v, rfl, ⟨A11, c11, G, p, q, rfl, ⟨hG, s11, -⟩, hp, hq⟩, hb11⟩
    have hb011 := hb08.trans (hb11.mono hb08.size)
    have hGl := hG.1
    have HIG := Lib.hid hG.inI
    have hmG : (G.length : Int) ≤ 1048576 := by omega
    have hpI := hp.inI
    have hqI := hq.inI
    have hq1I : InI (q + 1) := ⟨by have := hq.1; omega, by have := hq.2; omega⟩
    have hqb : q ≤ 1000000000 := hq.2
    have hqb0 : -1000000000 ≤ q := hq.1
    have C12 := Lib.hid (show Calls Try.prog 27 #[.slice A11 G.length c11, .int .i64 p, .int .i64 q] w11 (fun e w' => e = .returned (.tuple #[.int .i64 (ldN G p q), .bool (ldU G p q)]) ∧ Below w11.heap.size w11 w') from by have := LoadsTo_any A11 c11 G p q w11 s11 hmG HIG.out hpI hqI; rw [loadV_ld] at this; exact this)
    clear hb08 hb11 hG hp hq
    go_wp2_with fail
    refine C12.out.mono ?_; rintro e w12 ⟨rfl, hb12⟩
    have hb012 := hb011.trans (hb12.mono hb011.size)
    have s12 := s11.next hb12
    have C13 := Lib.hid (show Calls Try.prog 26 #[.slice A11 G.length c11, .int .i64 p, .int .i64 q] w12 (fun e w' => e = .returned (.tuple #[.int .i64 (ldN G p q), .bool (ldU G p q)]) ∧ Below w12.heap.size w12 w') from by have := SLoadsTo_any A11 c11 G p q w12 s12 hmG HIG.out hpI hqI; rw [loadV_ld] at this; exact this)
    clear C12 hb011 hb12 s11
    go_wp2_with fail
    refine C13.out.mono ?_; rintro e w13 ⟨rfl, hb13⟩
    have hb013 := hb012.trans (hb13.mono hb012.size)
    have s13 := s12.next hb13
    have C14 := Lib.hid (show Calls Try.prog 27 #[.slice A11 G.length c11, .int .i64 p, .int .i64 (q + 1)] w13 (fun e w' => e = .returned (.tuple #[.int .i64 (ldN G p (q + 1)), .bool (ldU G p (q + 1))]) ∧ Below w13.heap.size w13 w') from by have := LoadsTo_any A11 c11 G p (q + 1) w13 s13 hmG HIG.out hpI hq1I; rw [loadV_ld] at this; exact this)
    have HLM := Lib.hid (ld_mono (L := G) (p := p) (q := q))
    clear C13 hb012 hb13 s12
    generalize ldN G p q = n1 at *
    generalize ldU G p q = b1 at *
    generalize ldN G p (q + 1) = n2 at *
    generalize ldU G p (q + 1) = b2 at *
    have ni1 := neI n1
    have nb1 := neB b1
    go_wp2_with fail
    refine C14.out.mono ?_; rintro e w14 ⟨rfl, hb14⟩
    have hb014 := hb013.trans (hb14.mono hb013.size)
    clear C14 hb013 hb14 s13
    cases b1
    · clear HLM
      go_wp2_with fail
      refine (DrawLongestQuiet_any A c L _ hI hl (hs.next hb014)).mono ?_; rintro e w15 ⟨v, rfl, ⟨A15, c15, U, s, rfl, ⟨hU, s15, hcap2⟩, -⟩, hb15⟩
      have hb015 := hb014.trans (hb15.mono hb014.size)
      have hUl := hU.1
      have HIU := Lib.hid hU.inI
      have hmU : (U.length : Int) ≤ 1048576 := by omega
      have HCAP := Lib.hid hcap2
      have C16 := Lib.hid (LongestQuiet_any A15 c15 U s w15 s15 hmU HIU.out hcap2)
      clear hb014 hb15 hU hcap2
      go_wp2_with fail
      refine C16.out.mono ?_; rintro e w16 ⟨rfl, hb16⟩
      have hb016 := hb015.trans (hb16.mono hb015.size)
      have s16 := s15.next hb16
      have C17 := Lib.hid (SLongestQuiet_any A15 c15 U s w16 s16 hmU HIU.out)
      clear C16 hb015 hb16 s15
      go_wp2_with fail
      refine C17.out.mono ?_; rintro e w17 ⟨rfl, hb17⟩
      have hb017 := hb016.trans (hb17.mono hb016.size)
      have s17 := s16.next hb17
      have C18 := Lib.hid (MeetingTrips_any A15 c15 U w17 s17 hmU HIU.out HCAP.out)
      have hq0 := lqN_ge U s
      have hq1 : ¬ lqN U s < 0 := by omega
      have HB := Lib.hid (show lqB U s = true → tripsB U = true ∧ mtL U = [] from fun h => by simp only [lqB, Bool.and_eq_true, decide_eq_true_eq] at h; exact h.1)
      clear C17 hb016 hb17 s16
      generalize lqN U s = n9 at *
      generalize lqB U s = b9 at *
      have ni9 := neI n9
      have nb9 := neB b9
      go_wp2_with fail
      refine C18.out.mono ?_; rintro e w18 ⟨A18, c18, M9, rfl, hM9, -, hb18⟩
      have hb018 := hb017.trans (hb18.mono hb017.size)
      clear C18 hb017 hb18 s17
      cases b9
      · clear hM9 HB
        go_wp2
        go_ret
        exact ⟨rfl, hb018⟩
      · obtain ⟨ht9, hm9⟩ := HB.out rfl
        obtain rfl := mt_nil hM9 hm9
        rw [ht9]
        clear hM9 HB ht9 hm9
        go_wp2
        go_ret
        exact ⟨rfl, hb018⟩
    cases b2
    · clear HLM
      go_wp2_with fail
      refine (DrawLongestQuiet_any A c L _ hI hl (hs.next hb014)).mono ?_; rintro e w15 ⟨v, rfl, ⟨A15, c15, U, s, rfl, ⟨hU, s15, hcap2⟩, -⟩, hb15⟩
      have hb015 := hb014.trans (hb15.mono hb014.size)
      have hUl := hU.1
      have HIU := Lib.hid hU.inI
      have hmU : (U.length : Int) ≤ 1048576 := by omega
      have HCAP := Lib.hid hcap2
      have C16 := Lib.hid (LongestQuiet_any A15 c15 U s w15 s15 hmU HIU.out hcap2)
      clear hb014 hb15 hU hcap2
      go_wp2_with fail
      refine C16.out.mono ?_; rintro e w16 ⟨rfl, hb16⟩
      have hb016 := hb015.trans (hb16.mono hb015.size)
      have s16 := s15.next hb16
      have C17 := Lib.hid (SLongestQuiet_any A15 c15 U s w16 s16 hmU HIU.out)
      clear C16 hb015 hb16 s15
      go_wp2_with fail
      refine C17.out.mono ?_; rintro e w17 ⟨rfl, hb17⟩
      have hb017 := hb016.trans (hb17.mono hb016.size)
      have s17 := s16.next hb17
      have C18 := Lib.hid (MeetingTrips_any A15 c15 U w17 s17 hmU HIU.out HCAP.out)
      have hq0 := lqN_ge U s
      have hq1 : ¬ lqN U s < 0 := by omega
      have HB := Lib.hid (show lqB U s = true → tripsB U = true ∧ mtL U = [] from fun h => by simp only [lqB, Bool.and_eq_true, decide_eq_true_eq] at h; exact h.1)
      clear C17 hb016 hb17 s16
      generalize lqN U s = n9 at *
      generalize lqB U s = b9 at *
      have ni9 := neI n9
      have nb9 := neB b9
      go_wp2_with fail
      refine C18.out.mono ?_; rintro e w18 ⟨A18, c18, M9, rfl, hM9, -, hb18⟩
      have hb018 := hb017.trans (hb18.mono hb017.size)
      clear C18 hb017 hb18 s17
      cases b9
      · clear hM9 HB
        go_wp2
        go_ret
        exact ⟨rfl, hb018⟩
      · obtain ⟨ht9, hm9⟩ := HB.out rfl
        obtain rfl := mt_nil hM9 hm9
        rw [ht9]
        clear hM9 HB ht9 hm9
        go_wp2
        go_ret
        exact ⟨rfl, hb018⟩
    have hlm := HLM.out rfl rfl
    have hlm2 : ¬ n2 < n1 := by omega
    clear HLM hlm
    go_wp2_with fail
    refine (DrawLongestQuiet_any A c L _ hI hl (hs.next hb014)).mono ?_; rintro e w15 ⟨v, rfl, ⟨A15, c15, U, s, rfl, ⟨hU, s15, hcap2⟩, -⟩, hb15⟩
    have hb015 := hb014.trans (hb15.mono hb014.size)
    have hUl := hU.1
    have HIU := Lib.hid hU.inI
    have hmU : (U.length : Int) ≤ 1048576 := by omega
    have HCAP := Lib.hid hcap2
    have C16 := Lib.hid (LongestQuiet_any A15 c15 U s w15 s15 hmU HIU.out hcap2)
    clear hb014 hb15 hU hcap2
    go_wp2_with fail
    refine C16.out.mono ?_; rintro e w16 ⟨rfl, hb16⟩
    have hb016 := hb015.trans (hb16.mono hb015.size)
    have s16 := s15.next hb16
    have C17 := Lib.hid (SLongestQuiet_any A15 c15 U s w16 s16 hmU HIU.out)
    clear C16 hb015 hb16 s15
    go_wp2_with fail
    refine C17.out.mono ?_; rintro e w17 ⟨rfl, hb17⟩
    have hb017 := hb016.trans (hb17.mono hb016.size)
    have s17 := s16.next hb17
    have C18 := Lib.hid (MeetingTrips_any A15 c15 U w17 s17 hmU HIU.out HCAP.out)
    have hq0 := lqN_ge U s
    have hq1 : ¬ lqN U s < 0 := by omega
    have HB := Lib.hid (show lqB U s = true → tripsB U = true ∧ mtL U = [] from fun h => by simp only [lqB, Bool.and_eq_true, decide_eq_true_eq] at h; exact h.1)
    clear C17 hb016 hb17 s16
    generalize lqN U s = n9 at *
    generalize lqB U s = b9 at *
    have ni9 := neI n9
    have nb9 := neB b9
    go_wp2_with fail
    refine C18.out.mono ?_; rintro e w18 ⟨A18, c18, M9, rfl, hM9, -, hb18⟩
    have hb018 := hb017.trans (hb18.mono hb017.size)
    clear C18 hb017 hb18 s17
    cases b9
    · clear hM9 HB
      go_wp2
      go_ret
      exact ⟨rfl, hb018⟩
    · obtain ⟨ht9, hm9⟩ := HB.out rfl
      obtain rfl := mt_nil hM9 hm9
      rw [ht9]
      clear hM9 HB ht9 hm9
      go_wp2
      go_ret
      exact ⟨rfl, hb018⟩
  case true =>
    obtain rfl := HTF.out rfl
    by_cases hmt : mtL F = []
    · obtain ⟨k1, k2⟩ := HBK.out rfl hmt
      obtain rfl := mt_nil HM.out hmt
      rw [k1, k2] at C8
      clear HBK HTF hmt k1 k2 HCAP
      go_wp2_with fail
      refine C8.out.mono ?_; rintro e w9 ⟨A8, c8, rfl, o8, hb8⟩
      have hb09 := hb07.trans (hb8.mono hb07.size)
      have s8 := s7.next hb8
      have C9 := Lib.hid (rTrips_same A8 A1 c8 c1 F w9 o8.sl s8 (by omega))
      clear C8 hb07 hb8 s7 r7 o8 HM
      go_wp2_with fail
      refine C9.out.mono ?_; rintro e w10 ⟨rfl, hb10⟩
      have hb08 := hb09.trans (hb10.mono hb09.size)
      clear C9 hb09 hb10 s8
      go_wp2_with fail
      refine (DrawLoadsTo_any A c L _ hI hl (hs.next hb08)).mono ?_; rintro e w11 ⟨v, rfl, ⟨A11, c11, G, p, q, rfl, ⟨hG, s11, -⟩, hp, hq⟩, hb11⟩
      have hb011 := hb08.trans (hb11.mono hb08.size)
      have hGl := hG.1
      have HIG := Lib.hid hG.inI
      have hmG : (G.length : Int) ≤ 1048576 := by omega
      have hpI := hp.inI
      have hqI := hq.inI
      have hq1I : InI (q + 1) := ⟨by have := hq.1; omega, by have := hq.2; omega⟩
      have hqb : q ≤ 1000000000 := hq.2
      have hqb0 : -1000000000 ≤ q := hq.1
      have C12 := Lib.hid (show Calls Try.prog 27 #[.slice A11 G.length c11, .int .i64 p, .int .i64 q] w11 (fun e w' => e = .returned (.tuple #[.int .i64 (ldN G p q), .bool (ldU G p q)]) ∧ Below w11.heap.size w11 w') from by have := LoadsTo_any A11 c11 G p q w11 s11 hmG HIG.out hpI hqI; rw [loadV_ld] at this; exact this)
      clear hb08 hb11 hG hp hq
      go_wp2_with fail
      refine C12.out.mono ?_; rintro e w12 ⟨rfl, hb12⟩
      have hb012 := hb011.trans (hb12.mono hb011.size)
      have s12 := s11.next hb12
      have C13 := Lib.hid (show Calls Try.prog 26 #[.slice A11 G.length c11, .int .i64 p, .int .i64 q] w12 (fun e w' => e = .returned (.tuple #[.int .i64 (ldN G p q), .bool (ldU G p q)]) ∧ Below w12.heap.size w12 w') from by have := SLoadsTo_any A11 c11 G p q w12 s12 hmG HIG.out hpI hqI; rw [loadV_ld] at this; exact this)
      clear C12 hb011 hb12 s11
      go_wp2_with fail
      refine C13.out.mono ?_; rintro e w13 ⟨rfl, hb13⟩
      have hb013 := hb012.trans (hb13.mono hb012.size)
      have s13 := s12.next hb13
      have C14 := Lib.hid (show Calls Try.prog 27 #[.slice A11 G.length c11, .int .i64 p, .int .i64 (q + 1)] w13 (fun e w' => e = .returned (.tuple #[.int .i64 (ldN G p (q + 1)), .bool (ldU G p (q + 1))]) ∧ Below w13.heap.size w13 w') from by have := LoadsTo_any A11 c11 G p (q + 1) w13 s13 hmG HIG.out hpI hq1I; rw [loadV_ld] at this; exact this)
      have HLM := Lib.hid (ld_mono (L := G) (p := p) (q := q))
      clear C13 hb012 hb13 s12
      generalize ldN G p q = n1 at *
      generalize ldU G p q = b1 at *
      generalize ldN G p (q + 1) = n2 at *
      generalize ldU G p (q + 1) = b2 at *
      have ni1 := neI n1
      have nb1 := neB b1
      go_wp2_with fail
      refine C14.out.mono ?_; rintro e w14 ⟨rfl, hb14⟩
      have hb014 := hb013.trans (hb14.mono hb013.size)
      clear C14 hb013 hb14 s13
      cases b1
      · clear HLM
        go_wp2_with fail
        refine (DrawLongestQuiet_any A c L _ hI hl (hs.next hb014)).mono ?_; rintro e w15 ⟨v, rfl, ⟨A15, c15, U, s, rfl, ⟨hU, s15, hcap2⟩, -⟩, hb15⟩
        have hb015 := hb014.trans (hb15.mono hb014.size)
        have hUl := hU.1
        have HIU := Lib.hid hU.inI
        have hmU : (U.length : Int) ≤ 1048576 := by omega
        have HCAP := Lib.hid hcap2
        have C16 := Lib.hid (LongestQuiet_any A15 c15 U s w15 s15 hmU HIU.out hcap2)
        clear hb014 hb15 hU hcap2
        go_wp2_with fail
        refine C16.out.mono ?_; rintro e w16 ⟨rfl, hb16⟩
        have hb016 := hb015.trans (hb16.mono hb015.size)
        have s16 := s15.next hb16
        have C17 := Lib.hid (SLongestQuiet_any A15 c15 U s w16 s16 hmU HIU.out)
        clear C16 hb015 hb16 s15
        go_wp2_with fail
        refine C17.out.mono ?_; rintro e w17 ⟨rfl, hb17⟩
        have hb017 := hb016.trans (hb17.mono hb016.size)
        have s17 := s16.next hb17
        have C18 := Lib.hid (MeetingTrips_any A15 c15 U w17 s17 hmU HIU.out HCAP.out)
        have hq0 := lqN_ge U s
        have hq1 : ¬ lqN U s < 0 := by omega
        have HB := Lib.hid (show lqB U s = true → tripsB U = true ∧ mtL U = [] from fun h => by simp only [lqB, Bool.and_eq_true, decide_eq_true_eq] at h; exact h.1)
        clear C17 hb016 hb17 s16
        generalize lqN U s = n9 at *
        generalize lqB U s = b9 at *
        have ni9 := neI n9
        have nb9 := neB b9
        go_wp2_with fail
        refine C18.out.mono ?_; rintro e w18 ⟨A18, c18, M9, rfl, hM9, -, hb18⟩
        have hb018 := hb017.trans (hb18.mono hb017.size)
        clear C18 hb017 hb18 s17
        cases b9
        · clear hM9 HB
          go_wp2
          go_ret
          exact ⟨rfl, hb018⟩
        · obtain ⟨ht9, hm9⟩ := HB.out rfl
          obtain rfl := mt_nil hM9 hm9
          rw [ht9]
          clear hM9 HB ht9 hm9
          go_wp2
          go_ret
          exact ⟨rfl, hb018⟩
      cases b2
      · clear HLM
        go_wp2_with fail
        refine (DrawLongestQuiet_any A c L _ hI hl (hs.next hb014)).mono ?_; rintro e w15 ⟨v, rfl, ⟨A15, c15, U, s, rfl, ⟨hU, s15, hcap2⟩, -⟩, hb15⟩
        have hb015 := hb014.trans (hb15.mono hb014.size)
        have hUl := hU.1
        have HIU := Lib.hid hU.inI
        have hmU : (U.length : Int) ≤ 1048576 := by omega
        have HCAP := Lib.hid hcap2
        have C16 := Lib.hid (LongestQuiet_any A15 c15 U s w15 s15 hmU HIU.out hcap2)
        clear hb014 hb15 hU hcap2
        go_wp2_with fail
        refine C16.out.mono ?_; rintro e w16 ⟨rfl, hb16⟩
        have hb016 := hb015.trans (hb16.mono hb015.size)
        have s16 := s15.next hb16
        have C17 := Lib.hid (SLongestQuiet_any A15 c15 U s w16 s16 hmU HIU.out)
        clear C16 hb015 hb16 s15
        go_wp2_with fail
        refine C17.out.mono ?_; rintro e w17 ⟨rfl, hb17⟩
        have hb017 := hb016.trans (hb17.mono hb016.size)
        have s17 := s16.next hb17
        have C18 := Lib.hid (MeetingTrips_any A15 c15 U w17 s17 hmU HIU.out HCAP.out)
        have hq0 := lqN_ge U s
        have hq1 : ¬ lqN U s < 0 := by omega
        have HB := Lib.hid (show lqB U s = true → tripsB U = true ∧ mtL U = [] from fun h => by simp only [lqB, Bool.and_eq_true, decide_eq_true_eq] at h; exact h.1)
        clear C17 hb016 hb17 s16
        generalize lqN U s = n9 at *
        generalize lqB U s = b9 at *
        have ni9 := neI n9
        have nb9 := neB b9
        go_wp2_with fail
        refine C18.out.mono ?_; rintro e w18 ⟨A18, c18, M9, rfl, hM9, -, hb18⟩
        have hb018 := hb017.trans (hb18.mono hb017.size)
        clear C18 hb017 hb18 s17
        cases b9
        · clear hM9 HB
          go_wp2
          go_ret
          exact ⟨rfl, hb018⟩
        · obtain ⟨ht9, hm9⟩ := HB.out rfl
          obtain rfl := mt_nil hM9 hm9
          rw [ht9]
          clear hM9 HB ht9 hm9
          go_wp2
          go_ret
          exact ⟨rfl, hb018⟩
      have hlm := HLM.out rfl rfl
      have hlm2 : ¬ n2 < n1 := by omega
      clear HLM hlm
      go_wp2_with fail
      refine (DrawLongestQuiet_any A c L _ hI hl (hs.next hb014)).mono ?_; rintro e w15 ⟨v, rfl, ⟨A15, c15, U, s, rfl, ⟨hU, s15, hcap2⟩, -⟩, hb15⟩
      have hb015 := hb014.trans (hb15.mono hb014.size)
      have hUl := hU.1
      have HIU := Lib.hid hU.inI
      have hmU : (U.length : Int) ≤ 1048576 := by omega
      have HCAP := Lib.hid hcap2
      have C16 := Lib.hid (LongestQuiet_any A15 c15 U s w15 s15 hmU HIU.out hcap2)
      clear hb014 hb15 hU hcap2
      go_wp2_with fail
      refine C16.out.mono ?_; rintro e w16 ⟨rfl, hb16⟩
      have hb016 := hb015.trans (hb16.mono hb015.size)
      have s16 := s15.next hb16
      have C17 := Lib.hid (SLongestQuiet_any A15 c15 U s w16 s16 hmU HIU.out)
      clear C16 hb015 hb16 s15
      go_wp2_with fail
      refine C17.out.mono ?_; rintro e w17 ⟨rfl, hb17⟩
      have hb017 := hb016.trans (hb17.mono hb016.size)
      have s17 := s16.next hb17
      have C18 := Lib.hid (MeetingTrips_any A15 c15 U w17 s17 hmU HIU.out HCAP.out)
      have hq0 := lqN_ge U s
      have hq1 : ¬ lqN U s < 0 := by omega
      have HB := Lib.hid (show lqB U s = true → tripsB U = true ∧ mtL U = [] from fun h => by simp only [lqB, Bool.and_eq_true, decide_eq_true_eq] at h; exact h.1)
      clear C17 hb016 hb17 s16
      generalize lqN U s = n9 at *
      generalize lqB U s = b9 at *
      have ni9 := neI n9
      have nb9 := neB b9
      go_wp2_with fail
      refine C18.out.mono ?_; rintro e w18 ⟨A18, c18, M9, rfl, hM9, -, hb18⟩
      have hb018 := hb017.trans (hb18.mono hb017.size)
      clear C18 hb017 hb18 s17
      cases b9
      · clear hM9 HB
        go_wp2
        go_ret
        exact ⟨rfl, hb018⟩
      · obtain ⟨ht9, hm9⟩ := HB.out rfl
        obtain rfl := mt_nil hM9 hm9
        rw [ht9]
        clear hM9 HB ht9 hm9
        go_wp2
        go_ret
        exact ⟨rfl, hb018⟩
    · have hM0 := mt_pos HM.out hmt
      have hM1 : ((M.length : Int) == 0) = false := by
        have : ¬ (M.length : Int) = 0 := by omega
        simpa using this
      have hM2 : ¬ M.length = 0 := by omega
      clear HBK HTF hmt s7 HCAP
      go_wp2_with fail
      refine C8.out.mono ?_; rintro e w8 ⟨A8, c8, rfl, -, hb8⟩
      have hb08 := hb07.trans (hb8.mono hb07.size)
      clear C8 hb07 hb8 r7 HM
      go_wp2_with fail
      refine (DrawLoadsTo_any A c L _ hI hl (hs.next hb08)).mono ?_; rintro e w11 ⟨v, rfl, ⟨A11, c11, G, p, q, rfl, ⟨hG, s11, -⟩, hp, hq⟩, hb11⟩
      have hb011 := hb08.trans (hb11.mono hb08.size)
      have hGl := hG.1
      have HIG := Lib.hid hG.inI
      have hmG : (G.length : Int) ≤ 1048576 := by omega
      have hpI := hp.inI
      have hqI := hq.inI
      have hq1I : InI (q + 1) := ⟨by have := hq.1; omega, by have := hq.2; omega⟩
      have hqb : q ≤ 1000000000 := hq.2
      have hqb0 : -1000000000 ≤ q := hq.1
      have C12 := Lib.hid (show Calls Try.prog 27 #[.slice A11 G.length c11, .int .i64 p, .int .i64 q] w11 (fun e w' => e = .returned (.tuple #[.int .i64 (ldN G p q), .bool (ldU G p q)]) ∧ Below w11.heap.size w11 w') from by have := LoadsTo_any A11 c11 G p q w11 s11 hmG HIG.out hpI hqI; rw [loadV_ld] at this; exact this)
      clear hb08 hb11 hG hp hq
      go_wp2_with fail
      refine C12.out.mono ?_; rintro e w12 ⟨rfl, hb12⟩
      have hb012 := hb011.trans (hb12.mono hb011.size)
      have s12 := s11.next hb12
      have C13 := Lib.hid (show Calls Try.prog 26 #[.slice A11 G.length c11, .int .i64 p, .int .i64 q] w12 (fun e w' => e = .returned (.tuple #[.int .i64 (ldN G p q), .bool (ldU G p q)]) ∧ Below w12.heap.size w12 w') from by have := SLoadsTo_any A11 c11 G p q w12 s12 hmG HIG.out hpI hqI; rw [loadV_ld] at this; exact this)
      clear C12 hb011 hb12 s11
      go_wp2_with fail
      refine C13.out.mono ?_; rintro e w13 ⟨rfl, hb13⟩
      have hb013 := hb012.trans (hb13.mono hb012.size)
      have s13 := s12.next hb13
      have C14 := Lib.hid (show Calls Try.prog 27 #[.slice A11 G.length c11, .int .i64 p, .int .i64 (q + 1)] w13 (fun e w' => e = .returned (.tuple #[.int .i64 (ldN G p (q + 1)), .bool (ldU G p (q + 1))]) ∧ Below w13.heap.size w13 w') from by have := LoadsTo_any A11 c11 G p (q + 1) w13 s13 hmG HIG.out hpI hq1I; rw [loadV_ld] at this; exact this)
      have HLM := Lib.hid (ld_mono (L := G) (p := p) (q := q))
      clear C13 hb012 hb13 s12
      generalize ldN G p q = n1 at *
      generalize ldU G p q = b1 at *
      generalize ldN G p (q + 1) = n2 at *
      generalize ldU G p (q + 1) = b2 at *
      have ni1 := neI n1
      have nb1 := neB b1
      go_wp2_with fail
      refine C14.out.mono ?_; rintro e w14 ⟨rfl, hb14⟩
      have hb014 := hb013.trans (hb14.mono hb013.size)
      clear C14 hb013 hb14 s13
      cases b1
      · clear HLM
        go_wp2_with fail
        refine (DrawLongestQuiet_any A c L _ hI hl (hs.next hb014)).mono ?_; rintro e w15 ⟨v, rfl, ⟨A15, c15, U, s, rfl, ⟨hU, s15, hcap2⟩, -⟩, hb15⟩
        have hb015 := hb014.trans (hb15.mono hb014.size)
        have hUl := hU.1
        have HIU := Lib.hid hU.inI
        have hmU : (U.length : Int) ≤ 1048576 := by omega
        have HCAP := Lib.hid hcap2
        have C16 := Lib.hid (LongestQuiet_any A15 c15 U s w15 s15 hmU HIU.out hcap2)
        clear hb014 hb15 hU hcap2
        go_wp2_with fail
        refine C16.out.mono ?_; rintro e w16 ⟨rfl, hb16⟩
        have hb016 := hb015.trans (hb16.mono hb015.size)
        have s16 := s15.next hb16
        have C17 := Lib.hid (SLongestQuiet_any A15 c15 U s w16 s16 hmU HIU.out)
        clear C16 hb015 hb16 s15
        go_wp2_with fail
        refine C17.out.mono ?_; rintro e w17 ⟨rfl, hb17⟩
        have hb017 := hb016.trans (hb17.mono hb016.size)
        have s17 := s16.next hb17
        have C18 := Lib.hid (MeetingTrips_any A15 c15 U w17 s17 hmU HIU.out HCAP.out)
        have hq0 := lqN_ge U s
        have hq1 : ¬ lqN U s < 0 := by omega
        have HB := Lib.hid (show lqB U s = true → tripsB U = true ∧ mtL U = [] from fun h => by simp only [lqB, Bool.and_eq_true, decide_eq_true_eq] at h; exact h.1)
        clear C17 hb016 hb17 s16
        generalize lqN U s = n9 at *
        generalize lqB U s = b9 at *
        have ni9 := neI n9
        have nb9 := neB b9
        go_wp2_with fail
        refine C18.out.mono ?_; rintro e w18 ⟨A18, c18, M9, rfl, hM9, -, hb18⟩
        have hb018 := hb017.trans (hb18.mono hb017.size)
        clear C18 hb017 hb18 s17
        cases b9
        · clear hM9 HB
          go_wp2
          go_ret
          exact ⟨rfl, hb018⟩
        · obtain ⟨ht9, hm9⟩ := HB.out rfl
          obtain rfl := mt_nil hM9 hm9
          rw [ht9]
          clear hM9 HB ht9 hm9
          go_wp2
          go_ret
          exact ⟨rfl, hb018⟩
      cases b2
      · clear HLM
        go_wp2_with fail
        refine (DrawLongestQuiet_any A c L _ hI hl (hs.next hb014)).mono ?_; rintro e w15 ⟨v, rfl, ⟨A15, c15, U, s, rfl, ⟨hU, s15, hcap2⟩, -⟩, hb15⟩
        have hb015 := hb014.trans (hb15.mono hb014.size)
        have hUl := hU.1
        have HIU := Lib.hid hU.inI
        have hmU : (U.length : Int) ≤ 1048576 := by omega
        have HCAP := Lib.hid hcap2
        have C16 := Lib.hid (LongestQuiet_any A15 c15 U s w15 s15 hmU HIU.out hcap2)
        clear hb014 hb15 hU hcap2
        go_wp2_with fail
        refine C16.out.mono ?_; rintro e w16 ⟨rfl, hb16⟩
        have hb016 := hb015.trans (hb16.mono hb015.size)
        have s16 := s15.next hb16
        have C17 := Lib.hid (SLongestQuiet_any A15 c15 U s w16 s16 hmU HIU.out)
        clear C16 hb015 hb16 s15
        go_wp2_with fail
        refine C17.out.mono ?_; rintro e w17 ⟨rfl, hb17⟩
        have hb017 := hb016.trans (hb17.mono hb016.size)
        have s17 := s16.next hb17
        have C18 := Lib.hid (MeetingTrips_any A15 c15 U w17 s17 hmU HIU.out HCAP.out)
        have hq0 := lqN_ge U s
        have hq1 : ¬ lqN U s < 0 := by omega
        have HB := Lib.hid (show lqB U s = true → tripsB U = true ∧ mtL U = [] from fun h => by simp only [lqB, Bool.and_eq_true, decide_eq_true_eq] at h; exact h.1)
        clear C17 hb016 hb17 s16
        generalize lqN U s = n9 at *
        generalize lqB U s = b9 at *
        have ni9 := neI n9
        have nb9 := neB b9
        go_wp2_with fail
        refine C18.out.mono ?_; rintro e w18 ⟨A18, c18, M9, rfl, hM9, -, hb18⟩
        have hb018 := hb017.trans (hb18.mono hb017.size)
        clear C18 hb017 hb18 s17
        cases b9
        · clear hM9 HB
          go_wp2
          go_ret
          exact ⟨rfl, hb018⟩
        · obtain ⟨ht9, hm9⟩ := HB.out rfl
          obtain rfl := mt_nil hM9 hm9
          rw [ht9]
          clear hM9 HB ht9 hm9
          go_wp2
          go_ret
          exact ⟨rfl, hb018⟩
      have hlm := HLM.out rfl rfl
      have hlm2 : ¬ n2 < n1 := by omega
      clear HLM hlm
      go_wp2_with fail
      refine (DrawLongestQuiet_any A c L _ hI hl (hs.next hb014)).mono ?_; rintro e w15 ⟨v, rfl, ⟨A15, c15, U, s, rfl, ⟨hU, s15, hcap2⟩, -⟩, hb15⟩
      have hb015 := hb014.trans (hb15.mono hb014.size)
      have hUl := hU.1
      have HIU := Lib.hid hU.inI
      have hmU : (U.length : Int) ≤ 1048576 := by omega
      have HCAP := Lib.hid hcap2
      have C16 := Lib.hid (LongestQuiet_any A15 c15 U s w15 s15 hmU HIU.out hcap2)
      clear hb014 hb15 hU hcap2
      go_wp2_with fail
      refine C16.out.mono ?_; rintro e w16 ⟨rfl, hb16⟩
      have hb016 := hb015.trans (hb16.mono hb015.size)
      have s16 := s15.next hb16
      have C17 := Lib.hid (SLongestQuiet_any A15 c15 U s w16 s16 hmU HIU.out)
      clear C16 hb015 hb16 s15
      go_wp2_with fail
      refine C17.out.mono ?_; rintro e w17 ⟨rfl, hb17⟩
      have hb017 := hb016.trans (hb17.mono hb016.size)
      have s17 := s16.next hb17
      have C18 := Lib.hid (MeetingTrips_any A15 c15 U w17 s17 hmU HIU.out HCAP.out)
      have hq0 := lqN_ge U s
      have hq1 : ¬ lqN U s < 0 := by omega
      have HB := Lib.hid (show lqB U s = true → tripsB U = true ∧ mtL U = [] from fun h => by simp only [lqB, Bool.and_eq_true, decide_eq_true_eq] at h; exact h.1)
      clear C17 hb016 hb17 s16
      generalize lqN U s = n9 at *
      generalize lqB U s = b9 at *
      have ni9 := neI n9
      have nb9 := neB b9
      go_wp2_with fail
      refine C18.out.mono ?_; rintro e w18 ⟨A18, c18, M9, rfl, hM9, -, hb18⟩
      have hb018 := hb017.trans (hb18.mono hb017.size)
      clear C18 hb017 hb18 s17
      cases b9
      · clear hM9 HB
        go_wp2
        go_ret
        exact ⟨rfl, hb018⟩
      · obtain ⟨ht9, hm9⟩ := HB.out rfl
        obtain rfl := mt_nil hM9 hm9
        rw [ht9]
        clear hM9 HB ht9 hm9
        go_wp2
        go_ret
        exact ⟨rfl, hb018⟩
end Go.Proofs.Ytfcmfadkkfkidaa
