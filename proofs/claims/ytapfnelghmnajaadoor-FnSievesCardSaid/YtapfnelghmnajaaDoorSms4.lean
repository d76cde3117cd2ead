/-
  FewestSieves: the program's search, a closure that calls itself through its own box.
-/
import Derived.Test.YtapfnelghmnajaaDoorSms3
import Derived.Test.YtapfnelghmnajaaDoorChg
import Derived.Shelf.Abstract
import Derived.Deep.DeepCutAuto
import Derived.Lib.LazyBuf
import Derived.WalkKit
import Derived.WalkSpells
import Derived.WalkLawsBesides
import Derived.Lib.Hide
import Derived.Deep.QuietTactic
import Derived.BigQuiet
import Derived.StillTailTactics
namespace Go.Proofs.YtapfnelghmnajaaDoor
open Go.RowKit

/-- Block g alone, of those that were, may have turned. -/
structure Bt (g : Nat) (w w' : World) : Prop where
  os : w'.os = w.os
  tape : w'.tape = w.tape
  output : w'.output = w.output
  size : w.heap.size ≤ w'.heap.size
  block : ∀ k, k < w.heap.size → k ≠ g → w'.heap[k]? = w.heap[k]?
theorem Bt.refl (g : Nat) (w : World) : Bt g w w := ⟨rfl, rfl, rfl, Nat.le_refl _, fun _ _ _ => rfl⟩
theorem Bt.of {g : Nat} {w w' : World} (h : Below w.heap.size w w') : Bt g w w' := ⟨h.os, h.tape, h.output, h.size, fun k hk _ => h.block k hk⟩
theorem Bt.trans {g : Nat} {a b c : World} (h : Bt g a b) (k : Bt g b c) : Bt g a c :=
  ⟨k.os.trans h.os, k.tape.trans h.tape, k.output.trans h.output, Nat.le_trans h.size k.size, fun i hi hg => (k.block i (Nat.lt_of_lt_of_le hi h.size) hg).trans (h.block i hi hg)⟩
theorem Bt.set {g : Nat} {w w' : World} (h : Bt g w w') (u : Value) : Bt g w (w'.setCell ⟨g, 0, none⟩ u) :=
  ⟨h.os, h.tape, h.output, by have := h.size; simpa [World.setCell] using this, fun k hk hg => (Below.heap_setCell w' ⟨g, 0, none⟩ u k hg).trans (h.block k hk hg)⟩
theorem Bt.below {g B : Nat} {w w' : World} (h : Bt g w w') (hB : B ≤ g) (hw : B ≤ w.heap.size) : Below B w w' := ⟨h.os, h.tape, h.output, h.size, fun k hk => h.block k (by omega) (by omega)⟩
section
variable {α : Type} {f : α → List Value} {m : Nat} {w w' : World} {g : Nat}
theorem Blk.bt {b : Nat} {t : TypeId} {cs : Array Value} (h : Blk w b t cs) (hb : Bt g w w') (hne : b ≠ g) : Blk w' b t cs := (hb.block b h.lt hne).trans h
theorem Cells.bt {b off : Nat} {L : List α} (h : Cells f m w b off L) (hb : Bt g w w') (hl : b < w.heap.size) (hne : b ≠ g) : Cells f m w' b off L :=
  fun k x hx j u hu => (World.cell?_of_block (w := w) (a := ⟨b, off + k * m + j, none⟩) (hb.block b hl hne)).trans (h k x hx j u hu)
/-- The slice reads as L, elsewhere than in block g. -/
def SlE (f : α → List Value) (m : Nat) (w : World) (g : Nat) (A : Option Addr) (L : List α) : Prop := L ≠ [] → ∃ b off, A = some ⟨b, off, none⟩ ∧ (b < w.heap.size ∧ b ≠ g) ∧ Cells f m w b off L
theorem SlE.bt {A : Option Addr} {L : List α} (h : SlE f m w g A L) (hb : Bt g w w') : SlE f m w' g A L := fun hn => by
  obtain ⟨b, off, hA, ⟨h1, h2⟩, hC⟩ := h hn
  exact ⟨b, off, hA, ⟨Nat.lt_of_lt_of_le h1 hb.size, h2⟩, hC.bt hb h1 h2⟩
theorem SlE.sl {A : Option Addr} {L : List α} (h : SlE f m w g A L) : SlR f m w w.heap.size A L := fun hn => by
  obtain ⟨b, off, hA, ⟨h1, h2⟩, hC⟩ := h hn
  exact ⟨b, off, hA, h1, hC⟩
theorem SlE.of {B : Nat} {A : Option Addr} {L : List α} (h : SlR f m w B A L) (hB : B ≤ w.heap.size) (hg : B ≤ g) : SlE f m w g A L := fun hn => by
  obtain ⟨b, off, hA, h1, hC⟩ := h hn
  exact ⟨b, off, hA, ⟨by omega, by omega⟩, hC⟩
end
/-- A slice of ints that is nil just where it is empty. -/
def SlN (w : World) (g : Nat) (v : Value) (L : List Int) : Prop :=
  (L = [] ∧ v = .slice none 0 0) ∨ (L ≠ [] ∧ ∃ b o c, v = .slice (some ⟨b, o, none⟩) L.length c ∧ (b < w.heap.size ∧ b ≠ g) ∧ Cells f1 1 w b o L)
theorem SlN.bt {w w' : World} {g : Nat} {v : Value} {L : List Int} (h : SlN w g v L) (hb : Bt g w w') : SlN w' g v L := by
  rcases h with h | ⟨h0, b, o, c, hv, ⟨h1, h2⟩, hC⟩
  · exact .inl h
  · exact .inr ⟨h0, b, o, c, hv, ⟨Nat.lt_of_lt_of_le h1 hb.size, h2⟩, hC.bt hb h1 h2⟩
theorem Gath.sln {t : TypeId} {w : World} {B g : Nat} {v : Value} {L : List Int} (h : Gath f1 1 t w B v L) (hB : g < B) (hn : L = [] → v = .slice none 0 0) : SlN w g v L := by
  by_cases hL : L = []
  · exact .inl ⟨hL, hn hL⟩
  · refine .inr ⟨hL, ?_⟩
    obtain ⟨A, c, hv, ho⟩ := Gath.own (f := f1) (m := 1) (fun _ => rfl) h
    obtain ⟨b, hA, hb, hR, hC⟩ := ho hL
    subst hA
    exact ⟨b, 0, c, hv, ⟨hR.lt, by omega⟩, hC⟩
/-- A slice of ints of the call's own that is nil just where it is empty. -/
def SlO (B0 : Nat) (w : World) (g : Nat) (v : Value) (L : List Int) : Prop :=
  (L = [] ∧ v = .slice none 0 0) ∨ (L ≠ [] ∧ ∃ b c, v = .slice (some ⟨b, 0, none⟩) L.length c ∧ (B0 ≤ b ∧ b ≠ g) ∧ Row w b 3 (L.length * 1) ∧ Cells f1 1 w b 0 L)
theorem SlO.bt {B0 : Nat} {w w' : World} {g : Nat} {v : Value} {L : List Int} (h : SlO B0 w g v L) (hb : Bt g w w') : SlO B0 w' g v L := by
  rcases h with h | ⟨h0, b, c, hv, ⟨h1, h2⟩, ⟨cs, hr, hn⟩, hC⟩
  · exact .inl h
  · have hl := (Array.getElem?_eq_some_iff.1 hr).1
    exact .inr ⟨h0, b, c, hv, ⟨h1, h2⟩, ⟨cs, (hb.block b hl h2).trans hr, hn⟩, hC.bt hb hl h2⟩
theorem Gath.slo {B0 : Nat} {w : World} {B g : Nat} {v : Value} {L : List Int} (h : Gath f1 1 3 w B v L) (hB : g < B) (hB0 : B0 ≤ B) (hn : L = [] → v = .slice none 0 0) : SlO B0 w g v L := by
  by_cases hL : L = []
  · exact .inl ⟨hL, hn hL⟩
  · refine .inr ⟨hL, ?_⟩
    obtain ⟨A, c, hv, ho⟩ := Gath.own (f := f1) (m := 1) (fun _ => rfl) h
    obtain ⟨b, hA, hb, hR, hC⟩ := ho hL
    subst hA
    exact ⟨b, c, hv, ⟨by omega, by omega⟩, hR, hC⟩
/-- What the box of the best so far holds. -/
def Best (B0 : Nat) (w : World) (g : Nat) (b : List Nat) : Prop := ∃ v, Blk w g 22 #[v] ∧ SlO B0 w g v (ci b)
theorem Best.below {B0 : Nat} {w w' : World} {g : Nat} {b : List Nat} (h : Best B0 w g b) (hb : Below w.heap.size w w') : Best B0 w' g b := by
  obtain ⟨v, hk, hs⟩ := h
  exact ⟨v, hk.below' hb, hs.bt (Bt.of hb)⟩

/-- The closure's captured boxes, and what they lead to. -/
structure Env (S : List Int) (M : List Smp) (V : List Bool) (A A' A8 : Option Addr) (c c' c8 pb ps pl pw pf : Nat) (w : World) : Prop where
  bs : Blk w ps 22 #[.slice A S.length c]
  bl : Blk w pl 41 #[.slice A' M.length c']
  bw : Blk w pw 68 #[.slice A8 V.length c8]
  bf : Blk w pf 70 #[.func (.func 47) #[] #[.pointer (some ⟨pb, 0, none⟩), .pointer (some ⟨ps, 0, none⟩), .pointer (some ⟨pl, 0, none⟩), .pointer (some ⟨pw, 0, none⟩), .pointer (some ⟨pf, 0, none⟩)]]
  ns : ps ≠ pb
  nl : pl ≠ pb
  nw : pw ≠ pb
  nf : pf ≠ pb
  s : SlE f1 1 w pb A S
  m : SlE fM 1 w pb A' M
  rows : ∀ x ∈ M, SlE f1 1 w pb x.1 x.2.2
  v : SlE fB 1 w pb A8 V
theorem Env.bt {S : List Int} {M : List Smp} {V : List Bool} {A A' A8 : Option Addr} {c c' c8 pb ps pl pw pf : Nat} {w w' : World} (h : Env S M V A A' A8 c c' c8 pb ps pl pw pf w) (hb : Bt pb w w') : Env S M V A A' A8 c c' c8 pb ps pl pw pf w' :=
  ⟨h.bs.bt hb h.ns, h.bl.bt hb h.nl, h.bw.bt hb h.nw, h.bf.bt hb h.nf, h.ns, h.nl, h.nw, h.nf, h.s.bt hb, h.m.bt hb, fun x hx => (h.rows x hx).bt hb, h.v.bt hb⟩
theorem Env.sm {S : List Int} {M : List Smp} {V : List Bool} {A A' A8 : Option Addr} {c c' c8 pb ps pl pw pf : Nat} {w : World} (h : Env S M V A A' A8 c c' c8 pb ps pl pw pf w) : SlSm w w.heap.size A' M := ⟨h.m.sl, fun x hx => (h.rows x hx).sl⟩

/-! ### slices.Clone at ints -/
theorem flatI (L : List Int) : (L.flatMap f1).length = L.length * 1 := by
  induction L with
  | nil => rfl
  | cons x L ih => rw [List.flatMap_cons, List.length_append, ih]; simp [f1]; omega
theorem srcI {w : World} {b off : Nat} {L : List Int} (hr : Cells f1 1 w b off L) (hb : b < w.heap.size) : ∀ j u, (L.flatMap f1)[j]? = some u → (w.alloc (.cells #[] 3 (0, 0))).cell? ((⟨b, off, none⟩ : Addr).add j) = some u := by
  intro j u hj
  rw [Go.WideShapes.add_plain]
  have hlt : j < L.length := by
    have := (List.getElem?_eq_some_iff.1 hj).1
    rw [flatI] at this; omega
  have hx : L[j]? = some L[j] := List.getElem?_eq_getElem hlt
  have h3 := flatMap_get (f := f1) (m := 1) (fun _ => rfl) L j 0 _ hx (by omega)
  rw [show j * 1 + 0 = j by omega, hj] at h3
  have := (hr.below (B := w.heap.size) (w' := w.alloc (.cells #[] 3 (0, 0))) (by (repeat (first | exact Below.refl _ _ | refine Below.drew ?_ | refine below_drewN ?_ _ | (refine Below.alloc ?_ (by (try simp) <;> omega) _) | (refine Below.setCell ?_ (by (try simp) <;> omega) _) | (refine Below.trans ?_ (Below.mono (by assumption) (by (try simp) <;> omega)))))) hb) j _ hx 0 u h3.symm
  rw [show off + j = off + j * 1 + 0 by omega]
  exact this
theorem oneI (L : List Int) : ∀ u ∈ L.flatMap f1, u.oneCell' = true := by
  intro u hu
  rw [List.mem_flatMap] at hu
  obtain ⟨x, _, hx⟩ := hu
  simp [f1] at hx; rw [hx]; rfl
set_option maxHeartbeats 1000000 in
theorem cloneN_any (g : Nat) (v : Value) (L : List Int) (w : World) (h : SlN w g v L) (hm : L.length ≤ 100) :
    Calls Tryd.prog 40 #[v] w fun e w' => ∃ v', e = .returned v' ∧ Gath f1 1 3 w' w.heap.size v' L ∧ (L = [] → v' = .slice none 0 0) ∧ Below w.heap.size w w' := by
  rcases h with ⟨rfl, rfl⟩ | ⟨hL, b, off, c, rfl, ⟨hb, _⟩, hr⟩
  · have hnn := @Lib.run_eql_slice_nil
    go_enter Tryd.func40, Tryd.ntmps40
    go_wp2
    go_ret
    exact ⟨_, rfl, Gath.nil, fun _ => rfl, Below.refl _ _⟩
  obtain ⟨i0, hi, hz0, hz1, hz2⟩ := info_parts infoInt
  have hE := Gath.made (f := f1) (m := 1) (t := 3) (B := w.heap.size) (w := w) (Nat.le_refl _)
  have HE := Lib.hid hE; clear hE
  have hb0 : Below w.heap.size w (w.alloc (.cells #[] 3 (0, 0))) := by (repeat (first | exact Below.refl _ _ | refine Below.drew ?_ | refine below_drewN ?_ _ | (refine Below.alloc ?_ (by (try simp) <;> omega) _) | (refine Below.setCell ?_ (by (try simp) <;> omega) _) | (refine Below.trans ?_ (Below.mono (by assumption) (by (try simp) <;> omega)))))
  have HC := Lib.hid (srcI hr hb)
  have HI := Lib.hid hi; have HZ0 := Lib.hid hz0; have HZ1 := Lib.hid hz1; have HZ2 := Lib.hid hz2
  have HL := Lib.hid hL
  clear hi hz0 hz1 hz2 hr hL
  have hnn := @Lib.run_eql_slice_nil
  go_enter Tryd.func40, Tryd.ntmps40
  go_wp2_with (at_builtin; refine wpList_append_own _ rfl _ _ 22 rfl w.heap.size 3 i0 (.int .i64 0) 1 8 Tryd.underlying22 HI.out HZ0.out HZ1.out HZ2.out rfl (by decide) _ _ _ rfl HE.out ⟨b, off, none⟩ L.length c (L.flatMap f1) rfl (flatI L) HC.out (oneI L) ?c3 ?c4 ?c5 ?c6)
  case c3 => unfold maxLen; first | omega | (simp; omega)
  case c4 => first | omega | (simp; omega)
  case c5 => first | omega | (simp)
  case c6 =>
    intro v' w9 hown hgrow _
    have hG9 : Gath f1 1 3 w9 w.heap.size v' L := by
      unfold Gath; simpa using hown
    have hb9 : Below w.heap.size w w9 := below_grown' hb0 hgrow HE.out (Nat.le_refl _) (by simp)
    have HG9 := Lib.hid hG9
    clear hown hgrow hG9
    go_wp2
    go_ret
    exact ⟨v', rfl, HG9.out, fun h => absurd h HL.out, hb9⟩

/-! ### The search -/
def wantB (b C : List Nat) : Bool := !C.isEmpty && (b.isEmpty || decide (C.length < b.length))
theorem takeF_eq (f : List Nat → Bool) (b C : List Nat) : takeF f b C = if (wantB b C && f C) = true then C else b := rfl
theorem ci_nil {C : List Nat} : ci C = [] ↔ C = [] := by simp [ci]
theorem lp_succ (n d : Nat) (C : List Nat) : lp n (d + 1) C = (C ++ [n - (d + 1)]) :: (lp n d (C ++ [n - (d + 1)]) ++ lp n d C) := rfl
@[reducible] def bRel (B : Nat) : Chg.Rel := ⟨fun a b => a.heap.size ≤ b.heap.size ∧ (B ≤ a.heap.size → Below B a b), fun h k => ⟨Nat.le_trans h.1 k.1, fun hB => (h.2 hB).trans (k.2 (Nat.le_trans hB h.1))⟩, fun h => ⟨h.size, fun hB => h.mono hB⟩⟩
def GathP (B : Nat) (L : List Int) (v : Value) (w : World) : Prop := Gath f1 1 3 w B v L ∧ B ≤ w.heap.size
theorem GathP.next {B : Nat} {L : List Int} : ∀ (v : Value) (w w' : World), Below w.heap.size w w' → GathP B L v w → GathP B L v w' := fun _ _ _ hb h => ⟨h.1.below hb, Nat.le_trans h.2 hb.size⟩
def LitI (p : Nat) (x : Int) (v : Value) (w : World) : Prop := ∃ g, v = .slice (some ⟨g, 0, none⟩) 1 1 ∧ p ≤ g ∧ Blk w g 3 #[.int .i64 x]
theorem LitI.next {p : Nat} {x : Int} : ∀ (v : Value) (w w' : World), Below w.heap.size w w' → LitI p x v w → LitI p x v w' := fun v w w' hb h => by
  obtain ⟨g, h1, h2, h3⟩ := h; exact ⟨g, h1, h2, h3.below' hb⟩

set_option maxRecDepth 20000 in
set_option maxHeartbeats 8000000 in
theorem choose_any {B0 : Nat} {S : List Int} {M : List Smp} {V : List Bool} {A A' A8 : Option Addr} {c c' c8 pb ps pl pw pf : Nat} (hS : S.length ≤ 5) (h8 : M.length ≤ 8) (hl : ∀ x ∈ M, (x.2.2.length : Int) ≤ 1048576) (hcap : M.length ≤ c') (hV : partsL S (smls M) = V) (hB0 : B0 ≤ pb) :
    ∀ d, d ≤ S.length → ∀ (C b : List Nat) (v1 : Value) (w : World), Env S M V A A' A8 c c' c8 pb ps pl pw pf w → (∀ k ∈ C, k < S.length) → C.length + d ≤ S.length → SlN w pb v1 (ci C) → Best B0 w pb b →
    Calls Tryd.prog 47 #[.int .i64 ((S.length - d : Nat) : Int), v1, .pointer (some ⟨pb, 0, none⟩), .pointer (some ⟨ps, 0, none⟩), .pointer (some ⟨pl, 0, none⟩), .pointer (some ⟨pw, 0, none⟩), .pointer (some ⟨pf, 0, none⟩)] w
      fun e w' => e = .returned (.tuple #[]) ∧ Best B0 w' pb ((C :: lp S.length d C).foldl (takeF (fineF S (smls M))) b) ∧ Bt pb w w' := by
  intro d
  induction d using Nat.strongRecOn with
  | ind d ih =>
  intro hd C b v1 w E hC hCd h1 hB
  have HE := Lib.hid E; clear E
  have HIH := Lib.hid ih; clear ih
  have HV := Lib.hid hV; clear hV
  have HL := Lib.hid hl; clear hl
  have HC := Lib.hid hC; clear hC
  have H1 := Lib.hid h1; clear h1
  have HB := Lib.hid hB; clear hB
  have mixed : Tryd.prog.follows .mixedOrders = true := by kernel_rfl
  go_enter Tryd.func47, Tryd.ntmps47
  go_step
  go_step
  go_cut [] (fun wx => Hid (Best B0 wx pb (takeF (fineF S (smls M)) b C)) ∧ Hid (Bt pb w wx))
  case first =>
    obtain ⟨vb, hkb, hvb⟩ := HB.out
    have HKB := Lib.hid hkb
    have HVB := Lib.hid hvb
    have cb := hkb.cell 0
    have hnn := @Lib.run_eql_slice_nil
    have HCL := Lib.hid (show C.length ≤ 5 by omega)
    clear hkb hvb
    go_step
    go_cut [26] (fun v wx => v = .bool (wantB b C) ∧ wx = w)
    case first =>
      rcases H1.out with ⟨hC0, rfl⟩ | ⟨hCn, g1, o1, c1, rfl, _, _⟩
      · have hC1 : C = [] := ci_nil.1 hC0
        have HW := Lib.hid (show wantB b C = false by rw [hC1]; rfl)
        clear hC0 hC1
        go_wp2
        go_meet
        exact ⟨by rw [HW.out], rfl⟩
      · have hCne : C ≠ [] := fun e => hCn (by rw [e]; rfl)
        have hCl : 0 < C.length := List.length_pos_iff.2 hCne
        have hCe : C.isEmpty = false := by cases C with | nil => exact absurd rfl hCne | cons _ _ => rfl
        have hcl0 : (0 : Int) < ((ci C).length : Int) := by rw [ci_len]; omega
        have HCE := Lib.hid hCe
        have HB9 := Lib.hid HVB.out
        clear hCn hCne hCl hCe
        rcases HVB.out with ⟨hb0, rfl⟩ | ⟨hbn, g2, c2, rfl, _, _, _⟩
        · have hb1 : b = [] := ci_nil.1 hb0
          have HW := Lib.hid (show wantB b C = true by unfold wantB; rw [HCE.out, hb1]; rfl)
          clear hb0 hb1 HB9
          go_wp2
          go_meet
          exact ⟨by rw [HW.out], rfl⟩
        · have hbe : b.isEmpty = false := by cases b with | nil => exact absurd rfl hbn | cons _ _ => rfl
          have HBE := Lib.hid hbe
          clear hbn hbe HB9
          have hl1 := ci_len C
          have hl2 := ci_len b
          have HL1 := Lib.hid hl1
          have HL2 := Lib.hid hl2
          clear hl1 hl2
          by_cases hlt : C.length < b.length
          · have hlti : ((ci C).length : Int) < ((ci b).length : Int) := by rw [HL1.out, HL2.out]; omega
            have HW := Lib.hid (show wantB b C = true by unfold wantB; rw [HCE.out, HBE.out, decide_eq_true hlt]; rfl)
            clear hlt
            go_wp2
            go_meet
            exact ⟨by rw [HW.out], rfl⟩
          · have hlti : ¬ ((ci C).length : Int) < ((ci b).length : Int) := by rw [HL1.out, HL2.out]; omega
            have HW := Lib.hid (show wantB b C = false by unfold wantB; rw [HCE.out, HBE.out, decide_eq_false hlt]; rfl)
            clear hlt
            go_wp2
            go_meet
            exact ⟨by rw [HW.out], rfl⟩
    case rest =>
      obtain ⟨rfl, rfl⟩ := hcut
      obtain ⟨w, rfl⟩ : ∃ w', w' = wc := ⟨_, rfl⟩
      cases hw : wantB b C
      · have HT := Lib.hid (show takeF (fineF S (smls M)) b C = b by rw [takeF_eq, hw]; rfl)
        clear hw
        go_wp2
        go_meet
        exact ⟨by show Best _ _ _ _; rw [HT.out]; exact HB.out, Bt.refl _ _⟩
      · have hCne : C ≠ [] := fun e => by rw [e] at hw; cases hw
        have HT := Lib.hid (show takeF (fineF S (smls M)) b C = if fineF S (smls M) C = true then C else b by rw [takeF_eq, hw, Bool.true_and])
        have hS0 : S ≠ [] := fun e => by
          obtain ⟨k, hk⟩ := List.exists_mem_of_ne_nil C hCne
          have := HC.out k hk
          rw [e] at this; simp at this
        rcases H1.out with ⟨hC0, _⟩ | ⟨_, g1, o1, c1, rfl, ⟨hg1, hg1p⟩, hcC⟩
        · exact absurd (ci_nil.1 hC0) hCne
        obtain ⟨bS, oS, rfl, ⟨hbS, _⟩, hCS⟩ := HE.out.s hS0
        have HCC := Lib.hid hcC
        have HCS := Lib.hid hCS
        have HW := Lib.hid hw
        have HS1 := Lib.hid H1.out
        have HLC := Lib.hid (ci_len C)
        have hc5 : ((ci C).length : Int) ≤ 5 := by have := HLC.out; have := HCL.out; omega
        clear hw hCne hS0 hcC hCS hnn
        obtain ⟨i0, hi, hz0, hz1, hz2⟩ := info_parts infoInt
        have HI0 := Lib.hid hi; have HZ0 := Lib.hid hz0; have HZ1 := Lib.hid hz1; have HZ2 := Lib.hid hz2
        clear hi hz0 hz1 hz2
        go_wp2
        go_loopw [9, 29] (fun v9 v29 wr => ∃ i : Nat, v29 = .int .i64 i ∧ i ≤ (ci C).length ∧ Hid (Gath f1 1 3 wr w.heap.size v9 (someOf S (C.take i))) ∧ Below w.heap.size w wr) (fun _ v29 _ => ((ci C).length - intOf v29).toNat)
        case atStart => exact ⟨0, rfl, by omega, Gath.nil, Below.refl _ _⟩
        case round =>
          obtain ⟨i, rfl, hil, hG, hb⟩ := hrel
          have zr := hb.size
          by_cases hlt : i < (ci C).length
          · have hi0 : (0 : Int) ≤ (i : Int) := by omega
            have hi1 : (i : Int) < ((ci C).length : Int) := by omega
            have hiC : i < C.length := by have := HLC.out; omega
            obtain ⟨k, hk⟩ : ∃ k, C[i]? = some k := ⟨_, List.getElem?_eq_getElem hiC⟩
            have hx : (ci C)[i]? = some (k : Int) := by simp [ci, hk]
            have hkS := HC.out k (List.mem_of_getElem? hk)
            obtain ⟨y, hy⟩ : ∃ y, S[k]? = some y := ⟨_, List.getElem?_eq_getElem hkS⟩
            have c0 := cells1 (HCC.out.below hb hg1) hx
            have HY := Lib.hid hy
            have cs := (HE.out.bs.below' hb).cell 0
            have c2 := cells1 (HCS.out.below hb hbS) hy
            have hki0 : (0 : Int) ≤ (k : Int) := by omega
            have hki1 : (k : Int) < (S.length : Int) := by omega
            have HSN := Lib.hid (show someOf S (C.take (i + 1)) = someOf S (C.take i) ++ [y] by
              have : C.take (i + 1) = C.take i ++ [k] := by rw [List.take_add_one, hk]; rfl
              rw [this, someOf_snoc, getD_of hy])
            have HSL := Lib.hid (show (someOf S (C.take i)).length ≤ 5 by rw [someOf_len, List.length_take]; have := HCL.out; omega)
            have HGL := Lib.hid (hG.out.alloc (.cells #[.int .i64 y] 3))
            have HBL := Lib.hid (hb.alloc zr (.cells #[.int .i64 y] 3))
            clear hG hlt hiC hk hx hkS hy hb
            go_wp2_with (at_builtin; refine wpList_append_own _ rfl _ _ 22 rfl w.heap.size 3 i0 (.int .i64 0) 1 8 Tryd.underlying22 HI0.out HZ0.out HZ1.out HZ2.out rfl (by decide) _ _ _ rfl HGL.out ⟨_, 0, none⟩ 1 1 [.int .i64 y] rfl rfl (cell_one_new _ _ _) one_okI ?c3 ?c4 ?c5 ?c6)
            case c3 => have := HSL.out; unfold maxLen; omega
            case c4 => have := HSL.out; omega
            case c5 => simp; omega
            case c6 =>
              intro v' w9 hown hgrow _
              have HG9 := Lib.hid (show Gath f1 1 3 w9 w.heap.size v' (someOf S (C.take (i + 1))) from (by rw [HSN.out]; exact Gath.snoc hown))
              have hb9 : Below w.heap.size w w9 := below_grown' HBL.out hgrow HGL.out (Nat.le_refl _) (by simp; omega)
              clear hown hgrow c0 cs c2 HGL HBL
              go_wp2
              go_roundw
              case rel => exact ⟨i + 1, by go_num, by omega, HG9.out, hb9⟩
              case measure => simp only [intOf]; omega
          · have hiC : i = (ci C).length := by omega
            have hiC2 : C.take i = C := by rw [hiC, ci_len]; exact List.take_length
            have HG9 := hG.out
            rw [hiC2] at HG9
            obtain ⟨A9, c9, rfl, ho9⟩ := Gath.own (f := f1) (m := 1) (fun _ => rfl) HG9
            have HOW := Lib.hid ho9.sl
            have HBr := Lib.hid hb
            have HEr := Lib.hid (HE.out.bt (Bt.of hb))
            have HCr := Lib.hid (HCC.out.below hb hg1)
            have hsl5 : (((someOf S C).length : Nat) : Int) ≤ 1048576 := by rw [someOf_len]; have := HCL.out; omega
            have HPL := Lib.hid (partsL_le (someOf S C) (smls M) (by rw [smls_len]; exact h8))
            have HF := Lib.hid (show fineF S (smls M) C = eqL (partsL (someOf S C) (smls M)) V by rw [← HV.out]; rfl)
            subst hiC
            clear hG HG9 ho9 hiC2 hlt hb cb
            obtain ⟨P, hP⟩ : ∃ P, partsL (someOf S C) (smls M) = P := ⟨_, rfl⟩
            have HP := Lib.hid hP
            rw [hP] at HF HPL
            clear hP
            go_wp2
            refine wp_region_grow [.fix (.slice A9 (someOf S C).length c9), .val (.slice A' M.length c'), .pred (SlV fB 1 P), .val (.slice A8 V.length c8), .val (.bool (eqL P V))] mixed (by kernel_rfl) ?_
            refine SeqG.fixStep (.inl ⟨rfl, fun _ => rfl⟩) ?_
            simp only [Act.put, List.setIfInBounds_toArray, List.set_cons_zero, List.set_cons_succ]
            refine SeqG.valStep (fun wv hbv hpv => ?_) ?_
            · have cl := (HEr.out.bl.below' hbv).cell 0
              go_wp2_with fail
              exact post_val (Below.refl _ _)
            simp only [Act.put, List.setIfInBounds_toArray, List.set_cons_zero, List.set_cons_succ]
            refine SeqG.predStep SlV.next (fun wv hbv hpv => ?_) (fun v1' => ?_)
            · clear hpv
              have sm := ((HEr.out.bt (Bt.of hbv)).sm)
              go_wp2_with fail
              refine (parts_any _ _ _ _ (someOf S C) _ _ (HOW.out.next hbv) hsl5 sm h8 HL.out hcap).mono ?_; rintro e w1 ⟨v', rfl, hG1, hb1⟩
              rw [HP.out] at hG1
              obtain ⟨A1, c1', rfl, ho1⟩ := Gath.own (f := fB) (m := 1) (fun _ => rfl) hG1
              have HO1 := Lib.hid ho1.sl
              clear hG1 ho1
              go_wp2_with fail
              exact post_pred _ hb1 ⟨_, _, rfl, HO1.out⟩
            simp only [Act.put, List.setIfInBounds_toArray, List.set_cons_zero, List.set_cons_succ]
            refine SeqG.valStep (fun wv hbv hpv => ?_) ?_
            · have cw := (HEr.out.bw.below' hbv).cell 0
              go_wp2_with fail
              exact post_val (Below.refl _ _)
            simp only [Act.put, List.setIfInBounds_toArray, List.set_cons_zero, List.set_cons_succ]
            refine SeqG.valStep (fun wv hbv hpv => ?_) ?_
            · obtain ⟨A1, c1', rfl, s1⟩ := hpv _ (.head _) (by kernel_rfl)
              clear hpv
              have s2 := (HEr.out.bt (Bt.of hbv)).v.sl
              go_wp2_with fail
              refine (equalB_any _ _ _ _ _ _ _ s1 s2 (by have := HPL.out; omega)).mono ?_; rintro e w1 ⟨rfl, hb1⟩
              go_wp2_with fail
              exact post_val hb1
            simp only [Act.put, List.setIfInBounds_toArray, List.set_cons_zero, List.set_cons_succ]
            refine SeqG.done fun wv hbv hpv => ?_
            clear hpv
            refine NoPan.normal ?_
            have HBV := Lib.hid (HBr.out.trans (hbv.mono HBr.out.size))
            cases hf : eqL P V
            · have HT2 := Lib.hid (show takeF (fineF S (smls M)) b C = b by rw [HT.out, HF.out, hf]; rfl)
              clear hf hbv
              go_wp2
              go_meet
              exact ⟨by show Best _ _ _ _; rw [HT2.out]; exact HB.out.below HBV.out, Bt.of HBV.out⟩
            · have HT2 := Lib.hid (show takeF (fineF S (smls M)) b C = C by rw [HT.out, HF.out, hf]; rfl)
              have HSV := Lib.hid (HS1.out.bt (Bt.of (g := pb) HBV.out))
              clear hf hbv
              go_wp2_with fail
              refine (cloneN_any pb _ (ci C) wv HSV.out (by have := HLC.out; have := HCL.out; omega)).mono ?_; rintro e w9 ⟨v', rfl, hG9, hn9, hb9⟩
              obtain ⟨A5, c5, rfl, _⟩ := Gath.own (f := f1) (m := 1) (fun _ => rfl) hG9
              have hb09 := HBV.out.trans (hb9.mono HBV.out.size)
              have kb9 := HKB.out.below' hb09
              have HKS := Lib.hid (kb9.set_ 0 (.slice A5 (ci C).length c5))
              have HSN := Lib.hid ((hG9.slo (B0 := B0) (Nat.lt_of_lt_of_le HKB.out.lt HBV.out.size) (by have := HKB.out.lt; have := HBV.out.size; omega) hn9).bt ((Bt.refl pb w9).set (.slice A5 (ci C).length c5)))
              have HBT := Lib.hid ((Bt.of (g := pb) hb09).set (.slice A5 (ci C).length c5))
              have cb9 := kb9.cell 0
              have fb9 := kb9.frozen 0
              clear hG9 hn9 hb9 hb09 kb9
              go_wp2
              go_meet
              exact ⟨by show Best _ _ _ _; rw [HT2.out]; exact ⟨_, HKS.out, HSN.out⟩, HBT.out⟩
  case rest =>
    obtain ⟨hB2, hbt⟩ := hcut
    have hS5 : (S.length : Int) ≤ 5 := by omega
    go_wp2
    go_loopw [12] (fun v12 wr => ∃ (k d' : Nat) (b' : List Nat), v12 = .int .i64 (k : Int) ∧ Hid (k = S.length - d') ∧ Hid (d' ≤ d) ∧ Hid ((lp S.length d' C).foldl (takeF (fineF S (smls M))) b' = (C :: lp S.length d C).foldl (takeF (fineF S (smls M))) b) ∧ Hid (Best B0 wr pb b') ∧ Hid (Bt pb w wr)) (fun v12 _ => (S.length - intOf v12).toNat)
    case atStart => exact ⟨S.length - d, d, _, rfl, rfl, Nat.le_refl _, rfl, hB2, hbt⟩
    case round =>
      obtain ⟨k, d', b', rfl, hk, hd', hfo, hBr, hbr⟩ := hrel
      clear hB2 hbt
      have HEr := Lib.hid (HE.out.bt hbr.out)
      have cs := HEr.out.bs.cell 0
      by_cases hlt : 0 < d'
      · obtain ⟨e, rfl⟩ : ∃ e, d' = e + 1 := ⟨d' - 1, by omega⟩
        have hkS : k < S.length := by have := hk.out; have := hd'.out; omega
        have hke : k = S.length - (e + 1) := hk.out
        have HK := Lib.hid hke
        have hki : (k : Int) < (S.length : Int) := by omega
        have hk0 : (0 : Int) ≤ (k : Int) := by omega
        have hek : ((S.length - e : Nat) : Int) = (k : Int) + 1 := by have := hd'.out; omega
        have HEK := Lib.hid hek
        have HCL := Lib.hid (show C.length ≤ 5 by omega)
        clear hke hkS hlt hk hek
        obtain ⟨q, hq⟩ : ∃ q, q = wr.heap.size := ⟨_, rfl⟩
        have HQ := Lib.hid hq
        have hqp : pb < q := by
          obtain ⟨vb, hkb, _⟩ := hBr.out
          rw [hq]; exact hkb.lt
        clear hq
        obtain ⟨i0, hi, hz0, hz1, hz2⟩ := info_parts infoInt
        have HI0 := Lib.hid hi; have HZ0 := Lib.hid hz0; have HZ1 := Lib.hid hz1; have HZ2 := Lib.hid hz2
        clear hi hz0 hz1 hz2
        go_wp2
        letI : Chg.Rel := bRel q
        refine Chg.wp_region_chain (fun _ => True) (fun _ _ _ _ => trivial) trivial [.val (.func (.func 47) #[] #[.pointer (some ⟨pb, 0, none⟩), .pointer (some ⟨ps, 0, none⟩), .pointer (some ⟨pl, 0, none⟩), .pointer (some ⟨pw, 0, none⟩), .pointer (some ⟨pf, 0, none⟩)]), .fix (.int .i64 k), .val (.int .i64 (k + 1)), .fix v1, .pred (GathP q (ci C)), .fix (.int .i64 k), .pred (LitI q k), .chain (.slice none 0 0) (fun _ => True) (GathP q (ci (C ++ [k])))] mixed (by kernel_rfl) ⟨trivial, trivial, trivial, trivial, trivial, trivial, trivial, trivial, trivial⟩ ?_
        refine Chg.SeqG.valStep (fun wv hbv hpv => ?_) ?_
        · have hbB : Below wr.heap.size wr wv := by have := hbv.2 (by have := HQ.out; omega); rw [HQ.out] at this; exact this
          have cf := (HEr.out.bf.below' hbB).cell 0
          clear hpv
          go_wp2_with fail
          exact Chg.post_val (Below.refl _ _)
        simp only [Act.put, List.setIfInBounds_toArray, List.set_cons_zero, List.set_cons_succ]
        refine Chg.SeqG.fixStep (.inl ⟨rfl, fun _ => rfl⟩) ?_
        simp only [Act.put, List.setIfInBounds_toArray, List.set_cons_zero, List.set_cons_succ]
        refine Chg.SeqG.valStep (fun wv hbv hpv => ?_) ?_
        · clear hpv
          go_wp2_with fail
          exact Chg.post_val (Below.refl _ _)
        simp only [Act.put, List.setIfInBounds_toArray, List.set_cons_zero, List.set_cons_succ]
        refine Chg.SeqG.fixStep (.inl ⟨rfl, fun _ => rfl⟩) ?_
        simp only [Act.put, List.setIfInBounds_toArray, List.set_cons_zero, List.set_cons_succ]
        refine Chg.SeqG.predStep GathP.next (fun wv hbv hpv => ?_) (fun f1v => ?_)
        · clear hpv
          have hbB : Below wr.heap.size wr wv := by have := hbv.2 (by have := HQ.out; omega); rw [HQ.out] at this; exact this
          have HSN := Lib.hid (H1.out.bt (hbr.out.trans (Bt.of hbB)))
          go_wp2_with fail
          refine (cloneN_any pb v1 (ci C) wv HSN.out (by rw [ci_len]; have := HCL.out; omega)).mono ?_; rintro e w9 ⟨v', rfl, hG, _, hb9⟩
          have HG := Lib.hid (show GathP q (ci C) v' w9 from ⟨hG.base (by rw [HQ.out]; exact hbB.size), by rw [HQ.out]; exact Nat.le_trans hbB.size hb9.size⟩)
          clear hG
          go_wp2_with fail
          exact Chg.post_pred (F := GathP q (ci C)) _ hb9 HG.out
        simp only [Act.put, List.setIfInBounds_toArray, List.set_cons_zero, List.set_cons_succ]
        refine Chg.SeqG.fixStep (.inl ⟨rfl, fun _ => rfl⟩) ?_
        simp only [Act.put, List.setIfInBounds_toArray, List.set_cons_zero, List.set_cons_succ]
        refine Chg.SeqG.predStep LitI.next (fun wv hbv hpv => ?_) (fun f2v => ?_)
        · clear hpv
          have hqv : q ≤ wv.heap.size := by have := hbv.1; have := HQ.out; omega
          go_wp2_with fail
          exact Chg.post_pred (F := LitI q k) _ (by (repeat (first | exact Below.refl _ _ | refine Below.drew ?_ | refine below_drewN ?_ _ | (refine Below.alloc ?_ (by (try simp) <;> omega) _) | (refine Below.setCell ?_ (by (try simp) <;> omega) _) | (refine Below.trans ?_ (Below.mono (by assumption) (by (try simp) <;> omega)))))) ⟨wv.heap.size, rfl, hqv, Blk.new _ _ _⟩
        simp only [Act.put, List.setIfInBounds_toArray, List.set_cons_zero, List.set_cons_succ]
        refine Chg.SeqG.chainStep GathP.next (fun wv hbv hpv => ?_) (fun f3v _ => ?_)
        · obtain ⟨g9, rfl, hg9, hc9⟩ := hpv _ (.head _) (by kernel_rfl)
          obtain ⟨hG1, hqv⟩ : GathP q (ci C) f1v wv := hpv _ (.tail _ (.head _)) (by kernel_rfl)
          clear hpv
          have hl1 : (ci C).length ≤ 5 := by rw [ci_len]; exact HCL.out
          refine wpList_append_own _ rfl _ _ 22 rfl q 3 i0 (.int .i64 0) 1 8 Tryd.underlying22 HI0.out HZ0.out HZ1.out HZ2.out rfl (by decide) _ _ _ rfl hG1 ⟨g9, 0, none⟩ 1 1 [.int .i64 k] rfl rfl ?_ one_okI ?_ ?_ hqv ?_
          · intro j u hj
            rw [Go.WideShapes.add_plain, hc9.cell]
            match j, hj with
            | 0, hj => simpa using hj
          · unfold maxLen; omega
          · omega
          · intro v' w' hown hgrow _
            have hb9 := below_grown' ((Below.refl wv.heap.size wv).mono hqv) hgrow hG1 (Nat.le_refl _) hqv
            have hG9 : Gath f1 1 3 w' q v' (ci (C ++ [k])) := by rw [ci_snoc]; exact Gath.snoc hown
            exact ⟨rfl, v', rfl, ⟨hgrow.size, fun _ => hb9⟩, ⟨hG9, Nat.le_trans hqv hgrow.size⟩, trivial⟩
        simp only [Act.put, List.setIfInBounds_toArray, List.set_cons_zero, List.set_cons_succ]
        refine Chg.SeqG.done fun wv hbv hpv => ?_
        obtain ⟨hG3, hqv⟩ : GathP q (ci (C ++ [k])) f3v wv := hpv _ (.head _)
        clear hpv
        have hbB : Below wr.heap.size wr wv := by have := hbv.2 (by have := HQ.out; omega); rw [HQ.out] at this; exact this
        have hd1 : e < d := by have := hd'.out; omega
        have HCall := Lib.hid (HIH.out e hd1 (by omega) (C ++ [k]) b' f3v wv (HEr.out.bt (Bt.of hbB)) (fun j hj => by
          rcases List.mem_append.1 hj with h | h
          · exact HC.out j h
          · rw [List.mem_singleton] at h; omega) (by rw [List.length_append, List.length_singleton]; have := HK.out; have := hd'.out; omega) (hG3.sln hqp (fun h => by rw [ci_nil] at h; simp at h)) (hBr.out.below hbB))
        rw [HEK.out] at HCall
        have HBT := Lib.hid (hbr.out.trans (Bt.of hbB))
        clear hG3 hbv hbB hBr
        go_wp2_with fail
        refine HCall.out.mono ?_; rintro e9 w9 ⟨rfl, hB9, hbt9⟩
        have HB9 := Lib.hid hB9
        have HBT9 := Lib.hid (HBT.out.trans hbt9)
        have HFO := Lib.hid (show (lp S.length e C).foldl (takeF (fineF S (smls M))) (((C ++ [k]) :: lp S.length e (C ++ [k])).foldl (takeF (fineF S (smls M))) b') = (C :: lp S.length d C).foldl (takeF (fineF S (smls M))) b by
          rw [← hfo.out, lp_succ, ← HK.out]
          simp only [List.foldl_cons, List.foldl_append])
        clear hB9 hbt9 HCall
        go_wp2_with fail
        refine Chg.NoPan.normal ?_
        go_wp2
        go_roundw
        case rel => exact ⟨k + 1, e, _, by go_num, by show _ = _; have := HK.out; have := hd'.out; omega, by show _ ≤ _; have := hd'.out; omega, HFO.out, HB9.out, HBT9.out⟩
        case measure => simp only [intOf]; omega
      · obtain rfl : d' = 0 := by omega
        have hkS : k = S.length := hk.out
        have HB9 := Lib.hid (show Best B0 wr pb ((C :: lp S.length d C).foldl (takeF (fineF S (smls M))) b) by rw [← hfo.out]; exact hBr.out)
        subst hkS
        clear hlt hk hfo hBr
        go_wp2
        go_end0
        exact ⟨rfl, HB9.out, hbr.out⟩
end Go.Proofs.YtapfnelghmnajaaDoor
