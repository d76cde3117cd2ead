/-
  When two trips meet, in plain words.
-/
import Derived.Test.YtfcmfadkkfkidaaSec0
import Derived.Test.YtfcmfadkkfkidaaTrip2
namespace Go.Proofs.Ytfcmfadkkfkidaa
open Go.RowKit

/-- A trip that is valid, but for its number and its loads. -/
structure TrOk (x : T5) : Prop where
  b : 0 ≤ x.2.1 ∧ x.2.1 ≤ 9
  c : 0 ≤ x.2.2.1 ∧ x.2.2.1 ≤ 9
  d : 0 ≤ x.2.2.2.1 ∧ x.2.2.2.1 ≤ 1440
theorem TrOk.of {x : T5} (h : tripB x.1 x.2.1 x.2.2.1 x.2.2.2.1 x.2.2.2.2 = true) : TrOk x := by
  obtain ⟨_, h1, h2, _, h3, _⟩ := tripB_bounds h
  exact ⟨h1, h2, h3⟩
def nsec (x : T5) : Nat := secN x.2.1 x.2.2.1
def losec (x : T5) (i : Nat) : Int := secLo x.2.1 x.2.2.1 i
def arrT (x : T5) : Int := arr x.2.1 x.2.2.1 x.2.2.2.1
def entT (x : T5) (s : Int) : Int := entB x.2.1 x.2.2.1 x.2.2.2.1 s
def secsT (x : T5) : List (List Int) := secL x.2.1 x.2.2.1 x.2.2.2.1
def hitAt (x y : T5) (i j : Nat) : Bool := decide (losec x i = losec y j) && decide (max (x.2.2.2.1 + 4 * i) (y.2.2.2.1 + 4 * j) < min (x.2.2.2.1 + 4 * i + 4) (y.2.2.2.1 + 4 * j + 4))
def secsI (x y : T5) : Bool := (List.range (nsec x)).any fun i => (List.range (nsec y)).any fun j => hitAt x y i j
def entM (x y : T5) (s : Int) : Bool := decide (0 ≤ entT x s) && decide (0 ≤ entT y s) && decide (entT x s < entT y s + 4) && decide (entT y s < entT x s + 4)
def secsB (x y : T5) : Bool := (List.range 9).any fun s => entM x y (s : Int)
def endsB (x y : T5) : Bool := (decide (x.2.1 = y.2.1) && decide (x.2.2.2.1 = y.2.2.2.1)) || (decide (x.2.2.1 = y.2.2.1) && decide (arrT x = arrT y))
def meetB (x y : T5) : Bool := endsB x y || secsB x y
theorem hit_iff {x y : T5} {i j : Nat} : hitAt x y i j = true ↔ losec x i = losec y j ∧ max (x.2.2.2.1 + 4 * i) (y.2.2.2.1 + 4 * j) < min (x.2.2.2.1 + 4 * i + 4) (y.2.2.2.1 + 4 * j + 4) := by
  simp [hitAt]
theorem entM_iff {x y : T5} {s : Int} : entM x y s = true ↔ 0 ≤ entT x s ∧ 0 ≤ entT y s ∧ entT x s < entT y s + 4 ∧ entT y s < entT x s + 4 := by
  simp only [entM, Bool.and_eq_true, decide_eq_true_eq]
  constructor
  · rintro ⟨⟨⟨h1, h2⟩, h3⟩, h4⟩; exact ⟨h1, h2, h3, h4⟩
  · rintro ⟨h1, h2, h3, h4⟩; exact ⟨⟨⟨h1, h2⟩, h3⟩, h4⟩
theorem secsI_eq {x y : T5} (hx : TrOk x) (hy : TrOk y) : secsI x y = secsB x y := by
  obtain ⟨xb, xc, xd⟩ := hx
  obtain ⟨yb, yc, yd⟩ := hy
  rw [Bool.eq_iff_iff]
  unfold secsI secsB
  simp only [List.any_eq_true, List.mem_range]
  constructor
  · rintro ⟨i, hi, j, hj, h⟩
    obtain ⟨h1, h2⟩ := hit_iff.1 h
    have l1 := lo_bd xb xc hi
    have e1 := ent_lo (d := x.2.2.2.1) hi
    have e2 := ent_lo (d := y.2.2.2.1) hj
    unfold losec at h1
    refine ⟨(secLo x.2.1 x.2.2.1 i).toNat, by omega, entM_iff.2 ?_⟩
    rw [Int.toNat_of_nonneg l1.1]
    unfold entT
    rw [e1, h1, e2]
    omega
  · rintro ⟨s, hs, h⟩
    obtain ⟨h1, h2, h3, h4⟩ := entM_iff.1 h
    obtain ⟨i, hi, ei⟩ := ent_some h1
    obtain ⟨j, hj, ej⟩ := ent_some h2
    have e1 := ent_lo (d := x.2.2.2.1) hi
    have e2 := ent_lo (d := y.2.2.2.1) hj
    rw [← ei] at e1
    rw [← ej] at e2
    unfold entT at h1 h2 h3 h4
    rw [e1] at h1 h3 h4
    rw [e2] at h2 h3 h4
    refine ⟨i, hi, j, hj, hit_iff.2 ⟨by unfold losec; rw [← ei, ← ej], by omega⟩⟩
theorem meet_hit {x y : T5} {i j : Nat} (hx : TrOk x) (hy : TrOk y) (hi : i < nsec x) (hj : j < nsec y) (h : hitAt x y i j = true) : meetB x y = true := by
  rw [meetB, ← secsI_eq hx hy, Bool.or_eq_true]
  exact .inr (List.any_eq_true.2 ⟨i, List.mem_range.2 hi, List.any_eq_true.2 ⟨j, List.mem_range.2 hj, h⟩⟩)
theorem meet_none {x y : T5} (hx : TrOk x) (hy : TrOk y) (he : endsB x y = false) (h : ∀ i, i < nsec x → ∀ j, j < nsec y → hitAt x y i j = false) : meetB x y = false := by
  rw [meetB, ← secsI_eq hx hy, he, Bool.false_or]
  unfold secsI
  rw [List.any_eq_false]
  intro i hi
  rw [Bool.not_eq_true, List.any_eq_false]
  intro j hj
  rw [h i (List.mem_range.1 hi) j (List.mem_range.1 hj)]
  simp
theorem meet_ends {x y : T5} (he : endsB x y = true) : meetB x y = true := by rw [meetB, he, Bool.true_or]
theorem meet_ent {x y : T5} {s : Nat} (hs : s < 9) (h : entM x y s = true) : meetB x y = true := by
  rw [meetB, Bool.or_eq_true]
  exact .inr (List.any_eq_true.2 ⟨s, List.mem_range.2 hs, h⟩)
theorem meet_noEnt {x y : T5} (h : ∀ s : Nat, s < 9 → entM x y s = false) : meetB x y = endsB x y := by
  have : secsB x y = false := by
    unfold secsB
    rw [List.any_eq_false]
    intro s hs
    rw [h s (List.mem_range.1 hs)]
    simp
  rw [meetB, this, Bool.or_false]
theorem entT_bd {x : T5} (h : TrOk x) {s : Int} (_h0 : 0 ≤ s) (_h8 : s ≤ 8) : -1 ≤ entT x s ∧ entT x s ≤ 1480 := by
  obtain ⟨hb, hc, hd⟩ := h
  unfold entT entB
  split
  · omega
  · split <;> omega
theorem secsT_get {x : T5} {i : Nat} (hi : i < nsec x) : (secsT x)[i]? = some [losec x i, x.2.2.2.1 + 4 * i, x.2.2.2.1 + 4 * i + 4] := secK_get hi
theorem secsT_len (x : T5) : (secsT x).length = nsec x := secK_len _ _ _ _
end Go.Proofs.Ytfcmfadkkfkidaa
