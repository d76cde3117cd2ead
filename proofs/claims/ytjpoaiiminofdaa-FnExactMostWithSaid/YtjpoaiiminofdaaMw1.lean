/-
  The library's insertion sort of casks, by the kit's contract.
-/
import Derived.Test.YtjpoaiiminofdaaMw0
import Derived.Test.YtjpoaiiminofdaaAppend
import Derived.Test.YtjpoaiiminofdaaShelf
import Derived.Test.YtjpoaiiminofdaaHBittern
import Derived.Shelf.SlSortCmp.InsertionK
import Derived.WalkKit
import Derived.WalkSpells
import Derived.WalkLawsBesides
import Derived.Lib.Hide
import Derived.Deep.QuietTactic
import Derived.BigQuiet
import Derived.StillTailTactics
namespace Go.Proofs.Ytjpoaiiminofdaa
open Go.RowKit

set_option maxHeartbeats 1000000 in
theorem byB_any (x y : B3) (w : World) :
    Calls Try.prog 51 #[.agg #[.int .i64 x.1, .int .i64 x.2.1, .int .i64 x.2.2], .agg #[.int .i64 y.1, .int .i64 y.2.1, .int .i64 y.2.2]] w fun e w' => e = .returned (.int .i64 (Lib.compareInt x.2.2 y.2.2)) ∧
      ∃ q, w' = ((w.alloc (.cells #[.int .i64 x.1, .int .i64 x.2.1, .int .i64 x.2.2] 40)).alloc (.cells #[.int .i64 y.1, .int .i64 y.2.1, .int .i64 y.2.2] 40)).drewN q := by
  have kx := ((Blk.new w 40 #[.int .i64 x.1, .int .i64 x.2.1, .int .i64 x.2.2]).alloc (.cells #[.int .i64 y.1, .int .i64 y.2.1, .int .i64 y.2.2] 40)).cell
  have ky := (Blk.new1 w 40 #[.int .i64 y.1, .int .i64 y.2.1, .int .i64 y.2.2] (.cells #[.int .i64 x.1, .int .i64 x.2.1, .int .i64 x.2.2] 40)).cell
  go_enter Try.func51, Try.ntmps51
  go_wp2_with fail
  refine (Try.cmp_Compare_int _ _ _).mono ?_; rintro e w' ⟨rfl, rfl⟩
  go_wp2
  go_ret
  exact ⟨rfl, 0, rfl⟩

def renB : Go.Shelf.Ren := ⟨fun | 20 => 56 | n => n, fun | 24 => 40 | 22 => 25 | 25 => 61 | 3 => 3 | 4 => 4 | 0 => 0 | n => n, fun | n => n⟩
theorem laysB : Go.Proofs.SlLaysF0.n20 Try.prog renB := {
  mixed := by kernel_rfl
  f20 := ⟨Try.f56.name, by decide, Try.func56.trans (congrArg some (by kernel_rfl))⟩
  t0 := Try.underlying0
  a0 := Try.isAgg0
  z0 := Try.sizeOf0
  v0 := Try.zeroValue0
  t3 := Try.underlying3
  a3 := Try.isAgg3
  z3 := Try.sizeOf3
  v3 := Try.zeroValue3
  t4 := Try.underlying4
  a4 := Try.isAgg4
  z4 := Try.sizeOf4
  v4 := Try.zeroValue4
  t22 := Try.underlying25
  a22 := Try.isAgg25
  z22 := Try.sizeOf25
  v22 := Try.zeroValue25
  t25 := Try.underlying61
  a25 := Try.isAgg61
  z25 := Try.sizeOf61
  v25 := Try.zeroValue61 }
def lexLE (x y : B3) : Prop := x.2.2 < y.2.2 ∨ (x.2.2 = y.2.2 ∧ x.1 ≤ y.1)
theorem bitB_inj {L : List B3} (h : bitB L = true) {a b : B3} (ha : a ∈ L) (hb : b ∈ L) (he : a.1 = b.1) : a = b := by
  obtain ⟨i, hi, rfl⟩ := List.getElem_of_mem ha
  obtain ⟨j, hj, rfl⟩ := List.getElem_of_mem hb
  rcases Nat.lt_trichotomy i j with hlt | heq | hgt
  · have := bitB_asc h (List.getElem?_eq_getElem hi) (List.getElem?_eq_getElem hj) hlt; omega
  · subst heq; rfl
  · have := bitB_asc h (List.getElem?_eq_getElem hj) (List.getElem?_eq_getElem hi) hgt; omega
theorem ord_eq {L D : List B3} (h : bitB L = true) (hp : D.Perm L) (hD : D.Pairwise lexLE) : D = ordM L L.length := by
  have hp2 : (ordM L L.length).Perm L := by have := ordM_perm L L.length (Nat.le_refl _); rwa [List.take_length] at this
  refine List.Perm.eq_of_pairwise (le := lexLE) (fun a b ha hb h1 h2 => ?_) hD ((ordM_sorted h L.length (Nat.le_refl _)).imp fun h => ?_) (hp.trans hp2.symm)
  · refine bitB_inj h (hp.mem_iff.1 ha) (hp2.mem_iff.1 hb) ?_
    rcases h1 with h1 | ⟨h1, h3⟩ <;> rcases h2 with h2 | ⟨h2, h4⟩ <;> omega
  · rcases h with h | ⟨h, h'⟩
    · exact .inl h
    · exact .inr ⟨h, by omega⟩
theorem cmpB_lt (a b : Int) : decide (Lib.compareInt a b < 0) = decide (a < b) := by
  unfold Lib.compareInt
  by_cases h : a < b
  · simp [h]
  · rw [if_neg h]
    by_cases h2 : a > b
    · rw [if_pos h2]; simp [h]
    · rw [if_neg h2]; simp [h]
def ltX (x y : B3) : Bool := decide (x.2.2 < y.2.2 ∨ (x.2.2 = y.2.2 ∧ x.1 < y.1))
theorem ltX_swo : Sort.SWO ltX := ⟨fun x => by simp [ltX], fun x y z h1 h2 => by
  simp only [ltX, decide_eq_true_eq] at *; omega, fun x y z h1 h2 => by
  simp only [ltX, decide_eq_false_iff_not] at *; omega⟩
def cfB (x y : B3) : Int := Lib.compareInt x.2.2 y.2.2
/-- The library's insertion sort gives the reference's order. -/
theorem ins_ord {L : List B3} (h : bitB L = true) : (Sort.insertionSort (ltOf cfB) L.toArray 0 L.toArray.size).toList = ordM L L.length := by
  have hget : ∀ j, j < L.length → L[j]? = some (L.toArray[j]!) := fun j hj => by
    rw [getElem!_pos L.toArray j (by simpa using hj)]
    simp [hj]
  have he : Sort.insertionSort (ltOf cfB) L.toArray 0 L.toArray.size = Sort.insertionSort ltX L.toArray 0 L.toArray.size := insSort_eq L.toArray fun j k hj hk => by
    have hj' : j < L.length := by simpa using hj
    have hlt := bitB_asc h (hget k (by omega)) (hget j hj') hk
    show decide (Lib.compareInt _ _ < 0) = _
    rw [cmpB_lt]
    unfold ltX
    rw [decide_eq_decide]
    omega
  rw [he]
  obtain ⟨⟨hsz, _, hperm⟩, hsrt⟩ := Sort.insertionSort_holds (lt := ltX) ltX_swo L.toArray 0 L.toArray.size (Nat.zero_le _) (Nat.le_refl _)
  obtain ⟨d', hd'⟩ : ∃ d', Sort.insertionSort ltX L.toArray 0 L.toArray.size = d' := ⟨_, rfl⟩
  rw [hd'] at hsz hperm hsrt ⊢
  have e1 : d'.extract 0 L.toArray.size = d' := by rw [← hsz]; exact Array.extract_size
  have e2 : L.toArray.extract 0 L.toArray.size = L.toArray := Array.extract_size
  rw [e1, e2] at hperm
  refine ord_eq h hperm ?_
  rw [List.pairwise_iff_getElem]
  intro i j hi hj hij
  have hi' : i < d'.size := by simpa using hi
  have hj' : j < d'.size := by simpa using hj
  have h1 := hsrt i j (Nat.zero_le _) hij (by omega)
  rw [getElem!_pos d' i hi', getElem!_pos d' j hj'] at h1
  simp only [ltX, decide_eq_false_iff_not] at h1
  simp only [Array.getElem_toList]
  unfold lexLE
  omega
theorem f3_get (x : B3) (c : Nat) (hc : c < 3) : (f3 x)[c]? = some (f3 x)[c]! := by
  rw [getElem!_pos (f3 x) c (by simpa [f3] using hc)]
  exact List.getElem?_eq_getElem _
theorem below_putRowK {α : Type} [Inhabited α] (enc : α → List Value) (k : Nat) (w : World) (B blk off : Nat) (d : Array α) (hB : B ≤ blk) : Below B w (Sort.putRowK enc k w blk off d) :=
  ⟨rfl, rfl, rfl, by simp [Sort.putRowK, Sort.putRow, Sort.mapBlock], fun j hj => by
    simp only [Sort.putRowK, Sort.putRow, Sort.mapBlock, Array.getElem?_modify]
    rw [if_neg (by omega)]⟩
theorem below_grow (w : World) (B : Nat) (os : Array Obj) (hB : B ≤ w.heap.size) : Below B w (Sort.grow w os) :=
  ⟨rfl, rfl, rfl, by simp [Sort.grow], fun k hk => by
    simp only [Sort.grow]
    rw [Array.getElem?_append_left (by omega)]⟩

set_option maxHeartbeats 4000000 in
theorem sortB_any (B g c : Nat) (L : List B3) (w : World) (hR : Row w g 40 (L.length * 3)) (hC : Cells f3 3 w g 0 L) (hBg : B ≤ g) (hL : bitB L = true) (hBw : B ≤ w.heap.size) :
    Calls Try.prog 56 #[.slice (some ⟨g, 0, none⟩) L.length c, .int .i64 0, .int .i64 L.length, .func (.func 51) #[] #[]] w fun e w' => e = .returned (.tuple #[]) ∧
      Cells f3 3 w' g 0 (ordM L L.length) ∧ Below B w w' := by
  have hgw := hR.lt
  have hd : L.toArray.size = L.length := by simp
  have hget : ∀ j, j < L.length → L[j]? = some (L.toArray[j]!) := fun j hj => by
    rw [getElem!_pos L.toArray j (by simpa using hj)]
    simp [hj]
  have hH : Sort.HoldsK f3 3 w g 0 L.toArray := fun t ht => by
    have ht' : t < L.toArray.size * 3 := by simpa using ht
    refine ⟨?_, hR.frozen _⟩
    rw [Sort.get_flatK f3 3 L.toArray t ht']
    have h1 : t / 3 < L.length := by omega
    have h2 : t % 3 < 3 := by omega
    have := hC (t / 3) _ (hget _ h1) (t % 3) _ (f3_get _ _ h2)
    rw [show 0 + t / 3 * 3 + t % 3 = 0 + t by omega] at this
    exact this
  have hcmp : CmpLays Try.prog 51 #[] f3 3 cfB g 0 L.toArray.size w := fun m os dk _ x y => by
    refine (byB_any x y _).mono ?_
    rintro e w' ⟨rfl, q, rfl⟩
    refine ⟨rfl, q, #[.cells #[.int .i64 x.1, .int .i64 x.2.1, .int .i64 x.2.2] 40, .cells #[.int .i64 y.1, .int .i64 y.2.1, .int .i64 y.2.2] 40], ?_⟩
    rw [Sort.alloc_eq_grow, Sort.alloc_eq_grow, Sort.grow_grow]
    rfl
  have eg : ∀ args w, (callFunc 51 args).run Try.prog w = .ok (.enter 51 args) w := Go.Proofs.enters_of Try.func51 (by kernel_rfl) rfl
  have h8 : L.length ≤ 8 := by
    have h := hL
    simp only [bitB, Bool.and_eq_true, decide_eq_true_eq] at h; omega
  have hDl := ins_ord hL
  have C : Calls Try.prog 56 #[.slice (some ⟨g, 0, none⟩) L.length c, .int .i64 0, .int .i64 L.length, .func (.func 51) #[] #[]] w (fun e w' => e = .returned (.tuple #[]) ∧ ∃ n os, w' = sortWorldK f3 3 w g 0 n (Sort.insertionSort (ltOf cfB) L.toArray 0 L.toArray.size) os) := by
    have := AnyQ.insertionSortCmpFunc laysB 3 Try.isAgg40 Try.sizeOf40 f3 (fun _ => rfl) (fun x u hu => by simp [f3] at hu; rcases hu with rfl | rfl | rfl <;> rfl) cfB 51 #[] g 0 c 0 L.toArray.size L.toArray w eg hcmp hH hgw (Nat.zero_le _) (Nat.le_refl _) (by omega)
    rw [hd] at this
    rw [hd]
    exact this
  refine C.mono ?_
  rintro e w' ⟨rfl, n, os, rfl⟩
  generalize Sort.insertionSort (ltOf cfB) L.toArray 0 L.toArray.size = D at *
  have hDs : D.size = L.length := by have h := congrArg List.length hDl; rw [ordM_len L L.length (Nat.le_refl _)] at h; simpa using h
  have hP := Sort.holdsK_putRowK f3 3 (Sort.ahead w n) g 0 L.toArray D hH (by omega)
  have hgP : g < (Sort.putRowK f3 3 (Sort.ahead w n) g 0 D).heap.size := Nat.lt_of_lt_of_le hgw (below_putRowK f3 3 (Sort.ahead w n) g g 0 D (Nat.le_refl _)).size
  refine ⟨rfl, ?_, ?_⟩
  · intro k x hx j u hu
    rw [← hDl] at hx
    have hk : k < D.size := by simpa using (List.getElem?_eq_some_iff.1 hx).1
    have hx2 : x = D[k]! := by
      rw [getElem!_pos D k hk]
      obtain ⟨_, h⟩ := List.getElem?_eq_some_iff.1 hx
      rw [← h]; simp
    have hj : j < 3 := (List.getElem?_eq_some_iff.1 hu).1
    have h := (Sort.HoldsK.cell hP hk hj).1
    unfold sortWorldK
    rw [Sort.cell?_grow _ _ _ hgP, h, ← hx2]
    have h3 := f3_get x j hj
    rw [hu] at h3
    exact h3.symm
  · unfold sortWorldK
    have hb := below_putRowK f3 3 (Sort.ahead w n) B g 0 D hBg
    exact Below.trans (show Below B w (Sort.putRowK f3 3 (Sort.ahead w n) g 0 D) from ⟨hb.os, hb.tape, hb.output, hb.size, hb.block⟩) (below_grow _ B os (by omega))
end Go.Proofs.Ytjpoaiiminofdaa
