/-
  slices.SortFunc of the rows of times, by the kit's contract.
-/
import Derived.Test.YtfcmfadkkfkidaaLq0
import Derived.Test.YtfcmfadkkfkidaaSecH
import Derived.Test.YtfcmfadkkfkidaaShelf
import Derived.WalkKit
import Derived.WalkSpells
import Derived.WalkLawsBesides
import Derived.Lib.Hide
import Derived.Deep.QuietTactic
import Derived.BigQuiet
import Derived.StillTailTactics
namespace Go.Proofs.Ytfcmfadkkfkidaa
open Go.RowKit

set_option maxHeartbeats 1000000 in
theorem lqC_any (g1 g2 c1 c2 : Nat) (m1 m2 : Int) (w : World) (h1 : w.cell? ⟨g1, 1, none⟩ = some (.int .i64 m1)) (h2 : w.cell? ⟨g2, 1, none⟩ = some (.int .i64 m2)) :
    Calls Try.prog 86 #[.slice (some ⟨g1, 0, none⟩) 3 c1, .slice (some ⟨g2, 0, none⟩) 3 c2] w fun e w' => e = .returned (.int .i64 (Lib.compareInt m1 m2)) ∧ ∃ q, w' = w.drewN q := by
  go_enter Try.func86, Try.ntmps86
  go_wp2
  go_quiet (exact (Try.cmp_Compare_int _ _ _).mono fun _ _ ⟨he, hw⟩ => ⟨he, _, hw⟩)
  go_wp2
  go_ret
  exact ⟨rfl, _, rfl⟩

def keyE (x : Elt) : Int := (x.2.2[1]?).getD 0
theorem keyE_at {x : Elt} (h : x.2.2.length = 3) : x.2.2[1]? = some (keyE x) := by
  unfold keyE
  rw [List.getElem?_eq_getElem (by omega)]; rfl
theorem cmp_lt (a b : Int) : decide (Lib.compareInt a b < 0) = decide (a < b) := by
  unfold Lib.compareInt
  by_cases h : a < b
  · simp [h]
  · rw [if_neg h]
    by_cases h2 : a > b
    · rw [if_pos h2]; simp [h]
    · rw [if_neg h2]; simp [h]
theorem below_putRow {α : Type} [Inhabited α] (enc : α → Value) (w : World) (B blk off : Nat) (d : Array α) (hB : B ≤ blk) : Below B w (Sort.putRow enc w blk off d) :=
  ⟨rfl, rfl, rfl, by simp [Sort.putRow, Sort.mapBlock], fun k hk => by
    simp only [Sort.putRow, Sort.mapBlock, Array.getElem?_modify]
    rw [if_neg (by omega)]⟩
theorem heap_putRow {α : Type} [Inhabited α] (enc : α → Value) (w : World) (blk off k : Nat) (d : Array α) (hk : blk ≠ k) : (Sort.putRow enc w blk off d).heap[k]? = w.heap[k]? := by
  simp only [Sort.putRow, Sort.mapBlock, Array.getElem?_modify]
  rw [if_neg hk]

set_option maxHeartbeats 4000000 in
theorem sortT_any (B g c : Nat) (M : List Elt) (w : World) (hG : GathS w B (.slice (some ⟨g, 0, none⟩) M.length c) M) (h3 : ∀ x ∈ M, x.2.2.length = 3) (h12 : M.length ≤ 12) (hM : M ≠ []) :
    Calls Try.prog 85 #[.slice (some ⟨g, 0, none⟩) M.length c, .func (.func 86) #[] #[]] w fun e w' => e = .returned (.tuple #[]) ∧
      ∃ N : List Elt, N.Perm M ∧ N.Pairwise (fun x y => keyE x ≤ keyE y) ∧ Cells fS 1 w' g 0 N ∧ (∀ x ∈ M, RowOk w' B x) ∧ Below B w w' := by
  obtain ⟨A1, c1, e1, ho⟩ := Gath.own (f := fS) (m := 1) (fun _ => rfl) hG.g
  injection e1 with e1 _ e2
  subst e1; subst e2
  obtain ⟨g', hA, hBg, hR, hC⟩ := ho hM
  injection hA with hA
  injection hA with hA
  subst hA
  have hrows := hG.rows
  haveI : Inhabited {x : Elt // x ∈ M} := ⟨⟨M.head hM, List.head_mem hM⟩⟩
  obtain ⟨enc, henc⟩ : ∃ enc : {x : Elt // x ∈ M} → Value, enc = fun x => .slice x.1.1 x.1.2.2.length x.1.2.1 := ⟨_, rfl⟩
  obtain ⟨cf, hcf⟩ : ∃ cf : {x : Elt // x ∈ M} → {x : Elt // x ∈ M} → Int, cf = fun x y => Lib.compareInt (keyE x.1) (keyE y.1) := ⟨_, rfl⟩
  obtain ⟨d, hd0⟩ : ∃ d : Array {x : Elt // x ∈ M}, d = M.attach.toArray := ⟨_, rfl⟩
  have hd : d.size = M.length := by rw [hd0]; simp
  have hlt : ∀ x y, ltOf cf x y = decide (keyE x.1 < keyE y.1) := fun x y => by
    unfold ltOf
    rw [hcf]
    exact cmp_lt _ _
  have hget : ∀ j, j < M.length → M[j]? = some (d[j]!).1 := fun j hj => by
    rw [getElem!_pos d j (by omega)]
    simp only [hd0, List.getElem_toArray, List.getElem_attach]
    exact List.getElem?_eq_getElem hj
  have hO : OneCell enc := fun x => by rw [henc]; rfl
  have hS : Sort.SWO (ltOf cf) := ⟨fun x => by rw [hlt]; simp, fun x y z h1 h2 => by
    rw [hlt] at *
    simp only [decide_eq_true_eq] at *; omega, fun x y z h1 h2 => by
    rw [hlt] at *
    simp only [decide_eq_false_iff_not] at *; omega⟩
  have hne : ∀ x ∈ M, ∀ gx, x.1 = some ⟨gx, 0, none⟩ → g ≠ gx ∧ gx < w.heap.size := fun x hx gx hxa => by
    obtain ⟨gx', h1, _, ⟨cs, hh, _⟩, _⟩ := hrows x hx
    rw [hxa] at h1
    injection h1 with h1
    injection h1 with h1
    subst h1
    refine ⟨ne_ty hR hh (by decide), ?_⟩
    rcases Nat.lt_or_ge gx w.heap.size with h | h
    · exact h
    · rw [Array.getElem?_eq_none h] at hh; cases hh
  have hH : Sort.Holds enc w g 0 d := fun j hj => by
    refine ⟨?_, hR.frozen _⟩
    rw [henc]
    exact cellS hC (hget j (by omega))
  have hcmp : CmpReads Try.prog 86 #[] enc cf g 0 d.size w := fun m os dk hdk x y => by
    obtain ⟨gx, hxA, _, _, hCx⟩ := hrows x.1 x.2
    obtain ⟨gy, hyA, _, _, hCy⟩ := hrows y.1 y.2
    have hx3 := h3 x.1 x.2
    have hy3 := h3 y.1 y.2
    obtain ⟨nx, lx⟩ := hne x.1 x.2 gx hxA
    obtain ⟨ny, ly⟩ := hne y.1 y.2 gy hyA
    have kx := cells1 hCx (k := 1) (keyE_at hx3)
    have ky := cells1 hCy (k := 1) (keyE_at hy3)
    simp only [Nat.zero_add] at kx ky
    have hsz : ∀ q, q < w.heap.size → q < (Sort.putRow enc (Sort.ahead w m) g 0 dk).heap.size := fun q hq => by
      have := (below_putRow enc (Sort.ahead w m) g g 0 dk (Nat.le_refl _)).size
      exact Nat.lt_of_lt_of_le hq this
    have tr : ∀ q v, q < w.heap.size → g ≠ q → w.cell? ⟨q, 1, none⟩ = some v → (sortWorld enc w g 0 m dk os).cell? ⟨q, 1, none⟩ = some v := fun q v hq hn hv => by
      unfold sortWorld
      rw [Sort.cell?_grow _ _ _ (hsz q hq), Sort.cell?_putRow_other _ _ _ _ _ _ (.inl (Ne.symm hn))]
      exact hv
    have ex : enc x = .slice (some ⟨gx, 0, none⟩) 3 x.1.2.1 := by rw [henc]; simp only []; rw [hxA, hx3]
    have ey : enc y = .slice (some ⟨gy, 0, none⟩) 3 y.1.2.1 := by rw [henc]; simp only []; rw [hyA, hy3]
    have := lqC_any gx gy x.1.2.1 y.1.2.1 (keyE x.1) (keyE y.1) (sortWorld enc w g 0 m dk os) (tr gx _ lx nx kx) (tr gy _ ly ny ky)
    rw [ex, ey, hcf]
    exact this
  have eg : ∀ args w, (callFunc 86 args).run Try.prog w = .ok (.enter 86 args) w := Go.Proofs.enters_of Try.func86 (by kernel_rfl) rfl
  rw [← hd]
  refine (Try.slices_SortFunc_small_sorted enc hO cf hS 86 #[] g 0 c d w eg hcmp hH (by omega) (fun n W hn => (Try.bits_Len (n : Int) W (by omega) (by omega)).mono fun e w' ⟨he, hw⟩ => ⟨⟨_, he⟩, hw⟩)).mono ?_
  rintro e w' ⟨rfl, d', n, ⟨hsz, _, hperm⟩, hsrt, rfl⟩
  have e1 : d'.extract 0 d.size = d' := by rw [← hsz]; exact Array.extract_size
  have e2 : d.extract 0 d.size = d := Array.extract_size
  rw [e1, e2] at hperm
  have hdm : d.toList.map Subtype.val = M := by rw [hd0]; exact List.attach_map_subtype_val M
  have hcellN : ∀ k, k < d'.size → (d'.toList.map Subtype.val)[k]? = some (d'[k]!).1 := fun k hk => by
    rw [getElem!_pos d' k hk]
    simp [hk]
  refine ⟨rfl, d'.toList.map Subtype.val, by have := hperm.map Subtype.val; rwa [hdm] at this, ?_, ?_, ?_, ?_⟩
  · rw [List.pairwise_iff_getElem]
    intro i j hi hj hij
    have hi' : i < d'.size := by simpa using hi
    have hj' : j < d'.size := by simpa using hj
    have h := hsrt i j (Nat.zero_le _) hij (by omega)
    rw [hlt] at h
    simp only [decide_eq_false_iff_not] at h
    have e3 := hcellN i hi'
    have e4 := hcellN j hj'
    rw [List.getElem?_eq_getElem hi] at e3
    rw [List.getElem?_eq_getElem hj] at e4
    rw [Option.some.inj e3, Option.some.inj e4]
    omega
  · intro k x hx j u hu
    have hk : k < d'.size := by simpa using (List.getElem?_eq_some_iff.1 hx).1
    rw [hcellN k hk] at hx
    have hx := Option.some.inj hx
    have hj : j = 0 := by have := (List.getElem?_eq_some_iff.1 hu).1; simp [fS] at this; exact this
    subst hj
    have h := Sort.cell?_putRow enc w g 0 d d' hH hsz k hk
    have hu' : u = enc (d'[k]!) := by
      rw [henc]; simp only []
      rw [hx]
      simp [fS] at hu; exact hu.symm
    rw [hu']
    show (Sort.putRow enc w g 0 d').cell? _ = _
    rw [show 0 + k * 1 + 0 = 0 + k by omega]
    exact h
  · intro x hx
    exact (hrows x hx).same fun gx hgx => by
      show (Sort.putRow enc w g 0 d').heap[gx]? = _
      exact heap_putRow enc w g 0 gx d' (hne x hx gx hgx).1
  · exact below_drewN (below_putRow enc w B g 0 d' hBg) _
end Go.Proofs.Ytfcmfadkkfkidaa
