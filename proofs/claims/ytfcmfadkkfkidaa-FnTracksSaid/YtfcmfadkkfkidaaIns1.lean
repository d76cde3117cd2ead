/-
  slices.Clone and slices.Insert at slices of Trips.
-/
import Derived.Test.YtfcmfadkkfkidaaIns0
import Derived.Shelf.RegionOpenPlain
import Derived.Lib.Walk
import Derived.Lib.SliceRun
import Derived.Lib.AppendZerosOnto
import Derived.Lib.Overlaps
import Derived.Laws.Externs
import Derived.WalkKit
import Derived.WalkSpells
import Derived.WalkLawsBesides
import Derived.Lib.Hide
import Derived.Deep.QuietTactic
import Derived.BigQuiet
import Derived.StillTailTactics
namespace Go.Proofs.Ytfcmfadkkfkidaa
open Go.RowKit

abbrev T5i := Int × Int × Int × Int × Int
set_option maxHeartbeats 1000000 in
theorem cloneTripG_any (A : Option Addr) (c : Nat) (L : List T5i) (w : World) (hr : SlR f5 5 w w.heap.size A L) (hm : (L.length : Int) ≤ 1048576) :
    Calls Try.prog 81 #[.slice A L.length c] w fun e w' => ∃ A' c', e = .returned (.slice A' L.length c') ∧ Gath f5 5 25 w' w.heap.size (.slice A' L.length c') L ∧ Below w.heap.size w w' := by
  cases A with
  | none =>
    have hL : L = [] := Classical.byContradiction fun h => by obtain ⟨b, off, h1, _⟩ := hr h; cases h1
    subst hL
    have hnn := @Lib.run_eql_slice_nil
    go_enter Try.func81, Try.ntmps81
    go_wp2
    go_ret
    exact ⟨none, 0, rfl, Gath.nil, Below.refl _ _⟩
  | some a =>
    obtain ⟨i0, hi, hz0, hz1, hz2⟩ := info_parts infoTrip
    have hE := Gath.made (f := f5) (m := 5) (t := 25) (B := w.heap.size) (w := w) (Nat.le_refl _)
    have HE := Lib.hid hE; clear hE
    have hb0 : Below w.heap.size w (w.alloc (.cells #[] 25 (0, 0))) := by (repeat (first | exact Below.refl _ _ | refine Below.drew ?_ | refine below_drewN ?_ _ | (refine Below.alloc ?_ (by (try simp) <;> omega) _) | (refine Below.setCell ?_ (by (try simp) <;> omega) _) | (refine Below.trans ?_ (Below.mono (by assumption) (by (try simp) <;> omega)))))
    have HC := Lib.hid (show ∀ j u, (L.flatMap f5)[j]? = some u → (w.alloc (.cells #[] 25 (0, 0))).cell? (a.add j) = some u from fun j u hj => by
      by_cases hL : L = []
      · subst hL; simp at hj
      · obtain ⟨b, off, h1, h2, h3⟩ := hr hL
        cases h1
        exact src_cells h3 h2 j u hj)
    have HI := Lib.hid hi; have HZ0 := Lib.hid hz0; have HZ1 := Lib.hid hz1; have HZ2 := Lib.hid hz2
    clear hi hz0 hz1 hz2 hr
    have hnn := @Lib.run_eql_slice_nil
    go_enter Try.func81, Try.ntmps81
    go_wp2_with (at_builtin; refine wpList_append_own _ rfl _ _ 33 rfl w.heap.size 25 i0 (.agg #[.int .i64 0, .int .i64 0, .int .i64 0, .int .i64 0, .int .i64 0]) 5 40 Try.underlying33 HI.out HZ0.out HZ1.out HZ2.out rfl (by decide) _ _ _ rfl HE.out a L.length c (L.flatMap f5) rfl (flat_len (f := f5) (m := 5) (fun _ => rfl) L) HC.out (flat_one f_one5) ?c3 ?c4 ?c5 ?c6)
    case c3 => unfold maxLen; first | omega | (simp; omega)
    case c4 => first | omega | (simp; omega)
    case c5 => first | omega | (simp)
    case c6 =>
      intro v' w9 hown hgrow _
      have hG9 : Gath f5 5 25 w9 w.heap.size v' L := by
        unfold Gath; simpa using hown
      have hb9 : Below w.heap.size w w9 := below_grown' hb0 hgrow HE.out (Nat.le_refl _) (by simp)
      obtain ⟨A', c', rfl, _⟩ := Gath.own (f := f5) (m := 5) (fun _ => rfl) hG9
      have HG := Lib.hid hG9
      clear hown hgrow hG9
      go_wp2
      go_ret
      exact ⟨A', c', rfl, HG.out, hb9⟩

theorem isSome_sets (b : Nat) (vs : List Value) (o : Nat) (w : World) (h : ∀ j, j < vs.length → (w.cell? ⟨b, o + j, none⟩).isSome = true) (k : Nat) (hk : (w.cell? ⟨b, k, none⟩).isSome = true) : ((w.setCells b o vs).cell? ⟨b, k, none⟩).isSome = true := by
  by_cases hin : o ≤ k ∧ k < o + vs.length
  · have := World.cell?_setCells_in b vs o w h (k - o) (by omega)
    rw [show o + (k - o) = k by omega] at this
    rw [this]; rfl
  · rw [World.cell?_setCells_out b vs o w ⟨b, k, none⟩ (fun _ _ => by show k < o ∨ o + vs.length ≤ k; omega)]
    exact hk
theorem wpList_copy_runT {P : Program} (w : World) {ops : Array Oper} {rest : List Oper} {o : Oper} {a : Act} {Q : Exit → Act → World → Prop} (hgd : o.guard = none) (d s : Operand) (t t' : TypeId)
    (ho : o.op = .call { callee := .builtin .copy, args := #[d, s], argTypes := #[t, t'] }) (v u : Value) (hd : a.eval d = v) (hs : a.eval s = u) {v' : Value} {w' : World}
    (hr : (Builtin.copy_ #[t, t'] o.type #[v, u]).run P w = .ok v' w') (h : wpList P ops Q rest (a.put o.dst v') w') : wpList P ops Q (o :: rest) a w :=
  wpList_plain hgd fun _ hK => by
    unfold Oper.wp execOp
    simp only [ho, resolve, invoke, builtin, Sem.run_bind, Sem.run_pure, Result.andThen_ok, List.map_toArray, List.map_cons, List.map_nil, hd, hs, hr]
    exact hK _ _ h
theorem step_copy_runT {P : Program} {ops : Array Oper} {o : Oper} {a : Act} {w : World} {K : Act → World → Prop} {Q : Exit → Act → World → Prop} {E : Prop}
    (hg : o.guard = none) (d x : Operand) (dT sT : TypeId) (hop : o.op = Op.call { callee := Callee.builtin Builtin.copy, args := #[d, x], argTypes := #[dT, sT] })
    (v u : Value) (hd : a.eval d = v) (hx : a.eval x = u) {v' : Value} {w' : World} (hr : (Builtin.copy_ #[dT, sT] o.type #[v, u]).run P w = .ok v' w') (hK : K (a.put o.dst v') w') :
    if Region.wanted o (yielded ops a.tmps) = true then Oper.wp P o a w K Q else E := by
  have hw : Region.wanted o (yielded ops a.tmps) = true := by simp [Region.wanted, hg]
  rw [if_pos hw]
  unfold Oper.wp
  simp [execOp, hop, resolve, invoke, builtin, hd, hx, hr, Result.andThen]
  exact hK
/-- The cells of one trip in a block of its own. -/
def tripC (x : T5i) : Array Value := #[.int .i64 x.1, .int .i64 x.2.1, .int .i64 x.2.2.1, .int .i64 x.2.2.2.1, .int .i64 x.2.2.2.2]
theorem trip_src {w : World} {vb : Nat} {x : T5i} {t : TypeId} (h : Blk w vb t (tripC x)) : ∀ j u, (f5 x)[j]? = some u → w.cell? ((⟨vb, 0, none⟩ : Addr).add j) = some u := by
  intro j u hj
  rw [Go.WideShapes.add_plain, Nat.zero_add]
  have hc := h.cell j
  rw [hc]
  have e : (tripC x)[j]? = (f5 x)[j]? := by unfold tripC f5; simp
  rw [e, hj]
theorem sets_cell (w : World) (o : Obj) (b q : Nat) (vs : List Value) (p : Addr) : (((w.alloc o).drew.setCells b q vs).drew).cell? p = ((w.drew.alloc o).setCells b q vs).cell? p := rfl
theorem sets_frozen (w : World) (o : Obj) (b q : Nat) (vs : List Value) (p : Addr) : (((w.alloc o).drew.setCells b q vs).drew).frozen? p = ((w.drew.alloc o).setCells b q vs).frozen? p := rfl
theorem szTrip : (Try.prog.info? 25).map (·.size) = some 5 := by
  obtain ⟨i0, hi, hz0, hz1, hz2⟩ := info_parts infoTrip
  rw [hi]; simp [hz1]
theorem szOf (w : World) : (Go.sizeOf 25).run Try.prog w = .ok 5 w := by
  obtain ⟨i0, hi, hz0, hz1, hz2⟩ := info_parts infoTrip
  simp [Go.sizeOf, typeInfo, hi, hz1]

set_option maxHeartbeats 4000000 in
set_option maxRecDepth 100000 in
/-- There is room: in place. -/
theorem insTrip_shift (g c i vb : Nat) (L : List T5i) (x : T5i) (w : World) (hR : Row w g 25 ((L.length + 1) * 5)) (hC : Cells f5 5 w g 0 L) (hi : i < L.length) (hroom : L.length + 1 ≤ c) (hm : c ≤ 9223372036854775807) (hvb : vb ≠ g) (hv : Blk w vb 25 (tripC x)) :
    Calls Try.prog 82 #[.slice (some ⟨g, 0, none⟩) L.length c, .int .i64 i, .slice (some ⟨vb, 0, none⟩) 1 1] w fun e w' =>
      e = .returned (.slice (some ⟨g, 0, none⟩) (L.length + 1) c) ∧ w' = (w.drew.setCells g ((i + 1) * 5) ((L.drop i).flatMap f5)).setCells g (i * 5) (f5 x) := by
  obtain ⟨n, hn⟩ : ∃ n, L.length = n := ⟨_, rfl⟩
  have hlen := flat_dlen (f := f5) (m := 5) (L := L) (i := i) (fun _ => rfl)
  have hcs : ∀ j u, ((L.drop i).flatMap f5)[j]? = some u → w.cell? ⟨g, i * 5 + j, none⟩ = some u := fun j u hj => by
    have h := cells_flat (f := f5) (m := 5) (fun _ => rfl) (by omega) hC (i * 5 + j) u (by
      rw [← List.take_append_drop i L, List.flatMap_append, List.getElem?_append_right (by rw [flat_len (f := f5) (m := 5) (fun _ => rfl), List.length_take]; omega), flat_len (f := f5) (m := 5) (fun _ => rfl), List.length_take, show min i L.length = i by omega, Nat.add_sub_cancel_left]
      exact hj)
    rwa [Go.WideShapes.add_plain, Nat.zero_add] at h
  have hsrc := trip_src hv
  have hone := flat_one (f := f5) (L := L.drop i) f_one5
  obtain ⟨cs, hh, hsz⟩ := hR
  rw [hn] at hi hroom hlen hsz ⊢
  have hsp : ∀ j, j < (n + 1) * 5 → (w.cell? ⟨g, j, none⟩).isSome = true := fun j hj => row_some (t := 25) (n := (n + 1) * 5) ⟨cs, hh, hsz⟩ hj
  have hfz : ∀ j, w.frozen? ⟨g, j, none⟩ = false := fun j => Row.frozen (t := 25) (n := (n + 1) * 5) ⟨cs, hh, hsz⟩ j
  have hsa : w.shape? vb = some (25, 5) := by unfold World.shape?; unfold Blk at hv; rw [hv]; rfl
  have hsb : w.shape? g = some (25, cs.size) := by unfold World.shape?; rw [hh]
  have hkB : cs.size ≠ 0 := by omega
  have hfa := hv.frozen 0
  have hfe := hv.frozen 5
  have hov : ∀ lb cb, (callFunc 99 #[.slice (some ⟨vb, 0, none⟩) 1 1, .slice (some ⟨g, (i + 1) * 5, none⟩) lb cb]).run Try.prog w = .ok (.value (.bool false)) w := fun lb cb => by
    rw [run_callFunc_extern Try.func99 (by kernel_rfl) (by kernel_rfl) (by kernel_rfl) (e := Extern.SlicesOverlaps.overlaps #[33, 33] #[4]) (by kernel_rfl),
      Lib.run_overlaps_apart w 33 4 25 Try.underlying33 5 szOf ⟨vb, 0, none⟩ ⟨g, (i + 1) * 5, none⟩ 1 1 lb cb hvb 25 25 5 cs.size hsa hsb hkB hfa hfe]
    rfl
  have hz2 : ¬ ((i : Int) = (n : Int)) := by omega
  have hw1 : IntKind.i64.wrap ((i : Int) + 1) = (i : Int) + 1 := by rw [IntKind.wrap_i64]; omega
  have hw2 : IntKind.i64.wrap ((n : Int) + 1) = (n : Int) + 1 := by rw [IntKind.wrap_i64]; omega
  have hb1 : (0 : Int) ≤ (i : Int) + 1 := by omega
  have hin : i ≤ n := by omega
  have htn : ((i : Int) + 1).toNat = i + 1 := by omega
  have htm : ((n : Int) + 1).toNat = n + 1 := by omega
  have hb2 : ¬ (c = i + 1) := by omega
  have hb3 : (i : Int) ≤ (n : Int) + 1 := by omega
  have hb4 : ¬ (c = i) := by omega
  have hcp1 : ∀ ty dc sc, (Builtin.copy_ #[33, 33] ty #[.slice (some ⟨g, (i + 1) * 5, none⟩) (n - i) dc, .slice (some ⟨g, i * 5, none⟩) (n + 1 - i) sc]).run Try.prog w.drew = .ok (goInt (n - i : Nat)) (w.drew.setCells g ((i + 1) * 5) ((L.drop i).flatMap f5)) := fun ty dc sc => by
    have h := run_copy_cellsM (P := Try.prog) w.drew 33 33 ty 25 5 g ((i + 1) * 5) (n - i) dc ⟨g, i * 5, none⟩ (n + 1 - i) sc ((L.drop i).flatMap f5) Try.underlying33 szTrip (by rw [hlen]; congr 1; simp only [Nat.min_def]; split <;> omega)
      (fun j v hj => by rw [Go.WideShapes.add_plain]; exact hcs j v hj)
      (fun j hj => hsp _ (by rw [hlen] at hj; omega)) (fun j hj => hfz _) hone
    rw [show Nat.min (n + 1 - i) (n - i) = n - i by simp only [Nat.min_def]; split <;> omega] at h
    exact h
  obtain ⟨W1, hW1⟩ : ∃ W1, W1 = w.drew.setCells g ((i + 1) * 5) ((L.drop i).flatMap f5) := ⟨_, rfl⟩
  have hsp1 : ∀ k, k < (n + 1) * 5 → (W1.cell? ⟨g, k, none⟩).isSome = true := fun k hk => by
    rw [hW1]
    exact isSome_sets g ((L.drop i).flatMap f5) ((i + 1) * 5) w.drew (fun j hj => hsp _ (by rw [hlen] at hj; omega)) k (hsp k hk)
  have hcp2 : ∀ (W : World), (∀ x, W.cell? x = W1.cell? x) → (∀ x, W.frozen? x = W1.frozen? x) → ∀ ty dc, (Builtin.copy_ #[33, 33] ty #[.slice (some ⟨g, i * 5, none⟩) (n + 1 - i) dc, .slice (some ⟨vb, 0, none⟩) 1 1]).run Try.prog W = .ok (goInt (1 : Nat)) (W.setCells g (i * 5) (f5 x)) := fun W hWc hWf ty dc => by
    have h := run_copy_cellsM (P := Try.prog) W 33 33 ty 25 5 g (i * 5) (n + 1 - i) dc ⟨vb, 0, none⟩ 1 1 (f5 x) Try.underlying33 szTrip (by show 5 = _; rw [show Nat.min 1 (n + 1 - i) = 1 by simp only [Nat.min_def]; split <;> omega])
      (fun j v hj => by
        rw [Go.WideShapes.add_plain, hWc, hW1, World.cell?_setCells_out g _ _ _ _ (fun h _ => absurd h hvb)]
        have := hsrc j v hj
        rwa [Go.WideShapes.add_plain] at this)
      (fun j hj => by rw [hWc]; exact hsp1 _ (by simp [f5] at hj; omega)) (fun j hj => by rw [hWf, hW1, World.frozen?_setCells]; exact hfz _) (f_one5 x)
    rw [show Nat.min 1 (n + 1 - i) = 1 by simp only [Nat.min_def]; split <;> omega] at h
    exact h
  rw [← hW1] at hcp1
  clear hlen hcs hsrc hone hh hsz hsp hfz hsa hsb hkB hfa hfe hsp1 hC hv
  have mx := mixed
  go_enter Try.func82, Try.ntmps82
  go_wp2_with (simp only [hov])
  go_region_law_o (refine step_copy_runT rfl _ _ 33 33 rfl _ _ (by simp [Act.eval, Act.put]) (by simp [Act.eval, Act.put]) (hcp1 _ _ _) ?_)
  go_wp2_with (at_builtin; refine wpList_copy_runT _ rfl _ _ 33 33 rfl _ _ rfl rfl (hcp2 _ (fun _ => rfl) (fun _ => rfl) _ _) ?_)
  go_ret
  first | exact ⟨rfl, rfl⟩ | exact ⟨rfl, by rw [hW1]⟩

set_option maxHeartbeats 4000000 in
set_option maxRecDepth 100000 in
/-- There is no room: a new row. -/
theorem insTrip_grow (g c i vb : Nat) (L : List T5i) (x : T5i) (w : World) (hC : Cells f5 5 w g 0 L) (hgw : g < w.heap.size) (hi : i < L.length) (hroom : c < L.length + 1) (hnc : L.length ≤ c) (hm : L.length ≤ 1048576) (hv : Blk w vb 25 (tripC x)) :
    Calls Try.prog 82 #[.slice (some ⟨g, 0, none⟩) L.length c, .int .i64 i, .slice (some ⟨vb, 0, none⟩) 1 1] w fun e w' =>
      ∃ (G : Nat) (ROW : Array Value), (L.length + 1) * 5 ≤ ROW.size ∧ (∀ (j : Nat) (u : Value), ((L.take i).flatMap f5)[j]? = some u → ROW[j]? = some u) ∧ e = .returned (.slice (some ⟨w.heap.size, 0, none⟩) (L.length + 1) G) ∧
        w' = (((w.alloc (.cells ROW 25)).drew.setCells w.heap.size (i * 5) (f5 x)).drew).setCells w.heap.size ((i + 1) * 5) ((L.drop i).flatMap f5) := by
  obtain ⟨n, hn⟩ : ∃ n, L.length = n := ⟨_, rfl⟩
  have hlen := flat_dlen (f := f5) (m := 5) (L := L) (i := i) (fun _ => rfl)
  have htl : ((L.take i).flatMap f5).length = i * 5 := by rw [flat_len (f := f5) (m := 5) (fun _ => rfl), List.length_take, show min i L.length = i by omega]
  have hcs : ∀ j u, ((L.drop i).flatMap f5)[j]? = some u → w.cell? ⟨g, i * 5 + j, none⟩ = some u := fun j u hj => by
    have h := cells_flat (f := f5) (m := 5) (fun _ => rfl) (by omega) hC (i * 5 + j) u (by
      rw [← List.take_append_drop i L, List.flatMap_append, List.getElem?_append_right (by omega), htl, Nat.add_sub_cancel_left]
      exact hj)
    rwa [Go.WideShapes.add_plain, Nat.zero_add] at h
  have hts : ∀ j u, ((L.take i).flatMap f5)[j]? = some u → w.cell? ((⟨g, 0, none⟩ : Addr).add j) = some u := cells_flat (f := f5) (m := 5) (fun _ => rfl) (by omega) (hC.take i)
  have hsrc := trip_src hv
  have hone := flat_one (f := f5) (L := L.drop i) f_one5
  have hvw := hv.lt
  obtain ⟨i0, hi0, hz0, hzs, hzb⟩ := info_parts infoTrip
  have hsz := szTrip
  rw [hn] at hi hroom hnc hm hlen ⊢
  have hz2 : ¬ ((i : Int) = (n : Int)) := by omega
  have hz3 : (c : Int) < (n : Int) + 1 := by omega
  have hkk : (n : Int) + 1 - (i : Int) = ((n + 1 - i : Nat) : Int) := by omega
  have hik : i + (n + 1 - i) = n + 1 := by omega
  have hold : (Builtin.firstCells i0.size i (.slice (some ⟨g, 0, none⟩) i c)).run Try.prog w.drew = .ok ((L.take i).flatMap f5).toArray w.drew := by
    rw [hzs]
    exact run_firstCells_some w.drew 5 i ⟨g, 0, none⟩ i c ((L.take i).flatMap f5) htl (fun j v hj => hts j v hj)
  have hrz : ∀ ty, (Builtin.append_ #[33, 3] ty #[.slice (some ⟨g, 0, none⟩) i c, .int .i64 ((n : Int) + 1 - (i : Int))]).run Try.prog w =
      .ok (.slice (some ⟨w.heap.size, 0, none⟩) (n + 1) (grownCap w (n + 1) c 25)) (w.drew.alloc (.cells (((L.take i).flatMap f5).toArray ++ Builtin.zeroCells (Value.agg #[.int .i64 0, .int .i64 0, .int .i64 0, .int .i64 0, .int .i64 0]).cells (n + 1 - i) ++ Builtin.zeroCells (Value.agg #[.int .i64 0, .int .i64 0, .int .i64 0, .int .i64 0, .int .i64 0]).cells (grownCap w (n + 1) c 25 - (n + 1))) 25)) := fun ty => by
    have h := Lib.run_append_grow_zeros w 33 3 ty 25 i0 _ .i64 .i64 Try.underlying33 Try.underlying3 hi0 hz0 (some ⟨g, 0, none⟩) i c ((L.take i).flatMap f5) hold (n + 1 - i) (by omega) (by omega) (by omega) (by omega) (by rw [hzb]; omega) (by rw [hzb, hik]; exact growslice_fits hroom (by omega))
    rw [hik] at h
    rw [hkk]
    exact h
  obtain ⟨G, hG⟩ : ∃ G, G = grownCap w (n + 1) c 25 := ⟨_, rfl⟩
  obtain ⟨ROW, hROW⟩ : ∃ ROW : Array Value, ROW = ((L.take i).flatMap f5).toArray ++ Builtin.zeroCells (Value.agg #[.int .i64 0, .int .i64 0, .int .i64 0, .int .i64 0, .int .i64 0]).cells (n + 1 - i) ++ Builtin.zeroCells (Value.agg #[.int .i64 0, .int .i64 0, .int .i64 0, .int .i64 0, .int .i64 0]).cells (G - (n + 1)) := ⟨_, rfl⟩
  rw [← hG] at hrz
  rw [← hROW] at hrz
  have hRl : (n + 1) * 5 ≤ ROW.size := by
    rw [hROW]
    simp [Builtin.zeroCells, Value.cells, htl]
    omega
  have hRt : ∀ (j : Nat) (u : Value), ((L.take i).flatMap f5)[j]? = some u → ROW[j]? = some u := fun j u hj => by
    have hjl := (List.getElem?_eq_some_iff.1 hj).1
    rw [hROW, Array.append_assoc, Array.getElem?_append_left (by simpa using hjl)]
    simpa using hj
  have HR := Lib.hid (And.intro hRl hRt)
  obtain ⟨W1, hW1⟩ : ∃ W1, W1 = w.drew.alloc (.cells ROW 25) := ⟨_, rfl⟩
  rw [← hW1] at hrz
  have hN : ∀ j, j < (n + 1) * 5 → (W1.cell? ⟨w.heap.size, j, none⟩).isSome = true := fun j hj => by
    rw [hW1, World.cell?_alloc_at (w := w.drew) ROW _ w.heap.size j rfl, Array.getElem?_eq_getElem (by omega)]; rfl
  have hNf : ∀ j, W1.frozen? ⟨w.heap.size, j, none⟩ = false := fun j => by rw [hW1]; exact World.frozen?_alloc_at (w := w.drew) ROW _ w.heap.size j rfl
  have hOb : ∀ j v, w.cell? ⟨g, j, none⟩ = some v → W1.cell? ⟨g, j, none⟩ = some v := fun j v h => by rw [hW1, World.cell?_alloc_past (w := w.drew) _ g j hgw]; exact h
  have hOv : ∀ j v, w.cell? ⟨vb, j, none⟩ = some v → W1.cell? ⟨vb, j, none⟩ = some v := fun j v h => by rw [hW1, World.cell?_alloc_past (w := w.drew) _ vb j hvw]; exact h
  have hGn : n + 1 ≤ G := by rw [hG]; exact grownCap_ge w _ _ _
  have hG63 : G ≤ 9223372036854775807 := by
    have := grownCap_le_maxLen w (n + 1) c 25 (by unfold maxLen; omega)
    rw [← hG] at this
    unfold maxLen at this
    omega
  have hcpA : ∀ (W : World), (∀ x, W.cell? x = W1.cell? x) → (∀ x, W.frozen? x = W1.frozen? x) → ∀ ty dc, (Builtin.copy_ #[33, 33] ty #[.slice (some ⟨w.heap.size, i * 5, none⟩) (n + 1 - i) dc, .slice (some ⟨vb, 0, none⟩) 1 1]).run Try.prog W = .ok (goInt (1 : Nat)) (W.setCells w.heap.size (i * 5) (f5 x)) := fun W hWc hWf ty dc => by
    have h := run_copy_cellsM (P := Try.prog) W 33 33 ty 25 5 w.heap.size (i * 5) (n + 1 - i) dc ⟨vb, 0, none⟩ 1 1 (f5 x) Try.underlying33 szTrip (by show 5 = _; rw [show Nat.min 1 (n + 1 - i) = 1 by simp only [Nat.min_def]; split <;> omega])
      (fun j v hj => by
        rw [Go.WideShapes.add_plain, hWc]
        have := hsrc j v hj
        rw [Go.WideShapes.add_plain] at this
        exact hOv _ v this)
      (fun j hj => by rw [hWc]; exact hN _ (by simp [f5] at hj; omega)) (fun j hj => by rw [hWf]; exact hNf _) (f_one5 x)
    rw [show Nat.min 1 (n + 1 - i) = 1 by simp only [Nat.min_def]; split <;> omega] at h
    exact h
  have hGi : ¬ (G = i) := by omega
  have hGim : ¬ (G = i + 1) := by omega
  have hci : ¬ (c = i) := by omega
  have hbN : g ≠ w.heap.size := by omega
  have hcpB : ∀ (W : World), (∀ p, W.cell? p = (W1.setCells w.heap.size (i * 5) (f5 x)).cell? p) → (∀ p, W.frozen? p = (W1.setCells w.heap.size (i * 5) (f5 x)).frozen? p) → ∀ ty dc sc, (Builtin.copy_ #[33, 33] ty #[.slice (some ⟨w.heap.size, (i + 1) * 5, none⟩) (n - i) dc, .slice (some ⟨g, i * 5, none⟩) (n - i) sc]).run Try.prog W = .ok (goInt (n - i : Nat)) (W.setCells w.heap.size ((i + 1) * 5) ((L.drop i).flatMap f5)) := fun W hWc hWf ty dc sc => by
    have h := run_copy_cellsM (P := Try.prog) W 33 33 ty 25 5 w.heap.size ((i + 1) * 5) (n - i) dc ⟨g, i * 5, none⟩ (n - i) sc ((L.drop i).flatMap f5) Try.underlying33 szTrip (by rw [hlen]; congr 1; simp only [Nat.min_def]; split <;> omega)
      (fun j v hj => by
        rw [Go.WideShapes.add_plain, hWc, World.cell?_setCells_out _ _ _ _ _ (fun h _ => absurd h hbN)]
        exact hOb _ v (hcs j v hj))
      (fun j hj => by rw [hWc]; exact isSome_sets w.heap.size (f5 x) (i * 5) W1 (fun t ht => hN _ (by simp [f5] at ht; omega)) _ (hN _ (by rw [hlen] at hj; omega)))
      (fun j hj => by rw [hWf, World.frozen?_setCells]; exact hNf _) hone
    rw [show Nat.min (n - i) (n - i) = n - i by simp only [Nat.min_def]; split <;> omega] at h
    exact h
  subst hW1
  have hE1 : ∀ p, ((w.alloc (.cells ROW 25)).drew).cell? p = (w.drew.alloc (.cells ROW 25)).cell? p := fun p => rfl
  have hE2 : ∀ p, ((w.alloc (.cells ROW 25)).drew).frozen? p = (w.drew.alloc (.cells ROW 25)).frozen? p := fun p => rfl
  have hF1 : ∀ p, (((w.alloc (.cells ROW 25)).drew.setCells w.heap.size (i * 5) (f5 x)).drew).cell? p = ((w.drew.alloc (.cells ROW 25)).setCells w.heap.size (i * 5) (f5 x)).cell? p := sets_cell _ _ _ _ _
  have hF2 : ∀ p, (((w.alloc (.cells ROW 25)).drew.setCells w.heap.size (i * 5) (f5 x)).drew).frozen? p = ((w.drew.alloc (.cells ROW 25)).setCells w.heap.size (i * 5) (f5 x)).frozen? p := sets_frozen _ _ _ _ _
  have hw1 : IntKind.i64.wrap ((i : Int) + 1) = (i : Int) + 1 := by rw [IntKind.wrap_i64]; omega
  have hb1 : (0 : Int) ≤ (i : Int) + 1 := by omega
  have hin : i ≤ n := by omega
  have htn : ((i : Int) + 1).toNat = i + 1 := by omega
  have hb3 : (i : Int) ≤ (n : Int) := by omega
  have mx := mixed
  clear hkk hik hold hROW hG hRl hRt hcs hts hsrc hone htl hlen hN hNf hOb hOv hC hv hi0 hz0 hzs hzb hsz
  go_enter Try.func82, Try.ntmps82
  go_wp2_with (first
    | (at_builtin; refine Lib.wpList_append_run _ rfl _ _ _ _ rfl _ _ rfl rfl _ _ (hrz _) ?_)
    | (at_builtin; refine wpList_copy_runT _ rfl _ _ 33 33 rfl _ _ rfl rfl (hcpA _ hE1 hE2 _ _) ?_)
    | (at_builtin; refine wpList_copy_runT _ rfl _ _ 33 33 rfl _ _ rfl rfl (hcpB _ (fun _ => rfl) (fun _ => rfl) _ _ _) ?_))
  go_region_law_o (refine step_copy_runT rfl _ _ 33 33 rfl (.slice (some ⟨w.heap.size, (i + 1) * 5, none⟩) (n - i) (G - (i + 1))) (.slice (some ⟨g, i * 5, none⟩) (n - i) (c - i)) (by simp [Act.eval, Act.put]) (by simp [Act.eval, Act.put]) (hcpB _ hF1 hF2 3 (G - (i + 1)) (c - i)) ?_)
  go_wp2
  go_ret
  exact ⟨G, ROW, HR.out.1, HR.out.2, rfl, rfl⟩
end Go.Proofs.Ytfcmfadkkfkidaa
