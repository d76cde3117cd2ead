/-
  The casks in order, in a block of the call's own; slices.Backward over them: an iterator.
-/
import Derived.RangeFuncNested
import Derived.RangeFuncBound
import Derived.RangeFuncCalls
import Derived.RangeFuncLeaves
import Derived.RangeFuncBox
import Derived.Shelf.Abstract
import Derived.Shelf.RegionOpen
import Derived.WalkKit
import Derived.OwnWalkIn
import Derived.TacticsInMore
import Derived.LoopNIn
import Derived.LoopIn
import Derived.Test.YtjpoaiiminofdaaMw4
namespace Go.Proofs.Ytjpoaiiminofdaa
open Go.RowKit

set_option maxHeartbeats 1000000 in
theorem byBitter2_any (A : Option Addr) (c : Nat) (L : List B3) (w : World) (hr : SlR f3 3 w w.heap.size A L) (hL : bitB L = true) :
    Calls Try.prog 43 #[.slice A L.length c] w fun e w' => ∃ A' c' g, e = .returned (.slice A' L.length c') ∧ (w.heap.size ≤ g ∧ g ≤ w'.heap.size) ∧ (L ≠ [] → A' = some ⟨g, 0, none⟩ ∧ g < w'.heap.size ∧ Cells f3 3 w' g 0 (ordM L L.length)) ∧ Below w.heap.size w w' := by
  by_cases hne : L = []
  · subst hne
    simp only [List.length_nil]
    have C1 := Lib.hid (cloneB_nil A c w)
    go_enter Try.func43, Try.ntmps43
    go_wp2_with fail
    refine C1.out.mono ?_; rintro e w1 ⟨A1, c1, rfl, hb1⟩
    have C2 := Lib.hid (stable_nil A1 c1 (.func (.func 51) #[] #[]) w1)
    clear C1
    go_wp2_with fail
    refine C2.out.mono ?_; rintro e w2 ⟨rfl, rfl⟩
    go_wp2
    go_ret
    exact ⟨A1, c1, w2.heap.size, rfl, ⟨hb1.size, Nat.le_refl _⟩, fun h => absurd rfl h, hb1⟩
  · obtain ⟨b, off, rfl, hB, hC⟩ := hr hne
    have h8 : L.length ≤ 8 := by
      have h := hL
      simp only [bitB, Bool.and_eq_true, decide_eq_true_eq] at h; omega
    have C1 := Lib.hid (cloneBittern_any b off c L w hC hB (by omega))
    have HN := Lib.hid hne
    clear hC hne
    go_enter Try.func43, Try.ntmps43
    go_wp2_with fail
    refine C1.out.mono ?_; rintro e w1 ⟨A1, c1, rfl, o1, hb1⟩
    obtain ⟨g, rfl, hg, hR, hC⟩ := o1 HN.out
    have C2 := Lib.hid (stable_any w.heap.size g c1 L w1 hR hC hg hL hb1.size)
    have hgl := hR.lt
    clear C1 o1 hR hC
    go_wp2_with fail
    refine C2.out.mono ?_; rintro e w2 ⟨rfl, hC2, hb2⟩
    have HC := Lib.hid hC2
    have HB := Lib.hid (hb1.trans hb2)
    have hgl2 : g < w2.heap.size := Nat.lt_of_lt_of_le hgl hb2.size
    clear C2 hC2 hb2
    go_wp2
    go_ret
    exact ⟨_, c1, g, rfl, ⟨hg, Nat.le_of_lt hgl2⟩, fun _ => ⟨rfl, hgl2, HC.out⟩, HB.out⟩

/-! ### What comes -/
abbrev B3o := { x : Nat × B3 // mwOk x.2 }
theorem getD_ok {O : List B3} (h : ∀ b ∈ O, mwOk b) (j : Nat) : mwOk ((O[j]?).getD (0, 0, 0)) := by
  cases hj : O[j]? with
  | none => exact ⟨⟨by simp, by simp⟩, by simp, by simp⟩
  | some b => exact h b (List.mem_of_getElem? hj)
def bwd (O : List B3) (h : ∀ b ∈ O, mwOk b) (k : Nat) : List B3o := (List.range k).map fun j => ⟨(O.length - 1 - j, (O[O.length - 1 - j]?).getD (0, 0, 0)), getD_ok h _⟩
theorem bwd_len (O : List B3) (h : ∀ b ∈ O, mwOk b) (k : Nat) : (bwd O h k).length = k := by simp [bwd]
theorem bwd_succ (O : List B3) (h : ∀ b ∈ O, mwOk b) (k : Nat) : bwd O h (k + 1) = bwd O h k ++ [⟨(O.length - 1 - k, (O[O.length - 1 - k]?).getD (0, 0, 0)), getD_ok h _⟩] := by simp [bwd, List.range_succ]
theorem bwd_zero (O : List B3) (h : ∀ b ∈ O, mwOk b) : bwd O h 0 = [] := rfl

def foldW (q : Int) (pre : List B3o) : Int × Int := pre.foldl (fun s x => stepM q s x.1.2) (0, 0)
theorem foldW_snoc (q : Int) (pre : List B3o) (x : B3o) : foldW q (pre ++ [x]) = stepM q (foldW q pre) x.1.2 := by simp [foldW]
theorem foldW_bwd (O : List B3) (h : ∀ b ∈ O, mwOk b) (q : Int) : ∀ k, k ≤ O.length → foldW q (bwd O h k) = mwK O q k
  | 0, _ => rfl
  | k + 1, hk => by
    have hx : O[O.length - 1 - k]? = some (O[O.length - 1 - k]'(by omega)) := List.getElem?_eq_getElem _
    rw [bwd_succ, foldW_snoc, foldW_bwd O h q k (by omega), mwK_succ hx]
    dsimp only
    rw [hx]
    rfl
theorem foldW_bd {q : Int} (hq : 0 ≤ q ∧ q ≤ 1000) : ∀ (pre : List B3o), (0 ≤ (foldW q pre).1 ∧ (foldW q pre).1 ≤ 10000 * pre.length) ∧ 0 ≤ (foldW q pre).2 ∧ (foldW q pre).2 ≤ 10000000 * pre.length := by
  intro pre
  obtain ⟨n, hn⟩ : ∃ n, pre.length = n := ⟨_, rfl⟩
  induction n generalizing pre with
  | zero => obtain rfl : pre = [] := List.eq_nil_of_length_eq_zero hn; simp [foldW]
  | succ n ih =>
    obtain ⟨ini, x, rfl⟩ : ∃ ini x, pre = ini ++ [x] := ⟨pre.dropLast, pre.getLast (by intro e; subst e; simp at hn), (List.dropLast_concat_getLast _).symm⟩
    have hl : ini.length = n := by simp at hn; exact hn
    obtain ⟨h1, h2⟩ := ih ini hl
    have := stepM_bd (k := ini.length) hq x.2 h1 h2
    rw [foldW_snoc, show (ini ++ [x]).length = ini.length + 1 by simp]
    exact this

/-! ### What a round keeps: two blocks -/
def Two (b g : Nat) (A B : World) : Prop := B.heap[b]? = A.heap[b]? ∧ B.heap[g]? = A.heap[g]?
theorem Two.refl (b g : Nat) (A : World) : Two b g A A := ⟨rfl, rfl⟩
theorem Two.trans {b g : Nat} {A B C : World} (h : Two b g A B) (k : Two b g B C) : Two b g A C := ⟨k.1.trans h.1, k.2.trans h.2⟩
theorem Two.keeps {b g : Nat} {w : World} (hb : b < w.heap.size) (hg : g < w.heap.size) (W : World) (l : Nat) (o o' : Obj) (hl : w.heap.size ≤ l) (_ : W.heap[l]? = some o) (_ : o.isCells = false) (_ : o.isWalk = false) : Two b g W (W.putObj l o') :=
  ⟨World.putObj_heap_other (by omega), World.putObj_heap_other (by omega)⟩
theorem Two.set {b g : Nat} (W : World) (p : Addr) (v : Value) (hb : b ≠ p.block) (hg : g ≠ p.block) : Two b g W (W.setCell p v) := ⟨Below.heap_setCell _ _ _ _ hb, Below.heap_setCell _ _ _ _ hg⟩
theorem Two.alloc {b g : Nat} (W : World) (o : Obj) (hb : b < W.heap.size) (hg : g < W.heap.size) : Two b g W (W.alloc o) := ⟨Below.heap_alloc _ _ _ hb, Below.heap_alloc _ _ _ hg⟩
theorem Two.of_below {b g : Nat} {A B : World} (h : Below A.heap.size A B) (hb : b < A.heap.size) (hg : g < A.heap.size) : Two b g A B := ⟨h.block b hb, h.block g hg⟩
theorem Two.cells {b g : Nat} {A B : World} (h : Two b g A B) {off : Nat} {O : List B3} (hC : Cells f3 3 A g off O) : Cells f3 3 B g off O :=
  fun k x hx j u hu => (World.cell?_of_block (w := A) (a := ⟨g, off + k * 3 + j, none⟩) h.2).trans (hC k x hx j u hu)
theorem Two.box {b g : Nat} {A B : World} (h : Two b g A B) {v : Value} (hC : A.cell? ⟨b, 0, none⟩ = some v) : B.cell? ⟨b, 0, none⟩ = some v :=
  (World.cell?_of_block (w := A) (a := ⟨b, 0, none⟩) h.1).trans hC

section
attribute [local go_sem] Oper.semAt_some

set_option maxRecDepth 100000 in
set_option maxHeartbeats 4000000 in
theorem back1_in (F : Fence) (n : Nat) (hF : F.fn 49) (hro : F.round = none) (hn : 1 ≤ n) (l Bs g off c : Nat) (A' : Option Addr) (O : List B3) (hO : ∀ b ∈ O, mwOk b) (h8 : O.length ≤ 8) (J Jx : List B3o → World → Prop)
    (hY : ∀ pre x W, J pre W → pre.length < O.length → YieldAt F (n - 1) Try.prog l #[.int .i64 (x.1.1 : Int), .agg #[.int .i64 x.1.2.1, .int .i64 x.1.2.2.1, .int .i64 x.1.2.2.2]] W fun e W' =>
      (e = .returned (.bool true) ∧ J (pre ++ [x]) W' ∧ Two Bs g W W') ∨ (e = .returned (.bool false) ∧ Jx (pre ++ [x]) W'))
    (W : World) (hBs : W.cell? ⟨Bs, 0, none⟩ = some (.slice A' O.length c)) (hC : O ≠ [] → A' = some ⟨g, off, none⟩ ∧ Cells f3 3 W g off O) (h0 : J [] W) :
    CallsIn F n Try.prog 49 #[.func (.yield l) #[] #[], .pointer (some ⟨Bs, 0, none⟩)] W fun e W' => (∃ v, e = .returned v) ∧
      ((∃ ys, ys = bwd O hO O.length ∧ J ys W') ∨ (∃ pre, (∃ k, k ≤ O.length ∧ pre = bwd O hO k) ∧ Jx pre W')) := by
  have h8i : (O.length : Int) ≤ 8 := by omega
  have h0i : (0 : Int) ≤ O.length := by omega
  have HY := Lib.hid hY
  clear hY
  refine callsIn_of_wp Try.func49 rfl hF ?_ hro
  simp only [Try.ntmps49, List.size_toArray, List.length_cons, List.length_nil, Nat.reduceAdd, Nat.reduceSub, Array.replicate_succ, Array.replicate_zero, List.push_toArray, List.append_toArray, List.nil_append, List.cons_append]
  gi_wp2
  gi_loopw [3] (fun v wr => ∃ (r : Nat) (z : Int), v = .int .i64 z ∧ Hid (z = (O.length : Int) - 1 - r) ∧ r ≤ O.length ∧ (-1 ≤ z ∧ z ≤ 7) ∧ J (bwd O hO r) wr ∧ Two Bs g W wr) (fun v _ => (intOf v + 1).toNat)
  case atStart => exact ⟨0, (O.length : Int) - 1, rfl, by show _ = _; omega, by omega, ⟨by omega, by omega⟩, h0, Two.refl _ _ _⟩
  case round =>
    obtain ⟨r, z, rfl, hz, hrl, ⟨hz0, hz1⟩, hJs, hnx⟩ := hrel
    have hbs := hnx.box hBs
    by_cases hlt : r < O.length
    · obtain ⟨k, rfl⟩ : ∃ k : Nat, z = k := ⟨z.toNat, by have := hz.out; omega⟩
      have hk : k = O.length - 1 - r := by have := hz.out; omega
      have hkl : k < O.length := by omega
      have hx : O[k]? = some O[k] := List.getElem?_eq_getElem hkl
      have hxo : mwOk O[k] := hO _ (List.getElem_mem _)
      have hsu : bwd O hO (r + 1) = bwd O hO r ++ [⟨(k, O[k]), hxo⟩] := by
        rw [bwd_succ]
        subst hk
        congr 2
        apply Subtype.ext
        simp only [hx, Option.getD_some]
      generalize O[k] = x at *
      have HSU := Lib.hid hsu
      obtain ⟨rfl, hCs⟩ := hC (by intro e; subst e; simp at hkl)
      obtain ⟨c0, c1, c2⟩ := cells3 (hnx.cells hCs) hx
      have hk0 : (0 : Int) ≤ (k : Int) := by omega
      have hk1 : (k : Int) < (O.length : Int) := by omega
      obtain ⟨fn, tmps, assign, body, hy, hR⟩ := HY.out _ ⟨(k, x), hxo⟩ wr hJs (by rw [bwd_len]; exact hlt)
      dsimp only at hy
      clear hsu hx hk hkl hCs
      gi_wp2
      refine hR.mono ?_
      rintro e W3 (⟨rfl, hJ3, hk3⟩ | ⟨rfl, hJx3⟩)
      · gi_wp2
        go_roundw
        case rel => exact ⟨r + 1, (k : Int) - 1, by first | rfl | go_num, by show _ = _; have := hz.out; omega, by omega, ⟨by omega, by omega⟩, by rw [HSU.out]; exact hJ3, hnx.trans hk3⟩
        case measure => simp only [intOf]; omega
      · gi_wp2
        refine bodyPost_ret (results_none rfl _ _ _) rfl ?_
        exact ⟨⟨_, rfl⟩, .inr ⟨_, ⟨r + 1, by omega, HSU.out.symm⟩, hJx3⟩⟩
    · have hrL : r = O.length := by omega
      have hz2 : ¬ 0 ≤ z := by have := hz.out; omega
      subst hrL
      clear hlt hz
      gi_wp2
      go_end0
      first | exact ⟨⟨_, rfl⟩, .inl ⟨_, rfl, hJs⟩⟩ | exact ⟨⟨_, rfl⟩, .inl hJs⟩

set_option maxRecDepth 100000 in
set_option maxHeartbeats 1000000 in
theorem back_in (F : Fence) (n : Nat) (hF : F.fn 42) (hro : F.round = none) (a : Option Addr) (len cap : Nat) (w : World) :
    CallsIn F n Try.prog 42 #[.slice a len cap] w fun e w' => e = .returned (.func (.func 49) #[] #[.pointer (some ⟨w.heap.size, 0, none⟩)]) ∧ w' = w.alloc (.cells #[.slice a len cap] 25) := by
  refine callsIn_of_wp Try.func42 rfl hF ?_ hro
  simp only [Try.ntmps42, List.size_toArray, List.length_cons, List.length_nil, Nat.reduceAdd, Nat.reduceSub, Array.replicate_succ, Array.replicate_zero, List.push_toArray, List.append_toArray, List.nil_append, List.cons_append]
  gi_wp2
  go_ret
  exact ⟨rfl, rfl⟩

theorem back_stops (F : Fence) (n : Nat) (hF : F.fn 49) (hro : F.round = none) (hn : 1 ≤ n) (Bs g off c : Nat) (A' : Option Addr) (O : List B3) (hO : ∀ b ∈ O, mwOk b) (h8 : O.length ≤ 8) (w : World) (hb : Bs < w.heap.size) (hg : g < w.heap.size)
    (hBs : w.cell? ⟨Bs, 0, none⟩ = some (.slice A' O.length c)) (hC : O ≠ [] → A' = some ⟨g, off, none⟩ ∧ Cells f3 3 w g off O) :
    SeqStopsK F n Try.prog 49 #[.pointer (some ⟨Bs, 0, none⟩)] (fun x : B3o => #[.int .i64 (x.1.1 : Int), .agg #[.int .i64 x.1.2.1, .int .i64 x.1.2.2.1, .int .i64 x.1.2.2.2]]) (Two Bs g) (fun ys => ys = bwd O hO O.length)
      (fun pre => ∃ k, k ≤ O.length ∧ pre = bwd O hO k) O.length w := fun l J Jx W hW _ _ hY h0 => by
  have hT := Two.of_below hW hb hg
  exact back1_in F n hF hro hn l Bs g off c A' O hO h8 J Jx hY W (hT.box hBs) (fun h => ⟨(hC h).1, hT.cells (hC h).2⟩) h0
end
end Go.Proofs.Ytjpoaiiminofdaa
