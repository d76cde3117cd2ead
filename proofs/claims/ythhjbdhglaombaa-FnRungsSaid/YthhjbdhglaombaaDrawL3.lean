/-
  DrawRoomOnRung: a ladder, an index and a brine.
-/
import Derived.Test.YthhjbdhglaombaaDrawL2
namespace Go.Proofs.Ythhjbdhglaombaa
open Go.RowKit

def AnyI (_ : Int) : Prop := True
def PtrI (v : Value) (w : World) : Prop := ∃ b o x, v = .pointer (some ⟨b, o, none⟩) ∧ b < w.heap.size ∧ w.cell? ⟨b, o, none⟩ = some (.int .i64 x)
theorem PtrI.next : ∀ (v : Value) (w w' : World), Below w.heap.size w w' → PtrI v w → PtrI v w' := fun v w w' hb h => by
  obtain ⟨b, o, x, h1, h2, h3⟩ := h
  exact ⟨b, o, x, h1, Nat.lt_of_lt_of_le h2 hb.size, (hb.cell (p := ⟨b, o, none⟩) h2).trans h3⟩
def IntV (v : Value) (_ : World) : Prop := ∃ x, v = .int .i64 x
theorem IntV.next : ∀ (v : Value) (w w' : World), Below w.heap.size w w' → IntV v w → IntV v w' := fun _ _ _ _ h => h

set_option maxRecDepth 20000 in
set_option maxHeartbeats 16000000 in
theorem DrawRoomOnRung_any (A : Option Addr) (c : Nat) (L : List Int) (wo : World) (hI : ∀ x ∈ L, 0 ≤ x ∧ x ≤ 255) (hl : (L.length : Int) ≤ 65536) (hs : SlR fb 1 wo wo.heap.size A L) :
    Calls Try.prog 46 #[.slice A L.length c] wo (DrW (fun v w' => ∃ A c M i s d, v = .tuple #[.slice A M.length c, .int .i64 i, .agg #[.int .i64 s, .int .i64 d]] ∧ RungsOk 100 M ∧ SlR f2 2 w' w'.heap.size A M) wo) := by
  have hc := cur_new1 (c := c) (.cells #[.int .i64 0, .int .i64 0] 38) hs
  have kR := (Blk.new wo 38 #[.int .i64 0, .int .i64 0]).alloc (.cells #[.slice A L.length c, .int .i64 0, .int .u64 0] 95)
  have hB : Below wo.heap.size wo ((wo.alloc (.cells #[.int .i64 0, .int .i64 0] 38)).alloc (.cells #[.slice A L.length c, .int .i64 0, .int .u64 0] 95)) := by (repeat (first | exact Below.refl _ _ | refine Below.drew ?_ | refine below_drewN ?_ _ | (refine Below.alloc ?_ (by (try simp) <;> omega) _) | (refine Below.setCell ?_ (by (try simp) <;> omega) _) | (refine Below.trans ?_ (Below.mono (by assumption) (by (try simp) <;> omega)))))
  go_enter Try.func46, Try.ntmps46
  go_upto_region 2 with fail
  generalize (wo.alloc (.cells #[.int .i64 0, .int .i64 0] 38)).alloc (.cells #[.slice A L.length c, .int .i64 0, .int .u64 0] 95) = w at *
  generalize hg : wo.heap.size + 1 = g at *
  generalize hq : wo.heap.size = q at *
  have Hq := Lib.hid hq; have hne : q ≠ g := by omega
  have hqg : q ≤ g := by omega
  clear hq hg hs
  have gg := hc.lt
  go_wp2_with fail
  refine (pick_any A c L g (0) (5) _ hI hl (by omega) (by omega) (hc.next (by (repeat (first | exact Below.refl _ _ | refine Below.drew ?_ | refine below_drewN ?_ _ | (refine Below.alloc ?_ (by (try simp) <;> omega) _) | (refine Below.setCell ?_ (by (try simp) <;> omega) _) | (refine Below.trans ?_ (Below.mono (by assumption) (by (try simp) <;> omega)))))))).mono ?_; rintro e w1 ⟨x1, rfl, hx1, hc1, hb1⟩
  have G1 : ButG g w w1 := ButG.refl.trans ((ButG.of (by (repeat (first | exact Below.refl _ _ | refine Below.drew ?_ | refine below_drewN ?_ _ | (refine Below.alloc ?_ (by (try simp) <;> omega) _) | (refine Below.setCell ?_ (by (try simp) <;> omega) _) | (refine Below.trans ?_ (Below.mono (by assumption) (by (try simp) <;> omega)))))) : ButG g w _).trans hb1)
  obtain ⟨u1, v1⟩ := hx1
  obtain ⟨n1, rfl⟩ := Int.eq_ofNat_of_zero_le u1
  go_wp2_with fail
  refine (ladder_any A c L g (0 + 2) (1 + n1) _ hI hl (by omega) (by omega) (hc1.next (by (repeat (first | exact Below.refl _ _ | refine Below.drew ?_ | refine below_drewN ?_ _ | (refine Below.alloc ?_ (by (try simp) <;> omega) _) | (refine Below.setCell ?_ (by (try simp) <;> omega) _) | (refine Below.trans ?_ (Below.mono (by assumption) (by (try simp) <;> omega)))))))).mono ?_; rintro e w2 ⟨A2, c2, M2, rfl, hM2, o2, hc2, hb2⟩
  have G2 : ButG g w w2 := G1.trans ((ButG.of (by (repeat (first | exact Below.refl _ _ | refine Below.drew ?_ | refine below_drewN ?_ _ | (refine Below.alloc ?_ (by (try simp) <;> omega) _) | (refine Below.setCell ?_ (by (try simp) <;> omega) _) | (refine Below.trans ?_ (Below.mono (by assumption) (by (try simp) <;> omega)))))) : ButG g w1 _).trans hb2)
  go_wp2_with fail
  refine (brine_any A c L g (0 + 2 + 6 * (1 + n1) + 60) _ hI hl (by omega) (hc2.next (by (repeat (first | exact Below.refl _ _ | refine Below.drew ?_ | refine below_drewN ?_ _ | (refine Below.alloc ?_ (by (try simp) <;> omega) _) | (refine Below.setCell ?_ (by (try simp) <;> omega) _) | (refine Below.trans ?_ (Below.mono (by assumption) (by (try simp) <;> omega)))))))).mono ?_; rintro e w3 ⟨s3, d3, rfl, m3, hc3, hb3⟩
  have G3 : ButG g w w3 := G2.trans ((ButG.of (by (repeat (first | exact Below.refl _ _ | refine Below.drew ?_ | refine below_drewN ?_ _ | (refine Below.alloc ?_ (by (try simp) <;> omega) _) | (refine Below.setCell ?_ (by (try simp) <;> omega) _) | (refine Below.trans ?_ (Below.mono (by assumption) (by (try simp) <;> omega)))))) : ButG g w2 _).trans hb3)
  have o3 : OwnR f2 2 67 w3 w1.heap.size A2 M2 := o2.but (by have := hc1.lt; omega) hb3
  have lg1 : g < w1.heap.size := hc1.lt
  have lq1 : q < w1.heap.size := by have := G1.size; have := kR.lt; omega
  have lg3 : g < w3.heap.size := hc3.lt
  have lq3 : q < w3.heap.size := by have := G3.size; have := kR.lt; omega
  have hM2l := hM2.1
  go_upto_region 4 with fail
  have jb := Blk.new w3 38 #[.int .i64 s3, .int .i64 d3]
  have kR3 := (kR.but G3 hne).alloc (.cells #[.int .i64 s3, .int .i64 d3] 38)
  have o4 := o3.next (w' := w3.alloc (.cells #[.int .i64 s3, .int .i64 d3] 38)) (by (repeat (first | exact Below.refl _ _ | refine Below.drew ?_ | refine below_drewN ?_ _ | (refine Below.alloc ?_ (by (try simp) <;> omega) _) | (refine Below.setCell ?_ (by (try simp) <;> omega) _) | (refine Below.trans ?_ (Below.mono (by assumption) (by (try simp) <;> omega))))))
  have hc4 : Cur A c L g (0 + 2 + 6 * (1 + n1) + 60 + 8) (w3.alloc (.cells #[.int .i64 s3, .int .i64 d3] 38)) := hc3.next (by (repeat (first | exact Below.refl _ _ | refine Below.drew ?_ | refine below_drewN ?_ _ | (refine Below.alloc ?_ (by (try simp) <;> omega) _) | (refine Below.setCell ?_ (by (try simp) <;> omega) _) | (refine Below.trans ?_ (Below.mono (by assumption) (by (try simp) <;> omega))))))
  have G4 : ButG g w (w3.alloc (.cells #[.int .i64 s3, .int .i64 d3] 38)) := G3.alloc _
  have hpp : w3.heap.size ≠ g := by omega
  have hpq : w3.heap.size ≠ q := by omega
  clear G1 G2 G3 hb2 hb3 o2 o3 hc1 hc2 hc3 kR
  generalize w3.heap.size = p at *
  generalize w3.alloc (.cells #[.int .i64 s3, .int .i64 d3] 38) = W at *
  clear w2 w3
  have hR := Lib.hid (fun (W' : World) (h : SlR f2 2 W' W'.heap.size A2 M2) => SRungsFor_any A2 c2 M2 s3 d3 W' h (by omega))
  have cb := jb.cell
  go_wp2_with fail
  refine (hR.out _ (by exact o4.sl)).mono ?_; rintro e w5 ⟨A5, c5, rfl, o5, hb5⟩
  have hRl : (runL M2 s3 d3).length ≤ 1000000 := by have := runL_len M2 s3 d3; omega
  generalize runL M2 s3 d3 = R at *
  generalize runB M2 s3 d3 = ok at *
  have jb5 := jb.below' hb5
  have kR5 := kR3.below' hb5
  have o6 := o4.next hb5
  have hc5 := hc4.next hb5
  have G5 : ButG g w w5 := G4.trans (.of hb5)
  have lW : g < W.heap.size := hc4.lt
  have lWq : q < W.heap.size := kR3.lt
  clear hb5 jb kR3 o4 hc4 G4 cb hR
  have hM0 : (0 : Int) ≤ M2.length := by omega
  cases ok
  · go_upto_region 7 with fail
    have jb_ := jb5
    have kR_ := kR5
    have o_ := o6
    have G_ := G5
    have hc_ := hc5
    letI : Chg.Rel := curRel g
    have cb := jb_.cell
    refine Chg.wp_region_chain (Cur A c L g (0 + 2 + 6 * (1 + n1) + 60 + 8)) (fun _ _ hb h => h.next hb) hc_ [.fix (.slice A2 M2.length c2), .fix (.pointer (some ⟨g, 0, none⟩)), .fix (.slice A2 M2.length c2), .val (.int .i64 M2.length), .chain (.int .i64 0) (IntP Small) (CurV A c L g (0 + 2 + 6 * (1 + n1) + 60 + 8 + 4) Small), .val (.agg #[.int .i64 s3, .int .i64 d3]), .fix (.slice A2 M2.length c2), .pred IntV] mixed (by kernel_rfl) ⟨trivial, trivial, trivial, trivial, ⟨0, rfl, ⟨by decide, by decide⟩⟩, trivial, trivial, trivial, trivial⟩ ?_
    refine Chg.SeqG.fixStep (.inl ⟨rfl, fun _ => rfl⟩) ?_
    simp only [Act.put, List.setIfInBounds_toArray, List.set_cons_zero, List.set_cons_succ]
    refine Chg.SeqG.fixStep (.inl ⟨rfl, fun _ => rfl⟩) ?_
    simp only [Act.put, List.setIfInBounds_toArray, List.set_cons_zero, List.set_cons_succ]
    refine Chg.SeqG.fixStep (.inl ⟨rfl, fun _ => rfl⟩) ?_
    simp only [Act.put, List.setIfInBounds_toArray, List.set_cons_zero, List.set_cons_succ]
    refine Chg.SeqG.valStep (fun wv hbv hpv => ?_) ?_
    · skip
      go_wp2_with fail
      exact Chg.post_val (Below.refl _ _)
    simp only [Act.put, List.setIfInBounds_toArray, List.set_cons_zero, List.set_cons_succ]
    refine Chg.SeqG.chainStep CurV.next (fun wv hbv hpv => ?_) (fun v1 hg1 => ?_)
    · have h0 := hpv _ (.head _) (by kernel_rfl)
      clear hpv
      go_wp2_with fail
      refine (indexOf_any A c L g (0 + 2 + 6 * (1 + n1) + 60 + 8) _ _ hI hl (by omega) (by omega) (by omega) h0).mono ?_; rintro e w9 ⟨x9, rfl, m9, hc9, hb9⟩
      go_wp2_with fail
      exact Chg.post_chain _ hb9 ⟨x9, rfl, m9, hc9⟩ ⟨x9, rfl, m9⟩
    simp only [Act.put, List.setIfInBounds_toArray, List.set_cons_zero, List.set_cons_succ]
    refine Chg.SeqG.valStep (fun wv hbv hpv => ?_) ?_
    · have cb2 := (jb_.but hbv hpp).cell
      go_wp2_with fail
      exact Chg.post_val (Below.refl _ _)
    simp only [Act.put, List.setIfInBounds_toArray, List.set_cons_zero, List.set_cons_succ]
    refine Chg.SeqG.fixStep (.inl ⟨rfl, fun _ => rfl⟩) ?_
    simp only [Act.put, List.setIfInBounds_toArray, List.set_cons_zero, List.set_cons_succ]
    refine Chg.SeqG.predStep IntV.next (fun wv hbv hpv => ?_) (fun v4 => ?_)
    · clear hpv
      obtain ⟨x7, rfl, -⟩ := hg1
      go_wp2_with fail
      exact Chg.post_pred _ (Below.refl _ _) ⟨x7, rfl⟩
    simp only [Act.put, List.setIfInBounds_toArray, List.set_cons_zero, List.set_cons_succ]
    refine Chg.SeqG.done fun wv hbv hpv => ?_
    obtain ⟨rr, rfl⟩ := hpv _ (.head _)
    clear hpv
    have kZ := kR_.but hbv hne
    have cR := kZ.cell
    have fR := kZ.frozen
    have hw : Below q wo wv := hB.trans ((G_.trans hbv).below hqg gg)
    have HW := Lib.hid hw; clear hw
    have O7 := Lib.hid (o_.but lg1 hbv)
    go_wp2_with fail
    refine Chg.NoPan.normal ?_
    go_wp2
    refine bodyPost_ret (v := .tuple #[.slice A2 M2.length c2, .int .i64 rr, .agg #[.int .i64 s3, .int .i64 d3]]) (by simp [results, Try.results46, go_sem, *] <;> rfl) rfl ?_
    have o8 : OwnR f2 2 67 ((wv.setCell ⟨q, 0, none⟩ (.int .i64 s3)).setCell ⟨q, 1, none⟩ (.int .i64 d3)) w1.heap.size A2 M2 := O7.out.below_ (FarQ.set (FarQ.set FarQ.refl)) lq1
    exact ⟨_, rfl, ⟨A2, c2, M2, rr, s3, d3, rfl, hM2.mono (by omega), o8.sl⟩, by have := HW.out; rw [Hq.out]; exact (this.setCell (Nat.le_refl _) _).setCell (Nat.le_refl _) _⟩
  by_cases hR0 : 0 < R.length
  rotate_left
  · go_upto_region 7 with fail
    have jb_ := jb5
    have kR_ := kR5
    have o_ := o6
    have G_ := G5
    have hc_ := hc5
    letI : Chg.Rel := curRel g
    have cb := jb_.cell
    refine Chg.wp_region_chain (Cur A c L g (0 + 2 + 6 * (1 + n1) + 60 + 8)) (fun _ _ hb h => h.next hb) hc_ [.fix (.slice A2 M2.length c2), .fix (.pointer (some ⟨g, 0, none⟩)), .fix (.slice A2 M2.length c2), .val (.int .i64 M2.length), .chain (.int .i64 0) (IntP Small) (CurV A c L g (0 + 2 + 6 * (1 + n1) + 60 + 8 + 4) Small), .val (.agg #[.int .i64 s3, .int .i64 d3]), .fix (.slice A2 M2.length c2), .pred IntV] mixed (by kernel_rfl) ⟨trivial, trivial, trivial, trivial, ⟨0, rfl, ⟨by decide, by decide⟩⟩, trivial, trivial, trivial, trivial⟩ ?_
    refine Chg.SeqG.fixStep (.inl ⟨rfl, fun _ => rfl⟩) ?_
    simp only [Act.put, List.setIfInBounds_toArray, List.set_cons_zero, List.set_cons_succ]
    refine Chg.SeqG.fixStep (.inl ⟨rfl, fun _ => rfl⟩) ?_
    simp only [Act.put, List.setIfInBounds_toArray, List.set_cons_zero, List.set_cons_succ]
    refine Chg.SeqG.fixStep (.inl ⟨rfl, fun _ => rfl⟩) ?_
    simp only [Act.put, List.setIfInBounds_toArray, List.set_cons_zero, List.set_cons_succ]
    refine Chg.SeqG.valStep (fun wv hbv hpv => ?_) ?_
    · skip
      go_wp2_with fail
      exact Chg.post_val (Below.refl _ _)
    simp only [Act.put, List.setIfInBounds_toArray, List.set_cons_zero, List.set_cons_succ]
    refine Chg.SeqG.chainStep CurV.next (fun wv hbv hpv => ?_) (fun v1 hg1 => ?_)
    · have h0 := hpv _ (.head _) (by kernel_rfl)
      clear hpv
      go_wp2_with fail
      refine (indexOf_any A c L g (0 + 2 + 6 * (1 + n1) + 60 + 8) _ _ hI hl (by omega) (by omega) (by omega) h0).mono ?_; rintro e w9 ⟨x9, rfl, m9, hc9, hb9⟩
      go_wp2_with fail
      exact Chg.post_chain _ hb9 ⟨x9, rfl, m9, hc9⟩ ⟨x9, rfl, m9⟩
    simp only [Act.put, List.setIfInBounds_toArray, List.set_cons_zero, List.set_cons_succ]
    refine Chg.SeqG.valStep (fun wv hbv hpv => ?_) ?_
    · have cb2 := (jb_.but hbv hpp).cell
      go_wp2_with fail
      exact Chg.post_val (Below.refl _ _)
    simp only [Act.put, List.setIfInBounds_toArray, List.set_cons_zero, List.set_cons_succ]
    refine Chg.SeqG.fixStep (.inl ⟨rfl, fun _ => rfl⟩) ?_
    simp only [Act.put, List.setIfInBounds_toArray, List.set_cons_zero, List.set_cons_succ]
    refine Chg.SeqG.predStep IntV.next (fun wv hbv hpv => ?_) (fun v4 => ?_)
    · clear hpv
      obtain ⟨x7, rfl, -⟩ := hg1
      go_wp2_with fail
      exact Chg.post_pred _ (Below.refl _ _) ⟨x7, rfl⟩
    simp only [Act.put, List.setIfInBounds_toArray, List.set_cons_zero, List.set_cons_succ]
    refine Chg.SeqG.done fun wv hbv hpv => ?_
    obtain ⟨rr, rfl⟩ := hpv _ (.head _)
    clear hpv
    have kZ := kR_.but hbv hne
    have cR := kZ.cell
    have fR := kZ.frozen
    have hw : Below q wo wv := hB.trans ((G_.trans hbv).below hqg gg)
    have HW := Lib.hid hw; clear hw
    have O7 := Lib.hid (o_.but lg1 hbv)
    go_wp2_with fail
    refine Chg.NoPan.normal ?_
    go_wp2
    refine bodyPost_ret (v := .tuple #[.slice A2 M2.length c2, .int .i64 rr, .agg #[.int .i64 s3, .int .i64 d3]]) (by simp [results, Try.results46, go_sem, *] <;> rfl) rfl ?_
    have o8 : OwnR f2 2 67 ((wv.setCell ⟨q, 0, none⟩ (.int .i64 s3)).setCell ⟨q, 1, none⟩ (.int .i64 d3)) w1.heap.size A2 M2 := O7.out.below_ (FarQ.set (FarQ.set FarQ.refl)) lq1
    exact ⟨_, rfl, ⟨A2, c2, M2, rr, s3, d3, rfl, hM2.mono (by omega), o8.sl⟩, by have := HW.out; rw [Hq.out]; exact (this.setCell (Nat.le_refl _) _).setCell (Nat.le_refl _) _⟩
  go_wp2_with fail
  refine (one_any A c L g (0 + 2 + 6 * (1 + n1) + 60 + 8) 6 _ hI hl (by omega) (by omega) hc5).mono ?_; rintro e w8 ⟨x8, rfl, hc8, hb8⟩
  have o58 := o5.but lW hb8
  cases x8
  · go_upto_region 6 with fail
    have jb_ := jb5.but hb8 hpp
    have kR_ := kR5.but hb8 hne
    have o_ := o6.but lg1 hb8
    have G_ := G5.trans hb8
    have hc_ := hc8
    have o5_ := o58
    obtain ⟨b5, rfl, lb5, -, -⟩ := o58 (by intro e; subst e; simp at hR0)
    have hR1 : R.length ≤ 1000000 := hRl
    letI : Chg.Rel := curRel g
    refine Chg.wp_region_chain (Cur A c L g (0 + 2 + 6 * (1 + n1) + 60 + 8 + 2)) (fun _ _ hb h => h.next hb) hc_ [.fix (.slice A2 M2.length c2), .fix (.slice (some ⟨b5, 0, none⟩) R.length c5), .fix (.pointer (some ⟨g, 0, none⟩)), .fix (.slice (some ⟨b5, 0, none⟩) R.length c5), .val (.int .i64 R.length), .chain (.int .i64 0) (IntP (UpTo R.length)) (CurV A c L g (0 + 2 + 6 * (1 + n1) + 60 + 8 + 2 + 2) (UpTo R.length)), .pred PtrI, .pred IntV, .val (.agg #[.int .i64 s3, .int .i64 d3]), .fix (.slice A2 M2.length c2), .pred IntV] mixed (by kernel_rfl) ⟨trivial, trivial, trivial, trivial, trivial, ⟨0, rfl, ⟨by omega, by omega⟩⟩, trivial, trivial, trivial, trivial, trivial, trivial⟩ ?_
    refine Chg.SeqG.fixStep (.inl ⟨rfl, fun _ => rfl⟩) ?_
    simp only [Act.put, List.setIfInBounds_toArray, List.set_cons_zero, List.set_cons_succ]
    refine Chg.SeqG.fixStep (.inl ⟨rfl, fun _ => rfl⟩) ?_
    simp only [Act.put, List.setIfInBounds_toArray, List.set_cons_zero, List.set_cons_succ]
    refine Chg.SeqG.fixStep (.inl ⟨rfl, fun _ => rfl⟩) ?_
    simp only [Act.put, List.setIfInBounds_toArray, List.set_cons_zero, List.set_cons_succ]
    refine Chg.SeqG.fixStep (.inl ⟨rfl, fun _ => rfl⟩) ?_
    simp only [Act.put, List.setIfInBounds_toArray, List.set_cons_zero, List.set_cons_succ]
    refine Chg.SeqG.valStep (fun wv hbv hpv => ?_) ?_
    · skip
      go_wp2_with fail
      exact Chg.post_val (Below.refl _ _)
    simp only [Act.put, List.setIfInBounds_toArray, List.set_cons_zero, List.set_cons_succ]
    refine Chg.SeqG.chainStep CurV.next (fun wv hbv hpv => ?_) (fun v1 hg1 => ?_)
    · have h0 := hpv _ (.head _) (by kernel_rfl)
      clear hpv
      go_wp2_with fail
      refine (pick_any A c L g (0 + 2 + 6 * (1 + n1) + 60 + 8 + 2) _ _ hI hl (by omega) (by omega) h0).mono ?_; rintro e w9 ⟨x9, rfl, m9, hc9, hb9⟩
      go_wp2_with fail
      exact Chg.post_chain _ hb9 ⟨x9, rfl, m9, hc9⟩ ⟨x9, rfl, m9⟩
    simp only [Act.put, List.setIfInBounds_toArray, List.set_cons_zero, List.set_cons_succ]
    obtain ⟨r0, rfl, ⟨r1, r2⟩⟩ := hg1
    obtain ⟨r3, rfl⟩ := Int.eq_ofNat_of_zero_le r1
    refine Chg.SeqG.predStep PtrI.next (fun wv hbv hpv => ?_) (fun v2 => ?_)
    · clear hpv
      have hr3 : (r3 : Int) < (R.length : Int) := by omega
      have hr4 : (0 : Int) ≤ (r3 : Int) := by omega
      have hx := List.getElem?_eq_getElem (l := R) (show r3 < R.length by omega)
      obtain ⟨b6, e6, h6, hr6, hcc6⟩ := (o5_.but lW hbv) (SlR.ne hx)
      cases e6
      have h7 := cells1 hcc6 hx
      have hz : b5 < wv.heap.size := hr6.lt
      rw [Nat.zero_add] at h7
      have H7 := Lib.hid h7
      clear hx hcc6 h7
      go_wp2_with fail
      exact Chg.post_pred _ (Below.refl _ _) ⟨b5, r3, _, rfl, hz, H7.out⟩
    simp only [Act.put, List.setIfInBounds_toArray, List.set_cons_zero, List.set_cons_succ]
    refine Chg.SeqG.predStep IntV.next (fun wv hbv hpv => ?_) (fun v3 => ?_)
    · obtain ⟨b7, o7, x7, rfl, -, h7⟩ := hpv _ (.head _) (by kernel_rfl)
      clear hpv
      go_wp2_with fail
      exact Chg.post_pred _ (Below.refl _ _) ⟨x7, rfl⟩
    simp only [Act.put, List.setIfInBounds_toArray, List.set_cons_zero, List.set_cons_succ]
    refine Chg.SeqG.valStep (fun wv hbv hpv => ?_) ?_
    · have cb2 := (jb_.but hbv hpp).cell
      go_wp2_with fail
      exact Chg.post_val (Below.refl _ _)
    simp only [Act.put, List.setIfInBounds_toArray, List.set_cons_zero, List.set_cons_succ]
    refine Chg.SeqG.fixStep (.inl ⟨rfl, fun _ => rfl⟩) ?_
    simp only [Act.put, List.setIfInBounds_toArray, List.set_cons_zero, List.set_cons_succ]
    refine Chg.SeqG.predStep IntV.next (fun wv hbv hpv => ?_) (fun v4 => ?_)
    · obtain ⟨x7, rfl⟩ := hpv _ (.head _) (by kernel_rfl)
      clear hpv
      go_wp2_with fail
      exact Chg.post_pred _ (Below.refl _ _) ⟨x7, rfl⟩
    simp only [Act.put, List.setIfInBounds_toArray, List.set_cons_zero, List.set_cons_succ]
    refine Chg.SeqG.done fun wv hbv hpv => ?_
    obtain ⟨rr, rfl⟩ := hpv _ (.head _)
    clear hpv
    have kZ := kR_.but hbv hne
    have cR := kZ.cell
    have fR := kZ.frozen
    have hw : Below q wo wv := hB.trans ((G_.trans hbv).below hqg gg)
    have HW := Lib.hid hw; clear hw
    have O7 := Lib.hid (o_.but lg1 hbv)
    go_wp2_with fail
    refine Chg.NoPan.normal ?_
    go_wp2
    refine bodyPost_ret (v := .tuple #[.slice A2 M2.length c2, .int .i64 rr, .agg #[.int .i64 s3, .int .i64 d3]]) (by simp [results, Try.results46, go_sem, *] <;> rfl) rfl ?_
    have o8 : OwnR f2 2 67 ((wv.setCell ⟨q, 0, none⟩ (.int .i64 s3)).setCell ⟨q, 1, none⟩ (.int .i64 d3)) w1.heap.size A2 M2 := O7.out.below_ (FarQ.set (FarQ.set FarQ.refl)) lq1
    exact ⟨_, rfl, ⟨A2, c2, M2, rr, s3, d3, rfl, hM2.mono (by omega), o8.sl⟩, by have := HW.out; rw [Hq.out]; exact (this.setCell (Nat.le_refl _) _).setCell (Nat.le_refl _) _⟩
  · go_upto_region 7 with fail
    have jb_ := jb5.but hb8 hpp
    have kR_ := kR5.but hb8 hne
    have o_ := o6.but lg1 hb8
    have G_ := G5.trans hb8
    have hc_ := hc8
    letI : Chg.Rel := curRel g
    have cb := jb_.cell
    refine Chg.wp_region_chain (Cur A c L g (0 + 2 + 6 * (1 + n1) + 60 + 8 + 2)) (fun _ _ hb h => h.next hb) hc_ [.fix (.slice A2 M2.length c2), .fix (.pointer (some ⟨g, 0, none⟩)), .fix (.slice A2 M2.length c2), .val (.int .i64 M2.length), .chain (.int .i64 0) (IntP Small) (CurV A c L g (0 + 2 + 6 * (1 + n1) + 60 + 8 + 2 + 4) Small), .val (.agg #[.int .i64 s3, .int .i64 d3]), .fix (.slice A2 M2.length c2), .pred IntV] mixed (by kernel_rfl) ⟨trivial, trivial, trivial, trivial, ⟨0, rfl, ⟨by decide, by decide⟩⟩, trivial, trivial, trivial, trivial⟩ ?_
    refine Chg.SeqG.fixStep (.inl ⟨rfl, fun _ => rfl⟩) ?_
    simp only [Act.put, List.setIfInBounds_toArray, List.set_cons_zero, List.set_cons_succ]
    refine Chg.SeqG.fixStep (.inl ⟨rfl, fun _ => rfl⟩) ?_
    simp only [Act.put, List.setIfInBounds_toArray, List.set_cons_zero, List.set_cons_succ]
    refine Chg.SeqG.fixStep (.inl ⟨rfl, fun _ => rfl⟩) ?_
    simp only [Act.put, List.setIfInBounds_toArray, List.set_cons_zero, List.set_cons_succ]
    refine Chg.SeqG.valStep (fun wv hbv hpv => ?_) ?_
    · skip
      go_wp2_with fail
      exact Chg.post_val (Below.refl _ _)
    simp only [Act.put, List.setIfInBounds_toArray, List.set_cons_zero, List.set_cons_succ]
    refine Chg.SeqG.chainStep CurV.next (fun wv hbv hpv => ?_) (fun v1 hg1 => ?_)
    · have h0 := hpv _ (.head _) (by kernel_rfl)
      clear hpv
      go_wp2_with fail
      refine (indexOf_any A c L g (0 + 2 + 6 * (1 + n1) + 60 + 8 + 2) _ _ hI hl (by omega) (by omega) (by omega) h0).mono ?_; rintro e w9 ⟨x9, rfl, m9, hc9, hb9⟩
      go_wp2_with fail
      exact Chg.post_chain _ hb9 ⟨x9, rfl, m9, hc9⟩ ⟨x9, rfl, m9⟩
    simp only [Act.put, List.setIfInBounds_toArray, List.set_cons_zero, List.set_cons_succ]
    refine Chg.SeqG.valStep (fun wv hbv hpv => ?_) ?_
    · have cb2 := (jb_.but hbv hpp).cell
      go_wp2_with fail
      exact Chg.post_val (Below.refl _ _)
    simp only [Act.put, List.setIfInBounds_toArray, List.set_cons_zero, List.set_cons_succ]
    refine Chg.SeqG.fixStep (.inl ⟨rfl, fun _ => rfl⟩) ?_
    simp only [Act.put, List.setIfInBounds_toArray, List.set_cons_zero, List.set_cons_succ]
    refine Chg.SeqG.predStep IntV.next (fun wv hbv hpv => ?_) (fun v4 => ?_)
    · clear hpv
      obtain ⟨x7, rfl, -⟩ := hg1
      go_wp2_with fail
      exact Chg.post_pred _ (Below.refl _ _) ⟨x7, rfl⟩
    simp only [Act.put, List.setIfInBounds_toArray, List.set_cons_zero, List.set_cons_succ]
    refine Chg.SeqG.done fun wv hbv hpv => ?_
    obtain ⟨rr, rfl⟩ := hpv _ (.head _)
    clear hpv
    have kZ := kR_.but hbv hne
    have cR := kZ.cell
    have fR := kZ.frozen
    have hw : Below q wo wv := hB.trans ((G_.trans hbv).below hqg gg)
    have HW := Lib.hid hw; clear hw
    have O7 := Lib.hid (o_.but lg1 hbv)
    go_wp2_with fail
    refine Chg.NoPan.normal ?_
    go_wp2
    refine bodyPost_ret (v := .tuple #[.slice A2 M2.length c2, .int .i64 rr, .agg #[.int .i64 s3, .int .i64 d3]]) (by simp [results, Try.results46, go_sem, *] <;> rfl) rfl ?_
    have o8 : OwnR f2 2 67 ((wv.setCell ⟨q, 0, none⟩ (.int .i64 s3)).setCell ⟨q, 1, none⟩ (.int .i64 d3)) w1.heap.size A2 M2 := O7.out.below_ (FarQ.set (FarQ.set FarQ.refl)) lq1
    exact ⟨_, rfl, ⟨A2, c2, M2, rr, s3, d3, rfl, hM2.mono (by omega), o8.sl⟩, by have := HW.out; rw [Hq.out]; exact (this.setCell (Nat.le_refl _) _).setCell (Nat.le_refl _) _⟩

end Go.Proofs.Ythhjbdhglaombaa
