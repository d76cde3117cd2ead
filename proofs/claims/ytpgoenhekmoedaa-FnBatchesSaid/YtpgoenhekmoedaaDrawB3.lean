/-
  The Draw functions of washing whose last statement draws its order.
-/
import Derived.Test.YtpgoenhekmoedaaDrawB2
namespace Go.Proofs.Ytpgoenhekmoedaa
open Go.RowKit

/-- What the calls of the cursor in block g leave. -/
@[reducible] def curRel (g : Nat) : Chg.Rel := ⟨ButG g, ButG.trans, ButG.of⟩
/-- A literal of the ints M, not in block g. -/
def LitV (g : Nat) (M : List Int) (v : Value) (w : World) : Prop := ∃ b, v = .slice (some ⟨b, 0, none⟩) M.length M.length ∧ b ≠ g ∧ Blk w b 3 (M.map (Value.int .i64)).toArray
theorem LitV.next {g : Nat} {M : List Int} : ∀ (v : Value) (w w' : World), Below w.heap.size w w' → LitV g M v w → LitV g M v w' := fun v w w' hb h => by
  obtain ⟨b, h1, h2, h3⟩ := h
  exact ⟨b, h1, h2, h3.below' hb⟩
theorem LitV.but {g : Nat} {M : List Int} : ∀ (v : Value) (w w' : World), ButG g w w' → LitV g M v w → LitV g M v w' := fun v w w' hb h => by
  obtain ⟨b, h1, h2, h3⟩ := h
  exact ⟨b, h1, h2, h3.but hb h2⟩
def IntP (P : Int → Prop) (v : Value) : Prop := ∃ r : Int, v = .int .i64 r ∧ P r
/-- An int of which P holds; the cursor stands in block g. -/
def CurV (A : Option Addr) (c : Nat) (L : List Int) (g n : Nat) (P : Int → Prop) (v : Value) (w : World) : Prop := ∃ r : Int, v = .int .i64 r ∧ P r ∧ Cur A c L g n w
theorem CurV.next {A : Option Addr} {c : Nat} {L : List Int} {g n : Nat} {P : Int → Prop} : ∀ (v : Value) (w w' : World), Below w.heap.size w w' → CurV A c L g n P v w → CurV A c L g n P v w' := fun v w w' hb h => by
  obtain ⟨r, h1, h2, h3⟩ := h
  exact ⟨r, h1, h2, h3.next hb⟩

set_option maxHeartbeats 4000000 in
theorem DrawStagesNeeded_any (A : Option Addr) (c : Nat) (L : List Int) (wo : World) (hI : ∀ x ∈ L, 0 ≤ x ∧ x ≤ 255) (hl : (L.length : Int) ≤ 65536) (hs : SlR fb 1 wo wo.heap.size A L) :
    Calls Try.prog 43 #[.slice A L.length c] wo (DrV IsBII wo) := by
  have hc := cur_new1 (c := c) (.cells #[.int .i64 0, .int .i64 0, .int .i64 0] 25) hs
  have kR := (Blk.new wo 25 #[.int .i64 0, .int .i64 0, .int .i64 0]).alloc (.cells #[.slice A L.length c, .int .i64 0, .int .u64 0] 76)
  have hB : Below wo.heap.size wo ((wo.alloc (.cells #[.int .i64 0, .int .i64 0, .int .i64 0] 25)).alloc (.cells #[.slice A L.length c, .int .i64 0, .int .u64 0] 76)) := by (repeat (first | exact Below.refl _ _ | refine Below.drew ?_ | refine below_drewN ?_ _ | (refine Below.alloc ?_ (by (try simp) <;> omega) _) | (refine Below.setCell ?_ (by (try simp) <;> omega) _) | (refine Below.trans ?_ (Below.mono (by assumption) (by (try simp) <;> omega)))))
  go_enter Try.func43, Try.ntmps43
  go_wp2_with fail
  generalize (wo.alloc (.cells #[.int .i64 0, .int .i64 0, .int .i64 0] 25)).alloc (.cells #[.slice A L.length c, .int .i64 0, .int .u64 0] 76) = w at *
  generalize hg : wo.heap.size + 1 = g at *
  generalize hq : wo.heap.size = q at *
  have Hq := Lib.hid hq; have hne : q ≠ g := by omega
  have hqg : q ≤ g := by omega
  clear hq hg hs
  go_wp2_with fail
  refine (batch_any A c L g (0) _ hI hl (by omega) (hc.next (by (repeat (first | exact Below.refl _ _ | refine Below.drew ?_ | refine below_drewN ?_ _ | (refine Below.alloc ?_ (by (try simp) <;> omega) _) | (refine Below.setCell ?_ (by (try simp) <;> omega) _) | (refine Below.trans ?_ (Below.mono (by assumption) (by (try simp) <;> omega)))))))).mono ?_; rintro e w1 ⟨s1, d1, t1, rfl, m1, hc1, hb1⟩
  have G1 : ButG g w w1 := ButG.refl.trans ((ButG.of (by (repeat (first | exact Below.refl _ _ | refine Below.drew ?_ | refine below_drewN ?_ _ | (refine Below.alloc ?_ (by (try simp) <;> omega) _) | (refine Below.setCell ?_ (by (try simp) <;> omega) _) | (refine Below.trans ?_ (Below.mono (by assumption) (by (try simp) <;> omega)))))) : ButG g w _).trans hb1)
  have kR' := kR.but G1 hne
  have g1 : g < w1.heap.size := hc1.lt
  have q1 : q < w1.heap.size := kR'.lt
  go_wp2_with fail
  have jb := Blk.new w1 25 #[.int .i64 s1, .int .i64 d1, .int .i64 t1]
  have kR2 := kR'.alloc (.cells #[.int .i64 s1, .int .i64 d1, .int .i64 t1] 25)
  have hc2 : Cur A c L g (0 + 10) (w1.alloc (.cells #[.int .i64 s1, .int .i64 d1, .int .i64 t1] 25)) := hc1.next (by (repeat (first | exact Below.refl _ _ | refine Below.drew ?_ | refine below_drewN ?_ _ | (refine Below.alloc ?_ (by (try simp) <;> omega) _) | (refine Below.setCell ?_ (by (try simp) <;> omega) _) | (refine Below.trans ?_ (Below.mono (by assumption) (by (try simp) <;> omega))))))
  have G2 : ButG g w (w1.alloc (.cells #[.int .i64 s1, .int .i64 d1, .int .i64 t1] 25)) := G1.alloc _
  generalize hp : w1.heap.size = p at *
  have hpg : p ≠ g := by omega
  have hpq : p ≠ q := by omega
  clear hc1 hb1 G1 hp kR'
  generalize w1.alloc (.cells #[.int .i64 s1, .int .i64 d1, .int .i64 t1] 25) = W at *
  obtain ⟨⟨u1, u2⟩, ⟨u3, u4⟩, ⟨u5, u6⟩⟩ := m1
  have td := fun k hk => tdiv_bd (k := k) u3 u4 hk
  have e2 := td 2 (by omega)
  have e10 := td 10 (by omega)
  have e50 := td 50 (by omega)
  clear td
  letI : Chg.Rel := curRel g
  refine Chg.wp_region_chain (Cur A c L g 10) (fun _ _ hb h => h.next hb) hc2 [.val (.agg #[.int .i64 s1, .int .i64 d1, .int .i64 t1]), .fix (.pointer (some ⟨g, 0, none⟩)), .chain (.int .i64 0) (IntP Small) (CurV A c L g 12 Small), .fix (.pointer (some ⟨g, 0, none⟩)), .fix (.pointer (some ⟨p, 1, none⟩)), .val (.int .i64 d1), .val (.int .i64 (d1.tdiv 2)), .fix (.pointer (some ⟨p, 1, none⟩)), .val (.int .i64 d1), .val (.int .i64 (d1.tdiv 10)), .fix (.pointer (some ⟨p, 1, none⟩)), .val (.int .i64 d1), .val (.int .i64 (d1.tdiv 50)), .hold (LitV g [0, 1, 5, d1.tdiv 2, d1.tdiv 10, d1.tdiv 50, -1]), .chain (.int .i64 0) (IntP (· ∈ [0, 1, 5, d1.tdiv 2, d1.tdiv 10, d1.tdiv 50, -1])) (CurV A c L g 14 (· ∈ [0, 1, 5, d1.tdiv 2, d1.tdiv 10, d1.tdiv 50, -1]))] mixed (by kernel_rfl) ⟨trivial, trivial, ⟨0, rfl, ⟨by decide, by decide⟩⟩, trivial, trivial, trivial, trivial, trivial, trivial, trivial, trivial, trivial, trivial, trivial, ⟨0, rfl, by simp⟩, trivial⟩ ?_
  refine Chg.SeqG.valStep (fun wv hbv hpv => ?_) ?_
  · have cb := (jb.but hbv hpg).cell
    go_wp2_with fail
    exact Chg.post_val (Below.refl _ _)
  simp only [Act.put, List.setIfInBounds_toArray, List.set_cons_zero, List.set_cons_succ]
  refine Chg.SeqG.fixStep (.inl ⟨rfl, fun _ => rfl⟩) ?_
  simp only [Act.put, List.setIfInBounds_toArray, List.set_cons_zero, List.set_cons_succ]
  refine Chg.SeqG.chainStep CurV.next (fun wv hbv hpv => ?_) (fun v1 hg1 => ?_)
  · have h0 := hpv _ (.head _) (by kernel_rfl)
    clear hpv
    go_wp2_with fail
    refine (washWater_any A c L g 10 _ hI hl (by omega) h0).mono ?_; rintro e w2 ⟨x2, rfl, m2, hc3, hb3⟩
    go_wp2_with fail
    exact Chg.post_chain _ hb3 ⟨x2, rfl, m2, hc3⟩ ⟨x2, rfl, m2⟩
  simp only [Act.put, List.setIfInBounds_toArray, List.set_cons_zero, List.set_cons_succ]
  refine Chg.SeqG.fixStep (.inl ⟨rfl, fun _ => rfl⟩) ?_
  simp only [Act.put, List.setIfInBounds_toArray, List.set_cons_zero, List.set_cons_succ]
  refine Chg.SeqG.fixStep (.inl ⟨rfl, fun _ => rfl⟩) ?_
  simp only [Act.put, List.setIfInBounds_toArray, List.set_cons_zero, List.set_cons_succ]
  refine Chg.SeqG.valStep (fun wv hbv hpv => ?_) ?_
  · have cb := (jb.but hbv hpg).cell
    go_wp2_with fail
    exact Chg.post_val (Below.refl _ _)
  simp only [Act.put, List.setIfInBounds_toArray, List.set_cons_zero, List.set_cons_succ]
  refine Chg.SeqG.valStep (fun wv hbv hpv => ?_) ?_
  · skip
    go_wp2_with fail
    exact Chg.post_val (Below.refl _ _)
  simp only [Act.put, List.setIfInBounds_toArray, List.set_cons_zero, List.set_cons_succ]
  refine Chg.SeqG.fixStep (.inl ⟨rfl, fun _ => rfl⟩) ?_
  simp only [Act.put, List.setIfInBounds_toArray, List.set_cons_zero, List.set_cons_succ]
  refine Chg.SeqG.valStep (fun wv hbv hpv => ?_) ?_
  · have cb := (jb.but hbv hpg).cell
    go_wp2_with fail
    exact Chg.post_val (Below.refl _ _)
  simp only [Act.put, List.setIfInBounds_toArray, List.set_cons_zero, List.set_cons_succ]
  refine Chg.SeqG.valStep (fun wv hbv hpv => ?_) ?_
  · skip
    go_wp2_with fail
    exact Chg.post_val (Below.refl _ _)
  simp only [Act.put, List.setIfInBounds_toArray, List.set_cons_zero, List.set_cons_succ]
  refine Chg.SeqG.fixStep (.inl ⟨rfl, fun _ => rfl⟩) ?_
  simp only [Act.put, List.setIfInBounds_toArray, List.set_cons_zero, List.set_cons_succ]
  refine Chg.SeqG.valStep (fun wv hbv hpv => ?_) ?_
  · have cb := (jb.but hbv hpg).cell
    go_wp2_with fail
    exact Chg.post_val (Below.refl _ _)
  simp only [Act.put, List.setIfInBounds_toArray, List.set_cons_zero, List.set_cons_succ]
  refine Chg.SeqG.valStep (fun wv hbv hpv => ?_) ?_
  · skip
    go_wp2_with fail
    exact Chg.post_val (Below.refl _ _)
  simp only [Act.put, List.setIfInBounds_toArray, List.set_cons_zero, List.set_cons_succ]
  refine Chg.SeqG.holdStep LitV.next LitV.but (fun wv hbv hpv => ?_) (fun v2 => ?_)
  · clear hpv
    have hz : g < wv.heap.size := Nat.lt_of_lt_of_le hc2.lt hbv.size
    have hk := Lib.hid (Blk.new wv 3 (List.map (Value.int .i64) [0, 1, 5, d1.tdiv 2, d1.tdiv 10, d1.tdiv 50, -1]).toArray)
    have hbN := Lib.hid ((Below.refl wv.heap.size wv).alloc (Nat.le_refl _) (.cells (List.map (Value.int .i64) [0, 1, 5, d1.tdiv 2, d1.tdiv 10, d1.tdiv 50, -1]).toArray 3))
    go_wp2_with fail
    exact Chg.post_hold _ hbN.out ⟨_, rfl, (by omega), hk.out⟩
  simp only [Act.put, List.setIfInBounds_toArray, List.set_cons_zero, List.set_cons_succ]
  refine Chg.SeqG.chainStep CurV.next (fun wv hbv hpv => ?_) (fun v3 hg3 => ?_)
  · obtain ⟨r2, rfl, m2, h0⟩ := hpv _ (.tail _ (.head _)) (by kernel_rfl)
    obtain ⟨b, rfl, h2, h3⟩ := hpv _ (.head _) (by kernel_rfl)
    clear hpv
    go_wp2_with fail
    refine (among_any [0, 1, 5, d1.tdiv 2, d1.tdiv 10, d1.tdiv 50, -1] A c L g 12 _ _ _ _ hI hl (by omega) h0 rfl (by simp) (by simp) h3 h2).mono ?_; rintro e w2 ⟨x2, rfl, m2, hc3, hb3⟩
    go_wp2_with fail
    exact Chg.post_chain _ hb3 ⟨x2, rfl, m2, hc3⟩ ⟨x2, rfl, m2⟩
  simp only [Act.put, List.setIfInBounds_toArray, List.set_cons_zero, List.set_cons_succ]
  refine Chg.SeqG.done fun wv hbv hpv => ?_
  clear hpv
  obtain ⟨r3, rfl, m3⟩ := hg3
  obtain ⟨r1, rfl, m1⟩ := hg1
  have kZ := kR2.but hbv hne
  have cR := kZ.cell
  have fR := kZ.frozen
  have hw : Below q wo wv := hB.trans ((G2.trans hbv).below hqg hc.lt)
  have HW := Lib.hid hw; clear hw
  go_wp2_with fail
  refine Chg.NoPan.normal ?_
  go_wp2
  refine bodyPost_ret (v := .tuple #[.agg #[.int .i64 s1, .int .i64 d1, .int .i64 t1], .int .i64 r1, .int .i64 r3]) (by simp [results, Try.results43, go_sem, *] <;> rfl) rfl ?_
  have M3 : InI r3 := by
    simp only [List.mem_cons, List.not_mem_nil, or_false] at m3
    rcases m3 with rfl | rfl | rfl | rfl | rfl | rfl | rfl <;> exact ⟨by omega, by omega⟩
  exact ⟨_, rfl, ⟨_, _, _, _, _, rfl, ⟨⟨u1, u2⟩, ⟨u3, u4⟩, ⟨u5, u6⟩⟩, Small.inI m1, M3⟩, by have := HW.out; rw [Hq.out]; exact ((this.setCell (Nat.le_refl _) _).setCell (Nat.le_refl _) _).setCell (Nat.le_refl _) _⟩

set_option maxHeartbeats 4000000 in
theorem DrawWaterNeeded_any (A : Option Addr) (c : Nat) (L : List Int) (wo : World) (hI : ∀ x ∈ L, 0 ≤ x ∧ x ≤ 255) (hl : (L.length : Int) ≤ 65536) (hs : SlR fb 1 wo wo.heap.size A L) :
    Calls Try.prog 41 #[.slice A L.length c] wo (DrV IsBI wo) := by
  have hc := cur_new1 (c := c) (.cells #[.int .i64 0, .int .i64 0, .int .i64 0] 25) hs
  have kR := (Blk.new wo 25 #[.int .i64 0, .int .i64 0, .int .i64 0]).alloc (.cells #[.slice A L.length c, .int .i64 0, .int .u64 0] 76)
  have hB : Below wo.heap.size wo ((wo.alloc (.cells #[.int .i64 0, .int .i64 0, .int .i64 0] 25)).alloc (.cells #[.slice A L.length c, .int .i64 0, .int .u64 0] 76)) := by (repeat (first | exact Below.refl _ _ | refine Below.drew ?_ | refine below_drewN ?_ _ | (refine Below.alloc ?_ (by (try simp) <;> omega) _) | (refine Below.setCell ?_ (by (try simp) <;> omega) _) | (refine Below.trans ?_ (Below.mono (by assumption) (by (try simp) <;> omega)))))
  go_enter Try.func41, Try.ntmps41
  go_wp2_with fail
  generalize (wo.alloc (.cells #[.int .i64 0, .int .i64 0, .int .i64 0] 25)).alloc (.cells #[.slice A L.length c, .int .i64 0, .int .u64 0] 76) = w at *
  generalize hg : wo.heap.size + 1 = g at *
  generalize hq : wo.heap.size = q at *
  have Hq := Lib.hid hq; have hne : q ≠ g := by omega
  have hqg : q ≤ g := by omega
  clear hq hg hs
  go_wp2_with fail
  refine (batch_any A c L g (0) _ hI hl (by omega) (hc.next (by (repeat (first | exact Below.refl _ _ | refine Below.drew ?_ | refine below_drewN ?_ _ | (refine Below.alloc ?_ (by (try simp) <;> omega) _) | (refine Below.setCell ?_ (by (try simp) <;> omega) _) | (refine Below.trans ?_ (Below.mono (by assumption) (by (try simp) <;> omega)))))))).mono ?_; rintro e w1 ⟨s1, d1, t1, rfl, m1, hc1, hb1⟩
  have G1 : ButG g w w1 := ButG.refl.trans ((ButG.of (by (repeat (first | exact Below.refl _ _ | refine Below.drew ?_ | refine below_drewN ?_ _ | (refine Below.alloc ?_ (by (try simp) <;> omega) _) | (refine Below.setCell ?_ (by (try simp) <;> omega) _) | (refine Below.trans ?_ (Below.mono (by assumption) (by (try simp) <;> omega)))))) : ButG g w _).trans hb1)
  have kR' := kR.but G1 hne
  have g1 : g < w1.heap.size := hc1.lt
  have q1 : q < w1.heap.size := kR'.lt
  go_wp2_with fail
  have jb := Blk.new w1 25 #[.int .i64 s1, .int .i64 d1, .int .i64 t1]
  have kR2 := kR'.alloc (.cells #[.int .i64 s1, .int .i64 d1, .int .i64 t1] 25)
  have hc2 : Cur A c L g (0 + 10) (w1.alloc (.cells #[.int .i64 s1, .int .i64 d1, .int .i64 t1] 25)) := hc1.next (by (repeat (first | exact Below.refl _ _ | refine Below.drew ?_ | refine below_drewN ?_ _ | (refine Below.alloc ?_ (by (try simp) <;> omega) _) | (refine Below.setCell ?_ (by (try simp) <;> omega) _) | (refine Below.trans ?_ (Below.mono (by assumption) (by (try simp) <;> omega))))))
  have G2 : ButG g w (w1.alloc (.cells #[.int .i64 s1, .int .i64 d1, .int .i64 t1] 25)) := G1.alloc _
  generalize hp : w1.heap.size = p at *
  have hpg : p ≠ g := by omega
  have hpq : p ≠ q := by omega
  clear hc1 hb1 G1 hp kR'
  generalize w1.alloc (.cells #[.int .i64 s1, .int .i64 d1, .int .i64 t1] 25) = W at *
  obtain ⟨⟨u1, u2⟩, ⟨u3, u4⟩, ⟨u5, u6⟩⟩ := m1
  have td := fun k hk => tdiv_bd (k := k) u3 u4 hk
  have e2 := td 2 (by omega)
  have e10 := td 10 (by omega)
  clear td
  letI : Chg.Rel := curRel g
  refine Chg.wp_region_chain (Cur A c L g 10) (fun _ _ hb h => h.next hb) hc2 [.val (.agg #[.int .i64 s1, .int .i64 d1, .int .i64 t1]), .fix (.pointer (some ⟨g, 0, none⟩)), .fix (.pointer (some ⟨p, 1, none⟩)), .val (.int .i64 d1), .fix (.pointer (some ⟨p, 1, none⟩)), .val (.int .i64 d1), .val (.int .i64 (d1.tdiv 2)), .fix (.pointer (some ⟨p, 1, none⟩)), .val (.int .i64 d1), .val (.int .i64 (d1.tdiv 10)), .hold (LitV g [0, 1, 5, d1, d1.tdiv 2, d1.tdiv 10, -1]), .chain (.int .i64 0) (IntP (· ∈ [0, 1, 5, d1, d1.tdiv 2, d1.tdiv 10, -1])) (CurV A c L g 12 (· ∈ [0, 1, 5, d1, d1.tdiv 2, d1.tdiv 10, -1]))] mixed (by kernel_rfl) ⟨trivial, trivial, trivial, trivial, trivial, trivial, trivial, trivial, trivial, trivial, trivial, ⟨0, rfl, by simp⟩, trivial⟩ ?_
  refine Chg.SeqG.valStep (fun wv hbv hpv => ?_) ?_
  · have cb := (jb.but hbv hpg).cell
    go_wp2_with fail
    exact Chg.post_val (Below.refl _ _)
  simp only [Act.put, List.setIfInBounds_toArray, List.set_cons_zero, List.set_cons_succ]
  refine Chg.SeqG.fixStep (.inl ⟨rfl, fun _ => rfl⟩) ?_
  simp only [Act.put, List.setIfInBounds_toArray, List.set_cons_zero, List.set_cons_succ]
  refine Chg.SeqG.fixStep (.inl ⟨rfl, fun _ => rfl⟩) ?_
  simp only [Act.put, List.setIfInBounds_toArray, List.set_cons_zero, List.set_cons_succ]
  refine Chg.SeqG.valStep (fun wv hbv hpv => ?_) ?_
  · have cb := (jb.but hbv hpg).cell
    go_wp2_with fail
    exact Chg.post_val (Below.refl _ _)
  simp only [Act.put, List.setIfInBounds_toArray, List.set_cons_zero, List.set_cons_succ]
  refine Chg.SeqG.fixStep (.inl ⟨rfl, fun _ => rfl⟩) ?_
  simp only [Act.put, List.setIfInBounds_toArray, List.set_cons_zero, List.set_cons_succ]
  refine Chg.SeqG.valStep (fun wv hbv hpv => ?_) ?_
  · have cb := (jb.but hbv hpg).cell
    go_wp2_with fail
    exact Chg.post_val (Below.refl _ _)
  simp only [Act.put, List.setIfInBounds_toArray, List.set_cons_zero, List.set_cons_succ]
  refine Chg.SeqG.valStep (fun wv hbv hpv => ?_) ?_
  · skip
    go_wp2_with fail
    exact Chg.post_val (Below.refl _ _)
  simp only [Act.put, List.setIfInBounds_toArray, List.set_cons_zero, List.set_cons_succ]
  refine Chg.SeqG.fixStep (.inl ⟨rfl, fun _ => rfl⟩) ?_
  simp only [Act.put, List.setIfInBounds_toArray, List.set_cons_zero, List.set_cons_succ]
  refine Chg.SeqG.valStep (fun wv hbv hpv => ?_) ?_
  · have cb := (jb.but hbv hpg).cell
    go_wp2_with fail
    exact Chg.post_val (Below.refl _ _)
  simp only [Act.put, List.setIfInBounds_toArray, List.set_cons_zero, List.set_cons_succ]
  refine Chg.SeqG.valStep (fun wv hbv hpv => ?_) ?_
  · skip
    go_wp2_with fail
    exact Chg.post_val (Below.refl _ _)
  simp only [Act.put, List.setIfInBounds_toArray, List.set_cons_zero, List.set_cons_succ]
  refine Chg.SeqG.holdStep LitV.next LitV.but (fun wv hbv hpv => ?_) (fun v2 => ?_)
  · clear hpv
    have hz : g < wv.heap.size := Nat.lt_of_lt_of_le hc2.lt hbv.size
    have hk := Lib.hid (Blk.new wv 3 (List.map (Value.int .i64) [0, 1, 5, d1, d1.tdiv 2, d1.tdiv 10, -1]).toArray)
    have hbN := Lib.hid ((Below.refl wv.heap.size wv).alloc (Nat.le_refl _) (.cells (List.map (Value.int .i64) [0, 1, 5, d1, d1.tdiv 2, d1.tdiv 10, -1]).toArray 3))
    go_wp2_with fail
    exact Chg.post_hold _ hbN.out ⟨_, rfl, (by omega), hk.out⟩
  simp only [Act.put, List.setIfInBounds_toArray, List.set_cons_zero, List.set_cons_succ]
  refine Chg.SeqG.chainStep CurV.next (fun wv hbv hpv => ?_) (fun v3 hg3 => ?_)
  · have h0 := hpv _ (.tail _ (.head _)) (by kernel_rfl)
    obtain ⟨b, rfl, h2, h3⟩ := hpv _ (.head _) (by kernel_rfl)
    clear hpv
    go_wp2_with fail
    refine (among_any [0, 1, 5, d1, d1.tdiv 2, d1.tdiv 10, -1] A c L g 10 _ _ _ _ hI hl (by omega) h0 rfl (by simp) (by simp) h3 h2).mono ?_; rintro e w2 ⟨x2, rfl, m2, hc3, hb3⟩
    go_wp2_with fail
    exact Chg.post_chain _ hb3 ⟨x2, rfl, m2, hc3⟩ ⟨x2, rfl, m2⟩
  simp only [Act.put, List.setIfInBounds_toArray, List.set_cons_zero, List.set_cons_succ]
  refine Chg.SeqG.done fun wv hbv hpv => ?_
  clear hpv
  obtain ⟨r3, rfl, m3⟩ := hg3
  have kZ := kR2.but hbv hne
  have cR := kZ.cell
  have fR := kZ.frozen
  have hw : Below q wo wv := hB.trans ((G2.trans hbv).below hqg hc.lt)
  have HW := Lib.hid hw; clear hw
  go_wp2_with fail
  refine Chg.NoPan.normal ?_
  go_wp2
  refine bodyPost_ret (v := .tuple #[.agg #[.int .i64 s1, .int .i64 d1, .int .i64 t1], .int .i64 r3]) (by simp [results, Try.results41, go_sem, *] <;> rfl) rfl ?_
  have M3 : InI r3 := by
    simp only [List.mem_cons, List.not_mem_nil, or_false] at m3
    rcases m3 with rfl | rfl | rfl | rfl | rfl | rfl | rfl <;> exact ⟨by omega, by omega⟩
  exact ⟨_, rfl, ⟨_, _, _, _, rfl, ⟨⟨u1, u2⟩, ⟨u3, u4⟩, ⟨u5, u6⟩⟩, M3⟩, by have := HW.out; rw [Hq.out]; exact ((this.setCell (Nat.le_refl _) _).setCell (Nat.le_refl _) _).setCell (Nat.le_refl _) _⟩

end Go.Proofs.Ytpgoenhekmoedaa
