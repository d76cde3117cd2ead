/-
  A region that draws its order, whose operations only read, make new memory, or call functions that do only that: WHATEVER order is drawn, each operation is shown once, in the text's order.
  Conditions: the last operations (the tail: stores) wait for all before them; the program follows 'mixedOrders'.
-/
import Derived.Orders
import Derived.Tactics
import Derived.Below
namespace Go.Proofs.YtapfnelghmnajaaDoor
open Go.RowKit

/-- Operation j must have come up before operation i. -/
inductive OpReach (ops : Array Oper) : Nat → Nat → Prop
  | edge {i : Nat} {o : Oper} {e : Edge} (ho : ops[i]? = some o) (he : e ∈ o.after) (hb : Region.binds .any e = true) : OpReach ops i e.on
  | step {i : Nat} {o : Oper} {e : Edge} {j : Nat} (ho : ops[i]? = some o) (he : e ∈ o.after) (hb : Region.binds .any e = true) (h : OpReach ops e.on j) : OpReach ops i j

theorem orFold_bit (acc : Array Nat) (j : Nat) : ∀ (l : List Edge) (s : Nat),
    (l.foldl (fun s e => if Region.binds .any e then s ||| 2 ^ e.on ||| acc.getD e.on 0 else s) s).testBit j = true →
    s.testBit j = true ∨ ∃ e ∈ l, Region.binds .any e = true ∧ (j = e.on ∨ (acc.getD e.on 0).testBit j = true) := by
  intro l
  induction l with
  | nil => intro s h; exact .inl h
  | cons e l ih =>
    intro s h
    simp only [List.foldl_cons] at h
    rcases ih _ h with h1 | ⟨e', he', hb, hj⟩
    · by_cases hb : Region.binds .any e = true
      · rw [if_pos hb] at h1
        simp only [Nat.testBit_or, Bool.or_eq_true] at h1
        rcases h1 with (h1 | h1) | h1
        · exact .inl h1
        · refine .inr ⟨e, by simp, hb, .inl ?_⟩
          rw [Nat.testBit_two_pow] at h1
          simpa using (of_decide_eq_true h1).symm
        · exact .inr ⟨e, by simp, hb, .inr h1⟩
      · rw [if_neg hb] at h1
        exact .inl h1
    · exact .inr ⟨e', by simp [he'], hb, hj⟩

theorem before_list (ops : Array Oper) : ∀ (l : List Oper) (acc : Array Nat), (∀ k, l[k]? = ops[acc.size + k]?) →
    (∀ k j, k < acc.size → (acc.getD k 0).testBit j = true → OpReach ops k j) →
    ∀ k j, ((l.foldl (fun acc o => acc.push (o.after.foldl (fun s e => if Region.binds .any e then s ||| 2 ^ e.on ||| acc.getD e.on 0 else s) 0)) acc).getD k 0).testBit j = true → OpReach ops k j := by
  intro l
  induction l with
  | nil =>
    intro acc _ h k j hk
    simp only [List.foldl_nil] at hk
    by_cases hlt : k < acc.size
    · exact h k j hlt hk
    · simp [Array.getElem?_eq_none (Nat.le_of_not_lt hlt)] at hk
  | cons o l ih =>
    intro acc hl h k j hk
    simp only [List.foldl_cons] at hk
    refine ih _ (fun k => by have := hl (k + 1); simpa [Nat.add_assoc, Nat.add_comm 1 k] using this) (fun k' j' hk' hb' => ?_) k j hk
    simp only [Array.size_push] at hk'
    by_cases hlt : k' < acc.size
    · refine h k' j' hlt ?_
      simpa [Array.getElem?_push, Nat.ne_of_lt hlt] using hb'
    · have hke : k' = acc.size := by omega
      subst hke
      have ho : ops[acc.size]? = some o := by simpa using (hl 0).symm
      have hb2 : ((o.after.toList.foldl (fun s e => if Region.binds .any e then s ||| 2 ^ e.on ||| acc.getD e.on 0 else s) 0)).testBit j' = true := by
        rw [Array.foldl_toList]
        simpa [Array.getElem?_push] using hb'
      rcases orFold_bit acc j' _ _ hb2 with h0 | ⟨e, he, hb, hj⟩
      · simp at h0
      · have hea : e ∈ o.after := by simpa using he
        rcases hj with rfl | hj
        · exact .edge ho hea hb
        · by_cases hlt' : e.on < acc.size
          · exact .step ho hea hb (h _ _ hlt' hj)
          · simp [Array.getElem?_eq_none (Nat.le_of_not_lt hlt')] at hj

theorem reach_of_before {ops : Array Oper} {i j : Nat} (h : ((Region.before ops).getD i 0).testBit j = true) : OpReach ops i j := by
  unfold Region.before at h
  rw [← Array.foldl_toList] at h
  exact before_list ops ops.toList #[] (fun k => by simp) (fun k j hk => by simp at hk) i j h

/-- The slot that operation j writes. -/
def dstAt (ops : Array Oper) (j : Nat) : Option Tmp := (ops[j]?).bind fun o => o.dst

/-- The acts: the values of the operations that have come up lie in their slots. -/
def fillA (ops : Array Oper) (vals : Nat → Value) (a : Act) (L : List Nat) : Act := L.foldl (fun a j => a.put (dstAt ops j) (vals j)) a

theorem fillA_snoc {ops : Array Oper} {vals : Nat → Value} {a : Act} {L : List Nat} {j : Nat} : fillA ops vals a (L ++ [j]) = (fillA ops vals a L).put (dstAt ops j) (vals j) := by
  simp [fillA]

theorem put_defers (a : Act) (d : Option Tmp) (v : Value) : (a.put d v).defers = a.defers := by cases d <;> rfl
theorem put_size (a : Act) (d : Option Tmp) (v : Value) : (a.put d v).tmps.size = a.tmps.size := by cases d <;> simp [Act.put]
theorem put_get (a : Act) (d : Option Tmp) (v : Value) (t : Nat) : (a.put d v).tmps[t]? = if d = some t ∧ t < a.tmps.size then some v else a.tmps[t]? := by
  cases d with
  | none => simp [Act.put]
  | some d =>
    simp only [Act.put, Array.getElem?_setIfInBounds, Option.some.injEq]
    by_cases h : d = t <;> by_cases h2 : t < a.tmps.size <;> simp_all
    all_goals omega

theorem fillA_defers (ops : Array Oper) (vals : Nat → Value) : ∀ (L : List Nat) (a : Act), (fillA ops vals a L).defers = a.defers := by
  intro L
  induction L with
  | nil => intro a; rfl
  | cons j L ih => intro a; exact (ih _).trans (put_defers _ _ _)
theorem fillA_size (ops : Array Oper) (vals : Nat → Value) : ∀ (L : List Nat) (a : Act), (fillA ops vals a L).tmps.size = a.tmps.size := by
  intro L
  induction L with
  | nil => intro a; rfl
  | cons j L ih => intro a; exact (ih _).trans (put_size _ _ _)
/-- A slot that nobody of L writes. -/
theorem fillA_none (ops : Array Oper) (vals : Nat → Value) (t : Nat) : ∀ (L : List Nat) (a : Act), (∀ j ∈ L, dstAt ops j ≠ some t) → (fillA ops vals a L).tmps[t]? = a.tmps[t]? := by
  intro L
  induction L with
  | nil => intro a _; rfl
  | cons j L ih =>
    intro a h
    refine (ih _ fun k hk => h k (by simp [hk])).trans ?_
    rw [put_get, if_neg (fun hh => h j (by simp) hh.1)]
/-- A slot that j alone writes. -/
theorem fillA_one (ops : Array Oper) (vals : Nat → Value) (t j : Nat) (hj : dstAt ops j = some t) : ∀ (L : List Nat) (a : Act), j ∈ L → (∀ k ∈ L, dstAt ops k = some t → k = j) →
    (fillA ops vals a L).tmps[t]? = if t < a.tmps.size then some (vals j) else none := by
  intro L
  induction L with
  | nil => intro a h; cases h
  | cons k L ih =>
    intro a hm hu
    by_cases hin : j ∈ L
    · refine (ih _ hin fun k' hk' => hu k' (by simp [hk'])).trans ?_
      rw [put_size]
    · have hk : k = j := by
        rcases List.mem_cons.1 hm with h | h
        · exact h.symm
        · exact absurd h hin
      subst hk
      refine (fillA_none ops vals t L _ fun k' hk' he => hin (by rw [← hu k' (by simp [hk']) he]; exact hk')).trans ?_
      rw [put_get]
      by_cases ht : t < a.tmps.size
      · simp [hj, ht]
      · simp [ht]
/-- Two lists with the same writers of slot t. -/
theorem fillA_agree {ops : Array Oper} {vals vals' : Nat → Value} {t : Nat} {L L' : List Nat} {a : Act} (hu : ∀ j k, dstAt ops j = some t → dstAt ops k = some t → k = j)
    (hm : ∀ j, dstAt ops j = some t → (j ∈ L ↔ j ∈ L') ∧ (j ∈ L → vals j = vals' j)) : (fillA ops vals a L).tmps[t]? = (fillA ops vals' a L').tmps[t]? := by
  by_cases he : ∃ j, j ∈ L ∧ dstAt ops j = some t
  · obtain ⟨j, hj, hd⟩ := he
    have u1 : ∀ k, k ∈ L → dstAt ops k = some t → k = j := fun k _ hk => hu j k hd hk
    have u2 : ∀ k, k ∈ L' → dstAt ops k = some t → k = j := fun k _ hk => hu j k hd hk
    rw [fillA_one ops vals t j hd L a hj u1, fillA_one ops vals' t j hd L' a ((hm j hd).1.1 hj) u2, (hm j hd).2 hj]
  · have h1 : ∀ j ∈ L, dstAt ops j ≠ some t := fun j hj hd => he ⟨j, hj, hd⟩
    have h2 : ∀ j ∈ L', dstAt ops j ≠ some t := fun j hj hd => he ⟨j, (hm j hd).1.2 hj, hd⟩
    rw [fillA_none ops vals t L a h1, fillA_none ops vals' t L' a h2]


theorem act_ext {a b : Act} (h1 : a.defers = b.defers) (h2 : ∀ t : Nat, a.tmps[t]? = b.tmps[t]?) : a = b := by
  obtain ⟨ta, da⟩ := a
  obtain ⟨tb, db⟩ := b
  simp only at h1 h2
  subst h1
  have : ta = tb := Array.ext_getElem? h2
  rw [this]

theorem put_same {a c : Act} {d : Option Tmp} {u v : Value} (hs : a.tmps.size = c.tmps.size) (h : c.put d u = c.put d v) : a.put d u = a.put d v := by
  refine act_ext (by rw [put_defers, put_defers]) fun t => ?_
  have ht := congrArg (fun x : Act => x.tmps[t]?) h
  simp only [put_get] at ht ⊢
  rw [hs]
  split
  · rename_i hc
    rw [if_pos hc, if_pos hc] at ht
    exact ht
  · rfl

/-- What is known of an operation's value: it is v; or F holds of it, and goes on holding while memory grows. -/
inductive Know where
  | val (v : Value)
  | fix (v : Value)      -- in whatever world: it may come up behind the tail, too
  | pred (F : Value → World → Prop)

def KnowOk (k : Know) (o : Oper) (a : Act) (w : World) (a' : Act) (w' : World) : Prop :=
  match k with
  | .val v | .fix v => a' = a.put o.dst v ∧ Below w.heap.size w w'
  | .pred F => ∃ v, a' = a.put o.dst v ∧ Below w.heap.size w w' ∧ F v w'

/-- The post of one operation (behind a name, so that the walk's simp does not take it apart). -/
def StepPost (k : Know) (o : Oper) (a : Act) (w : World) : Exit → Act → World → Prop := fun e a' w' => e = .normal ∧ KnowOk k o a w a' w'

def depB (ops : Array Oper) (i j : Nat) : Bool := ((Region.before ops).getD i 0).testBit j

def OpOk (P : Program) (ops : Array Oper) (W0 : World) (k : Know) (o : Oper) (a : Act) (pre : World → Prop) : Prop :=
  ∀ w, Below W0.heap.size W0 w → pre w → wpList P ops (StepPost k o a w) [o] a w

/-- Each operation once, in the text's order; then the tail. -/
def SeqG (P : Program) (ops : Array Oper) (W0 : World) (Q : Exit → Act → World → Prop) : Nat → List Oper → List Know → List (Nat × (World → Prop)) → Act → Prop
  | _, l, [], known, a => ∀ w, Below W0.heap.size W0 w → (∀ p ∈ known, p.2 w) → wpList P ops Q l a w
  | i, o :: l, .val v :: rem, known, a => OpOk P ops W0 (.val v) o a (fun w => ∀ p ∈ known, depB ops i p.1 = true → p.2 w) ∧ SeqG P ops W0 Q (i + 1) l rem known (a.put o.dst v)
  | i, o :: l, .fix v :: rem, known, a => Yields P ops o v a ∧ SeqG P ops W0 Q (i + 1) l rem known (a.put o.dst v)
  | i, o :: l, .pred F :: rem, known, a => (∀ v w w', Below w.heap.size w w' → F v w → F v w') ∧
      OpOk P ops W0 (.pred F) o a (fun w => ∀ p ∈ known, depB ops i p.1 = true → p.2 w) ∧ ∀ v, SeqG P ops W0 Q (i + 1) l rem ((i, F v) :: known) (a.put o.dst v)
  | _, [], _ :: _, _, _ => False

def Know.isFix : Know → Bool
  | .fix _ => true
  | _ => false
def fixB (Vs : List Know) (j : Nat) : Bool := match Vs[j]? with | some k => k.isFix | none => false
def dirB (ops : Array Oper) (i j : Nat) : Bool := match ops[i]? with | some o => o.after.any fun e => Region.binds .any e && e.on == j | none => false
def seenB (ops : Array Oper) (j k : Nat) : Bool := match dstAt ops j, ops[k]? with | some t, some o => (o.looksAt ops).contains t | _, _ => false

def checkG (ops : Array Oper) (Vs : List Know) : Bool :=
  decide (Vs.length ≤ ops.size) && Region.noSelect ops &&
  (List.range ops.size).all fun i =>
    (match ops[i]? with | some o => o.after.all fun e => !Region.binds .any e || decide (e.on < i) | none => true) &&
    (List.range ops.size).all fun j => i == j ||
      ((match dstAt ops i with | some t => dstAt ops j != some t | none => true) &&
       (!seenB ops j i || depB ops i j || depB ops j i) &&
       (decide (i < Vs.length) || decide (i ≤ j) || depB ops i j || (decide (j < Vs.length) && fixB Vs j && (List.range ops.size).all fun k => !depB ops j k || depB ops i k)) &&
       (!fixB Vs i || ((!seenB ops i j && !seenB ops j i) || dirB ops j i || depB ops i j)))

section
variable {P : Program} {ops : Array Oper} {W0 : World} {Q : Exit → Act → World → Prop} {Vs : List Know} {vals : Nat → Value}

def pre (ops : Array Oper) (Vs : List Know) (vals : Nat → Value) (k : Nat) (w : World) : Prop := ∀ j F, Vs[j]? = some (.pred F) → depB ops k j = true → F (vals j) w

theorem OpOk.weaken {k : Know} {o : Oper} {a : Act} {p q : World → Prop} (h : OpOk P ops W0 k o a p) (hpq : ∀ w, q w → p w) : OpOk P ops W0 k o a q := fun w hb hq => h w hb (hpq w hq)

/-- The values that are given beforehand. -/
def ValsOk (Vs : List Know) (vals : Nat → Value) : Prop := ∀ j v, (Vs[j]? = some (.val v) ∨ Vs[j]? = some (.fix v)) → vals j = v

theorem opOk_of_yields {v : Value} {o : Oper} {a : Act} {p : World → Prop} (h : Yields P ops o v a) : OpOk P ops W0 (.fix v) o a p := by
  intro w _ _
  simp only [wpList]
  rcases h with ⟨hw, hv⟩ | ⟨hw, rfl⟩
  · rw [if_pos hw]
    refine .inl ?_
    unfold Oper.wp
    rw [hv w]
    exact ⟨rfl, rfl, Below.refl _ _⟩
  · rw [if_neg (by simp [hw])]
    exact ⟨rfl, rfl, Below.refl _ _⟩

theorem seq_ops : ∀ (rem : List Know) (i : Nat) (l : List Oper) (known : List (Nat × (World → Prop))) (a : Act), SeqG P ops W0 Q i l rem known a →
    (∀ k, l[k]? = ops[i + k]?) → (∀ k, rem[k]? = Vs[i + k]?) → (∀ p ∈ known, ∃ j F, Vs[j]? = some (.pred F) ∧ p.1 = j ∧ p.2 = F (vals j)) → ValsOk Vs vals →
    (∀ k kn o, k < rem.length → Vs[i + k]? = some kn → ops[i + k]? = some o → OpOk P ops W0 kn o (fillA ops vals a (List.range' i k)) (pre ops Vs vals (i + k))) ∧
    (∀ k F, k < rem.length → Vs[i + k]? = some (.pred F) → ∀ v w w', Below w.heap.size w w' → F v w → F v w') ∧
    (∀ k v o, k < rem.length → Vs[i + k]? = some (.fix v) → ops[i + k]? = some o → Yields P ops o v (fillA ops vals a (List.range' i k))) ∧
    (∀ w, Below W0.heap.size W0 w → (∀ (j : Nat) (F : Value → World → Prop), Vs[j]? = some (.pred F) → F (vals j) w) → wpList P ops Q (l.drop rem.length) (fillA ops vals a (List.range' i rem.length)) w) := by
  intro rem
  induction rem with
  | nil =>
    intro i l known a h hl hr hk hv
    refine ⟨fun k kn o hk0 => by simp at hk0, fun k F hk0 => by simp at hk0, fun k F o hk0 => by simp at hk0, fun w hb hF => ?_⟩
    unfold SeqG at h
    simp only [List.length_nil, List.drop_zero, List.range'_zero]
    exact h w hb fun p hp => by
      obtain ⟨j, F, hj, _, h2⟩ := hk p hp
      rw [h2]; exact hF j F hj
  | cons kn rem ih =>
    intro i l known a h hl hr hk hv
    have hVi : Vs[i]? = some kn := by simpa using (hr 0).symm
    have hr' : ∀ k, rem[k]? = Vs[i + 1 + k]? := fun k => by have := hr (k + 1); simpa [Nat.add_assoc, Nat.add_comm 1 k] using this
    cases l with
    | nil => cases kn <;> simp [SeqG] at h
    | cons o l =>
      have hoi : ops[i]? = some o := by simpa using (hl 0).symm
      have hd : dstAt ops i = o.dst := by simp [dstAt, hoi]
      have hl' : ∀ k, l[k]? = ops[i + 1 + k]? := fun k => by have := hl (k + 1); simpa [Nat.add_assoc, Nat.add_comm 1 k] using this
      have hpre : ∀ w, pre ops Vs vals i w → ∀ p ∈ known, depB ops i p.1 = true → p.2 w := fun w hp p hpm hdep => by
        obtain ⟨j, F, hj, h1, h2⟩ := hk p hpm
        rw [h2]; exact hp j F hj (by rw [← h1]; exact hdep)
      have key : OpOk P ops W0 kn o a (pre ops Vs vals i) ∧ (∀ F, kn = .pred F → ∀ v w w', Below w.heap.size w w' → F v w → F v w') ∧ (∀ v, kn = .fix v → Yields P ops o v a) ∧
          ∃ known', (∀ p ∈ known', ∃ j F, Vs[j]? = some (.pred F) ∧ p.1 = j ∧ p.2 = F (vals j)) ∧ SeqG P ops W0 Q (i + 1) l rem known' (a.put o.dst (vals i)) := by
        cases kn with
        | val v =>
          simp only [SeqG] at h
          refine ⟨h.1.weaken hpre, fun F hF => (by cases hF), fun v hv => (by cases hv), known, hk, ?_⟩
          rw [hv i v (.inl hVi)]; exact h.2
        | fix v =>
          simp only [SeqG] at h
          refine ⟨opOk_of_yields h.1, fun F hF => (by cases hF), fun v' hv' => (by cases hv'; exact h.1), known, hk, ?_⟩
          rw [hv i v (.inr hVi)]; exact h.2
        | pred F =>
          simp only [SeqG] at h
          refine ⟨h.2.1.weaken hpre, fun F' hF' => (by cases hF'; exact h.1), fun v hv => (by cases hv), (i, F (vals i)) :: known, fun p hp => ?_, h.2.2 (vals i)⟩
          rcases List.mem_cons.1 hp with rfl | hp
          · exact ⟨i, F, hVi, rfl, rfl⟩
          · exact hk p hp
      obtain ⟨k1, k2, k3, known', hk', hs⟩ := key
      obtain ⟨r1, r2, r4, r3⟩ := ih (i + 1) l known' _ hs hl' hr' hk' hv
      refine ⟨fun k kn' o' hlt hV ho => ?_, fun k F hlt hV => ?_, fun k v o' hlt hV ho => ?_, fun w hb hF => ?_⟩
      · cases k with
        | zero =>
          simp only [Nat.add_zero] at hV ho ⊢
          rw [hVi] at hV; rw [hoi] at ho
          cases hV; cases ho
          exact k1
        | succ k =>
          have e : i + (k + 1) = i + 1 + k := by omega
          rw [e] at hV ho ⊢
          have := r1 k kn' o' (by simpa using hlt) hV ho
          rw [List.range'_succ]
          simpa [fillA, hd] using this
      · cases k with
        | zero =>
          simp only [Nat.add_zero] at hV
          rw [hVi] at hV
          cases hV
          exact k2 F rfl
        | succ k =>
          have e : i + (k + 1) = i + 1 + k := by omega
          rw [e] at hV
          exact r2 k F (by simpa using hlt) hV
      · cases k with
        | zero =>
          simp only [Nat.add_zero] at hV ho
          rw [hVi] at hV; rw [hoi] at ho
          cases hV; cases ho
          exact k3 v rfl
        | succ k =>
          have e : i + (k + 1) = i + 1 + k := by omega
          rw [e] at hV ho
          have := r4 k v o' (by simpa using hlt) hV ho
          rw [List.range'_succ]
          simpa [fillA, hd] using this
      · have := r3 w hb hF
        simp only [List.length_cons, List.drop_succ_cons, List.range'_succ]
        simpa [fillA, hd] using this

theorem not_lets {k : Know} {o : Oper} {a : Act} {w : World} : ¬ LetsOut (StepPost k o a w) := by
  rintro ⟨a, w, h, _⟩
  cases h

/-- What an operation does at one act it does at another that holds the same in all slots that it looks at. -/
theorem opOk_at {k : Know} {o : Oper} {i : Nat} {a c : Act} {w : World} {K : Act → World → Prop} (hi : ops[i]? = some o) (hs : a.tmps.size = c.tmps.size)
    (he : execOp a.eval o = execOp c.eval o) (hw : Region.wanted o (yielded ops a.tmps) = Region.wanted o (yielded ops c.tmps))
    (h : wpList P ops (StepPost k o c w) [o] c w)
    (hK : ∀ v w', (match k with | .val v0 | .fix v0 => v = v0 ∧ Below w.heap.size w w' | .pred F => Below w.heap.size w w' ∧ F v w') → K (a.put o.dst v) w') : wpOp P ops Q i K a w := by
  -- what is known at c gives K at a
  have tr : ∀ u w', KnowOk k o c w (c.put o.dst u) w' → K (a.put o.dst u) w' := fun u w' hk => by
    cases k with
    | val v0 =>
      obtain ⟨h1, h2⟩ := hk
      rw [put_same hs h1]
      exact hK v0 w' ⟨rfl, h2⟩
    | fix v0 =>
      obtain ⟨h1, h2⟩ := hk
      rw [put_same hs h1]
      exact hK v0 w' ⟨rfl, h2⟩
    | pred F =>
      obtain ⟨v, h1, h2⟩ := hk
      rw [put_same hs h1]
      exact hK v w' h2
  unfold wpOp
  simp only [hi]
  simp only [wpList] at h
  rw [hw]
  split
  · rename_i hwt
    rw [if_pos hwt] at h
    rcases h with h | ⟨_, h⟩
    case inr => exact absurd h not_lets
    refine .inl ?_
    unfold Oper.wp at *
    rw [he]
    generalize (execOp c.eval o).run P w = r at *
    cases r with
    | ok n w' =>
      cases n <;> simp only [Oper.upon] at h ⊢
      case value u => exact tr u w' h.2
      case skip => exact tr _ w' h.2
      case defer d =>
        exfalso
        obtain ⟨_, h⟩ := h
        have hd : ∀ v, ({ c with defers := d :: c.defers } : Act).put o.dst undef ≠ c.put o.dst v := fun v hv => by
          have := congrArg (fun x : Act => x.defers.length) hv
          simp only [put_defers, List.length_cons] at this
          omega
        cases k with
        | val v0 => exact hd v0 h.1
        | fix v0 => exact hd v0 h.1
        | pred F => obtain ⟨v, h1, _⟩ := h; exact hd v h1
      case enter f args =>
        refine Calls.mono h fun e w'' he' => ?_
        cases e with
        | returned u => exact tr u w'' he'.2
        | panicked ch => cases he'.1
        | outgrown => exact absurd he' not_lets
      case row row args => exact Rows.mono h fun u w'' he' => tr u w'' he'.2
    | halt x w' =>
      cases x <;> simp only [Oper.upon] at h ⊢
      case panic u => cases h.1
  · rename_i hwt
    rw [if_neg hwt] at h
    exact tr _ w h.2

structure Checks (ops : Array Oper) (Vs : List Know) : Prop where
  le : Vs.length ≤ ops.size
  sel : Region.noSelect ops = true
  small : ∀ {i : Nat} {o : Oper} {e : Edge}, ops[i]? = some o → e ∈ o.after → Region.binds .any e = true → e.on < i
  apart : ∀ {i j t : Nat}, i ≠ j → dstAt ops i = some t → dstAt ops j ≠ some t
  looks : ∀ {i j t : Nat} {o : Oper}, i ≠ j → dstAt ops j = some t → ops[i]? = some o → t ∈ o.looksAt ops → OpReach ops i j ∨ OpReach ops j i
  tail : ∀ {i j : Nat}, i < ops.size → Vs.length ≤ i → j < i → OpReach ops i j ∨ (j < Vs.length ∧ fixB Vs j = true ∧ ∀ e o, ops[j]? = some o → e ∈ o.after → Region.binds .any e = true → OpReach ops i e.on)
  late : ∀ {i j : Nat}, fixB Vs i = true → i < ops.size → j < ops.size → i ≠ j → (seenB ops i j = false ∧ seenB ops j i = false) ∨ (∃ o e, ops[j]? = some o ∧ e ∈ o.after ∧ Region.binds .any e = true ∧ e.on = i) ∨ OpReach ops i j

theorem dstAt_lt {i t : Nat} (h : dstAt ops i = some t) : i < ops.size := by
  rcases Nat.lt_or_ge i ops.size with h' | h'
  · exact h'
  · simp [dstAt, Array.getElem?_eq_none h'] at h

theorem seen_of {i j t : Nat} {o : Oper} (hj : dstAt ops j = some t) (ho : ops[i]? = some o) (ht : t ∈ o.looksAt ops) : seenB ops j i = true := by
  unfold seenB
  rw [hj, ho]
  simpa using ht

theorem before_edge (ops : Array Oper) : ∀ (l : List Oper) (acc : Array Nat), (∀ k, l[k]? = ops[acc.size + k]?) →
    (∀ (k : Nat) (o : Oper) (e : Edge), k < acc.size → ops[k]? = some o → e ∈ o.after → Region.binds .any e = true → (acc.getD k 0).testBit e.on = true) →
    ∀ (k : Nat) (o : Oper) (e : Edge), ops[k]? = some o → e ∈ o.after → Region.binds .any e = true →
      ((l.foldl (fun acc o => acc.push (o.after.foldl (fun s e => if Region.binds .any e then s ||| 2 ^ e.on ||| acc.getD e.on 0 else s) 0)) acc).getD k 0).testBit e.on = true := by
  have mono : ∀ (acc : Array Nat) (l : List Edge) (s j : Nat), s.testBit j = true → (l.foldl (fun s e => if Region.binds .any e then s ||| 2 ^ e.on ||| acc.getD e.on 0 else s) s).testBit j = true := by
    intro acc l
    induction l with
    | nil => intro s j h; exact h
    | cons e l ih =>
      intro s j h
      simp only [List.foldl_cons]
      refine ih _ j ?_
      split
      · simp [Nat.testBit_or, h]
      · exact h
  have hit : ∀ (acc : Array Nat) (l : List Edge) (s : Nat) (e : Edge), e ∈ l → Region.binds .any e = true → (l.foldl (fun s e => if Region.binds .any e then s ||| 2 ^ e.on ||| acc.getD e.on 0 else s) s).testBit e.on = true := by
    intro acc l
    induction l with
    | nil => intro s e h; cases h
    | cons e' l ih =>
      intro s e h hb
      simp only [List.foldl_cons]
      rcases List.mem_cons.1 h with rfl | h
      · refine mono acc l _ _ ?_
        rw [if_pos hb]
        simp [Nat.testBit_or]
      · exact ih _ e h hb
  intro l
  induction l with
  | nil =>
    intro acc hl h k o e ho he hb
    simp only [List.foldl_nil]
    by_cases hlt : k < acc.size
    · exact h k o e hlt ho he hb
    · have := hl (k - acc.size)
      rw [show acc.size + (k - acc.size) = k by omega, ho] at this
      simp at this
  | cons o l ih =>
    intro acc hl h k o' e ho he hb
    simp only [List.foldl_cons]
    refine ih _ (fun k => by have := hl (k + 1); simpa [Nat.add_assoc, Nat.add_comm 1 k] using this) (fun k' o'' e' hk' ho'' he' hb' => ?_) k o' e ho he hb
    simp only [Array.size_push] at hk'
    by_cases hlt : k' < acc.size
    · have := h k' o'' e' hlt ho'' he' hb'
      simpa [Array.getElem?_push, Nat.ne_of_lt hlt] using this
    · have hke : k' = acc.size := by omega
      subst hke
      have ho2 : ops[acc.size]? = some o := by simpa using (hl 0).symm
      rw [ho2] at ho''
      cases ho''
      have := hit acc o.after.toList 0 e' (by simpa using he') hb'
      rw [Array.foldl_toList] at this
      simpa [Array.getElem?_push] using this

theorem edge_dep {i : Nat} {o : Oper} {e : Edge} (ho : ops[i]? = some o) (he : e ∈ o.after) (hb : Region.binds .any e = true) : depB ops i e.on = true := by
  unfold depB Region.before
  rw [← Array.foldl_toList]
  exact before_edge ops ops.toList #[] (fun k => by simp) (fun k o e hk => by simp at hk) i o e ho he hb

theorem checks_of (hc : checkG ops Vs = true) : Checks ops Vs := by
  unfold checkG at hc
  simp only [Bool.and_eq_true, decide_eq_true_eq, List.all_eq_true, List.mem_range, Bool.or_eq_true, beq_iff_eq, Bool.not_eq_true'] at hc
  obtain ⟨⟨h1, h2⟩, h3⟩ := hc
  refine ⟨h1, h2, fun {i o e} hi he hb => ?_, fun {i j t} hij hi hj => ?_, fun {i j t o} hij hj hi ht => ?_, fun {i j} hn hi hj => ?_, fun {i j} hf hi hj hij => ?_⟩
  · have hn : i < ops.size := (Array.getElem?_eq_some_iff.1 hi).1
    have := (h3 i hn).1
    rw [hi] at this
    simp only [Array.all_eq_true_iff_forall_mem, Bool.or_eq_true, Bool.not_eq_true', decide_eq_true_eq] at this
    rcases this e he with h | h
    · rw [hb] at h; cases h
    · exact h
  · have hni := dstAt_lt hi
    have hnj := dstAt_lt hj
    rcases (h3 i hni).2 j hnj with h | h
    · exact hij h
    · have := h.1.1.1
      rw [hi] at this
      simp [hj] at this
  · have hni : i < ops.size := (Array.getElem?_eq_some_iff.1 hi).1
    have hnj := dstAt_lt hj
    rcases (h3 i hni).2 j hnj with h | h
    · exact absurd h hij
    · rcases h.1.1.2 with (h | h) | h
      · rw [seen_of hj hi ht] at h; cases h
      · exact .inl (reach_of_before h)
      · exact .inr (reach_of_before h)
  · rcases (h3 i hn).2 j (by omega) with h | h
    · omega
    · rcases h.1.2 with ((h | h) | h) | h
      · omega
      · omega
      · exact .inl (reach_of_before h)
      · refine .inr ⟨h.1.1, h.1.2, fun e o ho he hb => ?_⟩
        have hd := edge_dep ho he hb
        have hlt : e.on < ops.size := by
          have hjn : j < ops.size := (Array.getElem?_eq_some_iff.1 ho).1
          have := (h3 j hjn).1
          rw [ho] at this
          simp only [Array.all_eq_true_iff_forall_mem, Bool.or_eq_true, Bool.not_eq_true', decide_eq_true_eq] at this
          rcases this e he with h | h
          · rw [hb] at h; cases h
          · omega
        rcases h.2 e.on hlt with h' | h'
        · rw [hd] at h'; cases h'
        · exact reach_of_before h'
  · rcases (h3 i hi).2 j hj with h | h
    · exact absurd h hij
    · rcases h.2 with h | (h | h) | h
      · rw [hf] at h; cases h
      · exact .inl h
      · unfold dirB at h
        cases ho : ops[j]? with
        | none => rw [ho] at h; cases h
        | some o =>
          rw [ho] at h
          obtain ⟨i0, hi0, hh⟩ := Array.any_eq_true.1 h
          simp only [Bool.and_eq_true, beq_iff_eq] at hh
          obtain ⟨e, he, hb, hon⟩ : ∃ e, e ∈ o.after ∧ Region.binds .any e = true ∧ e.on = i := ⟨_, Array.getElem_mem hi0, hh.1, hh.2⟩
          exact .inr (.inl ⟨o, e, rfl, he, hb, hon⟩)
      · exact .inr (.inr (reach_of_before h))

theorem OpReach.lt {i j : Nat} (C : Checks ops Vs) (hr : OpReach ops i j) : j < i := by
  induction hr with
  | edge ho he hb => exact C.small ho he hb
  | step ho he hb _ ih => have := C.small ho he hb; omega

theorem ready_iff {listed : Array Bool} {j : Nat} : j ∈ Region.ready .any ops listed ↔
    listed.getD j true = false ∧ ∃ o, ops[j]? = some o ∧ ∀ e ∈ o.after, Region.binds .any e = true → listed.getD e.on false = true := mem_ready

theorem listed_closed {listed : Array Bool} {i j : Nat} (hcl : ∀ i o e, listed.getD i false = true → ops[i]? = some o → e ∈ o.after → Region.binds .any e = true → listed.getD e.on false = true)
    (hr : OpReach ops i j) (hi : ∀ o e, ops[i]? = some o → e ∈ o.after → Region.binds .any e = true → listed.getD e.on false = true) : listed.getD j false = true := by
  induction hr with
  | edge ho he hb => exact hi _ _ ho he hb
  | step ho he hb _ ih => exact ih fun o e ho' he' hb' => hcl _ o e (hi _ _ ho he hb) ho' he' hb'

theorem getD_flip {listed : Array Bool} {j : Nat} (hj : j < listed.size) : listed.getD j true = listed.getD j false := by
  simp [hj]

theorem count_set {listed : Array Bool} {i : Nat} {n : Nat} (hi : listed.getD i true = false) (hn : listed.toList.count false = n) : ∃ m, n = m + 1 ∧ (listed.setIfInBounds i true).toList.count false = m := by
  have hlt : i < listed.size := by
    rcases Nat.lt_or_ge i listed.size with h' | h'
    · exact h'
    · simp [Array.getElem?_eq_none h'] at hi
  have hv : listed.toList[i]'(by simpa using hlt) = false := by simpa [hlt] using hi
  have hpos : 0 < listed.toList.count false := List.count_pos_iff.2 (by rw [← hv]; exact List.getElem_mem _)
  refine ⟨n - 1, by omega, ?_⟩
  have := List.count_set (a := true) (b := false) (l := listed.toList) (i := i) (by simpa using hlt)
  rw [hv] at this
  simp only [Array.toList_setIfInBounds]
  rw [this]
  have e1 : (true == false) = false := rfl
  have e2 : (false == false) = true := rfl
  simp only [e1, e2, if_true, Bool.false_eq_true, if_false]
  omega

/-- THE TAIL: each waits for all before it. -/
theorem tail_any (C : Checks ops Vs) : ∀ (m k : Nat) (listed : Array Bool) (a : Act) (w : World), k + m = ops.size → Vs.length ≤ k → listed.size = ops.size → (∀ j, j < ops.size → (listed.getD j false = true ↔ j < k)) →
    wpOps P ops Q (List.range' k m) a w → wpAny P .any ops Q m listed a w := by
  intro m
  induction m with
  | zero =>
    intro k listed a w hk _ hs hl H
    refine ⟨?_, by simpa [wpOps] using H⟩
    rw [List.eq_nil_iff_forall_not_mem]
    intro j hj
    obtain ⟨h0, o, ho, _⟩ := ready_iff.1 hj
    have hlt : j < ops.size := (Array.getElem?_eq_some_iff.1 ho).1
    have := (hl j hlt).2 (by omega)
    rw [getD_flip (by omega), this] at h0
    cases h0
  | succ m ih =>
    intro k listed a w hk hh hs hl H
    have hkn : k < ops.size := by omega
    have hcl : ∀ i o e, listed.getD i false = true → ops[i]? = some o → e ∈ o.after → Region.binds .any e = true → listed.getD e.on false = true := fun i o e hi ho he hb => by
      have hin : i < ops.size := (Array.getElem?_eq_some_iff.1 ho).1
      have h1 := (hl i hin).1 hi
      have h2 := C.small ho he hb
      exact (hl _ (by omega)).2 (by omega)
    have only : ∀ i ∈ Region.ready .any ops listed, i = k := fun i hi => by
      obtain ⟨h0, o, ho, hall⟩ := ready_iff.1 hi
      have hin : i < ops.size := (Array.getElem?_eq_some_iff.1 ho).1
      rw [getD_flip (by omega)] at h0
      have hge : ¬ i < k := fun hlt => by rw [(hl i hin).2 hlt] at h0; cases h0
      by_cases hik : i = k
      · exact hik
      · exfalso
        have hr : OpReach ops i k := (C.tail hin (by omega) (by omega)).resolve_right fun h => by omega
        have := listed_closed hcl hr fun o' e ho' he hb => by rw [ho] at ho'; cases ho'; exact hall e he hb
        have := (hl k hkn).1 this
        omega
    have hkr : k ∈ Region.ready .any ops listed := by
      have ho : ops[k]? = some ops[k] := Array.getElem?_eq_getElem hkn
      refine ready_iff.2 ⟨?_, _, ho, fun e he hb => ?_⟩
      · rw [getD_flip (by omega)]
        cases hv : listed.getD k false
        · rfl
        · have := (hl k hkn).1 hv; omega
      · have := C.small ho he hb
        exact (hl _ (by omega)).2 this
    refine ⟨fun h0 => (by rw [h0] at hkr; cases hkr), fun i hi => ?_⟩
    obtain rfl := only i hi
    rw [List.range'_succ, wpOps_cons] at H
    refine wpOp_mono (fun a' w' h' => ?_) H
    refine ih (i + 1) _ a' w' (by omega) (by omega) (by simpa using hs) (fun j hj => ?_) h'
    by_cases hji : i = j
    · subst hji
      have : i < listed.size := by omega
      simp [this]
    · rw [getD_set_ne false hji, hl j hj]
      omega

theorem fillA_ext {vals : Nat → Value} (C : Checks ops Vs) {a : Act} {L L' : List Nat} (hm : ∀ j, j ∈ L ↔ j ∈ L') : fillA ops vals a L = fillA ops vals a L' :=
  act_ext (by rw [fillA_defers, fillA_defers]) fun t => fillA_agree
    (fun j k hj hk => by
      by_cases hjk : j = k
      · exact hjk.symm
      · exact absurd hk (C.apart hjk hj))
    fun j _ => ⟨hm j, fun _ => rfl⟩

theorem fillA_vals {vals vals' : Nat → Value} : ∀ (L : List Nat) (a : Act), (∀ j ∈ L, vals j = vals' j) → fillA ops vals a L = fillA ops vals' a L := by
  intro L
  induction L with
  | nil => intro a _; rfl
  | cons j L ih =>
    intro a h
    simp only [fillA, List.foldl_cons] at ih ⊢
    rw [h j (by simp)]
    exact ih _ fun k hk => h k (by simp [hk])

theorem looks_eq {vals : Nat → Value} {o : Oper} {a : Act} {L L' : List Nat} (hs : ∀ cs b, o.op ≠ .select cs b) (h : ∀ t ∈ o.looksAt ops, (fillA ops vals a L).tmps[t]? = (fillA ops vals a L').tmps[t]?) :
    execOp (fillA ops vals a L).eval o = execOp (fillA ops vals a L').eval o ∧
    Region.wanted o (yielded ops (fillA ops vals a L).tmps) = Region.wanted o (yielded ops (fillA ops vals a L').tmps) := by
  constructor
  · refine execOp_congr o hs fun x hx => ?_
    cases x with
    | tmp t =>
      have := h t (List.mem_append_left _ (List.mem_filterMap.2 ⟨.tmp t, by simpa using hx, rfl⟩))
      simp [Act.eval, this]
    | _ => rfl
  · unfold Region.wanted
    cases hg : o.guard with
    | none => rfl
    | some gw =>
      obtain ⟨g, want⟩ := gw
      have hy : yielded ops (fillA ops vals a L).tmps g = yielded ops (fillA ops vals a L').tmps g := by
        unfold yielded
        cases ht : (ops[g]?).bind (·.dst) with
        | none => rfl
        | some t =>
          have := h t (by simp [Oper.looksAt, hg, ht])
          simp [this]
      simp only [hy]

/-- Whatever order is drawn. -/
theorem head_any (C : Checks ops Vs) (a0 : Act) (hQ : ∀ c a b w, Q (.panic c) a w → Q (.panic c) b w)
    (hops : ∀ vals : Nat → Value, ValsOk Vs vals → ∀ k kn o, k < Vs.length → Vs[k]? = some kn → ops[k]? = some o → OpOk P ops W0 kn o (fillA ops vals a0 (List.range k)) (pre ops Vs vals k))
    (hfix : ∀ vals : Nat → Value, ValsOk Vs vals → ∀ k v o, Vs[k]? = some (.fix v) → ops[k]? = some o → Yields P ops o v (fillA ops vals a0 (List.range k)))
    (hst : ∀ (k : Nat) (F : Value → World → Prop), Vs[k]? = some (.pred F) → ∀ v w w', Below w.heap.size w w' → F v w → F v w')
    (hfin : ∀ vals : Nat → Value, ValsOk Vs vals → ∀ w, Below W0.heap.size W0 w → (∀ (j : Nat) (F : Value → World → Prop), Vs[j]? = some (.pred F) → F (vals j) w) → wpOps P ops Q (List.range' Vs.length (ops.size - Vs.length)) (fillA ops vals a0 (List.range Vs.length)) w) :
    ∀ (n : Nat) (listed : Array Bool) (L : List Nat) (vals : Nat → Value) (w : World), listed.toList.count false = n → listed.size = ops.size → (∀ j, j ∈ L ↔ listed.getD j false = true) → (∀ j ∈ L, j < Vs.length) →
      (∀ i o e, listed.getD i false = true → ops[i]? = some o → e ∈ o.after → Region.binds .any e = true → listed.getD e.on false = true) →
      ValsOk Vs vals → Below W0.heap.size W0 w → (∀ (j : Nat) (F : Value → World → Prop), j ∈ L → Vs[j]? = some (.pred F) → F (vals j) w) →
      wpAny P .any ops Q n listed (fillA ops vals a0 L) w := by
  intro n
  induction n with
  | zero =>
    intro listed L vals w hn hs hL hLh hcl hv hb hF
    -- nobody is left: the head is the whole
    have all : ∀ j, j < ops.size → listed.getD j false = true := fun j hj => by
      have hnot : false ∉ listed.toList := List.count_eq_zero.1 hn
      have hj' : j < listed.size := by omega
      cases hv : listed[j] with
      | true => simp [hj', hv]
      | false => exact absurd (by rw [← hv]; exact Array.getElem_mem_toList _) hnot
    have hle : ops.size = Vs.length := by
      have := C.le
      rcases Nat.lt_or_ge Vs.length ops.size with h' | h'
      · have := hLh _ ((hL _).2 (all _ h')); omega
      · omega
    refine tail_any C 0 ops.size listed _ w (by omega) (by omega) hs (fun j hj => ⟨fun _ => hj, fun _ => all j hj⟩) ?_
    have := hfin vals hv w hb fun j F hj => hF j F ((hL j).2 (all j (by
      have : j < Vs.length := (List.getElem?_eq_some_iff.1 hj).1
      omega))) hj
    have e : fillA ops vals a0 L = fillA ops vals a0 (List.range Vs.length) := fillA_ext C fun j => by
      rw [List.mem_range]
      exact ⟨hLh j, fun hj => (hL j).2 (all j (by omega))⟩
    rw [e]
    simpa [hle] using this
  | succ n ih =>
    intro listed L vals w hn hs hL hLh hcl hv hb hF
    by_cases hfull : ∀ j, j < Vs.length → listed.getD j false = true
    · -- the head is done
      have hl : ∀ j, j < ops.size → (listed.getD j false = true ↔ j < Vs.length) := fun j _ => ⟨fun hj => hLh j ((hL j).2 hj), hfull j⟩
      have e : fillA ops vals a0 L = fillA ops vals a0 (List.range Vs.length) := fillA_ext C fun j => by
        rw [List.mem_range]
        exact ⟨hLh j, fun hj => (hL j).2 (hfull j hj)⟩
      have hcnt : n + 1 = ops.size - Vs.length := by
        have h1 : listed.toList = List.replicate Vs.length true ++ List.replicate (ops.size - Vs.length) false := by
          apply List.ext_getElem?
          intro j
          have hle := C.le
          by_cases hj : j < ops.size
          · have hjl : j < listed.size := by omega
            have hg : listed.toList[j]? = some (listed.getD j false) := by simp [hjl]
            rw [hg]
            by_cases hjh : j < Vs.length
            · rw [hfull j hjh, List.getElem?_append_left (by simpa using hjh)]
              simp [hjh]
            · have : listed.getD j false = false := by
                cases hv : listed.getD j false
                · rfl
                · exact absurd ((hl j hj).1 hv) hjh
              rw [this, List.getElem?_append_right (by simp; omega), List.length_replicate, List.getElem?_replicate, if_pos (by omega)]
          · have q1 : listed.toList[j]? = none := List.getElem?_eq_none (by simp; omega)
            have q2 : (List.replicate Vs.length true ++ List.replicate (ops.size - Vs.length) false)[j]? = none := List.getElem?_eq_none (by simp; omega)
            rw [q1, q2]
        rw [← hn, h1]
        simp [List.count_replicate]
      rw [e]
      have := hfin vals hv w hb fun j F hj => hF j F ((hL j).2 (hfull j (by
        have : j < Vs.length := (List.getElem?_eq_some_iff.1 hj).1
        omega))) hj
      rw [← hcnt] at this
      exact tail_any C (n + 1) Vs.length listed _ w (by have := C.le; omega) (Nat.le_refl _) hs hl this
    · -- someone of the head is left
      have hfacts : ∀ i ∈ Region.ready .any ops listed, i < ops.size ∧ i ∉ L ∧ ∀ j, OpReach ops i j → listed.getD j false = true := fun i hi => by
        obtain ⟨h0, o, ho, hall⟩ := ready_iff.1 hi
        have hin : i < ops.size := (Array.getElem?_eq_some_iff.1 ho).1
        refine ⟨hin, fun hc => ?_, fun j hr => listed_closed hcl hr fun o' e ho' he hb => by rw [ho] at ho'; cases ho'; exact hall e he hb⟩
        have := (hL i).1 hc
        rw [getD_flip (by omega), this] at h0
        cases h0
      have hlooks : ∀ i ∈ Region.ready .any ops listed, ∀ o, ops[i]? = some o → ∀ t ∈ o.looksAt ops, (fillA ops vals a0 L).tmps[t]? = (fillA ops vals a0 (List.range i)).tmps[t]? := fun i hi o ho t ht => by
        obtain ⟨hin, hiL, hdeps⟩ := hfacts i hi
        refine fillA_agree (fun j k hj hk => ?_) fun j hj => ⟨?_, fun _ => rfl⟩
        · by_cases hjk : j = k
          · exact hjk.symm
          · exact absurd hk (C.apart hjk hj)
        · rw [List.mem_range]
          by_cases hji : i = j
          · subst hji
            exact ⟨fun hc => absurd hc hiL, fun hc => by omega⟩
          · rcases C.looks hji hj ho ht with hr | hr
            · exact ⟨fun _ => hr.lt C, fun _ => (hL j).2 (hdeps j hr)⟩
            · refine ⟨fun hc => ?_, fun hc => by have := hr.lt C; omega⟩
              have hlj := (hL j).1 hc
              have := listed_closed hcl hr fun o' e ho' he hb => hcl j o' e hlj ho' he hb
              exact absurd ((hL i).2 this) hiL
      -- what a new one leaves of the bookkeeping
      have hcl' : ∀ i ∈ Region.ready .any ops listed, ∀ j o e, (listed.setIfInBounds i true).getD j false = true → ops[j]? = some o → e ∈ o.after → Region.binds .any e = true → (listed.setIfInBounds i true).getD e.on false = true := fun i hi j o e hj ho' he' hb' => by
        obtain ⟨h0, oi, hoi, hall⟩ := ready_iff.1 hi
        by_cases hji : i = j
        · subst hji
          rw [hoi] at ho'; cases ho'
          exact getD_set_true (hall e he' hb')
        · rw [getD_set_ne false hji] at hj
          exact getD_set_true (hcl j o e hj ho' he' hb')
      have hL' : ∀ i ∈ Region.ready .any ops listed, ∀ j, j ∈ L ++ [i] ↔ (listed.setIfInBounds i true).getD j false = true := fun i hi j => by
        obtain ⟨hin, _, _⟩ := hfacts i hi
        rw [List.mem_append, List.mem_singleton, hL]
        by_cases hji : i = j
        · subst hji
          have : i < listed.size := by omega
          simp [this]
        · rw [getD_set_ne false hji]
          exact ⟨fun h => h.resolve_right (Ne.symm hji), .inl⟩
      by_cases hlate : ∃ j, j ∈ Region.ready .any ops listed ∧ ∃ v, Vs[j]? = some (.fix v)
      · -- one that yields in whatever world is taken first
        obtain ⟨j, hj, v, hv0⟩ := hlate
        obtain ⟨h0, o, ho, hall⟩ := ready_iff.1 hj
        obtain ⟨hjn, hjL, hdeps⟩ := hfacts j hj
        have hjh : j < Vs.length := (List.getElem?_eq_some_iff.1 hv0).1
        have hsel : ∀ cs b, o.op ≠ .select cs b := fun cs b => Region.noSelect_spec C.sel j o cs b ho
        obtain ⟨he, hw⟩ := looks_eq (vals := vals) (a := a0) hsel (hlooks j hj o ho)
        have hy : Yields P ops o v (fillA ops vals a0 L) := (hfix vals hv j v o hv0 ho).of_same he hw
        obtain ⟨m, hm, hcnt⟩ := count_set h0 hn
        obtain rfl : n = m := by omega
        refine wpAny_first ho (Region.noSelect_spec C.sel) (fun c a w h => hQ c _ _ w h) n listed _ w (fun k ok hk hkj hun hno => ?_) hj hy ?_
        · have hkn : k < ops.size := (Array.getElem?_eq_some_iff.1 hk).1
          have hf : fixB Vs j = true := by simp [fixB, hv0, Know.isFix]
          rcases C.late hf hjn hkn (Ne.symm hkj) with ⟨s1, s2⟩ | ⟨o', e, ho', he', hb', hon⟩ | hr
          · unfold Oper.apart
            have d1 : dstAt ops j = o.dst := by simp [dstAt, ho]
            have d2 : dstAt ops k = ok.dst := by simp [dstAt, hk]
            simp only [seenB, d1, d2, ho, hk] at s1 s2
            rw [Bool.and_eq_true]
            constructor
            · cases hd : o.dst with
              | none => rfl
              | some t =>
                simp only [hd] at s1
                have := C.apart (Ne.symm hkj) (d1.trans hd)
                rw [d2] at this
                simp only [Bool.and_eq_true, Bool.not_eq_true', bne_iff_ne]
                exact ⟨s1, this⟩
            · cases hd : ok.dst with
              | none => rfl
              | some t =>
                simp only [hd] at s2
                simp only [Bool.not_eq_true']
                exact s2
          · rw [hk] at ho'; cases ho'
            exact absurd hon (hno e he' hb')
          · have := hdeps k hr
            rw [getD_flip (by omega), this] at hun
            cases hun
        · have hact : (fillA ops vals a0 L).put o.dst v = fillA ops vals a0 (L ++ [j]) := by
            rw [fillA_snoc, hv j v (.inr hv0)]
            simp [dstAt, ho]
          rw [hact]
          refine ih (listed.setIfInBounds j true) (L ++ [j]) vals w hcnt (by simpa using hs) (hL' j hj) (fun k hk => ?_) (hcl' j hj) hv hb (fun k F hk hF' => ?_)
          · rcases List.mem_append.1 hk with hk | hk
            · exact hLh k hk
            · rw [List.mem_singleton] at hk; omega
          · rcases List.mem_append.1 hk with hk | hk
            · exact hF k F hk hF'
            · rw [List.mem_singleton] at hk
              subst hk
              rw [hv0] at hF'; cases hF'
      have hread : ∀ i ∈ Region.ready .any ops listed, i < Vs.length := fun i hi => by
        obtain ⟨hin, hiL, hdeps⟩ := hfacts i hi
        rcases Nat.lt_or_ge i Vs.length with h' | h'
        · exact h'
        · exfalso
          refine hfull fun j hj => ?_
          rcases C.tail (j := j) hin h' (by omega) with hr | ⟨hjh, hf, hde⟩
          · exact hdeps j hr
          · -- it could come up
            cases hlj : listed.getD j false with
            | true => rfl
            | false =>
              exfalso
              have hjn : j < ops.size := by have := C.le; omega
              have ho : ops[j]? = some ops[j] := Array.getElem?_eq_getElem hjn
              refine hlate ⟨j, ready_iff.2 ⟨(getD_flip (by omega : j < listed.size)).trans hlj, _, ho, fun e he hb => hdeps _ (hde e _ ho he hb)⟩, ?_⟩
              unfold fixB at hf
              cases hvj : Vs[j]? with
              | none => rw [hvj] at hf; cases hf
              | some kn =>
                rw [hvj] at hf
                cases kn with
                | fix v => exact ⟨v, rfl⟩
                | val v => cases hf
                | pred F => cases hf
      have hsome : Region.ready .any ops listed ≠ [] := by
        obtain ⟨j, hj, hmin⟩ : ∃ j, (j < Vs.length ∧ ¬ listed.getD j false = true) ∧ ∀ k, k < j → listed.getD k false = true := by
          have hex : ∃ j, j < Vs.length ∧ ¬ listed.getD j false = true := Classical.byContradiction fun hno => hfull fun j hj => Classical.byContradiction fun hnj => hno ⟨j, hj, hnj⟩
          obtain ⟨j, hj⟩ := hex
          induction j using Nat.strongRecOn with
          | _ j ihj =>
            by_cases hall : ∀ k, k < j → listed.getD k false = true
            · exact ⟨j, hj, hall⟩
            · obtain ⟨k, hk⟩ := Classical.not_forall.1 hall
              obtain ⟨hk1, hk2⟩ := Classical.not_imp.1 hk
              exact ihj k hk1 ⟨by omega, hk2⟩
        have hjn : j < ops.size := by have := C.le; omega
        have ho : ops[j]? = some ops[j] := Array.getElem?_eq_getElem hjn
        have : j ∈ Region.ready .any ops listed := by
          refine ready_iff.2 ⟨?_, _, ho, fun e he hb => hmin _ (C.small ho he hb)⟩
          rw [getD_flip (by omega)]
          simpa using hj.2
        exact fun h0 => by rw [h0] at this; cases this
      refine ⟨fun h0 => absurd h0 hsome, fun i hi => ?_⟩
      have hih := hread i hi
      obtain ⟨h0, o, ho, hall⟩ := ready_iff.1 hi
      have hin : i < ops.size := (Array.getElem?_eq_some_iff.1 ho).1
      obtain ⟨_, hiL, hdepsL⟩ := hfacts i hi
      obtain ⟨kn, hkn⟩ : ∃ kn, Vs[i]? = some kn := ⟨Vs[i]'hih, List.getElem?_eq_getElem hih⟩
      have hdeps : ∀ j, OpReach ops i j → j ∈ L := fun j hr => (hL j).2 (hdepsL j hr)
      have hsel : ∀ cs b, o.op ≠ .select cs b := fun cs b => Region.noSelect_spec C.sel i o cs b ho
      have hlook := hlooks i hi o ho
      obtain ⟨he, hw⟩ := looks_eq hsel hlook
      have hpre : pre ops Vs vals i w := fun j F hj hd => hF j F (hdeps j (reach_of_before hd)) hj
      refine opOk_at ho (by rw [fillA_size, fillA_size]) he hw (hops vals hv i kn o hih hkn ho w hb hpre) fun v w' hk => ?_
      -- the new state
      have hgw : Below w.heap.size w w' := by cases kn with
        | val v0 => exact hk.2
        | fix v0 => exact hk.2
        | pred F => exact hk.1
      obtain ⟨m, hm, hcnt⟩ := count_set h0 hn
      obtain rfl : n = m := by omega
      let vals' : Nat → Value := fun j => if j = i then v else vals j
      have hvi : vals' i = v := by simp [vals']
      have hvj : ∀ j ∈ L, vals' j = vals j := fun j hj => by
        have : j ≠ i := fun e => hiL (e ▸ hj)
        simp [vals', this]
      have hact : (fillA ops vals a0 L).put o.dst v = fillA ops vals' a0 (L ++ [i]) := by
        rw [fillA_snoc, hvi, fillA_vals L a0 hvj]
        simp [dstAt, ho]
      rw [hact]
      refine ih (listed.setIfInBounds i true) (L ++ [i]) vals' w' hcnt (by simpa using hs) (hL' i hi) (fun j hj => ?_) (hcl' i hi) (fun j v0 hj => ?_) (hb.trans (hgw.mono hb.size)) (fun j F hj hF' => ?_)
      · rcases List.mem_append.1 hj with hj | hj
        · exact hLh j hj
        · rw [List.mem_singleton] at hj; omega
      · by_cases hji : j = i
        · subst hji
          rw [hvi]
          rw [hkn] at hj
          rcases hj with hj | hj <;> (cases hj; exact hk.1)
        · simp only [vals', if_neg hji]; exact hv j v0 hj
      · rcases List.mem_append.1 hj with hj | hj
        · rw [hvj j hj]
          exact hst j F hF' _ _ _ hgw (hF j F hj hF')
        · rw [List.mem_singleton] at hj
          subst hj
          rw [hvi]
          rw [hkn] at hF'; cases hF'
          exact hk.2

/-- A DRAWN REGION: each operation once, in the text's order ('SeqG'). -/
theorem wp_region_grow0 {id : Nat} {l : List Oper} {a : Act} (Vs : List Know) (hm : P.follows .mixedOrders = true) (hQ : ∀ c a b w, Q (.panic c) a w → Q (.panic c) b w) (hc : checkG l.toArray Vs = true)
    (h : SeqG P l.toArray W0 Q 0 l Vs [] a) : (Code.region id l.toArray true).wp P Q a W0 := by
  have C := checks_of hc
  refine wp_region_any hm ?_
  have hd0 : Below W0.heap.size W0 { W0 with drawn := W0.drawn + 1 } := (Below.refl _ _).drew
  have hl0 : ∀ k, l[k]? = l.toArray[0 + k]? := fun k => by simp
  have hlist : ∀ j, (Array.replicate l.toArray.size false).getD j false = false := fun j => by
    by_cases hj : j < l.length <;> simp [hj]
  let v0 : Nat → Value := fun j => match Vs[j]? with | some (.val v) => v | some (.fix v) => v | _ => undef
  have hv0 : ValsOk Vs v0 := fun j v hj => by rcases hj with hj | hj <;> simp [v0, hj]
  have base := fun (vals : Nat → Value) (hv : ValsOk Vs vals) => seq_ops (vals := vals) Vs 0 l [] a h hl0 (fun k => by simp) (fun p hp => by cases hp) hv
  have H := head_any (P := P) (Q := Q) (W0 := W0) (Vs := Vs) C a hQ
    (fun vals hv k kn o hk hkn ho => by
      have := (base vals hv).1 k kn o hk (by simpa using hkn) (by simpa using ho)
      simpa [List.range_eq_range'] using this)
    (fun vals hv k v o hk ho => by
      have hlt : k < Vs.length := (List.getElem?_eq_some_iff.1 hk).1
      have := (base vals hv).2.2.1 k v o hlt (by simpa using hk) (by simpa using ho)
      simpa [List.range_eq_range'] using this)
    (fun k F hk => by
      have hlt : k < Vs.length := (List.getElem?_eq_some_iff.1 hk).1
      exact (base v0 hv0).2.1 k F hlt (by simpa using hk))
    (fun vals hv w hb hF => by
      have := (base vals hv).2.2.2 w hb hF
      have hlen : (l.drop Vs.length).length = l.toArray.size - Vs.length := by simp
      have e := wpOps_eq_wpList (P := P) (Q := Q) (ops := l.toArray) (l.drop Vs.length) Vs.length (fun j => by simp [List.getElem?_drop])
      rw [hlen] at e
      rw [e]
      simpa [List.range_eq_range'] using this)
    l.toArray.size (Array.replicate l.toArray.size false) [] v0 { W0 with drawn := W0.drawn + 1 }
    (by simp) (by simp) (fun j => by rw [hlist]; simp) (fun j hj => by cases hj) (fun i o e hi => by rw [hlist] at hi; cases hi) hv0 hd0 (fun j F hj => by cases hj)
  exact H
end

/-- The post, but 'False' at a panic. -/
def NoPan (Q : Exit → Act → World → Prop) : Exit → Act → World → Prop
  | .panic _, _, _ => False
  | e, a, w => Q e a w
theorem NoPan.imp {Q : Exit → Act → World → Prop} : ∀ (e : Exit) (a : Act) (w : World), NoPan Q e a w → Q e a w := fun e a w h => by
  cases e <;> first | exact h | exact (h : False).elim
theorem NoPan.normal {Q : Exit → Act → World → Prop} {a : Act} {w : World} (h : Q .normal a w) : NoPan Q .normal a w := h

theorem wp_region_grow {P : Program} {W0 : World} {Q : Exit → Act → World → Prop} {id : Nat} {l : List Oper} {a : Act} (Vs : List Know) (hm : P.follows .mixedOrders = true) (hc : checkG l.toArray Vs = true)
    (h : SeqG P l.toArray W0 (NoPan Q) 0 l Vs [] a) : (Code.region id l.toArray true).wp P Q a W0 :=
  Code.wp_mono NoPan.imp (wp_region_grow0 Vs hm (fun _ _ _ _ h => h) hc h)

theorem post_val {v : Value} {o : Oper} {a : Act} {w w' : World} (h : Below w.heap.size w w') : StepPost (.val v) o a w .normal (a.put o.dst v) w' := ⟨rfl, rfl, h⟩
theorem post_val_eq {v v' : Value} {o : Oper} {a : Act} {w w' : World} (hv : v' = v) (h : Below w.heap.size w w') : StepPost (.val v) o a w .normal (a.put o.dst v') w' := by subst hv; exact ⟨rfl, rfl, h⟩
theorem post_pred {F : Value → World → Prop} {o : Oper} {a : Act} {w w' : World} (v : Value) (h : Below w.heap.size w w') (hF : F v w') : StepPost (.pred F) o a w .normal (a.put o.dst v) w' := ⟨rfl, v, rfl, h, hF⟩

section
variable {P : Program} {ops : Array Oper} {W0 : World} {Q : Exit → Act → World → Prop} {i : Nat} {o : Oper} {l : List Oper} {rem : List Know} {known : List (Nat × (World → Prop))} {a : Act}
theorem SeqG.valStep {v : Value} (h1 : OpOk P ops W0 (.val v) o a (fun w => ∀ p ∈ known, depB ops i p.1 = true → p.2 w)) (h2 : SeqG P ops W0 Q (i + 1) l rem known (a.put o.dst v)) :
    SeqG P ops W0 Q i (o :: l) (.val v :: rem) known a := ⟨h1, h2⟩
theorem SeqG.fixStep {v : Value} (h1 : Yields P ops o v a) (h2 : SeqG P ops W0 Q (i + 1) l rem known (a.put o.dst v)) : SeqG P ops W0 Q i (o :: l) (.fix v :: rem) known a := ⟨h1, h2⟩
theorem SeqG.predStep {F : Value → World → Prop} (h0 : ∀ v w w', Below w.heap.size w w' → F v w → F v w') (h1 : OpOk P ops W0 (.pred F) o a (fun w => ∀ p ∈ known, depB ops i p.1 = true → p.2 w))
    (h2 : ∀ v, SeqG P ops W0 Q (i + 1) l rem ((i, F v) :: known) (a.put o.dst v)) : SeqG P ops W0 Q i (o :: l) (.pred F :: rem) known a := ⟨h0, h1, h2⟩
theorem SeqG.done (h : ∀ w, Below W0.heap.size W0 w → (∀ p ∈ known, p.2 w) → wpList P ops Q l a w) : SeqG P ops W0 Q i l [] known a := by
  cases l <;> exact h
end

end Go.Proofs.YtapfnelghmnajaaDoor
