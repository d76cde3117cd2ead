/-
  AddTrip, in plain words.
-/
import Derived.Test.YtfcmfadkkfkidaaFirst0
import Derived.Test.YtfcmfadkkfkidaaIns0
namespace Go.Proofs.Ytfcmfadkkfkidaa
open Go.RowKit

/-- The place of an id among ascending ones. -/
def ldK : List T5 → Int → Nat
  | [], _ => 0
  | y :: ys, a => if y.1 < a then ldK ys a + 1 else 0
theorem ldK_le (a : Int) : ∀ L : List T5, ldK L a ≤ L.length
  | [] => by simp [ldK]
  | y :: ys => by
    unfold ldK
    have := ldK_le a ys
    split <;> simp <;> omega
theorem ldK_go {L : List T5} {a : Int} {k : Nat} {x : T5} (hx : L[k]? = some x) (h : ldK L a = k + ldK (L.drop k) a) (hlt : x.1 < a) : ldK L a = (k + 1) + ldK (L.drop (k + 1)) a := by
  obtain ⟨hk, rfl⟩ := List.getElem?_eq_some_iff.1 hx
  rw [h, List.drop_eq_getElem_cons hk, ldK, if_pos hlt]; omega
theorem ldK_stop {L : List T5} {a : Int} {k : Nat} {x : T5} (hx : L[k]? = some x) (h : ldK L a = k + ldK (L.drop k) a) (hge : ¬ x.1 < a) : ldK L a = k := by
  obtain ⟨hk, rfl⟩ := List.getElem?_eq_some_iff.1 hx
  rw [h, List.drop_eq_getElem_cons hk, ldK, if_neg hge]; rfl
theorem ldK_end {L : List T5} {a : Int} (h : ldK L a = L.length + ldK (L.drop L.length) a) : ldK L a = L.length := by
  rw [h, List.drop_length]; rfl
def addI (L : List T5) (t : T5) : List T5 := insL L (ldK L t.1) t
def addU (L : List T5) (t : T5) : Bool := tripsB L && okT t && !metB L t && tripsB (addI L t)
def addL (L : List T5) (t : T5) : List T5 := if addU L t then addI L t else []
theorem ad_no {L : List T5} {t : T5} (h : addU L t = false) : addL L t = [] ∧ addU L t = false := by simp [addL, h]
theorem ad_yes {L : List T5} {t : T5} (h : addU L t = true) : addL L t = addI L t ∧ addU L t = true := by simp [addL, h]
theorem ad_n1 {L : List T5} {t : T5} (h : tripsB L = false) : addL L t = [] ∧ addU L t = false := ad_no (by simp [addU, h])
theorem ad_n2 {L : List T5} {t : T5} (h : okT t = false) : addL L t = [] ∧ addU L t = false := ad_no (by simp [addU, h])
theorem ad_n3 {L : List T5} {t : T5} (h : metB L t = true) : addL L t = [] ∧ addU L t = false := ad_no (by simp [addU, h])
theorem ad_n4 {L : List T5} {t : T5} (h : tripsB (addI L t) = false) : addL L t = [] ∧ addU L t = false := ad_no (by simp [addU, h])
theorem ad_y {L : List T5} {t : T5} (h1 : tripsB L = true) (h2 : okT t = true) (h3 : metB L t = false) (h4 : tripsB (addI L t) = true) : addL L t = addI L t ∧ addU L t = true := ad_yes (by simp [addU, h1, h2, h3, h4])
theorem addI_len (L : List T5) (t : T5) : (addI L t).length = L.length + 1 := insL_len (ldK_le _ _)
theorem addI_ok {L : List T5} {t : T5} (h : tripsB (addI L t) = true) : okT t = true := by
  obtain ⟨k, hk, e⟩ := List.getElem_of_mem (mem_insL (L := L) (i := ldK L t.1) (x := t))
  have := tripsB_one h (List.getElem?_eq_getElem hk)
  rw [e] at this
  exact this
theorem okT_tr {t : T5} (h : okT t = true) : TrOk t := TrOk.of h
theorem addI_all {L : List T5} {t : T5} (hL : ∀ x ∈ L, InI5 x) (ht : InI5 t) : ∀ x ∈ addI L t, InI5 x := fun x hx => by
  rcases insL_mem hx with h | rfl
  · exact hL x h
  · exact ht
theorem addL_len (L : List T5) (t : T5) : (addL L t).length ≤ L.length + 1 := by
  unfold addL
  split
  · rw [addI_len]; exact Nat.le_refl _
  · simp
theorem addL_le (L : List T5) (t : T5) : (addL L t).length ≤ 10 := by
  unfold addL
  split
  · rename_i h
    simp only [addU, Bool.and_eq_true] at h
    exact tripsB_len h.2
  · simp
end Go.Proofs.Ytfcmfadkkfkidaa
