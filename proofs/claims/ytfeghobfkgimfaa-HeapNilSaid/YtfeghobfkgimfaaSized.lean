/- What a datum's parts take: each within the reach. -/
import Derived.ProofKit
import Derived.OpenShut
import Derived.SizedLaws
import Derived.Deep.Slices
import Derived.ChangeSame
namespace Go.Proofs.Ytfeghobfkgimfaa
open Go.ChangeShapes Go.WideShapes Go.ChangeAt Go.RowKit Go.Deep

/-- Every string and slice of a datum takes no more than there is. -/
def Szd {H : Type} (P : Program) (t : TypeId) (d : DataW H) : Prop := (DataW.weights P t d).all (· ≤ reachBytes) = true

theorem szd_string {H : Type} {P : Program} {t : TypeId} {l : List UInt8} (h : Szd (H := H) P t (.lit (.string l))) : l.length ≤ 140737488351232 := by
  simp [Szd, DataW.weights, reachBytes] at h
  exact of_decide_eq_true h
theorem szd_all {H : Type} {P : Program} {e : TypeId} : ∀ {l : List (DataW H)}, (DataW.weightsAll P e l).all (· ≤ reachBytes) = true → ∀ d ∈ l, Szd P e d := by
  intro l
  induction l with
  | nil => intro _ d hd; cases hd
  | cons x r ih =>
    intro h d hd
    simp only [DataW.weightsAll, List.all_append, Bool.and_eq_true] at h
    rcases List.mem_cons.1 hd with rfl | hd
    · exact h.1
    · exact ih h.2 d hd
theorem szd_slice {H : Type} {P : Program} {t e : TypeId} {l r : List (DataW H)} (ht : P.underlying t = some (.slice e)) (h : Szd P t (.slice l r)) : (l.length + r.length) * P.bytesOf e ≤ 140737488351232 ∧ ∀ d ∈ l, Szd P e d := by
  simp only [Szd, DataW.weights, ht, List.all_cons, List.all_append, Bool.and_eq_true, decide_eq_true_eq] at h
  exact ⟨h.1, szd_all h.2.1⟩
theorem szd_each {H : Type} {P : Program} : ∀ {ts : List TypeId} {l : List (DataW H)}, (DataW.weightsEach P ts l).all (· ≤ reachBytes) = true → ∀ (i : Nat) t d, ts[i]? = some t → l[i]? = some d → Szd P t d := by
  intro ts
  induction ts with
  | nil => intro l _ i t d ht; simp at ht
  | cons a ts ih =>
    intro l h i t d ht hd
    cases l with
    | nil => simp at hd
    | cons x l =>
      simp only [DataW.weightsEach, List.all_append, Bool.and_eq_true] at h
      cases i with
      | zero =>
        simp at ht hd
        subst ht hd
        exact h.1
      | succ i => exact ih h.2 i t d (by simpa using ht) (by simpa using hd)
theorem szd_struct {H : Type} {P : Program} {t : TypeId} {fs : Array Field} {l : List (DataW H)} (ht : P.underlying t = some (.struct fs)) (h : Szd P t (.agg l)) (i : Nat) (f : Field) (d : DataW H) (hf : fs[i]? = some f) (hd : l[i]? = some d) : Szd P f.type d := by
  simp only [Szd, DataW.weights, ht] at h
  refine szd_each h i f.type d ?_ hd
  rw [List.getElem?_map, Array.getElem?_toList, hf]; rfl
end Go.Proofs.Ytfeghobfkgimfaa
