/- A row of marks cleared; two rooms swapped. -/
import Derived.Test.YtfeghobfkgimfaaCollC
import Derived.Lib.SliceRun
namespace Go.Proofs.Ytfeghobfkgimfaa
open Go.RowKit

def cleared (G : Nat → Bool) (o m : Nat) : Nat → Bool := fun i => if o ≤ i ∧ i < o + m then false else G i

section
variable {w0 w : World} {b cb gb N : Nat} {top : Nat → Value} {C : Nat → Int}
theorem HRows.clear : ∀ (m o : Nat) (w : World) (G : Nat → Bool), HRows w0 w b cb gb N top C G → HRows w0 (w.setCells gb o (List.replicate m (.bool false))) b cb gb N top C (cleared G o m) := by
  intro m
  induction m with
  | zero => intro o w G h; exact h.congr (fun _ _ => rfl) (fun _ _ => rfl) (fun i _ => by unfold cleared; rw [if_neg (by omega)])
  | succ m ih =>
    intro o w G h
    have := ih (o + 1) _ _ (h.setG o false)
    refine this.congr (fun _ _ => rfl) (fun _ _ => rfl) (fun i _ => ?_)
    unfold cleared upd
    by_cases e : i = o
    · subst e; rw [if_neg (by omega), if_pos rfl, if_pos (by omega)]
    · by_cases h1 : o + 1 ≤ i ∧ i < o + 1 + m
      · rw [if_pos h1, if_pos (by omega)]
      · rw [if_neg h1, if_neg e, if_neg (by omega)]
end
theorem zero_run {P : Program} {t : TypeId} {i : TypeInfo} {z : Value} (h : P.info? t = some i) (hz : i.zero = some z) (w : World) : (zeroValue t).run P w = .ok z w := by
  simp [zeroValue, run_typeInfo w h, hz]
theorem topV_swap (cb gb n o1 u1 c1 o2 u2 c2 : Nat) (i : Nat) (hi : i < 9) :
    upd (upd (upd (upd (upd (upd (upd (upd (topV cb gb n o1 u1 c1 o2 u2 c2) 0 (.slice (some ⟨cb, o2, none⟩) n n)) 1 (.slice (some ⟨gb, o2, none⟩) n n)) 2 (.int .i64 u2)) 3 (.int .i64 c2)) 4 (.slice (some ⟨cb, o1, none⟩) n n)) 5 (.slice (some ⟨gb, o1, none⟩) n n)) 6 (.int .i64 u1)) 7 (.int .i64 c1) i
      = topV cb gb n o2 u2 c2 o1 u1 c1 i := by
  match i, hi with
  | 0, _ => rfl
  | 1, _ => rfl
  | 2, _ => rfl
  | 3, _ => rfl
  | 4, _ => rfl
  | 5, _ => rfl
  | 6, _ => rfl
  | 7, _ => rfl
  | 8, _ => rfl
theorem turns_cells (g : Nat) : ∀ (vs : List Value) (o : Nat) (w : World), Turns (fun x => x = g) w (w.setCells g o vs) := by
  intro vs
  induction vs with
  | nil => intro o w; exact Turns.refl _ _
  | cons v vs ih => intro o w; exact (Turns.setCell (S := fun x => x = g) (Turns.refl _ w) (p := ⟨g, o, none⟩) rfl v).trans (ih (o + 1) _)
end Go.Proofs.Ytfeghobfkgimfaa
