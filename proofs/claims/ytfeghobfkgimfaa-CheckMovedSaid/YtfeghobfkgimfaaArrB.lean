/- A block that is written whole, cell by cell. -/
import Derived.Test.YtfeghobfkgimfaaKit
import Derived.Deep.MidRow
namespace Go.Proofs.Ytfeghobfkgimfaa
open Go.RowKit

theorem blk_setCells_some {g : Nat} {t : TypeId} (vs : List Value) : ∀ {w : World} {cs : Array Value} (o : Nat), Blk w g t cs → ∃ cs', Blk (w.setCells g o vs) g t cs' ∧ cs'.size = cs.size := by
  induction vs with
  | nil => intro w cs o h; exact ⟨cs, h, rfl⟩
  | cons v vs ih =>
    intro w cs o h
    obtain ⟨cs', h1, h2⟩ := ih (o + 1) (h.set_ o v)
    exact ⟨cs', h1, by rw [h2]; simp⟩
theorem Blk.there {w : World} {g : Nat} {t : TypeId} {cs : Array Value} (h : Blk w g t cs) (n : Nat) (hn : n ≤ cs.size) : w.there g 0 n := fun j hj =>
  ⟨by rw [Nat.zero_add, h.cell j, Array.getElem?_eq_getElem (by omega)]; rfl, h.frozen _⟩
theorem blk_setCells {w : World} {g : Nat} {t : TypeId} {cs : Array Value} (h : Blk w g t cs) (new : Array Value) (hl : new.size = cs.size) : Blk (w.setCells g 0 new.toList) g t new := by
  obtain ⟨cs', h1, h2⟩ := blk_setCells_some new.toList 0 h
  have hr := World.rangeAt_setCells_same w g 0 new.toList (h.there _ (by simp; omega))
  have e : cs' = new := by
    apply Array.ext
    · omega
    · intro i hi hi'
      have := hr i new[i] (by simp [hi'])
      rw [Nat.zero_add, h1.cell i, Array.getElem?_eq_getElem hi] at this
      injection this
  subst e; exact h1
theorem turns_setCells {g : Nat} (vs : List Value) : ∀ {a w : World} {S : Nat → Prop} (o : Nat), Turns S a w → S g → Turns S a (w.setCells g o vs) := by
  induction vs with
  | nil => intro a w S o h _; exact h
  | cons v vs ih => intro a w S o h hS; exact ih (o + 1) (turns_set h hS v) hS
theorem below_setCells {g : Nat} (vs : List Value) : ∀ {B : Nat} {a w : World} (o : Nat), Below B a w → B ≤ g → Below B a (w.setCells g o vs) := by
  induction vs with
  | nil => intro B a w o h _; exact h
  | cons v vs ih => intro B a w o h hB; exact ih (o + 1) (below_set h hB v) hB
end Go.Proofs.Ytfeghobfkgimfaa
