/- A row that the loop owns, whose elements' own blocks are some chosen ones (X) and not the row's. -/
import Derived.Test.YtfeghobfkgimfaaTreeY
namespace Go.Proofs.Ytfeghobfkgimfaa
set_option linter.unusedSimpArgs false
set_option linter.unusedVariables false
open Go.RowKit Go.Shelf

/-- Chosen, and not this slice's row. -/
def farX (X : Nat → Prop) (v : Value) : Nat → Prop := fun g => X g ∧ some g ≠ v.ownBlock
structure RowX (w : World) (X : Nat → Prop) (base : Nat) (e : TypeId) (sz : Nat) (v : Value) (n : Nat) (C : Nat → List Value) (G : Mem → Nat → List Value → Prop) : Prop where
  own : w.ownsRow base e sz v n (flat n C)
  good : ∀ i, i < n → G (memX w (farX X v)) i (C i)
  len : ∀ i, i < n → (C i).length = sz

section
variable {w w2 w3 : World} {X Y : Nat → Prop} {base : Nat} {e : TypeId} {sz : Nat} {v : Value} {n : Nat} {C : Nat → List Value} {G : Mem → Nat → List Value → Prop}
theorem RowX.nil (w : World) (X : Nat → Prop) (base : Nat) (e : TypeId) (sz : Nat) (C : Nat → List Value) (G : Mem → Nat → List Value → Prop) : RowX w X base e sz (.slice none 0 0) 0 C G :=
  ⟨⟨by simp [flat_zero], .inl ⟨rfl, rfl⟩⟩, fun _ h => by omega, fun _ h => by omega⟩

/-- The row at another world: the chosen blocks and the row are as they were. -/
theorem RowX.same (hG : ∀ m m' i cs, Mem.le m m' → G m i cs → G m' i cs) (h : RowX w X base e sz v n C G)
    (hs : ∀ g, g < w.heap.size → X g ∨ some g = v.ownBlock → w2.heap[g]? = w.heap[g]?) : RowX w2 X base e sz v n C G := by
  refine ⟨⟨h.own.1, ?_⟩, fun i hi => hG _ _ _ _ (memX_le_X fun g hg hx => ⟨hx, hs g hg (.inl hx.1)⟩) (h.good i hi), h.len⟩
  rcases h.own.2 with h0 | ⟨g, cap, cur, hv, hbg, hg, r⟩
  · exact .inl h0
  · exact .inr ⟨g, cap, cur, hv, hbg, (hs g (Array.getElem?_eq_some_iff.1 hg).1 (.inr (by rw [hv]; rfl))).trans hg, r⟩
theorem RowX.below (hG : ∀ m m' i cs, Mem.le m m' → G m i cs → G m' i cs) (h : RowX w X base e sz v n C G) (hb : Below w.heap.size w w2) : RowX w2 X base e sz v n C G :=
  h.same hG fun g hg _ => hb.block g hg

/-- One more element: its own blocks were made behind the row's world. -/
theorem RowX.push (hG : ∀ m m' i cs, Mem.le m m' → G m i cs → G m' i cs)
    (h : RowX w X base e sz v n C G) (hb : Below w.heap.size w w2) (hX : ∀ g, w.heap.size ≤ g → X g) {cs : List Value} (hc : G (memX w2 (w.heap.size ≤ ·)) n cs) (hl : cs.length = sz)
    {g cap : Nat} (hown : w3.ownsRow base e sz (.slice (some ⟨g, 0, none⟩) (n + 1) cap) (n + 1) (flat n C ++ cs)) (hgr : w2.grownBy w3 v.ownBlock) (hat : v.ownBlock = some g ∨ g = w2.heap.size) :
    RowX w3 X base e sz (.slice (some ⟨g, 0, none⟩) (n + 1) cap) (n + 1) (fun i => if i = n then cs else C i) G := by
  have hv : Value.ownBlock (.slice (some ⟨g, 0, none⟩) (n + 1) cap) = some g := rfl
  have hz := hb.size
  have e1 : flat (n + 1) (fun i => if i = n then cs else C i) = flat n C ++ cs := by
    rw [flat_succ, if_pos rfl, flat_congr (D := C) (fun i hi => if_neg (by omega))]
  refine ⟨by rw [e1]; exact hown, fun i hi => ?_, fun i hi => ?_⟩
  · by_cases hin : i = n
    · subst hin
      simp only [if_pos]
      refine hG _ _ _ _ (memX_le_X fun g' hg' hx => ⟨⟨hX g' hx, ?_⟩, hgr.block g' hg' ?_⟩) hc
      · rw [hv]
        intro he
        have he' : g' = g := by simpa using he
        rcases hat with ha | ha
        · have := (ownB_lt h.own ha).2
          omega
        · omega
      · intro he
        have := (ownB_lt h.own he.symm).2
        omega
    · simp only [if_neg hin]
      refine hG _ _ _ _ (memX_le_X fun g' hg' hx => ⟨⟨hx.1, ?_⟩, (hgr.block g' (by omega) hx.2).trans (hb.block g' hg')⟩) (h.good i (by omega))
      rw [hv]
      intro he
      have he' : g' = g := by simpa using he
      rcases hat with ha | ha
      · exact hx.2 (by rw [ha, he'])
      · omega
  · by_cases hin : i = n
    · simp only [if_pos hin]; exact hl
    · simp only [if_neg hin]; exact h.len i (by omega)

/-- The row, as a slice in a larger memory. -/
theorem RowX.slice (hG : ∀ m m' i cs, Mem.le m m' → G m i cs → G m' i cs)
    (h : RowX w X base e sz v n C G) (hY : ∀ g, X g → Y g) (hYb : ∀ g, base ≤ g → v.ownBlock = some g → Y g) : ∃ A c, v = .slice A n c ∧ (n ≤ c ∧ c ≤ maxLen) ∧ SlAt (memX w Y) sz A n C ∧ ∀ i, i < n → G (memX w Y) i (C i) := by
  have hg : ∀ i, i < n → G (memX w Y) i (C i) := fun i hi => hG _ _ _ _ (memX_le_X fun g _ hx => ⟨hY g hx.1, rfl⟩) (h.good i hi)
  rcases h.own.2 with ⟨rfl, rfl⟩ | ⟨g, cap, cur, rfl, hbg, hgb, h1, h2, h3, h4⟩
  · exact ⟨none, 0, rfl, ⟨Nat.le_refl _, Nat.zero_le _⟩, fun h0 => by omega, hg⟩
  · refine ⟨_, cap, rfl, ⟨h1, h2⟩, fun _ => ⟨g, 0, rfl, fun i hi j hj => ?_⟩, hg⟩
    unfold memX
    rw [if_pos (hYb g hbg rfl), cell_of_row w g _ _ _ _ hgb, Nat.zero_add, ← flat_at h.len i j hi hj, ← h4, List.getElem?_take_of_lt, Array.getElem?_toList]
    have := Nat.mul_le_mul_right sz (Nat.succ_le_of_lt hi)
    rw [Nat.succ_mul] at this; omega
end
end Go.Proofs.Ytfeghobfkgimfaa
