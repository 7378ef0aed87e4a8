/- A row that the loop owns, whose elements' own blocks are the call's own too and not the row's. -/
import Derived.Test.YtfeghobfkgimfaaTreeT
import Derived.Deep.OwnRows
namespace Go.Proofs.Ytfeghobfkgimfaa
set_option linter.unusedSimpArgs false
set_option linter.unusedVariables false
open Go.RowKit Go.Shelf

/-- The call's own, and not this slice's row. -/
def far (base : Nat) (v : Value) : Nat → Prop := fun g => base ≤ g ∧ some g ≠ v.ownBlock
def flat (n : Nat) (C : Nat → List Value) : List Value := ((List.range n).map C).flatten
theorem flat_zero (C : Nat → List Value) : flat 0 C = [] := rfl
theorem flat_succ (n : Nat) (C : Nat → List Value) : flat (n + 1) C = flat n C ++ C n := by simp [flat, List.range_succ]
theorem flat_congr {n : Nat} {C D : Nat → List Value} (h : ∀ i, i < n → C i = D i) : flat n C = flat n D := by
  induction n with
  | zero => rfl
  | succ n ih => rw [flat_succ, flat_succ, ih (fun i hi => h i (by omega)), h n (by omega)]
theorem flat_len {n sz : Nat} {C : Nat → List Value} (h : ∀ i, i < n → (C i).length = sz) : (flat n C).length = n * sz := by
  induction n with
  | zero => simp [flat_zero]
  | succ n ih => rw [flat_succ, List.length_append, ih (fun i hi => h i (by omega)), h n (by omega), Nat.succ_mul]
theorem flat_at {n sz : Nat} {C : Nat → List Value} (h : ∀ i, i < n → (C i).length = sz) (i j : Nat) (hi : i < n) (hj : j < sz) : (flat n C)[i * sz + j]? = (C i)[j]? := by
  induction n with
  | zero => omega
  | succ n ih =>
    rw [flat_succ]
    have hl := flat_len (n := n) (fun i hi => h i (by omega))
    by_cases hin : i < n
    · have : i * sz + j < n * sz := by
        have := Nat.mul_le_mul_right sz (Nat.succ_le_of_lt hin)
        rw [Nat.succ_mul] at this; omega
      rw [List.getElem?_append_left (by omega)]
      exact ih (fun i hi => h i (by omega)) hin
    · obtain rfl : i = n := by omega
      rw [List.getElem?_append_right (by omega), hl, Nat.add_sub_cancel_left]

structure RowO (w : World) (base : Nat) (e : TypeId) (sz : Nat) (v : Value) (n : Nat) (C : Nat → List Value) (G : Mem → Nat → List Value → Prop) : Prop where
  own : w.ownsRow base e sz v n (flat n C)
  good : ∀ i, i < n → G (memX w (far base v)) i (C i)
  len : ∀ i, i < n → (C i).length = sz

theorem RowO.nil (w : World) (base : Nat) (e : TypeId) (sz : Nat) (C : Nat → List Value) (G : Mem → Nat → List Value → Prop) : RowO w base e sz (.slice none 0 0) 0 C G :=
  ⟨⟨by simp [flat_zero], .inl ⟨rfl, rfl⟩⟩, fun _ h => by omega, fun _ h => by omega⟩

theorem ownB_lt {w : World} {base : Nat} {e : TypeId} {size : Nat} {v : Value} {n : Nat} {xs : List Value} (h : w.ownsRow base e size v n xs) {g : Nat} (hg : v.ownBlock = some g) : base ≤ g ∧ g < w.heap.size := by
  rcases h.2 with ⟨rfl, _⟩ | ⟨g', cap, cur, rfl, hb, hg', _⟩
  · cases hg
  · obtain rfl : g' = g := by simpa [Value.ownBlock] using hg
    exact ⟨hb, (Array.getElem?_eq_some_iff.1 hg').1⟩

/-- The row at another world: what lies below is as it was. -/
theorem RowO.below {w w2 : World} {base : Nat} {e : TypeId} {sz : Nat} {v : Value} {n : Nat} {C : Nat → List Value} {G : Mem → Nat → List Value → Prop} (hG : ∀ m m' i cs, Mem.le m m' → G m i cs → G m' i cs)
    (h : RowO w base e sz v n C G) (hb : Below w.heap.size w w2) : RowO w2 base e sz v n C G := by
  refine ⟨⟨h.own.1, ?_⟩, fun i hi => hG _ _ _ _ (memX_le_X fun g hg hx => ⟨hx, hb.block g hg⟩) (h.good i hi), h.len⟩
  rcases h.own.2 with h0 | ⟨g, cap, cur, hv, hbg, hg, r⟩
  · exact .inl h0
  · exact .inr ⟨g, cap, cur, hv, hbg, (hb.block g (Array.getElem?_eq_some_iff.1 hg).1).trans hg, r⟩

theorem RowO.push {w w2 w3 : World} {base : Nat} {e : TypeId} {sz : Nat} {v : Value} {n : Nat} {C : Nat → List Value} {G : Mem → Nat → List Value → Prop} (hG : ∀ m m' i cs, Mem.le m m' → G m i cs → G m' i cs)
    (h : RowO w base e sz v n C G) (hb : Below w.heap.size w w2) (hbase : base ≤ w.heap.size) {cs : List Value} (hc : G (memX w2 (w.heap.size ≤ ·)) n cs) (hl : cs.length = sz)
    {g cap : Nat} (hown : w3.ownsRow base e sz (.slice (some ⟨g, 0, none⟩) (n + 1) cap) (n + 1) (flat n C ++ cs)) (hgr : w2.grownBy w3 v.ownBlock) (hat : v.ownBlock = some g ∨ g = w2.heap.size) :
    RowO w3 base e sz (.slice (some ⟨g, 0, none⟩) (n + 1) cap) (n + 1) (fun i => if i = n then cs else C i) G := by
  have hv : Value.ownBlock (.slice (some ⟨g, 0, none⟩) (n + 1) cap) = some g := rfl
  have hz := hb.size
  have e1 : flat (n + 1) (fun i => if i = n then cs else C i) = flat n C ++ cs := by
    rw [flat_succ, if_pos rfl, flat_congr (D := C) (fun i hi => if_neg (by omega))]
  refine ⟨by rw [e1]; exact hown, fun i hi => ?_, fun i hi => ?_⟩
  · by_cases hin : i = n
    · subst hin
      simp only [if_pos]
      refine hG _ _ _ _ (memX_le_X fun g' hg' hx => ⟨⟨Nat.le_trans hbase hx, ?_⟩, hgr.block g' hg' ?_⟩) hc
      · rw [hv]
        intro he
        have he' : g' = g := by simpa using he
        rcases hat with ha | ha
        · have := (ownB_lt h.own ha).2
          omega
        · omega
      · intro he
        have := (ownB_lt h.own he.symm).2
        omega
    · simp only [if_neg hin]
      refine hG _ _ _ _ (memX_le_X fun g' hg' hx => ⟨⟨hx.1, ?_⟩, (hgr.block g' (by omega) hx.2).trans (hb.block g' hg')⟩) (h.good i (by omega))
      rw [hv]
      intro he
      have he' : g' = g := by simpa using he
      rcases hat with ha | ha
      · exact hx.2 (by rw [ha, he'])
      · omega
  · by_cases hin : i = n
    · simp only [if_pos hin]; exact hl
    · simp only [if_neg hin]; exact h.len i (by omega)

/-- The row, as a slice in the call's own memory. -/
theorem RowO.slice {w : World} {base : Nat} {e : TypeId} {sz : Nat} {v : Value} {n : Nat} {C : Nat → List Value} {G : Mem → Nat → List Value → Prop} (hG : ∀ m m' i cs, Mem.le m m' → G m i cs → G m' i cs)
    (h : RowO w base e sz v n C G) : ∃ A c, v = .slice A n c ∧ (n ≤ c ∧ c ≤ maxLen) ∧ SlAt (memX w (base ≤ ·)) sz A n C ∧ ∀ i, i < n → G (memX w (base ≤ ·)) i (C i) := by
  have hg : ∀ i, i < n → G (memX w (base ≤ ·)) i (C i) := fun i hi => hG _ _ _ _ (memX_le_X fun g _ hx => ⟨hx.1, rfl⟩) (h.good i hi)
  rcases h.own.2 with ⟨rfl, rfl⟩ | ⟨g, cap, cur, rfl, hbg, hgb, h1, h2, h3, h4⟩
  · exact ⟨none, 0, rfl, ⟨Nat.le_refl _, Nat.zero_le _⟩, fun h0 => by omega, hg⟩
  · refine ⟨_, cap, rfl, ⟨h1, h2⟩, fun _ => ⟨g, 0, rfl, fun i hi j hj => ?_⟩, hg⟩
    unfold memX
    rw [if_pos hbg, cell_of_row w g _ _ _ _ hgb, Nat.zero_add, ← flat_at h.len i j hi hj, ← h4, List.getElem?_take_of_lt, Array.getElem?_toList]
    have := Nat.mul_le_mul_right sz (Nat.succ_le_of_lt hi)
    rw [Nat.succ_mul] at this; omega
end Go.Proofs.Ytfeghobfkgimfaa
