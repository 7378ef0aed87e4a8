/- Collect once and again: what comes out. Plain lists; then the heap's contracts as HeapSame uses them. -/
import Derived.Test.YtfeghobfkgimfaaShapeW
namespace Go.Proofs.Ytfeghobfkgimfaa
open Go.RowKit

theorem bfs_le (lk : Nat → Nat) (args : Nat → List Nat) : ∀ (f i : Nat) (met : List Nat) (acc : List (List Nat)), met.length ≤ (bfs lk args f i met acc).1.length := by
  intro f
  induction f with
  | zero => intro i met acc; exact Nat.le_refl _
  | succ f ih =>
    intro i met acc
    by_cases h : i < met.length
    · simp only [bfs, h, dif_pos]
      obtain ⟨r, hr⟩ := meetAll_prefix met ((args met[i]).map lk)
      refine Nat.le_trans ?_ (ih (i + 1) _ _)
      rw [hr]; simp
    · rw [bfs_stop _ _ _ _ _ _ (by omega)]; exact Nat.le_refl _

/-- A walk that was over needs no more rounds than there are places. -/
theorem bfs_less (lk : Nat → Nat) (args : Nat → List Nat) (M : List Nat) (a : List (List Nat)) (hM : a.length = M.length) : ∀ (f i : Nat) (met : List Nat) (acc : List (List Nat)), acc.length = i → bfs lk args f i met acc = (M, a) →
    ∀ f', M.length ≤ f' + i → bfs lk args f' i met acc = (M, a) := by
  intro f
  induction f with
  | zero =>
    intro i met acc ha h f' _
    simp only [bfs] at h
    injection h with h1 h2
    subst h1 h2
    rw [bfs_stop _ _ _ _ _ _ (by omega)]
  | succ f ih =>
    intro i met acc ha h f' hf
    by_cases hi : i < met.length
    · have hle := bfs_le lk args (f + 1) i met acc
      rw [h] at hle
      have hle' : met.length ≤ M.length := hle
      obtain ⟨g, rfl⟩ : ∃ g, f' = g + 1 := ⟨f' - 1, by omega⟩
      simp only [bfs, hi, dif_pos] at h ⊢
      exact ih (i + 1) _ _ (by simp; omega) h g (by omega)
    · rw [bfs_stop _ _ _ _ _ _ (by omega)] at h ⊢
      exact h

section
variable {L rs M ix M0 : List Nat} {acc : List (List Nat)} {sz lk : Nat → Nat} {nd : Nat → Nd} {F : Nat}

theorem adrs_AX (h : ∀ x ∈ ix, x < M.length) : adrs sz M ix = ints (ix.map (AX sz M)) := by
  unfold adrs ints
  rw [List.map_map]
  apply List.map_congr_left
  intro x hx
  simp only [Function.comp]
  rw [AX_in sz M x (by have := h x hx; omega)]

/-- Behind one Collect. -/
theorem coll_once (h2 : ∀ p ∈ M, 2 ≤ sz p) (h0 : meetAll [] (rs.map lk) = (ix, M0)) (hacc : acc.length = M.length) (hb : bfs lk (argsOf nd) F 0 M0 [] = (M, acc)) (hlt : ∀ l ∈ acc, ∀ x ∈ l, x < M.length) :
    meetAll [] ((ix.map (AX sz M)).map id) = (ix, nums (AX sz M) M0.length) ∧ bfs id (argsOf (newNd sz nd M acc)) ((newL sz M).length + 1) 0 (nums (AX sz M) M0.length) [] = (newL sz M, acc) ∧
    shapeOf (newNd sz nd M acc) ix (newL sz M) acc = shapeOf nd ix M acc := by
  have e1 : (meetAll [] (rs.map lk)).1 = ix := by rw [h0]
  have e2 : (meetAll [] (rs.map lk)).2 = M0 := by rw [h0]
  obtain ⟨a1, a2, a3⟩ := shape_same lk sz nd rs M acc F h2 hacc (by rw [e2]; exact hb) hlt
  rw [e1, e2] at a1
  rw [e2] at a2
  rw [e1] at a3
  exact ⟨a1, bfs_less id _ _ _ (by rw [newL_length]; exact hacc) F 0 _ [] rfl a2 _ (by omega), a3⟩

theorem Adr_new (h2 : ∀ p ∈ M, 2 ≤ sz p) (x : Nat) : Adr (newSz sz M) (newL sz M) x = Adr sz M x := by
  unfold Adr
  rw [List.map_take, List.map_take, newSz_map h2]
theorem adrs_new (h2 : ∀ p ∈ M, 2 ≤ sz p) : adrs (newSz sz M) (newL sz M) ix = adrs sz M ix := by
  unfold adrs
  apply List.map_congr_left
  intro x _
  rw [Adr_new h2]
theorem new_two (h2 : ∀ p ∈ M, 2 ≤ sz p) : ∀ p ∈ newL sz M, 2 ≤ newSz sz M p := (newTiles h2).two
theorem AX_newL (h : ∀ x ∈ ix, x < M.length) : ∀ p ∈ ix.map (AX sz M), p ∈ newL sz M := fun p hp => by
  obtain ⟨x, hx, rfl⟩ := List.mem_map.1 hp
  exact newL_in (h x hx)
end

/-- A slice of ints that the call made, as an argument. -/
theorem own_arg {w : World} {B b cb gb : Nat} {v : Value} {n : Nat} {xs : List Int} (h : w.ownsRow B 3 1 v n (xs.map (Value.int .i64))) (hn : n = xs.length) (h1 : b < B) (h2 : cb < B) (h3 : gb < B) : ∃ A cap, v = .slice A xs.length cap ∧ IntSl (In3 b cb gb) w A cap xs := by
  obtain ⟨A, cap, hv, hsl⟩ := ints_own hn h
  exact ⟨A, cap, hv, hsl.1, fun h0 => by
    obtain ⟨g, o, ha, hg, hs, hx⟩ := hsl.2 h0
    exact ⟨g, o, ha, hg, by rintro (e | e | e) <;> omega, hx⟩⟩
end Go.Proofs.Ytfeghobfkgimfaa
