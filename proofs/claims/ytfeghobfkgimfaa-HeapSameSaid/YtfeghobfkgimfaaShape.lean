/- The shape of a heap from its roots, as a list of numbers: that a collected heap has the same. No program here. -/
import Derived.Test.YtfeghobfkgimfaaHp
namespace Go.Proofs.Ytfeghobfkgimfaa

/-- A walk that is over goes no further. -/
theorem bfs_more (lk : Nat → Nat) (args : Nat → List Nat) : ∀ (f i : Nat) (met : List Nat) (acc : List (List Nat)), acc.length = i →
    (bfs lk args f i met acc).2.length = (bfs lk args f i met acc).1.length → bfs lk args (f + 1) i met acc = bfs lk args f i met acc := by
  intro f
  induction f with
  | zero =>
    intro i met acc ha h
    simp only [bfs] at h ⊢
    rw [dif_neg (by omega)]
  | succ f ih =>
    intro i met acc ha h
    by_cases hi : i < met.length
    · have e : bfs lk args (f + 1) i met acc = bfs lk args f (i + 1) (meetAll met ((args met[i]).map lk)).2 (acc ++ [(meetAll met ((args met[i]).map lk)).1]) := by
        simp only [bfs, hi, dif_pos]
      have e2 : bfs lk args (f + 1 + 1) i met acc = bfs lk args (f + 1) (i + 1) (meetAll met ((args met[i]).map lk)).2 (acc ++ [(meetAll met ((args met[i]).map lk)).1]) := by
        conv => lhs; unfold bfs
        simp only [hi, dif_pos]
      rw [e] at h ⊢
      rw [e2]
      exact ih (i + 1) _ _ (by simp; omega) h
    · rw [bfs_stop _ _ _ _ _ _ (by omega), bfs_stop _ _ _ _ _ _ (by omega)]
theorem bfs_fuel (lk : Nat → Nat) (args : Nat → List Nat) (f k : Nat) (met : List Nat) (h : (bfs lk args f 0 met []).2.length = (bfs lk args f 0 met []).1.length) : bfs lk args (f + k) 0 met [] = bfs lk args f 0 met [] := by
  induction k with
  | zero => rfl
  | succ k ih => rw [← Nat.add_assoc, bfs_more lk args (f + k) 0 met [] rfl (by rw [ih]; exact h), ih]

def nats (l : List Nat) : List Int := l.map (fun x : Nat => (x : Int))

/-- What shape writes: the roots' numbers; of each place met: -1, kind, number, its args' numbers. -/
def rows (nd : Nat → Nd) (M : List Nat) (acc : List (List Nat)) (i : Nat) : List Int :=
  ((List.range i).map fun j => (-1 : Int) :: (nd (M.getD j 0)).1 :: (nd (M.getD j 0)).2.1 :: nats (acc.getD j [])).flatten
def shapeOf (nd : Nat → Nd) (ix : List Nat) (M : List Nat) (acc : List (List Nat)) : List Int := nats ix ++ rows nd M acc M.length

theorem rows_succ (nd : Nat → Nd) (M : List Nat) (acc : List (List Nat)) (i : Nat) : rows nd M acc (i + 1) = rows nd M acc i ++ ((-1 : Int) :: (nd (M.getD i 0)).1 :: (nd (M.getD i 0)).2.1 :: nats (acc.getD i [])) := by
  unfold rows; rw [List.range_succ, List.map_append, List.flatten_append]; simp
theorem rows_ext (nd : Nat → Nd) (M r : List Nat) (acc s : List (List Nat)) (i : Nat) (h1 : i ≤ M.length) (h2 : i ≤ acc.length) : rows nd (M ++ r) (acc ++ s) i = rows nd M acc i := by
  unfold rows
  congr 1
  apply List.map_congr_left
  intro j hj
  have hj' : j < i := List.mem_range.1 hj
  have e1 : (M ++ r).getD j 0 = M.getD j 0 := by simp only [List.getD_eq_getElem?_getD]; rw [List.getElem?_append_left (by omega)]
  have e2 : (acc ++ s).getD j [] = acc.getD j [] := by simp only [List.getD_eq_getElem?_getD]; rw [List.getElem?_append_left (by omega)]
  rw [e1, e2]

/-- A collected heap has the shape that it had. -/
theorem shape_same (lk : Nat → Nat) (sz : Nat → Nat) (nd : Nat → Nd) (rs M : List Nat) (acc : List (List Nat)) (F : Nat) (h2 : ∀ p ∈ M, 2 ≤ sz p) (hacc : acc.length = M.length)
    (hb : bfs lk (argsOf nd) F 0 (meetAll [] (rs.map lk)).2 [] = (M, acc)) (hlt : ∀ l ∈ acc, ∀ x ∈ l, x < M.length) :
    meetAll [] (((meetAll [] (rs.map lk)).1.map (AX sz M)).map id) = ((meetAll [] (rs.map lk)).1, nums (AX sz M) (meetAll [] (rs.map lk)).2.length) ∧
    bfs id (argsOf (newNd sz nd M acc)) F 0 (nums (AX sz M) (meetAll [] (rs.map lk)).2.length) [] = (newL sz M, acc) ∧
    shapeOf (newNd sz nd M acc) (meetAll [] (rs.map lk)).1 (newL sz M) acc = shapeOf nd (meetAll [] (rs.map lk)).1 M acc := by
  have hinj := AX_inj sz M h2
  have hnd : ∀ j, j < M.length → newNd sz nd M acc (AX sz M j) = ((nd M[j]!).1, (nd M[j]!).2.1, (acc.getD j []).map (AX sz M)) := fun j hj => by
    unfold newNd; rw [newL_idx h2 j hj]; simp [hj]
  refine ⟨?_, ?_, ?_⟩
  · have := meetAll_nums (AX sz M) hinj [] (rs.map lk)
    rw [List.map_id]
    exact this
  · have := bfs_nums lk (argsOf nd) (AX sz M) hinj (argsOf (newNd sz nd M acc)) F 0 (meetAll [] (rs.map lk)).2 [] rfl (by
      rw [hb]
      intro j hj
      have hj' : j < M.length := by rw [← hacc]; exact hj
      show (newNd sz nd M acc (AX sz M j)).2.2 = _
      rw [hnd j hj']
      simp at hj
      simp [hj])
    rw [this, hb]
    rfl
  · unfold shapeOf
    rw [newL_length]
    congr 1
    unfold rows
    congr 1
    apply List.map_congr_left
    intro j hj
    have hj' : j < M.length := List.mem_range.1 hj
    have e : (newL sz M).getD j 0 = AX sz M j := by
      have : j < (newL sz M).length := by rw [newL_length]; exact hj'
      simp only [List.getD_eq_getElem?_getD, List.getElem?_eq_getElem this, Option.getD_some]
      exact nums_get _ _ _ _
    have e2 : M.getD j 0 = M[j]! := by simp [hj']
    rw [e, hnd j hj', e2]
end Go.Proofs.Ytfeghobfkgimfaa
