/- The walk in the order of meeting: meeting places one by one, and that a heap whose places are renamed in the order of meeting is met alike. No program here. -/
namespace Go.Proofs.Ytfeghobfkgimfaa

/-- A place met: its number, and what has been met. -/
def meetF (met : List Nat) (p : Nat) : Nat × List Nat := if p ∈ met then (met.idxOf p, met) else (met.length, met ++ [p])

/-- Places met one by one. -/
def meetAll (met : List Nat) : List Nat → List Nat × List Nat
  | [] => ([], met)
  | p :: ps => ((meetF met p).1 :: (meetAll (meetF met p).2 ps).1, (meetAll (meetF met p).2 ps).2)

theorem meetAll_append (met ps qs : List Nat) : meetAll met (ps ++ qs) = ((meetAll met ps).1 ++ (meetAll (meetAll met ps).2 qs).1, (meetAll (meetAll met ps).2 qs).2) := by
  induction ps generalizing met with
  | nil => rfl
  | cons p ps ih => simp only [List.cons_append, meetAll, ih]

theorem meetAll_snoc (met ps : List Nat) (p : Nat) : meetAll met (ps ++ [p]) = ((meetAll met ps).1 ++ [(meetF (meetAll met ps).2 p).1], (meetF (meetAll met ps).2 p).2) := by
  rw [meetAll_append]; rfl

theorem meetF_prefix (met : List Nat) (p : Nat) : ∃ r, (meetF met p).2 = met ++ r := by
  unfold meetF; split
  · exact ⟨[], by simp⟩
  · exact ⟨[p], rfl⟩
theorem meetAll_prefix (met ps : List Nat) : ∃ r, (meetAll met ps).2 = met ++ r := by
  induction ps generalizing met with
  | nil => exact ⟨[], by simp [meetAll]⟩
  | cons p ps ih =>
    obtain ⟨r, hr⟩ := meetF_prefix met p
    obtain ⟨r', hr'⟩ := ih (meetF met p).2
    exact ⟨r ++ r', by simp only [meetAll]; rw [hr', hr, List.append_assoc]⟩

theorem meetF_lt (met : List Nat) (p : Nat) : (meetF met p).1 < (meetF met p).2.length := by
  unfold meetF; split
  · rename_i h; exact List.idxOf_lt_length_of_mem h
  · simp
theorem meetF_get (met : List Nat) (p : Nat) : (meetF met p).2[(meetF met p).1]? = some p := by
  unfold meetF; split
  · rename_i h
    simp only
    rw [List.getElem?_eq_getElem (List.idxOf_lt_length_of_mem h), List.getElem_idxOf]
  · simp
theorem meetF_nodup (met : List Nat) (p : Nat) (h : met.Nodup) : (meetF met p).2.Nodup := by
  unfold meetF; split
  · exact h
  · rename_i hp
    rw [List.nodup_append]
    exact ⟨h, by simp, fun a ha b hb => by simp at hb; subst hb; exact fun e => hp (e ▸ ha)⟩
theorem meetF_mem (met : List Nat) (p x : Nat) (h : x ∈ (meetF met p).2) : x ∈ met ∨ x = p := by
  unfold meetF at h; split at h
  · exact .inl h
  · simpa using h
theorem meetAll_nodup (met ps : List Nat) (h : met.Nodup) : (meetAll met ps).2.Nodup := by
  induction ps generalizing met with
  | nil => exact h
  | cons p ps ih => exact ih _ (meetF_nodup met p h)
theorem meetAll_mem (met ps : List Nat) (x : Nat) (h : x ∈ (meetAll met ps).2) : x ∈ met ∨ x ∈ ps := by
  induction ps generalizing met with
  | nil => exact .inl h
  | cons p ps ih =>
    rcases ih _ h with h | h
    · rcases meetF_mem _ _ _ h with h | h
      · exact .inl h
      · exact .inr (by simp [h])
    · exact .inr (by simp [h])
theorem meetAll_length (met ps : List Nat) : (meetAll met ps).1.length = ps.length := by
  induction ps generalizing met with
  | nil => rfl
  | cons p ps ih => simp [meetAll, ih]
theorem meetAll_lt (met ps : List Nat) : ∀ x ∈ (meetAll met ps).1, x < (meetAll met ps).2.length := by
  induction ps generalizing met with
  | nil => simp [meetAll]
  | cons p ps ih =>
    intro x hx
    simp only [meetAll, List.mem_cons] at hx
    obtain ⟨r, hr⟩ := meetAll_prefix (meetF met p).2 ps
    rcases hx with rfl | hx
    · have := meetF_lt met p
      simp only [meetAll]; rw [hr]; simp; omega
    · exact ih _ x hx

/-- The walk: round by round the args of the next place that was met. -/
def bfs (lk : Nat → Nat) (args : Nat → List Nat) : Nat → Nat → List Nat → List (List Nat) → List Nat × List (List Nat)
  | 0, _, met, acc => (met, acc)
  | f + 1, i, met, acc => if h : i < met.length then bfs lk args f (i + 1) (meetAll met ((args met[i]).map lk)).2 (acc ++ [(meetAll met ((args met[i]).map lk)).1]) else (met, acc)

/-! ### The same walk over renamed places -/

def nums (A : Nat → Nat) (m : Nat) : List Nat := (List.range m).map A
theorem nums_length (A : Nat → Nat) (m : Nat) : (nums A m).length = m := by simp [nums]
theorem nums_get (A : Nat → Nat) (m i : Nat) (h : i < (nums A m).length) : (nums A m)[i] = A i := by simp [nums]
theorem nums_succ (A : Nat → Nat) (m : Nat) : nums A (m + 1) = nums A m ++ [A m] := by simp [nums, List.range_succ]

theorem idxOf_nums (A : Nat → Nat) (hA : ∀ i j, A i = A j → i = j) (m i : Nat) (h : i < m) : (nums A m).idxOf (A i) = i := by
  have hm : A i ∈ nums A m := by simp [nums]; exact ⟨i, h, rfl⟩
  have hl := List.idxOf_lt_length_of_mem hm
  have := List.getElem_idxOf hl
  rw [nums_get] at this
  exact hA _ _ this
theorem not_mem_nums (A : Nat → Nat) (hA : ∀ i j, A i = A j → i = j) (m i : Nat) (h : m ≤ i) : A i ∉ nums A m := by
  intro hm
  simp [nums] at hm
  obtain ⟨j, hj, e⟩ := hm
  have := hA _ _ e
  omega

theorem meetF_nums (A : Nat → Nat) (hA : ∀ i j, A i = A j → i = j) (met : List Nat) (p : Nat) :
    meetF (nums A met.length) (A (meetF met p).1) = ((meetF met p).1, nums A (meetF met p).2.length) := by
  by_cases h : p ∈ met
  · have e : meetF met p = (met.idxOf p, met) := if_pos h
    have hlt := List.idxOf_lt_length_of_mem h
    rw [e]
    have hm : A (met.idxOf p) ∈ nums A met.length := by simp [nums]; exact ⟨_, hlt, rfl⟩
    show (if _ then _ else _) = _
    rw [if_pos hm, idxOf_nums A hA _ _ hlt]
  · have e : meetF met p = (met.length, met ++ [p]) := if_neg h
    rw [e]
    show (if _ then _ else _) = _
    rw [if_neg (not_mem_nums A hA _ _ (Nat.le_refl _)), nums_length]
    simp [nums_succ]

theorem meetAll_nums (A : Nat → Nat) (hA : ∀ i j, A i = A j → i = j) (met ps : List Nat) :
    meetAll (nums A met.length) ((meetAll met ps).1.map A) = ((meetAll met ps).1, nums A (meetAll met ps).2.length) := by
  induction ps generalizing met with
  | nil => rfl
  | cons p ps ih =>
    simp only [meetAll, List.map_cons, meetF_nums A hA]
    rw [ih]

/-- What is known when i rounds are over: the walk over the renamed heap has met alike. -/
theorem bfs_nums (lk : Nat → Nat) (args : Nat → List Nat) (A : Nat → Nat) (hA : ∀ i j, A i = A j → i = j) (args' : Nat → List Nat) :
    ∀ (f i : Nat) (met : List Nat) (acc : List (List Nat)), acc.length = i →
      (∀ j (h : j < (bfs lk args f i met acc).2.length), args' (A j) = ((bfs lk args f i met acc).2[j]).map A) →
      bfs id args' f i (nums A met.length) acc = (nums A (bfs lk args f i met acc).1.length, (bfs lk args f i met acc).2) := by
  intro f
  induction f with
  | zero => intro i met acc _ _; rfl
  | succ f ih =>
    intro i met acc hacc hargs
    by_cases h : i < met.length
    · have hb : bfs lk args (f + 1) i met acc = bfs lk args f (i + 1) (meetAll met ((args met[i]).map lk)).2 (acc ++ [(meetAll met ((args met[i]).map lk)).1]) := by
        simp only [bfs, h, dif_pos]
      rw [hb] at hargs ⊢
      have hpre : ∀ (f i : Nat) (met : List Nat) (acc : List (List Nat)), ∃ r, (bfs lk args f i met acc).2 = acc ++ r := by
        intro f
        induction f with
        | zero => intro i met acc; exact ⟨[], by simp [bfs]⟩
        | succ f ih2 =>
          intro i met acc
          by_cases h : i < met.length
          · simp only [bfs, h, dif_pos]
            obtain ⟨r, hr⟩ := ih2 (i + 1) (meetAll met ((args met[i]).map lk)).2 (acc ++ [(meetAll met ((args met[i]).map lk)).1])
            exact ⟨_ :: r, by rw [hr, List.append_assoc]; rfl⟩
          · simp only [bfs, h, dif_neg, not_false_eq_true]
            exact ⟨[], by simp⟩
      obtain ⟨r, hr⟩ := hpre f (i + 1) (meetAll met ((args met[i]).map lk)).2 (acc ++ [(meetAll met ((args met[i]).map lk)).1])
      have hai : args' (A i) = ((meetAll met ((args met[i]).map lk)).1).map A := by
        have hl : i < (bfs lk args f (i + 1) (meetAll met ((args met[i]).map lk)).2 (acc ++ [(meetAll met ((args met[i]).map lk)).1])).2.length := by rw [hr]; simp; omega
        rw [hargs i hl]
        congr 1
        simp only [hr]
        subst hacc
        simp
      have h' : i < (nums A met.length).length := by rw [nums_length]; exact h
      have hn : bfs id args' (f + 1) i (nums A met.length) acc = bfs id args' f (i + 1) (nums A (meetAll met ((args met[i]).map lk)).2.length) (acc ++ [(meetAll met ((args met[i]).map lk)).1]) := by
        simp only [bfs, h', dif_pos, nums_get, hai, List.map_id, id, List.map_id_fun]
        rw [meetAll_nums A hA]
      rw [hn]
      exact ih (i + 1) _ _ (by simp; omega) hargs
    · have h' : ¬ i < (nums A met.length).length := by rw [nums_length]; exact h
      simp only [bfs, h, h', dif_neg, not_false_eq_true]

end Go.Proofs.Ytfeghobfkgimfaa
