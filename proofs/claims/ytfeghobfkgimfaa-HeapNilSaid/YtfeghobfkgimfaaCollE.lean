/- The new room, when all is scanned: its places, nodes; what Collect answers. -/
import Derived.Test.YtfeghobfkgimfaaCollD
namespace Go.Proofs.Ytfeghobfkgimfaa
open Go.RowKit

/-- Places of the new room, and beyond: all differ. -/
def AX (sz : Nat → Nat) (M : List Nat) (j : Nat) : Nat := Adr sz M j + (j - M.length)
theorem AX_in (sz : Nat → Nat) (M : List Nat) (j : Nat) (h : j ≤ M.length) : AX sz M j = Adr sz M j := by unfold AX; omega

theorem AX_lt (sz : Nat → Nat) (M : List Nat) (h2 : ∀ p ∈ M, 2 ≤ sz p) (i j : Nat) (h : i < j) : AX sz M i < AX sz M j := by
  have hover : ∀ k, M.length ≤ k → Adr sz M k = Adr sz M M.length := fun k hk => by
    unfold Adr; rw [List.take_of_length_le hk, List.take_length]
  unfold AX
  by_cases hj : j ≤ M.length
  · have := Adr_lt sz M i j h hj
    have := h2 M[i] (List.getElem_mem _)
    omega
  · by_cases hi : i ≤ M.length
    · have := Adr_mono sz M i M.length hi (Nat.le_refl _)
      rw [hover j (by omega)]; omega
    · rw [hover j (by omega), hover i (by omega)]; omega
theorem AX_inj (sz : Nat → Nat) (M : List Nat) (h2 : ∀ p ∈ M, 2 ≤ sz p) (i j : Nat) (h : AX sz M i = AX sz M j) : i = j := by
  rcases Nat.lt_trichotomy i j with h1 | h1 | h1
  · have := AX_lt sz M h2 i j h1; omega
  · exact h1
  · have := AX_lt sz M h2 j i h1; omega

def newL (sz : Nat → Nat) (M : List Nat) : List Nat := nums (AX sz M) M.length
def newSz (sz : Nat → Nat) (M : List Nat) : Nat → Nat := fun p => sz (M.getD ((newL sz M).idxOf p) 0)
def newNd (sz : Nat → Nat) (nd : Nat → Nd) (M : List Nat) (acc : List (List Nat)) : Nat → Nd := fun p =>
  ((nd (M.getD ((newL sz M).idxOf p) 0)).1, (nd (M.getD ((newL sz M).idxOf p) 0)).2.1, (acc.getD ((newL sz M).idxOf p) []).map (AX sz M))

section
variable {sz : Nat → Nat} {M : List Nat}
theorem newL_idx (h2 : ∀ p ∈ M, 2 ≤ sz p) (j : Nat) (h : j < M.length) : (newL sz M).idxOf (AX sz M j) = j := idxOf_nums _ (AX_inj sz M h2) _ _ h
theorem newL_length : (newL sz M).length = M.length := nums_length _ _
theorem newSz_at (h2 : ∀ p ∈ M, 2 ≤ sz p) (j : Nat) (h : j < M.length) : newSz sz M (AX sz M j) = sz M[j] := by
  unfold newSz; rw [newL_idx h2 j h]; simp [h]
theorem newL_mem {p : Nat} (h : p ∈ newL sz M) : ∃ j, j < M.length ∧ p = AX sz M j := by
  simp [newL, nums] at h; obtain ⟨j, hj, e⟩ := h; exact ⟨j, hj, e.symm⟩
theorem newL_in {j : Nat} (h : j < M.length) : AX sz M j ∈ newL sz M := by simp [newL, nums]; exact ⟨j, h, rfl⟩
theorem newSz_map (h2 : ∀ p ∈ M, 2 ≤ sz p) : (newL sz M).map (newSz sz M) = M.map sz := by
  apply List.ext_getElem
  · simp [newL_length]
  · intro i h1 h3
    simp only [List.getElem_map]
    simp [newL_length] at h1
    have : (newL sz M)[i]'(by rw [newL_length]; exact h1) = AX sz M i := nums_get _ _ _ _
    rw [this, newSz_at h2 i h1]

theorem newTiles (h2 : ∀ p ∈ M, 2 ≤ sz p) : Tiles (newL sz M) (newSz sz M) (M.map sz).sum := by
  refine ⟨fun i hi => ?_, by rw [newSz_map h2], fun p hp => ?_⟩
  · have hi' : i < M.length := by rw [newL_length] at hi; exact hi
    have e : (newL sz M)[i] = AX sz M i := nums_get _ _ _ _
    rw [e, AX_in sz M i (by omega)]
    unfold Adr
    rw [List.map_take, List.map_take, newSz_map h2]
  · obtain ⟨j, hj, rfl⟩ := newL_mem hp
    rw [newSz_at h2 j hj]
    exact h2 _ (List.getElem_mem _)
end

section
variable {n o1 o2 u1 u2 : Nat} {C : Nat → Int} {G : Nat → Bool} {L M M0 : List Nat} {acc : List (List Nat)} {sz lk : Nat → Nat} {nd : Nat → Nd} {cont : Nat → List Int}

theorem Chey.fin (hc : Cst n o1 o2 u1 L sz lk nd) (h : Chey n o1 o2 u1 L sz lk nd M cont C G u2) (hl : acc.length = M.length) (hcont : ∀ x, x < M.length → cont x = adrs sz M (acc.getD x []))
    (hlt : ∀ l ∈ acc, ∀ x ∈ l, x < M.length) : Room n o2 u2 C (cleared G o1 u1) (newL sz M) (newSz sz M) id (newNd sz nd M acc) ∧ (∀ x, x < n → cleared G o1 u1 (o1 + x) = false) ∧ u2 ≤ u1 := by
  have h2 : ∀ p ∈ M, 2 ≤ sz p := fun p hp => hc.tiles.two p (h.inL p hp).1
  have hle := h.le hc
  have hdis : ∀ x, x < n → ¬ (o1 ≤ o2 + x ∧ o2 + x < o1 + u1) := fun x hx => by
    have := hc.hu; rcases hc.ho with ⟨rfl, rfl⟩ | ⟨rfl, rfl⟩ <;> omega
  have hnode : ∀ j (hj : j < M.length), newNd sz nd M acc (AX sz M j) = ((nd M[j]).1, (nd M[j]).2.1, (acc.getD j []).map (AX sz M)) := fun j hj => by
    unfold newNd; rw [newL_idx h2 j hj]; simp [hj]
  have hints : ∀ j, j < M.length → ints ((acc.getD j []).map (AX sz M)) = cont j := fun j hj => by
    rw [hcont j hj]
    unfold ints adrs
    rw [List.map_map]
    apply List.map_congr_left
    intro x hx
    have hx' : x < M.length := hlt (acc.getD j []) (by rw [← hl] at hj; simp [hj]) x hx
    simp [AX_in sz M x (by omega)]
  refine ⟨⟨?_, by have := hc.hu; omega, ?_, ?_, ?_⟩, ?_, hle.2⟩
  · rw [h.used]; exact newTiles h2
  · intro x hx
    unfold cleared
    rw [if_neg (hdis x hx), h.mark2 x hx]
    constructor
    · rintro ⟨j, hj, rfl⟩
      rw [← AX_in sz M j (by omega)]; exact newL_in hj
    · intro hm
      obtain ⟨j, hj, e⟩ := newL_mem hm
      exact ⟨j, hj, by rw [e, AX_in sz M j (by omega)]⟩
  · intro p hp
    refine ⟨hp, rfl, 0, .stop p hp ?_⟩
    obtain ⟨j, hj, rfl⟩ := newL_mem hp
    have := (h.new j hj).1
    rw [AX_in sz M j (by omega), this.kind]
    exact (ok_kind this.1).1
  · intro p hp _
    obtain ⟨j, hj, rfl⟩ := newL_mem hp
    rw [hnode j hj, newSz_at h2 j hj]
    simp only
    rw [hints j hj]
    have hn := h.new j hj
    refine ⟨by rw [AX_in sz M j (by omega)]; exact hn.1, ?_, ?_⟩
    · have := h.inL M[j] (List.getElem_mem _)
      rw [enc_len (show (cont j).length = (ints (nd M[j]).2.2).length from by rw [hn.2, ints_length])]
      exact hc.len _ this.1 this.2
    · intro a ha
      obtain ⟨x, hx, rfl⟩ := List.mem_map.1 ha
      exact newL_in (hlt (acc.getD j []) (by rw [← hl] at hj; simp [hj]) x hx)
  · intro x hx
    unfold cleared
    split
    · rfl
    · by_cases e : G (o1 + x) = true
      · have := h.mark1 x hx e; omega
      · simpa using e

theorem bfs_stop (lk : Nat → Nat) (args : Nat → List Nat) (f i : Nat) (met : List Nat) (acc : List (List Nat)) (h : met.length ≤ i) : bfs lk args f i met acc = (met, acc) := by
  cases f with
  | zero => rfl
  | succ f => simp only [bfs]; rw [dif_neg (by omega)]

/-- What Collect answers, and leaves. -/
def CollV (w0 w : World) (b cb gb n o1 u1 o2 : Nat) (L : List Nat) (sz lk : Nat → Nat) (nd : Nat → Nd) (rs : List Nat) (e : Ending) (w' : World) : Prop :=
  ∃ out M acc C' G' u2, e = .returned (.tuple #[out, .int .i64 0]) ∧
    w'.ownsRow w.heap.size 3 1 out rs.length ((adrs sz M (meetAll [] (rs.map lk)).1).map (Value.int .i64)) ∧
    HRows w0 w' b cb gb (2 * n) (topV cb gb n o2 u2 M.length o1 0 0) C' G' ∧ (∀ x, x < n → G' (o1 + x) = false) ∧ u2 ≤ u1 ∧ acc.length = M.length ∧
    bfs lk (argsOf nd) (L.length + 1) 0 (meetAll [] (rs.map lk)).2 [] = (M, acc) ∧ M.Nodup ∧ (∀ p ∈ M, p ∈ L ∧ lk p = p) ∧ (∀ l ∈ acc, ∀ x ∈ l, x < M.length) ∧ (∀ x ∈ (meetAll [] (rs.map lk)).1, x < M.length) ∧
    Room n o2 u2 C' G' (newL sz M) (newSz sz M) id (newNd sz nd M acc)

theorem coll_fin {w0 w W1 wb : World} {b cb gb i : Nat} {rs : List Nat} {out : Value} {OUT : List Value} (hc : Cst n o1 o2 u1 L sz lk nd) (h : Chey n o1 o2 u1 L sz lk nd M cont C G u2) (hs : Scan L lk nd M0 i M acc) (hi : i = M.length)
    (h1 : ∀ x, x < i → cont x = adrs sz M (acc.getD x [])) (hM0 : M0 = (meetAll [] (rs.map lk)).2) (hOUT : OUT = ((adrs sz (meetAll [] (rs.map lk)).2 (meetAll [] (rs.map lk)).1).map (Value.int .i64)))
    (hr : HRows W1 wb b cb gb (2 * n) (topV cb gb n o1 0 0 o2 u2 M.length) C (cleared G o1 u1)) (ho : wb.ownsRow W1.heap.size 3 1 out rs.length OUT) (lb1 : b < W1.heap.size) (hsz : W1.heap.size = w.heap.size + 1) (hb1 : Turns (In3 b cb gb) w0 W1) :
    CollV w0 w b cb gb n o1 u1 o2 L sz lk nd rs (.returned (.tuple #[out, .int .i64 0]))
      ((((((((wb.setCell ⟨b, 0, none⟩ (.slice (some ⟨cb, o2, none⟩) n n)).setCell ⟨b, 1, none⟩ (.slice (some ⟨gb, o2, none⟩) n n)).setCell ⟨b, 2, none⟩ (.int .i64 u2)).setCell ⟨b, 3, none⟩ (.int .i64 M.length)).setCell ⟨b, 4, none⟩ (.slice (some ⟨cb, o1, none⟩) n n)).setCell
        ⟨b, 5, none⟩ (.slice (some ⟨gb, o1, none⟩) n n)).setCell ⟨b, 6, none⟩ (.int .i64 0)).setCell ⟨b, 7, none⟩ (.int .i64 0)).drew.drew := by
  have hl : acc.length = M.length := by rw [hs.len]; exact hi
  have hfin := Chey.fin hc h hl (fun x hx => h1 x (by rw [hi]; exact hx)) hs.lt
  have hr6 := (((((((((hr.setB 0 (.slice (some ⟨cb, o2, none⟩) n n)).setB 1 (.slice (some ⟨gb, o2, none⟩) n n)).setB 2 (.int .i64 u2)).setB 3 (.int .i64 M.length)).setB 4 (.slice (some ⟨cb, o1, none⟩) n n)).setB 5 (.slice (some ⟨gb, o1, none⟩) n n)).setB 6 (.int .i64 0)).setB 7 (.int .i64 0)).drew).drew
  have hown6 := own_drew (own_drew (own_set (own_set (own_set (own_set (own_set (own_set (own_set (own_set ho lb1 (i := 0) (.slice (some ⟨cb, o2, none⟩) n n)) lb1 (i := 1) (.slice (some ⟨gb, o2, none⟩) n n)) lb1 (i := 2) (.int .i64 u2)) lb1 (i := 3) (.int .i64 M.length)) lb1 (i := 4) (.slice (some ⟨cb, o1, none⟩) n n)) lb1 (i := 5) (.slice (some ⟨gb, o1, none⟩) n n)) lb1 (i := 6) (.int .i64 0)) lb1 (i := 7) (.int .i64 0)))
  have hrun : bfs lk (argsOf nd) (L.length + 1) 0 M0 [] = (M, acc) := by rw [hs.run, bfs_stop _ _ _ _ _ _ (by rw [hi]; exact Nat.le_refl _)]
  obtain ⟨r0, hr0⟩ := hs.pre
  have hlt0 : ∀ x ∈ (meetAll [] (rs.map lk)).1, x < (meetAll [] (rs.map lk)).2.length := meetAll_lt [] _
  rw [hM0] at hrun hr0
  have hMl : (meetAll [] (rs.map lk)).2.length ≤ M.length := by rw [hr0]; simp
  refine ⟨out, M, acc, C, cleared G o1 u1, u2, rfl, ?_, ?_, hfin.2.1, hfin.2.2, hl, hrun, h.nodup, h.inL, hs.lt, fun x hx => by have := hlt0 x hx; omega, hfin.1⟩
  · have := own_base hown6 (base' := w.heap.size) (by rw [hsz]; omega)
    rw [hOUT] at this
    have e : adrs sz M (meetAll [] (rs.map lk)).1 = adrs sz (meetAll [] (rs.map lk)).2 (meetAll [] (rs.map lk)).1 := by
      conv => lhs; rw [hr0]
      exact adrs_ext sz _ r0 _ hlt0
    rw [e]
    exact this
  · exact (hr6.congr (fun i hi => topV_swap cb gb n o1 0 0 o2 u2 M.length i hi) (fun _ _ => rfl) (fun _ _ => rfl)).after hb1
end
end Go.Proofs.Ytfeghobfkgimfaa
