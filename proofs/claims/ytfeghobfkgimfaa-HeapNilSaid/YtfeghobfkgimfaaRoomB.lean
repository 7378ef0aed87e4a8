/- A room behind Put, behind Stand. No world here. -/
import Derived.Test.YtfeghobfkgimfaaCollE
namespace Go.Proofs.Ytfeghobfkgimfaa

theorem Ch.grow {C C' : Nat → Int} {o : Nat} {L L' : List Nat} {p t k : Nat} (h : Ch C o L p t k) (hL : ∀ x ∈ L, x ∈ L') (hC : ∀ x ∈ L, C' (o + x) = C (o + x) ∧ C' (o + (x + 1)) = C (o + (x + 1))) : Ch C' o L' p t k := by
  induction h with
  | stop p h1 h2 => exact .stop p (hL p h1) (by rw [(hC p h1).1]; exact h2)
  | on p q t k h1 h2 h3 _ ih => exact .on p q t k (hL p h1) ((hC p h1).1.trans h2) ((hC p h1).2.trans h3) ih

theorem upd_at {α : Type} (f : Nat → α) (i : Nat) (v : α) : upd f i v i = v := by simp [upd]
theorem upd_ne {α : Type} (f : Nat → α) {i j : Nat} (v : α) (h : j ≠ i) : upd f i v j = f j := by simp [upd, h]

section
variable {n o u : Nat} {C : Nat → Int} {G : Nat → Bool} {L : List Nat} {sz lk : Nat → Nat} {nd : Nat → Nd}

theorem map_upd {f : Nat → Nat} {i v : Nat} {l : List Nat} (h : i ∉ l) : l.map (upd f i v) = l.map f := by
  apply List.map_congr_left
  intro x hx
  exact upd_ne f v (fun e => h (by rw [← e]; exact hx))

theorem Tiles.snoc (h : Tiles L sz u) (len : Nat) (h2 : 2 ≤ len) : Tiles (L ++ [u]) (upd sz u len) (u + len) := by
  have hnin : u ∉ L := fun hm => by have := h.fit u hm; have := h.two u hm; omega
  refine ⟨fun i hi => ?_, ?_, fun p hp => ?_⟩
  · by_cases e : i < L.length
    · rw [List.getElem_append_left e, h.place i e]
      unfold Adr
      rw [List.take_append_of_le_length (by omega), map_upd (fun hm => hnin (List.mem_of_mem_take hm))]
    · have hi' : i = L.length := by simp at hi; omega
      subst hi'
      rw [List.getElem_append_right (Nat.le_refl _)]
      unfold Adr
      rw [List.take_left, map_upd hnin, h.total]
      simp
  · rw [List.map_append, map_upd hnin]
    simp [h.total, upd_at]
  · rcases List.mem_append.1 hp with hp | hp
    · rw [upd_ne _ _ (fun e => hnin (by rw [← e]; exact hp))]; exact h.two p hp
    · simp at hp; subst hp; rw [upd_at]; exact h2

theorem Room.put {k m : Int} {xs : List Nat} (h : Room n o u C G L sz lk nd) (hok : okNode k m (ints xs)) (hx : ∀ a ∈ xs, a ∈ L) (hu : u + (enc k m (ints xs)).length ≤ n) :
    Room n o (u + (enc k m (ints xs)).length) (wr C (o + u) (enc k m (ints xs))) (upd G (o + u) true) (L ++ [u]) (upd sz u (enc k m (ints xs)).length) (upd lk u u) (upd nd u (k, m, xs)) := by
  have hpos := enc_pos hok
  have hfit := h.tiles.fit
  have htwo := h.tiles.two
  have hne : ∀ p ∈ L, p ≠ u := fun p hp => by have := hfit p hp; have := htwo p hp; omega
  have hC : ∀ p ∈ L, ∀ i, i < sz p → wr C (o + u) (enc k m (ints xs)) (o + p + i) = C (o + p + i) := fun p hp i hi => wr_out _ _ _ _ (.inl (by have := hfit p hp; omega))
  refine ⟨h.tiles.snoc _ hpos.1, hu, ?_, ?_, ?_⟩
  · intro x hxn
    by_cases e : x = u
    · subst e; rw [upd_at]; simp
    · rw [upd_ne _ _ (by omega), h.mark x hxn]; simp [e]
  · intro p hp
    rcases List.mem_append.1 hp with hp | hp
    · obtain ⟨h1, h2, k', h3⟩ := h.lkin p hp
      rw [upd_ne lk _ (hne p hp), upd_ne lk _ (hne _ h1)]
      refine ⟨List.mem_append_left _ h1, h2, k', h3.grow (fun x hx => List.mem_append_left _ hx) (fun x hx => ?_)⟩
      have h0 := hC x hx 0 (by have := htwo x hx; omega)
      have h1 := hC x hx 1 (by have := htwo x hx; omega)
      exact ⟨h0, h1⟩
    · simp at hp; subst hp
      rw [upd_at, upd_at]
      refine ⟨by simp, rfl, 0, .stop p (by simp) ?_⟩
      have := wr_in C (o + p) (enc k m (ints xs)) 0 (by omega)
      rw [Nat.add_zero] at this
      rw [this, enc_head hok]
      exact (ok_kind hok).1
  · intro p hp hl
    rcases List.mem_append.1 hp with hp | hp
    · rw [upd_ne lk _ (hne p hp)] at hl
      obtain ⟨h1, h2, h3⟩ := h.node p hp hl
      rw [upd_ne nd _ (hne p hp), upd_ne sz _ (hne p hp)]
      refine ⟨⟨h1.1, fun i hi => ?_⟩, h2, fun a ha => List.mem_append_left _ (h3 a ha)⟩
      rw [hC p hp i (by omega)]; exact h1.2 i hi
    · simp at hp; subst hp
      rw [upd_at, upd_at]
      exact ⟨⟨hok, fun i hi => wr_in _ _ _ _ hi⟩, rfl, fun a ha => List.mem_append_left _ (hx a ha)⟩

/-- Who stands for whom, when a's end stands for t's. -/
def stdF (lk : Nat → Nat) (a t : Nat) : Nat → Nat := fun p => if lk p = a then t else lk p

theorem Room.stand {a t : Nat} (h : Room n o u C G L sz lk nd) (ha : a ∈ L) (hla : lk a = a) (ht : t ∈ L) (hlt : lk t = t) (hne : a ≠ t) :
    Room n o u (upd (upd C (o + a) 5) (o + (a + 1)) t) G L sz (stdF lk a t) nd := by
  have htwo := h.tiles.two
  have hap : ∀ p ∈ L, p ≠ a → ∀ i, i < sz p → upd (upd C (o + a) 5) (o + (a + 1)) t (o + p + i) = C (o + p + i) := fun p hp hpa i hi => by
    have h2 := htwo a ha
    rcases Nat.lt_or_gt_of_ne hpa with hl | hl
    · have := h.tiles.apart p hp a ha hl
      rw [upd_ne _ _ (by omega), upd_ne _ _ (by omega)]
    · have := h.tiles.apart a ha p hp hl
      rw [upd_ne _ _ (by omega), upd_ne _ _ (by omega)]
  have hC2 : ∀ p ∈ L, p ≠ a → upd (upd C (o + a) 5) (o + (a + 1)) (t : Int) (o + p) = C (o + p) ∧ upd (upd C (o + a) 5) (o + (a + 1)) (t : Int) (o + (p + 1)) = C (o + (p + 1)) := fun p hp hpa => by
    have := htwo p hp
    exact ⟨hap p hp hpa 0 (by omega), hap p hp hpa 1 (by omega)⟩
  have hC5 : upd (upd C (o + a) 5) (o + (a + 1)) (t : Int) (o + a) = 5 := by rw [upd_ne _ _ (by omega), upd_at]
  have hCt : upd (upd C (o + a) 5) (o + (a + 1)) (t : Int) (o + (a + 1)) = t := upd_at _ _ _
  have hend : ∀ p ∈ L, lk p = p → C (o + p) ≠ 5 := fun p hp hl => by
    obtain ⟨_, _, k, hk⟩ := h.lkin p hp
    rw [hl] at hk; exact hk.mem.2
  have hta : Ch (upd (upd C (o + a) 5) (o + (a + 1)) t) o L a t 1 := .on a t t 0 ha hC5 hCt (.stop t ht (by rw [(hC2 t ht (Ne.symm hne)).1]; exact hend t ht hlt))
  have hch : ∀ p q k, Ch C o L p q k → (q ≠ a → Ch (upd (upd C (o + a) 5) (o + (a + 1)) t) o L p q k) ∧ (q = a → Ch (upd (upd C (o + a) 5) (o + (a + 1)) t) o L p t (k + 1)) := by
    intro p q k hk
    induction hk with
    | stop p h1 h2 => exact ⟨fun hp => .stop p h1 (by rw [(hC2 p h1 hp).1]; exact h2), fun hp => by subst hp; exact hta⟩
    | on p q r k h1 h2 h3 _ ih =>
      have hpa : p ≠ a := fun e => hend a ha hla (by rw [← e]; exact h2)
      have := hC2 p h1 hpa
      exact ⟨fun hr => .on p q r k h1 (this.1.trans h2) (this.2.trans h3) (ih.1 hr), fun hr => .on p q t (k + 1) h1 (this.1.trans h2) (this.2.trans h3) (ih.2 hr)⟩
  refine ⟨h.tiles, h.hu, h.mark, fun p hp => ?_, fun p hp hl => ?_⟩
  · obtain ⟨h1, h2, k, h3⟩ := h.lkin p hp
    unfold stdF
    by_cases e : lk p = a
    · simp only [e, if_pos]
      rw [hlt, if_neg (Ne.symm hne)]
      exact ⟨ht, rfl, k + 1, (hch _ _ _ h3).2 e⟩
    · simp only [if_neg e, h2]
      exact ⟨h1, trivial, k, (hch _ _ _ h3).1 e⟩
  · unfold stdF at hl
    by_cases e : lk p = a
    · rw [if_pos e] at hl
      subst hl
      exact absurd (hlt.symm.trans e).symm hne
    · rw [if_neg e] at hl
      obtain ⟨h1, h2, h3⟩ := h.node p hp hl
      have hpa : p ≠ a := fun e2 => e (by rw [hl]; exact e2)
      exact ⟨⟨h1.1, fun i hi => by rw [hap p hp hpa i (by omega)]; exact h1.2 i hi⟩, h2, h3⟩

theorem stdF_same (lk : Nat → Nat) (a : Nat) : stdF lk a a = lk := by
  funext p; unfold stdF; split
  · rename_i h; exact h.symm
  · rfl
end
end Go.Proofs.Ytfeghobfkgimfaa
