/- The copy of a room's nodes, as numbers: what holds between two forwards, and that a forward keeps it. No world here. -/
import Derived.Test.YtfeghobfkgimfaaHeapU
import Derived.Test.YtfeghobfkgimfaaLook
import Derived.Test.YtfeghobfkgimfaaBfs
namespace Go.Proofs.Ytfeghobfkgimfaa

abbrev Nd := Int × Int × List Nat
def ints (l : List Nat) : List Int := l.map (fun a : Nat => (a : Int))
theorem ints_length (l : List Nat) : (ints l).length = l.length := by simp [ints]

/-- Through Fors, all the way among the places of L. -/
inductive Ch (C : Nat → Int) (o : Nat) (L : List Nat) : Nat → Nat → Nat → Prop
  | stop (p : Nat) : p ∈ L → C (o + p) ≠ 5 → Ch C o L p p 0
  | on (p q t k : Nat) : p ∈ L → C (o + p) = 5 → C (o + (p + 1)) = (q : Int) → Ch C o L q t k → Ch C o L p t (k + 1)

theorem Ch.chain {C : Nat → Int} {o n : Nat} {L : List Nat} {p t k : Nat} (h : Ch C o L p t k) (hL : ∀ x ∈ L, x + 1 < n) : Chain C o n p t k := by
  induction h with
  | stop p h1 h2 => exact .stop p (by have := hL p h1; omega) h2
  | on p q t k h1 h2 h3 _ ih => exact .on p q t k (hL p h1) h2 h3 ih

theorem Ch.mem {C : Nat → Int} {o : Nat} {L : List Nat} {p t k : Nat} (h : Ch C o L p t k) : t ∈ L ∧ C (o + t) ≠ 5 := by
  induction h with
  | stop p h1 h2 => exact ⟨h1, h2⟩
  | on p q t k h1 h2 h3 _ ih => exact ih

/-- A chain lives on where the cells of the places that are Fors are as they were, and its end is no For yet. -/
theorem Ch.keep {C C' : Nat → Int} {o : Nat} {L : List Nat} {p t k : Nat} (h : Ch C o L p t k) (hC : ∀ x ∈ L, C (o + x) = 5 → C' (o + x) = 5 ∧ C' (o + (x + 1)) = C (o + (x + 1))) (ht : ∀ x ∈ L, C (o + x) ≠ 5 → C' (o + x) ≠ 5) : Ch C' o L p t k := by
  induction h with
  | stop p h1 h2 => exact .stop p h1 (ht p h1 h2)
  | on p q t k h1 h2 h3 _ ih => exact .on p q t k h1 (hC p h1 h2).1 ((hC p h1 h2).2.trans h3) ih

def Adr (sz : Nat → Nat) (M : List Nat) (j : Nat) : Nat := ((M.take j).map sz).sum
theorem Adr_all (sz : Nat → Nat) (M : List Nat) : Adr sz M M.length = (M.map sz).sum := by simp [Adr]
theorem Adr_ext (sz : Nat → Nat) (M r : List Nat) (j : Nat) (h : j ≤ M.length) : Adr sz (M ++ r) j = Adr sz M j := by
  unfold Adr; rw [List.take_append_of_le_length h]
theorem Adr_succ (sz : Nat → Nat) (M : List Nat) (j : Nat) (h : j < M.length) : Adr sz M (j + 1) = Adr sz M j + sz M[j] := by
  unfold Adr; rw [List.take_succ_eq_append_getElem h, List.map_append, List.sum_append]; simp
theorem Adr_mono (sz : Nat → Nat) (M : List Nat) (i j : Nat) (h : i ≤ j) (hj : j ≤ M.length) : Adr sz M i ≤ Adr sz M j := by
  induction j with
  | zero => simp [show i = 0 from by omega]
  | succ j ih =>
    by_cases e : i = j + 1
    · rw [e]; exact Nat.le_refl _
    · have := ih (by omega) (by omega)
      rw [Adr_succ sz M j (by omega)]; omega
theorem Adr_lt (sz : Nat → Nat) (M : List Nat) (i j : Nat) (h : i < j) (hj : j ≤ M.length) : Adr sz M i + sz (M[i]'(by omega)) ≤ Adr sz M j := by
  rw [← Adr_succ sz M i (by omega)]
  exact Adr_mono sz M (i + 1) j h hj

/-- Places one behind the other, each with its size. -/
structure Tiles (L : List Nat) (sz : Nat → Nat) (u : Nat) : Prop where
  place : ∀ i (h : i < L.length), L[i] = Adr sz L i
  total : (L.map sz).sum = u
  two : ∀ p ∈ L, 2 ≤ sz p

theorem Tiles.fit {L : List Nat} {sz : Nat → Nat} {u : Nat} (h : Tiles L sz u) : ∀ p ∈ L, p + sz p ≤ u := by
  intro p hp
  obtain ⟨i, hi, rfl⟩ := List.mem_iff_getElem.1 hp
  have h1 := Adr_lt sz L i L.length hi (Nat.le_refl _)
  rw [Adr_all, h.total] at h1
  have h2 := h.place i hi
  omega
theorem Tiles.apart {L : List Nat} {sz : Nat → Nat} {u : Nat} (h : Tiles L sz u) : ∀ p ∈ L, ∀ q ∈ L, p < q → p + sz p ≤ q := by
  intro p hp q hq hlt
  obtain ⟨i, hi, rfl⟩ := List.mem_iff_getElem.1 hp
  obtain ⟨j, hj, rfl⟩ := List.mem_iff_getElem.1 hq
  have e1 := h.place i hi; have e2 := h.place j hj
  by_cases hij : i < j
  · have := Adr_lt sz L i j hij (by omega)
    omega
  · have := Adr_mono sz L j i (by omega) (by omega)
    omega
theorem Tiles.nodup {L : List Nat} {sz : Nat → Nat} {u : Nat} (h : Tiles L sz u) : L.Nodup := by
  rw [List.nodup_iff_pairwise_ne, List.pairwise_iff_getElem]
  intro i j hi hj hij e
  have e1 := h.place i hi; have e2 := h.place j hj
  have := Adr_lt sz L i j hij (by omega)
  have := h.two L[i] (List.getElem_mem hi)
  omega

theorem sum_subset (sz : Nat → Nat) : ∀ (M L : List Nat), M.Nodup → (∀ p ∈ M, p ∈ L) → (M.map sz).sum ≤ (L.map sz).sum := by
  intro M
  induction M with
  | nil => intro L _ _; simp
  | cons p M ih =>
    intro L hn hs
    have hp : p ∈ L := hs p (by simp)
    have hperm := List.perm_cons_erase hp
    have e : (L.map sz).sum = sz p + ((L.erase p).map sz).sum := by
      have := (hperm.map sz).sum_nat
      simpa using this
    rw [e]
    simp only [List.map_cons, List.sum_cons]
    have hn' := List.nodup_cons.1 hn
    have := ih (L.erase p) hn'.2 (fun q hq => (List.mem_erase_of_ne (fun e => hn'.1 (by rw [← e]; exact hq))).2 (hs q (by simp [hq])))
    omega

/-- A room between two calls: its nodes, what stands for what. -/
structure Room (n o u : Nat) (C : Nat → Int) (G : Nat → Bool) (L : List Nat) (sz lk : Nat → Nat) (nd : Nat → Nd) : Prop where
  tiles : Tiles L sz u
  hu : u ≤ n
  mark : ∀ x, x < n → (G (o + x) = true ↔ x ∈ L)
  lkin : ∀ p ∈ L, lk p ∈ L ∧ lk (lk p) = lk p ∧ ∃ k, Ch C o L p (lk p) k
  node : ∀ p ∈ L, lk p = p → NodeAt C (o + p) (nd p).1 (nd p).2.1 (ints (nd p).2.2) ∧ (enc (nd p).1 (nd p).2.1 (ints (nd p).2.2)).length = sz p ∧ ∀ a ∈ (nd p).2.2, a ∈ L

/-- Between two forwards: M has been moved, in this order; cont: what the args of the new nodes read. -/
structure Chey (n o1 o2 u1 : Nat) (L : List Nat) (sz lk : Nat → Nat) (nd : Nat → Nd) (M : List Nat) (cont : Nat → List Int) (C : Nat → Int) (G : Nat → Bool) (u2 : Nat) : Prop where
  nodup : M.Nodup
  inL : ∀ p ∈ M, p ∈ L ∧ lk p = p
  used : u2 = (M.map sz).sum
  moved : ∀ j (h : j < M.length), C (o1 + M[j]) = 7 ∧ C (o1 + (M[j] + 1)) = (Adr sz M j : Int)
  new : ∀ j (h : j < M.length), NodeAt C (o2 + Adr sz M j) (nd M[j]).1 (nd M[j]).2.1 (cont j) ∧ (cont j).length = (nd M[j]).2.2.length
  rest : ∀ p ∈ L, lk p = p → p ∉ M → NodeAt C (o1 + p) (nd p).1 (nd p).2.1 (ints (nd p).2.2)
  chain : ∀ p ∈ L, ∃ k, Ch C o1 L p (lk p) k
  mark2 : ∀ x, x < n → (G (o2 + x) = true ↔ ∃ j, j < M.length ∧ x = Adr sz M j)
  mark1 : ∀ x, x < n → G (o1 + x) = true → x < u1

theorem enc_len {k m : Int} {xs ys : List Int} (h : xs.length = ys.length) : (enc k m xs).length = (enc k m ys).length := by
  unfold enc; split
  · simp [h]
  · split
    · simp [h]
    · rfl
theorem ok_len {k m : Int} {xs ys : List Int} (h : xs.length = ys.length) (hx : okNode k m xs) : okNode k m ys := by
  have hnil : xs = [] → ys = [] := fun e => List.eq_nil_of_length_eq_zero (by rw [← h, e]; rfl)
  rcases hx with ⟨a, b⟩ | ⟨a, b, c⟩ | ⟨a, b, c⟩ | ⟨a, b, c⟩ | ⟨a, b, c, d⟩
  · exact .inl ⟨a, hnil b⟩
  · exact .inr (.inl ⟨a, b, hnil c⟩)
  · exact .inr (.inr (.inl ⟨a, b, hnil c⟩))
  · exact .inr (.inr (.inr (.inl ⟨a, b, by omega⟩)))
  · exact .inr (.inr (.inr (.inr ⟨a, b, c, by omega⟩)))
theorem enc_head {k m : Int} {xs : List Int} (h : okNode k m xs) : (enc k m xs)[0]'(by have := enc_pos h; omega) = k := by
  rcases h with ⟨rfl, rfl⟩ | ⟨rfl, h, rfl⟩ | ⟨rfl, rfl, rfl⟩ | ⟨rfl, rfl, h⟩ | ⟨rfl, h1, h2, h3⟩ <;> rfl
theorem NodeAt.kind {C : Nat → Int} {p : Nat} {k m : Int} {xs : List Int} (h : NodeAt C p k m xs) : C p = k := by
  have := h.2 0 (by have := enc_pos h.1; omega)
  rw [enc_head h.1] at this
  simpa using this
theorem ok_kind {k m : Int} {xs : List Int} (h : okNode k m xs) : k ≠ 5 ∧ k ≠ 7 := by
  rcases h with ⟨rfl, rfl⟩ | ⟨rfl, h, rfl⟩ | ⟨rfl, rfl, rfl⟩ | ⟨rfl, rfl, h⟩ | ⟨rfl, h1, h2, h3⟩ <;> exact ⟨by decide, by decide⟩

/-- Where a copy begins. -/
theorem Chey.begin {n o1 o2 u1 : Nat} {C : Nat → Int} {G : Nat → Bool} {L : List Nat} {sz lk : Nat → Nat} {nd : Nat → Nd} (h : Room n o1 u1 C G L sz lk nd) (h2 : ∀ x, x < n → G (o2 + x) = false) (cont : Nat → List Int) :
    Chey n o1 o2 u1 L sz lk nd [] cont C G 0 :=
  ⟨by simp, by simp, rfl, by simp, by simp, fun p hp hl _ => (h.node p hp hl).1, fun p hp => (h.lkin p hp).2.2, fun x hx => by simp [h2 x hx],
   fun x hx hg => by have h3 := (h.mark x hx).1 hg; have := h.tiles.fit x h3; have := h.tiles.two x h3; omega⟩

/-- A forward of what has been moved. -/
theorem Chey.moved_at {n o1 o2 u1 u2 : Nat} {C : Nat → Int} {G : Nat → Bool} {L M : List Nat} {sz lk : Nat → Nat} {nd : Nat → Nd} {cont : Nat → List Int} (h : Chey n o1 o2 u1 L sz lk nd M cont C G u2) {t : Nat} (ht : t ∈ M) :
    C (o1 + t) = 7 ∧ C (o1 + (t + 1)) = (Adr sz M (M.idxOf t) : Int) := by
  have hl := List.idxOf_lt_length_of_mem ht
  have := h.moved _ hl
  rw [List.getElem_idxOf] at this
  exact this

theorem Chey.room {n o1 o2 u1 u2 : Nat} {C : Nat → Int} {G : Nat → Bool} {L M : List Nat} {sz lk : Nat → Nat} {nd : Nat → Nd} {cont : Nat → List Int} (h : Chey n o1 o2 u1 L sz lk nd M cont C G u2) (hT : Tiles L sz u1) {t : Nat} (hL : t ∈ L) (ht : t ∉ M) : u2 + sz t ≤ u1 := by
  have := sum_subset sz (M ++ [t]) L (by rw [List.nodup_append]; exact ⟨h.nodup, by simp, fun a ha b hb => by simp at hb; subst hb; exact fun e => ht (e ▸ ha)⟩) (fun p hp => by
    rcases List.mem_append.1 hp with hp | hp
    · exact (h.inL p hp).1
    · simp at hp; subst hp; exact hL)
  rw [hT.total] at this
  simp at this
  rw [h.used]; exact this

def contF (nd : Nat → Nd) (cont : Nat → List Int) (M : List Nat) (t : Nat) : Nat → List Int := fun j => if j = M.length then ints (nd t).2.2 else cont j

/-- A forward of what has not been moved. -/
theorem Chey.move {n o1 o2 u1 u2 : Nat} {C : Nat → Int} {G : Nat → Bool} {L M : List Nat} {sz lk : Nat → Nat} {nd : Nat → Nd} {cont : Nat → List Int} (h : Chey n o1 o2 u1 L sz lk nd M cont C G u2) (hT : Tiles L sz u1) (hu1 : u1 ≤ n)
    (ho : (o1 = 0 ∧ o2 = n) ∨ (o1 = n ∧ o2 = 0)) (hnode : ∀ p ∈ L, lk p = p → (enc (nd p).1 (nd p).2.1 (ints (nd p).2.2)).length = sz p) {t : Nat} (hL : t ∈ L) (hlk : lk t = t) (ht : t ∉ M) :
    Chey n o1 o2 u1 L sz lk nd (M ++ [t]) (contF nd cont M t) (upd (upd (wr C (o2 + u2) (enc (nd t).1 (nd t).2.1 (ints (nd t).2.2))) (o1 + t) 7) (o1 + (t + 1)) (u2 : Int)) (upd G (o2 + u2) true) (u2 + sz t) := by
  have hroom := h.room hT hL ht
  have hfit := hT.fit
  have hlen := hnode t hL hlk
  have h2t := hT.two t hL
  have hadr : ∀ j, j < M.length → Adr sz (M ++ [t]) j = Adr sz M j := fun j hj => Adr_ext sz M [t] j (by omega)
  have hadrM : Adr sz (M ++ [t]) M.length = u2 := by rw [Adr_ext sz M [t] _ (Nat.le_refl _), Adr_all, h.used]
  have hbelow : ∀ j (hj : j < M.length), Adr sz M j + sz M[j] ≤ u2 := fun j hj => by
    have := Adr_lt sz M j M.length hj (Nat.le_refl _)
    rw [Adr_all, ← h.used] at this; exact this
  -- cells of the room in use but the two of t are as they were
  have hold : ∀ x, x < u1 → x ≠ t → x ≠ t + 1 → upd (upd (wr C (o2 + u2) (enc (nd t).1 (nd t).2.1 (ints (nd t).2.2))) (o1 + t) 7) (o1 + (t + 1)) (u2 : Int) (o1 + x) = C (o1 + x) := fun x hx h1 h2 => by
    rw [upd_other _ _ (by omega), upd_other _ _ (by omega), wr_out _ _ _ _ (by rcases ho with ⟨rfl, rfl⟩ | ⟨rfl, rfl⟩ <;> omega)]
  -- cells of the other room below u2 are as they were
  have hnew : ∀ x, x < u2 → upd (upd (wr C (o2 + u2) (enc (nd t).1 (nd t).2.1 (ints (nd t).2.2))) (o1 + t) 7) (o1 + (t + 1)) (u2 : Int) (o2 + x) = C (o2 + x) := fun x hx => by
    have := hfit t hL
    rw [upd_other _ _ (by rcases ho with ⟨rfl, rfl⟩ | ⟨rfl, rfl⟩ <;> omega), upd_other _ _ (by rcases ho with ⟨rfl, rfl⟩ | ⟨rfl, rfl⟩ <;> omega), wr_out _ _ _ _ (by omega)]
  have hself : ∀ x, x < sz t → upd (upd (wr C (o2 + u2) (enc (nd t).1 (nd t).2.1 (ints (nd t).2.2))) (o1 + t) 7) (o1 + (t + 1)) (u2 : Int) (o2 + u2 + x) = wr C (o2 + u2) (enc (nd t).1 (nd t).2.1 (ints (nd t).2.2)) (o2 + u2 + x) := fun x hx => by
    have := hfit t hL
    rw [upd_other _ _ (by rcases ho with ⟨rfl, rfl⟩ | ⟨rfl, rfl⟩ <;> omega), upd_other _ _ (by rcases ho with ⟨rfl, rfl⟩ | ⟨rfl, rfl⟩ <;> omega)]
  have hapart : ∀ p ∈ L, p ≠ t → ∀ x, p ≤ x → x < p + sz p → x ≠ t ∧ x ≠ t + 1 := fun p hp hne x h1 h2 => by
    rcases Nat.lt_or_gt_of_ne hne with hlt | hgt
    · have := hT.apart p hp t hL hlt; omega
    · have := hT.apart t hL p hp hgt; omega
  refine ⟨?_, ?_, ?_, ?_, ?_, ?_, ?_, ?_, ?_⟩
  · rw [List.nodup_append]; exact ⟨h.nodup, by simp, fun a ha b hb => by simp at hb; subst hb; exact fun e => ht (e ▸ ha)⟩
  · intro p hp
    rcases List.mem_append.1 hp with hp | hp
    · exact h.inL p hp
    · simp at hp; subst hp; exact ⟨hL, hlk⟩
  · rw [h.used]; simp
  · intro j hj
    by_cases e : j < M.length
    · have hm : (M ++ [t])[j] = M[j] := List.getElem_append_left e
      rw [hm, hadr j e]
      have hMj := (h.inL M[j] (List.getElem_mem e)).1
      have hne : M[j] ≠ t := fun e2 => ht (e2 ▸ List.getElem_mem e)
      have h2 := hT.two _ hMj
      have hf := hfit _ hMj
      have ha := hapart _ hMj hne
      rw [hold _ (by omega) (ha M[j] (by omega) (by omega)).1 (ha M[j] (by omega) (by omega)).2, hold _ (by omega) (ha (M[j] + 1) (by omega) (by omega)).1 (ha (M[j] + 1) (by omega) (by omega)).2]
      exact h.moved j e
    · have e' : j = M.length := by simp at hj; omega
      subst e'
      have hm : (M ++ [t])[M.length] = t := by simp
      rw [hm, hadrM]
      exact ⟨by rw [upd_other _ _ (by omega), upd_same], upd_same _ _ _⟩
  · intro j hj
    by_cases e : j < M.length
    · have hm : (M ++ [t])[j] = M[j] := List.getElem_append_left e
      rw [hm, hadr j e]
      have hc : contF nd cont M t j = cont j := if_neg (by omega)
      rw [hc]
      obtain ⟨h1, h2⟩ := h.new j e
      refine ⟨⟨h1.1, fun i hi => ?_⟩, h2⟩
      have hMj := h.inL M[j] (List.getElem_mem e)
      have hl := hnode _ hMj.1 hMj.2
      rw [enc_len (show (ints (nd M[j]).2.2).length = (cont j).length from by rw [ints_length, h2])] at hl
      have := hbelow j e
      rw [Nat.add_assoc, hnew _ (by omega), ← Nat.add_assoc]
      exact h1.2 i hi
    · have e' : j = M.length := by simp at hj; omega
      subst e'
      have hm : (M ++ [t])[M.length] = t := by simp
      rw [hm, hadrM]
      have hc : contF nd cont M t M.length = ints (nd t).2.2 := if_pos rfl
      rw [hc]
      refine ⟨⟨(h.rest t hL hlk ht).1, fun i hi => ?_⟩, ints_length _⟩
      rw [hself i (by omega), wr_in _ _ _ _ hi]
  · intro p hp hl hpM
    have hpM' : p ∉ M ∧ p ≠ t := by simpa using hpM
    have hr := h.rest p hp hl hpM'.1
    refine ⟨hr.1, fun i hi => ?_⟩
    have hlp := hnode p hp hl
    have hf := hfit p hp
    have ha := hapart p hp hpM'.2 (p + i) (by omega) (by omega)
    rw [Nat.add_assoc, hold _ (by omega) ha.1 ha.2, ← Nat.add_assoc]
    exact hr.2 i hi
  · intro p hp
    obtain ⟨k, hk⟩ := h.chain p hp
    have htk : C (o1 + t) ≠ 5 := by rw [(h.rest t hL hlk ht).kind]; exact (ok_kind (h.rest t hL hlk ht).1).1
    refine ⟨k, hk.keep (fun x hx h5 => ?_) (fun x hx h5 => ?_)⟩
    · have hne : x ≠ t := fun e => htk (e ▸ h5)
      have h2 := hT.two x hx
      have hf := hfit x hx
      have ha := hapart x hx hne
      rw [hold _ (by omega) (ha x (by omega) (by omega)).1 (ha x (by omega) (by omega)).2, hold _ (by omega) (ha (x + 1) (by omega) (by omega)).1 (ha (x + 1) (by omega) (by omega)).2]
      exact ⟨h5, rfl⟩
    · by_cases hne : x = t
      · subst hne
        rw [upd_other _ _ (by omega), upd_same]; decide
      · have h2 := hT.two x hx
        have hf := hfit x hx
        have ha := hapart x hx hne x (by omega) (by omega)
        rw [hold _ (by omega) ha.1 ha.2]; exact h5
  · intro x hx
    by_cases e : x = u2
    · subst e
      rw [upd_same]
      exact ⟨fun _ => ⟨M.length, by simp, hadrM.symm⟩, fun _ => rfl⟩
    · rw [upd_other _ _ (by omega), h.mark2 x hx]
      constructor
      · rintro ⟨j, hj, rfl⟩
        exact ⟨j, by simp; omega, (hadr j hj).symm⟩
      · rintro ⟨j, hj, rfl⟩
        by_cases hj2 : j < M.length
        · exact ⟨j, hj2, hadr j hj2⟩
        · exact absurd (by rw [show j = M.length from by simp at hj; omega]; exact hadrM) e
  · intro x hx hg
    rw [upd_other _ _ (by rcases ho with ⟨rfl, rfl⟩ | ⟨rfl, rfl⟩ <;> omega)] at hg
    exact h.mark1 x hx hg

end Go.Proofs.Ytfeghobfkgimfaa
