/- (*Heap).forward in the words of the copy. -/
import Derived.Test.YtfeghobfkgimfaaChey
import Derived.Test.YtfeghobfkgimfaaForward
namespace Go.Proofs.Ytfeghobfkgimfaa
open Go.RowKit

/-- What stays the same through a copy. -/
structure Cst (n o1 o2 u1 : Nat) (L : List Nat) (sz lk : Nat → Nat) (nd : Nat → Nd) : Prop where
  hn : n ≤ 1048576
  tiles : Tiles L sz u1
  hu : u1 ≤ n
  ho : (o1 = 0 ∧ o2 = n) ∨ (o1 = n ∧ o2 = 0)
  lk2 : ∀ p ∈ L, lk p ∈ L ∧ lk (lk p) = lk p
  len : ∀ p ∈ L, lk p = p → (enc (nd p).1 (nd p).2.1 (ints (nd p).2.2)).length = sz p
  args : ∀ p ∈ L, lk p = p → ∀ a ∈ (nd p).2.2, a ∈ L

theorem two_le_sum (sz : Nat → Nat) : ∀ M : List Nat, (∀ p ∈ M, 2 ≤ sz p) → 2 * M.length ≤ (M.map sz).sum := by
  intro M
  induction M with
  | nil => simp
  | cons p M ih => intro h; have h1 := h p (by simp); have h2 := ih (fun q hq => h q (by simp [hq])); simp; omega

section
variable {n o1 o2 u1 u2 : Nat} {C : Nat → Int} {G : Nat → Bool} {L M : List Nat} {sz lk : Nat → Nat} {nd : Nat → Nd} {cont : Nat → List Int}
theorem Chey.le (h : Chey n o1 o2 u1 L sz lk nd M cont C G u2) (hc : Cst n o1 o2 u1 L sz lk nd) : 2 * M.length ≤ u2 ∧ u2 ≤ u1 := by
  have h1 := two_le_sum sz M (fun p hp => hc.tiles.two p (h.inL p hp).1)
  have h2 := sum_subset sz M L h.nodup (fun p hp => (h.inL p hp).1)
  rw [hc.tiles.total, ← h.used] at h2
  rw [← h.used] at h1
  exact ⟨h1, h2⟩

theorem Chey.recont (h : Chey n o1 o2 u1 L sz lk nd M cont C G u2) {cont' : Nat → List Int} (he : ∀ j, j < M.length → cont' j = cont j) : Chey n o1 o2 u1 L sz lk nd M cont' C G u2 :=
  ⟨h.nodup, h.inL, h.used, h.moved, fun j hj => by rw [he j hj]; exact h.new j hj, h.rest, h.chain, h.mark2, h.mark1⟩

def FwdV (w0 : World) (n o1 o2 u1 c1 b cb gb : Nat) (L : List Nat) (sz lk : Nat → Nat) (nd : Nat → Nd) (M : List Nat) (cont : Nat → List Int) (t : Nat) (e : Ending) (w' : World) : Prop :=
  ∃ C' G' u2', e = .returned (.int .i64 (Adr sz (meetF M t).2 (meetF M t).1 : Nat)) ∧ Chey n o1 o2 u1 L sz lk nd (meetF M t).2 (contF nd cont M t) C' G' u2' ∧
    HRows w0 w' b cb gb (2 * n) (topV cb gb n o1 u1 c1 o2 u2' (meetF M t).2.length) C' G'

theorem forward_chey (w0 w : World) (b cb gb c1 p : Nat) (hc : Cst n o1 o2 u1 L sz lk nd) (h : Chey n o1 o2 u1 L sz lk nd M cont C G u2)
    (hr : HRows w0 w b cb gb (2 * n) (topV cb gb n o1 u1 c1 o2 u2 M.length) C G) (hp : p ∈ L) :
    Calls Try.prog 57 #[.pointer (some ⟨b, 0, none⟩), .int .i64 p] w (FwdV w0 n o1 o2 u1 c1 b cb gb L sz lk nd M cont (lk p)) := by
  obtain ⟨k, hk⟩ := h.chain p hp
  have hn := hc.hn; have hu := hc.hu
  have hplt : ∀ x ∈ L, x + 1 < n := fun x hx => by have := hc.tiles.fit x hx; have := hc.tiles.two x hx; omega
  have hch := hk.chain hplt
  have ht := hc.lk2 p hp
  have ho1 : o1 + n ≤ 2 * n := by rcases hc.ho with ⟨rfl, rfl⟩ | ⟨rfl, rfl⟩ <;> omega
  have ho2 : o2 + n ≤ 2 * n := by rcases hc.ho with ⟨rfl, rfl⟩ | ⟨rfl, rfl⟩ <;> omega
  have hle := h.le hc
  by_cases hm : lk p ∈ M
  · have e : meetF M (lk p) = (M.idxOf (lk p), M) := if_pos hm
    have hmv := h.moved_at hm
    refine (forward_moved w0 w b cb gb n o1 u1 c1 o2 u2 M.length p (lk p) k C G _ hn ho1 hr hch (hplt _ ht.1) hmv.1 hmv.2).mono ?_
    rintro e' w' ⟨rfl, rfl⟩
    refine ⟨C, G, u2, by rw [e], ?_, by rw [e]; exact hr⟩
    rw [e]
    exact h.recont (fun j hj => if_neg (by omega))
  · have e : meetF M (lk p) = (M.length, M ++ [lk p]) := if_neg hm
    have hN := h.rest (lk p) ht.1 ht.2 hm
    have hlen := hc.len (lk p) ht.1 ht.2
    have hroom := h.room hc.tiles ht.1 hm
    have hfit := hc.tiles.fit (lk p) ht.1
    have h7 : C (o1 + lk p) ≠ 7 := by rw [hN.kind]; exact (ok_kind hN.1).2
    refine (forward_new w0 w b cb gb n o1 u1 c1 o2 u2 M.length p (lk p) k C G _ _ _ hn ho1 ho2 (by omega) hr hch hN (by omega) (by omega) h7).mono ?_
    rintro e' w' ⟨rfl, hr'⟩
    have hmove := h.move hc.tiles hu hc.ho hc.len ht.1 ht.2 hm
    rw [hlen] at hr'
    have e2 : (M ++ [lk p]).length = M.length + 1 := by simp
    have e3 : (Adr sz (M ++ [lk p]) M.length : Nat) = u2 := by rw [Adr_ext sz M _ _ (Nat.le_refl _), Adr_all, ← h.used]
    unfold FwdV
    rw [e]
    exact ⟨_, _, _, by rw [e3], hmove, by rw [e2]; exact hr'⟩

/-- Where a node's args begin among its cells. -/
def argOff (k : Int) : Nat := if k = 2 then 1 else 3
theorem enc_arg {k m : Int} {xs : List Int} (h : okNode k m xs) (j : Nat) (hj : j < xs.length) : argOff k + j < (enc k m xs).length ∧ ∀ h', (enc k m xs)[argOff k + j]'h' = xs[j] := by
  rcases h with ⟨rfl, rfl⟩ | ⟨rfl, h, rfl⟩ | ⟨rfl, rfl, rfl⟩ | ⟨rfl, rfl, h⟩ | ⟨rfl, h1, h2, h3⟩
  · simp at hj
  · simp at hj
  · simp at hj
  · refine ⟨by simp [argOff, enc]; omega, fun h' => ?_⟩
    simp [argOff, enc, Nat.add_comm 1 j]
  · refine ⟨by simp [argOff, enc]; omega, fun h' => ?_⟩
    simp [argOff, enc, show 3 + j = j + 1 + 1 + 1 from by omega]

theorem enc_set {k m : Int} {xs : List Int} (h : okNode k m xs) (j : Nat) (hj : j < xs.length) (v : Int) : enc k m (xs.set j v) = (enc k m xs).set (argOff k + j) v := by
  rcases h with ⟨rfl, rfl⟩ | ⟨rfl, h, rfl⟩ | ⟨rfl, rfl, rfl⟩ | ⟨rfl, rfl, h⟩ | ⟨rfl, h1, h2, h3⟩
  · simp at hj
  · simp at hj
  · simp at hj
  · simp [argOff, enc, Nat.add_comm 1 j]
  · simp [argOff, enc, show 3 + j = j + 1 + 1 + 1 from by omega]

/-- An arg written anew. -/
theorem Chey.write (h : Chey n o1 o2 u1 L sz lk nd M cont C G u2) (hc : Cst n o1 o2 u1 L sz lk nd) {i j : Nat} (hi : i < M.length) (hj : j < (cont i).length) (v : Int) :
    Chey n o1 o2 u1 L sz lk nd M (fun x => if x = i then (cont i).set j v else cont x) (upd C (o2 + Adr sz M i + argOff (nd M[i]).1 + j) v) G u2 := by
  have hu := hc.hu
  have hle := h.le hc
  have hnode : ∀ x (hx : x < M.length), (enc (nd M[x]).1 (nd M[x]).2.1 (cont x)).length = sz M[x] := fun x hx => by
    have hMx := h.inL M[x] (List.getElem_mem hx)
    have := hc.len _ hMx.1 hMx.2
    rw [enc_len (show (ints (nd M[x]).2.2).length = (cont x).length from by rw [ints_length, (h.new x hx).2])] at this
    exact this
  have hbelow : ∀ x (hx : x < M.length), Adr sz M x + sz M[x] ≤ u2 := fun x hx => by
    have := Adr_lt sz M x M.length hx (Nat.le_refl _)
    rw [Adr_all, ← h.used] at this; exact this
  have ha := enc_arg (h.new i hi).1.1 j hj
  have hni := hnode i hi
  have hbi := hbelow i hi
  have hold : ∀ x, x < n → upd C (o2 + Adr sz M i + argOff (nd M[i]).1 + j) v (o1 + x) = C (o1 + x) := fun x hx => by
    rw [upd_other]; rcases hc.ho with ⟨rfl, rfl⟩ | ⟨rfl, rfl⟩ <;> omega
  have hfit := hc.tiles.fit
  have htwo := hc.tiles.two
  refine ⟨h.nodup, h.inL, h.used, ?_, ?_, ?_, ?_, h.mark2, h.mark1⟩
  · intro x hx
    have hMx := (h.inL M[x] (List.getElem_mem hx)).1
    have := hfit _ hMx; have := htwo _ hMx
    rw [hold _ (by omega), hold _ (by omega)]
    exact h.moved x hx
  · intro x hx
    have hx0 := h.new x hx
    by_cases e : x = i
    · subst e
      simp only [if_pos]
      refine ⟨⟨ok_len (by simp) hx0.1.1, fun y hy => ?_⟩, by simp [hx0.2]⟩
      have hy' : y < (enc (nd M[x]).1 (nd M[x]).2.1 (cont x)).length := by rw [enc_len (show (cont x).length = ((cont x).set j v).length from by simp)]; exact hy
      have es := enc_set hx0.1.1 j hj v
      have hgoal : (enc (nd M[x]).1 (nd M[x]).2.1 ((cont x).set j v))[y] = ((enc (nd M[x]).1 (nd M[x]).2.1 (cont x)).set (argOff (nd M[x]).1 + j) v)[y]'(by simpa using hy') := by simp only [es]
      rw [hgoal, List.getElem_set]
      by_cases ey : argOff (nd M[x]).1 + j = y
      · subst ey
        rw [if_pos rfl, Nat.add_assoc (o2 + Adr sz M x), upd_same]
      · rw [if_neg ey, upd_other _ _ (by omega)]
        exact hx0.1.2 y hy'
    · simp only [if_neg e]
      refine ⟨⟨hx0.1.1, fun y hy => ?_⟩, hx0.2⟩
      have hnx := hnode x hx
      have hbx := hbelow x hx
      rw [upd_other]
      · exact hx0.1.2 y hy
      · rcases Nat.lt_or_gt_of_ne e with hlt | hgt
        · have := Adr_lt sz M x i hlt (by omega); omega
        · have := Adr_lt sz M i x hgt (by omega); omega
  · intro p hp hl hpM
    have hr := h.rest p hp hl hpM
    have hlp := hc.len p hp hl
    have := hfit p hp
    refine ⟨hr.1, fun y hy => ?_⟩
    rw [Nat.add_assoc o1 p y, hold _ (by omega), ← Nat.add_assoc]; exact hr.2 y hy
  · intro p hp
    obtain ⟨k, hk⟩ := h.chain p hp
    refine ⟨k, hk.keep (fun x hx h5 => ?_) (fun x hx h5 => ?_)⟩
    · have := hfit x hx; have := htwo x hx
      rw [hold _ (by omega), hold _ (by omega)]; exact ⟨h5, rfl⟩
    · have := hfit x hx; have := htwo x hx
      rw [hold _ (by omega)]; exact h5
end
end Go.Proofs.Ytfeghobfkgimfaa
