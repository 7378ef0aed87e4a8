/- Collect's scan: what holds between two nodes, and between two args of a node. -/
import Derived.Test.YtfeghobfkgimfaaCollB
namespace Go.Proofs.Ytfeghobfkgimfaa
open Go.RowKit

abbrev argsOf (nd : Nat → Nd) : Nat → List Nat := fun p => (nd p).2.2

section
variable (W1 : World) (n o1 o2 u1 c1 b cb gb : Nat) (L : List Nat) (sz lk : Nat → Nat) (nd : Nat → Nd) (M0 : List Nat) (out : Value) (R : Nat) (OUT : List Value)

/-- i nodes have been scanned. -/
structure Scan (i : Nat) (M : List Nat) (acc : List (List Nat)) : Prop where
  le : i ≤ M.length
  len : acc.length = i
  run : bfs lk (argsOf nd) (L.length + 1) 0 M0 [] = bfs lk (argsOf nd) (L.length + 1 - i) i M acc
  lt : ∀ l ∈ acc, ∀ x ∈ l, x < M.length
  pre : ∃ r, M = M0 ++ r

def Loop2 (i at_ : Nat) (M : List Nat) (acc : List (List Nat)) (wr : World) : Prop :=
  Scan L lk nd M0 i M acc ∧ at_ = Adr sz M i ∧ ∃ cont C G u2, (∀ x, x < i → cont x = adrs sz M (acc.getD x [])) ∧ (∀ x, i ≤ x → x < M.length → cont x = cN nd M x) ∧
    Chey n o1 o2 u1 L sz lk nd M cont C G u2 ∧ HRows W1 wr b cb gb (2 * n) (topV cb gb n o1 u1 c1 o2 u2 M.length) C G ∧ wr.ownsRow W1.heap.size 3 1 out R OUT

def Loop3 (t0 : Nat) (i : Nat) (M : List Nat) (acc : List (List Nat)) (j : Nat) (wr : World) : Prop :=
  ∃ cont C G u2, (∀ x, x < i → cont x = adrs sz M (acc.getD x [])) ∧ cont i = adrs sz (meetAll M (((argsOf nd t0).take j).map lk)).2 (meetAll M (((argsOf nd t0).take j).map lk)).1 ++ (ints (argsOf nd t0)).drop j ∧
    (∀ x, i < x → x < (meetAll M (((argsOf nd t0).take j).map lk)).2.length → cont x = cN nd (meetAll M (((argsOf nd t0).take j).map lk)).2 x) ∧
    Chey n o1 o2 u1 L sz lk nd (meetAll M (((argsOf nd t0).take j).map lk)).2 cont C G u2 ∧
    HRows W1 wr b cb gb (2 * n) (topV cb gb n o1 u1 c1 o2 u2 (meetAll M (((argsOf nd t0).take j).map lk)).2.length) C G ∧ wr.ownsRow W1.heap.size 3 1 out R OUT

variable {W1 n o1 o2 u1 c1 b cb gb L sz lk nd M0 out R OUT}

theorem sum_ones : ∀ l : List Nat, (l.map fun _ => 1).sum = l.length := by
  intro l
  induction l with
  | nil => rfl
  | cons _ l ih => rw [List.map_cons, List.sum_cons, ih, List.length_cons]; omega
theorem Chey.lenle {M : List Nat} {cont : Nat → List Int} {C : Nat → Int} {G : Nat → Bool} {u2 : Nat} (h : Chey n o1 o2 u1 L sz lk nd M cont C G u2) : M.length ≤ L.length := by
  have := sum_subset (fun _ => 1) M L h.nodup (fun p hp => (h.inL p hp).1)
  rw [sum_ones, sum_ones] at this
  exact this

theorem Loop2.begin {rs : List Nat} {wr : World} (h : Loop1 W1 n o1 o2 u1 c1 b cb gb L sz lk nd rs rs.length out wr) :
    Loop2 W1 n o1 o2 u1 c1 b cb gb L sz lk nd (meetAll [] (rs.map lk)).2 out rs.length ((adrs sz (meetAll [] (rs.map lk)).2 (meetAll [] (rs.map lk)).1).map (Value.int .i64)) 0 0 (meetAll [] (rs.map lk)).2 [] wr := by
  obtain ⟨C, G, u2, h1, h2, h3⟩ := h
  rw [List.take_length] at h1 h2 h3
  exact ⟨⟨Nat.zero_le _, rfl, rfl, by simp, [], by simp⟩, by simp [Adr], _, C, G, u2, fun x hx => absurd hx (by omega), fun _ _ _ => rfl, h1, h2, h3⟩

theorem Loop3.begin {i at_ : Nat} {M : List Nat} {acc : List (List Nat)} {wr : World} (hi : i < M.length) {t0 : Nat} (ht0 : M[i]? = some t0) (h : Loop2 W1 n o1 o2 u1 c1 b cb gb L sz lk nd M0 out R OUT i at_ M acc wr) :
    Loop3 W1 n o1 o2 u1 c1 b cb gb L sz lk nd out R OUT t0 i M acc 0 wr := by
  obtain ⟨hs, hat, cont, C, G, u2, h1, h2, h3, h4, h5⟩ := h
  refine ⟨cont, C, G, u2, h1, ?_, ?_, by simpa [meetAll] using h3, by simpa [meetAll] using h4, h5⟩
  · rw [h2 i (Nat.le_refl _) hi]; simp [meetAll, adrs, cN, ht0]
  · intro x hx hl
    simp only [List.take_zero, List.map_nil, meetAll] at hl ⊢
    exact h2 x (by omega) hl

theorem Loop3.drewN {t0 i j : Nat} {M : List Nat} {acc : List (List Nat)} {wr : World} (h : Loop3 W1 n o1 o2 u1 c1 b cb gb L sz lk nd out R OUT t0 i M acc j wr) (q : Nat) : Loop3 W1 n o1 o2 u1 c1 b cb gb L sz lk nd out R OUT t0 i M acc j (wr.drewN q) := by
  obtain ⟨cont, C, G, u2, h1, h2, h3, h4, h5, h6⟩ := h
  exact ⟨cont, C, G, u2, h1, h2, h3, h4, h5.drewN q, own_drewN h6 _⟩

theorem Loop3.fin {i at_ : Nat} {M : List Nat} {acc : List (List Nat)} {wr : World} (hi : i < M.length) {t0 : Nat} (ht0 : M[i]? = some t0) (hl : M.length ≤ L.length) (hs : Scan L lk nd M0 i M acc) (hat : at_ = Adr sz M i)
    (h : Loop3 W1 n o1 o2 u1 c1 b cb gb L sz lk nd out R OUT t0 i M acc (argsOf nd t0).length wr) :
    Loop2 W1 n o1 o2 u1 c1 b cb gb L sz lk nd M0 out R OUT (i + 1) (at_ + sz t0) (meetAll M ((argsOf nd t0).map lk)).2 (acc ++ [(meetAll M ((argsOf nd t0).map lk)).1]) wr := by
  obtain ⟨cont, C, G, u2, h1, h2, h3, h4, h5, h6⟩ := h
  rw [List.take_length] at h2 h3 h4 h5
  obtain ⟨r, hr⟩ := meetAll_prefix M ((argsOf nd t0).map lk)
  have hMi : t0 = M[i] := by rw [List.getElem?_eq_getElem hi] at ht0; injection ht0 with h; exact h.symm
  have hlt := meetAll_lt M ((argsOf nd t0).map lk)
  refine ⟨⟨?_, ?_, ?_, ?_, ?_⟩, ?_, cont, C, G, u2, ?_, ?_, h4, h5, h6⟩
  · rw [hr]; simp; omega
  · simp [hs.len]
  · rw [hs.run]
    have e : L.length + 1 - i = (L.length + 1 - (i + 1)) + 1 := by omega
    rw [e]
    subst hMi
    simp only [bfs, hi, dif_pos]
  · intro l hl x hx
    rcases List.mem_append.1 hl with hl | hl
    · have := hs.lt l hl x hx
      rw [hr]; simp; omega
    · simp at hl; subst hl
      exact hlt x hx
  · obtain ⟨r0, hr0⟩ := hs.pre
    exact ⟨r0 ++ r, by rw [hr]; conv => lhs; rw [hr0]
                       rw [List.append_assoc]⟩
  · rw [hr, Adr_ext sz M r _ (by omega), Adr_succ sz M i hi, hat, hMi]
  · intro x hx
    by_cases e : x < i
    · have hx' : x < acc.length := by rw [hs.len]; exact e
      rw [h1 x e, hr]
      have e3 : (acc ++ [(meetAll M ((argsOf nd t0).map lk)).1]).getD x [] = acc.getD x [] := by
        simp only [List.getD_eq_getElem?_getD]; rw [List.getElem?_append_left hx']
      rw [e3, adrs_ext sz M r]
      intro y hy
      exact hs.lt (acc.getD x []) (by simp [hx']) y hy
    · have e2 : x = i := by omega
      subst e2
      rw [h2]
      have hx' : ¬ x < acc.length := by rw [hs.len]; omega
      have e3 : (acc ++ [(meetAll M ((argsOf nd t0).map lk)).1]).getD x [] = (meetAll M ((argsOf nd t0).map lk)).1 := by
        simp only [List.getD_eq_getElem?_getD]; rw [List.getElem?_append_right (by omega), hs.len]; simp
      rw [e3, List.drop_of_length_le (by rw [ints_length]; exact Nat.le_refl _), List.append_nil]
  · intro x hx hl
    exact h3 x (by omega) hl

theorem Loop3.step {i j : Nat} {M : List Nat} {acc : List (List Nat)} {wr w1 : World} {e : Ending} {q : Int} {cont : Nat → List Int} {C : Nat → Int} {G : Nat → Bool} {u2 : Nat} (hc : Cst n o1 o2 u1 L sz lk nd) (hi : i < M.length) {t0 : Nat} (ht0 : M[i]? = some t0) (hj : j < (argsOf nd t0).length)
    (h1 : ∀ x, x < i → cont x = adrs sz M (acc.getD x [])) (h2 : cont i = adrs sz (meetAll M (((argsOf nd t0).take j).map lk)).2 (meetAll M (((argsOf nd t0).take j).map lk)).1 ++ (ints (argsOf nd t0)).drop j)
    (h3 : ∀ x, i < x → x < (meetAll M (((argsOf nd t0).take j).map lk)).2.length → cont x = cN nd (meetAll M (((argsOf nd t0).take j).map lk)).2 x)
    (hch : Chey n o1 o2 u1 L sz lk nd (meetAll M (((argsOf nd t0).take j).map lk)).2 cont C G u2)
    (hr : HRows W1 wr b cb gb (2 * n) (topV cb gb n o1 u1 c1 o2 u2 (meetAll M (((argsOf nd t0).take j).map lk)).2.length) C G) (ho : wr.ownsRow W1.heap.size 3 1 out R OUT) (hb : b < W1.heap.size) (hcb : cb < W1.heap.size) (hgb : gb < W1.heap.size)
    (hf : FwdV wr n o1 o2 u1 c1 b cb gb L sz lk nd (meetAll M (((argsOf nd t0).take j).map lk)).2 cont (lk (argsOf nd t0)[j]) e w1) (he : e = .returned (.int .i64 q)) :
    Loop3 W1 n o1 o2 u1 c1 b cb gb L sz lk nd out R OUT t0 i M acc (j + 1) (w1.setCell ⟨cb, o2 + Adr sz M i + argOff (nd t0).1 + j, none⟩ (.int .i64 q)) := by
  obtain ⟨C', G', u2', hq, hch', hr'⟩ := hf
  rw [he] at hq
  generalize hP : meetAll M (((argsOf nd t0).take j).map lk) = P at *
  have hMi : t0 = M[i] := by rw [List.getElem?_eq_getElem hi] at ht0; injection ht0 with h; exact h.symm
  obtain ⟨r, hpre⟩ := meetF_prefix P.2 (lk (argsOf nd t0)[j])
  obtain ⟨r0, hpre0⟩ := meetAll_prefix M (((argsOf nd t0).take j).map lk)
  rw [hP] at hpre0
  have hle0 : M.length ≤ P.2.length := by rw [hpre0]; simp
  have hleF : P.2.length ≤ (meetF P.2 (lk (argsOf nd t0)[j])).2.length := by rw [hpre]; simp
  have hPl : P.1.length = j := by have := meetAll_length M (((argsOf nd t0).take j).map lk); rw [hP] at this; rw [this]; simp; omega
  have hPlt : ∀ x ∈ P.1, x < P.2.length := by have := meetAll_lt M (((argsOf nd t0).take j).map lk); rw [hP] at this; exact this
  have e1 : meetAll M (((argsOf nd t0).take (j + 1)).map lk) = (P.1 ++ [(meetF P.2 (lk (argsOf nd t0)[j])).1], (meetF P.2 (lk (argsOf nd t0)[j])).2) := by
    rw [take_succ_map lk _ j hj, meetAll_snoc, hP]
  have hq' : q = ((Adr sz (meetF P.2 (lk (argsOf nd t0)[j])).2 (meetF P.2 (lk (argsOf nd t0)[j])).1 : Nat) : Int) := by
    injection hq with hq; injection hq
  have hi' : i < (meetF P.2 (lk (argsOf nd t0)[j])).2.length := by omega
  have hci : contF nd cont P.2 (lk (argsOf nd t0)[j]) i = cont i := if_neg (by omega)
  have hclen : (cont i).length = (argsOf nd t0).length := by rw [h2]; simp [adrs_length, ints_length, hPl]; omega
  have hw := hch'.write hc hi' (j := j) (by rw [hci, hclen]; exact hj) q
  have hM' : (meetF P.2 (lk (argsOf nd t0)[j])).2[i] = t0 := by
    have hx : (meetF P.2 (lk (argsOf nd t0)[j])).2[i]? = M[i]? := by
      rw [hpre, List.getElem?_append_left (by omega), hpre0, List.getElem?_append_left hi]
    rw [List.getElem?_eq_getElem hi', ht0] at hx
    injection hx
  have hadr : Adr sz (meetF P.2 (lk (argsOf nd t0)[j])).2 i = Adr sz M i := by rw [hpre, Adr_ext sz P.2 r i (by omega), hpre0, Adr_ext sz M r0 i (by omega)]
  simp only [hM', hadr] at hw
  unfold Loop3
  rw [e1]
  refine ⟨fun x => if x = i then (contF nd cont P.2 (lk (argsOf nd t0)[j]) i).set j q else contF nd cont P.2 (lk (argsOf nd t0)[j]) x, _, _, _, ?_, ?_, ?_, hw, (hr'.after hr.tu).setC _ q, ?_⟩
  · intro x hx
    simp only
    rw [if_neg (by omega)]
    have : contF nd cont P.2 (lk (argsOf nd t0)[j]) x = cont x := if_neg (by omega)
    rw [this]; exact h1 x hx
  · simp only [if_pos]
    rw [hci, h2]
    have e4 : adrs sz (meetF P.2 (lk (argsOf nd t0)[j])).2 (P.1 ++ [(meetF P.2 (lk (argsOf nd t0)[j])).1]) = adrs sz P.2 P.1 ++ [q] := by
      rw [hq', ← adrs_ext sz P.2 r P.1 hPlt, ← hpre]; simp [adrs]
    rw [e4]
    have e5 : (ints (argsOf nd t0)).drop j = (ints (argsOf nd t0))[j]'(by rw [ints_length]; exact hj) :: (ints (argsOf nd t0)).drop (j + 1) := List.drop_eq_getElem_cons _
    rw [e5]
    have hlen : (adrs sz P.2 P.1).length = j := by rw [adrs_length, hPl]
    rw [List.set_append_right _ _ (by omega), hlen, Nat.sub_self, List.set_cons_zero, List.append_assoc]
    rfl
  · intro x hx hl
    simp only at hl ⊢
    rw [if_neg (by omega)]
    by_cases e : x < P.2.length
    · have : contF nd cont P.2 (lk (argsOf nd t0)[j]) x = cont x := if_neg (by omega)
      rw [this, h3 x hx e]
      unfold cN
      rw [hpre]
      simp only [List.getD_eq_getElem?_getD]
      rw [List.getElem?_append_left e]
    · rw [contF_cN hl]
      by_cases e2 : x = P.2.length
      · subst e2; unfold contF; rw [if_pos rfl, if_pos rfl]
      · exfalso
        have : (meetF P.2 (lk (argsOf nd t0)[j])).2.length ≤ P.2.length + 1 := by unfold meetF; split <;> simp
        omega
  · have ho' := own_turns ho hr'.tu (fun x hx => by have := (ho.lt x hx).1; rintro (e | e | e) <;> omega)
    exact own_far ho' (fun hx => by have := (ho.lt _ hx).1; omega) _
end
end Go.Proofs.Ytfeghobfkgimfaa
