/- Code behind other code, moved: its depths. No program here. -/
import Derived.Test.YtfeghobfkgimfaaCkPure
namespace Go.Proofs.Ytfeghobfkgimfaa

/-- An instruction, moved by so many places and globals; one that nothing comes to fails. -/
def movI (ga by_ : Nat) (d : Int) (x : InsD) : InsD :=
  if d = 0 then ⟨15, 0, 0, []⟩ else ⟨x.op, if x.op = 16 then x.a + by_ else if x.op = 1 then x.a + ga else x.a, x.b, x.t.map fun q => (q.1, q.2 + (by_ : Int))⟩
/-- One code behind another. -/
def movC (A B : CodeD) (d : Nat → Int) : CodeD :=
  ⟨A.gl + B.gl, fun g => if g < A.gl then A.ar g else B.ar (g - A.gl), fun g => if g < A.gl then A.en g else B.en (g - A.gl) + A.ni, A.ni + B.ni, fun p => if p < A.ni then A.ins p else movI A.gl A.ni (d (p - A.ni)) (B.ins (p - A.ni))⟩
def arOk (C : CodeD) : Prop := ∀ g, g < C.gl → 0 ≤ C.ar g ∧ C.ar g ≤ 255

theorem behindL_any {x : InsD} {at_ d d' : Int} {c : ComD} (h : c ∈ behindL x at_ d) : ∃ c' ∈ behindL x at_ d', c'.p = c.p := by
  unfold behindL at h ⊢
  split at h
  · simp at h
  · rename_i h1
    rw [if_neg h1]
    split at h
    · rename_i h2
      rw [if_pos h2]
      simp at h
      exact ⟨⟨x.a, d', at_⟩, by simp, by rw [h]⟩
    · rename_i h2
      rw [if_neg h2]
      split at h
      · rename_i h3
        rw [if_pos h3]
        obtain ⟨q, hq, rfl⟩ := List.mem_map.1 h
        exact ⟨⟨q.2, d', at_⟩, List.mem_map.2 ⟨q, hq, rfl⟩, rfl⟩
      · rename_i h3
        rw [if_neg h3]
        simp at h
        exact ⟨⟨at_ + 1, d', at_⟩, by simp, by rw [h]⟩

/-- All depths that fit agree where the least ones have one. -/
theorem Least.agree {C : CodeD} {D E : Nat → Int} (h : Least C D) (ha : arOk C) (hE : Closed C E) : ∀ p, D p ≠ 0 → E p = D p := fun p hp => by
  refine (h.least (fun q => D q ≠ 0 ∧ E q = D q) ⟨fun c hc => ?_, fun q hq hs d c hc => ?_⟩ p hp).2
  · have h1 := (h.cl.ents c hc).2.2
    have h2 := (hE.ents c hc).2.2
    have h3 := entriesL_d ha hc
    exact ⟨by rw [h1]; omega, by rw [h1, h2]⟩
  · obtain ⟨h0, he⟩ := hs
    obtain ⟨c', hc', hp'⟩ := behindL_any (d' := D q + leavesF (C.ins q)) hc
    have hn := h.cl.nexts q hq h0
    have hm := (hE.nexts q hq (by rw [he]; exact h0)).2
    rw [he] at hm
    have h1 := (hn.2 c' hc').2.2
    have h2 := (hm c' hc').2.2
    have h3 := behindL_d hc'
    have h4 := hn.1.2.2.2.1
    rw [hp'] at h1 h2
    exact ⟨by rw [h1, h3]; omega, by rw [h1, h2]⟩

section
variable {A B : CodeD} {D DA : Nat → Int}
/-- The joined depths. -/
def joinD (n : Nat) (DA D : Nat → Int) : Nat → Int := fun p => if p < n then DA p else D (p - n)

theorem sat_left {n m : Nat} {DA D : Nat → Int} {c : ComD} (h : sat n DA c) : sat (n + m) (joinD n DA D) c := by
  obtain ⟨h1, h2, h3⟩ := h
  refine ⟨h1, by omega, ?_⟩
  unfold joinD
  rw [if_pos (by omega)]; exact h3
theorem sat_right {n m : Nat} {DA D : Nat → Int} {c : ComD} (h : sat m D c) (o : Int) : sat (n + m) (joinD n DA D) ⟨c.p + n, c.d, o⟩ := by
  obtain ⟨h1, h2, h3⟩ := h
  refine ⟨by show 0 ≤ c.p + n; omega, by show c.p + n < ((n + m : Nat) : Int); omega, ?_⟩
  show joinD n DA D (c.p + n).toNat = c.d
  unfold joinD
  rw [if_neg (by omega), show (c.p + (n : Int)).toNat - n = c.p.toNat from by omega]; exact h3

/-- What comes behind a moved instruction. -/
theorem behind_mov {ga by_ : Nat} {d : Int} {x : InsD} {q : Nat} {e : Int} {c : ComD} (hd : d ≠ 0) (h : c ∈ behindL (movI ga by_ d x) ((q + by_ : Nat) : Int) e) : ∃ c' ∈ behindL x (q : Int) e, c = ⟨c'.p + by_, c'.d, ((q + by_ : Nat) : Int)⟩ := by
  unfold movI at h
  rw [if_neg hd] at h
  unfold behindL at h ⊢
  dsimp only at h
  split at h
  · simp at h
  · rename_i h1
    rw [if_neg h1]
    split at h
    · rename_i h2
      rw [if_pos h2]
      simp [h2] at h
      exact ⟨⟨x.a, e, q⟩, by simp, by rw [h]; simp⟩
    · rename_i h2
      rw [if_neg h2]
      split at h
      · rename_i h3
        rw [if_pos h3]
        rw [List.map_map] at h
        obtain ⟨r, hr, rfl⟩ := List.mem_map.1 h
        exact ⟨⟨r.2, e, q⟩, List.mem_map.2 ⟨r, hr, rfl⟩, rfl⟩
      · rename_i h3
        rw [if_neg h3]
        simp at h
        refine ⟨⟨q + 1, e, q⟩, by simp, ?_⟩
        rw [h]
        simp; omega
theorem behind_mov' {ga by_ : Nat} {d : Int} {x : InsD} {q : Nat} {e : Int} {c : ComD} (hd : d ≠ 0) (h : c ∈ behindL x (q : Int) e) : ⟨c.p + by_, c.d, ((q + by_ : Nat) : Int)⟩ ∈ behindL (movI ga by_ d x) ((q + by_ : Nat) : Int) e := by
  unfold movI
  rw [if_neg hd]
  unfold behindL at h ⊢
  dsimp only
  split at h
  · simp at h
  · rename_i h1
    rw [if_neg h1]
    split at h
    · rename_i h2
      rw [if_pos h2, if_pos h2]
      simp at h
      rw [h]; simp
    · rename_i h2
      rw [if_neg h2]
      split at h
      · rename_i h3
        rw [if_pos h3, List.map_map]
        obtain ⟨r, hr, rfl⟩ := List.mem_map.1 h
        exact List.mem_map.2 ⟨r, hr, rfl⟩
      · rename_i h3
        rw [if_neg h3]
        simp at h
        rw [h]
        simp; omega

theorem pairs_mov {op : Int} {t : List (Int × Int)} {by_ n : Nat} (h : pairsOk op t) (hn : by_ + n ≤ 65536) (hs : ∀ q ∈ t, q.2 < (n : Int)) : pairsOk op (t.map fun q => (q.1, q.2 + (by_ : Int))) := by
  have hg : ∀ i, i < t.length → (t.map fun q => (q.1, q.2 + (by_ : Int))).getD i (0, 0) = ((t.getD i (0, 0)).1, (t.getD i (0, 0)).2 + (by_ : Int)) := fun i hi => by
    simp [List.getD_eq_getElem?_getD, List.getElem?_map, List.getElem?_eq_getElem hi]
  have hm : ∀ i (hi : i < t.length), t.getD i (0, 0) ∈ t := fun i hi => by
    simp [List.getD_eq_getElem?_getD, List.getElem?_eq_getElem hi]
  obtain ⟨h1, h2, h3, h4⟩ := h
  refine ⟨by simpa using h1, by simpa using h2, fun e => ?_, fun i hi => ?_⟩
  · rw [hg 0 (by omega)]; exact h3 e
  · have hi' : i < t.length := by simpa using hi
    obtain ⟨p1, p2⟩ := h4 i hi'
    unfold pairOk
    rw [hg i hi']
    refine ⟨?_, ?_⟩
    · have := hs _ (hm i hi')
      show 0 ≤ (t.getD i (0, 0)).2 + (by_ : Int) ∧ (t.getD i (0, 0)).2 + (by_ : Int) ≤ 65536
      omega
    · by_cases h0 : 0 < i
      · rw [hg (i - 1) (by omega)]; exact p2
      · have : i = 0 := by omega
        subst this
        have h00 : (0 : Nat) - 1 = 0 := rfl
        rw [h00, hg 0 hi']
        exact p2

/-- A moved instruction is as right as it was. -/
theorem right_mov {ga bgl by_ n : Nat} {d : Int} {x : InsD} {q : Nat} {e : Int} {D : Nat → Int} (hd : d ≠ 0) (h : rightF x = true) (hn : by_ + n ≤ 65536) (hg : ga + bgl ≤ 65536) (ha : x.op ≠ 1 ∨ x.a < bgl) (hs : ∀ c ∈ behindL x (q : Int) e, sat n D c) :
    rightF (movI ga by_ d x) = true ∧ readsF (movI ga by_ d x) = readsF x ∧ leavesF (movI ga by_ d x) = leavesF x := by
  have hok := rightF_true.1 h
  have key : rightOk (movI ga by_ d x) ∧ (movI ga by_ d x).op = x.op ∧ (movI ga by_ d x).b = x.b ∧ ((movI ga by_ d x).a = x.a ∨ ((formD x.op.toNat).ra = 0 ∧ (formD x.op.toNat).la = 0)) := by
    unfold movI
    rw [if_neg hd]
    refine ⟨?_, rfl, rfl, ?_⟩
    · by_cases h16 : x.op = 16
      · obtain ⟨k1, k2, k3, k4, k5⟩ := hok
        have e16 : x.op.toNat = 16 := by omega
        have hsa := hs ⟨x.a, e, q⟩ (by unfold behindL; rw [if_neg (by omega), if_pos h16]; simp)
        have hlt : x.a < (n : Int) := hsa.2.1
        have h0 : 0 ≤ x.a := hsa.1
        have ht : x.t = [] := k4 (by rw [e16]; decide)
        have hb : x.b = 0 := k2 (by rw [e16]; decide)
        unfold rightOk
        simp only [h16, if_pos, ht, List.map_nil, hb]
        simp [formD]
        omega
      · by_cases h1 : x.op = 1
        · obtain ⟨k1, k2, k3, k4, k5⟩ := hok
          have e1 : x.op.toNat = 1 := by omega
          have ht : x.t = [] := k4 (by rw [e1]; decide)
          have hb : x.b = 0 := k2 (by rw [e1]; decide)
          rw [e1] at k5
          simp [formD, h1] at k5
          have hlt : x.a < (bgl : Int) := by omega
          unfold rightOk
          simp only [h1, ht, List.map_nil, hb]
          simp [formD]
          omega
        · rw [if_neg h16, if_neg h1]
          by_cases h11 : x.op = 11 ∨ x.op = 13
          · obtain ⟨k1, k2, k3, k4, k5⟩ := hok
            have hnu : (formD x.op.toNat).nu < 0 := by rcases h11 with h | h <;> rw [h] <;> decide
            rw [if_pos hnu] at k5
            refine ⟨k1, k2, k3, fun h => ?_, ?_⟩
            · exact absurd h (by show ¬ 0 ≤ (formD x.op.toNat).nu; omega)
            · show (if (formD x.op.toNat).nu < 0 then _ else _)
              rw [if_pos hnu]
              refine pairs_mov k5 hn (fun p hp => ?_)
              have := hs ⟨p.2, e, q⟩ (by unfold behindL; rw [if_neg (by omega), if_neg h16, if_pos h11]; exact List.mem_map.2 ⟨p, hp, rfl⟩)
              exact this.2.1
          · have hnu : 0 ≤ (formD x.op.toNat).nu := by
              obtain ⟨k, hk, hk2⟩ := nat_of _ hok.1
              have hk11 : k ≠ 11 ∧ k ≠ 13 := by omega
              rw [show x.op.toNat = k from by omega]
              revert hk11
              exact lt17 (P := fun k => k ≠ 11 ∧ k ≠ 13 → 0 ≤ (formD k).nu) (by decide) (by decide) (by decide) (by decide) (by decide) (by decide) (by decide) (by decide) (by decide) (by decide) (by decide) (by decide) (by decide) (by decide) (by decide) (by decide) (by decide) k hk2
            have ht : x.t = [] := hok.2.2.2.1 hnu
            have e : (⟨x.op, x.a, x.b, x.t.map fun q => (q.1, q.2 + (by_ : Int))⟩ : InsD) = x := by
              obtain ⟨o, a, b, t⟩ := x
              simp only at ht
              subst ht
              rfl
            rw [e]; exact hok
    · by_cases h16 : x.op = 16
      · right; rw [h16]; decide
      · by_cases h1 : x.op = 1
        · right; rw [h1]; decide
        · left; rw [if_neg h16, if_neg h1]
  obtain ⟨k0, k1, k2, k3⟩ := key
  have kr := rightF_true.2 k0
  refine ⟨kr, ?_, ?_⟩
  · unfold readsF
    rw [if_pos kr, if_pos h, k1, k2]
    rcases k3 with k3 | ⟨k3, _⟩
    · rw [k3]
    · rw [k3]; omega
  · unfold leavesF
    rw [if_pos kr, if_pos h, k1, k2]
    rcases k3 with k3 | ⟨_, k3⟩
    · rw [k3]
    · rw [k3]; omega

theorem ent_left {g : Nat} (h : g < A.gl) : (⟨A.en g, A.ar g + 1, A.en g⟩ : ComD) ∈ entriesL A := List.mem_map.2 ⟨g, List.mem_range.2 h, rfl⟩

/-- The joined depths fit the code behind the code. -/
theorem moved_closed (hA : Closed A DA) (hB : Least B D) (hn : A.ni + B.ni ≤ 65536) (hg : A.gl + B.gl ≤ 65536) : Closed (movC A B D) (joinD A.ni DA D) := by
  refine ⟨fun c hc => ?_, fun p hp h0 => ?_⟩
  · obtain ⟨g, hg2, rfl⟩ := List.mem_map.1 hc
    have hg3 : g < A.gl + B.gl := List.mem_range.1 hg2
    by_cases h : g < A.gl
    · have := sat_left (m := B.ni) (D := D) (hA.ents _ (ent_left h))
      simpa [movC, h] using this
    · have := sat_right (n := A.ni) (DA := DA) (hB.cl.ents _ (ent_left (A := B) (g := g - A.gl) (by omega))) (B.en (g - A.gl) + A.ni)
      simpa [movC, h] using this
  · have hp2 : p < A.ni + B.ni := hp
    by_cases h : p < A.ni
    · have hj : joinD A.ni DA D p = DA p := by unfold joinD; rw [if_pos h]
      rw [hj] at h0 ⊢
      have hi : (movC A B D).ins p = A.ins p := by show (if p < A.ni then _ else _) = _; rw [if_pos h]
      obtain ⟨m, hs⟩ := hA.nexts p h h0
      rw [hi]
      refine ⟨?_, fun c hc => sat_left (hs c hc)⟩
      unfold mayP at m ⊢
      rw [hi]
      refine ⟨m.1, m.2.1, ?_, m.2.2.2⟩
      rcases m.2.2.1 with h | h
      · exact .inl h
      · exact .inr (by show (A.ins p).a < ((A.gl + B.gl : Nat) : Int); omega)
    · obtain ⟨q, rfl⟩ : ∃ q, p = q + A.ni := ⟨p - A.ni, by omega⟩
      have hq : q < B.ni := by omega
      have hj : joinD A.ni DA D (q + A.ni) = D q := by unfold joinD; rw [if_neg h, Nat.add_sub_cancel]
      rw [hj] at h0 ⊢
      have hi : (movC A B D).ins (q + A.ni) = movI A.gl A.ni (D q) (B.ins q) := by show (if q + A.ni < A.ni then _ else _) = _; rw [if_neg h, Nat.add_sub_cancel]
      obtain ⟨m, hs⟩ := hB.cl.nexts q hq h0
      have hr := right_mov (d := D q) (ga := A.gl) (bgl := B.gl) (by_ := A.ni) h0 m.1 hn hg m.2.2.1 hs
      rw [hi]
      refine ⟨?_, fun c hc => ?_⟩
      · unfold mayP at m ⊢
        rw [hi, hr.1, hr.2.1, hr.2.2]
        refine ⟨rfl, m.2.1, ?_, m.2.2.2⟩
        by_cases h1 : (B.ins q).op = 1
        · right
          have hlt : (B.ins q).a < B.gl := by rcases m.2.2.1 with h | h; exact absurd h1 h; exact h
          have ea : (movI A.gl A.ni (D q) (B.ins q)).a = (B.ins q).a + A.gl := by unfold movI; rw [if_neg h0]; simp [h1]
          rw [ea]
          show (B.ins q).a + (A.gl : Int) < ((A.gl + B.gl : Nat) : Int)
          omega
        · left
          have eo : (movI A.gl A.ni (D q) (B.ins q)).op = (B.ins q).op := by unfold movI; rw [if_neg h0]
          rw [eo]; exact h1
      · rw [hr.2.2] at hc
        obtain ⟨c', hc', rfl⟩ := behind_mov h0 hc
        exact sat_right (hs c' hc') _

/-- The code behind the code has its depths, moved. -/
theorem moved_depths (hA : Closed A DA) (haA : arOk A) (hB : Least B D) (haB : arOk B) (hn : A.ni + B.ni ≤ 65536) (hg : A.gl + B.gl ≤ 65536) {E : Nat → Int} (hE : Least (movC A B D) E) (i : Nat) (hi : i < B.ni) : E (A.ni + i) = D i := by
  have haC : arOk (movC A B D) := fun g hg2 => by
    have hg3 : g < A.gl + B.gl := hg2
    show 0 ≤ (if g < A.gl then _ else _) ∧ (if g < A.gl then _ else _) ≤ 255
    by_cases h : g < A.gl
    · rw [if_pos h]; exact haA g h
    · rw [if_neg h]; exact haB _ (by omega)
  have hcl := moved_closed hA hB hn hg
  have hag := hE.agree haC hcl
  have hjoin : ∀ q, joinD A.ni DA D (q + A.ni) = D q := fun q => by unfold joinD; rw [if_neg (by omega), Nat.add_sub_cancel]
  have hnz : ∀ q, D q ≠ 0 → E (q + A.ni) ≠ 0 := fun q hq => by
    refine hB.least (fun q => E (q + A.ni) ≠ 0) ⟨fun c hc => ?_, fun p hp h0 d c hc => ?_⟩ q hq
    · obtain ⟨g, hg2, rfl⟩ := List.mem_map.1 hc
      have hg3 : g < B.gl := List.mem_range.1 hg2
      have hs := hB.cl.ents _ hc
      have hcE := hE.cl.ents ⟨B.en g + A.ni, B.ar g + 1, B.en g + A.ni⟩ (List.mem_map.2 ⟨A.gl + g, List.mem_range.2 (by show A.gl + g < A.gl + B.gl; omega), by simp only [movC]; rw [if_neg (show ¬ A.gl + g < A.gl by omega), if_neg (show ¬ A.gl + g < A.gl by omega), Nat.add_sub_cancel_left]⟩)
      have h1 := hcE.2.2
      have h2 : 0 ≤ B.en g := hs.1
      have h3 := haB g hg3
      show E ((B.en g).toNat + A.ni) ≠ 0
      rw [show (B.en g).toNat + A.ni = (B.en g + (A.ni : Int)).toNat from by omega]
      rw [h1]
      show B.ar g + 1 ≠ 0
      omega
    · have hd0 : D p ≠ 0 := by
        have := hag (p + A.ni) h0
        rw [hjoin] at this
        rw [this]; exact h0
      have hq2 : p + A.ni < (movC A B D).ni := by show p + A.ni < A.ni + B.ni; omega
      have hins : (movC A B D).ins (p + A.ni) = movI A.gl A.ni (D p) (B.ins p) := by show (if p + A.ni < A.ni then _ else _) = _; rw [if_neg (by omega), Nat.add_sub_cancel]
      have hnx := (hE.cl.nexts _ hq2 h0)
      rw [hins] at hnx
      obtain ⟨c', hc', hp'⟩ := behindL_any (d' := E (p + A.ni) + leavesF (movI A.gl A.ni (D p) (B.ins p))) hc
      have hm := behind_mov' (ga := A.gl) (by_ := A.ni) hd0 hc'
      have hs := hnx.2 _ hm
      have h1 := hs.2.2
      have hmay := hnx.1
      unfold mayP at hmay
      rw [hins] at hmay
      have h4 := hmay.2.2.2.1
      have h5 := behindL_d hc'
      have hsB := (hB.cl.nexts p hp hd0).2
      obtain ⟨c2, hc2, hp2⟩ := behindL_any (d' := D p + leavesF (B.ins p)) hc
      have h6 := (hsB c2 hc2).1
      rw [hp2] at h6
      show E (c.p.toNat + A.ni) ≠ 0
      have h1' : E (c'.p + (A.ni : Int)).toNat = c'.d := h1
      rw [hp'] at h1'
      rw [show c.p.toNat + A.ni = (c.p + (A.ni : Int)).toNat from by omega, h1', h5]
      omega
  rw [Nat.add_comm A.ni i]
  by_cases h0 : E (i + A.ni) = 0
  · rw [h0]
    by_cases hd : D i = 0
    · exact hd.symm
    · exact absurd h0 (hnz i hd)
  · have := hag (i + A.ni) h0
    rw [hjoin] at this
    exact this.symm
end
end Go.Proofs.Ytfeghobfkgimfaa
