/- The depths of code: what comes, taken one by one; closed and least depths. No program here. -/
import Derived.Test.YtfeghobfkgimfaaCkDefs
namespace Go.Proofs.Ytfeghobfkgimfaa

/-- Code: how many globals, their arities and entries; how many instructions, which. -/
structure CodeD where (gl : Nat) (ar en : Nat → Int) (ni : Nat) (ins : Nat → InsD)

/-- What comes: a place, its depth, what brings it. -/
structure ComD where (p d o : Int)

def updD (D : Nat → Int) (i : Nat) (v : Int) : Nat → Int := fun j => if j = i then v else D j
def tk (n : Nat) (s : (Nat → Int) × List Nat) (c : ComD) : Option ((Nat → Int) × List Nat) :=
  if 0 ≤ c.p ∧ c.p < n then
    if s.1 c.p.toNat = 0 then some (updD s.1 c.p.toNat c.d, s.2 ++ [c.p.toNat]) else if s.1 c.p.toNat = c.d then some s else none
  else none
def tkAll (n : Nat) (s : (Nat → Int) × List Nat) : List ComD → Option ((Nat → Int) × List Nat)
  | [] => some s
  | c :: cs => (tk n s c).bind fun s' => tkAll n s' cs

theorem tkAll_append (n : Nat) (s : (Nat → Int) × List Nat) (cs ds : List ComD) : tkAll n s (cs ++ ds) = (tkAll n s cs).bind fun s' => tkAll n s' ds := by
  induction cs generalizing s with
  | nil => rfl
  | cons c cs ih =>
    simp only [List.cons_append, tkAll]
    cases tk n s c with
    | none => rfl
    | some s' => simp only [Option.bind_some]; exact ih s'
theorem tkAll_snoc (n : Nat) (s : (Nat → Int) × List Nat) (cs : List ComD) (c : ComD) : tkAll n s (cs ++ [c]) = (tkAll n s cs).bind fun s' => tk n s' c := by
  rw [tkAll_append]; congr 1; funext s'; simp [tkAll]

/-- What comes is as the depths say. -/
def sat (n : Nat) (D : Nat → Int) (c : ComD) : Prop := 0 ≤ c.p ∧ c.p < n ∧ D c.p.toNat = c.d
/-- The row holds the places that have a depth, each once. -/
structure RowOk (n : Nat) (s : (Nat → Int) × List Nat) : Prop where
  nd : s.2.Nodup
  mem : ∀ p, p ∈ s.2 ↔ s.1 p ≠ 0
  lt : ∀ p ∈ s.2, p < n

/-- What taking keeps and makes. -/
structure Tk (n : Nat) (s s' : (Nat → Int) × List Nat) (cs : List ComD) : Prop where
  ext : ∀ p, s.1 p ≠ 0 → s'.1 p = s.1 p
  row : ∃ r, s'.2 = s.2 ++ r
  sats : ∀ c ∈ cs, sat n s'.1 c
  ok : RowOk n s → RowOk n s'
  new : ∀ p, s'.1 p ≠ 0 → s.1 p ≠ 0 ∨ ∃ c ∈ cs, 0 ≤ c.p ∧ c.p.toNat = p ∧ s'.1 p = c.d

theorem tk_some {n : Nat} {s s' : (Nat → Int) × List Nat} {c : ComD} (hd : c.d ≠ 0) (h : tk n s c = some s') : Tk n s s' [c] := by
  unfold tk at h
  by_cases hp : 0 ≤ c.p ∧ c.p < n
  · rw [if_pos hp] at h
    by_cases h0 : s.1 c.p.toNat = 0
    · rw [if_pos h0] at h
      injection h with h
      subst h
      refine ⟨fun p hp0 => ?_, ⟨[c.p.toNat], rfl⟩, fun c' hc' => ?_, fun ho => ?_, fun p hp0 => ?_⟩
      · simp only [updD]; rw [if_neg (fun e => hp0 (by rw [e]; exact h0))]
      · simp at hc'; subst hc'; exact ⟨hp.1, hp.2, by simp [updD]⟩
      · refine ⟨?_, fun p => ?_, fun p hpm => ?_⟩
        · rw [List.nodup_append]
          refine ⟨ho.nd, by simp, fun x hx y hy => ?_⟩
          simp at hy; subst hy; intro e; subst e; exact (ho.mem _).1 hx h0
        · simp only [List.mem_append, List.mem_singleton, updD]
          by_cases e : p = c.p.toNat
          · simp [e, hd]
          · simp [e]; exact ho.mem p
        · rcases List.mem_append.1 hpm with h | h
          · exact ho.lt p h
          · simp at h; omega
      · simp only [updD] at hp0 ⊢
        by_cases e : p = c.p.toNat
        · right; exact ⟨c, by simp, hp.1, e.symm, by simp [e]⟩
        · left; rw [if_neg e] at hp0; exact hp0
    · rw [if_neg h0] at h
      by_cases h1 : s.1 c.p.toNat = c.d
      · rw [if_pos h1] at h
        injection h with h
        subst h
        exact ⟨fun _ _ => rfl, ⟨[], by simp⟩, fun c' hc' => by simp at hc'; subst hc'; exact ⟨hp.1, hp.2, h1⟩, id, fun p hp0 => .inl hp0⟩
      · rw [if_neg h1] at h; cases h
  · rw [if_neg hp] at h; cases h
theorem tk_none {n : Nat} {s : (Nat → Int) × List Nat} {c : ComD} (h : tk n s c = none) (E : Nat → Int) (hE : ∀ p, s.1 p ≠ 0 → E p = s.1 p) : ¬ sat n E c := by
  rintro ⟨h1, h2, h3⟩
  unfold tk at h
  rw [if_pos ⟨h1, h2⟩] at h
  by_cases h0 : s.1 c.p.toNat = 0
  · rw [if_pos h0] at h; cases h
  · rw [if_neg h0, if_pos (by rw [← hE _ h0]; exact h3)] at h; cases h

theorem Tk.trans {n : Nat} {s s1 s2 : (Nat → Int) × List Nat} {cs ds : List ComD} (h : Tk n s s1 cs) (k : Tk n s1 s2 ds) (hd : ∀ c ∈ cs, c.d ≠ 0) : Tk n s s2 (cs ++ ds) := by
  refine ⟨fun p hp => ?_, ?_, fun c hc => ?_, fun ho => k.ok (h.ok ho), fun p hp => ?_⟩
  · have h1 := h.ext p hp
    rw [k.ext p (by rw [h1]; exact hp), h1]
  · obtain ⟨r, hr⟩ := h.row; obtain ⟨r', hr'⟩ := k.row
    exact ⟨r ++ r', by rw [hr', hr, List.append_assoc]⟩
  · rcases List.mem_append.1 hc with hc | hc
    · obtain ⟨a, b, e⟩ := h.sats c hc
      exact ⟨a, b, by rw [k.ext _ (by rw [e]; exact hd c hc), e]⟩
    · exact k.sats c hc
  · rcases k.new p hp with h1 | ⟨c, hc, h2, h3, h4⟩
    · have e := k.ext p h1
      rcases h.new p h1 with h2 | ⟨c, hc, h3, h4, h5⟩
      · exact .inl h2
      · exact .inr ⟨c, List.mem_append_left _ hc, h3, h4, by rw [e, h5]⟩
    · exact .inr ⟨c, List.mem_append_right _ hc, h2, h3, h4⟩

theorem tkAll_some {n : Nat} {cs : List ComD} : ∀ {s s' : (Nat → Int) × List Nat}, (∀ c ∈ cs, c.d ≠ 0) → tkAll n s cs = some s' → Tk n s s' cs := by
  induction cs with
  | nil =>
    intro s s' _ h
    simp only [tkAll] at h
    injection h with h
    subst h
    exact ⟨fun _ _ => rfl, ⟨[], by simp⟩, fun c hc => by simp at hc, id, fun p hp => .inl hp⟩
  | cons c cs ih =>
    intro s s' hd h
    simp only [tkAll] at h
    cases h1 : tk n s c with
    | none => rw [h1] at h; cases h
    | some s1 =>
      rw [h1] at h
      exact (tk_some (hd c (by simp)) h1).trans (ih (fun c hc => hd c (by simp [hc])) h) (fun c' hc' => by simp at hc'; subst hc'; exact hd _ (by simp))

/-- Depths that agree with what has been taken, and say so of all that comes, agree still. -/
theorem Tk.compat {n : Nat} {s s' : (Nat → Int) × List Nat} {cs : List ComD} (h : Tk n s s' cs) (E : Nat → Int) (hE : ∀ p, s.1 p ≠ 0 → E p = s.1 p) (hs : ∀ c ∈ cs, sat n E c) : ∀ p, s'.1 p ≠ 0 → E p = s'.1 p := by
  intro p hp
  rcases h.new p hp with h1 | ⟨c, hc, h2, h3, h4⟩
  · rw [h.ext p h1]; exact hE p h1
  · have := (hs c hc).2.2
    rw [h3] at this
    rw [this, h4]
theorem tkAll_none {n : Nat} {cs : List ComD} : ∀ {s : (Nat → Int) × List Nat}, (∀ c ∈ cs, c.d ≠ 0) → tkAll n s cs = none → ∀ E : Nat → Int, (∀ p, s.1 p ≠ 0 → E p = s.1 p) → ¬ ∀ c ∈ cs, sat n E c := by
  induction cs with
  | nil => intro s _ h; simp [tkAll] at h
  | cons c cs ih =>
    intro s hd h E hE hs
    simp only [tkAll] at h
    cases h1 : tk n s c with
    | none => exact tk_none h1 E hE (hs c (by simp))
    | some s1 =>
      rw [h1] at h
      have ht := tk_some (hd c (by simp)) h1
      exact ih (s := s1) (fun c hc => hd c (by simp [hc])) h E (ht.compat E hE (fun c' hc' => by simp at hc'; subst hc'; exact hs _ (by simp))) (fun c hc => hs c (by simp [hc]))

/-- May an instruction be, with so much on the stack? -/
def mayP (C : CodeD) (p : Nat) (d : Int) : Prop :=
  rightF (C.ins p) = true ∧ readsF (C.ins p) ≤ d ∧ ((C.ins p).op ≠ 1 ∨ (C.ins p).a < C.gl) ∧ 1 ≤ d + leavesF (C.ins p) ∧ d + leavesF (C.ins p) ≤ 65536
/-- What comes behind an instruction, at what depth d behind it. -/
def behindL (x : InsD) (at_ : Int) (d : Int) : List ComD :=
  if x.op = 9 ∨ x.op = 15 then [] else if x.op = 16 then [⟨x.a, d, at_⟩] else if x.op = 11 ∨ x.op = 13 then x.t.map (fun q => ⟨q.2, d, at_⟩) else [⟨at_ + 1, d, at_⟩]
def entriesL (C : CodeD) : List ComD := (List.range C.gl).map fun g => ⟨C.en g, C.ar g + 1, C.en g⟩

theorem behindL_d {x : InsD} {at_ d : Int} {c : ComD} (h : c ∈ behindL x at_ d) : c.d = d := by
  unfold behindL at h
  split at h
  · simp at h
  · split at h
    · simp at h; rw [h]
    · split at h
      · obtain ⟨q, _, rfl⟩ := List.mem_map.1 h; rfl
      · simp at h; rw [h]

/-- Depths that fit the code. -/
structure Closed (C : CodeD) (D : Nat → Int) : Prop where
  ents : ∀ c ∈ entriesL C, sat C.ni D c
  nexts : ∀ p, p < C.ni → D p ≠ 0 → mayP C p (D p) ∧ ∀ c ∈ behindL (C.ins p) p (D p + leavesF (C.ins p)), sat C.ni D c
/-- Places that hold the entries and what comes behind each. -/
def Holds (C : CodeD) (S : Nat → Prop) : Prop := (∀ c ∈ entriesL C, S c.p.toNat) ∧ ∀ p, p < C.ni → S p → ∀ d, ∀ c ∈ behindL (C.ins p) p d, S c.p.toNat
/-- The depths of code: they fit, and only what can be come to has one. -/
structure Least (C : CodeD) (D : Nat → Int) : Prop where
  cl : Closed C D
  lt : ∀ p, D p ≠ 0 → p < C.ni
  least : ∀ S, Holds C S → ∀ p, D p ≠ 0 → S p
  pos : ∀ p, D p ≠ 0 → 1 ≤ D p ∧ D p ≤ 65536

/-- The walk over the row: so many places have been looked at. -/
structure Wk (C : CodeD) (s : (Nat → Int) × List Nat) (i : Nat) : Prop where
  ok : RowOk C.ni s
  il : i ≤ s.2.length
  entd : ∀ c ∈ entriesL C, 1 ≤ c.d
  ents : ∀ c ∈ entriesL C, sat C.ni s.1 c
  done : ∀ k (h : k < s.2.length), k < i → mayP C s.2[k] (s.1 s.2[k]) ∧ ∀ c ∈ behindL (C.ins s.2[k]) s.2[k] (s.1 s.2[k] + leavesF (C.ins s.2[k])), sat C.ni s.1 c
  least : ∀ S, Holds C S → ∀ p, s.1 p ≠ 0 → S p
  compat : ∀ E, Closed C E → ∀ p, s.1 p ≠ 0 → E p = s.1 p
  pos : ∀ p, s.1 p ≠ 0 → 1 ≤ s.1 p ∧ s.1 p ≤ 65536

section
variable {C : CodeD}
theorem RowOk.empty (n : Nat) : RowOk n (fun _ => 0, []) := ⟨List.nodup_nil, fun p => by simp, fun p hp => by simp at hp⟩
theorem entriesL_d (ha : ∀ g, g < C.gl → 0 ≤ C.ar g ∧ C.ar g ≤ 255) {c : ComD} (h : c ∈ entriesL C) : 1 ≤ c.d ∧ c.d ≤ 256 := by
  obtain ⟨g, hg, rfl⟩ := List.mem_map.1 h
  have := ha g (List.mem_range.1 hg)
  show 1 ≤ C.ar g + 1 ∧ C.ar g + 1 ≤ 256
  omega
theorem Wk.start (ha : ∀ g, g < C.gl → 0 ≤ C.ar g ∧ C.ar g ≤ 255) {s : (Nat → Int) × List Nat} (h : tkAll C.ni (fun _ => 0, []) (entriesL C) = some s) : Wk C s 0 := by
  have ht := tkAll_some (fun c hc => by have := entriesL_d ha hc; omega) h
  refine ⟨ht.ok (RowOk.empty _), Nat.zero_le _, fun c hc => (entriesL_d ha hc).1, ht.sats, fun k _ hk => absurd hk (by omega), fun S hS p hp => ?_, fun E hE => ht.compat E (fun p hp => absurd rfl hp) hE.ents, fun p hp => ?_⟩
  · rcases ht.new p hp with h1 | ⟨c, hc, _, h3, _⟩
    · exact absurd rfl h1
    · rw [← h3]; exact hS.1 c hc
  · rcases ht.new p hp with h1 | ⟨c, hc, _, _, h4⟩
    · exact absurd rfl h1
    · have := entriesL_d ha hc; rw [h4]; omega
theorem Wk.no_start (ha : ∀ g, g < C.gl → 0 ≤ C.ar g ∧ C.ar g ≤ 255) (h : tkAll C.ni (fun _ => 0, []) (entriesL C) = none) : ∀ E, ¬ Closed C E := fun E hE =>
  tkAll_none (fun c hc => by have := entriesL_d ha hc; omega) h E (fun p hp => absurd rfl hp) hE.ents

theorem Wk.step {s s' : (Nat → Int) × List Nat} {i p : Nat} (h : Wk C s i) (hp : s.2[i]? = some p) (hm : mayP C p (s.1 p)) (ht : tkAll C.ni s (behindL (C.ins p) p (s.1 p + leavesF (C.ins p))) = some s') : Wk C s' (i + 1) := by
  have hd : ∀ c ∈ behindL (C.ins p) p (s.1 p + leavesF (C.ins p)), 1 ≤ c.d ∧ c.d ≤ 65536 := fun c hc => by rw [behindL_d hc]; exact ⟨hm.2.2.2.1, hm.2.2.2.2⟩
  have hk := tkAll_some (fun c hc => by have := hd c hc; omega) ht
  obtain ⟨r, hr⟩ := hk.row
  obtain ⟨hil, hpe⟩ := List.getElem?_eq_some_iff.1 hp
  have hmem : p ∈ s.2 := List.mem_of_getElem? hp
  have hp0 := (h.ok.mem p).1 hmem
  have sat_on : ∀ c, sat C.ni s.1 c → c.d ≠ 0 → sat C.ni s'.1 c := fun c ⟨a, b, e⟩ h0 => ⟨a, b, by rw [hk.ext _ (by rw [e]; exact h0), e]⟩
  refine ⟨hk.ok h.ok, by rw [hr]; simp; omega, h.entd, fun c hc => ?_, fun k hkl hki => ?_, fun S hS q hq => ?_, fun E hE => hk.compat E (h.compat E hE) ?_, fun q hq => ?_⟩
  · exact sat_on c (h.ents c hc) (by have := h.entd c hc; omega)
  · by_cases e : k < i
    · have hks : k < s.2.length := by omega
      have hke : s'.2[k] = s.2[k] := by
        have : s'.2[k]? = s.2[k]? := by rw [hr, List.getElem?_append_left hks]
        rw [List.getElem?_eq_getElem hkl, List.getElem?_eq_getElem hks] at this; injection this
      obtain ⟨m1, m2⟩ := h.done k hks e
      have hne : s.1 s.2[k] ≠ 0 := (h.ok.mem _).1 (List.getElem_mem hks)
      rw [hke, hk.ext _ hne]
      refine ⟨m1, fun c hc => sat_on c (m2 c hc) ?_⟩
      rw [behindL_d hc]; have := m1.2.2.2.1; omega
    · have hkei : k = i := by omega
      subst hkei
      have hke : s'.2[k] = p := by
        have : s'.2[k]? = s.2[k]? := by rw [hr, List.getElem?_append_left hil]
        rw [List.getElem?_eq_getElem hkl, hp] at this; injection this
      rw [hke, hk.ext _ hp0]
      exact ⟨hm, hk.sats⟩
  · rcases hk.new q hq with h1 | ⟨c, hc, _, h3, _⟩
    · exact h.least S hS q h1
    · rw [← h3]; exact hS.2 p (h.ok.lt p hmem) (h.least S hS p hp0) _ c hc
  · have he := h.compat E hE p hp0
    have := (hE.nexts p (h.ok.lt p hmem) (by rw [he]; exact hp0)).2
    rw [he] at this
    exact this
  · rcases hk.new q hq with h1 | ⟨c, hc, _, _, h4⟩
    · rw [hk.ext q h1]; exact h.pos q h1
    · rw [h4]; exact hd c hc
theorem Wk.no_may {s : (Nat → Int) × List Nat} {i p : Nat} (h : Wk C s i) (hp : s.2[i]? = some p) (hm : ¬ mayP C p (s.1 p)) : ∀ E, ¬ Closed C E := fun E hE => by
  have hmem : p ∈ s.2 := List.mem_of_getElem? hp
  have hp0 := (h.ok.mem p).1 hmem
  have he := h.compat E hE p hp0
  have := (hE.nexts p (h.ok.lt p hmem) (by rw [he]; exact hp0)).1
  rw [he] at this
  exact hm this
theorem Wk.no_take {s : (Nat → Int) × List Nat} {i p : Nat} (h : Wk C s i) (hp : s.2[i]? = some p) (hm : mayP C p (s.1 p)) (ht : tkAll C.ni s (behindL (C.ins p) p (s.1 p + leavesF (C.ins p))) = none) : ∀ E, ¬ Closed C E := fun E hE => by
  have hmem : p ∈ s.2 := List.mem_of_getElem? hp
  have hp0 := (h.ok.mem p).1 hmem
  have he := h.compat E hE p hp0
  have := (hE.nexts p (h.ok.lt p hmem) (by rw [he]; exact hp0)).2
  rw [he] at this
  exact tkAll_none (fun c hc => by rw [behindL_d hc]; have := hm.2.2.2.1; omega) ht E (h.compat E hE) this
theorem Wk.fin {s : (Nat → Int) × List Nat} {i : Nat} (h : Wk C s i) (hi : s.2.length ≤ i) : Least C s.1 := by
  refine ⟨⟨h.ents, fun p hp h0 => ?_⟩, fun p h0 => h.ok.lt p ((h.ok.mem p).2 h0), h.least, h.pos⟩
  obtain ⟨k, hk⟩ := List.mem_iff_getElem?.1 ((h.ok.mem p).2 h0)
  obtain ⟨hkl, hke⟩ := List.getElem?_eq_some_iff.1 hk
  have := h.done k hkl (by omega)
  rw [hke] at this
  exact this
end
end Go.Proofs.Ytfeghobfkgimfaa
