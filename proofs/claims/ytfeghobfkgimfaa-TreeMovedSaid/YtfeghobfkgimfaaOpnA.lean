/- Arguments that are trees, opened to their cells. -/
import Derived.Test.YtfeghobfkgimfaaTreeE
import Derived.Test.YtfeghobfkgimfaaSized
namespace Go.Proofs.Ytfeghobfkgimfaa
set_option linter.unusedSimpArgs false
set_option linter.unusedVariables false
open Go.ChangeShapes Go.WideShapes Go.ChangeAt Go.RowKit Go.Deep

theorem Try.cRT : Try.prog.cellsOf 162 = 4 := by kernel_rfl
theorem Try.cRP : Try.prog.cellsOf 131 = 5 := by kernel_rfl
theorem Try.cRE : Try.prog.cellsOf 86 = 8 := by kernel_rfl
theorem Try.cRA : Try.prog.cellsOf 133 = 13 := by kernel_rfl
theorem Try.cRC : Try.prog.cellsOf 173 = 3 := by kernel_rfl
theorem Try.cRD : Try.prog.cellsOf 164 = 18 := by kernel_rfl
theorem Try.cI : Try.prog.cellsOf 3 = 1 := by kernel_rfl
theorem Try.cS : Try.prog.cellsOf 9 = 1 := by kernel_rfl
theorem Try.cLT : Try.prog.cellsOf 160 = 1 := by kernel_rfl
theorem Try.cLP : Try.prog.cellsOf 82 = 1 := by kernel_rfl
theorem Try.cLE : Try.prog.cellsOf 81 = 1 := by kernel_rfl
theorem Try.cLA : Try.prog.cellsOf 83 = 1 := by kernel_rfl
theorem Try.cLC : Try.prog.cellsOf 159 = 1 := by kernel_rfl
theorem Try.cLD : Try.prog.cellsOf 84 = 1 := by kernel_rfl
theorem Try.cLS : Try.prog.cellsOf 158 = 1 := by kernel_rfl
theorem Try.byS : Try.prog.bytesOf 9 = 16 := by kernel_rfl
theorem addr_plain (g o k : Nat) : (⟨g, o, none⟩ : Addr).add k = ⟨g, o + k, none⟩ := by
  unfold Addr.add; split
  · rename_i h; subst h; rfl
  · rfl
theorem cell_at {w : World} {a : Addr} {v : Value} (h : w.cell? a = some v) : a.block < w.heap.size ∧ a.spot = none := by
  unfold World.cell? at h
  split at h
  · rename_i c t r hb
    refine ⟨(Array.getElem?_eq_some_iff.1 hb).1, ?_⟩
    split at h
    · cases h
    · rename_i hs; simpa using hs
  · cases h
theorem choose_f {α : Type} [Inhabited α] {n : Nat} {p : Nat → α → Prop} (h : ∀ i, i < n → ∃ x, p i x) : ∃ f : Nat → α, ∀ i, i < n → p i (f i) := by
  classical
  refine ⟨fun i => if h' : i < n then Classical.choose (h i h') else default, fun i hi => ?_⟩
  simp only [dif_pos hi]
  exact Classical.choose_spec (h i hi)
theorem size_mem {H : Type} {d : DataW H} {l r : List (DataW H)} (h : d ∈ l) : SizeOf.sizeOf d < SizeOf.sizeOf (DataW.slice l r) := by
  have := List.sizeOf_lt_of_mem h
  simp; omega
theorem size_agg {H : Type} {d : DataW H} {l : List (DataW H)} (h : d ∈ l) : SizeOf.sizeOf d < SizeOf.sizeOf (DataW.agg l) := by
  have := List.sizeOf_lt_of_mem h
  simp; omega

section
variable {H : Type} {enc : TypeId × Value → H} {w : World} {base : Nat} {sp : Nat → Bool} {held : Bool}

/-- A slice, opened. -/
theorem open_els {t e : TypeId} {sz : Nat} (ht : Try.prog.underlying t = some (.slice e)) (ce : Try.prog.cellsOf e = sz) (hsz : 0 < sz) {fuel : Nat} {c : Value} {y : DataW H × List MemPlace} (h : DataW.trod enc Try.prog w base sp held fuel t [c] = some y) (hz : Szd Try.prog t y.1)
    {α : Type} [Inhabited α] (Q : α → List Value → Prop) (hQl : ∀ d cs, Q d cs → cs.length = sz)
    (hel : ∀ (cs' : List Value) (y' : DataW H × List MemPlace) (fuel' : Nat), SizeOf.sizeOf y'.1 < SizeOf.sizeOf y.1 → DataW.trod enc Try.prog w base sp held fuel' e cs' = some y' → Szd Try.prog e y'.1 → ∃ d, Q d cs') :
    ∃ (l : List α) (A : Option Addr) (cp : Nat) (C : Nat → List Value), c = .slice A l.length cp ∧ (l.length ≤ cp ∧ cp ≤ maxLen) ∧ SlAt (mem w) sz A l.length C ∧ (∀ i (hi : i < l.length), Q l[i] (C i)) ∧ l.length * Try.prog.bytesOf e ≤ 140737488351232 := by
  rcases open_slice ht h with ⟨h1, _⟩ | ⟨a, len, cap, m, n, D, Pl, h1, hb, h2, h3, hm, hx, hi⟩
  · injection h1 with h1
    exact ⟨[], none, 0, fun _ => [], h1, ⟨Nat.le_refl _, Nat.zero_le _⟩, fun h => absurd h (by simp), fun i hi => absurd hi (by simp), by simp⟩
  · injection h1 with h1
    have hmn : len ≤ m := by rw [hm]; split <;> omega
    rw [hx] at hz
    have hzs := szd_slice ht hz
    haveI : Inhabited (α × List Value) := ⟨default, []⟩
    obtain ⟨f, hf⟩ := choose_f (p := fun i (q : α × List Value) => Q q.1 q.2 ∧ ∀ j, j < sz → w.cell? ((a.add (i * sz)).add j) = q.2[j]?) (n := len) (fun i hin => by
      obtain ⟨cs', hc1, hc2⟩ := hi i (by omega)
      rw [ce] at hc1
      have hmem : D i ∈ (List.range len).map D := List.mem_map.2 ⟨i, List.mem_range.2 hin, rfl⟩
      obtain ⟨d, hd⟩ := hel cs' _ n (by rw [hx]; exact size_mem hmem) hc2 (hzs.2 _ hmem)
      exact ⟨(d, cs'), hd, (World.cells?_some hc1).2.2⟩)
    refine ⟨(List.range len).map (fun i => (f i).1), some a, cap, fun i => (f i).2, by simpa using h1, ⟨by simpa using h2, h3⟩, fun h0 => ?_, fun i hi => ?_, ?_⟩
    · have h0' : 0 < len := by simpa using h0
      obtain ⟨hq, hc⟩ := hf 0 h0'
      have hl := hQl _ _ hq
      have hc0 := hc 0 hsz
      rw [List.getElem?_eq_getElem (by omega)] at hc0
      have hz := cell_at hc0
      obtain ⟨g, o, s⟩ := a
      have hs : s = none := by
        have h2 := hz.2
        unfold Addr.add at h2
        split at h2 <;> split at h2 <;> simp_all
      subst hs
      refine ⟨g, o, rfl, fun i hin j hj => ?_⟩
      have q := (hf i (by simpa using hin)).2 j hj
      simp only [addr_plain] at q
      exact q
    · have hi' : i < len := by simpa using hi
      have := (hf i hi').1
      simpa using this
    · have h4 := hzs.1
      simp at h4 ⊢
      exact Nat.le_trans (Nat.mul_le_mul_right _ (by omega)) h4
theorem open_int {fuel : Nat} {c : Value} {y : DataW H × List MemPlace} (h : DataW.trod enc Try.prog w base sp held fuel 3 [c] = some y) : ∃ z, c = .int .i64 z := by
  obtain ⟨z, e, _, _⟩ := DataW.trod_int Try.underlying3 h
  injection e with e
  exact ⟨z, e⟩
theorem open_str {fuel : Nat} {c : Value} {y : DataW H × List MemPlace} (h : DataW.trod enc Try.prog w base sp held fuel 9 [c] = some y) (hz : Szd Try.prog 9 y.1) : ∃ s : ByteArray, c = .string s ∧ s.size ≤ maxLen := by
  obtain ⟨s, e0, hs, _⟩ := DataW.trod_string Try.underlying9 h
  injection e0 with e0
  refine ⟨s, e0, ?_⟩
  have := szd_string (P := Try.prog) (t := 9) (l := s.data.toList) (by rwa [hs] at hz)
  have e : s.data.toList.length = s.size := rfl
  unfold maxLen; omega
end
end Go.Proofs.Ytfeghobfkgimfaa
