/- meet: a place met: its number is written down, a new one is kept. -/
import Derived.Test.YtfeghobfkgimfaaCollA
import Derived.Deep.AppendLies
namespace Go.Proofs.Ytfeghobfkgimfaa
open Go.RowKit

def OwnB (vo vm : Value) (g : Nat) : Prop := vo.ownBlock = some g ∨ vm.ownBlock = some g

/-- Two lists of ints that the call owns, in different blocks. -/
structure Pair (B : Nat) (w : World) (vo vm : Value) (os : List Int) (met : List Nat) : Prop where
  ro : w.ownsRow B 3 1 vo os.length (os.map (Value.int .i64))
  rm : w.ownsRow B 3 1 vm met.length ((ints met).map (Value.int .i64))
  ne : ∀ g, vo.ownBlock = some g → vm.ownBlock ≠ some g

theorem Pair.lts {B : Nat} {w : World} {vo vm : Value} {os : List Int} {met : List Nat} (h : Pair B w vo vm os met) : ∀ g, OwnB vo vm g → B ≤ g ∧ g < w.heap.size := fun g hg => by
  rcases hg with hg | hg
  · exact h.ro.lt g hg
  · exact h.rm.lt g hg
theorem Pair.turns {B : Nat} {w w' : World} {vo vm : Value} {os : List Int} {met : List Nat} (h : Pair B w vo vm os met) {S : Nat → Prop} (k : Turns S w w') (hs : ∀ g, OwnB vo vm g → ¬ S g) : Pair B w' vo vm os met :=
  ⟨own_turns h.ro k (fun g hg => hs g (.inl hg)), own_turns h.rm k (fun g hg => hs g (.inr hg)), h.ne⟩
theorem Pair.below {B : Nat} {w w' : World} {vo vm : Value} {os : List Int} {met : List Nat} (h : Pair B w vo vm os met) (k : Below w.heap.size w w') : Pair B w' vo vm os met :=
  h.turns (Turns.of_below k (S := fun _ => False)) (fun _ _ x => x)
theorem Pair.nil (B : Nat) (w : World) : Pair B w (.slice none 0 0) (.slice none 0 0) [] [] :=
  ⟨World.ownsRow_nil _ _ _ _, World.ownsRow_nil _ _ _ _, fun g hg => by simp [Value.ownBlock] at hg⟩

/-- meet's answer. -/
def MeetV (B : Nat) (vo vm : Value) (os : List Int) (met : List Nat) (p : Nat) (w : World) (e : Ending) (w' : World) : Prop :=
  ∃ vo' vm', e = .returned (.tuple #[vo', vm']) ∧ Pair B w' vo' vm' (os ++ [((meetF met p).1 : Int)]) (meetF met p).2 ∧ Turns (OwnB vo vm) w w' ∧ ∀ g, OwnB vo' vm' g → OwnB vo vm g ∨ w.heap.size ≤ g

/-- An append of ints onto the first list. -/
theorem Pair.app {B : Nat} {w W w1 : World} {vo vm : Value} {os : List Int} {met : List Nat} (h : Pair B w vo vm os met) (hB : Below w.heap.size w W) {g cap H m : Nat} {xs : List Int} (hm : m = xs.length)
    (hown : w1.ownsRow B 3 1 (.slice (some ⟨g, 0, none⟩) (os.length + m) cap) (os.length + m) (os.map (Value.int .i64) ++ xs.map (Value.int .i64))) (hgrow : W.grownBy w1 vo.ownBlock) (hH : W.heap.size = H) (hat : vo.ownBlock = some g ∨ g = H) :
    Pair B w1 (.slice (some ⟨g, 0, none⟩) (os.length + m) cap) vm (os ++ xs) met ∧ Turns (OwnB vo vm) w w1 ∧ ∀ k, OwnB (.slice (some ⟨g, 0, none⟩) (os.length + m) cap) vm k → OwnB vo vm k ∨ w.heap.size ≤ k := by
  have h2 := h.below hB
  have ht := turns_of_grown hgrow
  have hg : ∀ k, vm.ownBlock = some k → k ≠ g := fun k hk => by
    have hl := h2.rm.lt k hk
    rcases hat with e | e
    · intro e2; subst e2; exact h.ne _ e hk
    · omega
  refine ⟨⟨?_, ?_, ?_⟩, ?_, ?_⟩
  · rw [List.length_append, List.map_append, ← hm]; exact hown
  · exact own_turns h2.rm ht (fun k hk e => h.ne k e.symm hk)
  · intro k hk e
    have : g = k := by simpa [Value.ownBlock] using hk
    exact hg k e this.symm
  · exact (Turns.of_below hB).trans (ht.mono (fun k e => .inl e.symm))
  · rintro k (hk | hk)
    · have e : g = k := by simpa [Value.ownBlock] using hk
      subst e
      rcases hat with e | e
      · exact .inl (.inl e)
      · right; have := hB.size; omega
    · exact .inl (.inr hk)

/-- An append of one place onto the second list. -/
theorem Pair.app2 {B : Nat} {w W w1 : World} {vo vm : Value} {os : List Int} {met : List Nat} (h : Pair B w vo vm os met) (hB : Below w.heap.size w W) {g cap H : Nat} {x : Nat}
    (hown : w1.ownsRow B 3 1 (.slice (some ⟨g, 0, none⟩) (met.length + 1) cap) (met.length + 1) ((ints met).map (Value.int .i64) ++ [.int .i64 (x : Int)])) (hgrow : W.grownBy w1 vm.ownBlock) (hH : W.heap.size = H) (hat : vm.ownBlock = some g ∨ g = H) :
    Pair B w1 vo (.slice (some ⟨g, 0, none⟩) (met.length + 1) cap) os (met ++ [x]) ∧ Turns (OwnB vo vm) w w1 ∧ ∀ k, OwnB vo (.slice (some ⟨g, 0, none⟩) (met.length + 1) cap) k → OwnB vo vm k ∨ w.heap.size ≤ k := by
  have h2 := h.below hB
  have ht := turns_of_grown hgrow
  have hg : ∀ k, vo.ownBlock = some k → k ≠ g := fun k hk => by
    have hl := h2.ro.lt k hk
    rcases hat with e | e
    · intro e2; subst e2; exact h.ne _ hk e
    · omega
  refine ⟨⟨?_, ?_, ?_⟩, ?_, ?_⟩
  · exact own_turns h2.ro ht (fun k hk e => h.ne k hk e.symm)
  · rw [List.length_append]; simpa [ints] using hown
  · intro k hk e
    have : g = k := by simpa [Value.ownBlock] using e
    exact hg k hk this.symm
  · exact (Turns.of_below hB).trans (ht.mono (fun k e => .inr e.symm))
  · rintro k (hk | hk)
    · exact .inl (.inl hk)
    · have e : g = k := by simpa [Value.ownBlock] using hk
      subst e
      rcases hat with e | e
      · exact .inl (.inr e)
      · right; have := hB.size; omega

theorem meet_found {B : Nat} {w w1 : World} {vo vm : Value} {os : List Int} {met : List Nat} (h : Pair B w vo vm os met) {k p : Nat} (hk : met[k]? = some p) (hnot : p ∉ met.take k) {g cap : Nat}
    (hown : w1.ownsRow B 3 1 (.slice (some ⟨g, 0, none⟩) (os.length + 1) cap) (os.length + 1) (os.map (Value.int .i64) ++ [.int .i64 (k : Int)])) (hgrow : (w.alloc (.cells #[.int .i64 (k : Int)] 3)).grownBy w1 vo.ownBlock) (hat : vo.ownBlock = some g ∨ g = w.heap.size + 1) :
    MeetV B vo vm os met p w (.returned (.tuple #[.slice (some ⟨g, 0, none⟩) (os.length + 1) cap, vm])) w1 := by
  have hm : p ∈ met := List.mem_of_getElem? hk
  have hkl : k < met.length := (List.getElem?_eq_some_iff.1 hk).1
  have hidx : met.idxOf p = k := by
    have h1 := List.idxOf_lt_length_of_mem hm
    rcases Nat.lt_trichotomy (met.idxOf p) k with h2 | h2 | h2
    · exact absurd (by
        rw [List.mem_iff_getElem?]
        exact ⟨met.idxOf p, by rw [List.getElem?_take_of_lt h2, List.getElem?_eq_getElem h1, List.getElem_idxOf]⟩) hnot
    · exact h2
    · have := List.not_of_lt_findIdx (xs := met) (p := fun x => x == p) (i := k) h2
      rw [List.getElem?_eq_getElem hkl] at hk; injection hk with hk
      simp [hk] at this
  have e : meetF met p = (k, met) := by unfold meetF; rw [if_pos hm, hidx]
  obtain ⟨a1, a2, a3⟩ := h.app (below1 _) (m := 1) (xs := [_]) rfl hown hgrow (by simp) hat
  exact ⟨_, _, rfl, by rw [e]; exact a1, a2, a3⟩

theorem meet_new {B : Nat} {w w1 w2 : World} {vo vm : Value} {os : List Int} {met : List Nat} (h : Pair B w vo vm os met) {p : Nat} (hnot : p ∉ met) {g cap g2 cap2 : Nat}
    (hown : w1.ownsRow B 3 1 (.slice (some ⟨g, 0, none⟩) (os.length + 1) cap) (os.length + 1) (os.map (Value.int .i64) ++ [.int .i64 (met.length : Int)])) (hgrow : (w.alloc (.cells #[.int .i64 (met.length : Int)] 3)).grownBy w1 vo.ownBlock) (hat : vo.ownBlock = some g ∨ g = w.heap.size + 1)
    (hown2 : w2.ownsRow B 3 1 (.slice (some ⟨g2, 0, none⟩) (met.length + 1) cap2) (met.length + 1) ((ints met).map (Value.int .i64) ++ [.int .i64 (p : Int)])) (hgrow2 : (w1.alloc (.cells #[.int .i64 (p : Int)] 3)).grownBy w2 vm.ownBlock) (hat2 : vm.ownBlock = some g2 ∨ g2 = w1.heap.size + 1) :
    MeetV B vo vm os met p w (.returned (.tuple #[.slice (some ⟨g, 0, none⟩) (os.length + 1) cap, .slice (some ⟨g2, 0, none⟩) (met.length + 1) cap2])) w2 := by
  have e : meetF met p = (met.length, met ++ [p]) := by unfold meetF; rw [if_neg hnot]
  obtain ⟨a1, a2, a3⟩ := h.app (below1 _) (m := 1) (xs := [_]) rfl hown hgrow (by simp) hat
  obtain ⟨b1, b2, b3⟩ := a1.app2 (below1 _) hown2 hgrow2 (by simp) hat2
  refine ⟨_, _, rfl, by rw [e]; exact b1, ?_, ?_⟩
  · exact ⟨b2.os.trans a2.os, b2.tape.trans a2.tape, b2.output.trans a2.output, Nat.le_trans a2.size b2.size, fun k hk hs => (b2.block k (Nat.lt_of_lt_of_le hk a2.size) (fun x => by
      rcases a3 k x with y | y
      · exact hs y
      · omega)).trans (a2.block k hk hs)⟩
  · intro k hk
    rcases b3 k hk with x | x
    · exact a3 k x
    · right; exact Nat.le_trans a2.size x

set_option maxRecDepth 100000 in
set_option maxHeartbeats 2000000 in
theorem meet_any (B : Nat) (vo vm : Value) (os : List Int) (met : List Nat) (p : Nat) (w : World) (h : Pair B w vo vm os met) (hB : B ≤ w.heap.size) (hol : os.length ≤ 1000000000) (hml : met.length ≤ 1000000000) :
    Calls Try.prog 55 #[vo, vm, .int .i64 p] w (MeetV B vo vm os met p w) := by
  obtain ⟨i0, hi, hz0, hz1, hz2⟩ := info_parts Try.info3
  obtain ⟨Ao, co, rfl⟩ := own_slice h.ro
  obtain ⟨A, cap, hvm, hsl⟩ := ints_own (xs := ints met) (by rw [ints_length]) h.rm
  subst hvm
  rw [ints_length] at h ⊢
  obtain ⟨X, hX⟩ : ∃ X, X = met.length := ⟨_, rfl⟩
  obtain ⟨Y, hY⟩ : ∃ Y, Y = os.length := ⟨_, rfl⟩
  have hro := h.ro; have hrm := h.rm
  rw [← hX, ← hY] at h
  rw [← hX] at hrm hml ⊢
  rw [← hY] at hro hol ⊢
  have HP := Lib.hid h; have HSL := Lib.hid hsl; have HRO := Lib.hid hro; have HRM := Lib.hid hrm; have HX := Lib.hid hX; have HY := Lib.hid hY
  clear hsl hro hrm h hX hY
  go_enter Try.func55, Try.ntmps55
  go_wp2_with fail
  go_loopg [8] X (fun gk i wr => ∃ j : Nat, j ≤ X ∧ gk = X - j ∧ i = .int .i64 j ∧ Hid (p ∉ met.take j) ∧ wr = w)
  case atStart => exact ⟨0, Nat.zero_le _, rfl, rfl, Lib.hid (by simp), rfl⟩
  case round =>
    obtain ⟨j, hj, rfl, rfl, HN, rfl⟩ := hrel
    by_cases hlt : j < X
    · have helt : ∃ g o q, A = some ⟨g, o, none⟩ ∧ wr.cell? ⟨g, o + j, none⟩ = some (.int .i64 (q : Nat)) ∧ met[j]? = some q := by
        have h0 := HX.out
        obtain ⟨g, o, hA, _, _, h1⟩ := HSL.out.2 (by rw [ints_length]; omega)
        exact ⟨g, o, met[j]'(by omega), hA, by rw [h1 j (by rw [ints_length]; omega)]; simp [ints], List.getElem?_eq_getElem _⟩
      obtain ⟨g, o, q, rfl, c1, hq⟩ := helt
      have HQ := Lib.hid hq; clear hq
      have hi1 : (j : Int) < (X : Int) := by omega
      by_cases heq : q = p
      · subst heq
        go_wp2_with (at_builtin; refine wpList_append_lies _ rfl (.tmp 21) (.tmp 23) 22 rfl B 3 i0 (.int .i64 0) 1 8 Try.underlying22 hi hz0 hz1 hz2 rfl (by decide) (.slice Ao Y co) Y (os.map (Value.int .i64)) rfl (HRO.out.alloc _) ⟨wr.heap.size, 0, none⟩ 1 1 [.int .i64 (j : Int)] rfl rfl (cell_one_new _ _ _) (by simp [Value.oneCell']) (by decide) (by unfold maxLen; omega) (by omega) (by simp; omega) (wr.heap.size + 1) (by simp) ?_; intro g2 cap2 w1 hown hgrow hat hglt)
        go_ret2
        have hy := HY.out; subst hy
        exact meet_found HP.out HQ.out HN.out hown hgrow hat
      · have hne : (((q : Nat) : Int) == (p : Int)) = false := by simpa using fun h => heq (by omega)
        have HN2 : Hid (p ∉ met.take (j + 1)) := Lib.hid (by
          have h1 := HQ.out
          obtain ⟨hl, h2⟩ := List.getElem?_eq_some_iff.1 h1
          rw [List.take_succ_eq_append_getElem hl, h2]
          simp only [List.mem_append, List.mem_singleton, not_or]
          exact ⟨HN.out, fun e => heq e.symm⟩)
        clear heq
        go_wp2_with fail
        go_roundg (X - (j + 1))
        case measure => omega
        case rel => exact ⟨j + 1, by omega, rfl, by go_num, HN2, rfl⟩
    · have hi1 : ¬ (j : Int) < (X : Int) := by omega
      have HN2 : Hid (p ∉ met) := Lib.hid (by have h1 := HN.out; have h2 := HX.out; rwa [List.take_of_length_le (by omega)] at h1)
      clear HN
      go_wp2_with (first
        | (at_builtin; refine wpList_append_lies _ rfl (.tmp 26) (.tmp 29) 22 rfl B 3 i0 (.int .i64 0) 1 8 Try.underlying22 hi hz0 hz1 hz2 rfl (by decide) (.slice Ao Y co) Y (os.map (Value.int .i64)) rfl (HRO.out.alloc _) ⟨wr.heap.size, 0, none⟩ 1 1 [.int .i64 (X : Int)] rfl rfl (cell_one_new _ _ _) (by simp [Value.oneCell']) (by decide) (by unfold maxLen; omega) (by omega) (by simp; omega) (wr.heap.size + 1) (by simp) ?_; intro g2 cap2 w1 hown hgrow hat hglt; have HOW := Lib.hid hown; have HGR := Lib.hid hgrow; have HAT := Lib.hid hat; have hs1 := hgrow.size; simp only [World.size_alloc] at hs1; have HRM2 : Hid (w1.ownsRow B 3 1 (.slice A X cap) X ((ints met).map (Value.int .i64))) := Lib.hid (own_turns (HRM.out.alloc _) (turns_of_grown hgrow) (fun k hk e => HP.out.ne k e.symm hk)); clear hown hgrow hat)
        | (at_builtin; refine wpList_append_lies _ rfl (.tmp 31) (.tmp 33) 22 rfl B 3 i0 (.int .i64 0) 1 8 Try.underlying22 hi hz0 hz1 hz2 rfl (by decide) (.slice A X cap) X ((ints met).map (Value.int .i64)) rfl (HRM2.out.alloc _) ⟨w1.heap.size, 0, none⟩ 1 1 [.int .i64 (p : Int)] rfl rfl (cell_one_new _ _ _) (by simp [Value.oneCell']) (by decide) (by unfold maxLen; omega) (by omega) (by simp; omega) (w1.heap.size + 1) (by simp) ?_; intro g3 cap3 w3 hown3 hgrow3 hat3 hglt3))
      go_ret2
      have hy := HY.out; subst hy
      have hx := HX.out; subst hx
      exact meet_new HP.out HN2.out HOW.out HGR.out HAT.out hown3 hgrow3 hat3
end Go.Proofs.Ytfeghobfkgimfaa
