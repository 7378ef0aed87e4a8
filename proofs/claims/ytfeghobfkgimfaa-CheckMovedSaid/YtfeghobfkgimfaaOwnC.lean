/- Own: code copied. -/
import Derived.Test.YtfeghobfkgimfaaOwnI
import Derived.Test.YtfeghobfkgimfaaSafeW
namespace Go.Proofs.Ytfeghobfkgimfaa
open Go.RowKit Go.Shelf

/-- Rows of so many values each, one behind the other. -/
def rowsL (g : Nat → List Value) (k : Nat) : List Value := (List.range k).flatMap g
theorem rowsL_succ (g : Nat → List Value) (k : Nat) : rowsL g (k + 1) = rowsL g k ++ g k := by simp [rowsL, List.range_succ]
theorem rowsL_length {g : Nat → List Value} {m : Nat} (hg : ∀ i, (g i).length = m) (k : Nat) : (rowsL g k).length = k * m := by
  induction k with
  | zero => simp [rowsL]
  | succ k ih => rw [rowsL_succ, List.length_append, ih, hg, Nat.add_mul, Nat.one_mul]
theorem rowsL_get {g : Nat → List Value} {m : Nat} (hg : ∀ i, (g i).length = m) : ∀ (k i r : Nat), i < k → r < m → (rowsL g k)[i * m + r]? = (g i)[r]? := by
  intro k
  induction k with
  | zero => intro i r hi; omega
  | succ k ih =>
    intro i r hi hr
    rw [rowsL_succ]
    by_cases h : i < k
    · have hlt : i * m + r < k * m := by
        have : (i + 1) * m ≤ k * m := Nat.mul_le_mul_right m h
        rw [Nat.add_mul, Nat.one_mul] at this; omega
      rw [List.getElem?_append_left (by rw [rowsL_length hg]; exact hlt)]
      exact ih i r h hr
    · have e : i = k := by omega
      subst e
      rw [List.getElem?_append_right (by rw [rowsL_length hg]; omega), rowsL_length hg, show i * m + r - i * m = r from by omega]
theorem rowsL_congr {g h : Nat → List Value} (k : Nat) (e : ∀ i, i < k → g i = h i) : rowsL g k = rowsL h k := by
  induction k with
  | zero => rfl
  | succ k ih => rw [rowsL_succ, rowsL_succ, ih (fun i hi => e i (by omega)), e k (by omega)]

def gRow (C : CodeD) (S : Nat → ByteArray) (i : Nat) : List Value := [.string (S i), .int .i64 (C.ar i), .int .i64 (C.en i)]
def iRow (C : CodeD) (f : Nat → Option Addr × Nat) (i : Nat) : List Value := [.int .i64 (C.ins i).op, .int .i64 (C.ins i).a, .int .i64 (C.ins i).b, .slice (f i).1 (C.ins i).t.length (f i).2]

/-- Code in memory, its parts in blocks of their own. -/
structure CodeO (W : World) (B : Nat) (C : CodeD) (v1 v2 : Value) (k1 k2 : Nat) : Prop where
  o1 : ∃ S, W.ownsRow B 101 3 v1 k1 (rowsL (gRow C S) k1)
  o2 : ∃ f, W.ownsRow B 32 4 v2 k2 (rowsL (iRow C f) k2) ∧ ∀ i, i < k2 → TabO W (f i).1 (f i).2 (C.ins i).t

theorem CodeO.at {W : World} {B : Nat} {C : CodeD} {G I : Option Addr} {gc ic : Nat} (h : CodeO W B C (.slice G C.gl gc) (.slice I C.ni ic) C.gl C.ni) : CodeAt W C G gc I ic := by
  obtain ⟨S, o1⟩ := h.o1
  obtain ⟨f, o2, ht⟩ := h.o2
  have cap : ∀ {e : TypeId} {sz n c : Nat} {A : Option Addr} {xs : List Value}, W.ownsRow B e sz (.slice A n c) n xs → n ≤ c := by
    intro e sz n c A xs ho
    rcases ho.2 with ⟨hv, h0⟩ | ⟨g', cp, cur, hv, _, _, hm, _⟩
    · omega
    · injection hv with _ _ e3; rw [e3]; exact hm
  refine ⟨cap o1, cap o2, fun h0 => ?_, fun h0 => ?_⟩
  · obtain ⟨g, c, hv, _, hl⟩ := o1.form h0
    injection hv with e1 _ _
    subst e1
    refine ⟨g, 0, rfl, hl, fun i hi => ⟨S i, ?_, ?_, ?_⟩⟩
    · rw [Nat.zero_add, o1.cellAt _ (by omega)]; exact (rowsL_get (m := 3) (g := gRow C S) (fun _ => rfl) C.gl i 0 hi (by decide)).trans rfl
    · rw [Nat.zero_add, o1.cellAt _ (by omega)]; exact (rowsL_get (m := 3) (g := gRow C S) (fun _ => rfl) C.gl i 1 hi (by decide)).trans rfl
    · rw [Nat.zero_add, o1.cellAt _ (by omega)]; exact (rowsL_get (m := 3) (g := gRow C S) (fun _ => rfl) C.gl i 2 hi (by decide)).trans rfl
  · obtain ⟨g, c, hv, _, hl⟩ := o2.form h0
    injection hv with e1 _ _
    subst e1
    refine ⟨g, 0, rfl, hl, fun i hi => ⟨(f i).1, (f i).2, ?_, ?_, ?_, ?_, (ht i hi).sl⟩⟩
    · rw [Nat.zero_add, o2.cellAt _ (by omega)]; exact (rowsL_get (m := 4) (g := iRow C f) (fun _ => rfl) C.ni i 0 hi (by decide)).trans rfl
    · rw [Nat.zero_add, o2.cellAt _ (by omega)]; exact (rowsL_get (m := 4) (g := iRow C f) (fun _ => rfl) C.ni i 1 hi (by decide)).trans rfl
    · rw [Nat.zero_add, o2.cellAt _ (by omega)]; exact (rowsL_get (m := 4) (g := iRow C f) (fun _ => rfl) C.ni i 2 hi (by decide)).trans rfl
    · rw [Nat.zero_add, o2.cellAt _ (by omega)]; exact (rowsL_get (m := 4) (g := iRow C f) (fun _ => rfl) C.ni i 3 hi (by decide)).trans rfl
end Go.Proofs.Ytfeghobfkgimfaa
