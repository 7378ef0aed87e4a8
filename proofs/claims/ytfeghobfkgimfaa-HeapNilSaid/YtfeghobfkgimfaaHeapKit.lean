/- The three blocks of a heap (its struct, its cells, its marks) as rows by index, and how they go on over stores, new blocks and draws. -/
import Derived.Test.YtfeghobfkgimfaaKit
import Derived.Laws.CopyOwn
namespace Go.Proofs.Ytfeghobfkgimfaa
open Go.RowKit

/-- Cells from a place on hold a list. -/
def wr (C : Nat → Int) (p : Nat) (l : List Int) : Nat → Int := fun i => if p ≤ i ∧ i < p + l.length then l.getD (i - p) 0 else C i

theorem wr_in (C : Nat → Int) (p : Nat) (l : List Int) (i : Nat) (h : i < l.length) : wr C p l (p + i) = l[i] := by
  simp only [wr]
  rw [if_pos (by omega), show p + i - p = i from by omega]
  simp [h]
theorem wr_out (C : Nat → Int) (p : Nat) (l : List Int) (i : Nat) (h : i < p ∨ p + l.length ≤ i) : wr C p l i = C i := by
  simp only [wr]
  rw [if_neg (by omega)]

theorem wr_snoc (C : Nat → Int) (p : Nat) (l : List Int) (x : Int) : wr C p (l ++ [x]) = upd (wr C p l) (p + l.length) x := by
  funext i
  simp only [upd]
  by_cases h : i = p + l.length
  · subst h
    rw [if_pos rfl, wr_in _ _ _ _ (by simp)]
    simp
  · rw [if_neg h]
    by_cases hi : p ≤ i ∧ i < p + l.length
    · obtain ⟨j, rfl⟩ : ∃ j, i = p + j := ⟨i - p, by omega⟩
      rw [wr_in _ _ _ _ (by simp; omega), wr_in _ _ _ _ (by omega)]
      rw [List.getElem_append_left (by omega)]
    · rw [wr_out _ _ _ _ (by simp; omega), wr_out _ _ _ _ (by omega)]
theorem wr_nil (C : Nat → Int) (p : Nat) : wr C p [] = C := by
  funext i; exact wr_out _ _ _ _ (by simp; omega)
theorem wr_append (C : Nat → Int) (p : Nat) (l m : List Int) : wr C p (l ++ m) = wr (wr C p l) (p + l.length) m := by
  funext i
  by_cases h : p + l.length ≤ i ∧ i < p + l.length + m.length
  · obtain ⟨j, rfl⟩ : ∃ j, i = p + l.length + j := ⟨i - (p + l.length), by omega⟩
    rw [wr_in _ _ _ _ (by omega), Nat.add_assoc, wr_in _ _ _ _ (by simp; omega)]
    rw [List.getElem_append_right (by omega)]
    congr 1; omega
  · rw [wr_out _ (p + l.length) _ _ (by omega)]
    by_cases hi : p ≤ i ∧ i < p + l.length
    · obtain ⟨j, rfl⟩ : ∃ j, i = p + j := ⟨i - p, by omega⟩
      rw [wr_in _ _ _ _ (by simp; omega), wr_in _ _ _ _ (by omega)]
      rw [List.getElem_append_left (by omega)]
    · rw [wr_out _ _ _ _ (by simp; omega), wr_out _ _ _ _ (by omega)]

theorem upd_int (C : Nat → Int) (p : Nat) (k : Int) : upd (fun i => Value.int .i64 (C i)) p (.int .i64 k) = fun i => Value.int .i64 (upd C p k i) := by
  funext i; simp only [upd]; split <;> rfl
theorem upd_bool (C : Nat → Bool) (p : Nat) (k : Bool) : upd (fun i => Value.bool (C i)) p (.bool k) = fun i => Value.bool (upd C p k i) := by
  funext i; simp only [upd]; split <;> rfl

def In3 (b cb gb : Nat) : Nat → Prop := fun x => x = b ∨ x = cb ∨ x = gb

/-- The three blocks as rows; of what lay in w0 only they may have turned. -/
structure HRows (w0 w : World) (b cb gb N : Nat) (top : Nat → Value) (C : Nat → Int) (G : Nat → Bool) : Prop where
  rb : w.rowIs b 79 9 top
  rc : w.rowIs cb 3 N (fun i => .int .i64 (C i))
  rg : w.rowIs gb 4 N (fun i => .bool (G i))
  tu : Turns (In3 b cb gb) w0 w

namespace HRows
variable {w0 w1 w w' : World} {b cb gb N : Nat} {top : Nat → Value} {C : Nat → Int} {G : Nat → Bool}
theorem nbc (h : HRows w0 w b cb gb N top C G) : b ≠ cb := row_ne h.rb h.rc (by decide)
theorem nbg (h : HRows w0 w b cb gb N top C G) : b ≠ gb := row_ne h.rb h.rg (by decide)
theorem ncg (h : HRows w0 w b cb gb N top C G) : cb ≠ gb := row_ne h.rc h.rg (by decide)
theorem start (h : HRows w0 w b cb gb N top C G) : HRows w w b cb gb N top C G := ⟨h.rb, h.rc, h.rg, Turns.refl _ _⟩
theorem after (h : HRows w1 w b cb gb N top C G) (k : Turns (In3 b cb gb) w0 w1) : HRows w0 w b cb gb N top C G := ⟨h.rb, h.rc, h.rg, k.trans h.tu⟩
theorem drew (h : HRows w0 w b cb gb N top C G) : HRows w0 w.drew b cb gb N top C G := ⟨h.rb, h.rc, h.rg, h.tu.drew⟩
theorem drewN (h : HRows w0 w b cb gb N top C G) (n : Nat) : HRows w0 (w.drewN n) b cb gb N top C G := ⟨h.rb, h.rc, h.rg, h.tu.drewN n⟩
theorem alloc (h : HRows w0 w b cb gb N top C G) (o : Obj) : HRows w0 (w.alloc o) b cb gb N top C G := ⟨h.rb.alloc o, h.rc.alloc o, h.rg.alloc o, h.tu.alloc o⟩
theorem setC (h : HRows w0 w b cb gb N top C G) (i : Nat) (v : Int) : HRows w0 (w.setCell ⟨cb, i, none⟩ (.int .i64 v)) b cb gb N top (upd C i v) G :=
  ⟨row_other h.rb h.nbc _, by rw [← upd_int]; exact row_set h.rc i _, row_other h.rg h.ncg.symm _, h.tu.setCell (p := ⟨cb, i, none⟩) (.inr (.inl rfl)) _⟩
theorem setG (h : HRows w0 w b cb gb N top C G) (i : Nat) (v : Bool) : HRows w0 (w.setCell ⟨gb, i, none⟩ (.bool v)) b cb gb N top C (upd G i v) :=
  ⟨row_other h.rb h.nbg _, row_other h.rc h.ncg _, by rw [← upd_bool]; exact row_set h.rg i _, h.tu.setCell (p := ⟨gb, i, none⟩) (.inr (.inr rfl)) _⟩
theorem setB (h : HRows w0 w b cb gb N top C G) (i : Nat) (v : Value) : HRows w0 (w.setCell ⟨b, i, none⟩ v) b cb gb N (upd top i v) C G :=
  ⟨row_set h.rb i v, row_other h.rc h.nbc.symm _, row_other h.rg h.nbg.symm _, h.tu.setCell (p := ⟨b, i, none⟩) (.inl rfl) _⟩
theorem setNew (h : HRows w0 w b cb gb N top C G) {g i : Nat} (hg : w0.heap.size ≤ g) (h1 : b < w0.heap.size) (h2 : cb < w0.heap.size) (h3 : gb < w0.heap.size) (v : Value) : HRows w0 (w.setCell ⟨g, i, none⟩ v) b cb gb N top C G :=
  ⟨row_other h.rb (by omega) _, row_other h.rc (by omega) _, row_other h.rg (by omega) _, h.tu.setNew (p := ⟨g, i, none⟩) hg v⟩
theorem turns (h : HRows w0 w b cb gb N top C G) {S : Nat → Prop} (k : Turns S w w') (hs : ∀ x, S x → ¬ In3 b cb gb x ∧ w0.heap.size ≤ x) : HRows w0 w' b cb gb N top C G :=
  ⟨k.row h.rb (fun x => (hs _ x).1 (.inl rfl)), k.row h.rc (fun x => (hs _ x).1 (.inr (.inl rfl))), k.row h.rg (fun x => (hs _ x).1 (.inr (.inr rfl))),
   ⟨k.os.trans h.tu.os, k.tape.trans h.tu.tape, k.output.trans h.tu.output, Nat.le_trans h.tu.size k.size,
    fun i hi hn => (k.block i (Nat.lt_of_lt_of_le hi h.tu.size) (fun x => by have := (hs i x).2; omega)).trans (h.tu.block i hi hn)⟩⟩
theorem below (h : HRows w0 w b cb gb N top C G) (k : Below w.heap.size w w') : HRows w0 w' b cb gb N top C G :=
  h.turns (S := fun _ => False) (Turns.of_below k) (fun _ x => x.elim)
theorem congr {top' : Nat → Value} {C' : Nat → Int} {G' : Nat → Bool} (h : HRows w0 w b cb gb N top C G) (e1 : ∀ i, i < 9 → top i = top' i) (e2 : ∀ i, i < N → C i = C' i) (e3 : ∀ i, i < N → G i = G' i) : HRows w0 w b cb gb N top' C' G' :=
  ⟨h.rb.congr e1, h.rc.congr (fun i hi => by rw [e2 i hi]), h.rg.congr (fun i hi => by rw [e3 i hi]), h.tu⟩
end HRows

/-- copy into a row, as one step of a region that draws. -/
theorem step_copy_row {P : Program} {ops : Array Oper} {o : Oper} {a : Act} {w : World} {K : Act → World → Prop} {Q : Exit → Act → World → Prop} {E : Prop} (hgd : o.guard = none) (d s : Operand) (dT sT : TypeId)
    (ho : o.op = .call { callee := .builtin .copy, args := #[d, s], argTypes := #[dT, sT] }) (elem : TypeId) (hu : P.underlying dT = some (.slice elem)) (hsz : (P.info? elem).map (·.size) = some 1)
    (dp sp : Option Addr) (dLen dCap sLen sCap : Nat) (hd : a.eval d = .slice dp dLen dCap) (hs : a.eval s = .slice sp sLen sCap)
    (g off N : Nat) (t : TypeId) (C : Nat → Int) (hg : w.rowIs g t N (fun i => .int .i64 (C i))) (xs : List Int) (hn : xs.length = Nat.min sLen dLen)
    (hpos : 0 < xs.length → dp = some ⟨g, off, none⟩ ∧ ∃ ad, sp = some ad ∧ ∀ j (h : j < xs.length), w.cell? (ad.add j) = some (.int .i64 xs[j]))
    (hfit : off + xs.length ≤ N)
    (h : ∀ w', w'.rowIs g t N (fun i => .int .i64 (wr C off xs i)) → Turns (fun x => x = g) w w' → w'.heap.size = w.heap.size → K (a.put o.dst (goInt xs.length)) w') :
    if Region.wanted o (yielded ops a.tmps) = true then Oper.wp P o a w K Q else E := by
  have hw : Region.wanted o (yielded ops a.tmps) = true := by simp [Region.wanted, hgd]
  rw [if_pos hw]
  by_cases h0 : xs.length = 0
  · obtain rfl : xs = [] := List.eq_nil_of_length_eq_zero h0
    have hrun := run_copy_none (P := P) w dT sT o.type elem dp sp dLen dCap sLen sCap hu hsz (by simpa using hn.symm)
    unfold Oper.wp
    simp [execOp, ho, resolve, invoke, builtin, hd, hs, hrun, Result.andThen]
    exact h w (by rw [wr_nil]; exact hg) (Turns.refl _ _) rfl
  · obtain ⟨rfl, ad, rfl, hsrc⟩ := hpos (by omega)
    have hg' := hg
    obtain ⟨cur, hh, hcs, hcc⟩ := hg'
    have hrun := run_copy_row (P := P) w dT sT o.type elem g off dLen dCap ad sLen sCap cur t (xs.map (Value.int .i64)) hu hsz hh (by simpa using hn)
      (fun j v hj => by
        rw [List.getElem?_map] at hj
        by_cases hjl : j < xs.length
        · rw [List.getElem?_eq_getElem hjl] at hj
          rw [hsrc j hjl]; exact hj
        · rw [List.getElem?_eq_none (by omega)] at hj; cases hj) (by simp; omega) (fun v hv => by obtain ⟨x, _, rfl⟩ := List.mem_map.1 hv; rfl)
    unfold Oper.wp
    simp [execOp, ho, resolve, invoke, builtin, hd, hs, hrun, Result.andThen]
    have hfin := h (w.setRow g (cur.toList.take off ++ (xs.map (Value.int .i64) ++ cur.toList.drop (off + xs.length))).toArray) ?_ ?_ ?_
    · exact hfin
    · refine ⟨_, setRow_heap w g cur _ t _ hh, by simp; omega, fun i hi => ?_⟩
      simp only [List.getElem?_toArray]
      by_cases h1 : i < off
      · rw [List.getElem?_append_left (by simp; omega), List.getElem?_take_of_lt h1, wr_out _ _ _ _ (.inl h1)]
        simpa using hcc i hi
      · rw [List.getElem?_append_right (by simp; omega)]
        have hlt : (cur.toList.take off).length = off := by simp; omega
        rw [hlt]
        by_cases h2 : i < off + xs.length
        · rw [List.getElem?_append_left (by simp; omega)]
          obtain ⟨j, rfl⟩ : ∃ j, i = off + j := ⟨i - off, by omega⟩
          rw [wr_in _ _ _ _ (by omega)]
          rw [List.getElem?_map, show off + j - off = j from by omega, List.getElem?_eq_getElem (show j < xs.length from by omega)]; rfl
        · rw [List.getElem?_append_right (by simp; omega), wr_out _ _ _ _ (.inr (by omega))]
          simp only [List.length_map, List.getElem?_drop]
          rw [show off + xs.length + (i - off - xs.length) = i from by omega]
          simpa using hcc i hi
    · exact ⟨rfl, rfl, rfl, by simp [World.setRow], fun k hk hs => setRow_other w g k _ hs⟩
    · simp [World.setRow]

end Go.Proofs.Ytfeghobfkgimfaa
