/- One act as an argument, its args read as ints; what the bound on bulk gives. -/
import Derived.Test.YtfeghobfkgimfaaOpenActs
namespace Go.Proofs.Ytfeghobfkgimfaa
open Go.ChangeShapes Go.WideShapes Go.ChangeAt Go.RowKit Go.Deep

theorem bulk_one {H : Type} (d : DataW H) : 1 ≤ Rows.uptoBulk d := by
  cases d with
  | lit l => cases l <;> simp [Rows.uptoBulk]
  | nil => simp [Rows.uptoBulk]
  | ptr d => simp [Rows.uptoBulk]
  | slice elems spare => simp [Rows.uptoBulk]
  | agg parts => simp [Rows.uptoBulk]
  | iface t d => simp [Rows.uptoBulk]
  | map entries => simp [Rows.uptoBulk]
  | held h => simp [Rows.uptoBulk]
theorem bulk_part {H : Type} {d : DataW H} {l : List (DataW H)} (h : d ∈ l) : Rows.uptoBulk d ≤ Rows.uptoBulkAll l := by
  induction l with
  | nil => cases h
  | cons x r ih =>
    simp only [Rows.uptoBulkAll]
    cases List.mem_cons.1 h with
    | inl e => subst e; omega
    | inr e => have := ih e; omega
theorem bulk_length {H : Type} (l : List (DataW H)) : l.length ≤ Rows.uptoBulkAll l := by
  induction l with
  | nil => simp [Rows.uptoBulkAll]
  | cons x r ih => have := bulk_one x; simp only [Rows.uptoBulkAll, List.length_cons]; omega
theorem bulk_slice {H : Type} (elems spare : List (DataW H)) : elems.length ≤ Rows.uptoBulk (.slice elems spare) := by
  have h1 := bulk_length elems
  simp only [Rows.uptoBulk]
  omega
theorem bulk_agg {H : Type} (l : List (DataW H)) : Rows.uptoBulkAll l ≤ Rows.uptoBulk (.agg l) := by
  simp only [Rows.uptoBulk]
  omega
theorem bulk_bound {H : Type} {l : List (DataW H)} (hk : Rows.uptoSmall H l = true) : Rows.uptoBulkAll l ≤ 1048576 := of_decide_eq_true hk

section
variable {H : Type} {enc : TypeId × Value → H} {w : World} {base : Nat} {sp : Nat → Bool} {held : Bool}

theorem ints_cells {fuel : Nat} {c : Value} {y : DataW H × List MemPlace} (h : DataW.trod enc Try.prog w base sp held fuel 22 [c] = some y) :
    ∃ A n cap, ∃ xs : List Int, c = .slice A n cap ∧ n = xs.length ∧ n ≤ maxLen ∧ SlI w A cap xs ∧ xs.length ≤ Rows.uptoBulk y.1 := by
  rcases open_slice1 Try.underlying22 Try.cells3 h with ⟨h1, rfl⟩ | ⟨a, len, cap, m, n, V, D, Pl, h1, hb, h2, h3, hm, rfl, hi⟩
  · injection h1 with h1
    exact ⟨none, 0, 0, [], h1, rfl, by unfold maxLen; omega, ⟨Nat.le_refl _, fun h => absurd h (by simp)⟩, by simp⟩
  · injection h1 with h1
    have hmn : len ≤ m := by rw [hm]; split <;> omega
    have hex : ∀ i, i < len → ∃ z : Int, w.cell? (a.add i) = some (.int .i64 z) := fun i hin => by
      obtain ⟨e1, e2⟩ := hi i (by omega)
      obtain ⟨z, hz, _, _⟩ := DataW.trod_int Try.underlying3 e2
      injection hz with hz
      exact ⟨z, by rw [e1, hz]⟩
    have hfun : ∃ f : Nat → Int, ∀ i, i < len → w.cell? (a.add i) = some (.int .i64 (f i)) := by
      classical
      refine ⟨fun i => if h : i < len then Classical.choose (hex i h) else 0, fun i hin => ?_⟩
      simp only [dif_pos hin]
      exact Classical.choose_spec (hex i hin)
    obtain ⟨f, hf⟩ := hfun
    refine ⟨some a, len, cap, (List.range len).map f, h1, by simp, by omega, ⟨by simpa using h2, fun h0 => ?_⟩, ?_⟩
    · simp at h0
      have hz := cell_lt (hf 0 h0)
      refine ⟨a, rfl, ?_, fun j hj => ?_⟩
      · have e : (a.add 0) = a := by unfold Addr.add; split <;> simp_all
        rw [e] at hz; exact hz.1
      · have hj' : j < len := by simpa using hj
        rw [hf j hj']; simp
    · have := bulk_slice ((List.range len).map D) ((List.range (m - len)).map fun j => D (len + j))
      simpa using this

set_option maxRecDepth 100000 in
theorem act_full {fuel : Nat} {cs : List Value} {y : DataW H × List MemPlace} (h : DataW.trod enc Try.prog w base sp held fuel 57 cs = some y) :
    ∃ (x : ActD) (xs : List Int), cs = [.int .i64 x.k, .int .i64 x.at_, .int .i64 x.tt, .int .i64 x.nk, .int .i64 x.nn, .slice x.na x.nl x.ncap, .slice x.ra x.rl x.rcap] ∧ x.nl = xs.length ∧ SlI w x.na x.ncap xs ∧ x.rl ≤ maxLen ∧ xs.length ≤ Rows.uptoBulk y.1 := by
  obtain ⟨xs, n, rfl, hy, hlen, hxl, hf⟩ := DataW.trod_struct Try.underlying57 h
  rw [Try.cells57] at hlen
  match cs, hlen with
  | [c0, c1, c2, c3, c4, c5, c6], _ =>
    have hx5 : xs.length = 5 := hxl
    match xs, hx5 with
    | [y0, y1, y2, y3, y4], _ =>
      have f0 : DataW.trod enc Try.prog w base sp held n 3 (([c0, c1, c2, c3, c4, c5, c6].drop 0).take (Try.prog.cellsOf 3)) = some y0 := hf 0 _ rfl
      have f1 : DataW.trod enc Try.prog w base sp held n 3 (([c0, c1, c2, c3, c4, c5, c6].drop 1).take (Try.prog.cellsOf 3)) = some y1 := hf 1 _ rfl
      have f2 : DataW.trod enc Try.prog w base sp held n 3 (([c0, c1, c2, c3, c4, c5, c6].drop 2).take (Try.prog.cellsOf 3)) = some y2 := hf 2 _ rfl
      have f3 : DataW.trod enc Try.prog w base sp held n 55 (([c0, c1, c2, c3, c4, c5, c6].drop 3).take (Try.prog.cellsOf 55)) = some y3 := hf 3 _ rfl
      have f4 : DataW.trod enc Try.prog w base sp held n 22 (([c0, c1, c2, c3, c4, c5, c6].drop 6).take (Try.prog.cellsOf 22)) = some y4 := hf 4 _ rfl
      rw [Try.cells3] at f0 f1 f2
      rw [Try.cells55] at f3
      rw [Try.cells22] at f4
      obtain ⟨z0, e0, _, _⟩ := DataW.trod_int Try.underlying3 (show DataW.trod enc Try.prog w base sp held n 3 [c0] = some y0 from f0)
      obtain ⟨z1, e1, _, _⟩ := DataW.trod_int Try.underlying3 (show DataW.trod enc Try.prog w base sp held n 3 [c1] = some y1 from f1)
      obtain ⟨z2, e2, _, _⟩ := DataW.trod_int Try.underlying3 (show DataW.trod enc Try.prog w base sp held n 3 [c2] = some y2 from f2)
      obtain ⟨rA, rl, rcap, e6, hrm⟩ := open_len Try.underlying22 (show DataW.trod enc Try.prog w base sp held n 22 [c6] = some y4 from f4)
      obtain ⟨xs', n', rfl, hy', hlen', hxl', hf'⟩ := DataW.trod_struct Try.underlying55 (show DataW.trod enc Try.prog w base sp held n 55 [c3, c4, c5] = some y3 from f3)
      have hx3 : xs'.length = 3 := hxl'
      match xs', hx3 with
      | [t0, t1, t2], _ =>
        have g0 : DataW.trod enc Try.prog w base sp held n' 3 (([c3, c4, c5].drop 0).take (Try.prog.cellsOf 3)) = some t0 := hf' 0 _ rfl
        have g1 : DataW.trod enc Try.prog w base sp held n' 3 (([c3, c4, c5].drop 1).take (Try.prog.cellsOf 3)) = some t1 := hf' 1 _ rfl
        have g2 : DataW.trod enc Try.prog w base sp held n' 22 (([c3, c4, c5].drop 2).take (Try.prog.cellsOf 22)) = some t2 := hf' 2 _ rfl
        rw [Try.cells3] at g0 g1
        rw [Try.cells22] at g2
        obtain ⟨z3, e3, _, _⟩ := DataW.trod_int Try.underlying3 (show DataW.trod enc Try.prog w base sp held n' 3 [c3] = some t0 from g0)
        obtain ⟨z4, e4, _, _⟩ := DataW.trod_int Try.underlying3 (show DataW.trod enc Try.prog w base sp held n' 3 [c4] = some t1 from g1)
        obtain ⟨nA, nl, ncap, ys, e5, hnl, hnm, hsl, hbk⟩ := ints_cells (show DataW.trod enc Try.prog w base sp held n' 22 [c5] = some t2 from g2)
        injection e0 with e0; injection e1 with e1; injection e2 with e2; injection e3 with e3; injection e4 with e4
        refine ⟨⟨z0, z1, z2, z3, z4, nA, nl, ncap, rA, rl, rcap⟩, ys, by rw [e0, e1, e2, e3, e4, e5, e6], hnl, hsl, hrm, ?_⟩
        have b1 : Rows.uptoBulk t2.1 ≤ Rows.uptoBulk y3.1 := by
          rw [hy']; exact Nat.le_trans (bulk_part (by simp)) (bulk_agg _)
        have b2 : Rows.uptoBulk y3.1 ≤ Rows.uptoBulk y.1 := by
          rw [hy]; exact Nat.le_trans (bulk_part (by simp)) (bulk_agg _)
        omega
end
end Go.Proofs.Ytfeghobfkgimfaa
