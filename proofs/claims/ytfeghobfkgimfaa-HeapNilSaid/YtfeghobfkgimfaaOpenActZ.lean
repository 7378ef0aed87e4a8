/- One act as an argument, within the reach: its args read as ints, its lengths bounded. -/
import Derived.Test.YtfeghobfkgimfaaOpenAct
import Derived.Test.YtfeghobfkgimfaaSized
namespace Go.Proofs.Ytfeghobfkgimfaa
open Go.ChangeShapes Go.WideShapes Go.ChangeAt Go.RowKit Go.Deep

theorem Try.bytes3z : Try.prog.bytesOf 3 = 8 := by kernel_rfl

section
variable {H : Type} {enc : TypeId × Value → H} {w : World} {base : Nat} {sp : Nat → Bool} {held : Bool}

theorem ints_sized {fuel : Nat} {c : Value} {y : DataW H × List MemPlace} (hz : Szd Try.prog 22 y.1) (h : DataW.trod enc Try.prog w base sp held fuel 22 [c] = some y) :
    ∃ A n cap, ∃ xs : List Int, c = .slice A n cap ∧ n = xs.length ∧ n ≤ 140737488351232 ∧ SlI w A cap xs := by
  rcases open_slice1 Try.underlying22 Try.cells3 h with ⟨h1, rfl⟩ | ⟨a, len, cap, m, n, V, D, Pl, h1, hb, h2, h3, hm, rfl, hi⟩
  · injection h1 with h1
    exact ⟨none, 0, 0, [], h1, rfl, by omega, ⟨Nat.le_refl _, fun h => absurd h (by simp)⟩⟩
  · injection h1 with h1
    have hmn : len ≤ m := by rw [hm]; split <;> omega
    have hex : ∀ i, i < len → ∃ z : Int, w.cell? (a.add i) = some (.int .i64 z) := fun i hin => by
      obtain ⟨e1, e2⟩ := hi i (by omega)
      obtain ⟨z, hz, _, _⟩ := DataW.trod_int Try.underlying3 e2
      injection hz with hz
      exact ⟨z, by rw [e1, hz]⟩
    have hfun : ∃ f : Nat → Int, ∀ i, i < len → w.cell? (a.add i) = some (.int .i64 (f i)) := by
      classical
      refine ⟨fun i => if h : i < len then Classical.choose (hex i h) else 0, fun i hin => ?_⟩
      simp only [dif_pos hin]
      exact Classical.choose_spec (hex i hin)
    obtain ⟨f, hf⟩ := hfun
    refine ⟨some a, len, cap, (List.range len).map f, h1, by simp, ?_, ⟨by simpa using h2, fun h0 => ?_⟩⟩
    · have h9 := (szd_slice Try.underlying22 hz).1
      rw [Try.bytes3z] at h9
      simp at h9
      omega
    · simp at h0
      have hz := cell_lt (hf 0 h0)
      refine ⟨a, rfl, ?_, fun j hj => ?_⟩
      · have e : (a.add 0) = a := by unfold Addr.add; split <;> simp_all
        rw [e] at hz; exact hz.1
      · have hj' : j < len := by simpa using hj
        rw [hf j hj']; simp

set_option maxRecDepth 100000 in
theorem act_sized {fuel : Nat} {cs : List Value} {y : DataW H × List MemPlace} (hz : Szd Try.prog 57 y.1) (h : DataW.trod enc Try.prog w base sp held fuel 57 cs = some y) :
    ∃ (x : ActD) (xs : List Int), cs = [.int .i64 x.k, .int .i64 x.at_, .int .i64 x.tt, .int .i64 x.nk, .int .i64 x.nn, .slice x.na x.nl x.ncap, .slice x.ra x.rl x.rcap] ∧ x.nl = xs.length ∧ SlI w x.na x.ncap xs ∧ x.nl ≤ 140737488351232 ∧ x.rl ≤ 140737488351232 := by
  obtain ⟨xs, n, rfl, hy, hlen, hxl, hf⟩ := DataW.trod_struct Try.underlying57 h
  rw [Try.cells57] at hlen
  match cs, hlen with
  | [c0, c1, c2, c3, c4, c5, c6], _ =>
    have hx5 : xs.length = 5 := hxl
    match xs, hx5 with
    | [y0, y1, y2, y3, y4], _ =>
      have f0 : DataW.trod enc Try.prog w base sp held n 3 (([c0, c1, c2, c3, c4, c5, c6].drop 0).take (Try.prog.cellsOf 3)) = some y0 := hf 0 _ rfl
      have f1 : DataW.trod enc Try.prog w base sp held n 3 (([c0, c1, c2, c3, c4, c5, c6].drop 1).take (Try.prog.cellsOf 3)) = some y1 := hf 1 _ rfl
      have f2 : DataW.trod enc Try.prog w base sp held n 3 (([c0, c1, c2, c3, c4, c5, c6].drop 2).take (Try.prog.cellsOf 3)) = some y2 := hf 2 _ rfl
      have f3 : DataW.trod enc Try.prog w base sp held n 55 (([c0, c1, c2, c3, c4, c5, c6].drop 3).take (Try.prog.cellsOf 55)) = some y3 := hf 3 _ rfl
      have f4 : DataW.trod enc Try.prog w base sp held n 22 (([c0, c1, c2, c3, c4, c5, c6].drop 6).take (Try.prog.cellsOf 22)) = some y4 := hf 4 _ rfl
      rw [Try.cells3] at f0 f1 f2
      rw [Try.cells55] at f3
      rw [Try.cells22] at f4
      obtain ⟨z0, e0, _, _⟩ := DataW.trod_int Try.underlying3 (show DataW.trod enc Try.prog w base sp held n 3 [c0] = some y0 from f0)
      obtain ⟨z1, e1, _, _⟩ := DataW.trod_int Try.underlying3 (show DataW.trod enc Try.prog w base sp held n 3 [c1] = some y1 from f1)
      obtain ⟨z2, e2, _, _⟩ := DataW.trod_int Try.underlying3 (show DataW.trod enc Try.prog w base sp held n 3 [c2] = some y2 from f2)
      have hz' : Szd Try.prog 57 (.agg [y0.1, y1.1, y2.1, y3.1, y4.1]) := by rw [hy] at hz; exact hz
      have hz3 : Szd Try.prog 55 y3.1 := szd_struct Try.underlying57 hz' 3 _ y3.1 rfl rfl
      have hz4 : Szd Try.prog 22 y4.1 := szd_struct Try.underlying57 hz' 4 _ y4.1 rfl rfl
      obtain ⟨rA, rl, rcap, ys4, e6, _, hrm, _⟩ := ints_sized hz4 (show DataW.trod enc Try.prog w base sp held n 22 [c6] = some y4 from f4)
      obtain ⟨xs', n', rfl, hy', hlen', hxl', hf'⟩ := DataW.trod_struct Try.underlying55 (show DataW.trod enc Try.prog w base sp held n 55 [c3, c4, c5] = some y3 from f3)
      have hx3 : xs'.length = 3 := hxl'
      match xs', hx3 with
      | [t0, t1, t2], _ =>
        have g0 : DataW.trod enc Try.prog w base sp held n' 3 (([c3, c4, c5].drop 0).take (Try.prog.cellsOf 3)) = some t0 := hf' 0 _ rfl
        have g1 : DataW.trod enc Try.prog w base sp held n' 3 (([c3, c4, c5].drop 1).take (Try.prog.cellsOf 3)) = some t1 := hf' 1 _ rfl
        have g2 : DataW.trod enc Try.prog w base sp held n' 22 (([c3, c4, c5].drop 2).take (Try.prog.cellsOf 22)) = some t2 := hf' 2 _ rfl
        rw [Try.cells3] at g0 g1
        rw [Try.cells22] at g2
        obtain ⟨z3, e3, _, _⟩ := DataW.trod_int Try.underlying3 (show DataW.trod enc Try.prog w base sp held n' 3 [c3] = some t0 from g0)
        obtain ⟨z4, e4, _, _⟩ := DataW.trod_int Try.underlying3 (show DataW.trod enc Try.prog w base sp held n' 3 [c4] = some t1 from g1)
        have hz3' : Szd Try.prog 55 (.agg [t0.1, t1.1, t2.1]) := by rw [hy'] at hz3; exact hz3
        have hz5 : Szd Try.prog 22 t2.1 := szd_struct Try.underlying55 hz3' 2 _ t2.1 rfl rfl
        obtain ⟨nA, nl, ncap, ys, e5, hnl, hnm, hsl⟩ := ints_sized hz5 (show DataW.trod enc Try.prog w base sp held n' 22 [c5] = some t2 from g2)
        injection e0 with e0; injection e1 with e1; injection e2 with e2; injection e3 with e3; injection e4 with e4
        refine ⟨⟨z0, z1, z2, z3, z4, nA, nl, ncap, rA, rl, rcap⟩, ys, by rw [e0, e1, e2, e3, e4, e5, e6], hnl, hsl, hnm, hrm⟩
end
end Go.Proofs.Ytfeghobfkgimfaa
