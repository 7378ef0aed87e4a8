/- An argument that is a slice of acts, opened to its cells. -/
import Derived.Test.YtfeghobfkgimfaaActs
import Derived.ProofKit
import Derived.Deep.Slices
import Derived.ChangeSame
import Derived.Below
namespace Go.Proofs.Ytfeghobfkgimfaa
open Go.ChangeShapes Go.WideShapes Go.ChangeAt Go.RowKit Go.Deep

theorem Try.cells57 : Try.prog.cellsOf 57 = 7 := by kernel_rfl
theorem Try.cells55 : Try.prog.cellsOf 55 = 3 := by kernel_rfl
theorem Try.cells3 : Try.prog.cellsOf 3 = 1 := by kernel_rfl
theorem Try.cells22 : Try.prog.cellsOf 22 = 1 := by kernel_rfl

instance : Inhabited ActD := ⟨⟨0, 0, 0, 0, 0, none, 0, 0, none, 0, 0⟩⟩

theorem add_plain (g o k : Nat) : (⟨g, o, none⟩ : Addr).add k = ⟨g, o + k, none⟩ := by
  unfold Addr.add; split
  · rename_i h; subst h; rfl
  · rfl
theorem cell_lt {w : World} {a : Addr} {v : Value} (h : w.cell? a = some v) : a.block < w.heap.size ∧ a.spot = none := by
  unfold World.cell? at h
  split at h
  · rename_i c t r hb
    refine ⟨(Array.getElem?_eq_some_iff.1 hb).1, ?_⟩
    split at h
    · cases h
    · rename_i hs; simpa using hs
  · cases h

section
variable {H : Type} {enc : TypeId × Value → H} {w : World} {base : Nat} {sp : Nat → Bool} {held : Bool}

theorem open_len {e t : TypeId} {fuel : Nat} {c : Value} {y : DataW H × List MemPlace} (ht : Try.prog.underlying t = some (.slice e)) (h : DataW.trod enc Try.prog w base sp held fuel t [c] = some y) : ∃ A n cap, c = .slice A n cap ∧ n ≤ maxLen := by
  rcases open_slice ht h with ⟨h1, _⟩ | ⟨a, len, cap, m, n, D, Pl, h1, _, h2, h3, _⟩
  · injection h1 with h1; exact ⟨_, _, _, h1, by unfold maxLen; omega⟩
  · injection h1 with h1; exact ⟨_, _, _, h1, by omega⟩

set_option maxRecDepth 100000 in
theorem act_cells {fuel : Nat} {cs : List Value} {y : DataW H × List MemPlace} (h : DataW.trod enc Try.prog w base sp held fuel 57 cs = some y) :
    ∃ x : ActD, cs = [.int .i64 x.k, .int .i64 x.at_, .int .i64 x.tt, .int .i64 x.nk, .int .i64 x.nn, .slice x.na x.nl x.ncap, .slice x.ra x.rl x.rcap] ∧ x.nl ≤ maxLen ∧ x.rl ≤ maxLen := by
  obtain ⟨xs, n, rfl, hy, hlen, hxl, hf⟩ := DataW.trod_struct Try.underlying57 h
  rw [Try.cells57] at hlen
  match cs, hlen with
  | [c0, c1, c2, c3, c4, c5, c6], _ =>
    have hx5 : xs.length = 5 := hxl
    match xs, hx5 with
    | [y0, y1, y2, y3, y4], _ =>
      have f0 : DataW.trod enc Try.prog w base sp held n 3 (([c0, c1, c2, c3, c4, c5, c6].drop 0).take (Try.prog.cellsOf 3)) = some y0 := hf 0 _ rfl
      have f1 : DataW.trod enc Try.prog w base sp held n 3 (([c0, c1, c2, c3, c4, c5, c6].drop 1).take (Try.prog.cellsOf 3)) = some y1 := hf 1 _ rfl
      have f2 : DataW.trod enc Try.prog w base sp held n 3 (([c0, c1, c2, c3, c4, c5, c6].drop 2).take (Try.prog.cellsOf 3)) = some y2 := hf 2 _ rfl
      have f3 : DataW.trod enc Try.prog w base sp held n 55 (([c0, c1, c2, c3, c4, c5, c6].drop 3).take (Try.prog.cellsOf 55)) = some y3 := hf 3 _ rfl
      have f4 : DataW.trod enc Try.prog w base sp held n 22 (([c0, c1, c2, c3, c4, c5, c6].drop 6).take (Try.prog.cellsOf 22)) = some y4 := hf 4 _ rfl
      rw [Try.cells3] at f0 f1 f2
      rw [Try.cells55] at f3
      rw [Try.cells22] at f4
      obtain ⟨z0, e0, _, _⟩ := DataW.trod_int Try.underlying3 (show DataW.trod enc Try.prog w base sp held n 3 [c0] = some y0 from f0)
      obtain ⟨z1, e1, _, _⟩ := DataW.trod_int Try.underlying3 (show DataW.trod enc Try.prog w base sp held n 3 [c1] = some y1 from f1)
      obtain ⟨z2, e2, _, _⟩ := DataW.trod_int Try.underlying3 (show DataW.trod enc Try.prog w base sp held n 3 [c2] = some y2 from f2)
      obtain ⟨rA, rl, rcap, e6, hrm⟩ := open_len Try.underlying22 (show DataW.trod enc Try.prog w base sp held n 22 [c6] = some y4 from f4)
      obtain ⟨xs', n', rfl, hy', hlen', hxl', hf'⟩ := DataW.trod_struct Try.underlying55 (show DataW.trod enc Try.prog w base sp held n 55 [c3, c4, c5] = some y3 from f3)
      have hx3 : xs'.length = 3 := hxl'
      match xs', hx3 with
      | [t0, t1, t2], _ =>
        have g0 : DataW.trod enc Try.prog w base sp held n' 3 (([c3, c4, c5].drop 0).take (Try.prog.cellsOf 3)) = some t0 := hf' 0 _ rfl
        have g1 : DataW.trod enc Try.prog w base sp held n' 3 (([c3, c4, c5].drop 1).take (Try.prog.cellsOf 3)) = some t1 := hf' 1 _ rfl
        have g2 : DataW.trod enc Try.prog w base sp held n' 22 (([c3, c4, c5].drop 2).take (Try.prog.cellsOf 22)) = some t2 := hf' 2 _ rfl
        rw [Try.cells3] at g0 g1
        rw [Try.cells22] at g2
        obtain ⟨z3, e3, _, _⟩ := DataW.trod_int Try.underlying3 (show DataW.trod enc Try.prog w base sp held n' 3 [c3] = some t0 from g0)
        obtain ⟨z4, e4, _, _⟩ := DataW.trod_int Try.underlying3 (show DataW.trod enc Try.prog w base sp held n' 3 [c4] = some t1 from g1)
        obtain ⟨nA, nl, ncap, e5, hnm⟩ := open_len Try.underlying22 (show DataW.trod enc Try.prog w base sp held n' 22 [c5] = some t2 from g2)
        injection e0 with e0; injection e1 with e1; injection e2 with e2; injection e3 with e3; injection e4 with e4
        exact ⟨⟨z0, z1, z2, z3, z4, nA, nl, ncap, rA, rl, rcap⟩, by rw [e0, e1, e2, e3, e4, e5, e6], hnm, hrm⟩

set_option maxRecDepth 100000 in
theorem open_acts {v : Value} {d : DataW H} {p : List MemPlace} {r : Reach} {b0 : Nat} (hv : Value.okWide Try.prog w r b0 48 v) (h : DataW.Trod enc Try.prog w base sp held 48 v d p) :
    ∃ A cap l, v = .slice A (List.length (α := ActD) l) cap ∧ ActsSl w A cap l := by
  obtain ⟨A, n, cap, rfl⟩ := okWide_slice Try.underlying48 hv
  obtain ⟨fuel, hf⟩ := h
  rcases open_slice Try.underlying48 hf with ⟨h1, _⟩ | ⟨a, len, cap', m, n', D, Pl, h1, hb, h2, h3, hm, hx, hi⟩
  · have h1 : [Value.slice A n cap] = [.slice none 0 0] := h1
    injection h1 with h1; injection h1 with hA hn hc
    subst hA hn hc
    exact ⟨none, 0, [], rfl, Nat.le_refl _, Nat.zero_le _, fun h => absurd h (by simp)⟩
  · have h1 : [Value.slice A n cap] = [.slice (some a) len cap'] := h1
    injection h1 with h1; injection h1 with hA hn hc
    subst hA hn hc
    have hmn : n ≤ m := by rw [hm]; split <;> omega
    have hex : ∀ i, i < n → ∃ x : ActD, x.nl ≤ maxLen ∧ x.rl ≤ maxLen ∧ ∀ j (hj : j < 7), w.cell? ((a.add (i * 7)).add j) = [Value.int .i64 x.k, .int .i64 x.at_, .int .i64 x.tt, .int .i64 x.nk, .int .i64 x.nn, .slice x.na x.nl x.ncap, .slice x.ra x.rl x.rcap][j]? := fun i hin => by
      obtain ⟨cs', hc1, hc2⟩ := hi i (by omega)
      rw [Try.cells57] at hc1
      obtain ⟨x, rfl, hx1, hx2⟩ := act_cells hc2
      exact ⟨x, hx1, hx2, (World.cells?_some hc1).2.2⟩
    have hfun : ∃ f : Nat → ActD, ∀ i, i < n → ((f i).nl ≤ maxLen ∧ (f i).rl ≤ maxLen ∧ ∀ j (hj : j < 7), w.cell? ((a.add (i * 7)).add j) = [Value.int .i64 (f i).k, .int .i64 (f i).at_, .int .i64 (f i).tt, .int .i64 (f i).nk, .int .i64 (f i).nn, .slice (f i).na (f i).nl (f i).ncap, .slice (f i).ra (f i).rl (f i).rcap][j]?) := by
      classical
      refine ⟨fun i => if h : i < n then Classical.choose (hex i h) else default, fun i hin => ?_⟩
      simp only [dif_pos hin]
      exact Classical.choose_spec (hex i hin)
    obtain ⟨f, hf2⟩ := hfun
    refine ⟨some a, cap, (List.range n).map f, by simp, by simpa using h2, by simp; omega, fun h0 => ?_⟩
    simp at h0
    have hz := cell_lt ((hf2 0 h0).2.2 0 (by decide))
    obtain ⟨g, o, s⟩ := a
    have hs : s = none := by simpa [Addr.add] using hz.2
    subst hs
    refine ⟨g, o, rfl, by simpa [Addr.add] using hz.1, fun i hin => ?_⟩
    have hin' : i < n := by simpa using hin
    obtain ⟨q1, q2, q⟩ := hf2 i hin'
    have e : ((List.range n).map f)[i] = f i := by simp
    rw [e]
    simp only [add_plain] at q
    exact ⟨q 0 (by decide), q 1 (by decide), q 2 (by decide), q 3 (by decide), q 4 (by decide), q 5 (by decide), q 6 (by decide), q1, q2⟩
end
end Go.Proofs.Ytfeghobfkgimfaa
