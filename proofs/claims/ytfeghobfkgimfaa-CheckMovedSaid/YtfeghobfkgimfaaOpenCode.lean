/- An argument that is code, opened to its cells. -/
import Derived.Test.YtfeghobfkgimfaaLightW
import Derived.Test.YtfeghobfkgimfaaSized
namespace Go.Proofs.Ytfeghobfkgimfaa
open Go.ChangeShapes Go.WideShapes Go.ChangeAt Go.RowKit Go.Deep

theorem Try.cells39 : Try.prog.cellsOf 39 = 2 := by kernel_rfl
theorem Try.cells44 : Try.prog.cellsOf 44 = 3 := by kernel_rfl
theorem Try.cells45 : Try.prog.cellsOf 45 = 4 := by kernel_rfl
theorem Try.cells46 : Try.prog.cellsOf 46 = 2 := by kernel_rfl
theorem Try.cells36 : Try.prog.cellsOf 36 = 1 := by kernel_rfl
theorem Try.cells37 : Try.prog.cellsOf 37 = 1 := by kernel_rfl
theorem Try.cells30 : Try.prog.cellsOf 30 = 1 := by kernel_rfl
theorem Try.cells9 : Try.prog.cellsOf 9 = 1 := by kernel_rfl
theorem Try.cells3' : Try.prog.cellsOf 3 = 1 := by kernel_rfl
theorem Try.bytes46 : Try.prog.bytesOf 46 = 16 := by kernel_rfl

theorem addr_plain (g o k : Nat) : (⟨g, o, none⟩ : Addr).add k = ⟨g, o + k, none⟩ := by
  unfold Addr.add; split
  · rename_i h; subst h; rfl
  · rfl
theorem cell_at {w : World} {a : Addr} {v : Value} (h : w.cell? a = some v) : a.block < w.heap.size ∧ a.spot = none := by
  unfold World.cell? at h
  split at h
  · rename_i c t r hb
    refine ⟨(Array.getElem?_eq_some_iff.1 hb).1, ?_⟩
    split at h
    · cases h
    · rename_i hs; simpa using hs
  · cases h
theorem choose_f {α : Type} [Inhabited α] {n : Nat} {p : Nat → α → Prop} (h : ∀ i, i < n → ∃ x, p i x) : ∃ f : Nat → α, ∀ i, i < n → p i (f i) := by
  classical
  refine ⟨fun i => if h' : i < n then Classical.choose (h i h') else default, fun i hi => ?_⟩
  simp only [dif_pos hi]
  exact Classical.choose_spec (h i hi)

section
variable {H : Type} {enc : TypeId × Value → H} {w : World} {base : Nat} {sp : Nat → Bool} {held : Bool}

set_option maxRecDepth 100000 in
theorem pair_cells {fuel : Nat} {cs : List Value} {y : DataW H × List MemPlace} (h : DataW.trod enc Try.prog w base sp held fuel 46 cs = some y) : ∃ q : Int × Int, cs = [.int .i64 q.1, .int .i64 q.2] := by
  obtain ⟨xs, n, rfl, _, hlen, hxl, hf⟩ := DataW.trod_array Try.underlying46 h
  rw [Try.cells46] at hlen
  match cs, hlen with
  | [c0, c1], _ =>
    match xs, hxl with
    | [y0, y1], _ =>
      have f0 := hf 0 (by decide); have f1 := hf 1 (by decide)
      rw [Try.cells3'] at f0 f1
      obtain ⟨z0, e0, _, _⟩ := DataW.trod_int Try.underlying3 (show DataW.trod enc Try.prog w base sp held n 3 [c0] = some y0 from f0)
      obtain ⟨z1, e1, _, _⟩ := DataW.trod_int Try.underlying3 (show DataW.trod enc Try.prog w base sp held n 3 [c1] = some y1 from f1)
      injection e0 with e0; injection e1 with e1
      exact ⟨(z0, z1), by rw [e0, e1]⟩

set_option maxRecDepth 100000 in
theorem tab_cells {fuel : Nat} {c : Value} {y : DataW H × List MemPlace} (h : DataW.trod enc Try.prog w base sp held fuel 30 [c] = some y) (hz : Szd Try.prog 30 y.1) :
    ∃ (T : Option Addr) (t : List (Int × Int)) (tc : Nat), c = .slice T t.length tc ∧ TabSl w T tc t ∧ t.length ≤ 140737488355328 := by
  rcases open_slice Try.underlying30 h with ⟨h1, _⟩ | ⟨a, len, cap, m, n, D, Pl, h1, hb, h2, h3, hm, hx, hi⟩
  · injection h1 with h1
    exact ⟨none, [], 0, h1, ⟨Nat.le_refl _, fun h => absurd h (by simp)⟩, by simp⟩
  · injection h1 with h1
    have hmn : len ≤ m := by rw [hm]; split <;> omega
    obtain ⟨f, hf⟩ := choose_f (p := fun i (q : Int × Int) => w.cell? (a.add (i * 2)) = some (.int .i64 q.1) ∧ w.cell? ((a.add (i * 2)).add 1) = some (.int .i64 q.2)) (n := len) (fun i hin => by
      obtain ⟨cs', hc1, hc2⟩ := hi i (by omega)
      rw [Try.cells46] at hc1
      obtain ⟨q, rfl⟩ := pair_cells hc2
      have hc := (World.cells?_some hc1).2.2
      refine ⟨q, ?_, hc 1 (by decide)⟩
      have := hc 0 (by decide)
      rwa [show (a.add (i * 2)).add 0 = a.add (i * 2) from by unfold Addr.add; split <;> simp_all] at this)
    refine ⟨some a, (List.range len).map f, cap, by simpa using h1, ⟨by simpa using h2, fun h0 => ?_⟩, ?_⟩
    · simp at h0
      have hz := cell_at (hf 0 h0).1
      obtain ⟨g, o, s⟩ := a
      have hs : s = none := by simpa [Addr.add] using hz.2
      subst hs
      refine ⟨g, o, rfl, by simpa [Addr.add] using hz.1, fun i hin => ?_⟩
      have hin' : i < len := by simpa using hin
      have q := hf i hin'
      simp only [addr_plain] at q
      simpa using q
    · rw [hx] at hz
      have h4 := (szd_slice Try.underlying30 hz).1
      rw [Try.bytes46] at h4
      simp at h4 ⊢
      omega

set_option maxRecDepth 100000 in
theorem glob_cells {fuel : Nat} {cs : List Value} {y : DataW H × List MemPlace} (h : DataW.trod enc Try.prog w base sp held fuel 44 cs = some y) (hz : Szd Try.prog 44 y.1) :
    ∃ (s : ByteArray) (a e : Int), cs = [.string s, .int .i64 a, .int .i64 e] ∧ s.size ≤ 140737488355328 := by
  obtain ⟨xs, n, rfl, hy, hlen, hxl, hf⟩ := DataW.trod_struct Try.underlying44 h
  rw [Try.cells44] at hlen
  match cs, hlen with
  | [c0, c1, c2], _ =>
    have hx3 : xs.length = 3 := hxl
    match xs, hx3 with
    | [y0, y1, y2], _ =>
      have f0 : DataW.trod enc Try.prog w base sp held n 9 (([c0, c1, c2].drop 0).take (Try.prog.cellsOf 9)) = some y0 := hf 0 _ rfl
      have f1 : DataW.trod enc Try.prog w base sp held n 3 (([c0, c1, c2].drop 1).take (Try.prog.cellsOf 3)) = some y1 := hf 1 _ rfl
      have f2 : DataW.trod enc Try.prog w base sp held n 3 (([c0, c1, c2].drop 2).take (Try.prog.cellsOf 3)) = some y2 := hf 2 _ rfl
      rw [Try.cells9] at f0
      rw [Try.cells3'] at f1 f2
      obtain ⟨s, e0, hs, _⟩ := DataW.trod_string Try.underlying9 (show DataW.trod enc Try.prog w base sp held n 9 [c0] = some y0 from f0)
      obtain ⟨z1, e1, _, _⟩ := DataW.trod_int Try.underlying3 (show DataW.trod enc Try.prog w base sp held n 3 [c1] = some y1 from f1)
      obtain ⟨z2, e2, _, _⟩ := DataW.trod_int Try.underlying3 (show DataW.trod enc Try.prog w base sp held n 3 [c2] = some y2 from f2)
      injection e0 with e0; injection e1 with e1; injection e2 with e2
      refine ⟨s, z1, z2, by rw [e0, e1, e2], ?_⟩
      rw [hy] at hz
      have := szd_string (P := Try.prog) (t := 9) (l := s.data.toList) (by
        have := szd_struct Try.underlying44 hz 0 _ _ rfl rfl
        rwa [hs] at this)
      have e : s.data.toList.length = s.size := rfl
      omega

set_option maxRecDepth 100000 in
theorem ins_cells {fuel : Nat} {cs : List Value} {y : DataW H × List MemPlace} (h : DataW.trod enc Try.prog w base sp held fuel 45 cs = some y) (hz : Szd Try.prog 45 y.1) :
    ∃ (x : InsD) (T : Option Addr) (tc : Nat), cs = [.int .i64 x.op, .int .i64 x.a, .int .i64 x.b, .slice T x.t.length tc] ∧ TabSl w T tc x.t ∧ x.t.length ≤ 140737488355328 := by
  obtain ⟨xs, n, rfl, hy, hlen, hxl, hf⟩ := DataW.trod_struct Try.underlying45 h
  rw [Try.cells45] at hlen
  match cs, hlen with
  | [c0, c1, c2, c3], _ =>
    have hx4 : xs.length = 4 := hxl
    match xs, hx4 with
    | [y0, y1, y2, y3], _ =>
      have f0 : DataW.trod enc Try.prog w base sp held n 3 (([c0, c1, c2, c3].drop 0).take (Try.prog.cellsOf 3)) = some y0 := hf 0 _ rfl
      have f1 : DataW.trod enc Try.prog w base sp held n 3 (([c0, c1, c2, c3].drop 1).take (Try.prog.cellsOf 3)) = some y1 := hf 1 _ rfl
      have f2 : DataW.trod enc Try.prog w base sp held n 3 (([c0, c1, c2, c3].drop 2).take (Try.prog.cellsOf 3)) = some y2 := hf 2 _ rfl
      have f3 : DataW.trod enc Try.prog w base sp held n 30 (([c0, c1, c2, c3].drop 3).take (Try.prog.cellsOf 30)) = some y3 := hf 3 _ rfl
      rw [Try.cells3'] at f0 f1 f2
      rw [Try.cells30] at f3
      obtain ⟨z0, e0, _, _⟩ := DataW.trod_int Try.underlying3 (show DataW.trod enc Try.prog w base sp held n 3 [c0] = some y0 from f0)
      obtain ⟨z1, e1, _, _⟩ := DataW.trod_int Try.underlying3 (show DataW.trod enc Try.prog w base sp held n 3 [c1] = some y1 from f1)
      obtain ⟨z2, e2, _, _⟩ := DataW.trod_int Try.underlying3 (show DataW.trod enc Try.prog w base sp held n 3 [c2] = some y2 from f2)
      rw [hy] at hz
      obtain ⟨T, t, tc, e3, ht, hl⟩ := tab_cells (show DataW.trod enc Try.prog w base sp held n 30 [c3] = some y3 from f3) (szd_struct Try.underlying45 hz 3 _ _ rfl rfl)
      injection e0 with e0; injection e1 with e1; injection e2 with e2
      exact ⟨⟨z0, z1, z2, t⟩, T, tc, by rw [e0, e1, e2, e3], ht, hl⟩

set_option maxRecDepth 100000 in
theorem globs_cells {fuel : Nat} {c : Value} {y : DataW H × List MemPlace} (h : DataW.trod enc Try.prog w base sp held fuel 36 [c] = some y) (hz : Szd Try.prog 36 y.1) :
    ∃ (G : Option Addr) (gl gc : Nat) (ar en : Nat → Int), c = .slice G gl gc ∧ gl ≤ gc ∧ gl ≤ maxLen ∧ (0 < gl → ∃ g o, G = some ⟨g, o, none⟩ ∧ g < w.heap.size ∧ ∀ i, i < gl → ∃ s : ByteArray, (w.cell? ⟨g, o + i * 3, none⟩ = some (.string s) ∧ w.cell? ⟨g, o + i * 3 + 1, none⟩ = some (.int .i64 (ar i)) ∧ w.cell? ⟨g, o + i * 3 + 2, none⟩ = some (.int .i64 (en i))) ∧ s.size ≤ 140737488355328) := by
  rcases open_slice Try.underlying36 h with ⟨h1, _⟩ | ⟨a, len, cap, m, n, D, Pl, h1, hb, h2, h3, hm, hx, hi⟩
  · injection h1 with h1
    exact ⟨none, 0, 0, fun _ => 0, fun _ => 0, h1, Nat.le_refl _, by unfold maxLen; omega, fun h => absurd h (by simp)⟩
  · injection h1 with h1
    have hmn : len ≤ m := by rw [hm]; split <;> omega
    rw [hx] at hz
    have hzs := (szd_slice Try.underlying36 hz).2
    obtain ⟨f, hf⟩ := choose_f (p := fun i (q : ByteArray × Int × Int) => (w.cell? ((a.add (i * 3)).add 0) = some (.string q.1) ∧ w.cell? ((a.add (i * 3)).add 1) = some (.int .i64 q.2.1) ∧ w.cell? ((a.add (i * 3)).add 2) = some (.int .i64 q.2.2)) ∧ q.1.size ≤ 140737488355328) (n := len) (fun i hin => by
      obtain ⟨cs', hc1, hc2⟩ := hi i (by omega)
      rw [Try.cells44] at hc1
      obtain ⟨s, a1, e1, rfl, hs⟩ := glob_cells hc2 (hzs _ (List.mem_map.2 ⟨i, List.mem_range.2 hin, rfl⟩))
      have hc := (World.cells?_some hc1).2.2
      exact ⟨(s, a1, e1), ⟨hc 0 (by decide), hc 1 (by decide), hc 2 (by decide)⟩, hs⟩)
    refine ⟨some a, len, cap, fun i => (f i).2.1, fun i => (f i).2.2, h1, h2, by omega, fun h0 => ?_⟩
    have hz := cell_at (hf 0 h0).1.1
    obtain ⟨g, o, s⟩ := a
    have hs : s = none := by simpa [Addr.add] using hz.2
    subst hs
    refine ⟨g, o, rfl, by simpa [Addr.add] using hz.1, fun i hin => ?_⟩
    have q := hf i hin
    simp only [addr_plain] at q
    exact ⟨(f i).1, q.1, q.2⟩

set_option maxRecDepth 100000 in
theorem inss_cells {fuel : Nat} {c : Value} {y : DataW H × List MemPlace} (h : DataW.trod enc Try.prog w base sp held fuel 37 [c] = some y) (hz : Szd Try.prog 37 y.1) :
    ∃ (I : Option Addr) (ni ic : Nat) (ins : Nat → InsD), c = .slice I ni ic ∧ ni ≤ ic ∧ ni ≤ maxLen ∧ (∀ i, i < ni → (ins i).t.length ≤ 140737488355328) ∧ (0 < ni → ∃ g o, I = some ⟨g, o, none⟩ ∧ g < w.heap.size ∧ ∀ i, i < ni → ∃ T tc, w.cell? ⟨g, o + i * 4, none⟩ = some (.int .i64 (ins i).op) ∧ w.cell? ⟨g, o + i * 4 + 1, none⟩ = some (.int .i64 (ins i).a) ∧ w.cell? ⟨g, o + i * 4 + 2, none⟩ = some (.int .i64 (ins i).b) ∧
      w.cell? ⟨g, o + i * 4 + 3, none⟩ = some (.slice T (ins i).t.length tc) ∧ TabSl w T tc (ins i).t) := by
  rcases open_slice Try.underlying37 h with ⟨h1, _⟩ | ⟨a, len, cap, m, n, D, Pl, h1, hb, h2, h3, hm, hx, hi⟩
  · injection h1 with h1
    exact ⟨none, 0, 0, fun _ => ⟨0, 0, 0, []⟩, h1, Nat.le_refl _, by unfold maxLen; omega, fun i hi => absurd hi (by omega), fun h => absurd h (by simp)⟩
  · injection h1 with h1
    have hmn : len ≤ m := by rw [hm]; split <;> omega
    rw [hx] at hz
    have hzs := (szd_slice Try.underlying37 hz).2
    haveI : Inhabited InsD := ⟨⟨0, 0, 0, []⟩⟩
    obtain ⟨f, hf⟩ := choose_f (p := fun i (q : InsD) => q.t.length ≤ 140737488355328 ∧ ∃ T tc, w.cell? ((a.add (i * 4)).add 0) = some (.int .i64 q.op) ∧ w.cell? ((a.add (i * 4)).add 1) = some (.int .i64 q.a) ∧ w.cell? ((a.add (i * 4)).add 2) = some (.int .i64 q.b) ∧ w.cell? ((a.add (i * 4)).add 3) = some (.slice T q.t.length tc) ∧ TabSl w T tc q.t) (n := len) (fun i hin => by
      obtain ⟨cs', hc1, hc2⟩ := hi i (by omega)
      rw [Try.cells45] at hc1
      obtain ⟨x, T, tc, rfl, ht, hl⟩ := ins_cells hc2 (hzs _ (List.mem_map.2 ⟨i, List.mem_range.2 hin, rfl⟩))
      have hc := (World.cells?_some hc1).2.2
      exact ⟨x, hl, T, tc, hc 0 (by decide), hc 1 (by decide), hc 2 (by decide), hc 3 (by decide), ht⟩)
    refine ⟨some a, len, cap, f, h1, h2, by omega, fun i hin => (hf i hin).1, fun h0 => ?_⟩
    obtain ⟨_, T0, tc0, hf0, _⟩ := hf 0 h0
    have hz := cell_at hf0
    obtain ⟨g, o, s⟩ := a
    have hs : s = none := by simpa [Addr.add] using hz.2
    subst hs
    refine ⟨g, o, rfl, by simpa [Addr.add] using hz.1, fun i hin => ?_⟩
    obtain ⟨_, T, tc, q⟩ := hf i hin
    simp only [addr_plain] at q
    exact ⟨T, tc, q⟩

set_option maxRecDepth 100000 in
theorem code_cells {fuel : Nat} {cs : List Value} {y : DataW H × List MemPlace} (h : DataW.trod enc Try.prog w base sp held fuel 39 cs = some y) (hz : Szd Try.prog 39 y.1) :
    ∃ (C : CodeD) (G I : Option Addr) (gc ic : Nat), cs = [.slice G C.gl gc, .slice I C.ni ic] ∧ CodeAt w C G gc I ic ∧ RoomC w C G := by
  obtain ⟨xs, n, rfl, hy, hlen, hxl, hf⟩ := DataW.trod_struct Try.underlying39 h
  rw [Try.cells39] at hlen
  match cs, hlen with
  | [c0, c1], _ =>
    have hx2 : xs.length = 2 := hxl
    match xs, hx2 with
    | [y0, y1], _ =>
      have f0 : DataW.trod enc Try.prog w base sp held n 36 (([c0, c1].drop 0).take (Try.prog.cellsOf 36)) = some y0 := hf 0 _ rfl
      have f1 : DataW.trod enc Try.prog w base sp held n 37 (([c0, c1].drop 1).take (Try.prog.cellsOf 37)) = some y1 := hf 1 _ rfl
      rw [Try.cells36] at f0
      rw [Try.cells37] at f1
      rw [hy] at hz
      obtain ⟨G, gl, gc, ar, en, e0, a1, a2, a3⟩ := globs_cells (show DataW.trod enc Try.prog w base sp held n 36 [c0] = some y0 from f0) (szd_struct Try.underlying39 hz 0 _ _ rfl rfl)
      obtain ⟨I, ni, ic, ins, e1, b1, b2, b3, b4⟩ := inss_cells (show DataW.trod enc Try.prog w base sp held n 37 [c1] = some y1 from f1) (szd_struct Try.underlying39 hz 1 _ _ rfl rfl)
      refine ⟨⟨gl, ar, en, ni, ins⟩, G, I, gc, ic, by rw [e0, e1], ⟨a1, b1, fun h0 => ?_, b4⟩, ⟨a2, b2, fun g o hG i hi s hs => ?_, b3⟩⟩
      · obtain ⟨g, o, hG, hg, hc⟩ := a3 h0
        exact ⟨g, o, hG, hg, fun i hi => by obtain ⟨s, hc1, _⟩ := hc i hi; exact ⟨s, hc1⟩⟩
      · have hi' : i < gl := hi
        obtain ⟨g', o', hG', _, hc⟩ := a3 (by omega)
        rw [hG] at hG'
        injection hG' with hG'
        injection hG' with q1 q2
        subst q1 q2
        obtain ⟨s', ⟨hc1, _⟩, hsz⟩ := hc i hi'
        rw [hs] at hc1
        injection hc1 with hc1
        injection hc1 with hc1
        rw [hc1]; exact hsz

set_option maxRecDepth 100000 in
theorem open_code {v : Value} {d : DataW H} {p : List MemPlace} {r : Reach} {b0 : Nat} (hv : Value.okWide Try.prog w r b0 39 v) (h : DataW.Trod enc Try.prog w base sp held 39 v d p) (hz : Szd Try.prog 39 d) :
    ∃ (C : CodeD) (G I : Option Addr) (gc ic : Nat), v = .agg #[.slice G C.gl gc, .slice I C.ni ic] ∧ CodeAt w C G gc I ic ∧ RoomC w C G := by
  have hv2 := hv
  unfold Value.okWide at hv2
  rw [Try.underlying39] at hv2
  obtain ⟨cs, rfl, hsz, _⟩ := hv2
  obtain ⟨fuel, hf⟩ := h
  obtain ⟨C, G, I, gc, ic, hcs, hC, hR⟩ := code_cells hf hz
  have hcs2 : cs.toList = [.slice G C.gl gc, .slice I C.ni ic] := hcs
  obtain rfl : cs = #[.slice G C.gl gc, .slice I C.ni ic] := by cases cs; simp_all
  exact ⟨C, G, I, gc, ic, rfl, hC, hR⟩
end
end Go.Proofs.Ytfeghobfkgimfaa
