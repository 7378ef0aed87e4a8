/- Arguments that are trees, opened. -/
import Derived.Test.YtfeghobfkgimfaaOpnA
namespace Go.Proofs.Ytfeghobfkgimfaa
set_option linter.unusedSimpArgs false
set_option linter.unusedVariables false
open Go.ChangeShapes Go.WideShapes Go.ChangeAt Go.RowKit Go.Deep

section
variable {H : Type} {enc : TypeId × Value → H} {w : World} {base : Nat} {sp : Nat → Bool} {held : Bool}
set_option maxRecDepth 100000 in
theorem opn_ty (m : Nat) : ∀ (cs : List Value) (y : DataW H × List MemPlace) (fuel : Nat), SizeOf.sizeOf y.1 < m → DataW.trod enc Try.prog w base sp held fuel 162 cs = some y → Szd Try.prog 162 y.1 → ∃ D, TyC (mem w) D cs := by
  induction m with
  | zero => intro cs y fuel h; omega
  | succ m ih =>
    intro cs y fuel hm h hz
    obtain ⟨xs, n, rfl, hy, hlen, hxl, hf⟩ := DataW.trod_struct Try.underlying162 h
    rw [Try.cRT] at hlen
    match cs, hlen with
    | [c0, c1, c2, c3], _ =>
    have hx4 : xs.length = 4 := hxl
    match xs, hx4 with
    | [y0, y1, y2, y3], _ =>
    rw [hy] at hz
    have hsz : ∀ d ∈ [y0.1, y1.1, y2.1, y3.1], SizeOf.sizeOf d < SizeOf.sizeOf y.1 := fun d hd => by rw [hy]; exact size_agg hd
    have f0 : DataW.trod enc Try.prog w base sp held n 3 (([c0, c1, c2, c3].drop 0).take (Try.prog.cellsOf 3)) = some y0 := hf 0 _ rfl
    rw [Try.cI] at f0
    obtain ⟨z0, e0⟩ := open_int (show DataW.trod enc Try.prog w base sp held n 3 [c0] = some y0 from f0)
    have f1 : DataW.trod enc Try.prog w base sp held n 3 (([c0, c1, c2, c3].drop 1).take (Try.prog.cellsOf 3)) = some y1 := hf 1 _ rfl
    rw [Try.cI] at f1
    obtain ⟨z1, e1⟩ := open_int (show DataW.trod enc Try.prog w base sp held n 3 [c1] = some y1 from f1)
    have f2 : DataW.trod enc Try.prog w base sp held n 9 (([c0, c1, c2, c3].drop 2).take (Try.prog.cellsOf 9)) = some y2 := hf 2 _ rfl
    rw [Try.cS] at f2
    obtain ⟨s2, e2, hs2⟩ := open_str (show DataW.trod enc Try.prog w base sp held n 9 [c2] = some y2 from f2) (szd_struct Try.underlying162 hz 2 _ _ rfl rfl)
    have f3 : DataW.trod enc Try.prog w base sp held n 160 (([c0, c1, c2, c3].drop 3).take (Try.prog.cellsOf 160)) = some y3 := hf 3 _ rfl
    rw [Try.cLT] at f3
    haveI : Inhabited Ty := ⟨.mk 0 0 ⟨#[]⟩ []⟩
    obtain ⟨l3, A3, p3, C3, e3, hc3, hA3, hQ3, hn3⟩ := open_els Try.underlying160 Try.cRT (by decide) (show DataW.trod enc Try.prog w base sp held n 160 [c3] = some y3 from f3) (szd_struct Try.underlying162 hz 3 _ _ rfl rfl) (α := Ty) (fun D cs => TyC (mem w) D cs) (fun d cs h => h.len) (fun cs' y' fuel' hsm h' hz' => ih cs' y' fuel' (by have := hsz y3.1 (by simp); omega) h' hz')
    subst e0 e1 e2 e3
    exact ⟨_, .mk z0 z1 s2 l3 A3 p3 C3 hc3 hA3 hQ3 hs2⟩
set_option maxRecDepth 100000 in
theorem opn_pt (m : Nat) : ∀ (cs : List Value) (y : DataW H × List MemPlace) (fuel : Nat), SizeOf.sizeOf y.1 < m → DataW.trod enc Try.prog w base sp held fuel 131 cs = some y → Szd Try.prog 131 y.1 → ∃ D, PtC (mem w) D cs := by
  induction m with
  | zero => intro cs y fuel h; omega
  | succ m ih =>
    intro cs y fuel hm h hz
    obtain ⟨xs, n, rfl, hy, hlen, hxl, hf⟩ := DataW.trod_struct Try.underlying131 h
    rw [Try.cRP] at hlen
    match cs, hlen with
    | [c0, c1, c2, c3, c4], _ =>
    have hx5 : xs.length = 5 := hxl
    match xs, hx5 with
    | [y0, y1, y2, y3, y4], _ =>
    rw [hy] at hz
    have hsz : ∀ d ∈ [y0.1, y1.1, y2.1, y3.1, y4.1], SizeOf.sizeOf d < SizeOf.sizeOf y.1 := fun d hd => by rw [hy]; exact size_agg hd
    have f0 : DataW.trod enc Try.prog w base sp held n 3 (([c0, c1, c2, c3, c4].drop 0).take (Try.prog.cellsOf 3)) = some y0 := hf 0 _ rfl
    rw [Try.cI] at f0
    obtain ⟨z0, e0⟩ := open_int (show DataW.trod enc Try.prog w base sp held n 3 [c0] = some y0 from f0)
    have f1 : DataW.trod enc Try.prog w base sp held n 3 (([c0, c1, c2, c3, c4].drop 1).take (Try.prog.cellsOf 3)) = some y1 := hf 1 _ rfl
    rw [Try.cI] at f1
    obtain ⟨z1, e1⟩ := open_int (show DataW.trod enc Try.prog w base sp held n 3 [c1] = some y1 from f1)
    have f2 : DataW.trod enc Try.prog w base sp held n 9 (([c0, c1, c2, c3, c4].drop 2).take (Try.prog.cellsOf 9)) = some y2 := hf 2 _ rfl
    rw [Try.cS] at f2
    obtain ⟨s2, e2, hs2⟩ := open_str (show DataW.trod enc Try.prog w base sp held n 9 [c2] = some y2 from f2) (szd_struct Try.underlying131 hz 2 _ _ rfl rfl)
    have f3 : DataW.trod enc Try.prog w base sp held n 3 (([c0, c1, c2, c3, c4].drop 3).take (Try.prog.cellsOf 3)) = some y3 := hf 3 _ rfl
    rw [Try.cI] at f3
    obtain ⟨z3, e3⟩ := open_int (show DataW.trod enc Try.prog w base sp held n 3 [c3] = some y3 from f3)
    have f4 : DataW.trod enc Try.prog w base sp held n 82 (([c0, c1, c2, c3, c4].drop 4).take (Try.prog.cellsOf 82)) = some y4 := hf 4 _ rfl
    rw [Try.cLP] at f4
    haveI : Inhabited Pt := ⟨.mk 0 0 ⟨#[]⟩ 0 []⟩
    obtain ⟨l4, A4, p4, C4, e4, hc4, hA4, hQ4, hn4⟩ := open_els Try.underlying82 Try.cRP (by decide) (show DataW.trod enc Try.prog w base sp held n 82 [c4] = some y4 from f4) (szd_struct Try.underlying131 hz 4 _ _ rfl rfl) (α := Pt) (fun D cs => PtC (mem w) D cs) (fun d cs h => h.len) (fun cs' y' fuel' hsm h' hz' => ih cs' y' fuel' (by have := hsz y4.1 (by simp); omega) h' hz')
    subst e0 e1 e2 e3 e4
    exact ⟨_, .mk z0 z1 s2 z3 l4 A4 p4 C4 hc4 hA4 hQ4 hs2⟩
set_option maxRecDepth 100000 in
theorem opn_co (cs : List Value) (y : DataW H × List MemPlace) (fuel : Nat) (h : DataW.trod enc Try.prog w base sp held fuel 173 cs = some y) (hz : Szd Try.prog 173 y.1) : ∃ D, CoC (mem w) D cs ∧ D.name.size ≤ maxLen := by
    obtain ⟨xs, n, rfl, hy, hlen, hxl, hf⟩ := DataW.trod_struct Try.underlying173 h
    rw [Try.cRC] at hlen
    match cs, hlen with
    | [c0, c1, c2], _ =>
    have hx3 : xs.length = 3 := hxl
    match xs, hx3 with
    | [y0, y1, y2], _ =>
    rw [hy] at hz
    have hsz : ∀ d ∈ [y0.1, y1.1, y2.1], SizeOf.sizeOf d < SizeOf.sizeOf y.1 := fun d hd => by rw [hy]; exact size_agg hd
    have f0 : DataW.trod enc Try.prog w base sp held n 3 (([c0, c1, c2].drop 0).take (Try.prog.cellsOf 3)) = some y0 := hf 0 _ rfl
    rw [Try.cI] at f0
    obtain ⟨z0, e0⟩ := open_int (show DataW.trod enc Try.prog w base sp held n 3 [c0] = some y0 from f0)
    have f1 : DataW.trod enc Try.prog w base sp held n 9 (([c0, c1, c2].drop 1).take (Try.prog.cellsOf 9)) = some y1 := hf 1 _ rfl
    rw [Try.cS] at f1
    obtain ⟨s1, e1, hs1⟩ := open_str (show DataW.trod enc Try.prog w base sp held n 9 [c1] = some y1 from f1) (szd_struct Try.underlying173 hz 1 _ _ rfl rfl)
    have f2 : DataW.trod enc Try.prog w base sp held n 160 (([c0, c1, c2].drop 2).take (Try.prog.cellsOf 160)) = some y2 := hf 2 _ rfl
    rw [Try.cLT] at f2
    haveI : Inhabited Ty := ⟨.mk 0 0 ⟨#[]⟩ []⟩
    obtain ⟨l2, A2, p2, C2, e2, hc2, hA2, hQ2, hn2⟩ := open_els Try.underlying160 Try.cRT (by decide) (show DataW.trod enc Try.prog w base sp held n 160 [c2] = some y2 from f2) (szd_struct Try.underlying173 hz 2 _ _ rfl rfl) (α := Ty) (fun D cs => TyC (mem w) D cs) (fun d cs h => h.len) (fun cs' y' fuel' hsm h' hz' => opn_ty _ cs' y' fuel' (Nat.lt_succ_self _) h' hz')
    subst e0 e1 e2
    exact ⟨⟨z0, s1, l2⟩, ⟨_, rfl, A2, p2, C2, rfl, hc2, hA2, hQ2⟩, hs1⟩
set_option maxRecDepth 100000 in
set_option maxHeartbeats 1000000 in
theorem opn_ex (m : Nat) : (∀ (cs : List Value) (y : DataW H × List MemPlace) (fuel : Nat), SizeOf.sizeOf y.1 < m → DataW.trod enc Try.prog w base sp held fuel 86 cs = some y → Szd Try.prog 86 y.1 → ∃ D, ExC (mem w) D cs) ∧ (∀ (cs : List Value) (y : DataW H × List MemPlace) (fuel : Nat), SizeOf.sizeOf y.1 < m → DataW.trod enc Try.prog w base sp held fuel 133 cs = some y → Szd Try.prog 133 y.1 → ∃ D, AlC (mem w) D cs) ∧ (∀ (cs : List Value) (y : DataW H × List MemPlace) (fuel : Nat), SizeOf.sizeOf y.1 < m → DataW.trod enc Try.prog w base sp held fuel 164 cs = some y → Szd Try.prog 164 y.1 → ∃ D, DeC (mem w) D cs) := by
  induction m with
  | zero => exact ⟨fun _ _ _ h => by omega, fun _ _ _ h => by omega, fun _ _ _ h => by omega⟩
  | succ m ih =>
    obtain ⟨i1, i2, i3⟩ := ih
    haveI : Inhabited Ty := ⟨.mk 0 0 ⟨#[]⟩ []⟩
    haveI : Inhabited Pt := ⟨.mk 0 0 ⟨#[]⟩ 0 []⟩
    haveI : Inhabited Ex := ⟨.mk 0 0 ⟨#[]⟩ 0 [] [] [] []⟩
    haveI : Inhabited Al := ⟨.mk default default⟩
    haveI : Inhabited Co := ⟨⟨0, ⟨#[]⟩, []⟩⟩
    haveI : Inhabited De := ⟨.mk 0 0 ⟨#[]⟩ [] [] default [] default⟩
    refine ⟨?_, ?_, ?_⟩
    · intro cs y fuel hm h hz
      obtain ⟨xs, n, rfl, hy, hlen, hxl, hf⟩ := DataW.trod_struct Try.underlying86 h
      rw [Try.cRE] at hlen
      match cs, hlen with
      | [c0, c1, c2, c3, c4, c5, c6, c7], _ =>
      have hx8 : xs.length = 8 := hxl
      match xs, hx8 with
      | [y0, y1, y2, y3, y4, y5, y6, y7], _ =>
      rw [hy] at hz
      have hsz : ∀ d ∈ [y0.1, y1.1, y2.1, y3.1, y4.1, y5.1, y6.1, y7.1], SizeOf.sizeOf d < SizeOf.sizeOf y.1 := fun d hd => by rw [hy]; exact size_agg hd
      have f0 : DataW.trod enc Try.prog w base sp held n 3 (([c0, c1, c2, c3, c4, c5, c6, c7].drop 0).take (Try.prog.cellsOf 3)) = some y0 := hf 0 _ rfl
      rw [Try.cI] at f0
      obtain ⟨z0, e0⟩ := open_int (show DataW.trod enc Try.prog w base sp held n 3 [c0] = some y0 from f0)
      have f1 : DataW.trod enc Try.prog w base sp held n 3 (([c0, c1, c2, c3, c4, c5, c6, c7].drop 1).take (Try.prog.cellsOf 3)) = some y1 := hf 1 _ rfl
      rw [Try.cI] at f1
      obtain ⟨z1, e1⟩ := open_int (show DataW.trod enc Try.prog w base sp held n 3 [c1] = some y1 from f1)
      have f2 : DataW.trod enc Try.prog w base sp held n 9 (([c0, c1, c2, c3, c4, c5, c6, c7].drop 2).take (Try.prog.cellsOf 9)) = some y2 := hf 2 _ rfl
      rw [Try.cS] at f2
      obtain ⟨s2, e2, hs2⟩ := open_str (show DataW.trod enc Try.prog w base sp held n 9 [c2] = some y2 from f2) (szd_struct Try.underlying86 hz 2 _ _ rfl rfl)
      have f3 : DataW.trod enc Try.prog w base sp held n 3 (([c0, c1, c2, c3, c4, c5, c6, c7].drop 3).take (Try.prog.cellsOf 3)) = some y3 := hf 3 _ rfl
      rw [Try.cI] at f3
      obtain ⟨z3, e3⟩ := open_int (show DataW.trod enc Try.prog w base sp held n 3 [c3] = some y3 from f3)
      have f4 : DataW.trod enc Try.prog w base sp held n 81 (([c0, c1, c2, c3, c4, c5, c6, c7].drop 4).take (Try.prog.cellsOf 81)) = some y4 := hf 4 _ rfl
      rw [Try.cLE] at f4
      have f5 : DataW.trod enc Try.prog w base sp held n 82 (([c0, c1, c2, c3, c4, c5, c6, c7].drop 5).take (Try.prog.cellsOf 82)) = some y5 := hf 5 _ rfl
      rw [Try.cLP] at f5
      have f6 : DataW.trod enc Try.prog w base sp held n 83 (([c0, c1, c2, c3, c4, c5, c6, c7].drop 6).take (Try.prog.cellsOf 83)) = some y6 := hf 6 _ rfl
      rw [Try.cLA] at f6
      have f7 : DataW.trod enc Try.prog w base sp held n 84 (([c0, c1, c2, c3, c4, c5, c6, c7].drop 7).take (Try.prog.cellsOf 84)) = some y7 := hf 7 _ rfl
      rw [Try.cLD] at f7
      obtain ⟨l4, A4, p4, C4, e4, hc4, hA4, hQ4, hn4⟩ := open_els Try.underlying81 Try.cRE (by decide) (show DataW.trod enc Try.prog w base sp held n 81 [c4] = some y4 from f4) (szd_struct Try.underlying86 hz 4 _ _ rfl rfl) (α := Ex) (fun D cs => ExC (mem w) D cs) (fun d cs h => h.len) (fun cs' y' fuel' hsm h' hz' => i1 cs' y' fuel' (by have := hsz y4.1 (by simp); omega) h' hz')
      obtain ⟨l5, A5, p5, C5, e5, hc5, hA5, hQ5, hn5⟩ := open_els Try.underlying82 Try.cRP (by decide) (show DataW.trod enc Try.prog w base sp held n 82 [c5] = some y5 from f5) (szd_struct Try.underlying86 hz 5 _ _ rfl rfl) (α := Pt) (fun D cs => PtC (mem w) D cs) (fun d cs h => h.len) (fun cs' y' fuel' hsm h' hz' => opn_pt _ cs' y' fuel' (Nat.lt_succ_self _) h' hz')
      obtain ⟨l6, A6, p6, C6, e6, hc6, hA6, hQ6, hn6⟩ := open_els Try.underlying83 Try.cRA (by decide) (show DataW.trod enc Try.prog w base sp held n 83 [c6] = some y6 from f6) (szd_struct Try.underlying86 hz 6 _ _ rfl rfl) (α := Al) (fun D cs => AlC (mem w) D cs) (fun d cs h => h.len) (fun cs' y' fuel' hsm h' hz' => i2 cs' y' fuel' (by have := hsz y6.1 (by simp); omega) h' hz')
      obtain ⟨l7, A7, p7, C7, e7, hc7, hA7, hQ7, hn7⟩ := open_els Try.underlying84 Try.cRD (by decide) (show DataW.trod enc Try.prog w base sp held n 84 [c7] = some y7 from f7) (szd_struct Try.underlying86 hz 7 _ _ rfl rfl) (α := De) (fun D cs => DeC (mem w) D cs) (fun d cs h => h.len) (fun cs' y' fuel' hsm h' hz' => i3 cs' y' fuel' (by have := hsz y7.1 (by simp); omega) h' hz')
      subst e0 e1 e2 e3 e4 e5 e6 e7
      exact ⟨_, ExC.of ⟨A4, p4, C4, rfl, hc4, hA4, hQ4⟩ ⟨A5, p5, C5, rfl, hc5, hA5, hQ5⟩ ⟨A6, p6, C6, rfl, hc6, hA6, hQ6⟩ ⟨A7, p7, C7, rfl, hc7, hA7, hQ7⟩ hs2⟩
    · intro cs y fuel hm h hz
      obtain ⟨xs, n, rfl, hy, hlen, hxl, hf⟩ := DataW.trod_struct Try.underlying133 h
      rw [Try.cRA] at hlen
      match cs, hlen with
      | [c0, c1, c2, c3, c4, c5, c6, c7, c8, c9, c10, c11, c12], _ =>
      have hx2 : xs.length = 2 := hxl
      match xs, hx2 with
      | [y0, y1], _ =>
      rw [hy] at hz
      have hsz : ∀ d ∈ [y0.1, y1.1], SizeOf.sizeOf d < SizeOf.sizeOf y.1 := fun d hd => by rw [hy]; exact size_agg hd
      have f0 : DataW.trod enc Try.prog w base sp held n 131 (([c0, c1, c2, c3, c4, c5, c6, c7, c8, c9, c10, c11, c12].drop 0).take (Try.prog.cellsOf 131)) = some y0 := hf 0 _ rfl
      rw [Try.cRP] at f0
      have f1 : DataW.trod enc Try.prog w base sp held n 86 (([c0, c1, c2, c3, c4, c5, c6, c7, c8, c9, c10, c11, c12].drop 5).take (Try.prog.cellsOf 86)) = some y1 := hf 1 _ rfl
      rw [Try.cRE] at f1
      obtain ⟨p, hp⟩ := opn_pt _ _ _ _ (Nat.lt_succ_self _) f0 (szd_struct Try.underlying133 hz 0 _ _ rfl rfl)
      obtain ⟨b, hb⟩ := i1 _ _ _ (by have := hsz y1.1 (by simp); omega) f1 (szd_struct Try.underlying133 hz 1 _ _ rfl rfl)
      exact ⟨.mk p b, .mk p b _ _ hp hb⟩
    · intro cs y fuel hm h hz
      obtain ⟨xs, n, rfl, hy, hlen, hxl, hf⟩ := DataW.trod_struct Try.underlying164 h
      rw [Try.cRD] at hlen
      match cs, hlen with
      | [c0, c1, c2, c3, c4, c5, c6, c7, c8, c9, c10, c11, c12, c13, c14, c15, c16, c17], _ =>
      have hx8 : xs.length = 8 := hxl
      match xs, hx8 with
      | [y0, y1, y2, y3, y4, y5, y6, y7], _ =>
      rw [hy] at hz
      have hsz : ∀ d ∈ [y0.1, y1.1, y2.1, y3.1, y4.1, y5.1, y6.1, y7.1], SizeOf.sizeOf d < SizeOf.sizeOf y.1 := fun d hd => by rw [hy]; exact size_agg hd
      have f0 : DataW.trod enc Try.prog w base sp held n 3 (([c0, c1, c2, c3, c4, c5, c6, c7, c8, c9, c10, c11, c12, c13, c14, c15, c16, c17].drop 0).take (Try.prog.cellsOf 3)) = some y0 := hf 0 _ rfl
      rw [Try.cI] at f0
      obtain ⟨z0, e0⟩ := open_int (show DataW.trod enc Try.prog w base sp held n 3 [c0] = some y0 from f0)
      have f1 : DataW.trod enc Try.prog w base sp held n 3 (([c0, c1, c2, c3, c4, c5, c6, c7, c8, c9, c10, c11, c12, c13, c14, c15, c16, c17].drop 1).take (Try.prog.cellsOf 3)) = some y1 := hf 1 _ rfl
      rw [Try.cI] at f1
      obtain ⟨z1, e1⟩ := open_int (show DataW.trod enc Try.prog w base sp held n 3 [c1] = some y1 from f1)
      have f2 : DataW.trod enc Try.prog w base sp held n 9 (([c0, c1, c2, c3, c4, c5, c6, c7, c8, c9, c10, c11, c12, c13, c14, c15, c16, c17].drop 2).take (Try.prog.cellsOf 9)) = some y2 := hf 2 _ rfl
      rw [Try.cS] at f2
      obtain ⟨s2, e2, hs2⟩ := open_str (show DataW.trod enc Try.prog w base sp held n 9 [c2] = some y2 from f2) (szd_struct Try.underlying164 hz 2 _ _ rfl rfl)
      have f3 : DataW.trod enc Try.prog w base sp held n 158 (([c0, c1, c2, c3, c4, c5, c6, c7, c8, c9, c10, c11, c12, c13, c14, c15, c16, c17].drop 3).take (Try.prog.cellsOf 158)) = some y3 := hf 3 _ rfl
      rw [Try.cLS] at f3
      have f4 : DataW.trod enc Try.prog w base sp held n 159 (([c0, c1, c2, c3, c4, c5, c6, c7, c8, c9, c10, c11, c12, c13, c14, c15, c16, c17].drop 4).take (Try.prog.cellsOf 159)) = some y4 := hf 4 _ rfl
      rw [Try.cLC] at f4
      have f5 : DataW.trod enc Try.prog w base sp held n 162 (([c0, c1, c2, c3, c4, c5, c6, c7, c8, c9, c10, c11, c12, c13, c14, c15, c16, c17].drop 5).take (Try.prog.cellsOf 162)) = some y5 := hf 5 _ rfl
      rw [Try.cRT] at f5
      have f6 : DataW.trod enc Try.prog w base sp held n 82 (([c0, c1, c2, c3, c4, c5, c6, c7, c8, c9, c10, c11, c12, c13, c14, c15, c16, c17].drop 9).take (Try.prog.cellsOf 82)) = some y6 := hf 6 _ rfl
      rw [Try.cLP] at f6
      have f7 : DataW.trod enc Try.prog w base sp held n 86 (([c0, c1, c2, c3, c4, c5, c6, c7, c8, c9, c10, c11, c12, c13, c14, c15, c16, c17].drop 10).take (Try.prog.cellsOf 86)) = some y7 := hf 7 _ rfl
      rw [Try.cRE] at f7
      obtain ⟨l3, A3, p3, C3, e3, hc3, hA3, hQ3, hn3⟩ := open_els Try.underlying158 Try.cS (by decide) (show DataW.trod enc Try.prog w base sp held n 158 [c3] = some y3 from f3) (szd_struct Try.underlying164 hz 3 _ _ rfl rfl) (α := ByteArray) (fun (s : ByteArray) cs => cs = [.string s] ∧ s.size ≤ maxLen) (fun d cs h => by rw [h.1]; rfl) (fun cs' y' fuel' hsm h' hz' => by
          have hl : cs'.length = 1 := by obtain ⟨s, e, _⟩ := DataW.trod_string Try.underlying9 h'; rw [e]; rfl
          match cs', hl with
          | [c], _ => obtain ⟨s, e, hs⟩ := open_str h' hz'; exact ⟨s, by rw [e], hs⟩)
      obtain ⟨l4, A4, p4, C4, e4, hc4, hA4, hQ4, hn4⟩ := open_els Try.underlying159 Try.cRC (by decide) (show DataW.trod enc Try.prog w base sp held n 159 [c4] = some y4 from f4) (szd_struct Try.underlying164 hz 4 _ _ rfl rfl) (α := Co) (fun D cs => CoC (mem w) D cs ∧ D.name.size ≤ maxLen) (fun d cs h => h.1.len) (fun cs' y' fuel' hsm h' hz' => opn_co cs' y' fuel' h' hz')
      obtain ⟨ty, hty⟩ := opn_ty _ _ _ _ (Nat.lt_succ_self _) f5 (szd_struct Try.underlying164 hz 5 _ _ rfl rfl)
      obtain ⟨l6, A6, p6, C6, e6, hc6, hA6, hQ6, hn6⟩ := open_els Try.underlying82 Try.cRP (by decide) (show DataW.trod enc Try.prog w base sp held n 82 [c9] = some y6 from f6) (szd_struct Try.underlying164 hz 6 _ _ rfl rfl) (α := Pt) (fun D cs => PtC (mem w) D cs) (fun d cs h => h.len) (fun cs' y' fuel' hsm h' hz' => opn_pt _ cs' y' fuel' (Nat.lt_succ_self _) h' hz')
      obtain ⟨b, hb⟩ := i1 _ _ _ (by have := hsz y7.1 (by simp); omega) f7 (szd_struct Try.underlying164 hz 7 _ _ rfl rfl)
      subst e0 e1 e2 e3 e4 e6
      refine ⟨.mk z0 z1 s2 l3 l4 ty l6 b, ?_⟩
      have hv : StrsV (mem w) l3 (.slice A3 l3.length p3) := ⟨A3, p3, rfl, hc3, fun h0 => by
        obtain ⟨g, o, e, hc⟩ := hA3 h0
        refine ⟨g, o, e, fun i hi j hj => ?_⟩
        rw [hc i hi j hj, (hQ3 i hi).1]
        simp [hi]⟩
      have hok : DeOk s2 l3 l4 := ⟨hs2, by rw [Try.byS] at hn3; omega, fun v hv => by
        obtain ⟨i, hi, rfl⟩ := List.mem_iff_getElem.1 hv
        exact (hQ3 i hi).2, fun c hc => by
        obtain ⟨i, hi, rfl⟩ := List.mem_iff_getElem.1 hc
        exact (hQ4 i hi).2⟩
      exact .mk z0 z1 s2 l3 l4 ty l6 b _ _ _ _ _ hv hok ⟨A4, p4, C4, rfl, hc4, hA4, fun i hi => (hQ4 i hi).1⟩ hty ⟨A6, p6, C6, rfl, hc6, hA6, hQ6⟩ hb


set_option maxRecDepth 100000 in
/-- An argument of these types, opened. -/
theorem open_agg {t : TypeId} {fs : Array Field} (ht : Try.prog.underlying t = some (.struct fs)) {α : Type} {Q : α → List Value → Prop} {v : Value} {d : DataW H} {p : List MemPlace} {r : Reach} {b0 : Nat} (hv : Value.okWide Try.prog w r b0 t v) (h : DataW.Trod enc Try.prog w base sp held t v d p)
    (hq : ∀ (cs : List Value) (fuel : Nat), DataW.trod enc Try.prog w base sp held fuel t cs = some (d, p) → ∃ D, Q D cs) : ∃ (D : α) (cs : List Value), v = .agg cs.toArray ∧ Q D cs := by
  have hv2 := hv
  unfold Value.okWide at hv2
  rw [ht] at hv2
  obtain ⟨cs, rfl, hsz, _⟩ := hv2
  obtain ⟨fuel, hf⟩ := h
  obtain ⟨D, hD⟩ := hq cs.toList fuel hf
  exact ⟨D, cs.toList, by simp, hD⟩
set_option maxRecDepth 100000 in
theorem open_ty {v : Value} {d : DataW H} {p : List MemPlace} {r : Reach} {b0 : Nat} (hv : Value.okWide Try.prog w r b0 162 v) (h : DataW.Trod enc Try.prog w base sp held 162 v d p) (hz : Szd Try.prog 162 d) : ∃ (D : Ty) (cs : List Value), v = .agg cs.toArray ∧ TyC (mem w) D cs :=
  open_agg Try.underlying162 hv h (fun cs fuel hf => opn_ty _ cs _ fuel (Nat.lt_succ_self _) hf hz)
set_option maxRecDepth 100000 in
theorem open_ex {v : Value} {d : DataW H} {p : List MemPlace} {r : Reach} {b0 : Nat} (hv : Value.okWide Try.prog w r b0 86 v) (h : DataW.Trod enc Try.prog w base sp held 86 v d p) (hz : Szd Try.prog 86 d) : ∃ (D : Ex) (cs : List Value), v = .agg cs.toArray ∧ ExC (mem w) D cs :=
  open_agg Try.underlying86 hv h (fun cs fuel hf => (opn_ex _).1 cs _ fuel (Nat.lt_succ_self _) hf hz)
set_option maxRecDepth 100000 in
theorem open_des {v : Value} {d : DataW H} {p : List MemPlace} {r : Reach} {b0 : Nat} (hv0 : Value.okWide Try.prog w r b0 84 v) (h : DataW.Trod enc Try.prog w base sp held 84 v d p) (hz : Szd Try.prog 84 d) : ∃ (l : List De), DesV (mem w) l v := by
    obtain ⟨fuel, hf⟩ := h
    haveI : Inhabited Ty := ⟨.mk 0 0 ⟨#[]⟩ []⟩
    haveI : Inhabited Pt := ⟨.mk 0 0 ⟨#[]⟩ 0 []⟩
    haveI : Inhabited Ex := ⟨.mk 0 0 ⟨#[]⟩ 0 [] [] [] []⟩
    haveI : Inhabited Al := ⟨.mk default default⟩
    haveI : Inhabited Co := ⟨⟨0, ⟨#[]⟩, []⟩⟩
    haveI : Inhabited De := ⟨.mk 0 0 ⟨#[]⟩ [] [] default [] default⟩
    have hv : v.cells.toList = [v] := by
      have hv2 := hv0
      unfold Value.okWide at hv2
      rw [Try.underlying84] at hv2
      unfold Cell.okWide at hv2
      cases v <;> first | rfl | (simp [Cell.ok, Try.underlying84] at hv2)
    rw [hv] at hf
    obtain ⟨l, A, c, C, e, hc, hA, hQ, _⟩ := open_els Try.underlying84 Try.cRD (by decide) hf hz (α := De) (fun D cs => DeC (mem w) D cs) (fun d cs h => h.len) (fun cs' y' fuel' hsm h' hz' => (opn_ex _).2.2 cs' y' fuel' (Nat.lt_succ_self _) h' hz')
    exact ⟨l, A, c, C, e, hc, hA, hQ⟩
end
end Go.Proofs.Ytfeghobfkgimfaa
