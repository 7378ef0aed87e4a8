/- CheckSizes, walked. -/
import Derived.Test.YtfeghobfkgimfaaSizesP
import Derived.IntWalk
namespace Go.Proofs.Ytfeghobfkgimfaa
open Go.RowKit

theorem tmod3 (z : Int) : ∃ n : Nat, IntKind.i64.wrap (z.tmod 3 + 3) = z.tmod 3 + 3 ∧ (z.tmod 3 + 3).tmod 3 = (n : Int) ∧ n < 3 := by
  have h1 : -3 < z.tmod 3 ∧ z.tmod 3 < 3 := ⟨Int.lt_tmod_of_pos z (by decide), Int.tmod_lt_of_pos z (by decide)⟩
  have h2 : 0 ≤ (z.tmod 3 + 3).tmod 3 := Int.tmod_nonneg _ (by omega)
  have h3 : (z.tmod 3 + 3).tmod 3 < 3 := Int.tmod_lt_of_pos _ (by decide)
  exact ⟨((z.tmod 3 + 3).tmod 3).toNat, IntWalk.i64_in _ (by omega), by omega, by omega⟩

theorem codeA_in {W : World} {i n : Nat} (hn : n ≤ 1000000) (hi : Blk W i 32 (madeCells #[.int .i64 0, .int .i64 0, .int .i64 0, .slice none 0 0] (n * 4))) : CodeIn W (codeA n) none 0 (some ⟨i, 0, none⟩) n := by
  refine ⟨⟨Nat.le_refl _, Nat.le_refl _, fun h => absurd h (by simp [codeA]), fun _ => ⟨i, 0, rfl, hi.lt, fun k hk => ⟨none, 0, ?_⟩⟩⟩, fun k hk => by simp [codeA, insZ], by show n ≤ _; omega, by simp [codeA]⟩
  have hk2 : k < n := hk
  have e0 : (0 + k * 4) % 4 = 0 := by omega
  have e1 : (0 + k * 4 + 1) % 4 = 1 := by omega
  have e2 : (0 + k * 4 + 2) % 4 = 2 := by omega
  have e3 : (0 + k * 4 + 3) % 4 = 3 := by omega
  refine ⟨?_, ?_, ?_, ?_, by simp [TabSl, codeA, insZ]⟩
  · rw [hi.cell, made_at _ _ _ (by omega)]; simp [e0, codeA, insZ]
  · rw [hi.cell, made_at _ _ _ (by omega)]; simp [e1, codeA, insZ]
  · rw [hi.cell, made_at _ _ _ (by omega)]; simp [e2, codeA, insZ]
  · rw [hi.cell, made_at _ _ _ (by omega)]; simp [e3, codeA, insZ]

theorem globs_made {W : World} {g n k : Nat} (hg : Blk W g 101 (madeCells #[.string { data := #[] }, .int .i64 0, .int .i64 0] (n * 3))) (hk : k < n) : ∃ s, W.cell? ⟨g, 0 + k * 3, none⟩ = some (.string s) ∧ W.cell? ⟨g, 0 + k * 3 + 1, none⟩ = some (.int .i64 0) ∧ W.cell? ⟨g, 0 + k * 3 + 2, none⟩ = some (.int .i64 0) := by
  have e0 : (0 + k * 3) % 3 = 0 := by omega
  have e1 : (0 + k * 3 + 1) % 3 = 1 := by omega
  have e2 : (0 + k * 3 + 2) % 3 = 2 := by omega
  refine ⟨{ data := #[] }, ?_, ?_, ?_⟩
  · rw [hg.cell, made_at _ _ _ (by omega)]; simp [e0]
  · rw [hg.cell, made_at _ _ _ (by omega)]; simp [e1]
  · rw [hg.cell, made_at _ _ _ (by omega)]; simp [e2]

theorem codeB_in {W : World} {g i n : Nat} (hn : n ≤ 1000000) (hg : Blk W g 101 (madeCells #[.string { data := #[] }, .int .i64 0, .int .i64 0] (n * 3))) (hi : Blk W i 32 #[.int .i64 9, .int .i64 0, .int .i64 0, .slice none 0 0]) : CodeIn W (codeB n) (some ⟨g, 0, none⟩) n (some ⟨i, 0, none⟩) 1 := by
  refine ⟨⟨Nat.le_refl _, Nat.le_refl _, fun _ => ⟨g, 0, rfl, hg.lt, fun k hk => globs_made hg hk⟩, fun _ => ⟨i, 0, rfl, hi.lt, fun k hk => ⟨none, 0, ?_⟩⟩⟩, fun k hk => by simp [codeB], by simp [codeB], by show n ≤ _; omega⟩
  have : k < 1 := hk
  obtain rfl : k = 0 := by omega
  exact ⟨hi.cell 0, hi.cell 1, hi.cell 2, hi.cell 3, by simp [TabSl, codeB]⟩

theorem codeG_in {W : World} {g i n : Nat} {m : Int} (hn : 1 ≤ n) (hg : Blk W g 101 (madeCells #[.string { data := #[] }, .int .i64 0, .int .i64 0] (n * 3))) (hi : Blk W i 32 #[.int .i64 7, .int .i64 m, .int .i64 0, .slice none 0 0, .int .i64 15, .int .i64 0, .int .i64 0, .slice none 0 0]) : CodeIn W (codeG m) (some ⟨g, 0, none⟩) n (some ⟨i, 0, none⟩) 2 := by
  refine ⟨⟨hn, Nat.le_refl _, fun _ => ⟨g, 0, rfl, hg.lt, fun k hk => globs_made hg (Nat.lt_of_lt_of_le hk hn)⟩, fun _ => ⟨i, 0, rfl, hi.lt, fun k hk => ⟨none, 0, ?_⟩⟩⟩, fun k hk => ?_, by simp [codeG], by simp [codeG]⟩
  · have h2 : k < 2 := hk
    have : k = 0 ∨ k = 1 := by omega
    rcases this with rfl | rfl
    · exact ⟨hi.cell 0, hi.cell 1, hi.cell 2, hi.cell 3, by simp [TabSl, codeG, insG]⟩
    · exact ⟨hi.cell 4, hi.cell 5, hi.cell 6, hi.cell 7, by simp [TabSl, codeG, insG]⟩
  · have h2 : k < 2 := hk
    have : k = 0 ∨ k = 1 := by omega
    rcases this with rfl | rfl <;> simp [codeG, insG]

theorem DepW.short {C : CodeD} {w : World} {e : Ending} {W : World} {le : Bool} (h : DepW C w e W) (ho : okB C = le) :
    Below w.heap.size w W ∧ ∃ a z er, e = .returned (.tuple #[a, .int .i64 z, .int .i64 er]) ∧ (er == 0) = le ∧ (le = false → (65536 < C.ni ∨ 65536 < C.gl) → z = -1) := by
  refine ⟨h.1, ?_⟩
  rcases h.2 with ⟨h1, b, D, he, _⟩ | ⟨h1, z, he, hz⟩
  · rw [ho] at h1; subst h1
    exact ⟨_, _, _, he, rfl, fun h => by cases h⟩
  · rw [ho] at h1; subst h1
    exact ⟨_, _, _, he, rfl, fun _ => hz⟩

set_option maxRecDepth 100000 in
set_option maxHeartbeats 1000000 in
theorem sizes_any (more : Int) (w : World) : Calls Try.prog 3 #[.int .i64 more] w (RightV true w) := by
  obtain ⟨n0, hw1, hw2, hn0⟩ := tmod3 more
  have hw1 : IntKind.i64.wrap (more.tmod 3 + 3) = more.tmod 3 + 3 := hw1
  have hw2 : (more.tmod 3 + 3).tmod 3 = (n0 : Int) := hw2
  obtain ⟨N, hNN⟩ : ∃ N, N = 65535 + n0 := ⟨_, rfl⟩
  have hNe : (65536 : Int) + ((n0 : Int) - 1) = (N : Int) := by omega
  have hN1 : 65535 ≤ N := by omega
  have hN2 : N ≤ 65537 := by omega
  have m26 := fun W => run_make_rows 26 32 _ 4 48 Try.underlying26 Try.info32 N (by omega) (by omega) W
  have m27 := fun W => run_make_rows 27 101 _ 3 32 Try.underlying27 Try.info101 N (by omega) (by omega) W
  simp only [Value.cells] at m26 m27
  have hle : decide ((n0 : Int) - 1 ≤ 0) = decide (N ≤ 65536) := by
    by_cases h : N ≤ 65536
    · rw [decide_eq_true h, decide_eq_true (by omega)]
    · rw [decide_eq_false h, decide_eq_false (by omega)]
  have hA := okA N; have hBB := okBB N; have hG := okG N (by omega) hN2
  have hbig : decide (N ≤ 65536) = false → 65536 < N := fun h => by simpa using h
  obtain ⟨le, hl⟩ : ∃ le, le = decide (N ≤ 65536) := ⟨_, rfl⟩
  rw [← hl] at hA hBB hG hle hbig
  have HA := Lib.hid hA; have HBB := Lib.hid hBB; have HG := Lib.hid hG; have HBIG := Lib.hid hbig; have HNN := Lib.hid hNN
  clear hA hBB hG hl hNN hbig
  have W1A := Blk.new w 32 (madeCells #[.int .i64 0, .int .i64 0, .int .i64 0, .slice none 0 0] (N * 4))
  have HW1 := Lib.hid (below1' (w := w) (.cells (madeCells #[.int .i64 0, .int .i64 0, .int .i64 0, .slice none 0 0] (N * 4)) 32))
  have HC1 := Lib.hid (codeA_in (by omega) W1A)
  clear W1A
  have hN3 : (1 : Int) ≤ (N : Int) := by omega
  go_enter Try.func3, Try.ntmps3
  go_wp2_with fail
  refine (show Calls Try.prog 9 #[.agg #[.slice none 0 0, .slice (some ⟨w.heap.size, 0, none⟩) N N]] _ (DepW (codeA N) _) from HC1.out.depths).mono ?_
  rintro e W1 hv
  obtain ⟨hb, a1, z1, er1, rfl, he1, hz1⟩ := hv.short HA.out
  have HB1 := Lib.hid (HW1.out.trans (hb.mono HW1.out.size))
  have HZ1 : Hid (le = false → z1 = -1) := Lib.hid (fun h => hz1 h (.inl (HBIG.out h)))
  have G2 := (Blk.new W1 101 (madeCells #[.string { data := #[] }, .int .i64 0, .int .i64 0] (N * 3))).alloc (.cells #[.int .i64 9, .int .i64 0, .int .i64 0, .slice none 0 0] 32)
  have I2 := Blk.new (W1.alloc (.cells (madeCells #[.string { data := #[] }, .int .i64 0, .int .i64 0] (N * 3)) 101)) 32 #[.int .i64 9, .int .i64 0, .int .i64 0, .slice none 0 0]
  simp only [World.size_alloc] at I2
  have HC2 := Lib.hid (codeB_in (by omega) G2 I2)
  have HG2 := Lib.hid G2
  have HB2 := Lib.hid ((HB1.out.alloc HB1.out.size (.cells (madeCells #[.string { data := #[] }, .int .i64 0, .int .i64 0] (N * 3)) 101)).alloc (by have := HB1.out.size; simp; omega) (.cells #[.int .i64 9, .int .i64 0, .int .i64 0, .slice none 0 0] 32))
  clear hv hb hz1 G2 I2 HC1 HW1 HB1
  go_wp2_with fail
  refine (show Calls Try.prog 9 #[.agg #[.slice (some ⟨W1.heap.size, 0, none⟩) N N, .slice (some ⟨W1.heap.size + 1, 0, none⟩) 1 1]] _ (DepW (codeB N) _) from HC2.out.depths).mono ?_
  rintro e W2 hv
  obtain ⟨hb, a2, z2, er2, rfl, he2, hz2⟩ := hv.short HBB.out
  have HB3 := Lib.hid (HB2.out.trans (hb.mono HB2.out.size))
  have HZ2 : Hid (le = false → z2 = -1) := Lib.hid (fun h => hz2 h (.inr (HBIG.out h)))
  have G3 := (HG2.out.below hb HG2.out.lt).alloc (.cells #[.int .i64 7, .int .i64 ((N : Int) - 1), .int .i64 0, .slice none 0 0, .int .i64 15, .int .i64 0, .int .i64 0, .slice none 0 0] 32)
  have I3 := Blk.new W2 32 #[.int .i64 7, .int .i64 ((N : Int) - 1), .int .i64 0, .slice none 0 0, .int .i64 15, .int .i64 0, .int .i64 0, .slice none 0 0]
  have HC3 := Lib.hid (codeG_in (by omega) G3 I3)
  have HB4 := Lib.hid (HB3.out.alloc HB3.out.size (.cells #[.int .i64 7, .int .i64 ((N : Int) - 1), .int .i64 0, .slice none 0 0, .int .i64 15, .int .i64 0, .int .i64 0, .slice none 0 0] 32))
  clear hv hb hz2 G3 I3 HC2 HB2 HG2
  go_wp2_with fail
  refine (show Calls Try.prog 9 #[.agg #[.slice (some ⟨W1.heap.size, 0, none⟩) 1 N, .slice (some ⟨W2.heap.size, 0, none⟩) 2 2]] _ (DepW (codeG ((N : Int) - 1)) _) from HC3.out.depths).mono ?_
  rintro e W3 hv
  obtain ⟨hb, a3, z3, er3, rfl, he3, _⟩ := hv.short HG.out
  have HB5 := Lib.hid (HB4.out.trans (hb.mono HB4.out.size))
  clear hv hb HC3 HB3 m26 m27 hNe hN3
  cases le with
  | true =>
    go_wp2_with (go_at_call 10; refine (num22_any _ _).mono ?_; rintro e w5 ⟨rfl, rfl⟩)
    refine (knows22_any _).mono ?_
    rintro e w6 ⟨rfl, hb6⟩
    have HB6 := Lib.hid (HB5.out.trans (hb6.mono HB5.out.size))
    clear hb6
    go_wp2_with fail
    go_ret
    exact ⟨rfl, HB6.out⟩
  | false =>
    have q1 := HZ1.out rfl
    have q2 := HZ2.out rfl
    subst q1 q2
    go_wp2_with (go_at_call 10; refine (num22_any _ _).mono ?_; rintro e w5 ⟨rfl, rfl⟩)
    refine (knows22_any _).mono ?_
    rintro e w6 ⟨rfl, hb6⟩
    have HB6 := Lib.hid (HB5.out.trans (hb6.mono HB5.out.size))
    clear hb6
    go_wp2_with fail
    go_ret
    exact ⟨rfl, HB6.out⟩
end Go.Proofs.Ytfeghobfkgimfaa
