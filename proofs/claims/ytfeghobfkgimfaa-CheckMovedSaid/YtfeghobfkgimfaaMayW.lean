/- may: is an instruction right, with so much on the stack? And what leaves is small. -/
import Derived.Test.YtfeghobfkgimfaaInstrE
import Derived.Test.YtfeghobfkgimfaaCkPure
namespace Go.Proofs.Ytfeghobfkgimfaa
open Go.RowKit

theorem leaves_small (x : InsD) : -65800 ≤ leavesF x ∧ leavesF x ≤ 65800 := by
  unfold leavesF
  split
  · rename_i h
    have hok := rightF_true.1 h
    have hs := right_small hok
    obtain ⟨k, hop, hk⟩ := nat_of _ hok.1
    rw [show x.op.toNat = k from by omega] at hs ⊢
    have hl := formD_like k hk
    cases hfd : formD k with
    | mk nu le mo rd ra lv la =>
      rw [hfd] at hs hl
      simp only at hs hl ⊢
      have h1 : la = 0 ∨ la = 1 ∨ la = -1 := by omega
      rcases h1 with rfl | rfl | rfl <;> omega
  · omega

/-- 'may' as one truth value. -/
noncomputable def mayB (gl : Nat) (x : InsD) (d : Int) : Bool :=
  rightF x && (decide (readsF x ≤ d) && ((x.op != 1 || decide (x.a < gl)) && (decide (1 ≤ d + leavesF x) && decide (d + leavesF x ≤ 65536))))
theorem mayB_iff (C : CodeD) (p : Nat) (d : Int) : mayB C.gl (C.ins p) d = true ↔ mayP C p d := by
  unfold mayB mayP
  simp [and_assoc]

set_option maxRecDepth 100000 in
set_option maxHeartbeats 4000000 in
theorem may_any (gl ni : Nat) (x : InsD) (d : Int) (G I : Option Addr) (gc ic : Nat) (A : Option Addr) (c : Nat) (w : World) (hT : TabSl w A c x.t) (hlen : x.t.length ≤ 1000000000) (hd : 1 ≤ d ∧ d ≤ 65536) :
    Calls Try.prog 45 #[.agg #[.slice G gl gc, .slice I ni ic], .agg #[.int .i64 x.op, .int .i64 x.a, .int .i64 x.b, .slice A x.t.length c], .int .i64 d] w (RightV (mayB gl x d) w) := by
  have hls := leaves_small x
  have HL := Lib.hid (fun W (hW : Below w.heap.size w W) => leaves_any x A c W (hT.below hW) hlen)
  have HR := Lib.hid (fun W (hW : Below w.heap.size w W) => right_any x A c W (hT.below hW) hlen)
  have HE := Lib.hid (fun W (hW : Below w.heap.size w W) => reads_any x A c W (hT.below hW) hlen)
  unfold mayB
  obtain ⟨lf, hlf⟩ : ∃ lf, lf = leavesF x := ⟨_, rfl⟩
  obtain ⟨rd, hrd⟩ : ∃ rd, rd = readsF x := ⟨_, rfl⟩
  obtain ⟨r, hr⟩ : ∃ r, r = rightF x := ⟨_, rfl⟩
  rw [← hlf] at HL hls ⊢; rw [← hr] at HR ⊢; rw [← hrd] at HE ⊢
  obtain ⟨op, a, b, t⟩ := x
  simp only at HL HR HE hlen ⊢
  obtain ⟨X, hX⟩ : ∃ X, X = t.length := ⟨_, rfl⟩
  rw [← hX] at HL HR HE ⊢
  obtain ⟨hls1, hls2⟩ := hls
  obtain ⟨hd1, hd2⟩ := hd
  have HB0 := Lib.hid (((Below.refl w.heap.size w).alloc (Nat.le_refl _) (.cells #[.slice G gl gc, .slice I ni ic] 29)).alloc (by simp) (.cells #[.int .i64 op, .int .i64 a, .int .i64 b, .slice A X c] 32))
  have B3 := (Blk.new w 29 #[.slice G gl gc, .slice I ni ic]).alloc (.cells #[.int .i64 op, .int .i64 a, .int .i64 b, .slice A X c] 32)
  have B4 := Blk.new (w.alloc (.cells #[.slice G gl gc, .slice I ni ic] 29)) 32 #[.int .i64 op, .int .i64 a, .int .i64 b, .slice A X c]
  have H3 := Lib.hid B3; have H4 := Lib.hid B4
  clear hlf hrd hr hT hlen hX B3 B4
  have hcase : r = false ∨ (r = true ∧ decide (rd ≤ d) = false) ∨ (r = true ∧ decide (rd ≤ d) = true ∧ (op != 1) = false ∧ decide (a < (gl : Int)) = false) ∨
    (r = true ∧ decide (rd ≤ d) = true ∧ ((op != 1) = true ∨ (op != 1) = false ∧ decide (a < (gl : Int)) = true)) := by
    cases r <;> cases decide (rd ≤ d) <;> cases (op != 1) <;> cases decide (a < (gl : Int)) <;> simp
  have hn : (decide (1 ≤ d + lf) = false) ∨ (decide (1 ≤ d + lf) = true ∧ decide (d + lf ≤ 65536) = false) ∨ (decide (1 ≤ d + lf) = true ∧ decide (d + lf ≤ 65536) = true) := by
    cases decide (1 ≤ d + lf) <;> cases decide (d + lf ≤ 65536) <;> simp
  rcases hcase with rfl | ⟨rfl, h2⟩ | ⟨rfl, h2, h3, h4⟩ | ⟨rfl, h2, h3⟩
  · go_enter Try.func45, Try.ntmps45
    go_wp2_with fail
    refine (HL.out _ HB0.out).mono ?_
    rintro e w1 ⟨rfl, hb1⟩
    have HB1 := Lib.hid (HB0.out.trans (hb1.mono HB0.out.size))
    have q3 := H3.out.below hb1 H3.out.lt
    have q4 := H4.out.below hb1 H4.out.lt
    simp only [World.size_alloc] at q4
    have c0 := q4.cell 0; have c1 := q4.cell 1; have c2 := q4.cell 2; have c3 := q4.cell 3
    simp at c0 c1 c2 c3
    have Q3 := Lib.hid q3; have Q4 := Lib.hid q4
    clear hb1 q3 q4
    go_wp2_with fail
    refine (HR.out _ HB1.out).mono ?_
    rintro e w2 ⟨rfl, hb2⟩
    have HB2 := Lib.hid (HB1.out.trans (hb2.mono HB1.out.size))
    clear hb2 c0 c1 c2 c3
    go_wp2_with fail
    go_ret
    exact ⟨ret_bool (by simp), HB2.out⟩
  · go_enter Try.func45, Try.ntmps45
    go_wp2_with fail
    refine (HL.out _ HB0.out).mono ?_
    rintro e w1 ⟨rfl, hb1⟩
    have HB1 := Lib.hid (HB0.out.trans (hb1.mono HB0.out.size))
    have q3 := H3.out.below hb1 H3.out.lt
    have q4 := H4.out.below hb1 H4.out.lt
    simp only [World.size_alloc] at q4
    have c0 := q4.cell 0; have c1 := q4.cell 1; have c2 := q4.cell 2; have c3 := q4.cell 3
    simp at c0 c1 c2 c3
    have Q3 := Lib.hid q3; have Q4 := Lib.hid q4
    clear hb1 q3 q4
    go_wp2_with fail
    refine (HR.out _ HB1.out).mono ?_
    rintro e w2 ⟨rfl, hb2⟩
    have HB2 := Lib.hid (HB1.out.trans (hb2.mono HB1.out.size))
    have q3 := Q3.out.below hb2 Q3.out.lt
    have q4 := Q4.out.below hb2 Q4.out.lt
    clear c0 c1 c2 c3
    have c0 := q4.cell 0; have c1 := q4.cell 1; have c2 := q4.cell 2; have c3 := q4.cell 3
    simp at c0 c1 c2 c3
    have R3 := Lib.hid q3; have R4 := Lib.hid q4
    clear hb2 q3 q4
    go_wp2_with fail
    refine (HE.out _ HB2.out).mono ?_
    rintro e w3 ⟨rfl, hb3⟩
    have HB3 := Lib.hid (HB2.out.trans (hb3.mono HB2.out.size))
    clear hb3 c0 c1 c2 c3
    go_wp2_with fail
    go_ret
    exact ⟨ret_bool (by simp [h2]), HB3.out⟩
  · go_enter Try.func45, Try.ntmps45
    go_wp2_with fail
    refine (HL.out _ HB0.out).mono ?_
    rintro e w1 ⟨rfl, hb1⟩
    have HB1 := Lib.hid (HB0.out.trans (hb1.mono HB0.out.size))
    have q3 := H3.out.below hb1 H3.out.lt
    have q4 := H4.out.below hb1 H4.out.lt
    simp only [World.size_alloc] at q4
    have c0 := q4.cell 0; have c1 := q4.cell 1; have c2 := q4.cell 2; have c3 := q4.cell 3
    simp at c0 c1 c2 c3
    have Q3 := Lib.hid q3; have Q4 := Lib.hid q4
    clear hb1 q3 q4
    go_wp2_with fail
    refine (HR.out _ HB1.out).mono ?_
    rintro e w2 ⟨rfl, hb2⟩
    have HB2 := Lib.hid (HB1.out.trans (hb2.mono HB1.out.size))
    have q3 := Q3.out.below hb2 Q3.out.lt
    have q4 := Q4.out.below hb2 Q4.out.lt
    clear c0 c1 c2 c3
    have c0 := q4.cell 0; have c1 := q4.cell 1; have c2 := q4.cell 2; have c3 := q4.cell 3
    simp at c0 c1 c2 c3
    have R3 := Lib.hid q3; have R4 := Lib.hid q4
    clear hb2 q3 q4
    go_wp2_with fail
    refine (HE.out _ HB2.out).mono ?_
    rintro e w3 ⟨rfl, hb3⟩
    have HB3 := Lib.hid (HB2.out.trans (hb3.mono HB2.out.size))
    have q3 := R3.out.below hb3 R3.out.lt
    have q4 := R4.out.below hb3 R4.out.lt
    clear c0 c1 c2 c3
    have c0 := q4.cell 0; have c1 := q4.cell 1; have g0 := q3.cell 0
    simp at c0 c1 g0
    clear hb3 q3 q4
    go_wp2_with fail
    go_ret
    exact ⟨ret_bool (by simp [h2, h3, h4]), HB3.out⟩
  · rcases h3 with h3 | ⟨h3, h4⟩
    all_goals
      rcases hn with n1 | ⟨n1, n2⟩ | ⟨n1, n2⟩
      all_goals
        go_enter Try.func45, Try.ntmps45
        go_wp2_with fail
        refine (HL.out _ HB0.out).mono ?_
        rintro e w1 ⟨rfl, hb1⟩
        have HB1 := Lib.hid (HB0.out.trans (hb1.mono HB0.out.size))
        have q3 := H3.out.below hb1 H3.out.lt
        have q4 := H4.out.below hb1 H4.out.lt
        simp only [World.size_alloc] at q4
        have c0 := q4.cell 0; have c1 := q4.cell 1; have c2 := q4.cell 2; have c3 := q4.cell 3
        simp at c0 c1 c2 c3
        have Q3 := Lib.hid q3; have Q4 := Lib.hid q4
        clear hb1 q3 q4
        go_wp2_with fail
        refine (HR.out _ HB1.out).mono ?_
        rintro e w2 ⟨rfl, hb2⟩
        have HB2 := Lib.hid (HB1.out.trans (hb2.mono HB1.out.size))
        have q3 := Q3.out.below hb2 Q3.out.lt
        have q4 := Q4.out.below hb2 Q4.out.lt
        clear c0 c1 c2 c3
        have c0 := q4.cell 0; have c1 := q4.cell 1; have c2 := q4.cell 2; have c3 := q4.cell 3
        simp at c0 c1 c2 c3
        have R3 := Lib.hid q3; have R4 := Lib.hid q4
        clear hb2 q3 q4
        go_wp2_with fail
        refine (HE.out _ HB2.out).mono ?_
        rintro e w3 ⟨rfl, hb3⟩
        have HB3 := Lib.hid (HB2.out.trans (hb3.mono HB2.out.size))
        have q3 := R3.out.below hb3 R3.out.lt
        have q4 := R4.out.below hb3 R4.out.lt
        clear c0 c1 c2 c3
        have c0 := q4.cell 0; have c1 := q4.cell 1; have g0 := q3.cell 0
        simp at c0 c1 g0
        clear hb3 q3 q4
        go_wp2_with fail
        go_ret
        exact ⟨ret_bool (by simp [*]), HB3.out⟩
end Go.Proofs.Ytfeghobfkgimfaa
