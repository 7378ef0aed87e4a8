/- Depths: code that is too big, or whose arities are none. -/
import Derived.Test.YtfeghobfkgimfaaTakeW
import Derived.Test.YtfeghobfkgimfaaMayW
import Derived.Test.YtfeghobfkgimfaaAnyW
import Derived.Lib.MinMax
import Derived.WalkMore
namespace Go.Proofs.Ytfeghobfkgimfaa
open Go.RowKit

/-- Depths' answer. -/
def DepV (C : CodeD) (w : World) (e : Ending) (W : World) : Prop :=
  Below w.heap.size w W ∧
  ((∃ b D, e = .returned (.tuple #[.slice (some ⟨b, 0, none⟩) C.ni C.ni, .int .i64 0, .int .i64 0]) ∧ w.heap.size ≤ b ∧ W.rowIs b 3 C.ni (fun i => .int .i64 (D i)) ∧ Least C D ∧ C.ni ≤ 65536 ∧ C.gl ≤ 65536 ∧ arsOk C) ∨
   (∃ z : Int, e = .returned (.tuple #[.slice none 0 0, .int .i64 z, .int .i64 50]) ∧ ((65536 < C.ni ∨ 65536 < C.gl) → z = -1) ∧ (C.ni ≤ 65536 → C.gl ≤ 65536 → arsOk C → ∀ E, ¬ Closed C E)))

set_option maxRecDepth 100000 in
set_option maxHeartbeats 1000000 in
theorem dep_big (C : CodeD) (G I : Option Addr) (gc ic : Nat) (w : World) (hni : C.ni ≤ 1000000000) (hgl : C.gl ≤ 1000000000) (h : 65536 < C.ni ∨ 65536 < C.gl) :
    Calls Try.prog 9 #[.agg #[.slice G C.gl gc, .slice I C.ni ic]] w (DepV C w) := by
  have hm : decide ((65536 : Int) < max (C.ni : Int) (C.gl : Int)) = true := by simp; omega
  obtain ⟨ni, hn⟩ : ∃ n, n = C.ni := ⟨_, rfl⟩
  obtain ⟨gl, hg⟩ : ∃ n, n = C.gl := ⟨_, rfl⟩
  have HH : Hid (65536 < C.ni ∨ 65536 < C.gl) := Lib.hid h
  rw [← hn] at hm hni ⊢; rw [← hg] at hm hgl ⊢
  have HB : Hid (Below w.heap.size w (w.alloc (.cells #[.slice G gl gc, .slice I ni ic] 29))) := Lib.hid (below1' _)
  obtain ⟨m, hmx⟩ : ∃ m, max (ni : Int) (gl : Int) = m := ⟨_, rfl⟩
  rw [hmx] at hm
  clear hn hg h
  go_enter Try.func9, Try.ntmps9
  go_wp2_with fail
  go_step3
  go_wp2_with fail
  rw [Exit.noGoto_ret]
  refine bodyPost_ret (v := .tuple #[.slice none 0 0, .int .i64 (-1), .int .i64 50]) (by simp [results, Try.results9, go_sem]) rfl ?_
  exact ⟨HB.out, .inr ⟨_, rfl, fun _ => rfl, fun h1 h2 => by have := HH.out; omega⟩⟩

set_option maxRecDepth 100000 in
set_option maxHeartbeats 1000000 in
theorem dep_ars (C : CodeD) (G I : Option Addr) (gc ic : Nat) (w : World) (hC : CodeAt w C G gc I ic) (hni : C.ni ≤ 65536) (hgl : C.gl ≤ 65536) (h : ¬ arsOk C) :
    Calls Try.prog 9 #[.agg #[.slice G C.gl gc, .slice I C.ni ic]] w (DepV C w) := by
  have hm : decide ((65536 : Int) < max (C.ni : Int) (C.gl : Int)) = false := by simp; omega
  have hx := Lib.hid (fun W hg => any41 C G gc W hgl hg)
  have e : arsB C = false := by simp [arsB, h]
  rw [e] at hx
  have hB := below1' (w := w) (.cells #[.slice G C.gl gc, .slice I C.ni ic] 29)
  have hg : GlobsAt (w.alloc (.cells #[.slice G C.gl gc, .slice I C.ni ic] 29)) C G := fun h0 => by
    obtain ⟨g, o, hG, hl, hc⟩ := hC.gs h0
    exact ⟨g, o, hG, by simp; omega, fun i hi => by
      obtain ⟨s, h1, h2, h3⟩ := hc i hi
      exact ⟨s, (hB.cell (p := ⟨g, o + i * 3, none⟩) hl).trans h1, (hB.cell (p := ⟨g, o + i * 3 + 1, none⟩) hl).trans h2, (hB.cell (p := ⟨g, o + i * 3 + 2, none⟩) hl).trans h3⟩⟩
  obtain ⟨ni, hn⟩ : ∃ n, n = C.ni := ⟨_, rfl⟩
  obtain ⟨gl, hgg⟩ : ∃ n, n = C.gl := ⟨_, rfl⟩
  have HH : Hid (¬ arsOk C) := Lib.hid h
  rw [← hn] at hm hni hB hg ⊢; rw [← hgg] at hm hgl hx hB hg ⊢
  obtain ⟨m, hmx⟩ : ∃ m, max (ni : Int) (gl : Int) = m := ⟨_, rfl⟩
  rw [hmx] at hm
  have HB := Lib.hid hB; have HG := Lib.hid hg
  have HN : Hid (ni = C.ni) := Lib.hid hn
  have HNG : Hid (gl = C.gl) := Lib.hid hgg
  clear hn hgg h hC e hB hg
  go_enter Try.func9, Try.ntmps9
  go_wp2_with fail
  go_step3
  go_wp2_with fail
  refine (hx.out _ HG.out).mono ?_
  rintro e w2 ⟨rfl, hb⟩
  have HB2 := Lib.hid (HB.out.trans (hb.mono (by simp)))
  clear hb
  go_wp2_with fail
  rw [Exit.noGoto_ret]
  refine bodyPost_ret (v := .tuple #[.slice none 0 0, .int .i64 (-1), .int .i64 50]) (by simp [results, Try.results9, go_sem]) rfl ?_
  exact ⟨HB2.out, .inr ⟨_, rfl, fun _ => rfl, fun _ _ h => absurd h HH.out⟩⟩
end Go.Proofs.Ytfeghobfkgimfaa
