/- The code that the law knows: Depths, Safe, Deepest answer what they must. -/
import Derived.Test.YtfeghobfkgimfaaSafeW
import Derived.Test.YtfeghobfkgimfaaKnowsP
namespace Go.Proofs.Ytfeghobfkgimfaa
open Go.RowKit

theorem okK : okB codeK = true := okB_true.2 ⟨by decide, by decide, fun i _ => by simp [codeK], depK, closedK⟩

/-- Depths of the known code. -/
theorem depthsK (G I : Option Addr) (gc ic : Nat) (w : World) (h : CodeIn w codeK G gc I ic) : Calls Try.prog 9 #[.agg #[.slice G 1 gc, .slice I 4 ic]] w fun e W =>
    Below w.heap.size w W ∧ ∃ b, e = .returned (.tuple #[.slice (some ⟨b, 0, none⟩) 4 4, .int .i64 0, .int .i64 0]) ∧ w.heap.size ≤ b ∧ W.cell? ⟨b, 0, none⟩ = some (.int .i64 1) ∧ W.cell? ⟨b, 1, none⟩ = some (.int .i64 2) ∧ W.cell? ⟨b, 2, none⟩ = some (.int .i64 1) ∧ W.cell? ⟨b, 3, none⟩ = some (.int .i64 1) := by
  refine Calls.mono (show Calls Try.prog 9 #[.agg #[.slice G 1 gc, .slice I 4 ic]] w (DepW codeK w) from h.depths) ?_
  rintro e W ⟨hb, hv⟩
  refine ⟨hb, ?_⟩
  rcases hv with ⟨_, b, D, he, hbl, hr, hl⟩ | ⟨ho, _⟩
  · obtain ⟨d0, d1, d2, d3⟩ := onlyK hl.cl
    refine ⟨b, he, hbl, ?_, ?_, ?_, ?_⟩
    · rw [hr.cell (show 0 < codeK.ni by decide), d0]
    · rw [hr.cell (show 1 < codeK.ni by decide), d1]
    · rw [hr.cell (show 2 < codeK.ni by decide), d2]
    · rw [hr.cell (show 3 < codeK.ni by decide), d3]
  · rw [okK] at ho; cases ho

theorem cellK {w : World} {G I : Option Addr} {gc ic : Nat} (h : CodeIn w codeK G gc I ic) (k : Nat) (hk : k < 4) : ∃ g o T tc, I = some ⟨g, o, none⟩ ∧ g < w.heap.size ∧ w.cell? ⟨g, o + k * 4, none⟩ = some (.int .i64 (insK k).op) ∧ w.cell? ⟨g, o + k * 4 + 1, none⟩ = some (.int .i64 (insK k).a) ∧ w.cell? ⟨g, o + k * 4 + 2, none⟩ = some (.int .i64 (insK k).b) ∧
    w.cell? ⟨g, o + k * 4 + 3, none⟩ = some (.slice T (insK k).t.length tc) ∧ TabSl w T tc (insK k).t := by
  obtain ⟨g, o, hI, hg, hc⟩ := h.at_.is (by decide)
  obtain ⟨T, tc, r⟩ := hc k hk
  exact ⟨g, o, T, tc, hI, hg, r⟩

/-- What a round of Deepest needs to know. -/
theorem roundK (k : Nat) (hk : k < 4) : ∃ op a b d lf nv, insK k = ⟨op, a, b, []⟩ ∧ depK k = d ∧ leavesF ⟨op, a, b, []⟩ = lf ∧ (k = 0 → nv = 0) ∧ (0 < k → nv = 2) ∧ 0 < d ∧ (if d + lf > (if d > nv then d else nv) then d + lf else (if d > nv then d else nv)) = (2 : Int) ∧ d ≤ 2 ∧ -1 ≤ lf ∧ lf ≤ 1 := by
  have h4 : k = 0 ∨ k = 1 ∨ k = 2 ∨ k = 3 := by omega
  rcases h4 with rfl | rfl | rfl | rfl
  · exact ⟨0, 7, 0, 1, 1, 0, rfl, rfl, leaves0, by decide, by decide, by decide, by decide, by decide, by decide, by decide⟩
  · exact ⟨4, 0, 0, 2, -1, 2, rfl, rfl, leaves4, by decide, by decide, by decide, by decide, by decide, by decide, by decide⟩
  · exact ⟨5, 0, 0, 1, 0, 2, rfl, rfl, leaves5, by decide, by decide, by decide, by decide, by decide, by decide, by decide⟩
  · exact ⟨9, 0, 0, 1, 0, 2, rfl, rfl, leaves9, by decide, by decide, by decide, by decide, by decide, by decide, by decide⟩

set_option maxRecDepth 100000 in
set_option maxHeartbeats 1000000 in
theorem deepestK (G I : Option Addr) (gc ic : Nat) (w : World) (h : CodeIn w codeK G gc I ic) : Calls Try.prog 48 #[.agg #[.slice G 1 gc, .slice I 4 ic]] w (IntV 2 w) := by
  have hB := below1' (w := w) (.cells #[.slice G 1 gc, .slice I 4 ic] 29)
  have hK := h.on hB
  have hD := depthsK G I gc ic _ hK
  have BC := Blk.new w 29 #[.slice G 1 gc, .slice I 4 ic]
  have HBC := Lib.hid BC; have HB := Lib.hid hB; have HD := Lib.hid hD; have HK := Lib.hid hK
  clear h hB hK hD BC
  go_enter Try.func48, Try.ntmps48
  go_wp2_with fail
  refine HD.out.mono ?_
  rintro e W ⟨hb, b, rfl, hbl, d0, d1, d2, d3⟩
  have HB2 := Lib.hid (HB.out.trans (hb.mono HB.out.size))
  have bc := HBC.out.below hb HBC.out.lt
  have HBC2 := Lib.hid bc
  have HK2 := Lib.hid (HK.out.on hb)
  have HDS : Hid (∀ k, k < 4 → W.cell? ⟨b, k, none⟩ = some (.int .i64 (depK k))) := Lib.hid (by
    intro k hk
    have h4 : k = 0 ∨ k = 1 ∨ k = 2 ∨ k = 3 := by omega
    rcases h4 with rfl | rfl | rfl | rfl
    · exact d0
    · exact d1
    · exact d2
    · exact d3)
  have hbW : b < W.heap.size := World.block_lt_of_cell? W ⟨b, 0, none⟩ d0
  clear hb bc d0 d1 d2 d3
  go_wp2_with fail
  go_loopg [6, 19] 4 (fun gk nv i wr => ∃ k : Nat, k ≤ 4 ∧ gk = 4 - k ∧ i = .int .i64 k ∧ nv = .int .i64 (if k = 0 then 0 else 2) ∧ Hid (Below W.heap.size W wr))
  case atStart => exact ⟨0, by decide, rfl, rfl, rfl, Lib.hid (Below.refl _ _)⟩
  case round =>
    obtain ⟨k, hk, rfl, rfl, rfl, HW⟩ := hrel
    by_cases hlt : k < 4
    · obtain ⟨op, a, bb, d, lf, nv, hi, hd, hl, hn0, hn1, hd0, hmx, hd2, hl1, hl2⟩ := roundK k hlt
      obtain ⟨g, o, T, tc, hI, hgl, c0, c1, c2, c3, ht⟩ := cellK HK2.out k hlt
      subst hI
      rw [hi] at c0 c1 c2 c3 ht
      simp only [List.length_nil] at c0 c1 c2 c3 ht
      have i0 := (HW.out.cell (p := ⟨g, o + k * 4, none⟩) hgl).trans c0
      have i1 := (HW.out.cell (p := ⟨g, o + k * 4 + 1, none⟩) hgl).trans c1
      have i2 := (HW.out.cell (p := ⟨g, o + k * 4 + 2, none⟩) hgl).trans c2
      have i3 := (HW.out.cell (p := ⟨g, o + k * 4 + 3, none⟩) hgl).trans c3
      have dd := (HW.out.cell (p := ⟨b, k, none⟩) hbW).trans (HDS.out k hlt)
      rw [hd] at dd
      have bb1 := (HBC2.out.below HW.out HBC2.out.lt).cell 1
      simp at bb1
      have hL := leaves_any ⟨op, a, bb, []⟩ T tc wr (ht.below HW.out) (by simp)
      rw [hl] at hL
      simp only [List.length_nil] at hL
      have HL := Lib.hid hL
      have hnv : (if k = 0 then (0 : Int) else 2) = nv := by
        by_cases h0 : k = 0
        · rw [if_pos h0, hn0 h0]
        · rw [if_neg h0, hn1 (by omega)]
      rw [hnv]
      have hk1 : (k : Int) < 4 := by omega
      have hwr : IntKind.i64.wrap (d + lf) = d + lf := IntWalk.i64_in _ (by omega)
      have hsz := HW.out.size
      clear hi hd hl hn0 hn1 c0 c1 c2 c3 ht hL hnv
      go_wp2_with fail
      refine HL.out.mono ?_
      rintro e w4 ⟨rfl, hb4⟩
      have HW4 := Lib.hid (HW.out.trans (hb4.mono hsz))
      clear hb4 i0 i1 i2 i3 dd bb1
      go_wp2_with fail
      go_roundg (4 - (k + 1))
      case measure => omega
      case rel => exact ⟨k + 1, by omega, rfl, by go_num, by simp, HW4⟩
    · obtain rfl : k = 4 := by omega
      go_wp2_with fail
      go_ret
      exact ⟨rfl, HB2.out.trans (HW.out.mono HB2.out.size)⟩
end Go.Proofs.Ytfeghobfkgimfaa
