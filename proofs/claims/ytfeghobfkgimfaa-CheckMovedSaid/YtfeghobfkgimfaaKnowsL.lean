/- What must come: the depths of four places. -/
import Derived.Test.YtfeghobfkgimfaaKnowsW
namespace Go.Proofs.Ytfeghobfkgimfaa
open Go.RowKit

theorem codeK_in {W : World} {g i : Nat} {s : ByteArray} (hg : Blk W g 101 #[.string s, .int .i64 0, .int .i64 0])
    (hi : Blk W i 32 #[.int .i64 0, .int .i64 7, .int .i64 0, .slice none 0 0, .int .i64 4, .int .i64 0, .int .i64 0, .slice none 0 0, .int .i64 5, .int .i64 0, .int .i64 0, .slice none 0 0, .int .i64 9, .int .i64 0, .int .i64 0, .slice none 0 0]) :
    CodeIn W codeK (some ⟨g, 0, none⟩) 1 (some ⟨i, 0, none⟩) 4 := by
  refine ⟨⟨by decide, by decide, fun _ => ⟨g, 0, rfl, hg.lt, fun k hk => ?_⟩, fun _ => ⟨i, 0, rfl, hi.lt, fun k hk => ?_⟩⟩, fun k hk => ?_, by decide, by decide⟩
  · have : k < 1 := hk
    obtain rfl : k = 0 := by omega
    exact ⟨s, hg.cell 0, hg.cell 1, hg.cell 2⟩
  · have h4 : k < 4 := hk
    have hc := hi.cell
    have : k = 0 ∨ k = 1 ∨ k = 2 ∨ k = 3 := by omega
    refine ⟨none, 0, ?_⟩
    rcases this with rfl | rfl | rfl | rfl
    · exact ⟨hc 0, hc 1, hc 2, hc 3, by simp [TabSl, codeK, insK]⟩
    · exact ⟨hc 4, hc 5, hc 6, hc 7, by simp [TabSl, codeK, insK]⟩
    · exact ⟨hc 8, hc 9, hc 10, hc 11, by simp [TabSl, codeK, insK]⟩
    · exact ⟨hc 12, hc 13, hc 14, hc 15, by simp [TabSl, codeK, insK]⟩
  · have h4 : k < 4 := hk
    have : k = 0 ∨ k = 1 ∨ k = 2 ∨ k = 3 := by omega
    rcases this with rfl | rfl | rfl | rfl <;> simp [codeK, insK]

set_option maxRecDepth 100000 in
set_option maxHeartbeats 1000000 in
theorem knows22_any (w : World) : Calls Try.prog 11 #[] w (RightV true w) := by
  have B0 := ((Blk.new w 101 #[.string { data := #[102] }, .int .i64 0, .int .i64 0]).alloc (.cells #[.int .i64 0, .int .i64 7, .int .i64 0, .slice none 0 0, .int .i64 4, .int .i64 0, .int .i64 0, .slice none 0 0, .int .i64 5, .int .i64 0, .int .i64 0, .slice none 0 0, .int .i64 9, .int .i64 0, .int .i64 0, .slice none 0 0] 32)).alloc (.cells #[.slice (some ⟨w.heap.size, 0, none⟩) 1 1, .slice (some ⟨w.heap.size + 1, 0, none⟩) 4 4] 29)
  have B1 := (Blk.new (w.alloc (.cells #[.string { data := #[102] }, .int .i64 0, .int .i64 0] 101)) 32 #[.int .i64 0, .int .i64 7, .int .i64 0, .slice none 0 0, .int .i64 4, .int .i64 0, .int .i64 0, .slice none 0 0, .int .i64 5, .int .i64 0, .int .i64 0, .slice none 0 0, .int .i64 9, .int .i64 0, .int .i64 0, .slice none 0 0]).alloc (.cells #[.slice (some ⟨w.heap.size, 0, none⟩) 1 1, .slice (some ⟨w.heap.size + 1, 0, none⟩) 4 4] 29)
  have B2 := Blk.new ((w.alloc (.cells #[.string { data := #[102] }, .int .i64 0, .int .i64 0] 101)).alloc (.cells #[.int .i64 0, .int .i64 7, .int .i64 0, .slice none 0 0, .int .i64 4, .int .i64 0, .int .i64 0, .slice none 0 0, .int .i64 5, .int .i64 0, .int .i64 0, .slice none 0 0, .int .i64 9, .int .i64 0, .int .i64 0, .slice none 0 0] 32)) 29 #[.slice (some ⟨w.heap.size, 0, none⟩) 1 1, .slice (some ⟨w.heap.size + 1, 0, none⟩) 4 4]
  have HB0 : Hid (Below w.heap.size w (((w.alloc (.cells #[.string { data := #[102] }, .int .i64 0, .int .i64 0] 101)).alloc (.cells #[.int .i64 0, .int .i64 7, .int .i64 0, .slice none 0 0, .int .i64 4, .int .i64 0, .int .i64 0, .slice none 0 0, .int .i64 5, .int .i64 0, .int .i64 0, .slice none 0 0, .int .i64 9, .int .i64 0, .int .i64 0, .slice none 0 0] 32)).alloc (.cells #[.slice (some ⟨w.heap.size, 0, none⟩) 1 1, .slice (some ⟨w.heap.size + 1, 0, none⟩) 4 4] 29))) := Lib.hid (below3 _ _ _)
  simp only [World.size_alloc] at B1 B2
  have hK := codeK_in B0 B1
  have HK := Lib.hid hK; have HBX := Lib.hid B2
  clear hK B0 B1 B2
  go_enter Try.func11, Try.ntmps11
  go_wp2_with fail
  refine (depthsK _ _ _ _ _ HK.out).mono ?_
  rintro e W1 ⟨hb1, b, rfl, hbl, d0, d1, d2, d3⟩
  have HB1 := Lib.hid (HB0.out.trans (hb1.mono HB0.out.size))
  have HK1 := Lib.hid (HK.out.on hb1)
  have bx := HBX.out.below hb1 HBX.out.lt
  have c0 := bx.cell 0; have c1 := bx.cell 1
  simp at c0 c1
  have HBX1 := Lib.hid bx
  have hbW : b < W1.heap.size := World.block_lt_of_cell? W1 ⟨b, 0, none⟩ d0
  clear hb1 bx
  go_wp2_with fail
  refine (num22_any _ _).mono ?_
  rintro e W2 ⟨rfl, rfl⟩
  go_wp2_with fail
  refine (show Calls Try.prog 13 #[.agg #[.slice (some ⟨w.heap.size, 0, none⟩) 1 1, .slice (some ⟨w.heap.size + 1, 0, none⟩) 4 4]] W2 (RightV (okB codeK) W2) from safe_any codeK _ _ _ _ _ HK1.out).mono ?_
  rintro e W3 ⟨rfl, hb3⟩
  have HB3 := Lib.hid (HB1.out.trans (hb3.mono HB1.out.size))
  have HK3 := Lib.hid (HK1.out.on hb3)
  have bx := HBX1.out.below hb3 HBX1.out.lt
  clear c0 c1
  have c0 := bx.cell 0; have c1 := bx.cell 1
  simp at c0 c1
  clear hb3 bx d0 d1 d2 d3
  rw [okK]
  go_wp2_with fail
  refine (deepestK _ _ _ _ _ HK3.out).mono ?_
  rintro e W4 ⟨rfl, hb4⟩
  have HB4 := Lib.hid (HB3.out.trans (hb4.mono HB3.out.size))
  clear hb4 c0 c1
  go_wp2_with fail
  go_ret
  exact ⟨rfl, HB4.out⟩
end Go.Proofs.Ytfeghobfkgimfaa
