/- Safe: is there no error? -/
import Derived.Test.YtfeghobfkgimfaaDepthC
namespace Go.Proofs.Ytfeghobfkgimfaa
open Go.RowKit

/-- Code that has depths. -/
def OkC (C : CodeD) : Prop := C.ni ≤ 65536 ∧ C.gl ≤ 65536 ∧ arsOk C ∧ ∃ D, Closed C D
open Classical in
noncomputable def okB (C : CodeD) : Bool := decide (OkC C)
theorem okB_true {C : CodeD} : okB C = true ↔ OkC C := by simp [okB]
theorem okB_false {C : CodeD} : okB C = false ↔ ¬ OkC C := by simp [okB]

/-- Depths' answer, by whether the code has depths. -/
def DepW (C : CodeD) (w : World) (e : Ending) (W : World) : Prop :=
  Below w.heap.size w W ∧
  ((okB C = true ∧ ∃ b D, e = .returned (.tuple #[.slice (some ⟨b, 0, none⟩) C.ni C.ni, .int .i64 0, .int .i64 0]) ∧ w.heap.size ≤ b ∧ W.rowIs b 3 C.ni (fun i => .int .i64 (D i)) ∧ Least C D) ∨
   (okB C = false ∧ ∃ z : Int, e = .returned (.tuple #[.slice none 0 0, .int .i64 z, .int .i64 50]) ∧ ((65536 < C.ni ∨ 65536 < C.gl) → z = -1)))
theorem DepV.to {C : CodeD} {w : World} {e : Ending} {W : World} (h : DepV C w e W) : DepW C w e W := by
  refine ⟨h.1, ?_⟩
  rcases h.2 with ⟨b, D, he, hb, hr, hl, h1, h2, h3⟩ | ⟨z, he, hz, hn⟩
  · exact .inl ⟨okB_true.2 ⟨h1, h2, h3, D, hl.cl⟩, b, D, he, hb, hr, hl⟩
  · exact .inr ⟨okB_false.2 (fun ⟨h1, h2, h3, D, hD⟩ => hn h1 h2 h3 D hD), z, he, hz⟩

theorem CodeAt.on {w W : World} {C : CodeD} {G I : Option Addr} {gc ic : Nat} (h : CodeAt w C G gc I ic) (hb : Below w.heap.size w W) : CodeAt W C G gc I ic := by
  refine ⟨h.gcap, h.icap, fun h0 => ?_, fun h0 => ?_⟩
  · obtain ⟨g, o, hG, hg, hc⟩ := h.gs h0
    refine ⟨g, o, hG, Nat.lt_of_lt_of_le hg hb.size, fun i hi => ?_⟩
    obtain ⟨s, e1, e2, e3⟩ := hc i hi
    exact ⟨s, (hb.cell (p := ⟨g, o + i * 3, none⟩) hg).trans e1, (hb.cell (p := ⟨g, o + i * 3 + 1, none⟩) hg).trans e2, (hb.cell (p := ⟨g, o + i * 3 + 2, none⟩) hg).trans e3⟩
  · obtain ⟨g, o, hG, hg, hc⟩ := h.is h0
    refine ⟨g, o, hG, Nat.lt_of_lt_of_le hg hb.size, fun i hi => ?_⟩
    obtain ⟨T, tc, e0, e1, e2, e3, ht⟩ := hc i hi
    exact ⟨T, tc, (hb.cell (p := ⟨g, o + i * 4, none⟩) hg).trans e0, (hb.cell (p := ⟨g, o + i * 4 + 1, none⟩) hg).trans e1, (hb.cell (p := ⟨g, o + i * 4 + 2, none⟩) hg).trans e2, (hb.cell (p := ⟨g, o + i * 4 + 3, none⟩) hg).trans e3, ht.below hb⟩

/-- Code in memory, small enough to be asked about. -/
structure CodeIn (w : World) (C : CodeD) (G : Option Addr) (gc : Nat) (I : Option Addr) (ic : Nat) : Prop where
  at_ : CodeAt w C G gc I ic
  tl : ∀ i, i < C.ni → (C.ins i).t.length ≤ 1000000000
  nl : C.ni ≤ 1000000000
  gl : C.gl ≤ 1000000000
theorem CodeIn.on {w W : World} {C : CodeD} {G I : Option Addr} {gc ic : Nat} (h : CodeIn w C G gc I ic) (hb : Below w.heap.size w W) : CodeIn W C G gc I ic := ⟨h.at_.on hb, h.tl, h.nl, h.gl⟩
theorem CodeIn.depths {w : World} {C : CodeD} {G I : Option Addr} {gc ic : Nat} (h : CodeIn w C G gc I ic) : Calls Try.prog 9 #[.agg #[.slice G C.gl gc, .slice I C.ni ic]] w (DepW C w) :=
  (depths_any C G I gc ic w h.at_ h.tl h.nl h.gl).mono fun _ _ => DepV.to

set_option maxRecDepth 100000 in
theorem num22_any (n : Int) (w : World) : Calls Try.prog 10 #[.int .i64 n] w fun e W => e = .returned (.int .i64 n) ∧ W = w := by
  go_enter Try.func10, Try.ntmps10
  go_wp2_with fail
  go_ret
  exact ⟨rfl, rfl⟩

set_option maxRecDepth 100000 in
theorem safe_any (C : CodeD) (G I : Option Addr) (gc ic : Nat) (w : World) (h : CodeIn w C G gc I ic) :
    Calls Try.prog 13 #[.agg #[.slice G C.gl gc, .slice I C.ni ic]] w (RightV (okB C) w) := by
  have hB := below1' (w := w) (.cells #[.slice G C.gl gc, .slice I C.ni ic] 29)
  have hD := (h.on hB).depths
  have HB := Lib.hid hB; have HD := Lib.hid hD
  clear h hB hD
  go_enter Try.func13, Try.ntmps13
  go_wp2_with fail
  refine HD.out.mono ?_
  rintro e W ⟨hb, hv⟩
  have HB2 := Lib.hid (HB.out.trans (hb.mono HB.out.size))
  rcases hv with ⟨ho, b, D, rfl, _, _, _⟩ | ⟨ho, z, rfl, _⟩
  · have HO := Lib.hid ho
    clear hb ho
    go_wp2_with fail
    go_ret
    exact ⟨ret_bool HO.out, HB2.out⟩
  · have HO := Lib.hid ho
    clear hb ho
    go_wp2_with fail
    go_ret
    exact ⟨ret_bool HO.out, HB2.out⟩
end Go.Proofs.Ytfeghobfkgimfaa
