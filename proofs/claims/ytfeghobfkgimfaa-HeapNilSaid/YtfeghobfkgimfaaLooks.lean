/- Used, Len, Size; ask with whatever is done. -/
import Derived.Test.YtfeghobfkgimfaaPut
import Derived.Shelf.Abstract
namespace Go.Proofs.Ytfeghobfkgimfaa
open Go.RowKit Go.Shelf

section
variable (w0 w : World) (b cb gb n o1 u1 c1 o2 u2 c2 : Nat) (C : Nat → Int) (G : Nat → Bool)
set_option maxRecDepth 100000 in
set_option maxHeartbeats 400000 in
theorem used_any (hn0 : 1 ≤ n) (hr : HRows w0 w b cb gb (2 * n) (topV cb gb n o1 u1 c1 o2 u2 c2) C G) :
    Calls Try.prog 20 #[.pointer (some ⟨b, 0, none⟩)] w fun e w' => e = .returned (.int .i64 u1) ∧ w = w' := by
  have t2 := hr.t2
  have hn := none_at b n (by omega) w hr.t8
  have HN := Lib.hid hn; clear hn hr
  go_enter Try.func20, Try.ntmps20
  go_wp2_with (go_at_call 50; refine HN.out.mono ?_; rintro e w1 ⟨rfl, rfl⟩)
  go_ret
  exact ⟨rfl, rfl⟩
set_option maxRecDepth 100000 in
set_option maxHeartbeats 400000 in
theorem len_any (hn0 : 1 ≤ n) (hr : HRows w0 w b cb gb (2 * n) (topV cb gb n o1 u1 c1 o2 u2 c2) C G) :
    Calls Try.prog 19 #[.pointer (some ⟨b, 0, none⟩)] w fun e w' => e = .returned (.int .i64 c1) ∧ w = w' := by
  have t3 := hr.t3
  have hn := none_at b n (by omega) w hr.t8
  have HN := Lib.hid hn; clear hn hr
  go_enter Try.func19, Try.ntmps19
  go_wp2_with (go_at_call 50; refine HN.out.mono ?_; rintro e w1 ⟨rfl, rfl⟩)
  go_ret
  exact ⟨rfl, rfl⟩
set_option maxRecDepth 100000 in
set_option maxHeartbeats 400000 in
theorem size_any (hn0 : 1 ≤ n) (hr : HRows w0 w b cb gb (2 * n) (topV cb gb n o1 u1 c1 o2 u2 c2) C G) :
    Calls Try.prog 32 #[.pointer (some ⟨b, 0, none⟩)] w fun e w' => e = .returned (.int .i64 n) ∧ w = w' := by
  have t8 := hr.t8
  have hn := none_at b n (by omega) w hr.t8
  have HN := Lib.hid hn; clear hn hr
  go_enter Try.func32, Try.ntmps32
  go_wp2_with (go_at_call 50; refine HN.out.mono ?_; rintro e w1 ⟨rfl, rfl⟩)
  go_ret
  exact ⟨rfl, rfl⟩

set_option maxRecDepth 100000 in
set_option maxHeartbeats 400000 in
theorem ask_any (k : Nat) (g : Nat) (caps : Array Value) (R : World → Prop) (hn0 : 1 ≤ n) (hn : n ≤ 1048576) (hu : u1 ≤ n) (hr : HRows w0 w b cb gb (2 * n) (topV cb gb n o1 u1 c1 o2 u2 c2) C G) (ho1 : o1 + n ≤ 2 * n) (hk : k < u1) (hG : G (o1 + k) = true)
    (eg : Enters Try.prog g) (hg : Calls Try.prog g caps w fun e w' => e = .returned (.tuple #[]) ∧ R w') :
    Calls Try.prog 59 #[.pointer (some ⟨b, 0, none⟩), .int .i64 k, .func (.func g) #[] caps] w fun e w' => e = .returned (.int .i64 0) ∧ R w' := by
  have h1 := none_at b n (by omega) w hr.t8
  have h2 := there_in b 0 gb o1 n u1 k true hk hu hn w (by simpa using hr.t2) (by simpa using hr.t1) (by rw [hr.rg.cell (by omega), hG])
  have H1 := Lib.hid h1; have H2 := Lib.hid h2; have HG := Lib.hid hg; clear h1 h2 hr hg hG
  unfold Enters at eg
  go_enter Try.func59, Try.ntmps59
  go_wp2_with (first | (go_at_call 50; refine H1.out.mono ?_; rintro e w1 ⟨rfl, rfl⟩) | (go_at_call 53; refine H2.out.mono ?_; rintro e w1 ⟨rfl, rfl⟩))
  refine HG.out.mono ?_
  rintro e w1 ⟨rfl, hR⟩
  have HR := Lib.hid hR; clear hR
  go_wp2_with fail
  go_ret
  exact ⟨rfl, HR.out⟩

set_option maxRecDepth 100000 in
set_option maxHeartbeats 400000 in
theorem lookclo (p t k : Nat) (g1 g2 g3 : Nat) (v : Value) (hv : v.oneCell' = true) (hn : n ≤ 1048576) (hr : HRows w0 w b cb gb (2 * n) (topV cb gb n o1 u1 c1 o2 u2 c2) C G) (ho1 : o1 + n ≤ 2 * n) (hch : Chain C o1 n p t k)
    (h1 : Blk w g1 50 #[.pointer (some ⟨b, 0, none⟩)]) (h2 : Blk w g2 3 #[.int .i64 p]) (h3 : Blk w g3 3 #[v]) :
    Calls Try.prog 62 #[.pointer (some ⟨g1, 0, none⟩), .pointer (some ⟨g2, 0, none⟩), .pointer (some ⟨g3, 0, none⟩)] w fun e w' => e = .returned (.tuple #[]) ∧ w' = (w.setCell ⟨g3, 0, none⟩ (.int .i64 t)).drew := by
  have hl := look_any b 0 cb o1 n C p t k hn w.drew hr.t0 (fun i hi => hr.rc.cell (by omega)) hch
  have HL := Lib.hid hl
  have a1 := h1.cell 0; have a2 := h2.cell 0; have a3 := h3.cell 0; have af := h3.frozen
  simp at a1 a2 a3
  clear hl hr hch h1 h2 h3
  go_enter Try.func62, Try.ntmps62
  go_region_with (go_at_call 63; refine HL.out.mono ?_; rintro e w1 ⟨rfl, rfl⟩)
  all_goals go_wp2_with fail
  all_goals go_end0
  all_goals exact ⟨rfl, rfl⟩
end
end Go.Proofs.Ytfeghobfkgimfaa
