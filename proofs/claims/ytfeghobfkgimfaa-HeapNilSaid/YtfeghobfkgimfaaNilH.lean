/- The heap's functions at no heap, and at one that nobody made: ErrArg. -/
import Derived.Test.YtfeghobfkgimfaaKnows
namespace Go.Proofs.Ytfeghobfkgimfaa
open Go.RowKit Go.Shelf

/-- No heap. -/
def NoneH (p : Option Addr) (w : World) : Prop := ∀ W, Below w.heap.size w W → Calls Try.prog 50 #[.pointer p] W fun e w' => e = .returned (.bool true) ∧ W = w'

theorem NoneH.below {p : Option Addr} {w w' : World} (h : NoneH p w) (hb : Below w.heap.size w w') : NoneH p w' := fun W hW => h W (hb.trans (hW.mono hb.size))
theorem NoneH.here {p : Option Addr} {w : World} (h : NoneH p w) : Calls Try.prog 50 #[.pointer p] w fun e w' => e = .returned (.bool true) ∧ w = w' := h w (Below.refl _ _)

set_option maxHeartbeats 400000 in
theorem none_nil (w : World) : NoneH none w := by
  intro W _
  go_enter Try.func50, Try.ntmps50
  go_wp2
  go_ret
  exact ⟨rfl, rfl⟩
set_option maxHeartbeats 400000 in
theorem none_zero (b : Nat) (w : World) (hb : b < w.heap.size) (hc : w.cell? ⟨b, 8, none⟩ = some (.int .i64 0)) : NoneH (some ⟨b, 0, none⟩) w := by
  intro W hB
  have h8 := (hB.cell (p := ⟨b, 8, none⟩) hb).trans hc
  clear hB hc
  go_enter Try.func50, Try.ntmps50
  go_wp2
  go_ret
  exact ⟨rfl, rfl⟩

section
variable (p : Option Addr) (w : World)
set_option maxRecDepth 100000 in
set_option maxHeartbeats 400000 in
theorem used_none (h : NoneH p w) : Calls Try.prog 20 #[.pointer p] w fun e w' => e = .returned (.int .i64 0) ∧ w = w' := by
  have HN := Lib.hid h.here; clear h
  go_enter Try.func20, Try.ntmps20
  go_wp2_with (go_at_call 50; refine HN.out.mono ?_; rintro e w1 ⟨rfl, rfl⟩)
  go_ret
  exact ⟨rfl, rfl⟩
set_option maxRecDepth 100000 in
set_option maxHeartbeats 400000 in
theorem len_none (h : NoneH p w) : Calls Try.prog 19 #[.pointer p] w fun e w' => e = .returned (.int .i64 0) ∧ w = w' := by
  have HN := Lib.hid h.here; clear h
  go_enter Try.func19, Try.ntmps19
  go_wp2_with (go_at_call 50; refine HN.out.mono ?_; rintro e w1 ⟨rfl, rfl⟩)
  go_ret
  exact ⟨rfl, rfl⟩
set_option maxRecDepth 100000 in
set_option maxHeartbeats 400000 in
theorem size_none (h : NoneH p w) : Calls Try.prog 32 #[.pointer p] w fun e w' => e = .returned (.int .i64 0) ∧ w = w' := by
  have HN := Lib.hid h.here; clear h
  go_enter Try.func32, Try.ntmps32
  go_wp2_with (go_at_call 50; refine HN.out.mono ?_; rintro e w1 ⟨rfl, rfl⟩)
  go_ret
  exact ⟨rfl, rfl⟩
set_option maxRecDepth 100000 in
set_option maxHeartbeats 400000 in
theorem ask_none (k : Int) (g : Nat) (caps : Array Value) (h : NoneH p w) : Calls Try.prog 59 #[.pointer p, .int .i64 k, .func (.func g) #[] caps] w fun e w' => e = .returned (.int .i64 1) ∧ w = w' := by
  have HN := Lib.hid h.here; clear h
  go_enter Try.func59, Try.ntmps59
  go_wp2_with (go_at_call 50; refine HN.out.mono ?_; rintro e w1 ⟨rfl, rfl⟩)
  go_ret
  exact ⟨rfl, rfl⟩
set_option maxRecDepth 100000 in
set_option maxHeartbeats 400000 in
theorem blank_none (k : Int) (h : NoneH p w) : Calls Try.prog 31 #[.pointer p, .int .i64 k] w fun e w' => e = .returned (.int .i64 1) ∧ Below w.heap.size w w' := by
  have HA := Lib.hid (fun g caps => ask_none p _ k g caps (h.below (below2 (.cells #[.pointer p] 50) (.cells #[.int .i64 k] 3)))); clear h
  go_enter Try.func31, Try.ntmps31
  go_wp2_with (go_at_call 59; refine (HA.out _ _).mono ?_; rintro e w1 ⟨rfl, rfl⟩)
  go_ret
  exact ⟨rfl, below2 _ _⟩
set_option maxRecDepth 100000 in
set_option maxHeartbeats 400000 in
theorem stand_none (k q : Int) (h : NoneH p w) : Calls Try.prog 30 #[.pointer p, .int .i64 k, .int .i64 q] w fun e w' => e = .returned (.int .i64 1) ∧ Below w.heap.size w w' := by
  have HA := Lib.hid (fun g caps => ask_none p _ k g caps (h.below (below3 (.cells #[.pointer p] 50) (.cells #[.int .i64 k] 3) (.cells #[.int .i64 q] 3)))); clear h
  go_enter Try.func30, Try.ntmps30
  go_wp2_with (go_at_call 59; refine (HA.out _ _).mono ?_; rintro e w1 ⟨rfl, rfl⟩)
  go_ret
  exact ⟨rfl, below3 _ _ _⟩
set_option maxRecDepth 100000 in
set_option maxHeartbeats 400000 in
theorem look_none (k : Int) (h : NoneH p w) : Calls Try.prog 29 #[.pointer p, .int .i64 k] w fun e w' => e = .returned (.tuple #[.int .i64 0, .int .i64 1]) ∧ Below w.heap.size w w' := by
  have HA := Lib.hid (fun g caps => ask_none p _ k g caps (h.below (below3 (.cells #[.pointer p] 50) (.cells #[.int .i64 k] 3) (.cells #[.int .i64 0] 3)))); clear h
  go_enter Try.func29, Try.ntmps29
  go_wp2_with (go_at_call 59; refine (HA.out _ _).mono ?_; rintro e w1 ⟨rfl, rfl⟩)
  refine bodyPost_ret (v := .tuple #[.int .i64 0, .int .i64 1]) (by simp [results, Try.results29, go_sem]) rfl ⟨rfl, ?_⟩
  exact below3 _ _ _
set_option maxRecDepth 100000 in
set_option maxHeartbeats 400000 in
theorem get_none (k : Int) (h : NoneH p w) : Calls Try.prog 28 #[.pointer p, .int .i64 k] w fun e w' => e = .returned (.tuple #[.agg #[.int .i64 0, .int .i64 0, .slice none 0 0], .int .i64 1]) ∧ Below w.heap.size w w' := by
  have HA := Lib.hid (fun g caps => ask_none p _ k g caps (h.below (below3 (.cells #[.pointer p] 50) (.cells #[.int .i64 k] 3) (.cells #[.int .i64 0, .int .i64 0, .slice none 0 0] 54)))); clear h
  go_enter Try.func28, Try.ntmps28
  go_wp2_with (go_at_call 59; refine (HA.out _ _).mono ?_; rintro e w1 ⟨rfl, rfl⟩)
  refine bodyPost_ret (v := .tuple #[.agg #[.int .i64 0, .int .i64 0, .slice none 0 0], .int .i64 1]) (by simp [results, Try.results28, go_sem]) rfl ⟨rfl, ?_⟩
  exact below3 _ _ _
set_option maxRecDepth 100000 in
set_option maxHeartbeats 400000 in
theorem collect_none (A : Option Addr) (n c : Nat) (h : NoneH p w) : Calls Try.prog 25 #[.pointer p, .slice A n c] w fun e w' => e = .returned (.tuple #[.slice none 0 0, .int .i64 1]) ∧ Below w.heap.size w w' := by
  have HA := Lib.hid (h.below (below1 (.cells #[.pointer p] 50))).here; clear h
  go_enter Try.func25, Try.ntmps25
  go_wp2_with (go_at_call 50; refine HA.out.mono ?_; rintro e w1 ⟨rfl, rfl⟩)
  go_ret2
  exact ⟨rfl, below1 _⟩
set_option maxRecDepth 100000 in
set_option maxHeartbeats 400000 in
theorem put_none (k m : Int) (A : Option Addr) (n c : Nat) (hn : n ≤ 9223372036854775000) (h : NoneH p w) : Calls Try.prog 21 #[.pointer p, .agg #[.int .i64 k, .int .i64 m, .slice A n c]] w fun e w' => e = .returned (.tuple #[.int .i64 0, .int .i64 1]) ∧ Below w.heap.size w w' := by
  have HA := Lib.hid (h.below (below3 (.cells #[.pointer p] 50) (.cells #[.int .i64 k, .int .i64 m, .slice A n c] 54) (.cells #[.int .i64 k, .int .i64 m, .slice A n c] 54))).here; clear h
  go_enter Try.func21, Try.ntmps21
  go_wp2_with (first | (go_at_call 22; refine (cells_any _ _ _ _ _ (by omega) _).mono ?_; rintro e w1 ⟨rfl, rfl⟩) | (go_at_call 50; refine HA.out.mono ?_; rintro e w1 ⟨rfl, rfl⟩))
  go_ret2
  exact ⟨rfl, below3 _ _ _⟩
end
end Go.Proofs.Ytfeghobfkgimfaa
