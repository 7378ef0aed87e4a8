/- (*room).args: the cells of a node's args, as a slice of the room's own cells. -/
import Derived.Test.YtfeghobfkgimfaaHeapKit
namespace Go.Proofs.Ytfeghobfkgimfaa
open Go.RowKit

set_option maxRecDepth 100000 in
set_option maxHeartbeats 1000000 in
theorem args_plain (b ro cb off n p : Nat) (k : Int) (w : World) (_hn : n ≤ 1048576) (hp : p < n) (h2 : k ≠ 2) (h4 : k ≠ 4) (h5 : k ≠ 5)
    (c0 : w.cell? ⟨b, ro, none⟩ = some (.slice (some ⟨cb, off, none⟩) n n)) (e0 : w.cell? ⟨cb, off + p, none⟩ = some (.int .i64 k)) :
    Calls Try.prog 58 #[.pointer (some ⟨b, ro, none⟩), .int .i64 p] w fun e w' => e = .returned (.slice none 0 0) ∧ w = w' := by
  have b2 : (k == 2) = false := by simpa using h2
  have b4 : (k == 4) = false := by simpa using h4
  have b5 : (k == 5) = false := by simpa using h5
  clear h2 h4 h5
  go_enter Try.func58, Try.ntmps58
  go_wp2
  go_ret
  exact ⟨rfl, rfl⟩

set_option maxRecDepth 100000 in
set_option maxHeartbeats 1000000 in
theorem args_call (b ro cb off n p : Nat) (w : World) (_hn : n ≤ 1048576) (hp : p + 3 ≤ n)
    (c0 : w.cell? ⟨b, ro, none⟩ = some (.slice (some ⟨cb, off, none⟩) n n)) (e0 : w.cell? ⟨cb, off + p, none⟩ = some (.int .i64 2)) :
    Calls Try.prog 58 #[.pointer (some ⟨b, ro, none⟩), .int .i64 p] w fun e w' => e = .returned (.slice (some ⟨cb, off + p + 1, none⟩) 2 2) ∧ w = w' := by
  have h3 : (3 : Int) ≤ ((n - p : Nat) : Int) := by omega
  go_enter Try.func58, Try.ntmps58
  go_wp2
  go_ret
  exact ⟨rfl, rfl⟩

set_option maxRecDepth 100000 in
set_option maxHeartbeats 1000000 in
theorem args_con (b ro cb off n p L : Nat) (w : World) (_hn : n ≤ 1048576) (hp : p + (3 + L) ≤ n)
    (c0 : w.cell? ⟨b, ro, none⟩ = some (.slice (some ⟨cb, off, none⟩) n n)) (e0 : w.cell? ⟨cb, off + p, none⟩ = some (.int .i64 4)) (e2 : w.cell? ⟨cb, off + p + 2, none⟩ = some (.int .i64 L)) :
    Calls Try.prog 58 #[.pointer (some ⟨b, ro, none⟩), .int .i64 p] w fun e w' => (∃ o, e = .returned (.slice (some ⟨cb, o, none⟩) L L) ∧ (0 < L → o = off + p + 3)) ∧ ∃ q, w' = w.drewN q := by
  rcases Nat.eq_zero_or_pos L with rfl | hL
  · have h3 : (3 : Int) ≤ ((n - p : Nat) : Int) := by omega
    go_enter Try.func58, Try.ntmps58
    go_wp2_with fail
    go_quiet (fail)
    go_wp2
    all_goals go_ret
    all_goals exact ⟨⟨_, rfl, fun h => absurd h (by omega)⟩, _, rfl⟩
  · have h3 : (3 : Int) + (L : Int) ≤ ((n - p : Nat) : Int) := by omega
    have hn1 : ¬ 3 + L = 3 := by omega
    have hn2 : ¬ L = 0 := by omega
    have hn3 : 3 + L - 3 = L := by omega
    go_enter Try.func58, Try.ntmps58
    go_wp2_with fail
    go_quiet (fail)
    go_wp2
    all_goals go_ret
    all_goals
      refine ⟨⟨off + p + 3, ?_, fun _ => rfl⟩, _, rfl⟩
      show Ending.returned (Value.slice (some ⟨cb, off + p + 3, none⟩) (3 + L - 3) (3 + L - 3)) = _
      rw [hn3]
end Go.Proofs.Ytfeghobfkgimfaa
