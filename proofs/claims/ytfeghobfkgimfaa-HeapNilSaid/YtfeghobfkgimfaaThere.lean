/- (*room).there: does a node begin at a place? -/
import Derived.Test.YtfeghobfkgimfaaKit
namespace Go.Proofs.Ytfeghobfkgimfaa
open Go.RowKit

set_option maxHeartbeats 400000 in
theorem there_neg (x : Int) (hx : x < 0) (p : Option Addr) (w : World) :
    Calls Try.prog 53 #[.pointer p, .int .i64 x] w fun e w' => e = .returned (.bool false) ∧ w = w' := by
  have h1 : decide (0 ≤ x) = false := decide_eq_false (by omega)
  go_enter Try.func53, Try.ntmps53
  go_wp2
  go_ret
  exact ⟨rfl, rfl⟩

set_option maxHeartbeats 400000 in
theorem there_out (b ro u : Nat) (x : Int) (h0 : 0 ≤ x) (hx : (u : Int) ≤ x) (w : World) (h2 : w.cell? ⟨b, ro + 2, none⟩ = some (.int .i64 u)) :
    Calls Try.prog 53 #[.pointer (some ⟨b, ro, none⟩), .int .i64 x] w fun e w' => e = .returned (.bool false) ∧ w = w' := by
  have h1 : decide (0 ≤ x) = true := decide_eq_true (by omega)
  have h3 : decide (x < (u : Int)) = false := decide_eq_false (by omega)
  go_enter Try.func53, Try.ntmps53
  go_wp2
  go_ret
  exact ⟨rfl, rfl⟩

set_option maxHeartbeats 400000 in
theorem there_in (b ro gb off n u k : Nat) (g : Bool) (hk : k < u) (hu : u ≤ n) (hn : n ≤ 1048576) (w : World)
    (h2 : w.cell? ⟨b, ro + 2, none⟩ = some (.int .i64 u)) (h1 : w.cell? ⟨b, ro + 1, none⟩ = some (.slice (some ⟨gb, off, none⟩) n n))
    (hg : w.cell? ⟨gb, off + k, none⟩ = some (.bool g)) :
    Calls Try.prog 53 #[.pointer (some ⟨b, ro, none⟩), .int .i64 k] w fun e w' => e = .returned (.bool g) ∧ w = w' := by
  have h3 : decide (0 ≤ (k : Int)) = true := decide_eq_true (by omega)
  have h4 : decide ((k : Int) < (u : Int)) = true := decide_eq_true (by omega)
  go_enter Try.func53, Try.ntmps53
  go_wp2
  go_ret
  exact ⟨rfl, rfl⟩
end Go.Proofs.Ytfeghobfkgimfaa
