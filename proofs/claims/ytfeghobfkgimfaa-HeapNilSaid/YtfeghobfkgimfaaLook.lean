/- (*room).look: through Fors to what stands behind them. -/
import Derived.Test.YtfeghobfkgimfaaHeapKit
namespace Go.Proofs.Ytfeghobfkgimfaa
open Go.RowKit

/-- From a place through Fors to another: k of them. -/
inductive Chain (C : Nat → Int) (off n : Nat) : Nat → Nat → Nat → Prop
  | stop (p : Nat) : p < n → C (off + p) ≠ 5 → Chain C off n p p 0
  | on (p q t k : Nat) : p + 1 < n → C (off + p) = 5 → C (off + (p + 1)) = (q : Int) → Chain C off n q t k → Chain C off n p t (k + 1)

theorem Chain.lt {C : Nat → Int} {off n p t k : Nat} (h : Chain C off n p t k) : p < n := by
  cases h <;> omega

set_option maxHeartbeats 400000 in
theorem look_any (b ro cb off n : Nat) (C : Nat → Int) (p t k : Nat) (hn : n ≤ 1048576) (w : World)
    (s0 : w.cell? ⟨b, ro, none⟩ = some (.slice (some ⟨cb, off, none⟩) n n))
    (hc : ∀ i, i < n → w.cell? ⟨cb, off + i, none⟩ = some (.int .i64 (C (off + i)))) (hch : Chain C off n p t k) :
    Calls Try.prog 63 #[.pointer (some ⟨b, ro, none⟩), .int .i64 p] w fun e w' => e = .returned (.int .i64 t) ∧ w = w' := by
  have HC := Lib.hid hc; clear hc
  go_enter Try.func63, Try.ntmps63
  go_wp2
  go_loopg [1] k (fun k x wr => wr = w ∧ ∃ q : Nat, x = .int .i64 q ∧ Chain C off n q t k)
  case atStart => exact ⟨rfl, p, rfl, hch⟩
  case round =>
    obtain ⟨rfl, q, rfl, hq⟩ := hrel
    have hlt := hq.lt
    cases hq with
    | stop _ h1 h2 =>
      have c0 := HC.out t h1
      have hb : (C (off + t) == 5) = false := by simpa using h2
      go_wp2
      go_ret
      exact ⟨rfl, rfl⟩
    | on _ q' _ k' h1 h2 h3 h4 =>
      have c0 := HC.out q hlt
      have c1 := HC.out (q + 1) h1
      rw [h2] at c0
      rw [h3] at c1
      have H4 := Lib.hid h4; clear h4
      clear h2 h3
      go_wp2
      go_roundg k'
      case measure => omega
      case rel => exact ⟨rfl, q', rfl, H4.out⟩
end Go.Proofs.Ytfeghobfkgimfaa
