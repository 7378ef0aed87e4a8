/- entries and behind: the two makers of iterators. -/
import Derived.Test.YtfeghobfkgimfaaTakeW
namespace Go.Proofs.Ytfeghobfkgimfaa
open Go.RowKit

set_option maxRecDepth 100000 in
theorem entries_any (G I : Option Addr) (gl gc ni ic : Nat) (w : World) : Calls Try.prog 44 #[.agg #[.slice G gl gc, .slice I ni ic]] w fun e W =>
    e = .returned (.func (.func 80) #[] #[.pointer (some ⟨w.heap.size, 0, none⟩)]) ∧ w.alloc (.cells #[.slice G gl gc, .slice I ni ic] 29) = W := by
  go_enter Try.func44, Try.ntmps44
  go_wp2_with fail
  go_ret
  exact ⟨rfl, rfl⟩

set_option maxRecDepth 100000 in
theorem behind_any (op a b : Int) (A : Option Addr) (X c : Nat) (at_ d : Int) (w : World) : Calls Try.prog 46 #[.agg #[.int .i64 op, .int .i64 a, .int .i64 b, .slice A X c], .int .i64 at_, .int .i64 d] w fun e W =>
    e = .returned (.func (.func 83) #[] #[.pointer (some ⟨w.heap.size, 0, none⟩), .pointer (some ⟨w.heap.size + 1 + 1, 0, none⟩), .pointer (some ⟨w.heap.size + 1, 0, none⟩)]) ∧
    ((w.alloc (.cells #[.int .i64 op, .int .i64 a, .int .i64 b, .slice A X c] 32)).alloc (.cells #[.int .i64 at_] 3)).alloc (.cells #[.int .i64 d] 3) = W := by
  go_enter Try.func46, Try.ntmps46
  go_wp2_with fail
  go_ret
  exact ⟨rfl, rfl⟩

theorem enters80 : Enters Try.prog 80 := by
  obtain ⟨c, hc⟩ := Option.isSome_iff_exists.1 (show Try.f80.body.isSome = true by kernel_rfl)
  exact enters_of Try.func80 (by kernel_rfl) hc
theorem enters83 : Enters Try.prog 83 := by
  obtain ⟨c, hc⟩ := Option.isSome_iff_exists.1 (show Try.f83.body.isSome = true by kernel_rfl)
  exact enters_of Try.func83 (by kernel_rfl) hc
end Go.Proofs.Ytfeghobfkgimfaa
