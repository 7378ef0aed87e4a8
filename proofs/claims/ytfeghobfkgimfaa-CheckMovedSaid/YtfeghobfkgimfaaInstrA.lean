/- within, forms, form. Printed by genForms.py. -/
import Derived.Test.YtfeghobfkgimfaaArrB
import Derived.Test.YtfeghobfkgimfaaCkDefs
namespace Go.Proofs.Ytfeghobfkgimfaa
open Go.RowKit

def wthB (lo n hi : Int) : Bool := decide (lo ≤ n ∧ n ≤ hi)

set_option maxHeartbeats 400000 in
theorem within_any (lo n hi : Int) (w : World) : Calls Try.prog 111 #[.int .i64 lo, .int .i64 n, .int .i64 hi] w fun e w' => e = .returned (.bool (wthB lo n hi)) ∧ w = w' := by
  by_cases h1 : lo ≤ n
  · by_cases h2 : n ≤ hi
    · have hd : wthB lo n hi = true := by simp [wthB, h1, h2]
      rw [hd]; clear hd
      go_enter Try.func111, Try.ntmps111
      go_wp2
      go_ret
      exact ⟨rfl, rfl⟩
    · have hd : wthB lo n hi = false := by simp [wthB, h2]
      rw [hd]; clear hd
      have h3 : decide (n ≤ hi) = false := by simpa using h2
      clear h2
      go_enter Try.func111, Try.ntmps111
      go_wp2
      go_ret
      exact ⟨rfl, rfl⟩
  · have hd : wthB lo n hi = false := by simp [wthB, h1]
    rw [hd]; clear hd
    have h3 : n < lo := by omega
    clear h1
    go_enter Try.func111, Try.ntmps111
    go_wp2
    go_ret
    exact ⟨rfl, rfl⟩

theorem below_one (w : World) (o : Obj) : Below w.heap.size w (w.alloc o) := (Below.refl _ _).alloc (Nat.le_refl _) _

/-- All forms' cells. -/
def FORMS : Array Value := #[.string (ByteArray.mk #[105, 110, 116]), .int .i64 1, .int .i64 0, .int .i64 0, .int .i64 0, .int .i64 0, .int .i64 1, .int .i64 0, .string (ByteArray.mk #[103, 108, 111, 98, 97, 108, 38]), .int .i64 1, .int .i64 0, .int .i64 65536, .int .i64 0, .int .i64 0, .int .i64 1, .int .i64 0, .string (ByteArray.mk #[112, 117, 115, 104]), .int .i64 1, .int .i64 0, .int .i64 65536, .int .i64 1, .int .i64 1, .int .i64 1, .int .i64 0, .string (ByteArray.mk #[109, 107, 97, 112]), .int .i64 0, .int .i64 0, .int .i64 0, .int .i64 2, .int .i64 0, .int .i64 (-1), .int .i64 0, .string (ByteArray.mk #[117, 112, 100, 97, 116, 101]), .int .i64 1, .int .i64 0, .int .i64 65536, .int .i64 2, .int .i64 1, .int .i64 (-1), .int .i64 0, .string (ByteArray.mk #[112, 111, 112]), .int .i64 1, .int .i64 0, .int .i64 65536, .int .i64 0, .int .i64 1, .int .i64 0, .int .i64 (-1), .string (ByteArray.mk #[115, 108, 105, 100, 101]), .int .i64 1, .int .i64 0, .int .i64 65536, .int .i64 1, .int .i64 1, .int .i64 0, .int .i64 (-1), .string (ByteArray.mk #[97, 108, 108, 111, 99]), .int .i64 1, .int .i64 1, .int .i64 65536, .int .i64 0, .int .i64 0, .int .i64 0, .int .i64 1, .string (ByteArray.mk #[101, 118, 97, 108]), .int .i64 0, .int .i64 0, .int .i64 0, .int .i64 1, .int .i64 0, .int .i64 0, .int .i64 0, .string (ByteArray.mk #[117, 110, 119, 105, 110, 100]), .int .i64 0, .int .i64 0, .int .i64 0, .int .i64 1, .int .i64 0, .int .i64 0, .int .i64 0, .string (ByteArray.mk #[112, 97, 99, 107]), .int .i64 2, .int .i64 0, .int .i64 255, .int .i64 0, .int .i64 0, .int .i64 1, .int .i64 0, .string (ByteArray.mk #[99, 97, 115, 101]), .int .i64 (-1), .int .i64 0, .int .i64 0, .int .i64 1, .int .i64 0, .int .i64 0, .int .i64 0, .string (ByteArray.mk #[115, 112, 108, 105, 116]), .int .i64 1, .int .i64 0, .int .i64 65536, .int .i64 1, .int .i64 0, .int .i64 (-1), .int .i64 1, .string (ByteArray.mk #[115, 119, 105, 116, 99, 104]), .int .i64 (-1), .int .i64 0, .int .i64 0, .int .i64 1, .int .i64 0, .int .i64 0, .int .i64 0, .string (ByteArray.mk #[112, 114, 105, 109]), .int .i64 1, .int .i64 0, .int .i64 10, .int .i64 2, .int .i64 0, .int .i64 (-1), .int .i64 0, .string (ByteArray.mk #[102, 97, 105, 108]), .int .i64 0, .int .i64 0, .int .i64 0, .int .i64 0, .int .i64 0, .int .i64 0, .int .i64 0, .string (ByteArray.mk #[106, 117, 109, 112]), .int .i64 1, .int .i64 0, .int .i64 65536, .int .i64 0, .int .i64 0, .int .i64 0, .int .i64 0]

set_option maxRecDepth 1000000 in
set_option maxHeartbeats 8000000 in
theorem forms_any (w : World) : Calls Try.prog 112 #[] w fun e w' => e = .returned (.agg FORMS) ∧ Below w.heap.size w w' := by
  go_enter Try.func112, Try.ntmps112
  go_wp2_with (with_reducible refine wpList_store_mid rfl 192 (.tmp 0) (.tmp 27) rfl w.heap.size 0 FORMS rfl rfl ?c1 ?c2 ?c3 ?_)
  case c1 => exact (Blk.new w 192 _).there _ (Nat.le_of_eq rfl)
  case c2 => kernel_rfl
  case c3 => simp [FORMS, Value.oneCell']
  refine bodyPost_ret (v := .agg FORMS) (results_cell_row (p := 0) (ty := 192) rfl _ _ w.heap.size 192 FORMS (0, 0) _ rfl (blk_setCells (Blk.new w 192 _) FORMS ?h1) Try.underlying192 rfl (by kernel_rfl)) rfl ⟨rfl, below_setCells FORMS.toList 0 (below_one w _) (Nat.le_refl _)⟩
  case h1 => rfl
end Go.Proofs.Ytfeghobfkgimfaa
