/- The classes of bytes, words. -/
import Derived.Test.YtfeghobfkgimfaaTreeM
namespace Go.Proofs.Ytfeghobfkgimfaa
set_option linter.unusedSimpArgs false
set_option linter.unusedVariables false
open Go.RowKit Go.Shelf

def cls (c : Int) : Int :=
  if c == 32 || c == 9 || c == 10 || c == 13 then 1 else if c == 95 then 3
  else if c == 43 || c == 45 || c == 42 || c == 47 || c == 37 || c == 61 || c == 60 || c == 62 || c == 124 || c == 38 || c == 58 || c == 46 || c == 92 || c == 33 then 5
  else if c == 40 || c == 41 || c == 91 || c == 93 || c == 123 || c == 125 || c == 44 || c == 59 then 6
  else if c == 39 || c == 34 then 7 else if decide (48 ≤ c) && decide (c ≤ 57) then 2 else if decide (97 ≤ c) && decide (c ≤ 122) then 3 else if decide (65 ≤ c) && decide (c ≤ 90) then 4 else 0
set_option maxRecDepth 100000 in
set_option maxHeartbeats 4000000 in
theorem cls_any (c : Int) (w : World) : Calls Try.prog 145 #[.int .u8 c] w (NumV (cls c) w) := by
  go_enter Try.func145, Try.ntmps145
  go_wp2_with fail
  all_goals (go_ret; refine ⟨ret_i ?_, Below.refl _ _⟩; simp only [cls, *, Bool.or_true, Bool.true_or, Bool.or_false, Bool.false_or, Bool.and_true, Bool.and_false, Bool.true_and, Bool.false_and, if_true, if_false, Bool.false_eq_true, decide_true, decide_false])
  all_goals (repeat (rw [if_neg (by simp; omega)]))
end Go.Proofs.Ytfeghobfkgimfaa
