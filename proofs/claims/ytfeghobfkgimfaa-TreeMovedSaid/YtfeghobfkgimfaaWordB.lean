/- Keys, signs, what stands within a word, what a literal may be. -/
import Derived.Test.YtfeghobfkgimfaaWordA
namespace Go.Proofs.Ytfeghobfkgimfaa
set_option linter.unusedSimpArgs false
set_option linter.unusedVariables false
open Go.RowKit Go.Shelf

def keyB (s : ByteArray) : Bool := s.toList == [99, 97, 115, 101] || s.toList == [100, 97, 116, 97] || s.toList == [101, 108, 115, 101] || s.toList == [105, 102] || s.toList == [105, 110] || s.toList == [108, 101, 116] || s.toList == [111, 102] || s.toList == [116, 104, 101, 110]
set_option maxRecDepth 100000 in
set_option maxHeartbeats 4000000 in
theorem key_any (s : ByteArray) (w : World) : Calls Try.prog 148 #[.string s] w (RightV (keyB s) w) := by
  go_enter Try.func148, Try.ntmps148
  go_wp2_with fail
  all_goals (go_ret; refine ⟨ret_b ?_, Below.refl _ _⟩; first | (exfalso; simp_all only [Bool.true_eq_false, Bool.false_eq_true]; done) | simp only [keyB, *, Bool.or_true, Bool.true_or, Bool.or_false, Bool.false_or, Bool.and_true, Bool.and_false, Bool.true_and, Bool.false_and, if_true, if_false, Bool.false_eq_true, decide_true, decide_false, Bool.not_true, Bool.not_false])

def signB (s : ByteArray) : Bool := s.toList == [43] || s.toList == [45] || s.toList == [42] || s.toList == [47] || s.toList == [37] || s.toList == [61, 61] || s.toList == [47, 61] || s.toList == [60] || s.toList == [60, 61] || s.toList == [62] || s.toList == [62, 61] || s.toList == [38, 38] || s.toList == [124, 124] || s.toList == [58] || s.toList == [43, 43] || s.toList == [61] || s.toList == [124] || s.toList == [45, 62] || s.toList == [92] || s.toList == [58, 58] || s.toList == [46]
set_option maxRecDepth 100000 in
set_option maxHeartbeats 4000000 in
theorem sign_any (s : ByteArray) (w : World) : Calls Try.prog 130 #[.string s] w (RightV (signB s) w) := by
  go_enter Try.func130, Try.ntmps130
  go_wp2_with fail
  all_goals (go_ret; refine ⟨ret_b ?_, Below.refl _ _⟩; first | (exfalso; simp_all only [Bool.true_eq_false, Bool.false_eq_true]; done) | simp only [signB, *, Bool.or_true, Bool.true_or, Bool.or_false, Bool.false_or, Bool.and_true, Bool.and_false, Bool.true_and, Bool.false_and, if_true, if_false, Bool.false_eq_true, decide_true, decide_false, Bool.not_true, Bool.not_false])

def opB (s : ByteArray) : Bool := !(s.toList == [61] || s.toList == [124] || s.toList == [45, 62] || s.toList == [92] || s.toList == [58, 58] || s.toList == [58] || s.toList == [46]) && signB s
set_option maxRecDepth 100000 in
set_option maxHeartbeats 4000000 in
theorem op_any (s : ByteArray) (w : World) : Calls Try.prog 107 #[.string s] w (RightV (opB s) w) := by
  have hs := sign_any s w
  have HSG := Lib.hid hs
  clear hs
  go_enter Try.func107, Try.ntmps107
  go_wp2_with fail
  all_goals first
    | (go_ret; refine ⟨ret_b ?_, Below.refl _ _⟩; first | (exfalso; simp_all only [Bool.true_eq_false, Bool.false_eq_true]; done) | simp only [opB, *, Bool.or_true, Bool.true_or, Bool.or_false, Bool.false_or, Bool.and_true, Bool.and_false, Bool.true_and, Bool.false_and, if_true, if_false, Bool.false_eq_true, decide_true, decide_false, Bool.not_true, Bool.not_false])
    | (refine HSG.out.mono ?_; rintro e w1 ⟨rfl, hb⟩; go_wp2_with fail; go_ret; refine ⟨ret_b ?_, hb⟩; first | (exfalso; simp_all only [Bool.true_eq_false, Bool.false_eq_true]; done) | simp only [opB, *, Bool.or_true, Bool.true_or, Bool.or_false, Bool.false_or, Bool.and_true, Bool.and_false, Bool.true_and, Bool.false_and, if_true, if_false, Bool.false_eq_true, decide_true, decide_false, Bool.not_true, Bool.not_false])

def innB (c : Int) : Bool := cls c == 3 || cls c == 4 || cls c == 2 || c == 39
set_option maxRecDepth 100000 in
set_option maxHeartbeats 4000000 in
theorem innb_any (c : Int) (w : World) : Calls Try.prog 147 #[.int .u8 c] w (RightV (innB c) w) := by
  have HC := Lib.hid (cls_any c w)
  obtain ⟨k, hk⟩ : ∃ k, k = cls c := ⟨_, rfl⟩
  have e : innB c = (k == 3 || k == 4 || k == 2 || c == 39) := by rw [hk]; rfl
  rw [e]
  rw [← hk] at HC
  clear hk e
  go_enter Try.func147, Try.ntmps147
  go_wp2_with fail
  refine HC.out.mono ?_; rintro e w1 ⟨rfl, hb⟩
  go_wp2_with fail
  all_goals (go_ret; refine ⟨ret_b ?_, hb⟩; simp only [*, Bool.or_true, Bool.true_or, Bool.or_false, Bool.false_or, Bool.and_true, Bool.and_false, Bool.true_and, Bool.false_and, if_true, if_false, Bool.false_eq_true, decide_true, decide_false, Bool.not_true, Bool.not_false])

def litB (k : Int) (s : ByteArray) (n : Int) : Bool := if k == 3 then s.toList == [] && decide (0 ≤ n) else if k == 4 then s.toList == [] && decide (0 ≤ n) && decide (n ≤ 255) else n == 0 && decide ((s.size : Int) ≤ 256)
set_option maxRecDepth 100000 in
set_option maxHeartbeats 4000000 in
theorem lit_any (k : Int) (s : ByteArray) (n : Int) (w : World) : Calls Try.prog 109 #[.int .i64 k, .string s, .int .i64 n] w (RightV (litB k s n) w) := by
  go_enter Try.func109, Try.ntmps109
  go_wp2_with fail
  all_goals (go_ret; refine ⟨ret_b ?_, Below.refl _ _⟩; first | (exfalso; simp_all only [Bool.true_eq_false, Bool.false_eq_true]; done) | simp only [litB, *, Bool.or_true, Bool.true_or, Bool.or_false, Bool.false_or, Bool.and_true, Bool.and_false, Bool.true_and, Bool.false_and, if_true, if_false, Bool.false_eq_true, decide_true, decide_false, Bool.not_true, Bool.not_false])
  all_goals first | (simp [*]; done) | (simp [*]; omega) | (simp [*]; intros; omega)
end Go.Proofs.Ytfeghobfkgimfaa
