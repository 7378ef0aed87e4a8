/- heap.Cells: how many cells a node takes, for every node; it lays one block of its own and draws nothing. -/
import Derived.Test.YtfeghobfkgimfaaKit
namespace Go.Proofs.Ytfeghobfkgimfaa
open Go.RowKit

def cellsF (k m : Int) (a : Nat) : Nat :=
  if k = 1 then (if a = 0 then 2 else 0)
  else if k = 3 then (if a = 0 ∧ 0 ≤ m then 2 else 0)
  else if k = 6 then (if a = 0 ∧ m = 0 then 2 else 0)
  else if k = 2 then (if a = 2 ∧ m = 0 then 3 else 0)
  else if k = 4 then (if a ≤ 255 ∧ 0 ≤ m ∧ m ≤ 255 then 3 + a else 0)
  else 0

theorem cellsF_con (m : Int) (a : Nat) : cellsF 4 m a = if a ≤ 255 ∧ 0 ≤ m ∧ m ≤ 255 then 3 + a else 0 := by simp [cellsF]

theorem ret_nat {a : Int} {b : Nat} (h : a = (b : Int)) : Ending.returned (.int .i64 a) = Ending.returned (.int .i64 (b : Int)) := by rw [h]

set_option maxRecDepth 100000 in
set_option maxHeartbeats 1000000 in
theorem cells_any (k m : Int) (A : Option Addr) (a c : Nat) (ha : a ≤ 9223372036854775000) (w : World) :
    Calls Try.prog 22 #[.agg #[.int .i64 k, .int .i64 m, .slice A a c]] w fun e w' => e = .returned (.int .i64 (cellsF k m a : Nat)) ∧ w.alloc (.cells #[.int .i64 k, .int .i64 m, .slice A a c] 54) = w' := by
  by_cases h1 : k = 1
  · subst h1
    rcases Nat.eq_zero_or_pos a with rfl | h
    · go_enter Try.func22, Try.ntmps22
      go_wp2
      go_ret
      exact ⟨ret_nat (by simp [cellsF]), rfl⟩
    · have hb : ((a : Int) == 0) = false := by simp; omega
      have hf : cellsF 1 m a = 0 := by simp [cellsF]; omega
      have HF := Lib.hid hf; clear hf
      go_enter Try.func22, Try.ntmps22
      go_wp2
      go_ret
      exact ⟨ret_nat (by rw [HF.out]; rfl), rfl⟩
  · by_cases h3 : k = 3
    · subst h3
      clear h1
      rcases Nat.eq_zero_or_pos a with rfl | h
      · by_cases hm : 0 ≤ m
        · have hd : decide (0 ≤ m) = true := decide_eq_true hm
          have hf : cellsF 3 m 0 = 2 := by simp [cellsF]; omega
          have HF := Lib.hid hf; clear hf
          go_enter Try.func22, Try.ntmps22
          go_wp2
          go_ret
          exact ⟨ret_nat (by rw [HF.out]; rfl), rfl⟩
        · have hd : decide (0 ≤ m) = false := decide_eq_false hm
          have hb : (m == 0) = false := by simp; omega
          have hf : cellsF 3 m 0 = 0 := by simp [cellsF]; omega
          have HF := Lib.hid hf; clear hf
          clear hm
          go_enter Try.func22, Try.ntmps22
          go_wp2
          go_ret
          exact ⟨ret_nat (by rw [HF.out]; rfl), rfl⟩
      · have hb : ((a : Int) == 0) = false := by simp; omega
        have hf : cellsF 3 m a = 0 := by simp [cellsF]; omega
        have HF := Lib.hid hf; clear hf
        go_enter Try.func22, Try.ntmps22
        go_wp2
        go_ret
        exact ⟨ret_nat (by rw [HF.out]; rfl), rfl⟩
    · by_cases h6 : k = 6
      · subst h6
        clear h1 h3
        rcases Nat.eq_zero_or_pos a with rfl | h
        · by_cases hm : m = 0
          · subst hm
            go_enter Try.func22, Try.ntmps22
            go_wp2
            go_ret
            exact ⟨ret_nat (by simp [cellsF]), rfl⟩
          · have hb : (m == 0) = false := by simpa using hm
            have hf : cellsF 6 m 0 = 0 := by simp [cellsF, hm]
            have HF := Lib.hid hf; clear hf
            clear hm
            go_enter Try.func22, Try.ntmps22
            go_wp2
            go_ret
            exact ⟨ret_nat (by rw [HF.out]; rfl), rfl⟩
        · have hb : ((a : Int) == 0) = false := by simp; omega
          have hf : cellsF 6 m a = 0 := by simp [cellsF]; omega
          have HF := Lib.hid hf; clear hf
          go_enter Try.func22, Try.ntmps22
          go_wp2
          go_ret
          exact ⟨ret_nat (by rw [HF.out]; rfl), rfl⟩
      · have b1 : (k == 1) = false := by simpa using h1
        have b3 : (k == 3) = false := by simpa using h3
        have b6 : (k == 6) = false := by simpa using h6
        by_cases h2 : k = 2
        · subst h2
          clear h1 h3 h6 b1 b3 b6
          by_cases h : a = 2
          · subst h
            by_cases hm : m = 0
            · subst hm
              go_enter Try.func22, Try.ntmps22
              go_wp2
              go_ret
              exact ⟨ret_nat (by simp [cellsF]), rfl⟩
            · have hb : (m == 0) = false := by simpa using hm
              have hf : cellsF 2 m 2 = 0 := by simp [cellsF, hm]
              have HF := Lib.hid hf; clear hf
              clear hm
              go_enter Try.func22, Try.ntmps22
              go_wp2
              go_ret
              exact ⟨ret_nat (by rw [HF.out]; rfl), rfl⟩
          · have hb : ((a : Int) == 2) = false := by simp; omega
            have hf : cellsF 2 m a = 0 := by simp [cellsF, h]
            have HF := Lib.hid hf; clear hf
            clear h
            go_enter Try.func22, Try.ntmps22
            go_wp2
            go_ret
            exact ⟨ret_nat (by rw [HF.out]; rfl), rfl⟩
        · have b2 : (k == 2) = false := by simpa using h2
          by_cases h4 : k = 4
          · subst h4
            clear h1 h3 h6 b1 b3 b6 h2 b2
            by_cases hq : (a : Int) ≤ 255
            · have hd : decide ((a : Int) ≤ 255) = true := decide_eq_true hq
              by_cases hm : 0 ≤ m
              · have hd2 : decide (0 ≤ m) = true := decide_eq_true hm
                by_cases hm2 : m ≤ 255
                · have hd3 : decide (m ≤ 255) = true := decide_eq_true hm2
                  have hf : cellsF 4 m a = 3 + a := by rw [cellsF_con, if_pos (by omega)]
                  have HF := Lib.hid hf; clear hf
                  go_enter Try.func22, Try.ntmps22
                  go_wp2
                  go_ret
                  exact ⟨ret_nat (by rw [HF.out]; omega), rfl⟩
                · have hd3 : decide (m ≤ 255) = false := decide_eq_false hm2
                  have hf : cellsF 4 m a = 0 := by rw [cellsF_con, if_neg (by omega)]
                  have HF := Lib.hid hf; clear hf
                  clear hm2
                  go_enter Try.func22, Try.ntmps22
                  go_wp2
                  go_ret
                  exact ⟨ret_nat (by rw [HF.out]; rfl), rfl⟩
              · have hd2 : decide (0 ≤ m) = false := decide_eq_false hm
                have hf : cellsF 4 m a = 0 := by rw [cellsF_con, if_neg (by omega)]
                have HF := Lib.hid hf; clear hf
                clear hm
                go_enter Try.func22, Try.ntmps22
                go_wp2
                go_ret
                exact ⟨ret_nat (by rw [HF.out]; rfl), rfl⟩
            · have hd : decide ((a : Int) ≤ 255) = false := decide_eq_false hq
              have hf : cellsF 4 m a = 0 := by rw [cellsF_con, if_neg (by omega)]
              have HF := Lib.hid hf; clear hf
              clear hq
              go_enter Try.func22, Try.ntmps22
              go_wp2
              go_ret
              exact ⟨ret_nat (by rw [HF.out]; rfl), rfl⟩
          · have b4 : (k == 4) = false := by simpa using h4
            have hf : cellsF k m a = 0 := by simp [cellsF, h1, h2, h3, h4, h6]
            have HF := Lib.hid hf; clear hf
            clear h1 h2 h3 h4 h6
            go_enter Try.func22, Try.ntmps22
            go_wp2
            go_ret
            exact ⟨ret_nat (by rw [HF.out]; rfl), rfl⟩
end Go.Proofs.Ytfeghobfkgimfaa
