/- Words: what may be bound, a constructor's text. -/
import Derived.Test.YtfeghobfkgimfaaWordB
import Derived.Test.YtfeghobfkgimfaaEverA
namespace Go.Proofs.Ytfeghobfkgimfaa
set_option linter.unusedSimpArgs false
set_option linter.unusedVariables false
open Go.RowKit Go.Shelf

def byteAt (s : ByteArray) (j : Nat) : Int := if h : j < s.size then (s[j].toNat : Int) else 0
theorem byteAt_of {s : ByteArray} {j : Nat} (h : j < s.size) : byteAt s j = (s[j].toNat : Int) := dif_pos h
def RunV (s : ByteArray) (w : World) (e : Ending) (w' : World) : Prop := ∃ z : Nat, e = .returned (.int .i64 z) ∧ z ≤ s.size ∧ decide (z = s.size) = allB s.size (fun i => innB (byteAt s i)) ∧ Below w.heap.size w w'
set_option maxRecDepth 100000 in
set_option maxHeartbeats 4000000 in
theorem run_any (s : ByteArray) (w : World) (hs : s.size ≤ maxLen) : Calls Try.prog 146 #[.string s, .int .i64 0, .func (.func 147) #[] #[]] w (RunV s w) := by
  unfold maxLen at hs
  go_enter Try.func146, Try.ntmps146
  go_wp2_with fail
  go_loopg [7] s.size (fun gk i wr => ∃ j : Nat, j ≤ s.size ∧ gk = s.size - j ∧ i = .int .i64 j ∧ Hid (Below w.heap.size w wr) ∧ Hid (∀ i, i < j → innB (byteAt s i) = true))
  case atStart => exact ⟨0, Nat.zero_le _, rfl, rfl, Lib.hid (Below.refl _ _), Lib.hid (fun i hi => absurd hi (by omega))⟩
  case round =>
    obtain ⟨j, hj, rfl, rfl, HBR, HALL⟩ := hrel
    have w1 : IntKind.i64.wrap (0 + (j : Int)) = j := by rw [Int.zero_add]; exact IntWalk.i64_in _ (by omega)
    by_cases hlt : j < s.size
    · have hj1 : (j : Int) < (s.size : Int) := by omega
      have hj0 : (0 : Int) ≤ (j : Int) := by omega
      go_wp2_with fail
      refine (innb_any _ _).mono ?_
      rintro e w2 ⟨rfl, hb2⟩
      have HB2 := Lib.hid (bl_tr HBR.out hb2)
      have HE := Lib.hid (byteAt_of hlt)
      clear hb2
      cases hq : innB (s[j].toNat : Int) with
      | true =>
        go_wp2_with fail
        go_roundg (s.size - (j + 1))
        case measure => omega
        case rel =>
          refine ⟨j + 1, by omega, rfl, by go_num, HB2, Lib.hid (fun k hk => ?_)⟩
          by_cases h : k = j
          · subst h; rw [HE.out]; exact hq
          · exact HALL.out k (by omega)
      | false =>
        go_wp2_with fail
        go_ret
        refine ⟨j, rfl, by omega, ?_, HB2.out⟩
        rw [allB_false hlt (by rw [HE.out]; exact hq)]
        simp; omega
    · obtain rfl : j = s.size := by omega
      go_wp2_with fail
      go_ret
      refine ⟨s.size, rfl, Nat.le_refl _, ?_, HBR.out⟩
      rw [allB_all HALL.out]
      simp

theorem toList_nil {s : ByteArray} : s.toList = [] ↔ s.size = 0 := by
  rw [ByteArray.toList_eq, ← List.length_eq_zero_iff, Array.length_toList]
  rfl
def wordTB (s : ByteArray) : Bool := !(s.toList == []) && decide ((s.size : Int) ≤ 32) && cls (byteAt s 0) == 3 && allB s.size (fun i => innB (byteAt s i)) && !keyB s
set_option maxRecDepth 100000 in
set_option maxHeartbeats 4000000 in
theorem wordT_any (s : ByteArray) (w : World) (hs : s.size ≤ maxLen) : Calls Try.prog 129 #[.string s] w (RightV (wordTB s) w) := by
  have hz := @toList_nil s
  by_cases h0 : s.size = 0
  · have h1 := hz.2 h0
    have hd : wordTB s = false := by simp [wordTB, h1]
    rw [hd]; clear hd hz
    go_enter Try.func129, Try.ntmps129
    go_wp2_with fail
    go_ret
    exact ⟨rfl, Below.refl _ _⟩
  · have h1 : ¬ s.toList = [] := fun h => h0 (hz.1 h)
    have h1b : (s.toList == []) = false := by simp [h1]
    have h1c : (s.toList != []) = true := by simp [h1]
    have hpos : 0 < s.size := by omega
    have hposi : (0 : Int) < (s.size : Int) := by omega
    clear hz
    by_cases h2 : (s.size : Int) ≤ 32
    · have HR := Lib.hid (fun W => run_any s W hs)
      have HC := Lib.hid (fun W => cls_any (s[0].toNat : Int) W)
      have hd : wordTB s = (cls (s[0].toNat : Int) == 3 && allB s.size (fun i => innB (byteAt s i)) && !keyB s) := by simp [wordTB, h1b, h2, byteAt_of hpos]
      rw [hd]; clear hd
      obtain ⟨k, hk⟩ : ∃ k, k = cls (s[0].toNat : Int) := ⟨_, rfl⟩
      rw [← hk] at HC ⊢
      clear hk
      cases h3 : k == 3 with
      | false =>
        have h3p : ¬ k = 3 := by simpa using h3
        go_enter Try.func129, Try.ntmps129
        go_wp2_with fail
        refine (HC.out _).mono ?_
        rintro e w2 ⟨rfl, hb2⟩
        go_wp2_with fail
        go_ret
        exact ⟨ret_b (by simp), hb2⟩
      | true =>
        have h3p : k = 3 := by simpa using h3
        subst h3p
        clear h3
        go_enter Try.func129, Try.ntmps129
        go_wp2_with fail
        refine (HC.out _).mono ?_
        rintro e w2 ⟨rfl, hb2⟩
        go_wp2_with fail
        refine (HR.out _).mono ?_
        rintro e w3 ⟨z, rfl, hz1, hz2, hb3⟩
        have HB3 := Lib.hid (bl_tr hb2 hb3)
        have HZ := Lib.hid hz2
        clear hb2 hb3 hz2
        by_cases h4 : z = s.size
        · subst h4
          have ha : allB s.size (fun i => innB (byteAt s i)) = true := by rw [← HZ.out]; simp
          go_wp2_with fail
          refine (key_any s _).mono ?_
          rintro e w4 ⟨rfl, hb4⟩
          have HB4 := Lib.hid (bl_tr HB3.out hb4)
          clear hb4
          go_wp2_with fail
          all_goals (go_ret; exact ⟨ret_b (by simp [ha, *]), HB4.out⟩)
        · have ha : allB s.size (fun i => innB (byteAt s i)) = false := by rw [← HZ.out]; simp [h4]
          have h4b : ((z : Int) == (s.size : Int)) = false := by simp; omega
          go_wp2_with fail
          go_ret
          exact ⟨ret_b (by simp [ha]), HB3.out⟩
    · have hd : wordTB s = false := by simp [wordTB, h2]
      rw [hd]; clear hd
      have h3 : (32 : Int) < (s.size : Int) := by omega
      go_enter Try.func129, Try.ntmps129
      go_wp2_with fail
      go_ret
      exact ⟨rfl, Below.refl _ _⟩
end Go.Proofs.Ytfeghobfkgimfaa
