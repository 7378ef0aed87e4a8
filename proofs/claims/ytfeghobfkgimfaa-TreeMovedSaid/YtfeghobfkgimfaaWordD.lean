/- A constructor's text, what stands for a constructor. -/
import Derived.Test.YtfeghobfkgimfaaWordC
import Derived.Lib.ConvBytes
namespace Go.Proofs.Ytfeghobfkgimfaa
set_option linter.unusedSimpArgs false
set_option linter.unusedVariables false
open Go.RowKit Go.Shelf

def wordB (s : ByteArray) : Bool := wordTB s && !(s.toList == [95])
set_option maxRecDepth 100000 in
set_option maxHeartbeats 4000000 in
theorem word_any (s : ByteArray) (w : World) (hs : s.size ≤ maxLen) : Calls Try.prog 106 #[.string s] w (RightV (wordB s) w) := by
  have HW := Lib.hid (wordT_any s w hs)
  go_enter Try.func106, Try.ntmps106
  go_wp2_with fail
  refine HW.out.mono ?_
  rintro e w2 ⟨rfl, hb⟩
  cases hq : wordTB s with
  | false =>
    go_wp2_with fail
    go_ret
    exact ⟨ret_b (by simp [wordB, hq]), hb⟩
  | true =>
    cases hq2 : s.toList == [95] with
    | true =>
      have h2 : s.toList = [95] := by simpa using hq2
      go_wp2_with fail
      go_ret
      exact ⟨ret_b (by simp [wordB, hq, *]), hb⟩
    | false =>
      have h2 : ¬ s.toList = [95] := by simpa using hq2
      go_wp2_with fail
      go_ret
      exact ⟨ret_b (by simp [wordB, hq, *]), hb⟩

/-- It may not stand within a constructor's text. -/
def badB (c : Int) : Bool := !(cls c == 3) && !(cls c == 4) && !(cls c == 2) && !(c == 39)
set_option maxRecDepth 100000 in
set_option maxHeartbeats 4000000 in
theorem bad_any (c : Int) (w : World) : Calls Try.prog 150 #[.int .u8 c] w (RightV (badB c) w) := by
  have HC := Lib.hid (cls_any c w)
  obtain ⟨k, hk⟩ : ∃ k, k = cls c := ⟨_, rfl⟩
  have e : badB c = (!(k == 3) && !(k == 4) && !(k == 2) && !(c == 39)) := by rw [hk]; rfl
  rw [e]
  rw [← hk] at HC
  clear hk e
  go_enter Try.func150, Try.ntmps150
  go_wp2_with fail
  refine HC.out.mono ?_; rintro e w1 ⟨rfl, hb⟩
  go_wp2_with fail
  all_goals (go_ret; refine ⟨ret_b ?_, hb⟩; first | rfl | (simp [*]; done) | simp_all)
set_option maxRecDepth 100000 in
set_option maxHeartbeats 4000000 in
theorem ix_byte (B : Nat → Int) (g n c : Nat) (w : World) (hn : n ≤ maxLen) (hA : ∀ i, i < n → w.cell? ⟨g, i, none⟩ = some (.int .u8 (B i))) :
    Calls Try.prog 159 #[.slice (some ⟨g, 0, none⟩) n c, .func (.func 150) #[] #[]] w (IxV (allB n (fun i => !badB (B i))) w) := by
  unfold maxLen at hn
  have HA := Lib.hid hA
  clear hA
  go_enter Try.func159, Try.ntmps159
  go_wp2_with fail
  go_loopg [8] n (fun gk i wr => ∃ j : Nat, j ≤ n ∧ gk = n - j ∧ i = .int .i64 j ∧ Hid (∀ k, k < j → (!badB (B k)) = true) ∧ Hid (Below w.heap.size w wr))
  case atStart => exact ⟨0, Nat.zero_le _, rfl, rfl, Lib.hid (fun k hk => absurd hk (by omega)), Lib.hid (Below.refl _ _)⟩
  case round =>
    obtain ⟨j, hj, rfl, rfl, HALL, HBR⟩ := hrel
    by_cases hlt : j < n
    · have h := HA.out j hlt
      have r1 : wr.cell? ⟨g, 0 + j, none⟩ = some (.int .u8 (B j)) := by rw [Nat.zero_add]; exact (HBR.out.cell (p := ⟨g, j, none⟩) (cell_lt h)).trans h
      have r2 : wr.cell? ⟨g, j, none⟩ = some (.int .u8 (B j)) := (HBR.out.cell (p := ⟨g, j, none⟩) (cell_lt h)).trans h
      clear h
      have hj1 : (j : Int) < (n : Int) := by omega
      have hj0 : (0 : Int) ≤ (j : Int) := by omega
      go_wp2_with fail
      refine (bad_any _ _).mono ?_
      rintro e w2 ⟨rfl, hb2⟩
      have HB2 : Hid (Below w.heap.size w w2) := Lib.hid (bl_tr HBR.out hb2)
      clear hb2
      cases hq : badB (B j) with
      | true =>
        go_wp2_with fail
        go_ret
        exact ⟨_, rfl, .inl ⟨by omega, allB_false hlt (by simp [hq])⟩, HB2.out⟩
      | false =>
        go_wp2_with fail
        go_roundg (n - (j + 1))
        case measure => omega
        case rel =>
          refine ⟨j + 1, by omega, rfl, by go_num, Lib.hid (fun k hk => ?_), HB2⟩
          by_cases h : k = j
          · subst h; simp [hq]
          · exact HALL.out k (by omega)
    · obtain rfl : j = n := by omega
      go_wp2_with fail
      go_ret
      exact ⟨_, rfl, .inr ⟨rfl, allB_all HALL.out⟩, HBR.out⟩
set_option maxRecDepth 100000 in
set_option maxHeartbeats 4000000 in
theorem cont_byte (B : Nat → Int) (g n c : Nat) (w : World) (hn : n ≤ maxLen) (hA : ∀ i, i < n → w.cell? ⟨g, i, none⟩ = some (.int .u8 (B i))) :
    Calls Try.prog 149 #[.slice (some ⟨g, 0, none⟩) n c, .func (.func 150) #[] #[]] w (RightV (!allB n (fun i => !badB (B i))) w) := by
  have HX := Lib.hid (ix_byte B g n c w hn hA)
  clear hA hn
  go_enter Try.func149, Try.ntmps149
  go_wp2_with fail
  refine HX.out.mono ?_
  rintro e w2 ⟨z, rfl, hz, hb⟩
  rcases hz with ⟨h0, hr⟩ | ⟨rfl, hr⟩
  · go_wp2_with fail
    go_ret
    exact ⟨ret_b (by simp [hr]), hb⟩
  · go_wp2_with fail
    go_ret
    exact ⟨ret_b (by simp [hr]), hb⟩

def highB (s : ByteArray) : Bool := !(s.toList == []) && decide ((s.size : Int) ≤ 32) && cls (byteAt s 0) == 4 && allB s.size (fun i => !badB (byteAt s i))
theorem bytes_below (W : World) (e : TypeId) (s : ByteArray) : Below W.heap.size W (Lib.bytesWorld W e s) :=
  ⟨by simp [Lib.bytesWorld, World.freeze, World.alloc, World.drew, -World.alloc_eq, -World.drew_eq], by simp [Lib.bytesWorld, World.freeze, World.alloc, World.drew, -World.alloc_eq, -World.drew_eq], by simp [Lib.bytesWorld, World.freeze, World.alloc, World.drew, -World.alloc_eq, -World.drew_eq], by rw [Lib.bytesWorld_size]; omega, fun k hk => Lib.bytesWorld_at_old W e s k hk⟩
set_option maxRecDepth 100000 in
set_option maxHeartbeats 4000000 in
theorem high_any (s : ByteArray) (w : World) (hs : s.size ≤ maxLen) : Calls Try.prog 131 #[.string s] w (RightV (highB s) w) := by
  by_cases h0 : s.size = 0
  · have h1 := (@toList_nil s).2 h0
    have hd : highB s = false := by simp [highB, h1]
    rw [hd]; clear hd
    go_enter Try.func131, Try.ntmps131
    go_wp2_with fail
    go_ret
    exact ⟨rfl, Below.refl _ _⟩
  have h1 : ¬ s.toList = [] := fun h => h0 (toList_nil.1 h)
  have h1b : (s.toList == []) = false := by simp [h1]
  have h1c : (s.toList != []) = true := by simp [h1]
  have hpos : 0 < s.size := by omega
  have hposi : (0 : Int) < (s.size : Int) := by omega
  by_cases h2 : (s.size : Int) ≤ 32
  · have HC := Lib.hid (fun W => cls_any (s[0].toNat : Int) W)
    have HD : Hid (highB s = (cls (s[0].toNat : Int) == 4 && allB s.size (fun i => !badB (byteAt s i)))) := Lib.hid (by simp [highB, h1b, h2, byteAt_of hpos])
    have HX := Lib.hid (fun (W : World) (c : Nat) => cont_byte (byteAt s) W.heap.size s.size c (Lib.bytesWorld W 5 s) hs (fun i hi => by
      rw [Lib.bytesWorld_cell W 5 s i hi, byteAt_of hi]
      have e : s.data.toList.getD i 0 = s[i] := by
        have h3 : i < s.data.toList.length := by rw [Array.length_toList]; exact hi
        rw [List.getD_eq_getElem?_getD, List.getElem?_eq_getElem h3]
        rfl
      rw [e]))
    have qc : ∀ W, (convert 9 216 (.string s)).run Try.prog W = .ok (.slice (some ⟨W.heap.size, 0, none⟩) s.size (grownCap W s.size 0 5)) (Lib.bytesWorld W 5 s) := fun W => Lib.run_convert_string_bytes W _ _ _ s Try.underlying9 Try.underlying216 Try.underlying5
    have h2b : decide ((32 : Int) < (s.size : Int)) = false := by simp; omega
    obtain ⟨k, hk⟩ : ∃ k, k = cls (s[0].toNat : Int) := ⟨_, rfl⟩
    rw [← hk] at HC HD
    clear hk
    go_enter Try.func131, Try.ntmps131
    go_wp2_with fail
    refine (HC.out _).mono ?_
    rintro e w2 ⟨rfl, hb2⟩
    have HB2 := Lib.hid hb2
    clear hb2
    cases h3 : k == 4 with
    | false =>
      have h3p : ¬ k = 4 := by simpa using h3
      go_wp2_with fail
      go_ret
      exact ⟨ret_b (by rw [HD.out, h3]; rfl), HB2.out⟩
    | true =>
      have h3p : k = 4 := by simpa using h3
      subst h3p
      clear h3
      go_wp2_with fail
      refine (HX.out _ _).mono ?_
      rintro e w3 ⟨rfl, hb3⟩
      have HB3 := Lib.hid (bl_tr (bl_tr HB2.out (bytes_below w2 5 s)) hb3)
      clear hb3
      go_wp2_with fail
      go_ret
      exact ⟨ret_b (by rw [HD.out]; simp), HB3.out⟩
  · have hd : highB s = false := by simp [highB, h2]
    rw [hd]; clear hd
    have h3 : (32 : Int) < (s.size : Int) := by omega
    go_enter Try.func131, Try.ntmps131
    go_wp2_with fail
    go_ret
    exact ⟨rfl, Below.refl _ _⟩

def conB (s : ByteArray) : Bool := s.toList == [58] || s.toList == [91, 93] || highB s
set_option maxRecDepth 100000 in
set_option maxHeartbeats 4000000 in
theorem con_any (s : ByteArray) (w : World) (hs : s.size ≤ maxLen) : Calls Try.prog 108 #[.string s] w (RightV (conB s) w) := by
  have HH := Lib.hid (high_any s w hs)
  cases h1 : s.toList == [58] with
  | true =>
    have h1p : s.toList = [58] := by simpa using h1
    go_enter Try.func108, Try.ntmps108
    go_wp2_with fail
    go_ret
    exact ⟨ret_b (by simp [conB, h1p]), Below.refl _ _⟩
  | false =>
    have h1p : ¬ s.toList = [58] := by simpa using h1
    cases h2 : s.toList == [91, 93] with
    | true =>
      have h2p : s.toList = [91, 93] := by simpa using h2
      go_enter Try.func108, Try.ntmps108
      go_wp2_with fail
      go_ret
      exact ⟨ret_b (by simp [conB, h2p]), Below.refl _ _⟩
    | false =>
      have h2p : ¬ s.toList = [91, 93] := by simpa using h2
      go_enter Try.func108, Try.ntmps108
      go_wp2_with fail
      refine HH.out.mono ?_
      rintro e w2 ⟨rfl, hb⟩
      go_wp2_with fail
      go_ret
      exact ⟨ret_b (by simp [conB, h1, h2]), hb⟩
end Go.Proofs.Ytfeghobfkgimfaa
