/- What types, what patterns may be. -/
import Derived.Test.YtfeghobfkgimfaaWordD
import Derived.Test.YtfeghobfkgimfaaSizB
namespace Go.Proofs.Ytfeghobfkgimfaa
set_option linter.unusedSimpArgs false
set_option linter.unusedVariables false
open Go.RowKit Go.Shelf

theorem allB_list {α : Type} (l : List α) (f : α → Bool) (R : Nat → Bool) (hR : ∀ i (h : i < l.length), R i = f l[i]) : allB l.length R = l.all f := by
  rw [Bool.eq_iff_iff, allB_true, List.all_eq_true]
  constructor
  · intro h x hx
    obtain ⟨i, hi, rfl⟩ := List.mem_iff_getElem.1 hx
    rw [← hR i hi]; exact h i hi
  · intro h i hi
    rw [hR i hi]; exact h _ (List.getElem_mem hi)
def tyK (k : Int) (s : ByteArray) (n : Int) : Bool := if k == 1 then wordB s && n == 0 else if k == 2 then highB s || (s.toList == [91, 93] && n == 1) else k == 3 && s.toList == [] && n == 2
def ptK (k : Int) (s : ByteArray) (m n : Int) : Bool := if k == 1 then s.toList == [] && m == 0 && n == 0 else if k == 2 then wordB s && m == 0 && n == 0 else if k == 3 || k == 4 || k == 5 then n == 0 && litB k s m
  else k == 6 && m == 0 && (highB s || (s.toList == [91, 93] && n == 0) || (s.toList == [58] && n == 2))
mutual
def rTy : Ty → Int → Bool
  | .mk k _ s l, left => !decide (left < 1) && !decide (16 < (l.length : Int)) && rTys l (left - 1) && tyK k s l.length
def rTys : List Ty → Int → Bool
  | [], _ => true
  | t :: l, left => rTy t left && rTys l left
end
mutual
def rPt : Pt → Int → Bool
  | .mk k _ s m l, left => !decide (left < 1) && !decide (16 < (l.length : Int)) && rPts l (left - 1) && ptK k s m l.length
def rPts : List Pt → Int → Bool
  | [], _ => true
  | t :: l, left => rPt t left && rPts l left
end
theorem rTys_all (l : List Ty) (left : Int) : rTys l left = l.all (fun t => rTy t left) := by
  induction l with
  | nil => rfl
  | cons x l ih => rw [rTys, List.all_cons, ih]
theorem rPts_all (l : List Pt) (left : Int) : rPts l left = l.all (fun t => rPt t left) := by
  induction l with
  | nil => rfl
  | cons x l ih => rw [rPts, List.all_cons, ih]
theorem TyC.inv' {m : Mem} {k a : Int} {s : ByteArray} {l : List Ty} {cs : List Value} (h : TyC m (.mk k a s l) cs) : ∃ v, cs = [.int .i64 k, .int .i64 a, .string s, v] ∧ TysV m l v := h.inv

set_option maxRecDepth 100000 in
set_option maxHeartbeats 4000000 in
theorem cl_Type (C : List Value) (hC : Ok 4 C) (b : Nat) (left : Int) (r : Bool) (w : World) (hl : 1 ≤ left ∧ left ≤ 400) (hb : w.cell? ⟨b, 0, none⟩ = some (.int .i64 left))
    (hcall : ∀ W, Below w.heap.size w W → Calls Try.prog 158 #[.agg C.toArray, .int .i64 (left - 1)] W (RightV r W)) : Calls Try.prog 164 #[.agg C.toArray, .pointer (some ⟨b, 0, none⟩)] w (RightV r w) := by
  have IE := Lib.hid (show (Try.prog.info? 167).map (·.size) = some C.length from by rw [hC.1]; kernel_rfl)
  have RR := Lib.hid (range_new w 167 C)
  have hb2 : ∀ o, (w.alloc o).cell? ⟨b, 0, none⟩ = some (.int .i64 left) := fun o => ((bl1 w o).cell (p := ⟨b, 0, none⟩) (cell_lt hb)).trans hb
  have wz : IntKind.i64.wrap (left - 1) = left - 1 := IntWalk.i64_in _ (by omega)
  have HC := Lib.hid hcall
  clear hcall hC
  go_enter Try.func164, Try.ntmps164
  go_wp2_with (((with_reducible refine at_ld 4 ?_); refine wpList_load_mid rfl 167 (.tmp 2) rfl w.heap.size 0 rfl C _ RR.out Try.underlying167 rfl IE.out ?_))
  refine (HC.out _ (bl1 w _)).mono ?_
  rintro e w2 ⟨rfl, hb3⟩
  have HB := Lib.hid (bl_tr (bl1 w _) hb3)
  clear hb3
  go_wp2_with fail
  go_ret
  exact ⟨rfl, HB.out⟩
theorem enters_rightType1 : Enters Try.prog 164 := enters_any Try.func164 (by kernel_rfl) (by kernel_rfl)

set_option maxRecDepth 100000 in
set_option maxHeartbeats 8000000 in
theorem rightType_of (D : Ty) (cs : List Value) (left : Int) (w : World) (hl : 0 ≤ left ∧ left ≤ 400) (hD : TyC (mem w) D cs)
    (ih : ∀ D', SizeOf.sizeOf (D' : Ty) < SizeOf.sizeOf D → ∀ cs' left' W, 0 ≤ left' ∧ left' ≤ 400 → TyC (mem W) D' cs' → Calls Try.prog 158 #[.agg cs'.toArray, .int .i64 left'] W (RightV (rTy D' left') W)) :
    Calls Try.prog 158 #[.agg cs.toArray, .int .i64 left] w (RightV (rTy D left) w) := by
  obtain ⟨k, a, s, l⟩ := D
  have hs := hD.size
  obtain ⟨v, rfl, A, c, C, rfl, hc, hA, hC⟩ := hD.inv
  have hln := le_of hc
  obtain ⟨n, hn⟩ : ∃ n, n = l.length := ⟨_, rfl⟩
  have hW0 := bl2 w (.cells #[.int .i64 k, .int .i64 a, .string s, .slice A l.length c] 167) (.cells #[.int .i64 left] 3)
  have hk1 : Blk ((w.alloc (.cells #[.int .i64 k, .int .i64 a, .string s, .slice A l.length c] 167)).alloc (.cells #[.int .i64 left] 3)) w.heap.size 167 #[.int .i64 k, .int .i64 a, .string s, .slice A l.length c] := bk_alloc (bk_new _ _ _ _ rfl) _
  have hk2 : Blk ((w.alloc (.cells #[.int .i64 k, .int .i64 a, .string s, .slice A l.length c] 167)).alloc (.cells #[.int .i64 left] 3)) (w.heap.size + 1) 3 #[.int .i64 left] := bk_new _ _ _ _ (by simp)
  have hev := fun (h1 : 1 ≤ left) => every_Type C A l.length c (fun i => if h : i < l.length then rTy l[i] (left - 1) else true) 164 #[.pointer (some ⟨w.heap.size + 1, 0, none⟩)] ((w.alloc (.cells #[.int .i64 k, .int .i64 a, .string s, .slice A l.length c] 167)).alloc (.cells #[.int .i64 left] 3)) enters_rightType1 hln (hA.mono (mem_below hW0) (fun i hi => (hC i hi).len)) (fun i hi => (hC i hi).ok)
    (fun i hi W hW => by
      have h := cl_Type (C i) (hC i hi).ok (w.heap.size + 1) left (if h : i < l.length then rTy l[i] (left - 1) else true) W ⟨h1, hl.2⟩ ((cell_of_row _ _ 0 _ _ _ (bk_below hk2 hW)).trans rfl) (fun W2 hW2 => by
        rw [dif_pos hi]
        exact ih l[i] (by have := List.sizeOf_lt_of_mem (List.getElem_mem hi); simp; omega) (C i) (left - 1) W2 ⟨by omega, by omega⟩ ((hC i hi).mono (mem_below (bl_tr (bl_tr hW0 hW) hW2))))
      simpa using h)
  have hall : allB l.length (fun i => if h : i < l.length then rTy l[i] (left - 1) else true) = rTys l (left - 1) := by
    rw [rTys_all]; exact allB_list _ _ _ (fun i hi => dif_pos hi)
  rw [hall] at hev
  rw [← hn] at hW0 hk1 hk2 hev hln ⊢
  have HW0 := Lib.hid hW0; have HK1 := Lib.hid hk1; have HEV := Lib.hid hev; have HN := Lib.hid hn; have HS := Lib.hid hs
  have HDEF : Hid (rTy (.mk k a s l) left = (!decide (left < 1) && !decide (16 < (n : Int)) && rTys l (left - 1) && tyK k s n)) := Lib.hid (by rw [rTy, hn])
  clear hW0 hk1 hk2 hev hn hall hA hC hD hs ih hc
  unfold maxLen at hln
  by_cases h1 : left < 1
  · have h1b : decide (left < 1) = true := by simp [h1]
    go_enter Try.func158, Try.ntmps158
    go_wp2_with fail
    go_ret
    exact ⟨ret_b (by rw [HDEF.out, h1b]; simp), HW0.out⟩
  have h1b : decide (left < 1) = false := by simp [h1]
  by_cases h2 : 16 < (n : Int)
  · have h2b : decide (16 < (n : Int)) = true := by simp only [h2, decide_true]
    go_enter Try.func158, Try.ntmps158
    go_wp2_with fail
    go_ret
    exact ⟨ret_b (by rw [HDEF.out, h2b]; simp), HW0.out⟩
  have h2b : decide (16 < (n : Int)) = false := by simp only [h2, decide_false]
  go_enter Try.func158, Try.ntmps158
  go_wp2_with fail
  refine (HEV.out (by omega)).mono ?_
  rintro e w2 ⟨rfl, hb2⟩
  have HB2 : Hid (Below ((w.alloc (.cells #[.int .i64 k, .int .i64 a, .string s, .slice A n c] 167)).alloc (.cells #[.int .i64 left] 3)).heap.size ((w.alloc (.cells #[.int .i64 k, .int .i64 a, .string s, .slice A n c] 167)).alloc (.cells #[.int .i64 left] 3)) w2) := Lib.hid hb2
  clear hb2
  have HBW : Hid (Below w.heap.size w w2) := Lib.hid (bl_tr HW0.out HB2.out)
  have HDEF2 : Hid (rTy (.mk k a s l) left = (rTys l (left - 1) && tyK k s n)) := Lib.hid (by rw [HDEF.out, h1b, h2b]; simp)
  obtain ⟨q, hq⟩ : ∃ q, q = rTys l (left - 1) := ⟨_, rfl⟩
  rw [← hq] at HDEF2 ⊢
  clear hq HDEF
  cases q with
  | false =>
    go_wp2_with fail
    go_ret
    exact ⟨ret_b (by rw [HDEF2.out]; simp), HBW.out⟩
  | true =>
    have HD : Hid (rTy (.mk k a s l) left = tyK k s n) := Lib.hid (by rw [HDEF2.out]; simp)
    clear HDEF2
    have HR : Hid (∀ w', Below w2.heap.size w2 w' → Blk w' w.heap.size 167 #[.int .i64 k, .int .i64 a, .string s, .slice A n c]) := Lib.hid (fun w' hw' => bk_below (bk_below HK1.out HB2.out) hw')
    have b0 : ∀ w', Below w2.heap.size w2 w' → w'.cell? ⟨w.heap.size, 0, none⟩ = some (.int .i64 k) := fun w' hw' => (cell_of_row _ _ 0 _ _ _ (HR.out w' hw')).trans rfl
    have c0 := b0 w2 (Below.refl _ _)
    have b2 : ∀ w', Below w2.heap.size w2 w' → w'.cell? ⟨w.heap.size, 2, none⟩ = some (.string s) := fun w' hw' => (cell_of_row _ _ 2 _ _ _ (HR.out w' hw')).trans rfl
    have c2 := b2 w2 (Below.refl _ _)
    have b3 : ∀ w', Below w2.heap.size w2 w' → w'.cell? ⟨w.heap.size, 3, none⟩ = some (.slice A n c) := fun w' hw' => (cell_of_row _ _ 3 _ _ _ (HR.out w' hw')).trans rfl
    have c3 := b3 w2 (Below.refl _ _)
    cases h1 : k == 1 with
    | true =>
      go_wp2_with fail
      refine (word_any s _ HS.out).mono ?_
      rintro e w3 ⟨rfl, hb3⟩
      have HC3 := Lib.hid hb3
      have HF := Lib.hid (bl_tr HBW.out hb3)
      clear hb3
      have d0 := b0 w3 HC3.out
      have d2 := b2 w3 HC3.out
      have d3 := b3 w3 HC3.out
      cases h5 : wordB s with
      | false =>
        go_wp2_with fail
        go_ret
        exact ⟨ret_b (by rw [HD.out]; simp [tyK, ptK, *]), HF.out⟩
      | true =>
        go_wp2_with fail
        go_ret
        exact ⟨ret_b (by rw [HD.out]; simp [tyK, ptK, *]), HF.out⟩
    | false =>
      cases h2 : k == 2 with
      | true =>
        go_wp2_with fail
        refine (high_any s _ HS.out).mono ?_
        rintro e w3 ⟨rfl, hb3⟩
        have HC3 := Lib.hid hb3
        have HF := Lib.hid (bl_tr HBW.out hb3)
        clear hb3
        have d0 := b0 w3 HC3.out
        have d2 := b2 w3 HC3.out
        have d3 := b3 w3 HC3.out
        cases h5 : highB s with
        | true =>
          go_wp2_with fail
          go_ret
          exact ⟨ret_b (by rw [HD.out]; simp [tyK, ptK, *]), HF.out⟩
        | false =>
          cases h6 : s.toList == [91, 93] with
          | false =>
            have h6p : ¬ s.toList = [91, 93] := by simpa using h6
            go_wp2_with fail
            go_ret
            exact ⟨ret_b (by rw [HD.out]; simp [tyK, ptK, *]), HF.out⟩
          | true =>
            have h6p : s.toList = [91, 93] := by simpa using h6
            go_wp2_with fail
            go_ret
            exact ⟨ret_b (by rw [HD.out]; simp [tyK, ptK, *]), HF.out⟩
      | false =>
        cases h3 : k == 3 with
        | false =>
          have h3p : ¬ k = 3 := by simpa using h3
          go_wp2_with fail
          go_ret
          exact ⟨ret_b (by rw [HD.out]; simp [tyK, ptK, *]), HBW.out⟩
        | true =>
          have h3p : k = 3 := by simpa using h3
          cases h6 : s.toList == [] with
          | false =>
            have h6p : ¬ s.toList = [] := by simpa using h6
            go_wp2_with fail
            go_ret
            exact ⟨ret_b (by rw [HD.out]; simp [tyK, ptK, *]), HBW.out⟩
          | true =>
            have h6p : s.toList = [] := by simpa using h6
            go_wp2_with fail
            go_ret
            exact ⟨ret_b (by rw [HD.out]; simp [tyK, ptK, *]), HBW.out⟩

theorem rightType_any (D : Ty) (cs : List Value) (left : Int) (w : World) (hl : 0 ≤ left ∧ left ≤ 400) (hD : TyC (mem w) D cs) : Calls Try.prog 158 #[.agg cs.toArray, .int .i64 left] w (RightV (rTy D left) w) := by
  have h : ∀ m : Nat, ∀ (D : Ty) (cs : List Value) (left : Int) (w : World), SizeOf.sizeOf D < m → 0 ≤ left ∧ left ≤ 400 → TyC (mem w) D cs → Calls Try.prog 158 #[.agg cs.toArray, .int .i64 left] w (RightV (rTy D left) w) := fun m => by
    induction m with
    | zero => intro D cs left w h; omega
    | succ m ih => exact fun D cs left w hm hl hD => rightType_of D cs left w hl hD (fun D' hD' cs' left' W hl' hC => ih D' cs' left' W (by omega) hl' hC)
  exact h _ D cs left w (Nat.lt_succ_self _) hl hD

set_option maxRecDepth 100000 in
set_option maxHeartbeats 4000000 in
theorem RightType_any (D : Ty) (cs : List Value) (w : World) (hD : TyC (mem w) D cs) : Calls Try.prog 142 #[.agg cs.toArray] w (RightV (rTy D 400) w) := by
  have hC := hD.ok
  have IE := Lib.hid (show (Try.prog.info? 167).map (·.size) = some cs.length from by rw [hC.1]; kernel_rfl)
  have RR := Lib.hid (range_new w 167 cs)
  have HC := Lib.hid (fun (W : World) (hW : Below w.heap.size w W) => rightType_any D cs 400 W (by omega) (hD.mono (mem_below hW)))
  clear hD hC
  go_enter Try.func142, Try.ntmps142
  go_wp2_with (((with_reducible refine at_ld 3 ?_); refine wpList_load_mid rfl 167 (.tmp 1) rfl w.heap.size 0 rfl cs _ RR.out Try.underlying167 rfl IE.out ?_))
  refine (HC.out _ (bl1 w _)).mono ?_
  rintro e w2 ⟨rfl, hb3⟩
  have HB := Lib.hid (bl_tr (bl1 w _) hb3)
  clear hb3
  go_wp2_with fail
  go_ret
  exact ⟨rfl, HB.out⟩
theorem enters_RightType : Enters Try.prog 142 := enters_any Try.func142 (by kernel_rfl) (by kernel_rfl)

set_option maxRecDepth 100000 in
set_option maxHeartbeats 4000000 in
theorem cl_Pat (C : List Value) (hC : Ok 5 C) (b : Nat) (left : Int) (r : Bool) (w : World) (hl : 1 ≤ left ∧ left ≤ 400) (hb : w.cell? ⟨b, 0, none⟩ = some (.int .i64 left))
    (hcall : ∀ W, Below w.heap.size w W → Calls Try.prog 121 #[.agg C.toArray, .int .i64 (left - 1)] W (RightV r W)) : Calls Try.prog 135 #[.agg C.toArray, .pointer (some ⟨b, 0, none⟩)] w (RightV r w) := by
  have IE := Lib.hid (show (Try.prog.info? 128).map (·.size) = some C.length from by rw [hC.1]; kernel_rfl)
  have RR := Lib.hid (range_new w 128 C)
  have hb2 : ∀ o, (w.alloc o).cell? ⟨b, 0, none⟩ = some (.int .i64 left) := fun o => ((bl1 w o).cell (p := ⟨b, 0, none⟩) (cell_lt hb)).trans hb
  have wz : IntKind.i64.wrap (left - 1) = left - 1 := IntWalk.i64_in _ (by omega)
  have HC := Lib.hid hcall
  clear hcall hC
  go_enter Try.func135, Try.ntmps135
  go_wp2_with (((with_reducible refine at_ld 4 ?_); refine wpList_load_mid rfl 128 (.tmp 2) rfl w.heap.size 0 rfl C _ RR.out Try.underlying128 rfl IE.out ?_))
  refine (HC.out _ (bl1 w _)).mono ?_
  rintro e w2 ⟨rfl, hb3⟩
  have HB := Lib.hid (bl_tr (bl1 w _) hb3)
  clear hb3
  go_wp2_with fail
  go_ret
  exact ⟨rfl, HB.out⟩
theorem enters_rightPat1 : Enters Try.prog 135 := enters_any Try.func135 (by kernel_rfl) (by kernel_rfl)

set_option maxRecDepth 100000 in
set_option maxHeartbeats 8000000 in
theorem rightPat_of (D : Pt) (cs : List Value) (left : Int) (w : World) (hl : 0 ≤ left ∧ left ≤ 400) (hD : PtC (mem w) D cs)
    (ih : ∀ D', SizeOf.sizeOf (D' : Pt) < SizeOf.sizeOf D → ∀ cs' left' W, 0 ≤ left' ∧ left' ≤ 400 → PtC (mem W) D' cs' → Calls Try.prog 121 #[.agg cs'.toArray, .int .i64 left'] W (RightV (rPt D' left') W)) :
    Calls Try.prog 121 #[.agg cs.toArray, .int .i64 left] w (RightV (rPt D left) w) := by
  obtain ⟨k, a, s, m, l⟩ := D
  have hs := hD.size
  obtain ⟨v, rfl, A, c, C, rfl, hc, hA, hC⟩ := hD.inv
  have hln := le_of hc
  obtain ⟨n, hn⟩ : ∃ n, n = l.length := ⟨_, rfl⟩
  have hW0 := bl2 w (.cells #[.int .i64 k, .int .i64 a, .string s, .int .i64 m, .slice A l.length c] 128) (.cells #[.int .i64 left] 3)
  have hk1 : Blk ((w.alloc (.cells #[.int .i64 k, .int .i64 a, .string s, .int .i64 m, .slice A l.length c] 128)).alloc (.cells #[.int .i64 left] 3)) w.heap.size 128 #[.int .i64 k, .int .i64 a, .string s, .int .i64 m, .slice A l.length c] := bk_alloc (bk_new _ _ _ _ rfl) _
  have hk2 : Blk ((w.alloc (.cells #[.int .i64 k, .int .i64 a, .string s, .int .i64 m, .slice A l.length c] 128)).alloc (.cells #[.int .i64 left] 3)) (w.heap.size + 1) 3 #[.int .i64 left] := bk_new _ _ _ _ (by simp)
  have hev := fun (h1 : 1 ≤ left) => every_Pat C A l.length c (fun i => if h : i < l.length then rPt l[i] (left - 1) else true) 135 #[.pointer (some ⟨w.heap.size + 1, 0, none⟩)] ((w.alloc (.cells #[.int .i64 k, .int .i64 a, .string s, .int .i64 m, .slice A l.length c] 128)).alloc (.cells #[.int .i64 left] 3)) enters_rightPat1 hln (hA.mono (mem_below hW0) (fun i hi => (hC i hi).len)) (fun i hi => (hC i hi).ok)
    (fun i hi W hW => by
      have h := cl_Pat (C i) (hC i hi).ok (w.heap.size + 1) left (if h : i < l.length then rPt l[i] (left - 1) else true) W ⟨h1, hl.2⟩ ((cell_of_row _ _ 0 _ _ _ (bk_below hk2 hW)).trans rfl) (fun W2 hW2 => by
        rw [dif_pos hi]
        exact ih l[i] (by have := List.sizeOf_lt_of_mem (List.getElem_mem hi); simp; omega) (C i) (left - 1) W2 ⟨by omega, by omega⟩ ((hC i hi).mono (mem_below (bl_tr (bl_tr hW0 hW) hW2))))
      simpa using h)
  have hall : allB l.length (fun i => if h : i < l.length then rPt l[i] (left - 1) else true) = rPts l (left - 1) := by
    rw [rPts_all]; exact allB_list _ _ _ (fun i hi => dif_pos hi)
  rw [hall] at hev
  rw [← hn] at hW0 hk1 hk2 hev hln ⊢
  have HW0 := Lib.hid hW0; have HK1 := Lib.hid hk1; have HEV := Lib.hid hev; have HN := Lib.hid hn; have HS := Lib.hid hs
  have HDEF : Hid (rPt (.mk k a s m l) left = (!decide (left < 1) && !decide (16 < (n : Int)) && rPts l (left - 1) && ptK k s m n)) := Lib.hid (by rw [rPt, hn])
  clear hW0 hk1 hk2 hev hn hall hA hC hD hs ih hc
  unfold maxLen at hln
  by_cases h1 : left < 1
  · have h1b : decide (left < 1) = true := by simp [h1]
    go_enter Try.func121, Try.ntmps121
    go_wp2_with fail
    go_ret
    exact ⟨ret_b (by rw [HDEF.out, h1b]; simp), HW0.out⟩
  have h1b : decide (left < 1) = false := by simp [h1]
  by_cases h2 : 16 < (n : Int)
  · have h2b : decide (16 < (n : Int)) = true := by simp only [h2, decide_true]
    go_enter Try.func121, Try.ntmps121
    go_wp2_with fail
    go_ret
    exact ⟨ret_b (by rw [HDEF.out, h2b]; simp), HW0.out⟩
  have h2b : decide (16 < (n : Int)) = false := by simp only [h2, decide_false]
  go_enter Try.func121, Try.ntmps121
  go_wp2_with fail
  refine (HEV.out (by omega)).mono ?_
  rintro e w2 ⟨rfl, hb2⟩
  have HB2 : Hid (Below ((w.alloc (.cells #[.int .i64 k, .int .i64 a, .string s, .int .i64 m, .slice A n c] 128)).alloc (.cells #[.int .i64 left] 3)).heap.size ((w.alloc (.cells #[.int .i64 k, .int .i64 a, .string s, .int .i64 m, .slice A n c] 128)).alloc (.cells #[.int .i64 left] 3)) w2) := Lib.hid hb2
  clear hb2
  have HBW : Hid (Below w.heap.size w w2) := Lib.hid (bl_tr HW0.out HB2.out)
  have HDEF2 : Hid (rPt (.mk k a s m l) left = (rPts l (left - 1) && ptK k s m n)) := Lib.hid (by rw [HDEF.out, h1b, h2b]; simp)
  obtain ⟨q, hq⟩ : ∃ q, q = rPts l (left - 1) := ⟨_, rfl⟩
  rw [← hq] at HDEF2 ⊢
  clear hq HDEF
  cases q with
  | false =>
    go_wp2_with fail
    go_ret
    exact ⟨ret_b (by rw [HDEF2.out]; simp), HBW.out⟩
  | true =>
    have HD : Hid (rPt (.mk k a s m l) left = ptK k s m n) := Lib.hid (by rw [HDEF2.out]; simp)
    clear HDEF2
    have HR : Hid (∀ w', Below w2.heap.size w2 w' → Blk w' w.heap.size 128 #[.int .i64 k, .int .i64 a, .string s, .int .i64 m, .slice A n c]) := Lib.hid (fun w' hw' => bk_below (bk_below HK1.out HB2.out) hw')
    have b0 : ∀ w', Below w2.heap.size w2 w' → w'.cell? ⟨w.heap.size, 0, none⟩ = some (.int .i64 k) := fun w' hw' => (cell_of_row _ _ 0 _ _ _ (HR.out w' hw')).trans rfl
    have c0 := b0 w2 (Below.refl _ _)
    have b2 : ∀ w', Below w2.heap.size w2 w' → w'.cell? ⟨w.heap.size, 2, none⟩ = some (.string s) := fun w' hw' => (cell_of_row _ _ 2 _ _ _ (HR.out w' hw')).trans rfl
    have c2 := b2 w2 (Below.refl _ _)
    have b3 : ∀ w', Below w2.heap.size w2 w' → w'.cell? ⟨w.heap.size, 3, none⟩ = some (.int .i64 m) := fun w' hw' => (cell_of_row _ _ 3 _ _ _ (HR.out w' hw')).trans rfl
    have c3 := b3 w2 (Below.refl _ _)
    have b4 : ∀ w', Below w2.heap.size w2 w' → w'.cell? ⟨w.heap.size, 4, none⟩ = some (.slice A n c) := fun w' hw' => (cell_of_row _ _ 4 _ _ _ (HR.out w' hw')).trans rfl
    have c4 := b4 w2 (Below.refl _ _)
    cases h1 : k == 1 with
    | true =>
      cases h6 : s.toList == [] with
      | false =>
        have h6p : ¬ s.toList = [] := by simpa using h6
        go_wp2_with fail
        go_ret
        exact ⟨ret_b (by rw [HD.out]; simp [tyK, ptK, *]), HBW.out⟩
      | true =>
        have h6p : s.toList = [] := by simpa using h6
        cases h7 : m == 0 with
        | false =>
          have h7p : ¬ m = 0 := by simpa using h7
          go_wp2_with fail
          go_ret
          exact ⟨ret_b (by rw [HD.out]; simp [tyK, ptK, *]), HBW.out⟩
        | true =>
          have h7p : m = 0 := by simpa using h7
          go_wp2_with fail
          go_ret
          exact ⟨ret_b (by rw [HD.out]; simp [tyK, ptK, *]), HBW.out⟩
    | false =>
      cases h2 : k == 2 with
      | true =>
        go_wp2_with fail
        refine (word_any s _ HS.out).mono ?_
        rintro e w3 ⟨rfl, hb3⟩
        have HC3 := Lib.hid hb3
        have HF := Lib.hid (bl_tr HBW.out hb3)
        clear hb3
        have d0 := b0 w3 HC3.out
        have d2 := b2 w3 HC3.out
        have d3 := b3 w3 HC3.out
        have d4 := b4 w3 HC3.out
        cases h5 : wordB s with
        | false =>
          go_wp2_with fail
          go_ret
          exact ⟨ret_b (by rw [HD.out]; simp [tyK, ptK, *]), HF.out⟩
        | true =>
          cases h7 : m == 0 with
          | false =>
            have h7p : ¬ m = 0 := by simpa using h7
            go_wp2_with fail
            go_ret
            exact ⟨ret_b (by rw [HD.out]; simp [tyK, ptK, *]), HF.out⟩
          | true =>
            have h7p : m = 0 := by simpa using h7
            go_wp2_with fail
            go_ret
            exact ⟨ret_b (by rw [HD.out]; simp [tyK, ptK, *]), HF.out⟩
      | false =>
        cases h3 : (k == 3 || k == 4 || k == 5) with
        | true =>
          have h345 : (k == 3) = true ∨ (k == 3) = false ∧ (k == 4) = true ∨ (k == 3) = false ∧ (k == 4) = false ∧ (k == 5) = true := by
            cases e3 : k == 3 <;> cases e4 : k == 4 <;> simp_all
          rcases h345 with h3a | ⟨h3a, h4a⟩ | ⟨h3a, h4a, h5a⟩
          · cases h7 : (n : Int) == 0 with
            | false =>
              have h7p : ¬ (n : Int) = 0 := by simpa using h7
              go_wp2_with fail
              go_ret
              exact ⟨ret_b (by rw [HD.out]; simp [tyK, ptK, *]), HBW.out⟩
            | true =>
              have h7p : (n : Int) = 0 := by simpa using h7
              go_wp2_with fail
              refine (lit_any k s m _).mono ?_
              rintro e w3 ⟨rfl, hb3⟩
              have HC3 := Lib.hid hb3
              have HF := Lib.hid (bl_tr HBW.out hb3)
              clear hb3
              have d0 := b0 w3 HC3.out
              have d2 := b2 w3 HC3.out
              have d3 := b3 w3 HC3.out
              have d4 := b4 w3 HC3.out
              cases h8 : litB k s m with
              | false =>
                go_wp2_with fail
                go_ret
                exact ⟨ret_b (by rw [HD.out]; simp [tyK, ptK, *]), HF.out⟩
              | true =>
                go_wp2_with fail
                go_ret
                exact ⟨ret_b (by rw [HD.out]; simp [tyK, ptK, *]), HF.out⟩
          · cases h7 : (n : Int) == 0 with
            | false =>
              have h7p : ¬ (n : Int) = 0 := by simpa using h7
              go_wp2_with fail
              go_ret
              exact ⟨ret_b (by rw [HD.out]; simp [tyK, ptK, *]), HBW.out⟩
            | true =>
              have h7p : (n : Int) = 0 := by simpa using h7
              go_wp2_with fail
              refine (lit_any k s m _).mono ?_
              rintro e w3 ⟨rfl, hb3⟩
              have HC3 := Lib.hid hb3
              have HF := Lib.hid (bl_tr HBW.out hb3)
              clear hb3
              have d0 := b0 w3 HC3.out
              have d2 := b2 w3 HC3.out
              have d3 := b3 w3 HC3.out
              have d4 := b4 w3 HC3.out
              cases h8 : litB k s m with
              | false =>
                go_wp2_with fail
                go_ret
                exact ⟨ret_b (by rw [HD.out]; simp [tyK, ptK, *]), HF.out⟩
              | true =>
                go_wp2_with fail
                go_ret
                exact ⟨ret_b (by rw [HD.out]; simp [tyK, ptK, *]), HF.out⟩
          · cases h7 : (n : Int) == 0 with
            | false =>
              have h7p : ¬ (n : Int) = 0 := by simpa using h7
              go_wp2_with fail
              go_ret
              exact ⟨ret_b (by rw [HD.out]; simp [tyK, ptK, *]), HBW.out⟩
            | true =>
              have h7p : (n : Int) = 0 := by simpa using h7
              go_wp2_with fail
              refine (lit_any k s m _).mono ?_
              rintro e w3 ⟨rfl, hb3⟩
              have HC3 := Lib.hid hb3
              have HF := Lib.hid (bl_tr HBW.out hb3)
              clear hb3
              have d0 := b0 w3 HC3.out
              have d2 := b2 w3 HC3.out
              have d3 := b3 w3 HC3.out
              have d4 := b4 w3 HC3.out
              cases h8 : litB k s m with
              | false =>
                go_wp2_with fail
                go_ret
                exact ⟨ret_b (by rw [HD.out]; simp [tyK, ptK, *]), HF.out⟩
              | true =>
                go_wp2_with fail
                go_ret
                exact ⟨ret_b (by rw [HD.out]; simp [tyK, ptK, *]), HF.out⟩
        | false =>
          have h3a : (k == 3) = false := by cases e : k == 3 <;> simp_all
          have h4a : (k == 4) = false := by cases e : k == 4 <;> simp_all
          have h5a : (k == 5) = false := by cases e : k == 5 <;> simp_all
          cases h6' : k == 6 with
          | false =>
            go_wp2_with fail
            go_ret
            exact ⟨ret_b (by rw [HD.out]; simp [tyK, ptK, *]), HBW.out⟩
          | true =>
            cases h7 : m == 0 with
            | false =>
              have h7p : ¬ m = 0 := by simpa using h7
              go_wp2_with fail
              go_ret
              exact ⟨ret_b (by rw [HD.out]; simp [tyK, ptK, *]), HBW.out⟩
            | true =>
              have h7p : m = 0 := by simpa using h7
              go_wp2_with fail
              refine (high_any s _ HS.out).mono ?_
              rintro e w3 ⟨rfl, hb3⟩
              have HC3 := Lib.hid hb3
              have HF := Lib.hid (bl_tr HBW.out hb3)
              clear hb3
              have d0 := b0 w3 HC3.out
              have d2 := b2 w3 HC3.out
              have d3 := b3 w3 HC3.out
              have d4 := b4 w3 HC3.out
              cases h8 : highB s with
              | true =>
                go_wp2_with fail
                go_ret
                exact ⟨ret_b (by rw [HD.out]; simp [tyK, ptK, *]), HF.out⟩
              | false =>
                cases h9 : s.toList == [91, 93] with
                | true =>
                  have h9p : s.toList = [91, 93] := by simpa using h9
                  cases h10 : (n : Int) == 0 with
                  | false =>
                    have h10p : ¬ (n : Int) = 0 := by simpa using h10
                    go_wp2_with fail
                    go_ret
                    exact ⟨ret_b (by rw [HD.out]; simp [tyK, ptK, *]), HF.out⟩
                  | true =>
                    have h10p : (n : Int) = 0 := by simpa using h10
                    go_wp2_with fail
                    go_ret
                    exact ⟨ret_b (by rw [HD.out]; simp [tyK, ptK, *]), HF.out⟩
                | false =>
                  have h9p : ¬ s.toList = [91, 93] := by simpa using h9
                  cases h6 : s.toList == [58] with
                  | false =>
                    have h6p : ¬ s.toList = [58] := by simpa using h6
                    go_wp2_with fail
                    go_ret
                    exact ⟨ret_b (by rw [HD.out]; simp [tyK, ptK, *]), HF.out⟩
                  | true =>
                    have h6p : s.toList = [58] := by simpa using h6
                    go_wp2_with fail
                    go_ret
                    exact ⟨ret_b (by rw [HD.out]; simp [tyK, ptK, *]), HF.out⟩

theorem rightPat_any (D : Pt) (cs : List Value) (left : Int) (w : World) (hl : 0 ≤ left ∧ left ≤ 400) (hD : PtC (mem w) D cs) : Calls Try.prog 121 #[.agg cs.toArray, .int .i64 left] w (RightV (rPt D left) w) := by
  have h : ∀ m : Nat, ∀ (D : Pt) (cs : List Value) (left : Int) (w : World), SizeOf.sizeOf D < m → 0 ≤ left ∧ left ≤ 400 → PtC (mem w) D cs → Calls Try.prog 121 #[.agg cs.toArray, .int .i64 left] w (RightV (rPt D left) w) := fun m => by
    induction m with
    | zero => intro D cs left w h; omega
    | succ m ih => exact fun D cs left w hm hl hD => rightPat_of D cs left w hl hD (fun D' hD' cs' left' W hl' hC => ih D' cs' left' W (by omega) hl' hC)
  exact h _ D cs left w (Nat.lt_succ_self _) hl hD

set_option maxRecDepth 100000 in
set_option maxHeartbeats 4000000 in
theorem RightPat_any (D : Pt) (cs : List Value) (w : World) (hD : PtC (mem w) D cs) : Calls Try.prog 99 #[.agg cs.toArray] w (RightV (rPt D 400) w) := by
  have hC := hD.ok
  have IE := Lib.hid (show (Try.prog.info? 128).map (·.size) = some cs.length from by rw [hC.1]; kernel_rfl)
  have RR := Lib.hid (range_new w 128 cs)
  have HC := Lib.hid (fun (W : World) (hW : Below w.heap.size w W) => rightPat_any D cs 400 W (by omega) (hD.mono (mem_below hW)))
  clear hD hC
  go_enter Try.func99, Try.ntmps99
  go_wp2_with (((with_reducible refine at_ld 3 ?_); refine wpList_load_mid rfl 128 (.tmp 1) rfl w.heap.size 0 rfl cs _ RR.out Try.underlying128 rfl IE.out ?_))
  refine (HC.out _ (bl1 w _)).mono ?_
  rintro e w2 ⟨rfl, hb3⟩
  have HB := Lib.hid (bl_tr (bl1 w _) hb3)
  clear hb3
  go_wp2_with fail
  go_ret
  exact ⟨rfl, HB.out⟩
theorem enters_RightPat : Enters Try.prog 99 := enters_any Try.func99 (by kernel_rfl) (by kernel_rfl)
end Go.Proofs.Ytfeghobfkgimfaa
