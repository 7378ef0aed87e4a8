/- How many parts are left: types, patterns. -/
import Derived.Test.YtfeghobfkgimfaaTreeR
import Derived.IntWalk
namespace Go.Proofs.Ytfeghobfkgimfaa
set_option linter.unusedSimpArgs false
set_option linter.unusedVariables false
open Go.RowKit Go.Shelf

theorem fewTys_neg (l : List Ty) (left : Int) (h : left < 0) : fewTys l left = left := by
  cases l with
  | nil => rw [fewTys]
  | cons x l => cases x; rw [fewTys, if_pos h]
set_option maxRecDepth 100000 in
set_option maxHeartbeats 2000000 in
theorem fewTys_any (n : Nat) : ∀ (l : List Ty) (v : Value) (left : Int) (w : World), SizeOf.sizeOf l < n → left ≤ 9223372036854775807 → TysV (mem w) l v →
    Calls Try.prog 113 #[v, .int .i64 left] w (NumV (fewTys l left) w) := by
  induction n with
  | zero => intro l v left w h; omega
  | succ n ih =>
    intro l v left w hn hleft hv
    obtain ⟨A, c, C, rfl, hc, hA, hC⟩ := hv
    have hn1 := le_of hc
    unfold maxLen at hn1
    have HA := Lib.hid hA; have HCC := Lib.hid hC; have HI := Lib.hid ih; have HS := Lib.hid hn
    have O1 : Hid (∀ i, i < l.length → (C i).length = 4) := Lib.hid (fun i hi => (hC i hi).len)
    clear hA hC ih hn hc
    obtain ⟨n1, e1⟩ : ∃ x, x = l.length := ⟨_, rfl⟩
    rw [← e1] at HA O1 hn1 ⊢
    have HN := Lib.hid e1
    clear e1
    go_enter Try.func113, Try.ntmps113
    go_wp2_with fail
    go_loopg [1, 5] n1 (fun gk z i wr => ∃ (q : Nat) (z0 : Int), q ≤ n1 ∧ gk = n1 - q ∧ i = .int .i64 q ∧ z = .int .i64 z0 ∧ z0 ≤ left ∧ Hid (Below w.heap.size w wr) ∧ Hid (fewTys (l.drop q) z0 = fewTys l left))
    case atStart => exact ⟨0, left, Nat.zero_le _, rfl, rfl, rfl, Int.le_refl _, Lib.hid (Below.refl _ _), Lib.hid rfl⟩
    case round =>
      obtain ⟨q, z, hq, rfl, rfl, rfl, hz, HBR, HF⟩ := hrel
      by_cases hlt : q < n1
      · by_cases hneg : z < 0
        · have d0 : decide (0 ≤ z) = false := by simp; omega
          have hk1 : (q : Int) < (n1 : Int) := by omega
          go_wp2_with fail
          go_ret
          exact ⟨ret_i (by rw [← HF.out, fewTys_neg _ _ hneg]), HBR.out⟩
        · have hz0 : 0 ≤ z := by omega
          have d0 : decide (0 ≤ z) = true := by simp; omega
          obtain ⟨g, o, rfl, hc1⟩ := HA.out (by omega)
          have hql : q < l.length := by rw [← HN.out]; exact hlt
          have hcq := HCC.out q hql
          have r1 := range_at HBR.out hc1 hlt (O1.out q hlt)
          have hdrop := List.drop_eq_getElem_cons hql
          have hmem := List.sizeOf_lt_of_mem (List.getElem_mem hql)
          obtain ⟨x, hx⟩ : ∃ x, x = l[q] := ⟨_, rfl⟩
          rw [← hx] at hcq hdrop hmem
          obtain ⟨k, a, s, args⟩ := x
          obtain ⟨v', ec, hv'⟩ := hcq.inv
          have hsz := hcq.size
          unfold maxLen at hsz
          rw [ec] at r1
          have hstep : fewTys (l.drop q) z = fewTys (l.drop (q + 1)) (fewTys args (z - 1 - (s.size : Int) / 100)) := by rw [hdrop, fewTys, if_neg hneg]
          have hgone := (fewTys_g args (z - 1 - (s.size : Int) / 100)).1
          have hcall := fun (W : World) (hW : Below w.heap.size w W) => HI.out args v' (z - 1 - (s.size : Int) / 100) W (by simp at hmem; have := HS.out; omega) (by have : 0 ≤ (s.size : Int) / 100 := Int.ediv_nonneg (by omega) (by omega); omega) (hv'.mono (mem_below hW))
          have B1 : ∀ w', Below wr.heap.size wr w' → w'.cell? ⟨g, o + q * 4 + 2, none⟩ = some (.string s) := fun w' hw' => (range_on r1 hw') 2 _ rfl
          have B2 : ∀ w', Below wr.heap.size wr w' → w'.cell? ⟨g, o + q * 4 + 3, none⟩ = some v' := fun w' hw' => (range_on r1 hw') 3 _ rfl
          have HST := Lib.hid hstep
          have hk1 : (q : Int) < (n1 : Int) := by omega
          have hk0 : (0 : Int) ≤ (q : Int) := by omega
          have hdiv : 0 ≤ (s.size : Int) / 100 := Int.ediv_nonneg (by omega) (by omega)
          have hdiv2 : (s.size : Int) / 100 ≤ 92233720368547758 := by omega
          have w0' : IntKind.i64.wrap ((s.size : Int) / 100) = (s.size : Int) / 100 := IntWalk.i64_in _ (by omega)
          have w1 : IntKind.i64.wrap (z - 1) = z - 1 := IntWalk.i64_in _ (by omega)
          have w2' : IntKind.i64.wrap (z - 1 - (s.size : Int) / 100) = z - 1 - (s.size : Int) / 100 := IntWalk.i64_in _ (by omega)
          have hz1 : fewTys args (z - 1 - (s.size : Int) / 100) ≤ left := by omega
          obtain ⟨y, hy⟩ : ∃ y, y = fewTys args (z - 1 - (s.size : Int) / 100) := ⟨_, rfl⟩
          rw [← hy] at hcall hz1
          have HCQ := Lib.hid hcall; have HWR := HBR; have HY := Lib.hid hy
          clear hc1 r1 ec hv' hdrop hmem hx hcq hstep hgone hcall hy hdiv hdiv2
          go_wp2_with fail
          refine wp_region_held_drew (S := fun w' => Below wr.heap.size wr w') (by kernel_rfl) (Below.drew (Below.refl _ _)) (fun hHeld => ?_)
          refine wpAnyH_take (i := 0) (v := ?_) rfl (by kernel_rfl) (by kernel_rfl) (by kernel_rfl) (fun _ _ _ h => h) (Or.inl ⟨by rfl, ?_⟩) hHeld ?_
          rotate_left
          · (intro wS hSw; (try dsimp only at hSw); go_simp; try with_reducible rfl)
          (try simp only [Act.put, List.getElem_toArray, List.getElem_cons_zero, List.getElem_cons_succ, List.setIfInBounds_toArray, List.set_cons_zero, List.set_cons_succ])
          refine wpAnyH_take (i := 1) (v := ?_) rfl (by kernel_rfl) (by kernel_rfl) (by kernel_rfl) (fun _ _ _ h => h) (Or.inl ⟨by rfl, ?_⟩) hHeld ?_
          rotate_left
          · (intro wS hSw; (try dsimp only at hSw); go_simp; try with_reducible rfl)
          (try simp only [Act.put, List.getElem_toArray, List.getElem_cons_zero, List.getElem_cons_succ, List.setIfInBounds_toArray, List.set_cons_zero, List.set_cons_succ])
          refine wpAnyH_take (i := 2) (v := ?_) rfl (by kernel_rfl) (by kernel_rfl) (by kernel_rfl) (fun _ _ _ h => h) (Or.inl ⟨by rfl, ?_⟩) hHeld ?_
          rotate_left
          · (intro wS hSw; (try dsimp only at hSw); go_simp; try with_reducible rfl)
          (try simp only [Act.put, List.getElem_toArray, List.getElem_cons_zero, List.getElem_cons_succ, List.setIfInBounds_toArray, List.set_cons_zero, List.set_cons_succ])
          refine wpAnyH_take (i := 3) (v := ?_) rfl (by kernel_rfl) (by kernel_rfl) (by kernel_rfl) (fun _ _ _ h => h) (Or.inl ⟨by rfl, ?_⟩) hHeld ?_
          rotate_left
          · (intro wS hSw; (try dsimp only at hSw); go_simp; try with_reducible rfl)
          (try simp only [Act.put, List.getElem_toArray, List.getElem_cons_zero, List.getElem_cons_succ, List.setIfInBounds_toArray, List.set_cons_zero, List.set_cons_succ])
          refine wpAnyH_take (i := 4) (v := ?_) rfl (by kernel_rfl) (by kernel_rfl) (by kernel_rfl) (fun _ _ _ h => h) (Or.inl ⟨by rfl, ?_⟩) hHeld ?_
          rotate_left
          · (intro wS hSw; (try dsimp only at hSw); go_simp; try with_reducible rfl)
          (try simp only [Act.put, List.getElem_toArray, List.getElem_cons_zero, List.getElem_cons_succ, List.setIfInBounds_toArray, List.set_cons_zero, List.set_cons_succ])
          refine wpAnyH_take (i := 5) (v := ?_) rfl (by kernel_rfl) (by kernel_rfl) (by kernel_rfl) (fun _ _ _ h => h) (Or.inl ⟨by rfl, ?_⟩) hHeld ?_
          rotate_left
          · (intro wS hSw; (try dsimp only at hSw); go_simp; try with_reducible rfl)
          (try simp only [Act.put, List.getElem_toArray, List.getElem_cons_zero, List.getElem_cons_succ, List.setIfInBounds_toArray, List.set_cons_zero, List.set_cons_succ])
          refine wpAnyH_take (i := 6) (v := ?_) rfl (by kernel_rfl) (by kernel_rfl) (by kernel_rfl) (fun _ _ _ h => h) (Or.inl ⟨by rfl, ?_⟩) hHeld ?_
          rotate_left
          · (intro wS hSw; (try dsimp only at hSw); go_simp; try with_reducible rfl)
          (try simp only [Act.put, List.getElem_toArray, List.getElem_cons_zero, List.getElem_cons_succ, List.setIfInBounds_toArray, List.set_cons_zero, List.set_cons_succ])
          refine wpAnyH_take (i := 7) (v := ?_) rfl (by kernel_rfl) (by kernel_rfl) (by kernel_rfl) (fun _ _ _ h => h) (Or.inl ⟨by rfl, ?_⟩) hHeld ?_
          rotate_left
          · (intro wS hSw; (try dsimp only at hSw); go_simp; try with_reducible rfl)
          (try simp only [Act.put, List.getElem_toArray, List.getElem_cons_zero, List.getElem_cons_succ, List.setIfInBounds_toArray, List.set_cons_zero, List.set_cons_succ])
          refine wpAnyH_take (i := 8) (v := ?_) rfl (by kernel_rfl) (by kernel_rfl) (by kernel_rfl) (fun _ _ _ h => h) (Or.inl ⟨by rfl, ?_⟩) hHeld ?_
          rotate_left
          · (intro wS hSw; (try dsimp only at hSw); go_simp; try with_reducible rfl)
          (try simp only [Act.put, List.getElem_toArray, List.getElem_cons_zero, List.getElem_cons_succ, List.setIfInBounds_toArray, List.set_cons_zero, List.set_cons_succ])
          refine wpAnyH_take (i := 9) (v := ?_) rfl (by kernel_rfl) (by kernel_rfl) (by kernel_rfl) (fun _ _ _ h => h) (Or.inl ⟨by rfl, ?_⟩) hHeld ?_
          rotate_left
          · (intro wS hSw; (try dsimp only at hSw); go_simp; try with_reducible rfl)
          (try simp only [Act.put, List.getElem_toArray, List.getElem_cons_zero, List.getElem_cons_succ, List.setIfInBounds_toArray, List.set_cons_zero, List.set_cons_succ])
          refine wpAnyH_take (i := 10) (v := ?_) rfl (by kernel_rfl) (by kernel_rfl) (by kernel_rfl) (fun _ _ _ h => h) (Or.inl ⟨by rfl, ?_⟩) hHeld ?_
          rotate_left
          · (intro wS hSw; (try dsimp only at hSw); go_simp; try with_reducible rfl)
          (try simp only [Act.put, List.getElem_toArray, List.getElem_cons_zero, List.getElem_cons_succ, List.setIfInBounds_toArray, List.set_cons_zero, List.set_cons_succ])
          refine wpAnyH_take (i := 11) (v := ?_) rfl (by kernel_rfl) (by kernel_rfl) (by kernel_rfl) (fun _ _ _ h => h) (Or.inl ⟨by rfl, ?_⟩) hHeld ?_
          rotate_left
          · (intro wS hSw; (try dsimp only at hSw); go_simp; try with_reducible rfl)
          (try simp only [Act.put, List.getElem_toArray, List.getElem_cons_zero, List.getElem_cons_succ, List.setIfInBounds_toArray, List.set_cons_zero, List.set_cons_succ])
          refine wpAnyH_take (i := 12) (v := ?_) rfl (by kernel_rfl) (by kernel_rfl) (by kernel_rfl) (fun _ _ _ h => h) (Or.inl ⟨by rfl, ?_⟩) hHeld ?_
          rotate_left
          · (intro wS hSw; (try dsimp only at hSw); go_simp; try with_reducible rfl)
          (try simp only [Act.put, List.getElem_toArray, List.getElem_cons_zero, List.getElem_cons_succ, List.setIfInBounds_toArray, List.set_cons_zero, List.set_cons_succ])
          refine wpAnyH_take (i := 13) (v := ?_) rfl (by kernel_rfl) (by kernel_rfl) (by kernel_rfl) (fun _ _ _ h => h) (Or.inl ⟨by rfl, ?_⟩) hHeld ?_
          rotate_left
          · (intro wS hSw; (try dsimp only at hSw); go_simp; try with_reducible rfl)
          (try simp only [Act.put, List.getElem_toArray, List.getElem_cons_zero, List.getElem_cons_succ, List.setIfInBounds_toArray, List.set_cons_zero, List.set_cons_succ])
          refine wpAnyH_take (i := 14) (v := ?_) rfl (by kernel_rfl) (by kernel_rfl) (by kernel_rfl) (fun _ _ _ h => h) (Or.inl ⟨by rfl, ?_⟩) hHeld ?_
          rotate_left
          · (intro wS hSw; (try dsimp only at hSw); go_simp; try with_reducible rfl)
          (try simp only [Act.put, List.getElem_toArray, List.getElem_cons_zero, List.getElem_cons_succ, List.setIfInBounds_toArray, List.set_cons_zero, List.set_cons_succ])
          refine wpAnyH_ready (rs := [15]) (by kernel_rfl) (by simp) ?_
          refine AllReadyH.cons rfl (fun K hK => ?_) AllReadyH.nil
          (try simp only [List.getElem_toArray, List.getElem_cons_zero, List.getElem_cons_succ, List.setIfInBounds_toArray, List.set_cons_zero, List.set_cons_succ])
          try go_simp
          refine (HCQ.out _ (bl_tr HWR.out (Below.drew (Below.refl _ _)))).mono ?_; rintro e w2 ⟨rfl, hb2⟩; have HBN : Hid (Below wr.heap.size wr w2) := Lib.hid (bl_tr (Below.drew (Below.refl _ _)) hb2); clear hb2
          try go_simp
          refine hK.out _ _ ?_ (fun hHeld => ?_)
          · exact HBN.out
          (try simp only [Act.put, List.getElem_toArray, List.getElem_cons_zero, List.getElem_cons_succ, List.setIfInBounds_toArray, List.set_cons_zero, List.set_cons_succ])
          refine wpAnyH_take (i := 16) (v := ?_) rfl (by kernel_rfl) (by kernel_rfl) (by kernel_rfl) (fun _ _ _ h => h) (Or.inl ⟨by rfl, ?_⟩) hHeld ?_
          rotate_left
          · (intro wS hSw; (try dsimp only at hSw); go_simp; try with_reducible rfl)
          (try simp only [Act.put, List.getElem_toArray, List.getElem_cons_zero, List.getElem_cons_succ, List.setIfInBounds_toArray, List.set_cons_zero, List.set_cons_succ])
          refine wpAnyH_done (by kernel_rfl) ?_ _
          go_wp2_with fail
          go_roundg (n1 - (q + 1))
          case measure => omega
          case rel => exact ⟨q + 1, y, by omega, rfl, by go_num, rfl, hz1, Lib.hid (bl_tr HBR.out HBN.out), Lib.hid (by rw [← HF.out, HST.out, ← HY.out])⟩
      · obtain rfl : q = n1 := by omega
        go_wp2_with fail
        go_ret
        exact ⟨ret_i (by
          rw [← HF.out, HN.out, List.drop_length]
          rw [fewTys]), HBR.out⟩

theorem fewPts_neg (l : List Pt) (left : Int) (h : left < 0) : fewPts l left = left := by
  cases l with
  | nil => rw [fewPts]
  | cons x l => cases x; rw [fewPts, if_pos h]
set_option maxRecDepth 100000 in
set_option maxHeartbeats 2000000 in
theorem fewPts_any (n : Nat) : ∀ (l : List Pt) (v : Value) (left : Int) (w : World), SizeOf.sizeOf l < n → left ≤ 9223372036854775807 → PtsV (mem w) l v →
    Calls Try.prog 87 #[v, .int .i64 left] w (NumV (fewPts l left) w) := by
  induction n with
  | zero => intro l v left w h; omega
  | succ n ih =>
    intro l v left w hn hleft hv
    obtain ⟨A, c, C, rfl, hc, hA, hC⟩ := hv
    have hn1 := le_of hc
    unfold maxLen at hn1
    have HA := Lib.hid hA; have HCC := Lib.hid hC; have HI := Lib.hid ih; have HS := Lib.hid hn
    have O1 : Hid (∀ i, i < l.length → (C i).length = 5) := Lib.hid (fun i hi => (hC i hi).len)
    clear hA hC ih hn hc
    obtain ⟨n1, e1⟩ : ∃ x, x = l.length := ⟨_, rfl⟩
    rw [← e1] at HA O1 hn1 ⊢
    have HN := Lib.hid e1
    clear e1
    go_enter Try.func87, Try.ntmps87
    go_wp2_with fail
    go_loopg [1, 5] n1 (fun gk z i wr => ∃ (q : Nat) (z0 : Int), q ≤ n1 ∧ gk = n1 - q ∧ i = .int .i64 q ∧ z = .int .i64 z0 ∧ z0 ≤ left ∧ Hid (Below w.heap.size w wr) ∧ Hid (fewPts (l.drop q) z0 = fewPts l left))
    case atStart => exact ⟨0, left, Nat.zero_le _, rfl, rfl, rfl, Int.le_refl _, Lib.hid (Below.refl _ _), Lib.hid rfl⟩
    case round =>
      obtain ⟨q, z, hq, rfl, rfl, rfl, hz, HBR, HF⟩ := hrel
      by_cases hlt : q < n1
      · by_cases hneg : z < 0
        · have d0 : decide (0 ≤ z) = false := by simp; omega
          have hk1 : (q : Int) < (n1 : Int) := by omega
          go_wp2_with fail
          go_ret
          exact ⟨ret_i (by rw [← HF.out, fewPts_neg _ _ hneg]), HBR.out⟩
        · have hz0 : 0 ≤ z := by omega
          have d0 : decide (0 ≤ z) = true := by simp; omega
          obtain ⟨g, o, rfl, hc1⟩ := HA.out (by omega)
          have hql : q < l.length := by rw [← HN.out]; exact hlt
          have hcq := HCC.out q hql
          have r1 := range_at HBR.out hc1 hlt (O1.out q hlt)
          have hdrop := List.drop_eq_getElem_cons hql
          have hmem := List.sizeOf_lt_of_mem (List.getElem_mem hql)
          obtain ⟨x, hx⟩ : ∃ x, x = l[q] := ⟨_, rfl⟩
          rw [← hx] at hcq hdrop hmem
          obtain ⟨k, a, s, m, args⟩ := x
          obtain ⟨v', ec, hv'⟩ := hcq.inv
          have hsz := hcq.size
          unfold maxLen at hsz
          rw [ec] at r1
          have hstep : fewPts (l.drop q) z = fewPts (l.drop (q + 1)) (fewPts args (z - 1 - (s.size : Int) / 100)) := by rw [hdrop, fewPts, if_neg hneg]
          have hgone := (fewPts_g args (z - 1 - (s.size : Int) / 100)).1
          have hcall := fun (W : World) (hW : Below w.heap.size w W) => HI.out args v' (z - 1 - (s.size : Int) / 100) W (by simp at hmem; have := HS.out; omega) (by have : 0 ≤ (s.size : Int) / 100 := Int.ediv_nonneg (by omega) (by omega); omega) (hv'.mono (mem_below hW))
          have B1 : ∀ w', Below wr.heap.size wr w' → w'.cell? ⟨g, o + q * 5 + 2, none⟩ = some (.string s) := fun w' hw' => (range_on r1 hw') 2 _ rfl
          have B2 : ∀ w', Below wr.heap.size wr w' → w'.cell? ⟨g, o + q * 5 + 4, none⟩ = some v' := fun w' hw' => (range_on r1 hw') 4 _ rfl
          have HST := Lib.hid hstep
          have hk1 : (q : Int) < (n1 : Int) := by omega
          have hk0 : (0 : Int) ≤ (q : Int) := by omega
          have hdiv : 0 ≤ (s.size : Int) / 100 := Int.ediv_nonneg (by omega) (by omega)
          have hdiv2 : (s.size : Int) / 100 ≤ 92233720368547758 := by omega
          have w0' : IntKind.i64.wrap ((s.size : Int) / 100) = (s.size : Int) / 100 := IntWalk.i64_in _ (by omega)
          have w1 : IntKind.i64.wrap (z - 1) = z - 1 := IntWalk.i64_in _ (by omega)
          have w2' : IntKind.i64.wrap (z - 1 - (s.size : Int) / 100) = z - 1 - (s.size : Int) / 100 := IntWalk.i64_in _ (by omega)
          have hz1 : fewPts args (z - 1 - (s.size : Int) / 100) ≤ left := by omega
          obtain ⟨y, hy⟩ : ∃ y, y = fewPts args (z - 1 - (s.size : Int) / 100) := ⟨_, rfl⟩
          rw [← hy] at hcall hz1
          have HCQ := Lib.hid hcall; have HWR := HBR; have HY := Lib.hid hy
          clear hc1 r1 ec hv' hdrop hmem hx hcq hstep hgone hcall hy hdiv hdiv2
          go_wp2_with fail
          refine wp_region_held_drew (S := fun w' => Below wr.heap.size wr w') (by kernel_rfl) (Below.drew (Below.refl _ _)) (fun hHeld => ?_)
          refine wpAnyH_take (i := 0) (v := ?_) rfl (by kernel_rfl) (by kernel_rfl) (by kernel_rfl) (fun _ _ _ h => h) (Or.inl ⟨by rfl, ?_⟩) hHeld ?_
          rotate_left
          · (intro wS hSw; (try dsimp only at hSw); go_simp; try with_reducible rfl)
          (try simp only [Act.put, List.getElem_toArray, List.getElem_cons_zero, List.getElem_cons_succ, List.setIfInBounds_toArray, List.set_cons_zero, List.set_cons_succ])
          refine wpAnyH_take (i := 1) (v := ?_) rfl (by kernel_rfl) (by kernel_rfl) (by kernel_rfl) (fun _ _ _ h => h) (Or.inl ⟨by rfl, ?_⟩) hHeld ?_
          rotate_left
          · (intro wS hSw; (try dsimp only at hSw); go_simp; try with_reducible rfl)
          (try simp only [Act.put, List.getElem_toArray, List.getElem_cons_zero, List.getElem_cons_succ, List.setIfInBounds_toArray, List.set_cons_zero, List.set_cons_succ])
          refine wpAnyH_take (i := 2) (v := ?_) rfl (by kernel_rfl) (by kernel_rfl) (by kernel_rfl) (fun _ _ _ h => h) (Or.inl ⟨by rfl, ?_⟩) hHeld ?_
          rotate_left
          · (intro wS hSw; (try dsimp only at hSw); go_simp; try with_reducible rfl)
          (try simp only [Act.put, List.getElem_toArray, List.getElem_cons_zero, List.getElem_cons_succ, List.setIfInBounds_toArray, List.set_cons_zero, List.set_cons_succ])
          refine wpAnyH_take (i := 3) (v := ?_) rfl (by kernel_rfl) (by kernel_rfl) (by kernel_rfl) (fun _ _ _ h => h) (Or.inl ⟨by rfl, ?_⟩) hHeld ?_
          rotate_left
          · (intro wS hSw; (try dsimp only at hSw); go_simp; try with_reducible rfl)
          (try simp only [Act.put, List.getElem_toArray, List.getElem_cons_zero, List.getElem_cons_succ, List.setIfInBounds_toArray, List.set_cons_zero, List.set_cons_succ])
          refine wpAnyH_take (i := 4) (v := ?_) rfl (by kernel_rfl) (by kernel_rfl) (by kernel_rfl) (fun _ _ _ h => h) (Or.inl ⟨by rfl, ?_⟩) hHeld ?_
          rotate_left
          · (intro wS hSw; (try dsimp only at hSw); go_simp; try with_reducible rfl)
          (try simp only [Act.put, List.getElem_toArray, List.getElem_cons_zero, List.getElem_cons_succ, List.setIfInBounds_toArray, List.set_cons_zero, List.set_cons_succ])
          refine wpAnyH_take (i := 5) (v := ?_) rfl (by kernel_rfl) (by kernel_rfl) (by kernel_rfl) (fun _ _ _ h => h) (Or.inl ⟨by rfl, ?_⟩) hHeld ?_
          rotate_left
          · (intro wS hSw; (try dsimp only at hSw); go_simp; try with_reducible rfl)
          (try simp only [Act.put, List.getElem_toArray, List.getElem_cons_zero, List.getElem_cons_succ, List.setIfInBounds_toArray, List.set_cons_zero, List.set_cons_succ])
          refine wpAnyH_take (i := 6) (v := ?_) rfl (by kernel_rfl) (by kernel_rfl) (by kernel_rfl) (fun _ _ _ h => h) (Or.inl ⟨by rfl, ?_⟩) hHeld ?_
          rotate_left
          · (intro wS hSw; (try dsimp only at hSw); go_simp; try with_reducible rfl)
          (try simp only [Act.put, List.getElem_toArray, List.getElem_cons_zero, List.getElem_cons_succ, List.setIfInBounds_toArray, List.set_cons_zero, List.set_cons_succ])
          refine wpAnyH_take (i := 7) (v := ?_) rfl (by kernel_rfl) (by kernel_rfl) (by kernel_rfl) (fun _ _ _ h => h) (Or.inl ⟨by rfl, ?_⟩) hHeld ?_
          rotate_left
          · (intro wS hSw; (try dsimp only at hSw); go_simp; try with_reducible rfl)
          (try simp only [Act.put, List.getElem_toArray, List.getElem_cons_zero, List.getElem_cons_succ, List.setIfInBounds_toArray, List.set_cons_zero, List.set_cons_succ])
          refine wpAnyH_take (i := 8) (v := ?_) rfl (by kernel_rfl) (by kernel_rfl) (by kernel_rfl) (fun _ _ _ h => h) (Or.inl ⟨by rfl, ?_⟩) hHeld ?_
          rotate_left
          · (intro wS hSw; (try dsimp only at hSw); go_simp; try with_reducible rfl)
          (try simp only [Act.put, List.getElem_toArray, List.getElem_cons_zero, List.getElem_cons_succ, List.setIfInBounds_toArray, List.set_cons_zero, List.set_cons_succ])
          refine wpAnyH_take (i := 9) (v := ?_) rfl (by kernel_rfl) (by kernel_rfl) (by kernel_rfl) (fun _ _ _ h => h) (Or.inl ⟨by rfl, ?_⟩) hHeld ?_
          rotate_left
          · (intro wS hSw; (try dsimp only at hSw); go_simp; try with_reducible rfl)
          (try simp only [Act.put, List.getElem_toArray, List.getElem_cons_zero, List.getElem_cons_succ, List.setIfInBounds_toArray, List.set_cons_zero, List.set_cons_succ])
          refine wpAnyH_take (i := 10) (v := ?_) rfl (by kernel_rfl) (by kernel_rfl) (by kernel_rfl) (fun _ _ _ h => h) (Or.inl ⟨by rfl, ?_⟩) hHeld ?_
          rotate_left
          · (intro wS hSw; (try dsimp only at hSw); go_simp; try with_reducible rfl)
          (try simp only [Act.put, List.getElem_toArray, List.getElem_cons_zero, List.getElem_cons_succ, List.setIfInBounds_toArray, List.set_cons_zero, List.set_cons_succ])
          refine wpAnyH_take (i := 11) (v := ?_) rfl (by kernel_rfl) (by kernel_rfl) (by kernel_rfl) (fun _ _ _ h => h) (Or.inl ⟨by rfl, ?_⟩) hHeld ?_
          rotate_left
          · (intro wS hSw; (try dsimp only at hSw); go_simp; try with_reducible rfl)
          (try simp only [Act.put, List.getElem_toArray, List.getElem_cons_zero, List.getElem_cons_succ, List.setIfInBounds_toArray, List.set_cons_zero, List.set_cons_succ])
          refine wpAnyH_take (i := 12) (v := ?_) rfl (by kernel_rfl) (by kernel_rfl) (by kernel_rfl) (fun _ _ _ h => h) (Or.inl ⟨by rfl, ?_⟩) hHeld ?_
          rotate_left
          · (intro wS hSw; (try dsimp only at hSw); go_simp; try with_reducible rfl)
          (try simp only [Act.put, List.getElem_toArray, List.getElem_cons_zero, List.getElem_cons_succ, List.setIfInBounds_toArray, List.set_cons_zero, List.set_cons_succ])
          refine wpAnyH_take (i := 13) (v := ?_) rfl (by kernel_rfl) (by kernel_rfl) (by kernel_rfl) (fun _ _ _ h => h) (Or.inl ⟨by rfl, ?_⟩) hHeld ?_
          rotate_left
          · (intro wS hSw; (try dsimp only at hSw); go_simp; try with_reducible rfl)
          (try simp only [Act.put, List.getElem_toArray, List.getElem_cons_zero, List.getElem_cons_succ, List.setIfInBounds_toArray, List.set_cons_zero, List.set_cons_succ])
          refine wpAnyH_take (i := 14) (v := ?_) rfl (by kernel_rfl) (by kernel_rfl) (by kernel_rfl) (fun _ _ _ h => h) (Or.inl ⟨by rfl, ?_⟩) hHeld ?_
          rotate_left
          · (intro wS hSw; (try dsimp only at hSw); go_simp; try with_reducible rfl)
          (try simp only [Act.put, List.getElem_toArray, List.getElem_cons_zero, List.getElem_cons_succ, List.setIfInBounds_toArray, List.set_cons_zero, List.set_cons_succ])
          refine wpAnyH_ready (rs := [15]) (by kernel_rfl) (by simp) ?_
          refine AllReadyH.cons rfl (fun K hK => ?_) AllReadyH.nil
          (try simp only [List.getElem_toArray, List.getElem_cons_zero, List.getElem_cons_succ, List.setIfInBounds_toArray, List.set_cons_zero, List.set_cons_succ])
          try go_simp
          refine (HCQ.out _ (bl_tr HWR.out (Below.drew (Below.refl _ _)))).mono ?_; rintro e w2 ⟨rfl, hb2⟩; have HBN : Hid (Below wr.heap.size wr w2) := Lib.hid (bl_tr (Below.drew (Below.refl _ _)) hb2); clear hb2
          try go_simp
          refine hK.out _ _ ?_ (fun hHeld => ?_)
          · exact HBN.out
          (try simp only [Act.put, List.getElem_toArray, List.getElem_cons_zero, List.getElem_cons_succ, List.setIfInBounds_toArray, List.set_cons_zero, List.set_cons_succ])
          refine wpAnyH_take (i := 16) (v := ?_) rfl (by kernel_rfl) (by kernel_rfl) (by kernel_rfl) (fun _ _ _ h => h) (Or.inl ⟨by rfl, ?_⟩) hHeld ?_
          rotate_left
          · (intro wS hSw; (try dsimp only at hSw); go_simp; try with_reducible rfl)
          (try simp only [Act.put, List.getElem_toArray, List.getElem_cons_zero, List.getElem_cons_succ, List.setIfInBounds_toArray, List.set_cons_zero, List.set_cons_succ])
          refine wpAnyH_done (by kernel_rfl) ?_ _
          go_wp2_with fail
          go_roundg (n1 - (q + 1))
          case measure => omega
          case rel => exact ⟨q + 1, y, by omega, rfl, by go_num, rfl, hz1, Lib.hid (bl_tr HBR.out HBN.out), Lib.hid (by rw [← HF.out, HST.out, ← HY.out])⟩
      · obtain rfl : q = n1 := by omega
        go_wp2_with fail
        go_ret
        exact ⟨ret_i (by
          rw [← HF.out, HN.out, List.drop_length]
          rw [fewPts]), HBR.out⟩
end Go.Proofs.Ytfeghobfkgimfaa
