/- The document's SameType, samePats, SamePat, walked. -/
import Derived.Test.YtfeghobfkgimfaaGreatTreeR
namespace Go.Proofs.YtfeghobfkgimfaaGreat
set_option linter.unusedSimpArgs false
set_option linter.unusedVariables false
open Go.RowKit Go.Shelf

theorem len3 {C : List Value} (h : C.length = 3) : ∃ c0 c1 c2, C = [c0, c1, c2] := by
  match C, h with
  | [c0, c1, c2], _ => exact ⟨_, _, _, rfl⟩
theorem fen4 {C : List Value} (h : C.length = 4) : ∃ c0 c1 c2 c3, C = [c0, c1, c2, c3] := by
  match C, h with
  | [c0, c1, c2, c3], _ => exact ⟨_, _, _, _, rfl⟩
theorem fen5 {C : List Value} (h : C.length = 5) : ∃ c0 c1 c2 c3 c4, C = [c0, c1, c2, c3, c4] := by
  match C, h with
  | [c0, c1, c2, c3, c4], _ => exact ⟨_, _, _, _, _, rfl⟩
theorem fen8 {C : List Value} (h : C.length = 8) : ∃ c0 c1 c2 c3 c4 c5 c6 c7, C = [c0, c1, c2, c3, c4, c5, c6, c7] := by
  match C, h with
  | [c0, c1, c2, c3, c4, c5, c6, c7], _ => exact ⟨_, _, _, _, _, _, _, _, rfl⟩
theorem len13 {C : List Value} (h : C.length = 13) : ∃ c0 c1 c2 c3 c4 c5 c6 c7 c8 c9 c10 c11 c12, C = [c0, c1, c2, c3, c4, c5, c6, c7, c8, c9, c10, c11, c12] := by
  match C, h with
  | [c0, c1, c2, c3, c4, c5, c6, c7, c8, c9, c10, c11, c12], _ => exact ⟨_, _, _, _, _, _, _, _, _, _, _, _, _, rfl⟩
theorem len18 {C : List Value} (h : C.length = 18) : ∃ c0 c1 c2 c3 c4 c5 c6 c7 c8 c9 c10 c11 c12 c13 c14 c15 c16 c17, C = [c0, c1, c2, c3, c4, c5, c6, c7, c8, c9, c10, c11, c12, c13, c14, c15, c16, c17] := by
  match C, h with
  | [c0, c1, c2, c3, c4, c5, c6, c7, c8, c9, c10, c11, c12, c13, c14, c15, c16, c17], _ => exact ⟨_, _, _, _, _, _, _, _, _, _, _, _, _, _, _, _, _, _, rfl⟩

set_option maxRecDepth 100000 in
set_option maxHeartbeats 2000000 in
theorem rsTy_any (n : Nat) : ∀ (D E : Ty) (cs ds : List Value) (w : World), SizeOf.sizeOf D < n → TyC (mem w) D cs → TyC (mem w) E ds →
    Calls Tryz.prog 12 #[.agg cs.toArray, .agg ds.toArray] w (RightV (sameTy D E) w) := by
  induction n with
  | zero => intro D E cs ds w h; omega
  | succ n ih =>
    intro D E cs ds w hn hD hE
    obtain ⟨k, a, s, l⟩ := D
    obtain ⟨k', a', s', l'⟩ := E
    obtain ⟨v, rfl, A, c, C, rfl, hc, hA, hC⟩ := hD.inv
    obtain ⟨v', rfl, A', c', C', rfl, hc', hA', hC'⟩ := hE.inv
    simp at hn
    have hres : sameTys l l' = eqB l.length l'.length (fun i => sameTy (l.getD i default) (l'.getD i default)) := sameTys_eqB l l' (fun i i1 i2 => by rw [get_of l i i1, get_of l' i i2])
    have hok : ∀ i, i < l.length → (C i).length = 4 := fun i hi => (hC i hi).len
    have hok' : ∀ i, i < l'.length → (C' i).length = 4 := fun i hi => (hC' i hi).len
    have hn1 := le_of hc
    unfold maxLen at hn1
    have hcall2 : ∀ i, i < l.length → i < l'.length → ∀ W, Below w.heap.size w W → Calls Tryz.prog 12 #[.agg (C i).toArray, .agg (C' i).toArray] W (RightV (sameTy (l.getD i default) (l'.getD i default)) W) := fun i i1 i2 W hb => by
      rw [get_of l i i1, get_of l' i i2]
      have := List.sizeOf_lt_of_mem (List.getElem_mem i1)
      exact ih l[i] l'[i] (C i) (C' i) W (by omega) ((hC i i1).mono (mem_below hb)) ((hC' i i2).mono (mem_below hb))
    have HC := Lib.hid hcall2; have HR := Lib.hid hres; have H1 := Lib.hid hA; have H2 := Lib.hid hA'; have O1 := Lib.hid hok; have O2 := Lib.hid hok'
    clear hcall2 hres hA hA' hC hC' hc hc' hD hE ih hn hok hok'
    rw [sameTy, HR.out]
    obtain ⟨n1, hnl⟩ : ∃ x, x = l.length := ⟨_, rfl⟩
    obtain ⟨n2, hnl'⟩ : ∃ x, x = l'.length := ⟨_, rfl⟩
    obtain ⟨R, hR⟩ : ∃ R : Nat → Bool, R = fun i => sameTy (l.getD i default) (l'.getD i default) := ⟨_, rfl⟩
    have hRi : ∀ i, sameTy (l.getD i default) (l'.getD i default) = R i := fun i => by rw [hR]
    simp only [hRi] at HC
    rw [← hR, ← hnl, ← hnl']
    rw [← hnl] at HC H1 O1 hn1; rw [← hnl'] at HC H2 O2
    clear hnl hnl' hR hRi HR
    by_cases ht0 : k = k'
    · subst ht0
      by_cases ht1 : s.toList = s'.toList
      · have f1 : (s.toList == s'.toList) = true := by simp [ht1]
        have f2 : (s.toList != s'.toList) = false := by simp [ht1]
        have e1 : ((k == k) && eqS s s') = true := by simp [eqS, ht1]
        rw [e1, Bool.true_and]
        clear e1
        by_cases hne : n1 = n2
        · subst hne
          rw [eqB_eq]
          have hb0 := bl2 w (.cells #[.int .i64 k, .int .i64 a, .string s, .slice A n1 c] 24) (.cells #[.int .i64 k, .int .i64 a', .string s', .slice A' n1 c'] 24)
          have hx : ((w.alloc (.cells #[.int .i64 k, .int .i64 a, .string s, .slice A n1 c] 24)).alloc (.cells #[.int .i64 k, .int .i64 a', .string s', .slice A' n1 c'] 24)).cell? ⟨w.heap.size, 3, none⟩ = some (.slice A n1 c) := (cell_of_row _ _ 3 _ _ _ (heap_alloc2_old w _ _)).trans rfl
          have hy : ((w.alloc (.cells #[.int .i64 k, .int .i64 a, .string s, .slice A n1 c] 24)).alloc (.cells #[.int .i64 k, .int .i64 a', .string s', .slice A' n1 c'] 24)).cell? ⟨w.heap.size + 1, 3, none⟩ = some (.slice A' n1 c') := (cell_of_row _ _ 3 _ _ _ (heap_alloc2_new w _ _)).trans rfl
          go_enter Tryz.func12, Tryz.ntmps12
          go_wp2_with fail
          obtain ⟨W0, hW0⟩ : ∃ W0, ((w.alloc (.cells #[.int .i64 k, .int .i64 a, .string s, .slice A n1 c] 24)).alloc (.cells #[.int .i64 k, .int .i64 a', .string s', .slice A' n1 c'] 24)) = W0 := ⟨_, rfl⟩
          rw [hW0] at hx hy hb0 ⊢
          have HX := Lib.hid hx; have HY := Lib.hid hy; have HB0 := Lib.hid hb0
          clear hW0 hx hy hb0
          go_loopg [5] n1 (fun gk i wr => ∃ q : Nat, q ≤ n1 ∧ gk = n1 - q ∧ i = .int .i64 q ∧ Hid (Below W0.heap.size W0 wr) ∧ Hid (∀ i, i < q → R i = true))
          case atStart => exact ⟨0, Nat.zero_le _, rfl, rfl, Lib.hid (Below.refl _ _), Lib.hid (fun i hi => absurd hi (by omega))⟩
          case round =>
            obtain ⟨q, hq, rfl, rfl, HBR, HALL⟩ := hrel
            have x5 : wr.cell? ⟨w.heap.size, 3, none⟩ = some (.slice A n1 c) := (HBR.out.cell (p := ⟨w.heap.size, 3, none⟩) (cell_lt HX.out)).trans HX.out
            have y5 : wr.cell? ⟨w.heap.size + 1, 3, none⟩ = some (.slice A' n1 c') := (HBR.out.cell (p := ⟨w.heap.size + 1, 3, none⟩) (cell_lt HY.out)).trans HY.out
            by_cases hlt : q < n1
            · obtain ⟨g, o, rfl, hc1⟩ := H1.out (by omega)
              obtain ⟨g', o', rfl, hc2⟩ := H2.out (by omega)
              have hwr := bl_tr HB0.out HBR.out
              have hcq := HC.out q hlt hlt
              have r1 := range_at hwr hc1 hlt (O1.out q hlt)
              have r2 := range_at hwr hc2 hlt (O2.out q hlt)
              have Bx5 : ∀ w', Below wr.heap.size wr w' → w'.cell? ⟨w.heap.size, 3, none⟩ = some (.slice (some ⟨g, o, none⟩) n1 c) := fun w' hw' => (hw'.cell (p := ⟨w.heap.size, 3, none⟩) (cell_lt x5)).trans x5
              have By5 : ∀ w', Below wr.heap.size wr w' → w'.cell? ⟨w.heap.size + 1, 3, none⟩ = some (.slice (some ⟨g', o', none⟩) n1 c') := fun w' hw' => (hw'.cell (p := ⟨w.heap.size + 1, 3, none⟩) (cell_lt y5)).trans y5
              obtain ⟨u0, u1, u2, u3, eu⟩ := fen4 (O1.out q hlt)
              rw [eu] at r1
              have Fu0 : ∀ w', Below wr.heap.size wr w' → w'.cell? ⟨g, o + q * 4, none⟩ = some u0 := fun w' hw' => (range_on r1 hw') 0 u0 rfl
              have Fu1 : ∀ w', Below wr.heap.size wr w' → w'.cell? ⟨g, o + q * 4 + 1, none⟩ = some u1 := fun w' hw' => (range_on r1 hw') 1 u1 rfl
              have Fu2 : ∀ w', Below wr.heap.size wr w' → w'.cell? ⟨g, o + q * 4 + 2, none⟩ = some u2 := fun w' hw' => (range_on r1 hw') 2 u2 rfl
              have Fu3 : ∀ w', Below wr.heap.size wr w' → w'.cell? ⟨g, o + q * 4 + 3, none⟩ = some u3 := fun w' hw' => (range_on r1 hw') 3 u3 rfl
              obtain ⟨v0, v1, v2, v3, ev⟩ := fen4 (O2.out q hlt)
              rw [ev] at r2
              have Fv0 : ∀ w', Below wr.heap.size wr w' → w'.cell? ⟨g', o' + q * 4, none⟩ = some v0 := fun w' hw' => (range_on r2 hw') 0 v0 rfl
              have Fv1 : ∀ w', Below wr.heap.size wr w' → w'.cell? ⟨g', o' + q * 4 + 1, none⟩ = some v1 := fun w' hw' => (range_on r2 hw') 1 v1 rfl
              have Fv2 : ∀ w', Below wr.heap.size wr w' → w'.cell? ⟨g', o' + q * 4 + 2, none⟩ = some v2 := fun w' hw' => (range_on r2 hw') 2 v2 rfl
              have Fv3 : ∀ w', Below wr.heap.size wr w' → w'.cell? ⟨g', o' + q * 4 + 3, none⟩ = some v3 := fun w' hw' => (range_on r2 hw') 3 v3 rfl
              rw [eu, ev] at hcq
              have HCQ := Lib.hid hcq; have HWR := Lib.hid hwr
              obtain ⟨r, hr⟩ : ∃ r, r = R q := ⟨_, rfl⟩
              rw [← hr] at HCQ
              have HRK := Lib.hid hr
              have hk1 : (q : Int) < (n1 : Int) := by omega
              have hk0 : (0 : Int) ≤ (q : Int) := by omega
              clear hc1 hc2 r1 r2 eu ev hwr hcq hr
              go_wp2_with fail
              go_region_held3 (fun w' => Below wr.heap.size wr w') (with_reducible first | exact HBN.out | assumption | exact Below.refl _ _ | exact Below.drew (Below.refl _ _)) ((go_at_call 12; refine (HCQ.out _ ?_).mono ?_; (next => exact bl_tr HWR.out (by with_reducible assumption)); rintro e w2 ⟨rfl, hb2⟩; have HBN : Hid (Below wr.heap.size wr w2) := Lib.hid (bl_tr (by with_reducible first | assumption | exact Below.refl _ _ | exact Below.drew (Below.refl _ _)) hb2); clear hb2))
              all_goals
                have HB9 := Lib.hid (bl_tr HBR.out HBN.out)
                cases r with
                | false =>
                  go_wp2_with fail
                  go_ret
                  exact ⟨ret_b (by simp [allB_false hlt HRK.out.symm]), bl_tr HB0.out HB9.out⟩
                | true =>
                  go_wp2_with fail
                  go_roundg (n1 - (q + 1))
                  case measure => omega
                  case rel => exact ⟨q + 1, by omega, rfl, by go_num, HB9, Lib.hid (fun i hi => by
                    by_cases h : i < q
                    · exact HALL.out i h
                    · obtain rfl : i = q := by omega
                      exact HRK.out.symm)⟩
            · obtain rfl : q = n1 := by omega
              go_wp2_with fail
              go_ret
              exact ⟨ret_b (allB_true.2 HALL.out).symm, bl_tr HB0.out HBR.out⟩
        · have g1 : ((n1 : Int) != (n2 : Int)) = true := by rw [bne_iff_ne]; omega
          rw [eqB_ne hne]
          go_enter Tryz.func12, Tryz.ntmps12
          go_wp2_with fail
          go_ret
          exact ⟨rfl, bl2 _ _ _⟩
      · have f1 : (s.toList == s'.toList) = false := by simpa using ht1
        have f2 : (s.toList != s'.toList) = true := by simpa using ht1
        go_enter Tryz.func12, Tryz.ntmps12
        go_wp2_with fail
        go_ret
        exact ⟨ret_b (by simp [eqS, ht1]), bl2 _ _ _⟩
    · have f1 : (k == k') = false := by simpa using ht0
      have f2 : (k != k') = true := by simpa using ht0
      go_enter Tryz.func12, Tryz.ntmps12
      go_wp2_with fail
      go_ret
      exact ⟨ret_b (by simp [ht0]), bl2 _ _ _⟩

set_option maxRecDepth 100000 in
set_option maxHeartbeats 2000000 in
theorem rsPts_of (l l' : List Pt) (v v' : Value) (w : World) (h : PtsV (mem w) l v) (h' : PtsV (mem w) l' v')
    (hcall : ∀ i (i1 : i < l.length) (i2 : i < l'.length) cs ds W, Below w.heap.size w W → PtC (mem w) l[i] cs → PtC (mem w) l'[i] ds → Calls Tryz.prog 9 #[.agg cs.toArray, .agg ds.toArray] W (RightV (samePt l[i] l'[i]) W)) :
    Calls Tryz.prog 25 #[v, v'] w (RightV (samePts l l') w) := by
  obtain ⟨A, c, C, rfl, hc, hA, hC⟩ := h
  obtain ⟨A', c', C', rfl, hc', hA', hC'⟩ := h'
  have hres : samePts l l' = eqB l.length l'.length (fun i => samePt (l.getD i default) (l'.getD i default)) := samePts_eqB l l' (fun i i1 i2 => by rw [get_of l i i1, get_of l' i i2])
  have hok : ∀ i, i < l.length → (C i).length = 5 := fun i hi => (hC i hi).len
  have hok' : ∀ i, i < l'.length → (C' i).length = 5 := fun i hi => (hC' i hi).len
  have hn1 := le_of hc
  unfold maxLen at hn1
  have hcall2 : ∀ i, i < l.length → i < l'.length → ∀ W, Below w.heap.size w W → Calls Tryz.prog 9 #[.agg (C i).toArray, .agg (C' i).toArray] W (RightV (samePt (l.getD i default) (l'.getD i default)) W) := fun i i1 i2 W hb => by
    rw [get_of l i i1, get_of l' i i2]
    exact hcall i i1 i2 (C i) (C' i) W hb (hC i i1) (hC' i i2)
  have HC := Lib.hid hcall2; have H1 := Lib.hid hA; have H2 := Lib.hid hA'; have O1 := Lib.hid hok; have O2 := Lib.hid hok'
  rw [hres]
  clear hcall hcall2 hres hA hA' hC hC' hc hc' hok hok'
  obtain ⟨n1, hnl⟩ : ∃ x, x = l.length := ⟨_, rfl⟩
  obtain ⟨n2, hnl'⟩ : ∃ x, x = l'.length := ⟨_, rfl⟩
  obtain ⟨R, hR⟩ : ∃ R : Nat → Bool, R = fun i => samePt (l.getD i default) (l'.getD i default) := ⟨_, rfl⟩
  have hRi : ∀ i, samePt (l.getD i default) (l'.getD i default) = R i := fun i => by rw [hR]
  simp only [hRi] at HC
  rw [← hR, ← hnl, ← hnl']
  rw [← hnl] at HC H1 O1 hn1; rw [← hnl'] at HC H2 O2
  clear hnl hnl' hR hRi
  by_cases hne : n1 = n2
  · subst hne
    rw [eqB_eq]
    go_enter Tryz.func25, Tryz.ntmps25
    go_wp2_with fail
    go_loopg [5] n1 (fun gk i wr => ∃ q : Nat, q ≤ n1 ∧ gk = n1 - q ∧ i = .int .i64 q ∧ Hid (Below w.heap.size w wr) ∧ Hid (∀ i, i < q → R i = true))
    case atStart => exact ⟨0, Nat.zero_le _, rfl, rfl, Lib.hid (Below.refl _ _), Lib.hid (fun i hi => absurd hi (by omega))⟩
    case round =>
      obtain ⟨q, hq, rfl, rfl, HBR, HALL⟩ := hrel
      by_cases hlt : q < n1
      · obtain ⟨g, o, rfl, hc1⟩ := H1.out (by omega)
        obtain ⟨g', o', rfl, hc2⟩ := H2.out (by omega)
        have hwr := HBR.out
        have hcq := HC.out q hlt hlt
        have r1 := range_at hwr hc1 hlt (O1.out q hlt)
        have r2 := range_at hwr hc2 hlt (O2.out q hlt)
        have RA := Lib.hid (fun (w' : World) (hw' : Below wr.heap.size wr w') => range_on r1 hw')
        have RB := Lib.hid (fun (w' : World) (hw' : Below wr.heap.size wr w') => range_on r2 hw')
        have IA := Lib.hid (show (Tryz.prog.info? 40).map (·.size) = some (C q).length from by rw [O1.out q hlt]; kernel_rfl)
        have IB := Lib.hid (show (Tryz.prog.info? 40).map (·.size) = some (C' q).length from by rw [O2.out q hlt]; kernel_rfl)
        have HCQ := Lib.hid hcq; have HWR := Lib.hid hwr
        obtain ⟨r, hr⟩ : ∃ r, r = R q := ⟨_, rfl⟩
        rw [← hr] at HCQ
        have HRK := Lib.hid hr
        have hk1 : (q : Int) < (n1 : Int) := by omega
        have hk0 : (0 : Int) ≤ (q : Int) := by omega
        clear hc1 hc2 r1 r2 hwr hcq hr
        go_wp2_with fail
        refine wp_region_held_drew (S := fun w' => Below wr.heap.size wr w') (by kernel_rfl) (Below.drew (Below.refl _ _)) (fun hHeld => ?_)
        refine wpAnyH_take (i := 0) (v := ?_) rfl (by kernel_rfl) (by kernel_rfl) (by kernel_rfl) (fun _ _ _ h => h) (Or.inl ⟨by rfl, ?_⟩) hHeld ?_
        rotate_left
        · (intro wS hSw; (try dsimp only at hSw); go_simp; try with_reducible rfl)
        (try simp only [Act.put, List.getElem_toArray, List.getElem_cons_zero, List.getElem_cons_succ, List.setIfInBounds_toArray, List.set_cons_zero, List.set_cons_succ])
        refine wpAnyH_take (i := 1) (v := ?_) rfl (by kernel_rfl) (by kernel_rfl) (by kernel_rfl) (fun _ _ _ h => h) (Or.inl ⟨by rfl, ?_⟩) hHeld ?_
        rotate_left
        · (intro wS hSw; (try dsimp only at hSw); go_simp; try with_reducible rfl)
        (try simp only [Act.put, List.getElem_toArray, List.getElem_cons_zero, List.getElem_cons_succ, List.setIfInBounds_toArray, List.set_cons_zero, List.set_cons_succ])
        refine wpAnyH_take (i := 2) (v := ?_) rfl (by kernel_rfl) (by kernel_rfl) (by kernel_rfl) (fun _ _ _ h => h) (Or.inl ⟨by rfl, ?_⟩) hHeld ?_
        rotate_left
        · (intro wS hSw; (try dsimp only at hSw); go_simp; try with_reducible rfl)
        (try simp only [Act.put, List.getElem_toArray, List.getElem_cons_zero, List.getElem_cons_succ, List.setIfInBounds_toArray, List.set_cons_zero, List.set_cons_succ])
        refine wpAnyH_take (i := 3) rfl (by kernel_rfl) (by kernel_rfl) (by kernel_rfl) (fun _ _ _ h => h) (yieldsIf_load_mid (by rfl) 40 (.tmp 19) rfl g (o + q * 5) rfl (C q) _ RA.out Tryz.underlying40 rfl IA.out) hHeld ?_
        (try simp only [Act.put, List.getElem_toArray, List.getElem_cons_zero, List.getElem_cons_succ, List.setIfInBounds_toArray, List.set_cons_zero, List.set_cons_succ])
        refine wpAnyH_take (i := 4) (v := ?_) rfl (by kernel_rfl) (by kernel_rfl) (by kernel_rfl) (fun _ _ _ h => h) (Or.inl ⟨by rfl, ?_⟩) hHeld ?_
        rotate_left
        · (intro wS hSw; (try dsimp only at hSw); go_simp; try with_reducible rfl)
        (try simp only [Act.put, List.getElem_toArray, List.getElem_cons_zero, List.getElem_cons_succ, List.setIfInBounds_toArray, List.set_cons_zero, List.set_cons_succ])
        refine wpAnyH_take (i := 5) (v := ?_) rfl (by kernel_rfl) (by kernel_rfl) (by kernel_rfl) (fun _ _ _ h => h) (Or.inl ⟨by rfl, ?_⟩) hHeld ?_
        rotate_left
        · (intro wS hSw; (try dsimp only at hSw); go_simp; try with_reducible rfl)
        (try simp only [Act.put, List.getElem_toArray, List.getElem_cons_zero, List.getElem_cons_succ, List.setIfInBounds_toArray, List.set_cons_zero, List.set_cons_succ])
        refine wpAnyH_take (i := 6) (v := ?_) rfl (by kernel_rfl) (by kernel_rfl) (by kernel_rfl) (fun _ _ _ h => h) (Or.inl ⟨by rfl, ?_⟩) hHeld ?_
        rotate_left
        · (intro wS hSw; (try dsimp only at hSw); go_simp; try with_reducible rfl)
        (try simp only [Act.put, List.getElem_toArray, List.getElem_cons_zero, List.getElem_cons_succ, List.setIfInBounds_toArray, List.set_cons_zero, List.set_cons_succ])
        refine wpAnyH_take (i := 7) rfl (by kernel_rfl) (by kernel_rfl) (by kernel_rfl) (fun _ _ _ h => h) (yieldsIf_load_mid (by rfl) 40 (.tmp 23) rfl g' (o' + q * 5) rfl (C' q) _ RB.out Tryz.underlying40 rfl IB.out) hHeld ?_
        (try simp only [Act.put, List.getElem_toArray, List.getElem_cons_zero, List.getElem_cons_succ, List.setIfInBounds_toArray, List.set_cons_zero, List.set_cons_succ])
        refine wpAnyH_ready (rs := [8]) (by kernel_rfl) (by simp) ?_
        refine AllReadyH.cons rfl (fun K hK => ?_) AllReadyH.nil
        (try simp only [List.getElem_toArray, List.getElem_cons_zero, List.getElem_cons_succ, List.setIfInBounds_toArray, List.set_cons_zero, List.set_cons_succ])
        try go_simp
        refine (HCQ.out _ (bl_tr HWR.out (Below.drew (Below.refl _ _)))).mono ?_; rintro e w2 ⟨rfl, hb2⟩; have HBN : Hid (Below wr.heap.size wr w2) := Lib.hid (bl_tr (Below.drew (Below.refl _ _)) hb2); clear hb2
        try go_simp
        refine hK.out _ _ ?_ (fun hHeld => ?_)
        · exact HBN.out
        (try simp only [Act.put, List.getElem_toArray, List.getElem_cons_zero, List.getElem_cons_succ, List.setIfInBounds_toArray, List.set_cons_zero, List.set_cons_succ])
        refine wpAnyH_take (i := 9) (v := ?_) rfl (by kernel_rfl) (by kernel_rfl) (by kernel_rfl) (fun _ _ _ h => h) (Or.inl ⟨by rfl, ?_⟩) hHeld ?_
        rotate_left
        · (intro wS hSw; (try dsimp only at hSw); go_simp; try with_reducible rfl)
        (try simp only [Act.put, List.getElem_toArray, List.getElem_cons_zero, List.getElem_cons_succ, List.setIfInBounds_toArray, List.set_cons_zero, List.set_cons_succ])
        refine wpAnyH_done (by kernel_rfl) ?_ _
        all_goals
          have HB9 := Lib.hid (bl_tr HBR.out HBN.out)
          cases r with
          | false =>
            go_wp2_with fail
            go_ret
            exact ⟨ret_b (by simp [allB_false hlt HRK.out.symm]), HB9.out⟩
          | true =>
            go_wp2_with fail
            go_roundg (n1 - (q + 1))
            case measure => omega
            case rel => exact ⟨q + 1, by omega, rfl, by go_num, HB9, Lib.hid (fun i hi => by
              by_cases h : i < q
              · exact HALL.out i h
              · obtain rfl : i = q := by omega
                exact HRK.out.symm)⟩
      · obtain rfl : q = n1 := by omega
        go_wp2_with fail
        go_ret
        exact ⟨ret_b (allB_true.2 HALL.out).symm, HBR.out⟩
  · have g1 : ((n1 : Int) != (n2 : Int)) = true := by rw [bne_iff_ne]; omega
    rw [eqB_ne hne]
    go_enter Tryz.func25, Tryz.ntmps25
    go_wp2_with fail
    go_ret
    exact ⟨rfl, Below.refl _ _⟩

set_option maxRecDepth 100000 in
theorem rsPt_any (n : Nat) : ∀ (D E : Pt) (cs ds : List Value) (w : World), SizeOf.sizeOf D < n → PtC (mem w) D cs → PtC (mem w) E ds →
    Calls Tryz.prog 9 #[.agg cs.toArray, .agg ds.toArray] w (RightV (samePt D E) w) := by
  induction n with
  | zero => intro D E cs ds w h; omega
  | succ n ih =>
    intro D E cs ds w hn hD hE
    obtain ⟨k, a, s, m, l⟩ := D
    obtain ⟨k', a', s', m', l'⟩ := E
    obtain ⟨v, rfl, hv⟩ := hD.inv
    obtain ⟨v', rfl, hv'⟩ := hE.inv
    simp at hn
    have h1 := fun (W : World) (hb : Below w.heap.size w W) => rsPts_of l l' v v' W (hv.mono (mem_below hb)) (hv'.mono (mem_below hb)) (fun i i1 i2 cs ds W' hb' h1 h2 => by
      have := List.sizeOf_lt_of_mem (List.getElem_mem i1)
      exact ih _ _ _ _ W' (by omega) (h1.mono (mem_below hb')) (h2.mono (mem_below hb')))
    have H1 := Lib.hid h1
    clear h1 hv hv' hD hE ih hn
    rw [samePt]
    by_cases ht0 : k = k'
    · have e0 : (k == k') = true := by simp [ht0]
      rw [e0]
      subst ht0
      clear e0
      by_cases ht1 : s.toList = s'.toList
      · have e1 : eqS s s' = true := by simp [eqS, ht1]
        have f1 : (s.toList == s'.toList) = true := by simp [ht1]
        rw [e1]
        clear e1
        by_cases ht2 : m = m'
        · have e2 : (m == m') = true := by simp [ht2]
          rw [e2]
          subst ht2
          clear e2
          go_enter Tryz.func9, Tryz.ntmps9
          go_wp2_with fail
          refine (H1.out _ (bl2 _ _ _)).mono ?_
          rintro e w2 ⟨rfl, hb⟩
          obtain ⟨hc0, hf0⟩ := bcell hb
          have hz0 : w.heap.size + 1 < w2.heap.size := by have := hb.size; (try simp at this); omega
          have hz0' : w.heap.size < w2.heap.size := by omega
          have B2 := Lib.hid (bl_tr (bl2 _ _ _) hb)
          clear hb hf0
          go_wp2_with fail
          go_ret
          exact ⟨by simp, B2.out⟩
        · have e2 : (m == m') = false := by simp [ht2]
          rw [e2]
          go_enter Tryz.func9, Tryz.ntmps9
          go_wp2_with fail
          go_ret
          exact ⟨by simp, bl2 _ _ _⟩
      · have e1 : eqS s s' = false := by simp [eqS, ht1]
        have f1 : (s.toList == s'.toList) = false := by simpa using ht1
        rw [e1]
        clear e1
        go_enter Tryz.func9, Tryz.ntmps9
        go_wp2_with fail
        go_ret
        exact ⟨by simp, bl2 _ _ _⟩
    · have e0 : (k == k') = false := by simp [ht0]
      rw [e0]
      go_enter Tryz.func9, Tryz.ntmps9
      go_wp2_with fail
      go_ret
      exact ⟨by simp, bl2 _ _ _⟩
theorem rsPts_any (l l' : List Pt) (v v' : Value) (w : World) (h : PtsV (mem w) l v) (h' : PtsV (mem w) l' v') : Calls Tryz.prog 25 #[v, v'] w (RightV (samePts l l') w) :=
  rsPts_of l l' v v' w h h' (fun i i1 i2 cs ds W hb h1 h2 => rsPt_any _ _ _ _ _ W (Nat.lt_succ_self _) (h1.mono (mem_below hb)) (h2.mono (mem_below hb)))

set_option maxRecDepth 100000 in
set_option maxHeartbeats 2000000 in
theorem rsDes_of (l l' : List De) (v v' : Value) (w : World) (h : DesV (mem w) l v) (h' : DesV (mem w) l' v')
    (hcall : ∀ i (i1 : i < l.length) (i2 : i < l'.length) cs ds W, Below w.heap.size w W → DeC (mem w) l[i] cs → DeC (mem w) l'[i] ds → Calls Tryz.prog 33 #[.agg cs.toArray, .agg ds.toArray] W (RightV (sameDe l[i] l'[i]) W)) :
    Calls Tryz.prog 18 #[v, v'] w (RightV (sameDes l l') w) := by
  obtain ⟨A, c, C, rfl, hc, hA, hC⟩ := h
  obtain ⟨A', c', C', rfl, hc', hA', hC'⟩ := h'
  have hres : sameDes l l' = eqB l.length l'.length (fun i => sameDe (l.getD i default) (l'.getD i default)) := sameDes_eqB l l' (fun i i1 i2 => by rw [get_of l i i1, get_of l' i i2])
  have hok : ∀ i, i < l.length → (C i).length = 18 := fun i hi => (hC i hi).len
  have hok' : ∀ i, i < l'.length → (C' i).length = 18 := fun i hi => (hC' i hi).len
  have hn1 := le_of hc
  unfold maxLen at hn1
  have hcall2 : ∀ i, i < l.length → i < l'.length → ∀ W, Below w.heap.size w W → Calls Tryz.prog 33 #[.agg (C i).toArray, .agg (C' i).toArray] W (RightV (sameDe (l.getD i default) (l'.getD i default)) W) := fun i i1 i2 W hb => by
    rw [get_of l i i1, get_of l' i i2]
    exact hcall i i1 i2 (C i) (C' i) W hb (hC i i1) (hC' i i2)
  have HC := Lib.hid hcall2; have H1 := Lib.hid hA; have H2 := Lib.hid hA'; have O1 := Lib.hid hok; have O2 := Lib.hid hok'
  rw [hres]
  clear hcall hcall2 hres hA hA' hC hC' hc hc' hok hok'
  obtain ⟨n1, hnl⟩ : ∃ x, x = l.length := ⟨_, rfl⟩
  obtain ⟨n2, hnl'⟩ : ∃ x, x = l'.length := ⟨_, rfl⟩
  obtain ⟨R, hR⟩ : ∃ R : Nat → Bool, R = fun i => sameDe (l.getD i default) (l'.getD i default) := ⟨_, rfl⟩
  have hRi : ∀ i, sameDe (l.getD i default) (l'.getD i default) = R i := fun i => by rw [hR]
  simp only [hRi] at HC
  rw [← hR, ← hnl, ← hnl']
  rw [← hnl] at HC H1 O1 hn1; rw [← hnl'] at HC H2 O2
  clear hnl hnl' hR hRi
  by_cases hne : n1 = n2
  · subst hne
    rw [eqB_eq]
    go_enter Tryz.func18, Tryz.ntmps18
    go_wp2_with fail
    go_loopg [5] n1 (fun gk i wr => ∃ q : Nat, q ≤ n1 ∧ gk = n1 - q ∧ i = .int .i64 q ∧ Hid (Below w.heap.size w wr) ∧ Hid (∀ i, i < q → R i = true))
    case atStart => exact ⟨0, Nat.zero_le _, rfl, rfl, Lib.hid (Below.refl _ _), Lib.hid (fun i hi => absurd hi (by omega))⟩
    case round =>
      obtain ⟨q, hq, rfl, rfl, HBR, HALL⟩ := hrel
      by_cases hlt : q < n1
      · obtain ⟨g, o, rfl, hc1⟩ := H1.out (by omega)
        obtain ⟨g', o', rfl, hc2⟩ := H2.out (by omega)
        have hwr := HBR.out
        have hcq := HC.out q hlt hlt
        have r1 := range_at hwr hc1 hlt (O1.out q hlt)
        have r2 := range_at hwr hc2 hlt (O2.out q hlt)
        have RA := Lib.hid (fun (w' : World) (hw' : Below wr.heap.size wr w') => range_on r1 hw')
        have RB := Lib.hid (fun (w' : World) (hw' : Below wr.heap.size wr w') => range_on r2 hw')
        have IA := Lib.hid (show (Tryz.prog.info? 83).map (·.size) = some (C q).length from by rw [O1.out q hlt]; kernel_rfl)
        have IB := Lib.hid (show (Tryz.prog.info? 83).map (·.size) = some (C' q).length from by rw [O2.out q hlt]; kernel_rfl)
        have HCQ := Lib.hid hcq; have HWR := Lib.hid hwr
        obtain ⟨r, hr⟩ : ∃ r, r = R q := ⟨_, rfl⟩
        rw [← hr] at HCQ
        have HRK := Lib.hid hr
        have hk1 : (q : Int) < (n1 : Int) := by omega
        have hk0 : (0 : Int) ≤ (q : Int) := by omega
        clear hc1 hc2 r1 r2 hwr hcq hr
        go_wp2_with fail
        refine wp_region_held_drew (S := fun w' => Below wr.heap.size wr w') (by kernel_rfl) (Below.drew (Below.refl _ _)) (fun hHeld => ?_)
        refine wpAnyH_take (i := 0) (v := ?_) rfl (by kernel_rfl) (by kernel_rfl) (by kernel_rfl) (fun _ _ _ h => h) (Or.inl ⟨by rfl, ?_⟩) hHeld ?_
        rotate_left
        · (intro wS hSw; (try dsimp only at hSw); go_simp; try with_reducible rfl)
        (try simp only [Act.put, List.getElem_toArray, List.getElem_cons_zero, List.getElem_cons_succ, List.setIfInBounds_toArray, List.set_cons_zero, List.set_cons_succ])
        refine wpAnyH_take (i := 1) (v := ?_) rfl (by kernel_rfl) (by kernel_rfl) (by kernel_rfl) (fun _ _ _ h => h) (Or.inl ⟨by rfl, ?_⟩) hHeld ?_
        rotate_left
        · (intro wS hSw; (try dsimp only at hSw); go_simp; try with_reducible rfl)
        (try simp only [Act.put, List.getElem_toArray, List.getElem_cons_zero, List.getElem_cons_succ, List.setIfInBounds_toArray, List.set_cons_zero, List.set_cons_succ])
        refine wpAnyH_take (i := 2) (v := ?_) rfl (by kernel_rfl) (by kernel_rfl) (by kernel_rfl) (fun _ _ _ h => h) (Or.inl ⟨by rfl, ?_⟩) hHeld ?_
        rotate_left
        · (intro wS hSw; (try dsimp only at hSw); go_simp; try with_reducible rfl)
        (try simp only [Act.put, List.getElem_toArray, List.getElem_cons_zero, List.getElem_cons_succ, List.setIfInBounds_toArray, List.set_cons_zero, List.set_cons_succ])
        refine wpAnyH_take (i := 3) rfl (by kernel_rfl) (by kernel_rfl) (by kernel_rfl) (fun _ _ _ h => h) (yieldsIf_load_mid (by rfl) 83 (.tmp 19) rfl g (o + q * 18) rfl (C q) _ RA.out Tryz.underlying83 rfl IA.out) hHeld ?_
        (try simp only [Act.put, List.getElem_toArray, List.getElem_cons_zero, List.getElem_cons_succ, List.setIfInBounds_toArray, List.set_cons_zero, List.set_cons_succ])
        refine wpAnyH_take (i := 4) (v := ?_) rfl (by kernel_rfl) (by kernel_rfl) (by kernel_rfl) (fun _ _ _ h => h) (Or.inl ⟨by rfl, ?_⟩) hHeld ?_
        rotate_left
        · (intro wS hSw; (try dsimp only at hSw); go_simp; try with_reducible rfl)
        (try simp only [Act.put, List.getElem_toArray, List.getElem_cons_zero, List.getElem_cons_succ, List.setIfInBounds_toArray, List.set_cons_zero, List.set_cons_succ])
        refine wpAnyH_take (i := 5) (v := ?_) rfl (by kernel_rfl) (by kernel_rfl) (by kernel_rfl) (fun _ _ _ h => h) (Or.inl ⟨by rfl, ?_⟩) hHeld ?_
        rotate_left
        · (intro wS hSw; (try dsimp only at hSw); go_simp; try with_reducible rfl)
        (try simp only [Act.put, List.getElem_toArray, List.getElem_cons_zero, List.getElem_cons_succ, List.setIfInBounds_toArray, List.set_cons_zero, List.set_cons_succ])
        refine wpAnyH_take (i := 6) (v := ?_) rfl (by kernel_rfl) (by kernel_rfl) (by kernel_rfl) (fun _ _ _ h => h) (Or.inl ⟨by rfl, ?_⟩) hHeld ?_
        rotate_left
        · (intro wS hSw; (try dsimp only at hSw); go_simp; try with_reducible rfl)
        (try simp only [Act.put, List.getElem_toArray, List.getElem_cons_zero, List.getElem_cons_succ, List.setIfInBounds_toArray, List.set_cons_zero, List.set_cons_succ])
        refine wpAnyH_take (i := 7) rfl (by kernel_rfl) (by kernel_rfl) (by kernel_rfl) (fun _ _ _ h => h) (yieldsIf_load_mid (by rfl) 83 (.tmp 23) rfl g' (o' + q * 18) rfl (C' q) _ RB.out Tryz.underlying83 rfl IB.out) hHeld ?_
        (try simp only [Act.put, List.getElem_toArray, List.getElem_cons_zero, List.getElem_cons_succ, List.setIfInBounds_toArray, List.set_cons_zero, List.set_cons_succ])
        refine wpAnyH_ready (rs := [8]) (by kernel_rfl) (by simp) ?_
        refine AllReadyH.cons rfl (fun K hK => ?_) AllReadyH.nil
        (try simp only [List.getElem_toArray, List.getElem_cons_zero, List.getElem_cons_succ, List.setIfInBounds_toArray, List.set_cons_zero, List.set_cons_succ])
        try go_simp
        refine (HCQ.out _ (bl_tr HWR.out (Below.drew (Below.refl _ _)))).mono ?_; rintro e w2 ⟨rfl, hb2⟩; have HBN : Hid (Below wr.heap.size wr w2) := Lib.hid (bl_tr (Below.drew (Below.refl _ _)) hb2); clear hb2
        try go_simp
        refine hK.out _ _ ?_ (fun hHeld => ?_)
        · exact HBN.out
        (try simp only [Act.put, List.getElem_toArray, List.getElem_cons_zero, List.getElem_cons_succ, List.setIfInBounds_toArray, List.set_cons_zero, List.set_cons_succ])
        refine wpAnyH_take (i := 9) (v := ?_) rfl (by kernel_rfl) (by kernel_rfl) (by kernel_rfl) (fun _ _ _ h => h) (Or.inl ⟨by rfl, ?_⟩) hHeld ?_
        rotate_left
        · (intro wS hSw; (try dsimp only at hSw); go_simp; try with_reducible rfl)
        (try simp only [Act.put, List.getElem_toArray, List.getElem_cons_zero, List.getElem_cons_succ, List.setIfInBounds_toArray, List.set_cons_zero, List.set_cons_succ])
        refine wpAnyH_done (by kernel_rfl) ?_ _
        all_goals
          have HB9 := Lib.hid (bl_tr HBR.out HBN.out)
          cases r with
          | false =>
            go_wp2_with fail
            go_ret
            exact ⟨ret_b (by simp [allB_false hlt HRK.out.symm]), HB9.out⟩
          | true =>
            go_wp2_with fail
            go_roundg (n1 - (q + 1))
            case measure => omega
            case rel => exact ⟨q + 1, by omega, rfl, by go_num, HB9, Lib.hid (fun i hi => by
              by_cases h : i < q
              · exact HALL.out i h
              · obtain rfl : i = q := by omega
                exact HRK.out.symm)⟩
      · obtain rfl : q = n1 := by omega
        go_wp2_with fail
        go_ret
        exact ⟨ret_b (allB_true.2 HALL.out).symm, HBR.out⟩
  · have g1 : ((n1 : Int) != (n2 : Int)) = true := by rw [bne_iff_ne]; omega
    rw [eqB_ne hne]
    go_enter Tryz.func18, Tryz.ntmps18
    go_wp2_with fail
    go_ret
    exact ⟨rfl, Below.refl _ _⟩
end Go.Proofs.YtfeghobfkgimfaaGreat
