/- How many parts are left: what a case comes to. -/
import Derived.Test.YtfeghobfkgimfaaTreeK
namespace Go.Proofs.Ytfeghobfkgimfaa
set_option linter.unusedSimpArgs false
set_option linter.unusedVariables false
open Go.RowKit Go.Shelf

theorem rg_left {w : World} {g o : Nat} {a b : List Value} (h : w.rangeAt g o (a ++ b)) : w.rangeAt g o a := fun j v hv => h j v (by rw [List.getElem?_append_left (List.getElem?_eq_some_iff.1 hv).1]; exact hv)
theorem rg_right {w : World} {g o n : Nat} {a b : List Value} (h : w.rangeAt g o (a ++ b)) (hn : a.length = n) : w.rangeAt g (o + n) b := fun j v hv => by
  have := h (n + j) v (by rw [List.getElem?_append_right (by omega), hn, Nat.add_sub_cancel_left]; exact hv)
  rwa [← Nat.add_assoc] at this
theorem Try.irP : (Try.prog.info? 131).map (·.size) = some 5 := by kernel_rfl
set_option maxRecDepth 100000 in
set_option maxHeartbeats 4000000 in
theorem fewAls_of (l : List Al) (v : Value) (left : Int) (w : World) (hleft : left ≤ 9223372036854775807) (hv : AlsV (mem w) l v)
    (ihE : ∀ l' v' left' W, SizeOf.sizeOf (l' : List Ex) < SizeOf.sizeOf l → left' ≤ 9223372036854775807 → ExsV (mem W) l' v' → Calls Try.prog 67 #[v', .int .i64 left'] W (NumV (fewExs l' left') W)) :
    Calls Try.prog 88 #[v, .int .i64 left] w (NumV (fewAls l left) w) := by
  obtain ⟨A, c, C, rfl, hc, hA, hC⟩ := hv
  have hn1 := le_of hc
  unfold maxLen at hn1
  have HA := Lib.hid hA; have HCC := Lib.hid hC; have HEE := Lib.hid ihE
  have O1 : Hid (∀ i, i < l.length → (C i).length = 13) := Lib.hid (fun i hi => (hC i hi).len)
  clear hA hC ihE hc
  obtain ⟨n1, e1⟩ : ∃ x, x = l.length := ⟨_, rfl⟩
  rw [← e1] at HA O1 hn1 ⊢
  have HN := Lib.hid e1
  clear e1
  go_enter Try.func88, Try.ntmps88
  go_wp2_with fail
  go_loopg [1, 5] n1 (fun gk z i wr => ∃ (q : Nat) (z0 : Int), q ≤ n1 ∧ gk = n1 - q ∧ i = .int .i64 q ∧ z = .int .i64 z0 ∧ z0 ≤ left ∧ Hid (Below w.heap.size w wr) ∧ Hid (fewAls (l.drop q) z0 = fewAls l left))
  case atStart => exact ⟨0, left, Nat.zero_le _, rfl, rfl, rfl, Int.le_refl _, Lib.hid (Below.refl _ _), Lib.hid rfl⟩
  case round =>
    obtain ⟨q, z, hq, rfl, rfl, rfl, hz, HBR, HF⟩ := hrel
    by_cases hlt : q < n1
    · by_cases hneg : z < 0
      · have d0 : decide (0 ≤ z) = false := by simp; omega
        have hk1 : (q : Int) < (n1 : Int) := by omega
        go_wp2_with fail
        go_ret
        exact ⟨ret_i (by rw [← HF.out, fewAls_neg _ _ hneg]), HBR.out⟩
      · have hz0 : 0 ≤ z := by omega
        have d0 : decide (0 ≤ z) = true := by simp; omega
        obtain ⟨g, o, rfl, hc1⟩ := HA.out (by omega)
        have hql : q < l.length := by rw [← HN.out]; exact hlt
        have hcq := (HCC.out q hql).mono (mem_below HBR.out)
        have r1 := range_at HBR.out hc1 hlt (O1.out q hlt)
        have hdrop := List.drop_eq_getElem_cons hql
        have hmem := List.sizeOf_lt_of_mem (List.getElem_mem hql)
        obtain ⟨x, hx⟩ : ∃ x, x = l[q] := ⟨_, rfl⟩
        rw [← hx] at hcq hdrop hmem
        obtain ⟨p, b⟩ := x
        obtain ⟨cp, cb, ec, hp, hb⟩ := hcq.inv
        rw [ec] at r1
        simp at hmem
        have hstep : fewAls (l.drop q) z = fewAls (l.drop (q + 1)) (fewExs [b] (fewPts [p] (z - 1))) := by rw [hdrop, fewAls, if_neg hneg, fewExs_one]
        have g1 := (fewPts_g [p] (z - 1)).1
        obtain ⟨y1, hy1⟩ : ∃ y, y = fewPts [p] (z - 1) := ⟨_, rfl⟩
        rw [← hy1] at hstep g1
        have g2 := (fewExs_gone [b] y1).1
        obtain ⟨y2, hy2⟩ : ∃ y, y = fewExs [b] y1 := ⟨_, rfl⟩
        rw [← hy2] at hstep g2
        have hz2 : y2 ≤ left := by omega
        obtain ⟨p0, p1, p2, p3, p4, rfl⟩ := hp.sh
        obtain ⟨b0, b1, b2, b3, b4, b5, b6, b7, rfl⟩ := hb.sh
        have cP := fun (W : World) (gg : Nat) (hW : Below wr.heap.size wr W) (hB : W.heap[gg]? = some (.cells ([.int .i64 p0, .int .i64 p1, .string p2, .int .i64 p3, p4] : List Value).toArray 131 (0, 0))) => fewPts_any _ [p] (.slice (some ⟨gg, 0, none⟩) 1 1) (z - 1) W (Nat.lt_succ_self _) (by omega) (pts_one hB (hp.mono (mem_below hW)))
        rw [← hy1] at cP
        have cE := fun (W : World) (gg : Nat) (hW : Below wr.heap.size wr W) (hB : W.heap[gg]? = some (.cells ([.int .i64 b0, .int .i64 b1, .string b2, .int .i64 b3, b4, b5, b6, b7] : List Value).toArray 86 (0, 0))) => HEE.out [b] (.slice (some ⟨gg, 0, none⟩) 1 1) y1 W (by simp; cases p; simp at hmem; omega) (by omega) (exs_one hB (hb.mono (mem_below hW)))
        rw [← hy2] at cE
        have HP := Lib.hid cP; have HE := Lib.hid cE
        have RA := Lib.hid (fun (w' : World) (hw' : Below wr.heap.size wr w') => rg_left (range_on r1 hw'))
        have RB := Lib.hid (fun (w' : World) (hw' : Below wr.heap.size wr w') => rg_right (n := 5) (range_on r1 hw') rfl)
        have IA := Lib.hid (show (Try.prog.info? 131).map (·.size) = some ([.int .i64 p0, .int .i64 p1, .string p2, .int .i64 p3, p4] : List Value).length from Try.irP)
        have IB := Lib.hid (show (Try.prog.info? 86).map (·.size) = some ([.int .i64 b0, .int .i64 b1, .string b2, .int .i64 b3, b4, b5, b6, b7] : List Value).length from Try.irE)
        have HST := Lib.hid hstep
        have hk1 : (q : Int) < (n1 : Int) := by omega
        have hk0 : (0 : Int) ≤ (q : Int) := by omega
        have w1 : IntKind.i64.wrap (z - 1) = z - 1 := IntWalk.i64_in _ (by omega)
        clear hc1 r1 ec hp hb hdrop hmem hx hcq hstep g1 g2 cP cE hy1 hy2
        go_wp2_with fail
        refine wp_region_held_drew (S := fun w' => Below wr.heap.size wr w') (by kernel_rfl) (Below.drew (Below.refl _ _)) (fun hHeld => ?_)
        refine wpAnyH_take (i := 0) (v := ?_) rfl (by kernel_rfl) (by kernel_rfl) (by kernel_rfl) (fun _ _ _ h => h) (Or.inl ⟨by rfl, ?_⟩) hHeld ?_
        rotate_left
        · (intro wS hSw; (try dsimp only at hSw); go_simp; try with_reducible rfl)
        (try simp only [Act.put, List.getElem_toArray, List.getElem_cons_zero, List.getElem_cons_succ, List.setIfInBounds_toArray, List.set_cons_zero, List.set_cons_succ])
        refine wpAnyH_take (i := 1) (v := ?_) rfl (by kernel_rfl) (by kernel_rfl) (by kernel_rfl) (fun _ _ _ h => h) (Or.inl ⟨by rfl, ?_⟩) hHeld ?_
        rotate_left
        · (intro wS hSw; (try dsimp only at hSw); go_simp; try with_reducible rfl)
        (try simp only [Act.put, List.getElem_toArray, List.getElem_cons_zero, List.getElem_cons_succ, List.setIfInBounds_toArray, List.set_cons_zero, List.set_cons_succ])
        refine wpAnyH_take (i := 2) (v := ?_) rfl (by kernel_rfl) (by kernel_rfl) (by kernel_rfl) (fun _ _ _ h => h) (Or.inl ⟨by rfl, ?_⟩) hHeld ?_
        rotate_left
        · (intro wS hSw; (try dsimp only at hSw); go_simp; try with_reducible rfl)
        (try simp only [Act.put, List.getElem_toArray, List.getElem_cons_zero, List.getElem_cons_succ, List.setIfInBounds_toArray, List.set_cons_zero, List.set_cons_succ])
        refine wpAnyH_take (i := 3) (v := ?_) rfl (by kernel_rfl) (by kernel_rfl) (by kernel_rfl) (fun _ _ _ h => h) (Or.inl ⟨by rfl, ?_⟩) hHeld ?_
        rotate_left
        · (intro wS hSw; (try dsimp only at hSw); go_simp; try with_reducible rfl)
        (try simp only [Act.put, List.getElem_toArray, List.getElem_cons_zero, List.getElem_cons_succ, List.setIfInBounds_toArray, List.set_cons_zero, List.set_cons_succ])
        refine wpAnyH_take (i := 4) rfl (by kernel_rfl) (by kernel_rfl) (by kernel_rfl) (fun _ _ _ h => h) (yieldsIf_load_mid (by rfl) 86 (.tmp 19) rfl g (o + q * 13 + 5) rfl ([.int .i64 b0, .int .i64 b1, .string b2, .int .i64 b3, b4, b5, b6, b7]) _ RB.out Try.underlying86 rfl IB.out) hHeld ?_
        (try simp only [Act.put, List.getElem_toArray, List.getElem_cons_zero, List.getElem_cons_succ, List.setIfInBounds_toArray, List.set_cons_zero, List.set_cons_succ])
        refine wpAnyH_take (i := 6) (v := ?_) rfl (by kernel_rfl) (by kernel_rfl) (by kernel_rfl) (fun _ _ _ h => h) (Or.inl ⟨by rfl, ?_⟩) hHeld ?_
        rotate_left
        · (intro wS hSw; (try dsimp only at hSw); go_simp; try with_reducible rfl)
        (try simp only [Act.put, List.getElem_toArray, List.getElem_cons_zero, List.getElem_cons_succ, List.setIfInBounds_toArray, List.set_cons_zero, List.set_cons_succ])
        refine wpAnyH_take (i := 7) (v := ?_) rfl (by kernel_rfl) (by kernel_rfl) (by kernel_rfl) (fun _ _ _ h => h) (Or.inl ⟨by rfl, ?_⟩) hHeld ?_
        rotate_left
        · (intro wS hSw; (try dsimp only at hSw); go_simp; try with_reducible rfl)
        (try simp only [Act.put, List.getElem_toArray, List.getElem_cons_zero, List.getElem_cons_succ, List.setIfInBounds_toArray, List.set_cons_zero, List.set_cons_succ])
        refine wpAnyH_take (i := 8) (v := ?_) rfl (by kernel_rfl) (by kernel_rfl) (by kernel_rfl) (fun _ _ _ h => h) (Or.inl ⟨by rfl, ?_⟩) hHeld ?_
        rotate_left
        · (intro wS hSw; (try dsimp only at hSw); go_simp; try with_reducible rfl)
        (try simp only [Act.put, List.getElem_toArray, List.getElem_cons_zero, List.getElem_cons_succ, List.setIfInBounds_toArray, List.set_cons_zero, List.set_cons_succ])
        refine wpAnyH_take (i := 9) (v := ?_) rfl (by kernel_rfl) (by kernel_rfl) (by kernel_rfl) (fun _ _ _ h => h) (Or.inl ⟨by rfl, ?_⟩) hHeld ?_
        rotate_left
        · (intro wS hSw; (try dsimp only at hSw); go_simp; try with_reducible rfl)
        (try simp only [Act.put, List.getElem_toArray, List.getElem_cons_zero, List.getElem_cons_succ, List.setIfInBounds_toArray, List.set_cons_zero, List.set_cons_succ])
        refine wpAnyH_take (i := 10) rfl (by kernel_rfl) (by kernel_rfl) (by kernel_rfl) (fun _ _ _ h => h) (yieldsIf_load_mid (by rfl) 131 (.tmp 25) rfl g (o + q * 13) rfl ([.int .i64 p0, .int .i64 p1, .string p2, .int .i64 p3, p4]) _ RA.out Try.underlying131 rfl IA.out) hHeld ?_
        (try simp only [Act.put, List.getElem_toArray, List.getElem_cons_zero, List.getElem_cons_succ, List.setIfInBounds_toArray, List.set_cons_zero, List.set_cons_succ])
        refine wpAnyH_take (i := 12) (v := ?_) rfl (by kernel_rfl) (by kernel_rfl) (by kernel_rfl) (fun _ _ _ h => h) (Or.inl ⟨by rfl, ?_⟩) hHeld ?_
        rotate_left
        · (intro wS hSw; (try dsimp only at hSw); go_simp; try with_reducible rfl)
        (try simp only [Act.put, List.getElem_toArray, List.getElem_cons_zero, List.getElem_cons_succ, List.setIfInBounds_toArray, List.set_cons_zero, List.set_cons_succ])
        refine wpAnyH_take (i := 13) (v := ?_) rfl (by kernel_rfl) (by kernel_rfl) (by kernel_rfl) (fun _ _ _ h => h) (Or.inl ⟨by rfl, ?_⟩) hHeld ?_
        rotate_left
        · (intro wS hSw; (try dsimp only at hSw); go_simp; try with_reducible rfl)
        (try simp only [Act.put, List.getElem_toArray, List.getElem_cons_zero, List.getElem_cons_succ, List.setIfInBounds_toArray, List.set_cons_zero, List.set_cons_succ])
        refine wpAnyH_ready (rs := [5, 11]) (by kernel_rfl) (by simp) ?_
        refine AllReadyH.cons rfl (fun K hK => ?_) (AllReadyH.cons rfl (fun K hK => ?_) AllReadyH.nil)
        · (try simp only [List.getElem_toArray, List.getElem_cons_zero, List.getElem_cons_succ, List.setIfInBounds_toArray, List.set_cons_zero, List.set_cons_succ])
          try go_simp
          refine hK.out _ _ ?_ (fun hHeld => ?_)
          · repeat (with_reducible first | exact Below.refl _ _ | exact HB2.out | exact HB3.out | refine Below.drew ?_ | refine bl_al ?_ _)
          (try simp only [Act.put, List.getElem_toArray, List.getElem_cons_zero, List.getElem_cons_succ, List.setIfInBounds_toArray, List.set_cons_zero, List.set_cons_succ])
          refine wpAnyH_ready (rs := [11]) (by kernel_rfl) (by simp) ?_
          refine AllReadyH.cons rfl (fun K hK => ?_) AllReadyH.nil
          · (try simp only [List.getElem_toArray, List.getElem_cons_zero, List.getElem_cons_succ, List.setIfInBounds_toArray, List.set_cons_zero, List.set_cons_succ])
            try go_simp
            refine hK.out _ _ ?_ (fun hHeld => ?_)
            · repeat (with_reducible first | exact Below.refl _ _ | exact HB2.out | exact HB3.out | refine Below.drew ?_ | refine bl_al ?_ _)
            (try simp only [Act.put, List.getElem_toArray, List.getElem_cons_zero, List.getElem_cons_succ, List.setIfInBounds_toArray, List.set_cons_zero, List.set_cons_succ])
            refine wpAnyH_ready (rs := [14]) (by kernel_rfl) (by simp) ?_
            refine AllReadyH.cons rfl (fun K hK => ?_) AllReadyH.nil
            · (try simp only [List.getElem_toArray, List.getElem_cons_zero, List.getElem_cons_succ, List.setIfInBounds_toArray, List.set_cons_zero, List.set_cons_succ])
              try go_simp
              refine (HP.out _ _ ?_ ?_).mono ?_
              · repeat (with_reducible first | exact Below.refl _ _ | exact HB2.out | exact HB3.out | refine Below.drew ?_ | refine bl_al ?_ _)
              · show Blk _ _ _ _; repeat (with_reducible first | exact bk_new _ _ _ _ (by simp) | exact bk_new _ _ _ _ rfl | refine bk_drew ?_ | refine bk_alloc ?_ _ | refine bk_below ?_ HX2.out)
              rintro e w2 ⟨rfl, hb2⟩
              have HX2 := Lib.hid hb2
              have HB2 : Hid (Below wr.heap.size wr w2) := Lib.hid (by refine bl_tr ?_ hb2; repeat (with_reducible first | exact Below.refl _ _ | exact HB2.out | exact HB3.out | refine Below.drew ?_ | refine bl_al ?_ _))
              clear hb2
              try go_simp
              refine hK.out _ _ ?_ (fun hHeld => ?_)
              · exact HB2.out
              (try simp only [Act.put, List.getElem_toArray, List.getElem_cons_zero, List.getElem_cons_succ, List.setIfInBounds_toArray, List.set_cons_zero, List.set_cons_succ])
              refine wpAnyH_ready (rs := [15]) (by kernel_rfl) (by simp) ?_
              refine AllReadyH.cons rfl (fun K hK => ?_) AllReadyH.nil
              · (try simp only [List.getElem_toArray, List.getElem_cons_zero, List.getElem_cons_succ, List.setIfInBounds_toArray, List.set_cons_zero, List.set_cons_succ])
                try go_simp
                refine (HE.out _ _ ?_ ?_).mono ?_
                · repeat (with_reducible first | exact Below.refl _ _ | exact HB2.out | exact HB3.out | refine Below.drew ?_ | refine bl_al ?_ _)
                · show Blk _ _ _ _; repeat (with_reducible first | exact bk_new _ _ _ _ (by simp) | exact bk_new _ _ _ _ rfl | refine bk_drew ?_ | refine bk_alloc ?_ _ | refine bk_below ?_ HX2.out)
                rintro e w3 ⟨rfl, hb3⟩
                have HB3 : Hid (Below wr.heap.size wr w3) := Lib.hid (by refine bl_tr ?_ hb3; repeat (with_reducible first | exact Below.refl _ _ | exact HB2.out | exact HB3.out | refine Below.drew ?_ | refine bl_al ?_ _))
                clear hb3
                try go_simp
                refine hK.out _ _ ?_ (fun hHeld => ?_)
                · exact HB3.out
                (try simp only [Act.put, List.getElem_toArray, List.getElem_cons_zero, List.getElem_cons_succ, List.setIfInBounds_toArray, List.set_cons_zero, List.set_cons_succ])
                refine wpAnyH_take (i := 16) (v := ?_) rfl (by kernel_rfl) (by kernel_rfl) (by kernel_rfl) (fun _ _ _ h => h) (Or.inl ⟨by rfl, ?_⟩) hHeld ?_
                rotate_left
                · (intro wS hSw; (try dsimp only at hSw); go_simp; try with_reducible rfl)
                (try simp only [Act.put, List.getElem_toArray, List.getElem_cons_zero, List.getElem_cons_succ, List.setIfInBounds_toArray, List.set_cons_zero, List.set_cons_succ])
                refine wpAnyH_done (by kernel_rfl) ?_ _
                go_wp2_with fail
                go_roundg (n1 - (q + 1))
                case measure => omega
                case rel => exact ⟨q + 1, y2, by omega, rfl, by go_num, rfl, hz2, Lib.hid (bl_tr HBR.out HB3.out), Lib.hid (by rw [← HF.out, HST.out])⟩
        · (try simp only [List.getElem_toArray, List.getElem_cons_zero, List.getElem_cons_succ, List.setIfInBounds_toArray, List.set_cons_zero, List.set_cons_succ])
          try go_simp
          refine hK.out _ _ ?_ (fun hHeld => ?_)
          · repeat (with_reducible first | exact Below.refl _ _ | exact HB2.out | exact HB3.out | refine Below.drew ?_ | refine bl_al ?_ _)
          (try simp only [Act.put, List.getElem_toArray, List.getElem_cons_zero, List.getElem_cons_succ, List.setIfInBounds_toArray, List.set_cons_zero, List.set_cons_succ])
          refine wpAnyH_ready (rs := [5, 14]) (by kernel_rfl) (by simp) ?_
          refine AllReadyH.cons rfl (fun K hK => ?_) (AllReadyH.cons rfl (fun K hK => ?_) AllReadyH.nil)
          · (try simp only [List.getElem_toArray, List.getElem_cons_zero, List.getElem_cons_succ, List.setIfInBounds_toArray, List.set_cons_zero, List.set_cons_succ])
            try go_simp
            refine hK.out _ _ ?_ (fun hHeld => ?_)
            · repeat (with_reducible first | exact Below.refl _ _ | exact HB2.out | exact HB3.out | refine Below.drew ?_ | refine bl_al ?_ _)
            (try simp only [Act.put, List.getElem_toArray, List.getElem_cons_zero, List.getElem_cons_succ, List.setIfInBounds_toArray, List.set_cons_zero, List.set_cons_succ])
            refine wpAnyH_ready (rs := [14]) (by kernel_rfl) (by simp) ?_
            refine AllReadyH.cons rfl (fun K hK => ?_) AllReadyH.nil
            · (try simp only [List.getElem_toArray, List.getElem_cons_zero, List.getElem_cons_succ, List.setIfInBounds_toArray, List.set_cons_zero, List.set_cons_succ])
              try go_simp
              refine (HP.out _ _ ?_ ?_).mono ?_
              · repeat (with_reducible first | exact Below.refl _ _ | exact HB2.out | exact HB3.out | refine Below.drew ?_ | refine bl_al ?_ _)
              · show Blk _ _ _ _; repeat (with_reducible first | exact bk_new _ _ _ _ (by simp) | exact bk_new _ _ _ _ rfl | refine bk_drew ?_ | refine bk_alloc ?_ _ | refine bk_below ?_ HX2.out)
              rintro e w2 ⟨rfl, hb2⟩
              have HX2 := Lib.hid hb2
              have HB2 : Hid (Below wr.heap.size wr w2) := Lib.hid (by refine bl_tr ?_ hb2; repeat (with_reducible first | exact Below.refl _ _ | exact HB2.out | exact HB3.out | refine Below.drew ?_ | refine bl_al ?_ _))
              clear hb2
              try go_simp
              refine hK.out _ _ ?_ (fun hHeld => ?_)
              · exact HB2.out
              (try simp only [Act.put, List.getElem_toArray, List.getElem_cons_zero, List.getElem_cons_succ, List.setIfInBounds_toArray, List.set_cons_zero, List.set_cons_succ])
              refine wpAnyH_ready (rs := [15]) (by kernel_rfl) (by simp) ?_
              refine AllReadyH.cons rfl (fun K hK => ?_) AllReadyH.nil
              · (try simp only [List.getElem_toArray, List.getElem_cons_zero, List.getElem_cons_succ, List.setIfInBounds_toArray, List.set_cons_zero, List.set_cons_succ])
                try go_simp
                refine (HE.out _ _ ?_ ?_).mono ?_
                · repeat (with_reducible first | exact Below.refl _ _ | exact HB2.out | exact HB3.out | refine Below.drew ?_ | refine bl_al ?_ _)
                · show Blk _ _ _ _; repeat (with_reducible first | exact bk_new _ _ _ _ (by simp) | exact bk_new _ _ _ _ rfl | refine bk_drew ?_ | refine bk_alloc ?_ _ | refine bk_below ?_ HX2.out)
                rintro e w3 ⟨rfl, hb3⟩
                have HB3 : Hid (Below wr.heap.size wr w3) := Lib.hid (by refine bl_tr ?_ hb3; repeat (with_reducible first | exact Below.refl _ _ | exact HB2.out | exact HB3.out | refine Below.drew ?_ | refine bl_al ?_ _))
                clear hb3
                try go_simp
                refine hK.out _ _ ?_ (fun hHeld => ?_)
                · exact HB3.out
                (try simp only [Act.put, List.getElem_toArray, List.getElem_cons_zero, List.getElem_cons_succ, List.setIfInBounds_toArray, List.set_cons_zero, List.set_cons_succ])
                refine wpAnyH_take (i := 16) (v := ?_) rfl (by kernel_rfl) (by kernel_rfl) (by kernel_rfl) (fun _ _ _ h => h) (Or.inl ⟨by rfl, ?_⟩) hHeld ?_
                rotate_left
                · (intro wS hSw; (try dsimp only at hSw); go_simp; try with_reducible rfl)
                (try simp only [Act.put, List.getElem_toArray, List.getElem_cons_zero, List.getElem_cons_succ, List.setIfInBounds_toArray, List.set_cons_zero, List.set_cons_succ])
                refine wpAnyH_done (by kernel_rfl) ?_ _
                go_wp2_with fail
                go_roundg (n1 - (q + 1))
                case measure => omega
                case rel => exact ⟨q + 1, y2, by omega, rfl, by go_num, rfl, hz2, Lib.hid (bl_tr HBR.out HB3.out), Lib.hid (by rw [← HF.out, HST.out])⟩
          · (try simp only [List.getElem_toArray, List.getElem_cons_zero, List.getElem_cons_succ, List.setIfInBounds_toArray, List.set_cons_zero, List.set_cons_succ])
            try go_simp
            refine (HP.out _ _ ?_ ?_).mono ?_
            · repeat (with_reducible first | exact Below.refl _ _ | exact HB2.out | exact HB3.out | refine Below.drew ?_ | refine bl_al ?_ _)
            · show Blk _ _ _ _; repeat (with_reducible first | exact bk_new _ _ _ _ (by simp) | exact bk_new _ _ _ _ rfl | refine bk_drew ?_ | refine bk_alloc ?_ _ | refine bk_below ?_ HX2.out)
            rintro e w2 ⟨rfl, hb2⟩
            have HX2 := Lib.hid hb2
            have HB2 : Hid (Below wr.heap.size wr w2) := Lib.hid (by refine bl_tr ?_ hb2; repeat (with_reducible first | exact Below.refl _ _ | exact HB2.out | exact HB3.out | refine Below.drew ?_ | refine bl_al ?_ _))
            clear hb2
            try go_simp
            refine hK.out _ _ ?_ (fun hHeld => ?_)
            · exact HB2.out
            (try simp only [Act.put, List.getElem_toArray, List.getElem_cons_zero, List.getElem_cons_succ, List.setIfInBounds_toArray, List.set_cons_zero, List.set_cons_succ])
            refine wpAnyH_ready (rs := [5]) (by kernel_rfl) (by simp) ?_
            refine AllReadyH.cons rfl (fun K hK => ?_) AllReadyH.nil
            · (try simp only [List.getElem_toArray, List.getElem_cons_zero, List.getElem_cons_succ, List.setIfInBounds_toArray, List.set_cons_zero, List.set_cons_succ])
              try go_simp
              refine hK.out _ _ ?_ (fun hHeld => ?_)
              · repeat (with_reducible first | exact Below.refl _ _ | exact HB2.out | exact HB3.out | refine Below.drew ?_ | refine bl_al ?_ _)
              (try simp only [Act.put, List.getElem_toArray, List.getElem_cons_zero, List.getElem_cons_succ, List.setIfInBounds_toArray, List.set_cons_zero, List.set_cons_succ])
              refine wpAnyH_ready (rs := [15]) (by kernel_rfl) (by simp) ?_
              refine AllReadyH.cons rfl (fun K hK => ?_) AllReadyH.nil
              · (try simp only [List.getElem_toArray, List.getElem_cons_zero, List.getElem_cons_succ, List.setIfInBounds_toArray, List.set_cons_zero, List.set_cons_succ])
                try go_simp
                refine (HE.out _ _ ?_ ?_).mono ?_
                · repeat (with_reducible first | exact Below.refl _ _ | exact HB2.out | exact HB3.out | refine Below.drew ?_ | refine bl_al ?_ _)
                · show Blk _ _ _ _; repeat (with_reducible first | exact bk_new _ _ _ _ (by simp) | exact bk_new _ _ _ _ rfl | refine bk_drew ?_ | refine bk_alloc ?_ _ | refine bk_below ?_ HX2.out)
                rintro e w3 ⟨rfl, hb3⟩
                have HB3 : Hid (Below wr.heap.size wr w3) := Lib.hid (by refine bl_tr ?_ hb3; repeat (with_reducible first | exact Below.refl _ _ | exact HB2.out | exact HB3.out | refine Below.drew ?_ | refine bl_al ?_ _))
                clear hb3
                try go_simp
                refine hK.out _ _ ?_ (fun hHeld => ?_)
                · exact HB3.out
                (try simp only [Act.put, List.getElem_toArray, List.getElem_cons_zero, List.getElem_cons_succ, List.setIfInBounds_toArray, List.set_cons_zero, List.set_cons_succ])
                refine wpAnyH_take (i := 16) (v := ?_) rfl (by kernel_rfl) (by kernel_rfl) (by kernel_rfl) (fun _ _ _ h => h) (Or.inl ⟨by rfl, ?_⟩) hHeld ?_
                rotate_left
                · (intro wS hSw; (try dsimp only at hSw); go_simp; try with_reducible rfl)
                (try simp only [Act.put, List.getElem_toArray, List.getElem_cons_zero, List.getElem_cons_succ, List.setIfInBounds_toArray, List.set_cons_zero, List.set_cons_succ])
                refine wpAnyH_done (by kernel_rfl) ?_ _
                go_wp2_with fail
                go_roundg (n1 - (q + 1))
                case measure => omega
                case rel => exact ⟨q + 1, y2, by omega, rfl, by go_num, rfl, hz2, Lib.hid (bl_tr HBR.out HB3.out), Lib.hid (by rw [← HF.out, HST.out])⟩
    · obtain rfl : q = n1 := by omega
      go_wp2_with fail
      go_ret
      exact ⟨ret_i (by
        rw [← HF.out, HN.out, List.drop_length]
        rw [fewAls]), HBR.out⟩
end Go.Proofs.Ytfeghobfkgimfaa
