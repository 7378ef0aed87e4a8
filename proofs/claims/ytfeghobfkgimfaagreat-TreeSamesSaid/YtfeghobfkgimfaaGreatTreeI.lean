/- The document's sameDecl; all of them close the ring. -/
import Derived.Test.YtfeghobfkgimfaaGreatTreeH
namespace Go.Proofs.YtfeghobfkgimfaaGreat
set_option linter.unusedSimpArgs false
set_option linter.unusedVariables false
open Go.RowKit Go.Shelf

set_option maxRecDepth 100000 in
set_option maxHeartbeats 8000000 in
theorem rsDe_of (k a k' a' : Int) (s s' : ByteArray) (vars vars' : List ByteArray) (cons cons' : List Co) (ty ty' : Ty) (pats pats' : List Pt) (body body' : Ex) (cs ds : List Value) (w : World)
    (hD : DeC (mem w) (.mk k a s vars cons ty pats body) cs) (hE : DeC (mem w) (.mk k' a' s' vars' cons' ty' pats' body') ds)
    (ih1 : ∀ cs ds W, ExC (mem W) body cs → ExC (mem W) body' ds → Calls Tryz.prog 15 #[.agg cs.toArray, .agg ds.toArray] W (RightV (sameEx body body') W)) :
    Calls Tryz.prog 33 #[.agg cs.toArray, .agg ds.toArray] w (RightV (sameDe (.mk k a s vars cons ty pats body) (.mk k' a' s' vars' cons' ty' pats' body')) w) := by
  obtain ⟨_, vc, vp, ct, cb, rfl, ⟨A1, c1, rfl, hvc, hvA⟩, _, hcs, ht, hp, hb⟩ := hD.inv
  obtain ⟨_, vc', vp', ct', cb', rfl, ⟨G1, d1, rfl, hvc', hvA'⟩, _, hcs', ht', hp', hb'⟩ := hE.inv
  have h2 := fun (W : World) (hw : Below w.heap.size w W) => rsCos_any cons cons' vc vc' W (hcs.mono (mem_below hw)) (hcs'.mono (mem_below hw))
  have h3 := fun (W : World) (hw : Below w.heap.size w W) => rsTy_any _ ty ty' ct ct' W (Nat.lt_succ_self _) (ht.mono (mem_below hw)) (ht'.mono (mem_below hw))
  have h4 := fun (W : World) (hw : Below w.heap.size w W) => rsPts_any pats pats' vp vp' W (hp.mono (mem_below hw)) (hp'.mono (mem_below hw))
  have h5 := fun (W : World) (hw : Below w.heap.size w W) => ih1 cb cb' W (hb.mono (mem_below hw)) (hb'.mono (mem_below hw))
  obtain ⟨ta, tb, tc, t3, rfl⟩ := ht.sh
  obtain ⟨ta', tb', tc', t3', rfl⟩ := ht'.sh
  obtain ⟨ba, bb, bc, bd, b4, b5, b6, b7, rfl⟩ := hb.sh
  obtain ⟨ba', bb', bc', bd', b4', b5', b6', b7', rfl⟩ := hb'.sh
  obtain ⟨t0, et0⟩ : ∃ x, x = Value.int .i64 ta := ⟨_, rfl⟩
  obtain ⟨t1, et1⟩ : ∃ x, x = Value.int .i64 tb := ⟨_, rfl⟩
  obtain ⟨t2, et2⟩ : ∃ x, x = Value.string tc := ⟨_, rfl⟩
  obtain ⟨t0', et0'⟩ : ∃ x, x = Value.int .i64 ta' := ⟨_, rfl⟩
  obtain ⟨t1', et1'⟩ : ∃ x, x = Value.int .i64 tb' := ⟨_, rfl⟩
  obtain ⟨t2', et2'⟩ : ∃ x, x = Value.string tc' := ⟨_, rfl⟩
  obtain ⟨b0, eb0⟩ : ∃ x, x = Value.int .i64 ba := ⟨_, rfl⟩
  obtain ⟨b1, eb1⟩ : ∃ x, x = Value.int .i64 bb := ⟨_, rfl⟩
  obtain ⟨b2, eb2⟩ : ∃ x, x = Value.string bc := ⟨_, rfl⟩
  obtain ⟨b3, eb3⟩ : ∃ x, x = Value.int .i64 bd := ⟨_, rfl⟩
  obtain ⟨b0', eb0'⟩ : ∃ x, x = Value.int .i64 ba' := ⟨_, rfl⟩
  obtain ⟨b1', eb1'⟩ : ∃ x, x = Value.int .i64 bb' := ⟨_, rfl⟩
  obtain ⟨b2', eb2'⟩ : ∃ x, x = Value.string bc' := ⟨_, rfl⟩
  obtain ⟨b3', eb3'⟩ : ∃ x, x = Value.int .i64 bd' := ⟨_, rfl⟩
  rw [← et0, ← et1, ← et2, ← et0', ← et1', ← et2'] at h3
  rw [← eb0, ← eb1, ← eb2, ← eb3, ← eb0', ← eb1', ← eb2', ← eb3'] at h5
  simp only [List.cons_append, List.nil_append]
  rw [← et0, ← et1, ← et2, ← et0', ← et1', ← et2', ← eb0, ← eb1, ← eb2, ← eb3, ← eb0', ← eb1', ← eb2', ← eb3']
  clear et0 et1 et2 et0' et1' et2' eb0 eb1 eb2 eb3 eb0' eb1' eb2' eb3'
  have hvr : sameStrs vars vars' = eqB vars.length vars'.length (fun i => eqS (vars.getD i ByteArray.empty) (vars'.getD i ByteArray.empty)) := sameStrs_eqB vars vars' (fun i i1 i2 => by simp [List.getD_eq_getElem?_getD, i1, i2])
  have hn1 := le_of hvc
  unfold maxLen at hn1
  rw [sameDe, hvr]
  have H2 := Lib.hid h2; have H3 := Lib.hid h3; have H4 := Lib.hid h4; have H5 := Lib.hid h5; have HA := Lib.hid hvA; have HG := Lib.hid hvA'
  clear h2 h3 h4 h5 hvr hvA hvA' hvc hvc' hcs hcs' ht ht' hp hp' hb hb' hD hE ih1
  obtain ⟨n1, e1⟩ : ∃ x, x = vars.length := ⟨_, rfl⟩
  obtain ⟨n2, e2⟩ : ∃ x, x = vars'.length := ⟨_, rfl⟩
  rw [← e1, ← e2]
  rw [← e1] at HA hn1; rw [← e2] at HG
  clear e1 e2
  obtain ⟨r2, q2⟩ : ∃ b, b = sameCos cons cons' := ⟨_, rfl⟩
  obtain ⟨r3, q3⟩ : ∃ b, b = sameTy ty ty' := ⟨_, rfl⟩
  obtain ⟨r4, q4⟩ : ∃ b, b = samePts pats pats' := ⟨_, rfl⟩
  obtain ⟨r5, q5⟩ : ∃ b, b = sameEx body body' := ⟨_, rfl⟩
  rw [← q2] at H2 ⊢; rw [← q3] at H3 ⊢; rw [← q4] at H4 ⊢; rw [← q5] at H5 ⊢
  clear q2 q3 q4 q5
  by_cases z0 : k = k'
  · subst z0
    by_cases z1 : s.toList = s'.toList
    · have f1 : (s.toList == s'.toList) = true := by simp [z1]
      have f2 : (s.toList != s'.toList) = false := by simp [z1]
      have ee : eqS s s' = true := by simp [eqS, z1]
      rw [ee]
      clear ee
      by_cases z2 : n1 = n2
      · subst z2
        rw [eqB_eq]
        simp only [beq_self_eq_true, Bool.true_and]
        go_enter Tryz.func33, Tryz.ntmps33
        go_wp2_with fail
        go_loopg [5] n1 (fun gk i wr => ∃ q : Nat, q ≤ n1 ∧ gk = n1 - q ∧ i = .int .i64 q ∧ Hid (Below ((w.alloc (.cells #[.int .i64 k, .int .i64 a, .string s, .slice A1 n1 c1, vc, t0, t1, t2, t3, vp, b0, b1, b2, b3, b4, b5, b6, b7] 83)).alloc (.cells #[.int .i64 k, .int .i64 a', .string s', .slice G1 n1 d1, vc', t0', t1', t2', t3', vp', b0', b1', b2', b3', b4', b5', b6', b7'] 83)).heap.size ((w.alloc (.cells #[.int .i64 k, .int .i64 a, .string s, .slice A1 n1 c1, vc, t0, t1, t2, t3, vp, b0, b1, b2, b3, b4, b5, b6, b7] 83)).alloc (.cells #[.int .i64 k, .int .i64 a', .string s', .slice G1 n1 d1, vc', t0', t1', t2', t3', vp', b0', b1', b2', b3', b4', b5', b6', b7'] 83)) wr) ∧ Hid (∀ i, i < q → eqS (vars.getD i ByteArray.empty) (vars'.getD i ByteArray.empty) = true))
        case atStart => exact ⟨0, Nat.zero_le _, rfl, rfl, Lib.hid (Below.refl _ _), Lib.hid (fun i hi => absurd hi (by omega))⟩
        case round =>
          obtain ⟨q, hq, rfl, rfl, HBR, HALL⟩ := hrel
          have x3 : wr.cell? ⟨w.heap.size, 3, none⟩ = some (.slice A1 n1 c1) := (box_cell HBR.out 3).1
          have y3 : wr.cell? ⟨w.heap.size + 1, 3, none⟩ = some (.slice G1 n1 d1) := (box_cell HBR.out 3).2
          by_cases hlt : q < n1
          · obtain ⟨g, o, rfl, hc1⟩ := HA.out (by omega)
            obtain ⟨g', o', rfl, hc2⟩ := HG.out (by omega)
            have i1 := hc1 q hlt 0 (by decide); have i2 := hc2 q hlt 0 (by decide)
            obtain ⟨u, hu⟩ : ∃ u, u = vars.getD q ByteArray.empty := ⟨_, rfl⟩
            obtain ⟨u', hu'⟩ : ∃ u, u = vars'.getD q ByteArray.empty := ⟨_, rfl⟩
            simp only [Nat.mul_one, Nat.add_zero, mem, List.getElem?_cons_zero] at i1 i2
            rw [← hu] at i1; rw [← hu'] at i2
            have hwr := bl_tr (bl2 w _ _) HBR.out
            have E1 : ∀ w', Below wr.heap.size wr w' → w'.cell? ⟨g, o + q, none⟩ = some (.string u) := fun w' hw' => ((bl_tr hwr hw').cell (p := ⟨g, o + q, none⟩) (cell_lt i1)).trans i1
            have E2 : ∀ w', Below wr.heap.size wr w' → w'.cell? ⟨g', o' + q, none⟩ = some (.string u') := fun w' hw' => ((bl_tr hwr hw').cell (p := ⟨g', o' + q, none⟩) (cell_lt i2)).trans i2
            have E3 : ∀ w', Below wr.heap.size wr w' → w'.cell? ⟨w.heap.size, 3, none⟩ = some (.slice (some ⟨g, o, none⟩) n1 c1) := fun w' hw' => (hw'.cell (p := ⟨w.heap.size, 3, none⟩) (cell_lt x3)).trans x3
            have E4 : ∀ w', Below wr.heap.size wr w' → w'.cell? ⟨w.heap.size + 1, 3, none⟩ = some (.slice (some ⟨g', o', none⟩) n1 d1) := fun w' hw' => (hw'.cell (p := ⟨w.heap.size + 1, 3, none⟩) (cell_lt y3)).trans y3
            have HU := Lib.hid hu; have HU' := Lib.hid hu'
            have hk1 : (q : Int) < (n1 : Int) := by omega
            have hk0 : (0 : Int) ≤ (q : Int) := by omega
            clear i1 i2 hc1 hc2 hu hu' hwr
            by_cases zq : u.toList = u'.toList
            · have g1 : (u.toList == u'.toList) = true := by simp [zq]
              have g2 : (u.toList != u'.toList) = false := by simp [zq]
              have HE : Hid (eqS u u' = true) := Lib.hid (by simp [eqS, zq])
              clear zq
              go_wp2_with fail
              refine wp_region_held_drew (S := fun w' => Below wr.heap.size wr w') (by kernel_rfl) (Below.drew (Below.refl _ _)) (fun hHeld => ?_)
              refine wpAnyH_take (i := 0) (v := ?_) rfl (by kernel_rfl) (by kernel_rfl) (by kernel_rfl) (fun _ _ _ h => h) (Or.inl ⟨by rfl, ?_⟩) hHeld ?_
              rotate_left
              · (intro wS hSw; (try dsimp only at hSw); go_simp; try with_reducible rfl)
              (try simp only [Act.put, List.getElem_toArray, List.getElem_cons_zero, List.getElem_cons_succ, List.setIfInBounds_toArray, List.set_cons_zero, List.set_cons_succ])
              refine wpAnyH_take (i := 1) (v := ?_) rfl (by kernel_rfl) (by kernel_rfl) (by kernel_rfl) (fun _ _ _ h => h) (Or.inl ⟨by rfl, ?_⟩) hHeld ?_
              rotate_left
              · (intro wS hSw; (try dsimp only at hSw); go_simp; try with_reducible rfl)
              (try simp only [Act.put, List.getElem_toArray, List.getElem_cons_zero, List.getElem_cons_succ, List.setIfInBounds_toArray, List.set_cons_zero, List.set_cons_succ])
              refine wpAnyH_take (i := 2) (v := ?_) rfl (by kernel_rfl) (by kernel_rfl) (by kernel_rfl) (fun _ _ _ h => h) (Or.inl ⟨by rfl, ?_⟩) hHeld ?_
              rotate_left
              · (intro wS hSw; (try dsimp only at hSw); go_simp; try with_reducible rfl)
              (try simp only [Act.put, List.getElem_toArray, List.getElem_cons_zero, List.getElem_cons_succ, List.setIfInBounds_toArray, List.set_cons_zero, List.set_cons_succ])
              refine wpAnyH_take (i := 3) (v := ?_) rfl (by kernel_rfl) (by kernel_rfl) (by kernel_rfl) (fun _ _ _ h => h) (Or.inl ⟨by rfl, ?_⟩) hHeld ?_
              rotate_left
              · (intro wS hSw; (try dsimp only at hSw); go_simp; try with_reducible rfl)
              (try simp only [Act.put, List.getElem_toArray, List.getElem_cons_zero, List.getElem_cons_succ, List.setIfInBounds_toArray, List.set_cons_zero, List.set_cons_succ])
              refine wpAnyH_take (i := 4) (v := ?_) rfl (by kernel_rfl) (by kernel_rfl) (by kernel_rfl) (fun _ _ _ h => h) (Or.inl ⟨by rfl, ?_⟩) hHeld ?_
              rotate_left
              · (intro wS hSw; (try dsimp only at hSw); go_simp; try with_reducible rfl)
              (try simp only [Act.put, List.getElem_toArray, List.getElem_cons_zero, List.getElem_cons_succ, List.setIfInBounds_toArray, List.set_cons_zero, List.set_cons_succ])
              refine wpAnyH_take (i := 5) (v := ?_) rfl (by kernel_rfl) (by kernel_rfl) (by kernel_rfl) (fun _ _ _ h => h) (Or.inl ⟨by rfl, ?_⟩) hHeld ?_
              rotate_left
              · (intro wS hSw; (try dsimp only at hSw); go_simp; try with_reducible rfl)
              (try simp only [Act.put, List.getElem_toArray, List.getElem_cons_zero, List.getElem_cons_succ, List.setIfInBounds_toArray, List.set_cons_zero, List.set_cons_succ])
              refine wpAnyH_take (i := 6) (v := ?_) rfl (by kernel_rfl) (by kernel_rfl) (by kernel_rfl) (fun _ _ _ h => h) (Or.inl ⟨by rfl, ?_⟩) hHeld ?_
              rotate_left
              · (intro wS hSw; (try dsimp only at hSw); go_simp; try with_reducible rfl)
              (try simp only [Act.put, List.getElem_toArray, List.getElem_cons_zero, List.getElem_cons_succ, List.setIfInBounds_toArray, List.set_cons_zero, List.set_cons_succ])
              refine wpAnyH_take (i := 7) (v := ?_) rfl (by kernel_rfl) (by kernel_rfl) (by kernel_rfl) (fun _ _ _ h => h) (Or.inl ⟨by rfl, ?_⟩) hHeld ?_
              rotate_left
              · (intro wS hSw; (try dsimp only at hSw); go_simp; try with_reducible rfl)
              (try simp only [Act.put, List.getElem_toArray, List.getElem_cons_zero, List.getElem_cons_succ, List.setIfInBounds_toArray, List.set_cons_zero, List.set_cons_succ])
              refine wpAnyH_take (i := 8) (v := ?_) rfl (by kernel_rfl) (by kernel_rfl) (by kernel_rfl) (fun _ _ _ h => h) (Or.inl ⟨by rfl, ?_⟩) hHeld ?_
              rotate_left
              · (intro wS hSw; (try dsimp only at hSw); go_simp; try with_reducible rfl)
              (try simp only [Act.put, List.getElem_toArray, List.getElem_cons_zero, List.getElem_cons_succ, List.setIfInBounds_toArray, List.set_cons_zero, List.set_cons_succ])
              refine wpAnyH_take (i := 9) (v := ?_) rfl (by kernel_rfl) (by kernel_rfl) (by kernel_rfl) (fun _ _ _ h => h) (Or.inl ⟨by rfl, ?_⟩) hHeld ?_
              rotate_left
              · (intro wS hSw; (try dsimp only at hSw); go_simp; try with_reducible rfl)
              (try simp only [Act.put, List.getElem_toArray, List.getElem_cons_zero, List.getElem_cons_succ, List.setIfInBounds_toArray, List.set_cons_zero, List.set_cons_succ])
              refine wpAnyH_take (i := 10) (v := ?_) rfl (by kernel_rfl) (by kernel_rfl) (by kernel_rfl) (fun _ _ _ h => h) (Or.inl ⟨by rfl, ?_⟩) hHeld ?_
              rotate_left
              · (intro wS hSw; (try dsimp only at hSw); go_simp; try with_reducible rfl)
              (try simp only [Act.put, List.getElem_toArray, List.getElem_cons_zero, List.getElem_cons_succ, List.setIfInBounds_toArray, List.set_cons_zero, List.set_cons_succ])
              refine wpAnyH_done (by kernel_rfl) ?_ _
              go_wp2_with fail
              go_roundg (n1 - (q + 1))
              case measure => omega
              case rel => exact ⟨q + 1, by omega, rfl, by go_num, Lib.hid HBR.out.drew, Lib.hid (fun i hi => by
                by_cases h : i < q
                · exact HALL.out i h
                · obtain rfl : i = q := by omega
                  rw [← HU.out, ← HU'.out]; exact HE.out)⟩
            · have g1 : (u.toList == u'.toList) = false := by simpa using zq
              have g2 : (u.toList != u'.toList) = true := by simpa using zq
              have HE : Hid (eqS u u' = false) := Lib.hid (by simp [eqS, zq])
              clear zq
              go_wp2_with fail
              refine wp_region_held_drew (S := fun w' => Below wr.heap.size wr w') (by kernel_rfl) (Below.drew (Below.refl _ _)) (fun hHeld => ?_)
              refine wpAnyH_take (i := 0) (v := ?_) rfl (by kernel_rfl) (by kernel_rfl) (by kernel_rfl) (fun _ _ _ h => h) (Or.inl ⟨by rfl, ?_⟩) hHeld ?_
              rotate_left
              · (intro wS hSw; (try dsimp only at hSw); go_simp; try with_reducible rfl)
              (try simp only [Act.put, List.getElem_toArray, List.getElem_cons_zero, List.getElem_cons_succ, List.setIfInBounds_toArray, List.set_cons_zero, List.set_cons_succ])
              refine wpAnyH_take (i := 1) (v := ?_) rfl (by kernel_rfl) (by kernel_rfl) (by kernel_rfl) (fun _ _ _ h => h) (Or.inl ⟨by rfl, ?_⟩) hHeld ?_
              rotate_left
              · (intro wS hSw; (try dsimp only at hSw); go_simp; try with_reducible rfl)
              (try simp only [Act.put, List.getElem_toArray, List.getElem_cons_zero, List.getElem_cons_succ, List.setIfInBounds_toArray, List.set_cons_zero, List.set_cons_succ])
              refine wpAnyH_take (i := 2) (v := ?_) rfl (by kernel_rfl) (by kernel_rfl) (by kernel_rfl) (fun _ _ _ h => h) (Or.inl ⟨by rfl, ?_⟩) hHeld ?_
              rotate_left
              · (intro wS hSw; (try dsimp only at hSw); go_simp; try with_reducible rfl)
              (try simp only [Act.put, List.getElem_toArray, List.getElem_cons_zero, List.getElem_cons_succ, List.setIfInBounds_toArray, List.set_cons_zero, List.set_cons_succ])
              refine wpAnyH_take (i := 3) (v := ?_) rfl (by kernel_rfl) (by kernel_rfl) (by kernel_rfl) (fun _ _ _ h => h) (Or.inl ⟨by rfl, ?_⟩) hHeld ?_
              rotate_left
              · (intro wS hSw; (try dsimp only at hSw); go_simp; try with_reducible rfl)
              (try simp only [Act.put, List.getElem_toArray, List.getElem_cons_zero, List.getElem_cons_succ, List.setIfInBounds_toArray, List.set_cons_zero, List.set_cons_succ])
              refine wpAnyH_take (i := 4) (v := ?_) rfl (by kernel_rfl) (by kernel_rfl) (by kernel_rfl) (fun _ _ _ h => h) (Or.inl ⟨by rfl, ?_⟩) hHeld ?_
              rotate_left
              · (intro wS hSw; (try dsimp only at hSw); go_simp; try with_reducible rfl)
              (try simp only [Act.put, List.getElem_toArray, List.getElem_cons_zero, List.getElem_cons_succ, List.setIfInBounds_toArray, List.set_cons_zero, List.set_cons_succ])
              refine wpAnyH_take (i := 5) (v := ?_) rfl (by kernel_rfl) (by kernel_rfl) (by kernel_rfl) (fun _ _ _ h => h) (Or.inl ⟨by rfl, ?_⟩) hHeld ?_
              rotate_left
              · (intro wS hSw; (try dsimp only at hSw); go_simp; try with_reducible rfl)
              (try simp only [Act.put, List.getElem_toArray, List.getElem_cons_zero, List.getElem_cons_succ, List.setIfInBounds_toArray, List.set_cons_zero, List.set_cons_succ])
              refine wpAnyH_take (i := 6) (v := ?_) rfl (by kernel_rfl) (by kernel_rfl) (by kernel_rfl) (fun _ _ _ h => h) (Or.inl ⟨by rfl, ?_⟩) hHeld ?_
              rotate_left
              · (intro wS hSw; (try dsimp only at hSw); go_simp; try with_reducible rfl)
              (try simp only [Act.put, List.getElem_toArray, List.getElem_cons_zero, List.getElem_cons_succ, List.setIfInBounds_toArray, List.set_cons_zero, List.set_cons_succ])
              refine wpAnyH_take (i := 7) (v := ?_) rfl (by kernel_rfl) (by kernel_rfl) (by kernel_rfl) (fun _ _ _ h => h) (Or.inl ⟨by rfl, ?_⟩) hHeld ?_
              rotate_left
              · (intro wS hSw; (try dsimp only at hSw); go_simp; try with_reducible rfl)
              (try simp only [Act.put, List.getElem_toArray, List.getElem_cons_zero, List.getElem_cons_succ, List.setIfInBounds_toArray, List.set_cons_zero, List.set_cons_succ])
              refine wpAnyH_take (i := 8) (v := ?_) rfl (by kernel_rfl) (by kernel_rfl) (by kernel_rfl) (fun _ _ _ h => h) (Or.inl ⟨by rfl, ?_⟩) hHeld ?_
              rotate_left
              · (intro wS hSw; (try dsimp only at hSw); go_simp; try with_reducible rfl)
              (try simp only [Act.put, List.getElem_toArray, List.getElem_cons_zero, List.getElem_cons_succ, List.setIfInBounds_toArray, List.set_cons_zero, List.set_cons_succ])
              refine wpAnyH_take (i := 9) (v := ?_) rfl (by kernel_rfl) (by kernel_rfl) (by kernel_rfl) (fun _ _ _ h => h) (Or.inl ⟨by rfl, ?_⟩) hHeld ?_
              rotate_left
              · (intro wS hSw; (try dsimp only at hSw); go_simp; try with_reducible rfl)
              (try simp only [Act.put, List.getElem_toArray, List.getElem_cons_zero, List.getElem_cons_succ, List.setIfInBounds_toArray, List.set_cons_zero, List.set_cons_succ])
              refine wpAnyH_take (i := 10) (v := ?_) rfl (by kernel_rfl) (by kernel_rfl) (by kernel_rfl) (fun _ _ _ h => h) (Or.inl ⟨by rfl, ?_⟩) hHeld ?_
              rotate_left
              · (intro wS hSw; (try dsimp only at hSw); go_simp; try with_reducible rfl)
              (try simp only [Act.put, List.getElem_toArray, List.getElem_cons_zero, List.getElem_cons_succ, List.setIfInBounds_toArray, List.set_cons_zero, List.set_cons_succ])
              refine wpAnyH_done (by kernel_rfl) ?_ _
              go_wp2_with fail
              go_ret
              exact ⟨ret_b (by
                have q3 := allB_false (R := fun i => eqS (vars.getD i ByteArray.empty) (vars'.getD i ByteArray.empty)) hlt (by rw [← HU.out, ← HU'.out]; exact HE.out)
                rw [q3]; simp), bl_tr (bl2 _ _ _) HBR.out.drew⟩
          · obtain rfl : q = n1 := by omega
            have HV := Lib.hid (allB_true.2 HALL.out)
            obtain ⟨hc, _⟩ := bcell HBR.out
            have hz : w.heap.size + 1 < wr.heap.size := by have := HBR.out.size; simp at this; omega
            have hz' : w.heap.size < wr.heap.size := by omega
            clear HALL
            go_wp2_with fail
            refine (H2.out _ (bl_tr (bl2 _ _ _) HBR.out)).mono ?_
            rintro e w5 ⟨rfl, hb⟩
            have B0 := Lib.hid (bl_tr HBR.out hb)
            obtain ⟨hc0, _⟩ := bcell B0.out
            have hz0 : w.heap.size + 1 < w5.heap.size := by have := B0.out.size; simp at this; omega
            have hz0' : w.heap.size < w5.heap.size := by omega
            clear hb
            cases r2 with
            | false =>
              go_wp2_with fail
              go_ret
              exact ⟨ret_b (by simp), bl_tr (bl2 _ _ _) B0.out⟩
            | true =>
              go_wp2_with fail
              refine (H3.out _ (bl_tr (bl2 _ _ _) B0.out)).mono ?_
              rintro e w6 ⟨rfl, hb⟩
              have B1 := Lib.hid (bl_tr B0.out hb)
              obtain ⟨hc1, _⟩ := bcell B1.out
              have hz1 : w.heap.size + 1 < w6.heap.size := by have := B1.out.size; simp at this; omega
              have hz1' : w.heap.size < w6.heap.size := by omega
              clear hb
              cases r3 with
              | false =>
                go_wp2_with fail
                go_ret
                exact ⟨ret_b (by simp), bl_tr (bl2 _ _ _) B1.out⟩
              | true =>
                go_wp2_with fail
                refine (H4.out _ (bl_tr (bl2 _ _ _) B1.out)).mono ?_
                rintro e w7 ⟨rfl, hb⟩
                have B2 := Lib.hid (bl_tr B1.out hb)
                obtain ⟨hc2, _⟩ := bcell B2.out
                have hz2 : w.heap.size + 1 < w7.heap.size := by have := B2.out.size; simp at this; omega
                have hz2' : w.heap.size < w7.heap.size := by omega
                clear hb
                cases r4 with
                | false =>
                  go_wp2_with fail
                  go_ret
                  exact ⟨ret_b (by simp), bl_tr (bl2 _ _ _) B2.out⟩
                | true =>
                  go_wp2_with fail
                  refine (H5.out _ (bl_tr (bl2 _ _ _) B2.out)).mono ?_
                  rintro e w8 ⟨rfl, hb⟩
                  have B3 := Lib.hid (bl_tr B2.out hb)
                  obtain ⟨hc3, _⟩ := bcell B3.out
                  have hz3 : w.heap.size + 1 < w8.heap.size := by have := B3.out.size; simp at this; omega
                  have hz3' : w.heap.size < w8.heap.size := by omega
                  clear hb
                  go_wp2_with fail
                  go_ret
                  exact ⟨ret_b (by rw [HV.out]; simp), bl_tr (bl2 _ _ _) B3.out⟩
      · have g1 : ((n1 : Int) != (n2 : Int)) = true := by rw [bne_iff_ne]; omega
        rw [eqB_ne z2]
        go_enter Tryz.func33, Tryz.ntmps33
        go_wp2_with fail
        go_ret
        exact ⟨ret_b (by simp), bl2 _ _ _⟩
    · have f1 : (s.toList == s'.toList) = false := by simpa using z1
      have f2 : (s.toList != s'.toList) = true := by simpa using z1
      have ee : eqS s s' = false := by simp [eqS, z1]
      rw [ee]
      clear ee
      go_enter Tryz.func33, Tryz.ntmps33
      go_wp2_with fail
      go_ret
      exact ⟨ret_b (by simp), bl2 _ _ _⟩
  · have f1 : (k == k') = false := by simpa using z0
    have f2 : (k != k') = true := by simpa using z0
    go_enter Tryz.func33, Tryz.ntmps33
    go_wp2_with fail
    go_ret
    exact ⟨ret_b (by simp [z0]), bl2 _ _ _⟩

theorem rs_ring (n : Nat) : (∀ D E cs ds W, SizeOf.sizeOf D < n → ExC (mem W) D cs → ExC (mem W) E ds → Calls Tryz.prog 15 #[.agg cs.toArray, .agg ds.toArray] W (RightV (sameEx D E) W)) ∧
    (∀ D E cs ds W, SizeOf.sizeOf D < n → DeC (mem W) D cs → DeC (mem W) E ds → Calls Tryz.prog 33 #[.agg cs.toArray, .agg ds.toArray] W (RightV (sameDe D E) W)) := by
  induction n with
  | zero => exact ⟨fun D E cs ds W h => by omega, fun D E cs ds W h => by omega⟩
  | succ n ih =>
    obtain ⟨ih1, ih3⟩ := ih
    refine ⟨fun D E cs ds W hn hD hE => ?_, fun D E cs ds W hn hD hE => ?_⟩
    · obtain ⟨k, a, s, m, l, p, q, d⟩ := D
      obtain ⟨k', a', s', m', l', p', q', d'⟩ := E
      exact rsEx_of k a k' a' s s' m m' l l' p p' q q' d d' cs ds W hD hE (fun D E cs ds W h => ih1 D E cs ds W (by omega)) (fun D E cs ds W h => ih3 D E cs ds W (by omega))
    · obtain ⟨k, a, s, vars, cons, ty, pats, body⟩ := D
      obtain ⟨k', a', s', vars', cons', ty', pats', body'⟩ := E
      simp at hn
      exact rsDe_of k a k' a' s s' vars vars' cons cons' ty ty' pats pats' body body' cs ds W hD hE (fun cs ds W => ih1 _ _ cs ds W (by omega))
theorem rsEx_any (D E : Ex) (cs ds : List Value) (w : World) (hD : ExC (mem w) D cs) (hE : ExC (mem w) E ds) : Calls Tryz.prog 15 #[.agg cs.toArray, .agg ds.toArray] w (RightV (sameEx D E) w) :=
  (rs_ring _).1 D E cs ds w (Nat.lt_succ_self _) hD hE
theorem rsDes_any (l l' : List De) (v v' : Value) (w : World) (h : DesV (mem w) l v) (h' : DesV (mem w) l' v') : Calls Tryz.prog 18 #[v, v'] w (RightV (sameDes l l') w) :=
  rsDes_of l l' v v' w h h' (fun i i1 i2 cs ds W hb h1 h2 => (rs_ring _).2 _ _ _ _ W (Nat.lt_succ_self _) (h1.mono (mem_below hb)) (h2.mono (mem_below hb)))
end Go.Proofs.YtfeghobfkgimfaaGreat
