/- The document's sameCons, SameExpr, sameDecl, SameDecls. -/
import Derived.Test.YtfeghobfkgimfaaGreatTreeF
namespace Go.Proofs.YtfeghobfkgimfaaGreat
set_option linter.unusedSimpArgs false
set_option linter.unusedVariables false
open Go.RowKit Go.Shelf

theorem range_left {w : World} {g o : Nat} {a b : List Value} (h : w.rangeAt g o (a ++ b)) : w.rangeAt g o a := fun j v hv => h j v (by rw [List.getElem?_append_left (List.getElem?_eq_some_iff.1 hv).1]; exact hv)
theorem range_right {w : World} {g o n : Nat} {a b : List Value} (h : w.rangeAt g o (a ++ b)) (hn : a.length = n) : w.rangeAt g (o + n) b := fun j v hv => by
  have := h (n + j) v (by rw [List.getElem?_append_right (by omega), hn, Nat.add_sub_cancel_left]; exact hv)
  rwa [← Nat.add_assoc] at this
theorem Tryz.irExpr : (Tryz.prog.info? 30).map (·.size) = some 8 := by kernel_rfl
theorem Tryz.irPat : (Tryz.prog.info? 40).map (·.size) = some 5 := by kernel_rfl
theorem Tryz.irType : (Tryz.prog.info? 24).map (·.size) = some 4 := by kernel_rfl
/-- What stands in a box, behind other calls. -/
theorem box_cell {w W : World} {cs ds : Array Value} {t t' : TypeId} (hb : Below ((w.alloc (.cells cs t)).alloc (.cells ds t')).heap.size ((w.alloc (.cells cs t)).alloc (.cells ds t')) W) (f : Nat) : W.cell? ⟨w.heap.size, f, none⟩ = cs[f]? ∧ W.cell? ⟨w.heap.size + 1, f, none⟩ = ds[f]? :=
  ⟨(hb.cell (p := ⟨w.heap.size, f, none⟩) (by simp; omega)).trans (cell_of_row _ _ f _ _ _ (heap_alloc2_old w _ _)), (hb.cell (p := ⟨w.heap.size + 1, f, none⟩) (by simp)).trans (cell_of_row _ _ f _ _ _ (heap_alloc2_new w _ _))⟩

set_option maxRecDepth 100000 in
set_option maxHeartbeats 8000000 in
theorem rsEx_of (k a k' a' : Int) (s s' : ByteArray) (m m' : Int) (l l' : List Ex) (p p' : List Pt) (qa qa' : List Al) (d d' : List De) (cs ds : List Value) (w : World)
    (hD : ExC (mem w) (.mk k a s m l p qa d) cs) (hE : ExC (mem w) (.mk k' a' s' m' l' p' qa' d') ds)
    (ih1 : ∀ D E cs ds W, SizeOf.sizeOf D < SizeOf.sizeOf (Ex.mk k a s m l p qa d) → ExC (mem W) D cs → ExC (mem W) E ds → Calls Tryz.prog 15 #[.agg cs.toArray, .agg ds.toArray] W (RightV (sameEx D E) W))
    (ih3 : ∀ D E cs ds W, SizeOf.sizeOf D < SizeOf.sizeOf (Ex.mk k a s m l p qa d) → DeC (mem W) D cs → DeC (mem W) E ds → Calls Tryz.prog 33 #[.agg cs.toArray, .agg ds.toArray] W (RightV (sameDe D E) W)) :
    Calls Tryz.prog 15 #[.agg cs.toArray, .agg ds.toArray] w (RightV (sameEx (.mk k a s m l p qa d) (.mk k' a' s' m' l' p' qa' d')) w) := by
  obtain ⟨_, v2, _, v4, rfl, ⟨A1, c1, C1, rfl, hc1, hA1, hC1⟩, hp, ⟨A3, c3, C3, rfl, hc3, hA3, hC3⟩, hd⟩ := hD.inv
  obtain ⟨_, v2', _, v4', rfl, ⟨G1, d1, D1, rfl, hd1, hG1, hD1⟩, hp', ⟨G3, d3, D3, rfl, hd3, hG3, hD3⟩, hd'⟩ := hE.inv
  have hE1 : ∀ i, i < l.length → i < l'.length → ∀ W, Below w.heap.size w W → Calls Tryz.prog 15 #[.agg (C1 i).toArray, .agg (D1 i).toArray] W (RightV (sameEx (l.getD i default) (l'.getD i default)) W) := fun i i1 i2 W hb => by
    rw [get_of l i i1, get_of l' i i2]
    have := List.sizeOf_lt_of_mem (List.getElem_mem i1)
    exact ih1 _ _ _ _ W (by simp; omega) ((hC1 i i1).mono (mem_below hb)) ((hD1 i i2).mono (mem_below hb))
  have hP := fun (W : World) (hb : Below w.heap.size w W) => rsPts_any p p' v2 v2' W (hp.mono (mem_below hb)) (hp'.mono (mem_below hb))
  have hDD := fun (W : World) (hb : Below w.heap.size w W) => rsDes_of d d' v4 v4' W (hd.mono (mem_below hb)) (hd'.mono (mem_below hb)) (fun i i1 i2 cs ds W' hw h1 h2 => by
    have := List.sizeOf_lt_of_mem (List.getElem_mem i1)
    exact ih3 _ _ _ _ W' (by simp; omega) (h1.mono (mem_below hw)) (h2.mono (mem_below hw)))
  have hal : ∀ i, i < qa.length → ∃ cp cb, C3 i = cp ++ cb ∧ PtC (mem w) (qa.getD i default).pat cp ∧ ExC (mem w) (qa.getD i default).body cb := fun i i1 => by
    rw [get_of qa i i1]
    have h := hC3 i i1
    revert h
    cases qa[i] with
    | mk pp bb => exact fun h => h.inv
  have hal' : ∀ i, i < qa'.length → ∃ cp cb, D3 i = cp ++ cb ∧ PtC (mem w) (qa'.getD i default).pat cp ∧ ExC (mem w) (qa'.getD i default).body cb := fun i i1 => by
    rw [get_of qa' i i1]
    have h := hD3 i i1
    revert h
    cases qa'[i] with
    | mk pp bb => exact fun h => h.inv
  have hsz : ∀ i, i < qa.length → SizeOf.sizeOf (qa.getD i default).body < SizeOf.sizeOf (Ex.mk k a s m l p qa d) := fun i i1 => by
    rw [get_of qa i i1]
    have := List.sizeOf_lt_of_mem (List.getElem_mem i1)
    revert this
    cases qa[i] with
    | mk pp bb => intro this; simp [Al.body] at this ⊢; omega
  have hAP : ∀ i, i < qa.length → i < qa'.length → ∀ cp cp' W, PtC (mem W) (qa.getD i default).pat cp → PtC (mem W) (qa'.getD i default).pat cp' → Calls Tryz.prog 9 #[.agg cp.toArray, .agg cp'.toArray] W (RightV (samePt (qa.getD i default).pat (qa'.getD i default).pat) W) := fun i _ _ cp cp' W h1 h2 => rsPt_any _ _ _ _ _ W (Nat.lt_succ_self _) h1 h2
  have hAB : ∀ i, i < qa.length → i < qa'.length → ∀ cb cb' W, ExC (mem W) (qa.getD i default).body cb → ExC (mem W) (qa'.getD i default).body cb' → Calls Tryz.prog 15 #[.agg cb.toArray, .agg cb'.toArray] W (RightV (sameEx (qa.getD i default).body (qa'.getD i default).body) W) := fun i i1 _ cb cb' W h1 h2 => ih1 _ _ _ _ W (hsz i i1) h1 h2
  have hr1 : sameExs l l' = eqB l.length l'.length (fun i => sameEx (l.getD i default) (l'.getD i default)) := sameExs_eqB l l' (fun i i1 i2 => by rw [get_of l i i1, get_of l' i i2])
  have hr3 : sameAls qa qa' = eqB qa.length qa'.length (fun i => samePt (qa.getD i default).pat (qa'.getD i default).pat && sameEx (qa.getD i default).body (qa'.getD i default).body) := sameAls_eqB qa qa' (fun i i1 i2 => by
    rw [get_of qa i i1, get_of qa' i i2]
    cases qa[i] with
    | mk pp bb => cases qa'[i] with
      | mk pp' bb' => rw [sameAl]; rfl)
  have hO1 : ∀ i, i < l.length → (C1 i).length = 8 := fun i hi => (hC1 i hi).len
  have hO2 : ∀ i, i < l'.length → (D1 i).length = 8 := fun i hi => (hD1 i hi).len
  have hO3 : ∀ i, i < qa.length → (C3 i).length = 13 := fun i hi => (hC3 i hi).len
  have hO4 : ∀ i, i < qa'.length → (D3 i).length = 13 := fun i hi => (hD3 i hi).len
  have hn1 := le_of hc1; have hn3 := le_of hc3
  unfold maxLen at hn1 hn3
  rw [sameEx, hr1, hr3]
  have HC := Lib.hid hE1; have HP := Lib.hid hP; have HDD := Lib.hid hDD; have HAL := Lib.hid hal; have HAL' := Lib.hid hal'; have HAP := Lib.hid hAP; have HAB := Lib.hid hAB
  have H1 := Lib.hid hA1; have H2 := Lib.hid hG1; have H3 := Lib.hid hA3; have H4 := Lib.hid hG3
  have O1 := Lib.hid hO1; have O2 := Lib.hid hO2; have O3 := Lib.hid hO3; have O4 := Lib.hid hO4
  clear hE1 hP hDD hal hal' hsz hAP hAB hr1 hr3 hO1 hO2 hO3 hO4 hA1 hG1 hA3 hG3 hC1 hD1 hC3 hD3 hc1 hd1 hc3 hd3 hp hp' hd hd' hD hE ih1 ih3
  obtain ⟨n1, e1⟩ : ∃ x, x = l.length := ⟨_, rfl⟩
  obtain ⟨n2, e2⟩ : ∃ x, x = l'.length := ⟨_, rfl⟩
  obtain ⟨n3, e3⟩ : ∃ x, x = qa.length := ⟨_, rfl⟩
  obtain ⟨n4, e4⟩ : ∃ x, x = qa'.length := ⟨_, rfl⟩
  rw [← e1, ← e2, ← e3, ← e4]
  rw [← e1] at HC H1 O1 hn1; rw [← e2] at HC H2 O2; rw [← e3] at HAL HAP HAB H3 O3 hn3; rw [← e4] at HAL' HAP HAB H4 O4
  clear e1 e2 e3 e4
  obtain ⟨RE, hRE⟩ : ∃ R : Nat → Bool, R = fun i => sameEx (l.getD i default) (l'.getD i default) := ⟨_, rfl⟩
  obtain ⟨RP, hRP⟩ : ∃ R : Nat → Bool, R = fun i => samePt (qa.getD i default).pat (qa'.getD i default).pat := ⟨_, rfl⟩
  obtain ⟨RB, hRB⟩ : ∃ R : Nat → Bool, R = fun i => sameEx (qa.getD i default).body (qa'.getD i default).body := ⟨_, rfl⟩
  have q1 : ∀ i, sameEx (l.getD i default) (l'.getD i default) = RE i := fun i => by rw [hRE]
  have q2 : ∀ i, samePt (qa.getD i default).pat (qa'.getD i default).pat = RP i := fun i => by rw [hRP]
  have q3 : ∀ i, sameEx (qa.getD i default).body (qa'.getD i default).body = RB i := fun i => by rw [hRB]
  simp only [q1] at HC
  simp only [q2] at HAP
  simp only [q3] at HAB
  simp only [q1, q2, q3]
  clear hRE hRP hRB q1 q2 q3
  obtain ⟨bp, hbp⟩ : ∃ b, b = samePts p p' := ⟨_, rfl⟩
  obtain ⟨bd, hbd⟩ : ∃ b, b = sameDes d d' := ⟨_, rfl⟩
  rw [← hbp] at HP ⊢; rw [← hbd] at HDD ⊢
  clear hbp hbd
  by_cases t0 : k = k'
  · subst t0
    by_cases t1 : s.toList = s'.toList
    · have f1 : (s.toList == s'.toList) = true := by simp [t1]
      have f2 : (s.toList != s'.toList) = false := by simp [t1]
      have ee : eqS s s' = true := by simp [eqS, t1]
      rw [ee]
      clear ee
      by_cases t2 : m = m'
      · subst t2
        by_cases t3 : n1 = n2
        · subst t3
          rw [eqB_eq]
          by_cases t4 : n3 = n4
          · subst t4
            rw [eqB_eq]
            simp only [beq_self_eq_true, Bool.true_and]
            go_enter Tryz.func15, Tryz.ntmps15
            go_wp2_with fail
            refine (HP.out _ (bl2 _ _ _)).mono ?_
            rintro e w2 ⟨rfl, hb⟩
            obtain ⟨hc0, _⟩ := bcell hb
            have hz0 : w.heap.size + 1 < w2.heap.size := by have := hb.size; simp at this; omega
            have hz0' : w.heap.size < w2.heap.size := by omega
            have HBw := Lib.hid hb
            clear hb
            cases bp with
            | false =>
              go_wp2_with fail
              go_ret
              exact ⟨ret_b (by simp), bl_tr (bl2 _ _ _) HBw.out⟩
            | true =>
              go_wp2_with fail
              refine (HDD.out _ (bl_tr (bl2 _ _ _) HBw.out)).mono ?_
              rintro e w3 ⟨rfl, hb⟩
              have HB0 := Lib.hid (bl_tr (bl_tr (bl2 _ _ _) HBw.out) hb)
              have hbx := bl_tr HBw.out hb
              have hx4 := (box_cell hbx 4).1; have hy4 := (box_cell hbx 4).2; have hx6 := (box_cell hbx 6).1; have hy6 := (box_cell hbx 6).2
              have x40 : w3.cell? ⟨w.heap.size, 4, none⟩ = some (.slice A1 n1 c1) := hx4
              have HX : Hid (w3.cell? ⟨w.heap.size, 4, none⟩ = some (.slice A1 n1 c1)) := Lib.hid hx4
              have HY : Hid (w3.cell? ⟨w.heap.size + 1, 4, none⟩ = some (.slice G1 n1 d1)) := Lib.hid hy4
              have HX6 : Hid (w3.cell? ⟨w.heap.size, 6, none⟩ = some (.slice A3 n3 c3)) := Lib.hid hx6
              have HY6 : Hid (w3.cell? ⟨w.heap.size + 1, 6, none⟩ = some (.slice G3 n3 d3)) := Lib.hid hy6
              clear hb hbx hx4 hy4 hx6 hy6 hc0 hz0 hz0' HBw
              cases bd with
              | false =>
                go_wp2_with fail
                go_ret
                exact ⟨ret_b (by simp), HB0.out⟩
              | true =>
                go_wp2_with fail
                clear x40
                go_loopg [5] n1 (fun gk i wr => ∃ q : Nat, q ≤ n1 ∧ gk = n1 - q ∧ i = .int .i64 q ∧ Hid (Below w3.heap.size w3 wr) ∧ Hid (∀ i, i < q → RE i = true))
                case atStart => exact ⟨0, Nat.zero_le _, rfl, rfl, Lib.hid (Below.refl _ _), Lib.hid (fun i hi => absurd hi (by omega))⟩
                case round =>
                  obtain ⟨q, hq, rfl, rfl, HBR, HALL⟩ := hrel
                  have x5 : wr.cell? ⟨w.heap.size, 4, none⟩ = some (.slice A1 n1 c1) := (HBR.out.cell (p := ⟨w.heap.size, 4, none⟩) (cell_lt HX.out)).trans HX.out
                  have y5 : wr.cell? ⟨w.heap.size + 1, 4, none⟩ = some (.slice G1 n1 d1) := (HBR.out.cell (p := ⟨w.heap.size + 1, 4, none⟩) (cell_lt HY.out)).trans HY.out
                  by_cases hlt : q < n1
                  · obtain ⟨g, o, rfl, hc1⟩ := H1.out (by omega)
                    obtain ⟨g', o', rfl, hc2⟩ := H2.out (by omega)
                    have hwr := bl_tr HB0.out HBR.out
                    have hcq := HC.out q hlt hlt
                    have r1 := range_at hwr hc1 hlt (O1.out q hlt)
                    have r2 := range_at hwr hc2 hlt (O2.out q hlt)
                    have Bx5 : ∀ w', Below wr.heap.size wr w' → w'.cell? ⟨w.heap.size, 4, none⟩ = some (.slice (some ⟨g, o, none⟩) n1 c1) := fun w' hw' => (hw'.cell (p := ⟨w.heap.size, 4, none⟩) (cell_lt x5)).trans x5
                    have By5 : ∀ w', Below wr.heap.size wr w' → w'.cell? ⟨w.heap.size + 1, 4, none⟩ = some (.slice (some ⟨g', o', none⟩) n1 d1) := fun w' hw' => (hw'.cell (p := ⟨w.heap.size + 1, 4, none⟩) (cell_lt y5)).trans y5
                    have RA := Lib.hid (fun (w' : World) (hw' : Below wr.heap.size wr w') => range_on r1 hw')
                    have RB := Lib.hid (fun (w' : World) (hw' : Below wr.heap.size wr w') => range_on r2 hw')
                    have IA := Lib.hid (show (Tryz.prog.info? 30).map (·.size) = some (C1 q).length from by rw [O1.out q hlt]; kernel_rfl)
                    have IB := Lib.hid (show (Tryz.prog.info? 30).map (·.size) = some (D1 q).length from by rw [O2.out q hlt]; kernel_rfl)
                    have HCQ := Lib.hid hcq; have HWR := Lib.hid hwr
                    obtain ⟨r, hr⟩ : ∃ r, r = RE q := ⟨_, rfl⟩
                    rw [← hr] at HCQ
                    have HRK := Lib.hid hr
                    have hk1 : (q : Int) < (n1 : Int) := by omega
                    have hk0 : (0 : Int) ≤ (q : Int) := by omega
                    clear hc1 hc2 r1 r2 hwr hcq hr
                    go_wp2_with fail
                    refine wp_region_held_drew (S := fun w' => Below wr.heap.size wr w') (by kernel_rfl) (Below.drew (Below.refl _ _)) (fun hHeld => ?_)
                    refine wpAnyH_take (i := 0) (v := ?_) rfl (by kernel_rfl) (by kernel_rfl) (by kernel_rfl) (fun _ _ _ h => h) (Or.inl ⟨by rfl, ?_⟩) hHeld ?_
                    rotate_left
                    · (intro wS hSw; (try dsimp only at hSw); go_simp; try with_reducible rfl)
                    (try simp only [Act.put, List.getElem_toArray, List.getElem_cons_zero, List.getElem_cons_succ, List.setIfInBounds_toArray, List.set_cons_zero, List.set_cons_succ])
                    refine wpAnyH_take (i := 1) (v := ?_) rfl (by kernel_rfl) (by kernel_rfl) (by kernel_rfl) (fun _ _ _ h => h) (Or.inl ⟨by rfl, ?_⟩) hHeld ?_
                    rotate_left
                    · (intro wS hSw; (try dsimp only at hSw); go_simp; try with_reducible rfl)
                    (try simp only [Act.put, List.getElem_toArray, List.getElem_cons_zero, List.getElem_cons_succ, List.setIfInBounds_toArray, List.set_cons_zero, List.set_cons_succ])
                    refine wpAnyH_take (i := 2) (v := ?_) rfl (by kernel_rfl) (by kernel_rfl) (by kernel_rfl) (fun _ _ _ h => h) (Or.inl ⟨by rfl, ?_⟩) hHeld ?_
                    rotate_left
                    · (intro wS hSw; (try dsimp only at hSw); go_simp; try with_reducible rfl)
                    (try simp only [Act.put, List.getElem_toArray, List.getElem_cons_zero, List.getElem_cons_succ, List.setIfInBounds_toArray, List.set_cons_zero, List.set_cons_succ])
                    refine wpAnyH_take (i := 3) (v := ?_) rfl (by kernel_rfl) (by kernel_rfl) (by kernel_rfl) (fun _ _ _ h => h) (Or.inl ⟨by rfl, ?_⟩) hHeld ?_
                    rotate_left
                    · (intro wS hSw; (try dsimp only at hSw); go_simp; try with_reducible rfl)
                    (try simp only [Act.put, List.getElem_toArray, List.getElem_cons_zero, List.getElem_cons_succ, List.setIfInBounds_toArray, List.set_cons_zero, List.set_cons_succ])
                    refine wpAnyH_take (i := 4) rfl (by kernel_rfl) (by kernel_rfl) (by kernel_rfl) (fun _ _ _ h => h) (yieldsIf_load_mid (by rfl) 30 (.tmp 70) rfl g (o + q * 8) rfl (C1 q) _ RA.out Tryz.underlying30 rfl IA.out) hHeld ?_
                    (try simp only [Act.put, List.getElem_toArray, List.getElem_cons_zero, List.getElem_cons_succ, List.setIfInBounds_toArray, List.set_cons_zero, List.set_cons_succ])
                    refine wpAnyH_take (i := 5) (v := ?_) rfl (by kernel_rfl) (by kernel_rfl) (by kernel_rfl) (fun _ _ _ h => h) (Or.inl ⟨by rfl, ?_⟩) hHeld ?_
                    rotate_left
                    · (intro wS hSw; (try dsimp only at hSw); go_simp; try with_reducible rfl)
                    (try simp only [Act.put, List.getElem_toArray, List.getElem_cons_zero, List.getElem_cons_succ, List.setIfInBounds_toArray, List.set_cons_zero, List.set_cons_succ])
                    refine wpAnyH_take (i := 6) (v := ?_) rfl (by kernel_rfl) (by kernel_rfl) (by kernel_rfl) (fun _ _ _ h => h) (Or.inl ⟨by rfl, ?_⟩) hHeld ?_
                    rotate_left
                    · (intro wS hSw; (try dsimp only at hSw); go_simp; try with_reducible rfl)
                    (try simp only [Act.put, List.getElem_toArray, List.getElem_cons_zero, List.getElem_cons_succ, List.setIfInBounds_toArray, List.set_cons_zero, List.set_cons_succ])
                    refine wpAnyH_take (i := 7) (v := ?_) rfl (by kernel_rfl) (by kernel_rfl) (by kernel_rfl) (fun _ _ _ h => h) (Or.inl ⟨by rfl, ?_⟩) hHeld ?_
                    rotate_left
                    · (intro wS hSw; (try dsimp only at hSw); go_simp; try with_reducible rfl)
                    (try simp only [Act.put, List.getElem_toArray, List.getElem_cons_zero, List.getElem_cons_succ, List.setIfInBounds_toArray, List.set_cons_zero, List.set_cons_succ])
                    refine wpAnyH_take (i := 8) (v := ?_) rfl (by kernel_rfl) (by kernel_rfl) (by kernel_rfl) (fun _ _ _ h => h) (Or.inl ⟨by rfl, ?_⟩) hHeld ?_
                    rotate_left
                    · (intro wS hSw; (try dsimp only at hSw); go_simp; try with_reducible rfl)
                    (try simp only [Act.put, List.getElem_toArray, List.getElem_cons_zero, List.getElem_cons_succ, List.setIfInBounds_toArray, List.set_cons_zero, List.set_cons_succ])
                    refine wpAnyH_take (i := 9) rfl (by kernel_rfl) (by kernel_rfl) (by kernel_rfl) (fun _ _ _ h => h) (yieldsIf_load_mid (by rfl) 30 (.tmp 75) rfl g' (o' + q * 8) rfl (D1 q) _ RB.out Tryz.underlying30 rfl IB.out) hHeld ?_
                    (try simp only [Act.put, List.getElem_toArray, List.getElem_cons_zero, List.getElem_cons_succ, List.setIfInBounds_toArray, List.set_cons_zero, List.set_cons_succ])
                    refine wpAnyH_ready (rs := [10]) (by kernel_rfl) (by simp) ?_
                    refine AllReadyH.cons rfl (fun K hK => ?_) AllReadyH.nil
                    (try simp only [List.getElem_toArray, List.getElem_cons_zero, List.getElem_cons_succ, List.setIfInBounds_toArray, List.set_cons_zero, List.set_cons_succ])
                    try go_simp
                    refine (HCQ.out _ (bl_tr HWR.out (Below.drew (Below.refl _ _)))).mono ?_; rintro e w2 ⟨rfl, hb2⟩; have HBN : Hid (Below wr.heap.size wr w2) := Lib.hid (bl_tr (Below.drew (Below.refl _ _)) hb2); clear hb2
                    try go_simp
                    refine hK.out _ _ ?_ (fun hHeld => ?_)
                    · exact HBN.out
                    (try simp only [Act.put, List.getElem_toArray, List.getElem_cons_zero, List.getElem_cons_succ, List.setIfInBounds_toArray, List.set_cons_zero, List.set_cons_succ])
                    refine wpAnyH_take (i := 11) (v := ?_) rfl (by kernel_rfl) (by kernel_rfl) (by kernel_rfl) (fun _ _ _ h => h) (Or.inl ⟨by rfl, ?_⟩) hHeld ?_
                    rotate_left
                    · (intro wS hSw; (try dsimp only at hSw); go_simp; try with_reducible rfl)
                    (try simp only [Act.put, List.getElem_toArray, List.getElem_cons_zero, List.getElem_cons_succ, List.setIfInBounds_toArray, List.set_cons_zero, List.set_cons_succ])
                    refine wpAnyH_done (by kernel_rfl) ?_ _
                    all_goals
                      have HB9 := Lib.hid (bl_tr HBR.out HBN.out)
                      cases r with
                      | false =>
                        go_wp2_with fail
                        go_ret
                        exact ⟨ret_b (by simp [allB_false hlt HRK.out.symm]), bl_tr HB0.out HB9.out⟩
                      | true =>
                        go_wp2_with fail
                        go_roundg (n1 - (q + 1))
                        case measure => omega
                        case rel => exact ⟨q + 1, by omega, rfl, by go_num, HB9, Lib.hid (fun i hi => by
                          by_cases h : i < q
                          · exact HALL.out i h
                          · obtain rfl : i = q := by omega
                            exact HRK.out.symm)⟩
                  · obtain rfl : q = n1 := by omega
                    have HALL1 := HALL
                    clear HALL
                    have HB1 := Lib.hid (bl_tr HB0.out HBR.out)
                    have HX6 : Hid (wr.cell? ⟨w.heap.size, 6, none⟩ = some (.slice A3 n3 c3)) := Lib.hid ((HBR.out.cell (p := ⟨w.heap.size, 6, none⟩) (cell_lt HX6.out)).trans HX6.out)
                    have HY6 : Hid (wr.cell? ⟨w.heap.size + 1, 6, none⟩ = some (.slice G3 n3 d3)) := Lib.hid ((HBR.out.cell (p := ⟨w.heap.size + 1, 6, none⟩) (cell_lt HY6.out)).trans HY6.out)
                    go_wp2_with fail
                    obtain ⟨W5, hW5⟩ : ∃ W5 : World, W5 = wr := ⟨_, rfl⟩
                    rw [← hW5] at HX6 HY6 HB1 ⊢
                    clear hW5 HBR HB0 x5 y5
                    have HB0 := HB1
                    clear HB1
                    go_loopg [6] n3 (fun gk i wr => ∃ q : Nat, q ≤ n3 ∧ gk = n3 - q ∧ i = .int .i64 q ∧ Hid (Below W5.heap.size W5 wr) ∧ Hid (∀ i, i < q → (RP i && RB i) = true))
                    case atStart => exact ⟨0, Nat.zero_le _, rfl, rfl, Lib.hid (Below.refl _ _), Lib.hid (fun i hi => absurd hi (by omega))⟩
                    case round =>
                      obtain ⟨q, hq, rfl, rfl, HBR, HALL⟩ := hrel
                      have x6 : wr.cell? ⟨w.heap.size, 6, none⟩ = some (.slice A3 n3 c3) := (HBR.out.cell (p := ⟨w.heap.size, 6, none⟩) (cell_lt HX6.out)).trans HX6.out
                      have y6 : wr.cell? ⟨w.heap.size + 1, 6, none⟩ = some (.slice G3 n3 d3) := (HBR.out.cell (p := ⟨w.heap.size + 1, 6, none⟩) (cell_lt HY6.out)).trans HY6.out
                      by_cases hlt : q < n3
                      · obtain ⟨g, o, rfl, hc1⟩ := H3.out (by omega)
                        obtain ⟨g', o', rfl, hc2⟩ := H4.out (by omega)
                        have hwr := bl_tr HB0.out HBR.out
                        have r1 := range_at hwr hc1 hlt (O3.out q hlt)
                        have r2 := range_at hwr hc2 hlt (O4.out q hlt)
                        obtain ⟨cp, cb, ec, hcp, hcb⟩ := HAL.out q hlt
                        obtain ⟨dp, db, ed, hdp, hdb⟩ := HAL'.out q hlt
                        rw [ec] at r1; rw [ed] at r2
                        have RA := Lib.hid (fun (w' : World) (hw' : Below wr.heap.size wr w') => range_left (range_on r1 hw'))
                        have RA2 := Lib.hid (fun (w' : World) (hw' : Below wr.heap.size wr w') => range_right (range_on r1 hw') hcp.len)
                        have RC := Lib.hid (fun (w' : World) (hw' : Below wr.heap.size wr w') => range_left (range_on r2 hw'))
                        have RC2 := Lib.hid (fun (w' : World) (hw' : Below wr.heap.size wr w') => range_right (range_on r2 hw') hdp.len)
                        have IA := Lib.hid (show (Tryz.prog.info? 40).map (·.size) = some cp.length from by rw [hcp.len]; kernel_rfl)
                        have IA2 := Lib.hid (show (Tryz.prog.info? 30).map (·.size) = some cb.length from by rw [hcb.len]; kernel_rfl)
                        have IC := Lib.hid (show (Tryz.prog.info? 40).map (·.size) = some dp.length from by rw [hdp.len]; kernel_rfl)
                        have IC2 := Lib.hid (show (Tryz.prog.info? 30).map (·.size) = some db.length from by rw [hdb.len]; kernel_rfl)
                        have Bx6 : ∀ w', Below wr.heap.size wr w' → w'.cell? ⟨w.heap.size, 6, none⟩ = some (.slice (some ⟨g, o, none⟩) n3 c3) := fun w' hw' => (hw'.cell (p := ⟨w.heap.size, 6, none⟩) (cell_lt x6)).trans x6
                        have By6 : ∀ w', Below wr.heap.size wr w' → w'.cell? ⟨w.heap.size + 1, 6, none⟩ = some (.slice (some ⟨g', o', none⟩) n3 d3) := fun w' hw' => (hw'.cell (p := ⟨w.heap.size + 1, 6, none⟩) (cell_lt y6)).trans y6
                        have HCP := Lib.hid (fun (W : World) (hW : Below wr.heap.size wr W) => HAP.out q hlt hlt cp dp W (hcp.mono (mem_below (bl_tr hwr hW))) (hdp.mono (mem_below (bl_tr hwr hW))))
                        have HCB := Lib.hid (fun (W : World) (hW : Below wr.heap.size wr W) => HAB.out q hlt hlt cb db W (hcb.mono (mem_below (bl_tr hwr hW))) (hdb.mono (mem_below (bl_tr hwr hW))))
                        obtain ⟨rp, hrp⟩ : ∃ r, r = RP q := ⟨_, rfl⟩
                        obtain ⟨rb, hrb⟩ : ∃ r, r = RB q := ⟨_, rfl⟩
                        rw [← hrp] at HCP; rw [← hrb] at HCB
                        have HRP := Lib.hid hrp; have HRB := Lib.hid hrb
                        have hk1 : (q : Int) < (n3 : Int) := by omega
                        have hk0 : (0 : Int) ≤ (q : Int) := by omega
                        clear hc1 hc2 r1 r2 ec ed hcp hcb hdp hdb hwr hrp hrb
                        go_wp2_with fail
                        refine wp_region_held_drew (S := fun w' => Below wr.heap.size wr w') (by kernel_rfl) (Below.drew (Below.refl _ _)) (fun hHeld => ?_)
                        refine wpAnyH_take (i := 0) (v := ?_) rfl (by kernel_rfl) (by kernel_rfl) (by kernel_rfl) (fun _ _ _ h => h) (Or.inl ⟨by rfl, ?_⟩) hHeld ?_
                        rotate_left
                        · (intro wS hSw; (try dsimp only at hSw); go_simp; try with_reducible rfl)
                        (try simp only [Act.put, List.getElem_toArray, List.getElem_cons_zero, List.getElem_cons_succ, List.setIfInBounds_toArray, List.set_cons_zero, List.set_cons_succ])
                        refine wpAnyH_take (i := 1) (v := ?_) rfl (by kernel_rfl) (by kernel_rfl) (by kernel_rfl) (fun _ _ _ h => h) (Or.inl ⟨by rfl, ?_⟩) hHeld ?_
                        rotate_left
                        · (intro wS hSw; (try dsimp only at hSw); go_simp; try with_reducible rfl)
                        (try simp only [Act.put, List.getElem_toArray, List.getElem_cons_zero, List.getElem_cons_succ, List.setIfInBounds_toArray, List.set_cons_zero, List.set_cons_succ])
                        refine wpAnyH_take (i := 2) (v := ?_) rfl (by kernel_rfl) (by kernel_rfl) (by kernel_rfl) (fun _ _ _ h => h) (Or.inl ⟨by rfl, ?_⟩) hHeld ?_
                        rotate_left
                        · (intro wS hSw; (try dsimp only at hSw); go_simp; try with_reducible rfl)
                        (try simp only [Act.put, List.getElem_toArray, List.getElem_cons_zero, List.getElem_cons_succ, List.setIfInBounds_toArray, List.set_cons_zero, List.set_cons_succ])
                        refine wpAnyH_take (i := 3) (v := ?_) rfl (by kernel_rfl) (by kernel_rfl) (by kernel_rfl) (fun _ _ _ h => h) (Or.inl ⟨by rfl, ?_⟩) hHeld ?_
                        rotate_left
                        · (intro wS hSw; (try dsimp only at hSw); go_simp; try with_reducible rfl)
                        (try simp only [Act.put, List.getElem_toArray, List.getElem_cons_zero, List.getElem_cons_succ, List.setIfInBounds_toArray, List.set_cons_zero, List.set_cons_succ])
                        refine wpAnyH_take (i := 4) (v := ?_) rfl (by kernel_rfl) (by kernel_rfl) (by kernel_rfl) (fun _ _ _ h => h) (Or.inl ⟨by rfl, ?_⟩) hHeld ?_
                        rotate_left
                        · (intro wS hSw; (try dsimp only at hSw); go_simp; try with_reducible rfl)
                        (try simp only [Act.put, List.getElem_toArray, List.getElem_cons_zero, List.getElem_cons_succ, List.setIfInBounds_toArray, List.set_cons_zero, List.set_cons_succ])
                        refine wpAnyH_take (i := 5) rfl (by kernel_rfl) (by kernel_rfl) (by kernel_rfl) (fun _ _ _ h => h) (yieldsIf_load_mid (by rfl) 40 (.tmp 90) rfl g (o + q * 13) rfl (cp) _ RA.out Tryz.underlying40 rfl IA.out) hHeld ?_
                        (try simp only [Act.put, List.getElem_toArray, List.getElem_cons_zero, List.getElem_cons_succ, List.setIfInBounds_toArray, List.set_cons_zero, List.set_cons_succ])
                        refine wpAnyH_take (i := 6) (v := ?_) rfl (by kernel_rfl) (by kernel_rfl) (by kernel_rfl) (fun _ _ _ h => h) (Or.inl ⟨by rfl, ?_⟩) hHeld ?_
                        rotate_left
                        · (intro wS hSw; (try dsimp only at hSw); go_simp; try with_reducible rfl)
                        (try simp only [Act.put, List.getElem_toArray, List.getElem_cons_zero, List.getElem_cons_succ, List.setIfInBounds_toArray, List.set_cons_zero, List.set_cons_succ])
                        refine wpAnyH_take (i := 7) (v := ?_) rfl (by kernel_rfl) (by kernel_rfl) (by kernel_rfl) (fun _ _ _ h => h) (Or.inl ⟨by rfl, ?_⟩) hHeld ?_
                        rotate_left
                        · (intro wS hSw; (try dsimp only at hSw); go_simp; try with_reducible rfl)
                        (try simp only [Act.put, List.getElem_toArray, List.getElem_cons_zero, List.getElem_cons_succ, List.setIfInBounds_toArray, List.set_cons_zero, List.set_cons_succ])
                        refine wpAnyH_take (i := 8) (v := ?_) rfl (by kernel_rfl) (by kernel_rfl) (by kernel_rfl) (fun _ _ _ h => h) (Or.inl ⟨by rfl, ?_⟩) hHeld ?_
                        rotate_left
                        · (intro wS hSw; (try dsimp only at hSw); go_simp; try with_reducible rfl)
                        (try simp only [Act.put, List.getElem_toArray, List.getElem_cons_zero, List.getElem_cons_succ, List.setIfInBounds_toArray, List.set_cons_zero, List.set_cons_succ])
                        refine wpAnyH_take (i := 9) (v := ?_) rfl (by kernel_rfl) (by kernel_rfl) (by kernel_rfl) (fun _ _ _ h => h) (Or.inl ⟨by rfl, ?_⟩) hHeld ?_
                        rotate_left
                        · (intro wS hSw; (try dsimp only at hSw); go_simp; try with_reducible rfl)
                        (try simp only [Act.put, List.getElem_toArray, List.getElem_cons_zero, List.getElem_cons_succ, List.setIfInBounds_toArray, List.set_cons_zero, List.set_cons_succ])
                        refine wpAnyH_take (i := 10) (v := ?_) rfl (by kernel_rfl) (by kernel_rfl) (by kernel_rfl) (fun _ _ _ h => h) (Or.inl ⟨by rfl, ?_⟩) hHeld ?_
                        rotate_left
                        · (intro wS hSw; (try dsimp only at hSw); go_simp; try with_reducible rfl)
                        (try simp only [Act.put, List.getElem_toArray, List.getElem_cons_zero, List.getElem_cons_succ, List.setIfInBounds_toArray, List.set_cons_zero, List.set_cons_succ])
                        refine wpAnyH_take (i := 11) rfl (by kernel_rfl) (by kernel_rfl) (by kernel_rfl) (fun _ _ _ h => h) (yieldsIf_load_mid (by rfl) 40 (.tmp 96) rfl g' (o' + q * 13) rfl (dp) _ RC.out Tryz.underlying40 rfl IC.out) hHeld ?_
                        (try simp only [Act.put, List.getElem_toArray, List.getElem_cons_zero, List.getElem_cons_succ, List.setIfInBounds_toArray, List.set_cons_zero, List.set_cons_succ])
                        refine wpAnyH_ready (rs := [12]) (by kernel_rfl) (by simp) ?_
                        refine AllReadyH.cons rfl (fun K hK => ?_) AllReadyH.nil
                        (try simp only [List.getElem_toArray, List.getElem_cons_zero, List.getElem_cons_succ, List.setIfInBounds_toArray, List.set_cons_zero, List.set_cons_succ])
                        try go_simp
                        refine (HCP.out _ (Below.drew (Below.refl _ _))).mono ?_; rintro e w2 ⟨rfl, hb2⟩; have HBN : Hid (Below wr.heap.size wr w2) := Lib.hid (bl_tr (Below.drew (Below.refl _ _)) hb2); clear hb2
                        try go_simp
                        refine hK.out _ _ ?_ (fun hHeld => ?_)
                        · exact HBN.out
                        (try simp only [Act.put, List.getElem_toArray, List.getElem_cons_zero, List.getElem_cons_succ, List.setIfInBounds_toArray, List.set_cons_zero, List.set_cons_succ])
                        cases rp with
                        | false =>
                          refine wpAnyH_take (i := 13) (v := ?_) rfl (by kernel_rfl) (by kernel_rfl) (by kernel_rfl) (fun _ _ _ h => h) (Or.inl ⟨by rfl, ?_⟩) hHeld ?_
                          rotate_left
                          · (intro wS hSw; (try dsimp only at hSw); go_simp; try with_reducible rfl)
                          (try simp only [Act.put, List.getElem_toArray, List.getElem_cons_zero, List.getElem_cons_succ, List.setIfInBounds_toArray, List.set_cons_zero, List.set_cons_succ])
                          refine wpAnyH_take (i := 14) (v := ?_) rfl (by kernel_rfl) (by kernel_rfl) (by kernel_rfl) (fun _ _ _ h => h) (Or.inl ⟨by rfl, ?_⟩) hHeld ?_
                          rotate_left
                          · (intro wS hSw; (try dsimp only at hSw); go_simp; try with_reducible rfl)
                          (try simp only [Act.put, List.getElem_toArray, List.getElem_cons_zero, List.getElem_cons_succ, List.setIfInBounds_toArray, List.set_cons_zero, List.set_cons_succ])
                          refine wpAnyH_take (i := 15) (v := undef) rfl (by kernel_rfl) (by kernel_rfl) (by kernel_rfl) (fun _ _ _ h => h) (Or.inr ⟨by rfl, rfl⟩) hHeld ?_
                          (try simp only [Act.put, List.getElem_toArray, List.getElem_cons_zero, List.getElem_cons_succ, List.setIfInBounds_toArray, List.set_cons_zero, List.set_cons_succ])
                          refine wpAnyH_take (i := 16) (v := undef) rfl (by kernel_rfl) (by kernel_rfl) (by kernel_rfl) (fun _ _ _ h => h) (Or.inr ⟨by rfl, rfl⟩) hHeld ?_
                          (try simp only [Act.put, List.getElem_toArray, List.getElem_cons_zero, List.getElem_cons_succ, List.setIfInBounds_toArray, List.set_cons_zero, List.set_cons_succ])
                          refine wpAnyH_take (i := 17) (v := undef) rfl (by kernel_rfl) (by kernel_rfl) (by kernel_rfl) (fun _ _ _ h => h) (Or.inr ⟨by rfl, rfl⟩) hHeld ?_
                          (try simp only [Act.put, List.getElem_toArray, List.getElem_cons_zero, List.getElem_cons_succ, List.setIfInBounds_toArray, List.set_cons_zero, List.set_cons_succ])
                          refine wpAnyH_take (i := 18) (v := undef) rfl (by kernel_rfl) (by kernel_rfl) (by kernel_rfl) (fun _ _ _ h => h) (Or.inr ⟨by rfl, rfl⟩) hHeld ?_
                          (try simp only [Act.put, List.getElem_toArray, List.getElem_cons_zero, List.getElem_cons_succ, List.setIfInBounds_toArray, List.set_cons_zero, List.set_cons_succ])
                          refine wpAnyH_take (i := 19) (v := undef) rfl (by kernel_rfl) (by kernel_rfl) (by kernel_rfl) (fun _ _ _ h => h) (Or.inr ⟨by rfl, rfl⟩) hHeld ?_
                          (try simp only [Act.put, List.getElem_toArray, List.getElem_cons_zero, List.getElem_cons_succ, List.setIfInBounds_toArray, List.set_cons_zero, List.set_cons_succ])
                          refine wpAnyH_take (i := 20) (v := undef) rfl (by kernel_rfl) (by kernel_rfl) (by kernel_rfl) (fun _ _ _ h => h) (Or.inr ⟨by rfl, rfl⟩) hHeld ?_
                          (try simp only [Act.put, List.getElem_toArray, List.getElem_cons_zero, List.getElem_cons_succ, List.setIfInBounds_toArray, List.set_cons_zero, List.set_cons_succ])
                          refine wpAnyH_take (i := 21) (v := undef) rfl (by kernel_rfl) (by kernel_rfl) (by kernel_rfl) (fun _ _ _ h => h) (Or.inr ⟨by rfl, rfl⟩) hHeld ?_
                          (try simp only [Act.put, List.getElem_toArray, List.getElem_cons_zero, List.getElem_cons_succ, List.setIfInBounds_toArray, List.set_cons_zero, List.set_cons_succ])
                          refine wpAnyH_take (i := 22) (v := undef) rfl (by kernel_rfl) (by kernel_rfl) (by kernel_rfl) (fun _ _ _ h => h) (Or.inr ⟨by rfl, rfl⟩) hHeld ?_
                          (try simp only [Act.put, List.getElem_toArray, List.getElem_cons_zero, List.getElem_cons_succ, List.setIfInBounds_toArray, List.set_cons_zero, List.set_cons_succ])
                          refine wpAnyH_take (i := 23) (v := undef) rfl (by kernel_rfl) (by kernel_rfl) (by kernel_rfl) (fun _ _ _ h => h) (Or.inr ⟨by rfl, rfl⟩) hHeld ?_
                          (try simp only [Act.put, List.getElem_toArray, List.getElem_cons_zero, List.getElem_cons_succ, List.setIfInBounds_toArray, List.set_cons_zero, List.set_cons_succ])
                          refine wpAnyH_take (i := 24) (v := undef) rfl (by kernel_rfl) (by kernel_rfl) (by kernel_rfl) (fun _ _ _ h => h) (Or.inr ⟨by rfl, rfl⟩) hHeld ?_
                          (try simp only [Act.put, List.getElem_toArray, List.getElem_cons_zero, List.getElem_cons_succ, List.setIfInBounds_toArray, List.set_cons_zero, List.set_cons_succ])
                          refine wpAnyH_take (i := 25) (v := undef) rfl (by kernel_rfl) (by kernel_rfl) (by kernel_rfl) (fun _ _ _ h => h) (Or.inr ⟨by rfl, rfl⟩) hHeld ?_
                          (try simp only [Act.put, List.getElem_toArray, List.getElem_cons_zero, List.getElem_cons_succ, List.setIfInBounds_toArray, List.set_cons_zero, List.set_cons_succ])
                          refine wpAnyH_take (i := 26) (v := undef) rfl (by kernel_rfl) (by kernel_rfl) (by kernel_rfl) (fun _ _ _ h => h) (Or.inr ⟨by rfl, rfl⟩) hHeld ?_
                          (try simp only [Act.put, List.getElem_toArray, List.getElem_cons_zero, List.getElem_cons_succ, List.setIfInBounds_toArray, List.set_cons_zero, List.set_cons_succ])
                          refine wpAnyH_take (i := 27) (v := undef) rfl (by kernel_rfl) (by kernel_rfl) (by kernel_rfl) (fun _ _ _ h => h) (Or.inr ⟨by rfl, rfl⟩) hHeld ?_
                          (try simp only [Act.put, List.getElem_toArray, List.getElem_cons_zero, List.getElem_cons_succ, List.setIfInBounds_toArray, List.set_cons_zero, List.set_cons_succ])
                          refine wpAnyH_take (i := 28) (v := undef) rfl (by kernel_rfl) (by kernel_rfl) (by kernel_rfl) (fun _ _ _ h => h) (Or.inr ⟨by rfl, rfl⟩) hHeld ?_
                          (try simp only [Act.put, List.getElem_toArray, List.getElem_cons_zero, List.getElem_cons_succ, List.setIfInBounds_toArray, List.set_cons_zero, List.set_cons_succ])
                          refine wpAnyH_take (i := 29) (v := ?_) rfl (by kernel_rfl) (by kernel_rfl) (by kernel_rfl) (fun _ _ _ h => h) (Or.inl ⟨by rfl, ?_⟩) hHeld ?_
                          rotate_left
                          · (intro wS hSw; (try dsimp only at hSw); go_simp; try with_reducible rfl)
                          (try simp only [Act.put, List.getElem_toArray, List.getElem_cons_zero, List.getElem_cons_succ, List.setIfInBounds_toArray, List.set_cons_zero, List.set_cons_succ])
                          refine wpAnyH_done (by kernel_rfl) ?_ _
                          go_wp2_with fail
                          go_ret
                          exact ⟨ret_b (by
                            have q3 : allB n3 (fun i => RP i && RB i) = false := allB_false hlt (by rw [← HRP.out]; rfl)
                            simp [q3]), bl_tr HB0.out (bl_tr HBR.out HBN.out)⟩
                        | true =>
                          refine wpAnyH_take (i := 13) (v := ?_) rfl (by kernel_rfl) (by kernel_rfl) (by kernel_rfl) (fun _ _ _ h => h) (Or.inl ⟨by rfl, ?_⟩) hHeld ?_
                          rotate_left
                          · (intro wS hSw; (try dsimp only at hSw); go_simp; try with_reducible rfl)
                          (try simp only [Act.put, List.getElem_toArray, List.getElem_cons_zero, List.getElem_cons_succ, List.setIfInBounds_toArray, List.set_cons_zero, List.set_cons_succ])
                          refine wpAnyH_take (i := 14) (v := ?_) rfl (by kernel_rfl) (by kernel_rfl) (by kernel_rfl) (fun _ _ _ h => h) (Or.inl ⟨by rfl, ?_⟩) hHeld ?_
                          rotate_left
                          · (intro wS hSw; (try dsimp only at hSw); go_simp; try with_reducible rfl)
                          (try simp only [Act.put, List.getElem_toArray, List.getElem_cons_zero, List.getElem_cons_succ, List.setIfInBounds_toArray, List.set_cons_zero, List.set_cons_succ])
                          refine wpAnyH_take (i := 15) (v := ?_) rfl (by kernel_rfl) (by kernel_rfl) (by kernel_rfl) (fun _ _ _ h => h) (Or.inl ⟨by rfl, ?_⟩) hHeld ?_
                          rotate_left
                          · (intro wS hSw; (try dsimp only at hSw); go_simp; try with_reducible rfl)
                          (try simp only [Act.put, List.getElem_toArray, List.getElem_cons_zero, List.getElem_cons_succ, List.setIfInBounds_toArray, List.set_cons_zero, List.set_cons_succ])
                          refine wpAnyH_take (i := 16) (v := ?_) rfl (by kernel_rfl) (by kernel_rfl) (by kernel_rfl) (fun _ _ _ h => h) (Or.inl ⟨by rfl, ?_⟩) hHeld ?_
                          rotate_left
                          · (intro wS hSw; (try dsimp only at hSw); go_simp; try with_reducible rfl)
                          (try simp only [Act.put, List.getElem_toArray, List.getElem_cons_zero, List.getElem_cons_succ, List.setIfInBounds_toArray, List.set_cons_zero, List.set_cons_succ])
                          refine wpAnyH_take (i := 17) (v := ?_) rfl (by kernel_rfl) (by kernel_rfl) (by kernel_rfl) (fun _ _ _ h => h) (Or.inl ⟨by rfl, ?_⟩) hHeld ?_
                          rotate_left
                          · (intro wS hSw; (try dsimp only at hSw); go_simp; try with_reducible rfl)
                          (try simp only [Act.put, List.getElem_toArray, List.getElem_cons_zero, List.getElem_cons_succ, List.setIfInBounds_toArray, List.set_cons_zero, List.set_cons_succ])
                          refine wpAnyH_take (i := 18) (v := ?_) rfl (by kernel_rfl) (by kernel_rfl) (by kernel_rfl) (fun _ _ _ h => h) (Or.inl ⟨by rfl, ?_⟩) hHeld ?_
                          rotate_left
                          · (intro wS hSw; (try dsimp only at hSw); go_simp; try with_reducible rfl)
                          (try simp only [Act.put, List.getElem_toArray, List.getElem_cons_zero, List.getElem_cons_succ, List.setIfInBounds_toArray, List.set_cons_zero, List.set_cons_succ])
                          refine wpAnyH_take (i := 19) (v := ?_) rfl (by kernel_rfl) (by kernel_rfl) (by kernel_rfl) (fun _ _ _ h => h) (Or.inl ⟨by rfl, ?_⟩) hHeld ?_
                          rotate_left
                          · (intro wS hSw; (try dsimp only at hSw); go_simp; try with_reducible rfl)
                          (try simp only [Act.put, List.getElem_toArray, List.getElem_cons_zero, List.getElem_cons_succ, List.setIfInBounds_toArray, List.set_cons_zero, List.set_cons_succ])
                          refine wpAnyH_take (i := 20) rfl (by kernel_rfl) (by kernel_rfl) (by kernel_rfl) (fun _ _ _ h => h) (yieldsIf_load_mid (by rfl) 30 (.tmp 105) rfl g (o + q * 13 + 5) rfl (cb) _ RA2.out Tryz.underlying30 rfl IA2.out) hHeld ?_
                          (try simp only [Act.put, List.getElem_toArray, List.getElem_cons_zero, List.getElem_cons_succ, List.setIfInBounds_toArray, List.set_cons_zero, List.set_cons_succ])
                          refine wpAnyH_take (i := 21) (v := ?_) rfl (by kernel_rfl) (by kernel_rfl) (by kernel_rfl) (fun _ _ _ h => h) (Or.inl ⟨by rfl, ?_⟩) hHeld ?_
                          rotate_left
                          · (intro wS hSw; (try dsimp only at hSw); go_simp; try with_reducible rfl)
                          (try simp only [Act.put, List.getElem_toArray, List.getElem_cons_zero, List.getElem_cons_succ, List.setIfInBounds_toArray, List.set_cons_zero, List.set_cons_succ])
                          refine wpAnyH_take (i := 22) (v := ?_) rfl (by kernel_rfl) (by kernel_rfl) (by kernel_rfl) (fun _ _ _ h => h) (Or.inl ⟨by rfl, ?_⟩) hHeld ?_
                          rotate_left
                          · (intro wS hSw; (try dsimp only at hSw); go_simp; try with_reducible rfl)
                          (try simp only [Act.put, List.getElem_toArray, List.getElem_cons_zero, List.getElem_cons_succ, List.setIfInBounds_toArray, List.set_cons_zero, List.set_cons_succ])
                          refine wpAnyH_take (i := 23) (v := ?_) rfl (by kernel_rfl) (by kernel_rfl) (by kernel_rfl) (fun _ _ _ h => h) (Or.inl ⟨by rfl, ?_⟩) hHeld ?_
                          rotate_left
                          · (intro wS hSw; (try dsimp only at hSw); go_simp; try with_reducible rfl)
                          (try simp only [Act.put, List.getElem_toArray, List.getElem_cons_zero, List.getElem_cons_succ, List.setIfInBounds_toArray, List.set_cons_zero, List.set_cons_succ])
                          refine wpAnyH_take (i := 24) (v := ?_) rfl (by kernel_rfl) (by kernel_rfl) (by kernel_rfl) (fun _ _ _ h => h) (Or.inl ⟨by rfl, ?_⟩) hHeld ?_
                          rotate_left
                          · (intro wS hSw; (try dsimp only at hSw); go_simp; try with_reducible rfl)
                          (try simp only [Act.put, List.getElem_toArray, List.getElem_cons_zero, List.getElem_cons_succ, List.setIfInBounds_toArray, List.set_cons_zero, List.set_cons_succ])
                          refine wpAnyH_take (i := 25) (v := ?_) rfl (by kernel_rfl) (by kernel_rfl) (by kernel_rfl) (fun _ _ _ h => h) (Or.inl ⟨by rfl, ?_⟩) hHeld ?_
                          rotate_left
                          · (intro wS hSw; (try dsimp only at hSw); go_simp; try with_reducible rfl)
                          (try simp only [Act.put, List.getElem_toArray, List.getElem_cons_zero, List.getElem_cons_succ, List.setIfInBounds_toArray, List.set_cons_zero, List.set_cons_succ])
                          refine wpAnyH_take (i := 26) rfl (by kernel_rfl) (by kernel_rfl) (by kernel_rfl) (fun _ _ _ h => h) (yieldsIf_load_mid (by rfl) 30 (.tmp 111) rfl g' (o' + q * 13 + 5) rfl (db) _ RC2.out Tryz.underlying30 rfl IC2.out) hHeld ?_
                          (try simp only [Act.put, List.getElem_toArray, List.getElem_cons_zero, List.getElem_cons_succ, List.setIfInBounds_toArray, List.set_cons_zero, List.set_cons_succ])
                          refine wpAnyH_ready (rs := [27]) (by kernel_rfl) (by simp) ?_
                          refine AllReadyH.cons rfl (fun K hK => ?_) AllReadyH.nil
                          (try simp only [List.getElem_toArray, List.getElem_cons_zero, List.getElem_cons_succ, List.setIfInBounds_toArray, List.set_cons_zero, List.set_cons_succ])
                          try go_simp
                          refine (HCB.out _ HBN.out).mono ?_; rintro e w4 ⟨rfl, hb2⟩; have HBM : Hid (Below wr.heap.size wr w4) := Lib.hid (bl_tr HBN.out hb2); clear hb2
                          try go_simp
                          refine hK.out _ _ ?_ (fun hHeld => ?_)
                          · exact HBM.out
                          (try simp only [Act.put, List.getElem_toArray, List.getElem_cons_zero, List.getElem_cons_succ, List.setIfInBounds_toArray, List.set_cons_zero, List.set_cons_succ])
                          refine wpAnyH_take (i := 28) (v := ?_) rfl (by kernel_rfl) (by kernel_rfl) (by kernel_rfl) (fun _ _ _ h => h) (Or.inl ⟨by rfl, ?_⟩) hHeld ?_
                          rotate_left
                          · (intro wS hSw; (try dsimp only at hSw); go_simp; try with_reducible rfl)
                          (try simp only [Act.put, List.getElem_toArray, List.getElem_cons_zero, List.getElem_cons_succ, List.setIfInBounds_toArray, List.set_cons_zero, List.set_cons_succ])
                          refine wpAnyH_take (i := 29) (v := ?_) rfl (by kernel_rfl) (by kernel_rfl) (by kernel_rfl) (fun _ _ _ h => h) (Or.inl ⟨by rfl, ?_⟩) hHeld ?_
                          rotate_left
                          · (intro wS hSw; (try dsimp only at hSw); go_simp; try with_reducible rfl)
                          (try simp only [Act.put, List.getElem_toArray, List.getElem_cons_zero, List.getElem_cons_succ, List.setIfInBounds_toArray, List.set_cons_zero, List.set_cons_succ])
                          refine wpAnyH_done (by kernel_rfl) ?_ _
                          have HB9 := Lib.hid (bl_tr HBR.out HBM.out)
                          cases rb with
                          | false =>
                            go_wp2_with fail
                            go_ret
                            exact ⟨ret_b (by
                              have q3 : allB n3 (fun i => RP i && RB i) = false := allB_false hlt (by show (RP q && RB q) = false; rw [← HRB.out, Bool.and_false])
                              simp [q3]), bl_tr HB0.out HB9.out⟩
                          | true =>
                            go_wp2_with fail
                            go_roundg (n3 - (q + 1))
                            case measure => omega
                            case rel => exact ⟨q + 1, by omega, rfl, by go_num, HB9, Lib.hid (fun i hi => by
                              by_cases h : i < q
                              · exact HALL.out i h
                              · obtain rfl : i = q := by omega
                                rw [← HRP.out, ← HRB.out]; rfl)⟩
                      · obtain rfl : q = n3 := by omega
                        go_wp2_with fail
                        go_ret
                        exact ⟨ret_b (by
                          have q1 := allB_true.2 HALL1.out
                          have q3 := allB_true.2 HALL.out
                          simp [q1, q3]), bl_tr HB0.out HBR.out⟩
          · have g1 : ((n3 : Int) != (n4 : Int)) = true := by rw [bne_iff_ne]; omega
            rw [eqB_ne t4]
            go_enter Tryz.func15, Tryz.ntmps15
            go_wp2_with fail
            go_ret
            exact ⟨ret_b (by simp), bl2 _ _ _⟩
        · have g1 : ((n1 : Int) != (n2 : Int)) = true := by rw [bne_iff_ne]; omega
          rw [eqB_ne t3]
          go_enter Tryz.func15, Tryz.ntmps15
          go_wp2_with fail
          go_ret
          exact ⟨ret_b (by simp), bl2 _ _ _⟩
      · have g1 : (m == m') = false := by simpa using t2
        have g2 : (m != m') = true := by simpa using t2
        go_enter Tryz.func15, Tryz.ntmps15
        go_wp2_with fail
        go_ret
        exact ⟨ret_b (by simp [t2]), bl2 _ _ _⟩
    · have f1 : (s.toList == s'.toList) = false := by simpa using t1
      have f2 : (s.toList != s'.toList) = true := by simpa using t1
      have ee : eqS s s' = false := by simp [eqS, t1]
      rw [ee]
      clear ee
      go_enter Tryz.func15, Tryz.ntmps15
      go_wp2_with fail
      go_ret
      exact ⟨ret_b (by simp), bl2 _ _ _⟩
  · have f1 : (k == k') = false := by simpa using t0
    have f2 : (k != k') = true := by simpa using t0
    go_enter Tryz.func15, Tryz.ntmps15
    go_wp2_with fail
    go_ret
    exact ⟨ret_b (by simp [t0]), bl2 _ _ _⟩
end Go.Proofs.YtfeghobfkgimfaaGreat
