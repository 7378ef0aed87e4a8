/- How many parts are left: declarations; are trees small? -/
import Derived.Test.YtfeghobfkgimfaaTreeN
namespace Go.Proofs.Ytfeghobfkgimfaa
set_option linter.unusedSimpArgs false
set_option linter.unusedVariables false
open Go.RowKit Go.Shelf

theorem fewVars_neg (l : List ByteArray) (left : Int) (h : left < 0) : fewVars l left = left := by
  cases l with
  | nil => rw [fewVars]
  | cons x l => rw [fewVars, if_pos h]
theorem fewCos_neg (l : List Co) (left : Int) (h : left < 0) : fewCos l left = left := by
  cases l with
  | nil => rw [fewCos]
  | cons x l => rw [fewCos, if_pos h]
theorem Try.irT : (Try.prog.info? 162).map (·.size) = some 4 := by kernel_rfl
theorem Try.irD : (Try.prog.info? 164).map (·.size) = some 18 := by kernel_rfl
set_option maxRecDepth 100000 in
set_option maxHeartbeats 8000000 in
theorem fewDes_of (l : List De) (v : Value) (left : Int) (w : World) (hleft : left ≤ 9223372036854775807) (hv : DesV (mem w) l v)
    (ihE : ∀ l' v' left' W, SizeOf.sizeOf (l' : List Ex) < SizeOf.sizeOf l → left' ≤ 9223372036854775807 → ExsV (mem W) l' v' → Calls Try.prog 67 #[v', .int .i64 left'] W (NumV (fewExs l' left') W)) :
    Calls Try.prog 89 #[v, .int .i64 left] w (NumV (fewDes l left) w) := by
  obtain ⟨A, c, C, rfl, hc, hA, hC⟩ := hv
  have hn1 := le_of hc
  unfold maxLen at hn1
  have HA := Lib.hid hA; have HCC := Lib.hid hC; have HEE := Lib.hid ihE
  have O1 : Hid (∀ i, i < l.length → (C i).length = 18) := Lib.hid (fun i hi => (hC i hi).len)
  clear hA hC ihE hc
  obtain ⟨n1, e1⟩ : ∃ x, x = l.length := ⟨_, rfl⟩
  rw [← e1] at HA O1 hn1 ⊢
  have HN := Lib.hid e1
  clear e1
  go_enter Try.func89, Try.ntmps89
  go_wp2_with fail
  go_loopg [1, 5] n1 (fun gk z i wr => ∃ (q : Nat) (z0 : Int), q ≤ n1 ∧ gk = n1 - q ∧ i = .int .i64 q ∧ z = .int .i64 z0 ∧ z0 ≤ left ∧ Hid (Below w.heap.size w wr) ∧ Hid (fewDes (l.drop q) z0 = fewDes l left))
  case atStart => exact ⟨0, left, Nat.zero_le _, rfl, rfl, rfl, Int.le_refl _, Lib.hid (Below.refl _ _), Lib.hid rfl⟩
  case round =>
    obtain ⟨q, z, hq, rfl, rfl, rfl, hz, HBR, HF⟩ := hrel
    obtain ⟨wo, rfl⟩ : ∃ wo : World, wo = wr := ⟨_, rfl⟩
    by_cases hlt : q < n1
    · by_cases hneg : z < 0
      · have d0 : decide (0 ≤ z) = false := by simp; omega
        have hk1 : (q : Int) < (n1 : Int) := by omega
        go_wp2_with fail
        go_ret
        exact ⟨ret_i (by rw [← HF.out, fewDes_neg _ _ hneg]), HBR.out⟩
      · have hz0 : 0 ≤ z := by omega
        have d0 : decide (0 ≤ z) = true := by simp; omega
        obtain ⟨g, o, rfl, hc1⟩ := HA.out (by omega)
        have hql : q < l.length := by rw [← HN.out]; exact hlt
        have hcq := (HCC.out q hql).mono (mem_below HBR.out)
        have r1 := range_at HBR.out hc1 hlt (O1.out q hlt)
        have hdrop := List.drop_eq_getElem_cons hql
        have hmem := List.sizeOf_lt_of_mem (List.getElem_mem hql)
        obtain ⟨x, hx⟩ : ∃ x, x = l[q] := ⟨_, rfl⟩
        rw [← hx] at hcq hdrop hmem
        obtain ⟨k, a, s, vars, cons, ty, pats, body⟩ := x
        have hone := hcq.ok
        obtain ⟨_, _, vp, ct, cb, ec, ⟨A3, cv, rfl, hvc, hvA⟩, hdok, ⟨A4, cc, CC, rfl, hcc, hcA, hcC⟩, ht, hp, hb⟩ := hcq.inv
        rw [ec] at r1 hone
        simp at hmem
        obtain ⟨hs1, hs2, hs3, hs4⟩ := hdok
        unfold maxLen at hs1
        have hdiv : 0 ≤ (s.size : Int) / 100 := Int.ediv_nonneg (by omega) (by omega)
        have hdiv2 : (s.size : Int) / 100 ≤ 92233720368547758 := by omega
        have hstep : fewDes (l.drop q) z = fewDes (l.drop (q + 1)) (fewExs [body] (fewPts pats (fewTys [ty] (fewCos cons (fewVars vars (z - 1 - (s.size : Int) / 100 - (vars.length : Int))))))) := by rw [hdrop, fewDes, if_neg hneg, fewExs_one]
        obtain ⟨z1, hz1⟩ : ∃ y, y = z - 1 - (s.size : Int) / 100 - (vars.length : Int) := ⟨_, rfl⟩
        rw [← hz1] at hstep
        have g1 := (fewVars_gone vars z1).1
        obtain ⟨y1, hy1⟩ : ∃ y, y = fewVars vars z1 := ⟨_, rfl⟩
        rw [← hy1] at hstep g1
        have g2 := (fewCos_gone cons y1).1
        obtain ⟨y2, hy2⟩ : ∃ y, y = fewCos cons y1 := ⟨_, rfl⟩
        rw [← hy2] at hstep g2
        have g3 := (fewTys_g [ty] y2).1
        obtain ⟨y3, hy3⟩ : ∃ y, y = fewTys [ty] y2 := ⟨_, rfl⟩
        rw [← hy3] at hstep g3
        have g4 := (fewPts_g pats y3).1
        obtain ⟨y4, hy4⟩ : ∃ y, y = fewPts pats y3 := ⟨_, rfl⟩
        rw [← hy4] at hstep g4
        have g5 := (fewExs_gone [body] y4).1
        obtain ⟨y5, hy5⟩ : ∃ y, y = fewExs [body] y4 := ⟨_, rfl⟩
        rw [← hy5] at hstep g5
        have hzl : z1 ≤ left := by omega
        have hy5l : y5 ≤ left := by omega
        have hy1l : y1 ≤ left := by omega
        have hy2l : y2 ≤ left := by omega
        obtain ⟨ta, tb, tc, t3, rfl⟩ := ht.sh
        obtain ⟨ba, bb, bc, bd, b4, b5, b6, b7, rfl⟩ := hb.sh
        have c3' := fun (W : World) (gg : Nat) (hW : Below wo.heap.size wo W) (hB : W.heap[gg]? = some (.cells ([.int .i64 ta, .int .i64 tb, .string tc, t3] : List Value).toArray 162 (0, 0))) => fewTys_any _ [ty] (.slice (some ⟨gg, 0, none⟩) 1 1) y2 W (Nat.lt_succ_self _) (by omega) (tys_one hB (ht.mono (mem_below hW)))
        have c4' := fun (W : World) (hW : Below wo.heap.size wo W) => fewPts_any _ pats vp y3 W (Nat.lt_succ_self _) (by omega) (hp.mono (mem_below hW))
        have c5' := fun (W : World) (gg : Nat) (hW : Below wo.heap.size wo W) (hB : W.heap[gg]? = some (.cells ([.int .i64 ba, .int .i64 bb, .string bc, .int .i64 bd, b4, b5, b6, b7] : List Value).toArray 86 (0, 0))) => HEE.out [body] (.slice (some ⟨gg, 0, none⟩) 1 1) y4 W (by simp; cases ty; simp at hmem; omega) (by omega) (exs_one hB (hb.mono (mem_below hW)))
        rw [← hy3] at c3'; rw [← hy4] at c4'; rw [← hy5] at c5'
        simp only [List.cons_append, List.nil_append] at r1 hone
        obtain ⟨nv, hnv⟩ : ∃ n, n = vars.length := ⟨_, rfl⟩
        obtain ⟨nc, hnc⟩ : ∃ n, n = cons.length := ⟨_, rfl⟩
        have hct : ∀ j (hj : j < cons.length) (zz : Int), zz ≤ 9223372036854775807 → ∃ nm va, CC j = [.int .i64 cons[j].at_, .string nm, va] ∧ nm.size ≤ 9223372036854775807 ∧ nm = cons[j].name ∧ ∀ W, Below wo.heap.size wo W → Calls Try.prog 113 #[va, .int .i64 zz] W (NumV (fewTys cons[j].args zz) W) := fun j hj zz hzz => by
          obtain ⟨va, e, hva⟩ := hcC j hj
          exact ⟨_, va, e, by have := hs4 _ (List.getElem_mem hj); unfold maxLen at this; omega, rfl, fun W hW => fewTys_any _ _ va zz W (Nat.lt_succ_self _) hzz (hva.mono (mem_below hW))⟩
        have hcl : ∀ j, j < cons.length → (CC j).length = 3 := fun j hj => (hcC j hj).len
        have HVA := Lib.hid hvA; have HCA := Lib.hid hcA; have HCT := Lib.hid hct; have HCL := Lib.hid hcl; have HSV := Lib.hid hs3
        have hnvb := hs2
        have hncb := le_of hcc
        unfold maxLen at hncb
        rw [← hnv] at r1 hone hz1 HVA hnvb; rw [← hnc] at r1 hone HCA HCL hncb
        have HNV := Lib.hid hnv; have HNC := Lib.hid hnc
        have HST := Lib.hid hstep; have K3 := Lib.hid c3'; have K4 := Lib.hid c4'; have K5 := Lib.hid c5'
        have HY1 := Lib.hid hy1; have HY2 := Lib.hid hy2; have HZ1 := Lib.hid hz1
        have RR := Lib.hid r1; have HOK := Lib.hid hone
        have hk1 : (q : Int) < (n1 : Int) := by omega
        have II := Lib.hid Try.irD
        clear hc1 r1 ec ht hp hb hdrop hmem hx hcq hone hstep g1 g2 g3 g4 g5 c3' c4' c5' hy1 hy2 hy3 hy4 hy5 hz1 hdiv hdiv2 hvA hcA hcC hct hcl hs2 hs3 hs4 hvc hcc hnv hnc
        obtain ⟨t0, et0⟩ : ∃ x, x = Value.int .i64 ta := ⟨_, rfl⟩
        obtain ⟨t1, et1⟩ : ∃ x, x = Value.int .i64 tb := ⟨_, rfl⟩
        obtain ⟨t2, et2⟩ : ∃ x, x = Value.string tc := ⟨_, rfl⟩
        obtain ⟨b0, eb0⟩ : ∃ x, x = Value.int .i64 ba := ⟨_, rfl⟩
        obtain ⟨b1, eb1⟩ : ∃ x, x = Value.int .i64 bb := ⟨_, rfl⟩
        obtain ⟨b2, eb2⟩ : ∃ x, x = Value.string bc := ⟨_, rfl⟩
        obtain ⟨b3, eb3⟩ : ∃ x, x = Value.int .i64 bd := ⟨_, rfl⟩
        rw [← et0, ← et1, ← et2] at RR HOK K3
        rw [← eb0, ← eb1, ← eb2, ← eb3] at RR HOK K5
        clear et0 et1 et2 eb0 eb1 eb2 eb3
        go_wp2_with (first | ((with_reducible refine at_ld 22 ?_); refine wpList_load_mid rfl 164 (.tmp 21) rfl g (o + q * 18) rfl [.int .i64 k, .int .i64 a, .string s, (.slice A3 nv cv), (.slice A4 nc cc), t0, t1, t2, t3, vp, b0, b1, b2, b3, b4, b5, b6, b7] _ RR.out Try.underlying164 rfl II.out ?_) | ((with_reducible refine at_st 6 22 ?_); refine wpList_store_new rfl 164 (.tmp 6) (.tmp 22) rfl wo.heap.size rfl rfl #[.int .i64 k, .int .i64 a, .string s, (.slice A3 nv cv), (.slice A4 nc cc), t0, t1, t2, t3, vp, b0, b1, b2, b3, b4, b5, b6, b7] rfl #[.int .i64 0, .int .i64 0, .string { data := #[] }, .slice none 0 0, .slice none 0 0, .int .i64 0, .int .i64 0, .string { data := #[] }, .slice none 0 0, .slice none 0 0, .int .i64 0, .int .i64 0, .string { data := #[] }, .int .i64 0, .slice none 0 0, .slice none 0 0, .slice none 0 0, .slice none 0 0] II.out rfl HOK.out.arr ?_))
        go_loopg [1, 7] nv (fun gk z i wr => ∃ (j : Nat) (z2 : Int), j ≤ nv ∧ gk = nv - j ∧ i = .int .i64 j ∧ z = .int .i64 z2 ∧ z2 ≤ left ∧ Hid (Below (wo.alloc (.cells #[.int .i64 k, .int .i64 a, .string s, (.slice A3 nv cv), (.slice A4 nc cc), t0, t1, t2, t3, vp, b0, b1, b2, b3, b4, b5, b6, b7] 164)).heap.size (wo.alloc (.cells #[.int .i64 k, .int .i64 a, .string s, (.slice A3 nv cv), (.slice A4 nc cc), t0, t1, t2, t3, vp, b0, b1, b2, b3, b4, b5, b6, b7] 164)) wr) ∧ Hid (fewVars (vars.drop j) z2 = y1))
        case atStart => exact ⟨0, _, Nat.zero_le _, rfl, rfl, rfl, by rw [← HZ1.out]; exact hzl, Lib.hid (Below.refl _ _), Lib.hid (by rw [HY1.out, HZ1.out]; rfl)⟩
        case round =>
          obtain ⟨j, z2, hj, rfl, rfl, rfl, hz2l, HB2, HF2⟩ := hrel
          obtain ⟨hcA, _⟩ := bcell HB2.out
          by_cases hlt2 : j < nv
          · have hk2 : (j : Int) < (nv : Int) := by omega
            by_cases hneg2 : z2 < 0
            · have d2 : decide (0 ≤ z2) = false := by simp; omega
              have ey : z2 = y1 := by rw [← HF2.out, fewVars_neg _ _ hneg2]
              go_wp2_with fail
              have EY := Lib.hid ey
              clear ey
              go_loopg [1, 8] nc (fun gk z i wr => ∃ (p : Nat) (z3 : Int), p ≤ nc ∧ gk = nc - p ∧ i = .int .i64 p ∧ z = .int .i64 z3 ∧ z3 ≤ left ∧ Hid (Below (wo.alloc (.cells #[.int .i64 k, .int .i64 a, .string s, (.slice A3 nv cv), (.slice A4 nc cc), t0, t1, t2, t3, vp, b0, b1, b2, b3, b4, b5, b6, b7] 164)).heap.size (wo.alloc (.cells #[.int .i64 k, .int .i64 a, .string s, (.slice A3 nv cv), (.slice A4 nc cc), t0, t1, t2, t3, vp, b0, b1, b2, b3, b4, b5, b6, b7] 164)) wr) ∧ Hid (fewCos (cons.drop p) z3 = y2))
              case atStart => exact ⟨0, _, Nat.zero_le _, rfl, rfl, rfl, hz2l, HB2, Lib.hid (by rw [EY.out, HY2.out]; rfl)⟩
              case round =>
                clear hcA HB2
                obtain ⟨p, z3, hp, rfl, rfl, rfl, hz3l, HB3, HF3⟩ := hrel
                by_cases hlt3 : p < nc
                · have hk3 : (p : Int) < (nc : Int) := by omega
                  have hk30 : (0 : Int) ≤ (p : Int) := by omega
                  by_cases hneg3 : z3 < 0
                  · have d3 : decide (0 ≤ z3) = false := by simp; omega
                    have ez : z3 = y2 := by rw [← HF3.out, fewCos_neg _ _ hneg3]
                    obtain ⟨hcA, _⟩ := bcell HB3.out
                    subst ez
                    have hbk := bk_below (bk_new wo 164 #[.int .i64 k, .int .i64 a, .string s, (.slice A3 nv cv), (.slice A4 nc cc), t0, t1, t2, t3, vp, b0, b1, b2, b3, b4, b5, b6, b7] _ rfl) HB3.out
                    have R5 := Lib.hid (show wr.rangeAt wo.heap.size 5 [t0, t1, t2, t3] from rg_left (b := [vp, b0, b1, b2, b3, b4, b5, b6, b7]) (rg_right (a := [.int .i64 k, .int .i64 a, .string s, .slice A3 nv cv, .slice A4 nc cc]) (n := 5) (o := 0) (fun j v hv => by rw [Nat.zero_add, cell_of_row wr _ _ _ _ _ hbk, List.getElem?_toArray]; exact hv) rfl))
                    have IT := Lib.hid (show (Try.prog.info? 162).map (·.size) = some ([t0, t1, t2, t3] : List Value).length from Try.irT)
                    have IE := Lib.hid (show (Try.prog.info? 86).map (·.size) = some ([b0, b1, b2, b3, b4, b5, b6, b7] : List Value).length from Try.irE)
                    go_wp2_with ((with_reducible refine at_ld 84 ?_); refine wpList_load_mid rfl 162 (.tmp 83) rfl wo.heap.size 5 rfl [t0, t1, t2, t3] _ R5.out Try.underlying162 rfl IT.out ?_)
                    refine (K3.out _ _ ?_ ?_).mono ?_
                    · exact bl_al (bl_tr (bl1 _ _) HB3.out) _
                    · exact bk_new _ _ _ _ rfl
                    rintro e w5 ⟨rfl, hb5⟩
                    have HB5 : Hid (Below (wo.alloc (.cells #[.int .i64 k, .int .i64 a, .string s, (.slice A3 nv cv), (.slice A4 nc cc), t0, t1, t2, t3, vp, b0, b1, b2, b3, b4, b5, b6, b7] 164)).heap.size (wo.alloc (.cells #[.int .i64 k, .int .i64 a, .string s, (.slice A3 nv cv), (.slice A4 nc cc), t0, t1, t2, t3, vp, b0, b1, b2, b3, b4, b5, b6, b7] 164)) w5) := Lib.hid (by refine bl_tr ?_ hb5; exact bl_al HB3.out _)
                    clear hb5 hcA R5 hbk
                    have hcA := (bcell HB5.out).1
                    go_wp2_with fail
                    refine (K4.out _ (bl_tr (bl1 _ _) HB5.out)).mono ?_
                    rintro e w6 ⟨rfl, hb6⟩
                    have HB6 : Hid (Below (wo.alloc (.cells #[.int .i64 k, .int .i64 a, .string s, (.slice A3 nv cv), (.slice A4 nc cc), t0, t1, t2, t3, vp, b0, b1, b2, b3, b4, b5, b6, b7] 164)).heap.size (wo.alloc (.cells #[.int .i64 k, .int .i64 a, .string s, (.slice A3 nv cv), (.slice A4 nc cc), t0, t1, t2, t3, vp, b0, b1, b2, b3, b4, b5, b6, b7] 164)) w6) := Lib.hid (bl_tr HB5.out hb6)
                    clear hb6 hcA
                    have hbk := bk_below (bk_new wo 164 #[.int .i64 k, .int .i64 a, .string s, (.slice A3 nv cv), (.slice A4 nc cc), t0, t1, t2, t3, vp, b0, b1, b2, b3, b4, b5, b6, b7] _ rfl) HB6.out
                    have R10 := Lib.hid (show w6.rangeAt wo.heap.size 10 [b0, b1, b2, b3, b4, b5, b6, b7] from rg_right (a := [.int .i64 k, .int .i64 a, .string s, .slice A3 nv cv, .slice A4 nc cc, t0, t1, t2, t3, vp]) (n := 10) (o := 0) (fun j v hv => by rw [Nat.zero_add, cell_of_row w6 _ _ _ _ _ hbk, List.getElem?_toArray]; exact hv) rfl)
                    have hcA := (bcell HB6.out).1
                    go_wp2_with ((with_reducible refine at_ld 93 ?_); refine wpList_load_mid rfl 86 (.tmp 92) rfl wo.heap.size 10 rfl [b0, b1, b2, b3, b4, b5, b6, b7] _ R10.out Try.underlying86 rfl IE.out ?_)
                    refine (K5.out _ _ ?_ ?_).mono ?_
                    · exact bl_al (bl_tr (bl1 _ _) HB6.out) _
                    · exact bk_new _ _ _ _ rfl
                    rintro e w7 ⟨rfl, hb7⟩
                    have HB7 : Hid (Below wo.heap.size wo w7) := Lib.hid (by refine bl_tr ?_ hb7; exact bl_al (bl_tr (bl1 _ _) HB6.out) _)
                    clear hb7 hcA hbk R10
                    go_wp2_with fail
                    go_roundg (n1 - (q + 1))
                    case measure => omega
                    case rel => exact ⟨q + 1, y5, by omega, rfl, by go_num, rfl, hy5l, Lib.hid (bl_tr HBR.out HB7.out), Lib.hid (by rw [← HF.out, HST.out])⟩
                  · have hz30 : 0 ≤ z3 := by omega
                    have d3 : decide (0 ≤ z3) = true := by simp; omega
                    obtain ⟨g4, o4, rfl, hcc4⟩ := HCA.out (by omega)
                    have hpl : p < cons.length := by rw [← HNC.out]; exact hlt3
                    have hcd := List.drop_eq_getElem_cons hpl
                    have hcz : 0 ≤ ((cons[p].name.size : Nat) : Int) / 100 := Int.ediv_nonneg (by omega) (by omega)
                    have hgg := (fewTys_g cons[p].args (z3 - 1 - ((cons[p].name.size : Nat) : Int) / 100)).1
                    obtain ⟨nm, va, eC, hnm, hnm2, hcall⟩ := HCT.out p hpl (z3 - 1 - ((cons[p].name.size : Nat) : Int) / 100) (by omega)
                    have hstepC : fewCos (cons.drop p) z3 = fewCos (cons.drop (p + 1)) (fewTys cons[p].args (z3 - 1 - ((cons[p].name.size : Nat) : Int) / 100)) := by rw [hcd, fewCos, if_neg hneg3]
                    rw [← hnm2] at hcall hstepC hcz hgg
                    obtain ⟨y, hy⟩ : ∃ y, y = fewTys cons[p].args (z3 - 1 - ((nm.size : Nat) : Int) / 100) := ⟨_, rfl⟩
                    rw [← hy] at hcall hstepC hgg
                    have h1 := hcc4 p hlt3 1 (by decide); have h2 := hcc4 p hlt3 2 (by decide)
                    rw [eC] at h1 h2
                    simp only [mem, List.getElem?_cons_zero, List.getElem?_cons_succ] at h1 h2
                    have HBW := Lib.hid (bl_tr (bl1 _ _) HB3.out)
                    have B1 : ∀ w', Below wr.heap.size wr w' → w'.cell? ⟨g4, o4 + p * 3 + 1, none⟩ = some (.string nm) := fun w' hw' => ((bl_tr HBW.out hw').cell (p := ⟨g4, o4 + p * 3 + 1, none⟩) (cell_lt h1)).trans h1
                    have B2 : ∀ w', Below wr.heap.size wr w' → w'.cell? ⟨g4, o4 + p * 3 + 2, none⟩ = some va := fun w' hw' => ((bl_tr HBW.out hw').cell (p := ⟨g4, o4 + p * 3 + 2, none⟩) (cell_lt h2)).trans h2
                    have BX : ∀ w', Below wr.heap.size wr w' → w'.cell? ⟨wo.heap.size, 4, none⟩ = some (.slice (some ⟨g4, o4, none⟩) nc cc) := fun w' hw' => by
                      have hbk := bk_below (bk_new wo 164 #[.int .i64 k, .int .i64 a, .string s, (.slice A3 nv cv), (.slice (some ⟨g4, o4, none⟩) nc cc), t0, t1, t2, t3, vp, b0, b1, b2, b3, b4, b5, b6, b7] _ rfl) (bl_tr HB3.out hw')
                      unfold Blk at hbk
                      simp [World.cell?, hbk]
                    have HCQ : Hid (∀ W, Below wr.heap.size wr W → Calls Try.prog 113 #[va, .int .i64 (z3 - 1 - ((nm.size : Nat) : Int) / 100)] W (NumV y W)) := Lib.hid (fun W hW => hcall W (bl_tr HBW.out hW))
                    have hcz2 : ((nm.size : Nat) : Int) / 100 ≤ 92233720368547758 := by omega
                    have w0' : IntKind.i64.wrap ((nm.size : Int) / 100) = (nm.size : Int) / 100 := IntWalk.i64_in _ (by omega)
                    have w1 : IntKind.i64.wrap (z3 - 1) = z3 - 1 := IntWalk.i64_in _ (by omega)
                    have w2' : IntKind.i64.wrap (z3 - 1 - (nm.size : Int) / 100) = z3 - 1 - (nm.size : Int) / 100 := IntWalk.i64_in _ (by omega)
                    have hyl : y ≤ left := by omega
                    have HSC : Hid (fewCos (cons.drop (p + 1)) y = y2) := Lib.hid (by rw [← HF3.out, hstepC])
                    have hcA := (bcell HB3.out).1
                    clear hcd hgg hcall hstepC hy h1 h2 hcc4 eC hnm2 hpl hcz hcz2 HY1 HY2 HZ1 RR HOK K3 K4 K5 HST
                    go_wp2_with fail
                    refine wp_region_held_drew (S := fun w' => Below wr.heap.size wr w') (by kernel_rfl) (Below.drew (Below.refl _ _)) (fun hHeld => ?_)
                    refine wpAnyH_take (i := 0) (v := ?_) rfl (by kernel_rfl) (by kernel_rfl) (by kernel_rfl) (fun _ _ _ h => h) (Or.inl ⟨by rfl, ?_⟩) hHeld ?_
                    rotate_left
                    · (intro wS hSw; (try dsimp only at hSw); go_simp; try with_reducible rfl)
                    (try simp only [Act.put, List.getElem_toArray, List.getElem_cons_zero, List.getElem_cons_succ, List.setIfInBounds_toArray, List.set_cons_zero, List.set_cons_succ])
                    refine wpAnyH_take (i := 1) (v := ?_) rfl (by kernel_rfl) (by kernel_rfl) (by kernel_rfl) (fun _ _ _ h => h) (Or.inl ⟨by rfl, ?_⟩) hHeld ?_
                    rotate_left
                    · (intro wS hSw; (try dsimp only at hSw); go_simp; try with_reducible rfl)
                    (try simp only [Act.put, List.getElem_toArray, List.getElem_cons_zero, List.getElem_cons_succ, List.setIfInBounds_toArray, List.set_cons_zero, List.set_cons_succ])
                    refine wpAnyH_take (i := 2) (v := ?_) rfl (by kernel_rfl) (by kernel_rfl) (by kernel_rfl) (fun _ _ _ h => h) (Or.inl ⟨by rfl, ?_⟩) hHeld ?_
                    rotate_left
                    · (intro wS hSw; (try dsimp only at hSw); go_simp; try with_reducible rfl)
                    (try simp only [Act.put, List.getElem_toArray, List.getElem_cons_zero, List.getElem_cons_succ, List.setIfInBounds_toArray, List.set_cons_zero, List.set_cons_succ])
                    refine wpAnyH_take (i := 3) (v := ?_) rfl (by kernel_rfl) (by kernel_rfl) (by kernel_rfl) (fun _ _ _ h => h) (Or.inl ⟨by rfl, ?_⟩) hHeld ?_
                    rotate_left
                    · (intro wS hSw; (try dsimp only at hSw); go_simp; try with_reducible rfl)
                    (try simp only [Act.put, List.getElem_toArray, List.getElem_cons_zero, List.getElem_cons_succ, List.setIfInBounds_toArray, List.set_cons_zero, List.set_cons_succ])
                    refine wpAnyH_take (i := 4) (v := ?_) rfl (by kernel_rfl) (by kernel_rfl) (by kernel_rfl) (fun _ _ _ h => h) (Or.inl ⟨by rfl, ?_⟩) hHeld ?_
                    rotate_left
                    · (intro wS hSw; (try dsimp only at hSw); go_simp; try with_reducible rfl)
                    (try simp only [Act.put, List.getElem_toArray, List.getElem_cons_zero, List.getElem_cons_succ, List.setIfInBounds_toArray, List.set_cons_zero, List.set_cons_succ])
                    refine wpAnyH_take (i := 5) (v := ?_) rfl (by kernel_rfl) (by kernel_rfl) (by kernel_rfl) (fun _ _ _ h => h) (Or.inl ⟨by rfl, ?_⟩) hHeld ?_
                    rotate_left
                    · (intro wS hSw; (try dsimp only at hSw); go_simp; try with_reducible rfl)
                    (try simp only [Act.put, List.getElem_toArray, List.getElem_cons_zero, List.getElem_cons_succ, List.setIfInBounds_toArray, List.set_cons_zero, List.set_cons_succ])
                    refine wpAnyH_take (i := 6) (v := ?_) rfl (by kernel_rfl) (by kernel_rfl) (by kernel_rfl) (fun _ _ _ h => h) (Or.inl ⟨by rfl, ?_⟩) hHeld ?_
                    rotate_left
                    · (intro wS hSw; (try dsimp only at hSw); go_simp; try with_reducible rfl)
                    (try simp only [Act.put, List.getElem_toArray, List.getElem_cons_zero, List.getElem_cons_succ, List.setIfInBounds_toArray, List.set_cons_zero, List.set_cons_succ])
                    refine wpAnyH_take (i := 7) (v := ?_) rfl (by kernel_rfl) (by kernel_rfl) (by kernel_rfl) (fun _ _ _ h => h) (Or.inl ⟨by rfl, ?_⟩) hHeld ?_
                    rotate_left
                    · (intro wS hSw; (try dsimp only at hSw); go_simp; try with_reducible rfl)
                    (try simp only [Act.put, List.getElem_toArray, List.getElem_cons_zero, List.getElem_cons_succ, List.setIfInBounds_toArray, List.set_cons_zero, List.set_cons_succ])
                    refine wpAnyH_take (i := 8) (v := ?_) rfl (by kernel_rfl) (by kernel_rfl) (by kernel_rfl) (fun _ _ _ h => h) (Or.inl ⟨by rfl, ?_⟩) hHeld ?_
                    rotate_left
                    · (intro wS hSw; (try dsimp only at hSw); go_simp; try with_reducible rfl)
                    (try simp only [Act.put, List.getElem_toArray, List.getElem_cons_zero, List.getElem_cons_succ, List.setIfInBounds_toArray, List.set_cons_zero, List.set_cons_succ])
                    refine wpAnyH_take (i := 9) (v := ?_) rfl (by kernel_rfl) (by kernel_rfl) (by kernel_rfl) (fun _ _ _ h => h) (Or.inl ⟨by rfl, ?_⟩) hHeld ?_
                    rotate_left
                    · (intro wS hSw; (try dsimp only at hSw); go_simp; try with_reducible rfl)
                    (try simp only [Act.put, List.getElem_toArray, List.getElem_cons_zero, List.getElem_cons_succ, List.setIfInBounds_toArray, List.set_cons_zero, List.set_cons_succ])
                    refine wpAnyH_take (i := 10) (v := ?_) rfl (by kernel_rfl) (by kernel_rfl) (by kernel_rfl) (fun _ _ _ h => h) (Or.inl ⟨by rfl, ?_⟩) hHeld ?_
                    rotate_left
                    · (intro wS hSw; (try dsimp only at hSw); go_simp; try with_reducible rfl)
                    (try simp only [Act.put, List.getElem_toArray, List.getElem_cons_zero, List.getElem_cons_succ, List.setIfInBounds_toArray, List.set_cons_zero, List.set_cons_succ])
                    refine wpAnyH_take (i := 11) (v := ?_) rfl (by kernel_rfl) (by kernel_rfl) (by kernel_rfl) (fun _ _ _ h => h) (Or.inl ⟨by rfl, ?_⟩) hHeld ?_
                    rotate_left
                    · (intro wS hSw; (try dsimp only at hSw); go_simp; try with_reducible rfl)
                    (try simp only [Act.put, List.getElem_toArray, List.getElem_cons_zero, List.getElem_cons_succ, List.setIfInBounds_toArray, List.set_cons_zero, List.set_cons_succ])
                    refine wpAnyH_take (i := 12) (v := ?_) rfl (by kernel_rfl) (by kernel_rfl) (by kernel_rfl) (fun _ _ _ h => h) (Or.inl ⟨by rfl, ?_⟩) hHeld ?_
                    rotate_left
                    · (intro wS hSw; (try dsimp only at hSw); go_simp; try with_reducible rfl)
                    (try simp only [Act.put, List.getElem_toArray, List.getElem_cons_zero, List.getElem_cons_succ, List.setIfInBounds_toArray, List.set_cons_zero, List.set_cons_succ])
                    refine wpAnyH_take (i := 13) (v := ?_) rfl (by kernel_rfl) (by kernel_rfl) (by kernel_rfl) (fun _ _ _ h => h) (Or.inl ⟨by rfl, ?_⟩) hHeld ?_
                    rotate_left
                    · (intro wS hSw; (try dsimp only at hSw); go_simp; try with_reducible rfl)
                    (try simp only [Act.put, List.getElem_toArray, List.getElem_cons_zero, List.getElem_cons_succ, List.setIfInBounds_toArray, List.set_cons_zero, List.set_cons_succ])
                    refine wpAnyH_take (i := 14) (v := ?_) rfl (by kernel_rfl) (by kernel_rfl) (by kernel_rfl) (fun _ _ _ h => h) (Or.inl ⟨by rfl, ?_⟩) hHeld ?_
                    rotate_left
                    · (intro wS hSw; (try dsimp only at hSw); go_simp; try with_reducible rfl)
                    (try simp only [Act.put, List.getElem_toArray, List.getElem_cons_zero, List.getElem_cons_succ, List.setIfInBounds_toArray, List.set_cons_zero, List.set_cons_succ])
                    refine wpAnyH_take (i := 15) (v := ?_) rfl (by kernel_rfl) (by kernel_rfl) (by kernel_rfl) (fun _ _ _ h => h) (Or.inl ⟨by rfl, ?_⟩) hHeld ?_
                    rotate_left
                    · (intro wS hSw; (try dsimp only at hSw); go_simp; try with_reducible rfl)
                    (try simp only [Act.put, List.getElem_toArray, List.getElem_cons_zero, List.getElem_cons_succ, List.setIfInBounds_toArray, List.set_cons_zero, List.set_cons_succ])
                    refine wpAnyH_take (i := 16) (v := ?_) rfl (by kernel_rfl) (by kernel_rfl) (by kernel_rfl) (fun _ _ _ h => h) (Or.inl ⟨by rfl, ?_⟩) hHeld ?_
                    rotate_left
                    · (intro wS hSw; (try dsimp only at hSw); go_simp; try with_reducible rfl)
                    (try simp only [Act.put, List.getElem_toArray, List.getElem_cons_zero, List.getElem_cons_succ, List.setIfInBounds_toArray, List.set_cons_zero, List.set_cons_succ])
                    refine wpAnyH_ready (rs := [17]) (by kernel_rfl) (by simp) ?_
                    refine AllReadyH.cons rfl (fun K hK => ?_) AllReadyH.nil
                    (try simp only [List.getElem_toArray, List.getElem_cons_zero, List.getElem_cons_succ, List.setIfInBounds_toArray, List.set_cons_zero, List.set_cons_succ])
                    try go_simp
                    refine (HCQ.out _ (Below.drew (Below.refl _ _))).mono ?_; rintro e w2 ⟨rfl, hb2⟩; have HBN : Hid (Below wr.heap.size wr w2) := Lib.hid (bl_tr (Below.drew (Below.refl _ _)) hb2); clear hb2
                    try go_simp
                    refine hK.out _ _ ?_ (fun hHeld => ?_)
                    · exact HBN.out
                    (try simp only [Act.put, List.getElem_toArray, List.getElem_cons_zero, List.getElem_cons_succ, List.setIfInBounds_toArray, List.set_cons_zero, List.set_cons_succ])
                    refine wpAnyH_take (i := 18) (v := ?_) rfl (by kernel_rfl) (by kernel_rfl) (by kernel_rfl) (fun _ _ _ h => h) (Or.inl ⟨by rfl, ?_⟩) hHeld ?_
                    rotate_left
                    · (intro wS hSw; (try dsimp only at hSw); go_simp; try with_reducible rfl)
                    (try simp only [Act.put, List.getElem_toArray, List.getElem_cons_zero, List.getElem_cons_succ, List.setIfInBounds_toArray, List.set_cons_zero, List.set_cons_succ])
                    refine wpAnyH_done (by kernel_rfl) ?_ _
                    go_wp2_with fail
                    go_roundg (nc - (p + 1))
                    case measure => omega
                    case rel => exact ⟨p + 1, y, by omega, rfl, by go_num, rfl, hyl, Lib.hid (bl_tr HB3.out HBN.out), HSC⟩
                · obtain rfl : nc = p := by omega
                  have ez : z3 = y2 := by rw [← HF3.out, HNC.out, List.drop_length, fewCos]
                  obtain ⟨hcA, _⟩ := bcell HB3.out
                  subst ez
                  have hbk := bk_below (bk_new wo 164 #[.int .i64 k, .int .i64 a, .string s, (.slice A3 nv cv), (.slice A4 nc cc), t0, t1, t2, t3, vp, b0, b1, b2, b3, b4, b5, b6, b7] _ rfl) HB3.out
                  have R5 := Lib.hid (show wr.rangeAt wo.heap.size 5 [t0, t1, t2, t3] from rg_left (b := [vp, b0, b1, b2, b3, b4, b5, b6, b7]) (rg_right (a := [.int .i64 k, .int .i64 a, .string s, .slice A3 nv cv, .slice A4 nc cc]) (n := 5) (o := 0) (fun j v hv => by rw [Nat.zero_add, cell_of_row wr _ _ _ _ _ hbk, List.getElem?_toArray]; exact hv) rfl))
                  have IT := Lib.hid (show (Try.prog.info? 162).map (·.size) = some ([t0, t1, t2, t3] : List Value).length from Try.irT)
                  have IE := Lib.hid (show (Try.prog.info? 86).map (·.size) = some ([b0, b1, b2, b3, b4, b5, b6, b7] : List Value).length from Try.irE)
                  go_wp2_with ((with_reducible refine at_ld 84 ?_); refine wpList_load_mid rfl 162 (.tmp 83) rfl wo.heap.size 5 rfl [t0, t1, t2, t3] _ R5.out Try.underlying162 rfl IT.out ?_)
                  refine (K3.out _ _ ?_ ?_).mono ?_
                  · exact bl_al (bl_tr (bl1 _ _) HB3.out) _
                  · exact bk_new _ _ _ _ rfl
                  rintro e w5 ⟨rfl, hb5⟩
                  have HB5 : Hid (Below (wo.alloc (.cells #[.int .i64 k, .int .i64 a, .string s, (.slice A3 nv cv), (.slice A4 nc cc), t0, t1, t2, t3, vp, b0, b1, b2, b3, b4, b5, b6, b7] 164)).heap.size (wo.alloc (.cells #[.int .i64 k, .int .i64 a, .string s, (.slice A3 nv cv), (.slice A4 nc cc), t0, t1, t2, t3, vp, b0, b1, b2, b3, b4, b5, b6, b7] 164)) w5) := Lib.hid (by refine bl_tr ?_ hb5; exact bl_al HB3.out _)
                  clear hb5 hcA R5 hbk
                  have hcA := (bcell HB5.out).1
                  go_wp2_with fail
                  refine (K4.out _ (bl_tr (bl1 _ _) HB5.out)).mono ?_
                  rintro e w6 ⟨rfl, hb6⟩
                  have HB6 : Hid (Below (wo.alloc (.cells #[.int .i64 k, .int .i64 a, .string s, (.slice A3 nv cv), (.slice A4 nc cc), t0, t1, t2, t3, vp, b0, b1, b2, b3, b4, b5, b6, b7] 164)).heap.size (wo.alloc (.cells #[.int .i64 k, .int .i64 a, .string s, (.slice A3 nv cv), (.slice A4 nc cc), t0, t1, t2, t3, vp, b0, b1, b2, b3, b4, b5, b6, b7] 164)) w6) := Lib.hid (bl_tr HB5.out hb6)
                  clear hb6 hcA
                  have hbk := bk_below (bk_new wo 164 #[.int .i64 k, .int .i64 a, .string s, (.slice A3 nv cv), (.slice A4 nc cc), t0, t1, t2, t3, vp, b0, b1, b2, b3, b4, b5, b6, b7] _ rfl) HB6.out
                  have R10 := Lib.hid (show w6.rangeAt wo.heap.size 10 [b0, b1, b2, b3, b4, b5, b6, b7] from rg_right (a := [.int .i64 k, .int .i64 a, .string s, .slice A3 nv cv, .slice A4 nc cc, t0, t1, t2, t3, vp]) (n := 10) (o := 0) (fun j v hv => by rw [Nat.zero_add, cell_of_row w6 _ _ _ _ _ hbk, List.getElem?_toArray]; exact hv) rfl)
                  have hcA := (bcell HB6.out).1
                  go_wp2_with ((with_reducible refine at_ld 93 ?_); refine wpList_load_mid rfl 86 (.tmp 92) rfl wo.heap.size 10 rfl [b0, b1, b2, b3, b4, b5, b6, b7] _ R10.out Try.underlying86 rfl IE.out ?_)
                  refine (K5.out _ _ ?_ ?_).mono ?_
                  · exact bl_al (bl_tr (bl1 _ _) HB6.out) _
                  · exact bk_new _ _ _ _ rfl
                  rintro e w7 ⟨rfl, hb7⟩
                  have HB7 : Hid (Below wo.heap.size wo w7) := Lib.hid (by refine bl_tr ?_ hb7; exact bl_al (bl_tr (bl1 _ _) HB6.out) _)
                  clear hb7 hcA hbk R10
                  go_wp2_with fail
                  go_roundg (n1 - (q + 1))
                  case measure => omega
                  case rel => exact ⟨q + 1, y5, by omega, rfl, by go_num, rfl, hy5l, Lib.hid (bl_tr HBR.out HB7.out), Lib.hid (by rw [← HF.out, HST.out])⟩
            · have hz20 : 0 ≤ z2 := by omega
              have d2 : decide (0 ≤ z2) = true := by simp; omega
              obtain ⟨g3, o3, rfl, hcv⟩ := HVA.out (by omega)
              have h1 := hcv j hlt2 0 (by decide)
              have hjl : j < vars.length := by rw [← HNV.out]; exact hlt2
              have hvd := List.drop_eq_getElem_cons hjl
              obtain ⟨sv, hsv⟩ : ∃ s, s = vars.getD j ByteArray.empty := ⟨_, rfl⟩
              have hsv' : vars[j] = sv := by rw [hsv]; simp [List.getD, hjl]
              have hsz := HSV.out _ (List.getElem_mem hjl)
              rw [hsv'] at hvd hsz
              unfold maxLen at hsz
              simp only [Nat.mul_one, Nat.add_zero, mem, List.getElem?_cons_zero] at h1
              rw [← hsv] at h1
              have x0 : wr.cell? ⟨g3, o3 + j, none⟩ = some (.string sv) := by
                exact ((bl_tr (bl1 _ _) HB2.out).cell (p := ⟨g3, o3 + j, none⟩) (cell_lt h1)).trans h1
              have hvdiv : 0 ≤ (sv.size : Int) / 100 := Int.ediv_nonneg (by omega) (by omega)
              have hvdiv2 : (sv.size : Int) / 100 ≤ 92233720368547758 := by omega
              have hk0 : (0 : Int) ≤ (j : Int) := by omega
              have HVD : Hid (fewVars (vars.drop (j + 1)) (z2 - (sv.size : Int) / 100) = y1) := Lib.hid (by rw [← HF2.out, hvd, fewVars, if_neg hneg2])
              clear h1 hcv hvd hsv hsv' hjl
              go_wp2_with fail
              go_roundg (nv - (j + 1))
              case measure => omega
              case rel => exact ⟨j + 1, z2 - (sv.size : Int) / 100, by omega, rfl, by go_num, rfl, by omega, HB2, HVD⟩
          · obtain rfl : nv = j := by omega
            have ey : z2 = y1 := by rw [← HF2.out, HNV.out, List.drop_length, fewVars]
            go_wp2_with fail
            have EY := Lib.hid ey
            clear ey
            go_loopg [1, 8] nc (fun gk z i wr => ∃ (p : Nat) (z3 : Int), p ≤ nc ∧ gk = nc - p ∧ i = .int .i64 p ∧ z = .int .i64 z3 ∧ z3 ≤ left ∧ Hid (Below (wo.alloc (.cells #[.int .i64 k, .int .i64 a, .string s, (.slice A3 nv cv), (.slice A4 nc cc), t0, t1, t2, t3, vp, b0, b1, b2, b3, b4, b5, b6, b7] 164)).heap.size (wo.alloc (.cells #[.int .i64 k, .int .i64 a, .string s, (.slice A3 nv cv), (.slice A4 nc cc), t0, t1, t2, t3, vp, b0, b1, b2, b3, b4, b5, b6, b7] 164)) wr) ∧ Hid (fewCos (cons.drop p) z3 = y2))
            case atStart => exact ⟨0, _, Nat.zero_le _, rfl, rfl, rfl, hz2l, HB2, Lib.hid (by rw [EY.out, HY2.out]; rfl)⟩
            case round =>
              clear hcA HB2
              obtain ⟨p, z3, hp, rfl, rfl, rfl, hz3l, HB3, HF3⟩ := hrel
              by_cases hlt3 : p < nc
              · have hk3 : (p : Int) < (nc : Int) := by omega
                have hk30 : (0 : Int) ≤ (p : Int) := by omega
                by_cases hneg3 : z3 < 0
                · have d3 : decide (0 ≤ z3) = false := by simp; omega
                  have ez : z3 = y2 := by rw [← HF3.out, fewCos_neg _ _ hneg3]
                  obtain ⟨hcA, _⟩ := bcell HB3.out
                  subst ez
                  have hbk := bk_below (bk_new wo 164 #[.int .i64 k, .int .i64 a, .string s, (.slice A3 nv cv), (.slice A4 nc cc), t0, t1, t2, t3, vp, b0, b1, b2, b3, b4, b5, b6, b7] _ rfl) HB3.out
                  have R5 := Lib.hid (show wr.rangeAt wo.heap.size 5 [t0, t1, t2, t3] from rg_left (b := [vp, b0, b1, b2, b3, b4, b5, b6, b7]) (rg_right (a := [.int .i64 k, .int .i64 a, .string s, .slice A3 nv cv, .slice A4 nc cc]) (n := 5) (o := 0) (fun j v hv => by rw [Nat.zero_add, cell_of_row wr _ _ _ _ _ hbk, List.getElem?_toArray]; exact hv) rfl))
                  have IT := Lib.hid (show (Try.prog.info? 162).map (·.size) = some ([t0, t1, t2, t3] : List Value).length from Try.irT)
                  have IE := Lib.hid (show (Try.prog.info? 86).map (·.size) = some ([b0, b1, b2, b3, b4, b5, b6, b7] : List Value).length from Try.irE)
                  go_wp2_with ((with_reducible refine at_ld 84 ?_); refine wpList_load_mid rfl 162 (.tmp 83) rfl wo.heap.size 5 rfl [t0, t1, t2, t3] _ R5.out Try.underlying162 rfl IT.out ?_)
                  refine (K3.out _ _ ?_ ?_).mono ?_
                  · exact bl_al (bl_tr (bl1 _ _) HB3.out) _
                  · exact bk_new _ _ _ _ rfl
                  rintro e w5 ⟨rfl, hb5⟩
                  have HB5 : Hid (Below (wo.alloc (.cells #[.int .i64 k, .int .i64 a, .string s, (.slice A3 nv cv), (.slice A4 nc cc), t0, t1, t2, t3, vp, b0, b1, b2, b3, b4, b5, b6, b7] 164)).heap.size (wo.alloc (.cells #[.int .i64 k, .int .i64 a, .string s, (.slice A3 nv cv), (.slice A4 nc cc), t0, t1, t2, t3, vp, b0, b1, b2, b3, b4, b5, b6, b7] 164)) w5) := Lib.hid (by refine bl_tr ?_ hb5; exact bl_al HB3.out _)
                  clear hb5 hcA R5 hbk
                  have hcA := (bcell HB5.out).1
                  go_wp2_with fail
                  refine (K4.out _ (bl_tr (bl1 _ _) HB5.out)).mono ?_
                  rintro e w6 ⟨rfl, hb6⟩
                  have HB6 : Hid (Below (wo.alloc (.cells #[.int .i64 k, .int .i64 a, .string s, (.slice A3 nv cv), (.slice A4 nc cc), t0, t1, t2, t3, vp, b0, b1, b2, b3, b4, b5, b6, b7] 164)).heap.size (wo.alloc (.cells #[.int .i64 k, .int .i64 a, .string s, (.slice A3 nv cv), (.slice A4 nc cc), t0, t1, t2, t3, vp, b0, b1, b2, b3, b4, b5, b6, b7] 164)) w6) := Lib.hid (bl_tr HB5.out hb6)
                  clear hb6 hcA
                  have hbk := bk_below (bk_new wo 164 #[.int .i64 k, .int .i64 a, .string s, (.slice A3 nv cv), (.slice A4 nc cc), t0, t1, t2, t3, vp, b0, b1, b2, b3, b4, b5, b6, b7] _ rfl) HB6.out
                  have R10 := Lib.hid (show w6.rangeAt wo.heap.size 10 [b0, b1, b2, b3, b4, b5, b6, b7] from rg_right (a := [.int .i64 k, .int .i64 a, .string s, .slice A3 nv cv, .slice A4 nc cc, t0, t1, t2, t3, vp]) (n := 10) (o := 0) (fun j v hv => by rw [Nat.zero_add, cell_of_row w6 _ _ _ _ _ hbk, List.getElem?_toArray]; exact hv) rfl)
                  have hcA := (bcell HB6.out).1
                  go_wp2_with ((with_reducible refine at_ld 93 ?_); refine wpList_load_mid rfl 86 (.tmp 92) rfl wo.heap.size 10 rfl [b0, b1, b2, b3, b4, b5, b6, b7] _ R10.out Try.underlying86 rfl IE.out ?_)
                  refine (K5.out _ _ ?_ ?_).mono ?_
                  · exact bl_al (bl_tr (bl1 _ _) HB6.out) _
                  · exact bk_new _ _ _ _ rfl
                  rintro e w7 ⟨rfl, hb7⟩
                  have HB7 : Hid (Below wo.heap.size wo w7) := Lib.hid (by refine bl_tr ?_ hb7; exact bl_al (bl_tr (bl1 _ _) HB6.out) _)
                  clear hb7 hcA hbk R10
                  go_wp2_with fail
                  go_roundg (n1 - (q + 1))
                  case measure => omega
                  case rel => exact ⟨q + 1, y5, by omega, rfl, by go_num, rfl, hy5l, Lib.hid (bl_tr HBR.out HB7.out), Lib.hid (by rw [← HF.out, HST.out])⟩
                · have hz30 : 0 ≤ z3 := by omega
                  have d3 : decide (0 ≤ z3) = true := by simp; omega
                  obtain ⟨g4, o4, rfl, hcc4⟩ := HCA.out (by omega)
                  have hpl : p < cons.length := by rw [← HNC.out]; exact hlt3
                  have hcd := List.drop_eq_getElem_cons hpl
                  have hcz : 0 ≤ ((cons[p].name.size : Nat) : Int) / 100 := Int.ediv_nonneg (by omega) (by omega)
                  have hgg := (fewTys_g cons[p].args (z3 - 1 - ((cons[p].name.size : Nat) : Int) / 100)).1
                  obtain ⟨nm, va, eC, hnm, hnm2, hcall⟩ := HCT.out p hpl (z3 - 1 - ((cons[p].name.size : Nat) : Int) / 100) (by omega)
                  have hstepC : fewCos (cons.drop p) z3 = fewCos (cons.drop (p + 1)) (fewTys cons[p].args (z3 - 1 - ((cons[p].name.size : Nat) : Int) / 100)) := by rw [hcd, fewCos, if_neg hneg3]
                  rw [← hnm2] at hcall hstepC hcz hgg
                  obtain ⟨y, hy⟩ : ∃ y, y = fewTys cons[p].args (z3 - 1 - ((nm.size : Nat) : Int) / 100) := ⟨_, rfl⟩
                  rw [← hy] at hcall hstepC hgg
                  have h1 := hcc4 p hlt3 1 (by decide); have h2 := hcc4 p hlt3 2 (by decide)
                  rw [eC] at h1 h2
                  simp only [mem, List.getElem?_cons_zero, List.getElem?_cons_succ] at h1 h2
                  have HBW := Lib.hid (bl_tr (bl1 _ _) HB3.out)
                  have B1 : ∀ w', Below wr.heap.size wr w' → w'.cell? ⟨g4, o4 + p * 3 + 1, none⟩ = some (.string nm) := fun w' hw' => ((bl_tr HBW.out hw').cell (p := ⟨g4, o4 + p * 3 + 1, none⟩) (cell_lt h1)).trans h1
                  have B2 : ∀ w', Below wr.heap.size wr w' → w'.cell? ⟨g4, o4 + p * 3 + 2, none⟩ = some va := fun w' hw' => ((bl_tr HBW.out hw').cell (p := ⟨g4, o4 + p * 3 + 2, none⟩) (cell_lt h2)).trans h2
                  have BX : ∀ w', Below wr.heap.size wr w' → w'.cell? ⟨wo.heap.size, 4, none⟩ = some (.slice (some ⟨g4, o4, none⟩) nc cc) := fun w' hw' => by
                    have hbk := bk_below (bk_new wo 164 #[.int .i64 k, .int .i64 a, .string s, (.slice A3 nv cv), (.slice (some ⟨g4, o4, none⟩) nc cc), t0, t1, t2, t3, vp, b0, b1, b2, b3, b4, b5, b6, b7] _ rfl) (bl_tr HB3.out hw')
                    unfold Blk at hbk
                    simp [World.cell?, hbk]
                  have HCQ : Hid (∀ W, Below wr.heap.size wr W → Calls Try.prog 113 #[va, .int .i64 (z3 - 1 - ((nm.size : Nat) : Int) / 100)] W (NumV y W)) := Lib.hid (fun W hW => hcall W (bl_tr HBW.out hW))
                  have hcz2 : ((nm.size : Nat) : Int) / 100 ≤ 92233720368547758 := by omega
                  have w0' : IntKind.i64.wrap ((nm.size : Int) / 100) = (nm.size : Int) / 100 := IntWalk.i64_in _ (by omega)
                  have w1 : IntKind.i64.wrap (z3 - 1) = z3 - 1 := IntWalk.i64_in _ (by omega)
                  have w2' : IntKind.i64.wrap (z3 - 1 - (nm.size : Int) / 100) = z3 - 1 - (nm.size : Int) / 100 := IntWalk.i64_in _ (by omega)
                  have hyl : y ≤ left := by omega
                  have HSC : Hid (fewCos (cons.drop (p + 1)) y = y2) := Lib.hid (by rw [← HF3.out, hstepC])
                  have hcA := (bcell HB3.out).1
                  clear hcd hgg hcall hstepC hy h1 h2 hcc4 eC hnm2 hpl hcz hcz2 HY1 HY2 HZ1 RR HOK K3 K4 K5 HST
                  go_wp2_with fail
                  refine wp_region_held_drew (S := fun w' => Below wr.heap.size wr w') (by kernel_rfl) (Below.drew (Below.refl _ _)) (fun hHeld => ?_)
                  refine wpAnyH_take (i := 0) (v := ?_) rfl (by kernel_rfl) (by kernel_rfl) (by kernel_rfl) (fun _ _ _ h => h) (Or.inl ⟨by rfl, ?_⟩) hHeld ?_
                  rotate_left
                  · (intro wS hSw; (try dsimp only at hSw); go_simp; try with_reducible rfl)
                  (try simp only [Act.put, List.getElem_toArray, List.getElem_cons_zero, List.getElem_cons_succ, List.setIfInBounds_toArray, List.set_cons_zero, List.set_cons_succ])
                  refine wpAnyH_take (i := 1) (v := ?_) rfl (by kernel_rfl) (by kernel_rfl) (by kernel_rfl) (fun _ _ _ h => h) (Or.inl ⟨by rfl, ?_⟩) hHeld ?_
                  rotate_left
                  · (intro wS hSw; (try dsimp only at hSw); go_simp; try with_reducible rfl)
                  (try simp only [Act.put, List.getElem_toArray, List.getElem_cons_zero, List.getElem_cons_succ, List.setIfInBounds_toArray, List.set_cons_zero, List.set_cons_succ])
                  refine wpAnyH_take (i := 2) (v := ?_) rfl (by kernel_rfl) (by kernel_rfl) (by kernel_rfl) (fun _ _ _ h => h) (Or.inl ⟨by rfl, ?_⟩) hHeld ?_
                  rotate_left
                  · (intro wS hSw; (try dsimp only at hSw); go_simp; try with_reducible rfl)
                  (try simp only [Act.put, List.getElem_toArray, List.getElem_cons_zero, List.getElem_cons_succ, List.setIfInBounds_toArray, List.set_cons_zero, List.set_cons_succ])
                  refine wpAnyH_take (i := 3) (v := ?_) rfl (by kernel_rfl) (by kernel_rfl) (by kernel_rfl) (fun _ _ _ h => h) (Or.inl ⟨by rfl, ?_⟩) hHeld ?_
                  rotate_left
                  · (intro wS hSw; (try dsimp only at hSw); go_simp; try with_reducible rfl)
                  (try simp only [Act.put, List.getElem_toArray, List.getElem_cons_zero, List.getElem_cons_succ, List.setIfInBounds_toArray, List.set_cons_zero, List.set_cons_succ])
                  refine wpAnyH_take (i := 4) (v := ?_) rfl (by kernel_rfl) (by kernel_rfl) (by kernel_rfl) (fun _ _ _ h => h) (Or.inl ⟨by rfl, ?_⟩) hHeld ?_
                  rotate_left
                  · (intro wS hSw; (try dsimp only at hSw); go_simp; try with_reducible rfl)
                  (try simp only [Act.put, List.getElem_toArray, List.getElem_cons_zero, List.getElem_cons_succ, List.setIfInBounds_toArray, List.set_cons_zero, List.set_cons_succ])
                  refine wpAnyH_take (i := 5) (v := ?_) rfl (by kernel_rfl) (by kernel_rfl) (by kernel_rfl) (fun _ _ _ h => h) (Or.inl ⟨by rfl, ?_⟩) hHeld ?_
                  rotate_left
                  · (intro wS hSw; (try dsimp only at hSw); go_simp; try with_reducible rfl)
                  (try simp only [Act.put, List.getElem_toArray, List.getElem_cons_zero, List.getElem_cons_succ, List.setIfInBounds_toArray, List.set_cons_zero, List.set_cons_succ])
                  refine wpAnyH_take (i := 6) (v := ?_) rfl (by kernel_rfl) (by kernel_rfl) (by kernel_rfl) (fun _ _ _ h => h) (Or.inl ⟨by rfl, ?_⟩) hHeld ?_
                  rotate_left
                  · (intro wS hSw; (try dsimp only at hSw); go_simp; try with_reducible rfl)
                  (try simp only [Act.put, List.getElem_toArray, List.getElem_cons_zero, List.getElem_cons_succ, List.setIfInBounds_toArray, List.set_cons_zero, List.set_cons_succ])
                  refine wpAnyH_take (i := 7) (v := ?_) rfl (by kernel_rfl) (by kernel_rfl) (by kernel_rfl) (fun _ _ _ h => h) (Or.inl ⟨by rfl, ?_⟩) hHeld ?_
                  rotate_left
                  · (intro wS hSw; (try dsimp only at hSw); go_simp; try with_reducible rfl)
                  (try simp only [Act.put, List.getElem_toArray, List.getElem_cons_zero, List.getElem_cons_succ, List.setIfInBounds_toArray, List.set_cons_zero, List.set_cons_succ])
                  refine wpAnyH_take (i := 8) (v := ?_) rfl (by kernel_rfl) (by kernel_rfl) (by kernel_rfl) (fun _ _ _ h => h) (Or.inl ⟨by rfl, ?_⟩) hHeld ?_
                  rotate_left
                  · (intro wS hSw; (try dsimp only at hSw); go_simp; try with_reducible rfl)
                  (try simp only [Act.put, List.getElem_toArray, List.getElem_cons_zero, List.getElem_cons_succ, List.setIfInBounds_toArray, List.set_cons_zero, List.set_cons_succ])
                  refine wpAnyH_take (i := 9) (v := ?_) rfl (by kernel_rfl) (by kernel_rfl) (by kernel_rfl) (fun _ _ _ h => h) (Or.inl ⟨by rfl, ?_⟩) hHeld ?_
                  rotate_left
                  · (intro wS hSw; (try dsimp only at hSw); go_simp; try with_reducible rfl)
                  (try simp only [Act.put, List.getElem_toArray, List.getElem_cons_zero, List.getElem_cons_succ, List.setIfInBounds_toArray, List.set_cons_zero, List.set_cons_succ])
                  refine wpAnyH_take (i := 10) (v := ?_) rfl (by kernel_rfl) (by kernel_rfl) (by kernel_rfl) (fun _ _ _ h => h) (Or.inl ⟨by rfl, ?_⟩) hHeld ?_
                  rotate_left
                  · (intro wS hSw; (try dsimp only at hSw); go_simp; try with_reducible rfl)
                  (try simp only [Act.put, List.getElem_toArray, List.getElem_cons_zero, List.getElem_cons_succ, List.setIfInBounds_toArray, List.set_cons_zero, List.set_cons_succ])
                  refine wpAnyH_take (i := 11) (v := ?_) rfl (by kernel_rfl) (by kernel_rfl) (by kernel_rfl) (fun _ _ _ h => h) (Or.inl ⟨by rfl, ?_⟩) hHeld ?_
                  rotate_left
                  · (intro wS hSw; (try dsimp only at hSw); go_simp; try with_reducible rfl)
                  (try simp only [Act.put, List.getElem_toArray, List.getElem_cons_zero, List.getElem_cons_succ, List.setIfInBounds_toArray, List.set_cons_zero, List.set_cons_succ])
                  refine wpAnyH_take (i := 12) (v := ?_) rfl (by kernel_rfl) (by kernel_rfl) (by kernel_rfl) (fun _ _ _ h => h) (Or.inl ⟨by rfl, ?_⟩) hHeld ?_
                  rotate_left
                  · (intro wS hSw; (try dsimp only at hSw); go_simp; try with_reducible rfl)
                  (try simp only [Act.put, List.getElem_toArray, List.getElem_cons_zero, List.getElem_cons_succ, List.setIfInBounds_toArray, List.set_cons_zero, List.set_cons_succ])
                  refine wpAnyH_take (i := 13) (v := ?_) rfl (by kernel_rfl) (by kernel_rfl) (by kernel_rfl) (fun _ _ _ h => h) (Or.inl ⟨by rfl, ?_⟩) hHeld ?_
                  rotate_left
                  · (intro wS hSw; (try dsimp only at hSw); go_simp; try with_reducible rfl)
                  (try simp only [Act.put, List.getElem_toArray, List.getElem_cons_zero, List.getElem_cons_succ, List.setIfInBounds_toArray, List.set_cons_zero, List.set_cons_succ])
                  refine wpAnyH_take (i := 14) (v := ?_) rfl (by kernel_rfl) (by kernel_rfl) (by kernel_rfl) (fun _ _ _ h => h) (Or.inl ⟨by rfl, ?_⟩) hHeld ?_
                  rotate_left
                  · (intro wS hSw; (try dsimp only at hSw); go_simp; try with_reducible rfl)
                  (try simp only [Act.put, List.getElem_toArray, List.getElem_cons_zero, List.getElem_cons_succ, List.setIfInBounds_toArray, List.set_cons_zero, List.set_cons_succ])
                  refine wpAnyH_take (i := 15) (v := ?_) rfl (by kernel_rfl) (by kernel_rfl) (by kernel_rfl) (fun _ _ _ h => h) (Or.inl ⟨by rfl, ?_⟩) hHeld ?_
                  rotate_left
                  · (intro wS hSw; (try dsimp only at hSw); go_simp; try with_reducible rfl)
                  (try simp only [Act.put, List.getElem_toArray, List.getElem_cons_zero, List.getElem_cons_succ, List.setIfInBounds_toArray, List.set_cons_zero, List.set_cons_succ])
                  refine wpAnyH_take (i := 16) (v := ?_) rfl (by kernel_rfl) (by kernel_rfl) (by kernel_rfl) (fun _ _ _ h => h) (Or.inl ⟨by rfl, ?_⟩) hHeld ?_
                  rotate_left
                  · (intro wS hSw; (try dsimp only at hSw); go_simp; try with_reducible rfl)
                  (try simp only [Act.put, List.getElem_toArray, List.getElem_cons_zero, List.getElem_cons_succ, List.setIfInBounds_toArray, List.set_cons_zero, List.set_cons_succ])
                  refine wpAnyH_ready (rs := [17]) (by kernel_rfl) (by simp) ?_
                  refine AllReadyH.cons rfl (fun K hK => ?_) AllReadyH.nil
                  (try simp only [List.getElem_toArray, List.getElem_cons_zero, List.getElem_cons_succ, List.setIfInBounds_toArray, List.set_cons_zero, List.set_cons_succ])
                  try go_simp
                  refine (HCQ.out _ (Below.drew (Below.refl _ _))).mono ?_; rintro e w2 ⟨rfl, hb2⟩; have HBN : Hid (Below wr.heap.size wr w2) := Lib.hid (bl_tr (Below.drew (Below.refl _ _)) hb2); clear hb2
                  try go_simp
                  refine hK.out _ _ ?_ (fun hHeld => ?_)
                  · exact HBN.out
                  (try simp only [Act.put, List.getElem_toArray, List.getElem_cons_zero, List.getElem_cons_succ, List.setIfInBounds_toArray, List.set_cons_zero, List.set_cons_succ])
                  refine wpAnyH_take (i := 18) (v := ?_) rfl (by kernel_rfl) (by kernel_rfl) (by kernel_rfl) (fun _ _ _ h => h) (Or.inl ⟨by rfl, ?_⟩) hHeld ?_
                  rotate_left
                  · (intro wS hSw; (try dsimp only at hSw); go_simp; try with_reducible rfl)
                  (try simp only [Act.put, List.getElem_toArray, List.getElem_cons_zero, List.getElem_cons_succ, List.setIfInBounds_toArray, List.set_cons_zero, List.set_cons_succ])
                  refine wpAnyH_done (by kernel_rfl) ?_ _
                  go_wp2_with fail
                  go_roundg (nc - (p + 1))
                  case measure => omega
                  case rel => exact ⟨p + 1, y, by omega, rfl, by go_num, rfl, hyl, Lib.hid (bl_tr HB3.out HBN.out), HSC⟩
              · obtain rfl : nc = p := by omega
                have ez : z3 = y2 := by rw [← HF3.out, HNC.out, List.drop_length, fewCos]
                obtain ⟨hcA, _⟩ := bcell HB3.out
                subst ez
                have hbk := bk_below (bk_new wo 164 #[.int .i64 k, .int .i64 a, .string s, (.slice A3 nv cv), (.slice A4 nc cc), t0, t1, t2, t3, vp, b0, b1, b2, b3, b4, b5, b6, b7] _ rfl) HB3.out
                have R5 := Lib.hid (show wr.rangeAt wo.heap.size 5 [t0, t1, t2, t3] from rg_left (b := [vp, b0, b1, b2, b3, b4, b5, b6, b7]) (rg_right (a := [.int .i64 k, .int .i64 a, .string s, .slice A3 nv cv, .slice A4 nc cc]) (n := 5) (o := 0) (fun j v hv => by rw [Nat.zero_add, cell_of_row wr _ _ _ _ _ hbk, List.getElem?_toArray]; exact hv) rfl))
                have IT := Lib.hid (show (Try.prog.info? 162).map (·.size) = some ([t0, t1, t2, t3] : List Value).length from Try.irT)
                have IE := Lib.hid (show (Try.prog.info? 86).map (·.size) = some ([b0, b1, b2, b3, b4, b5, b6, b7] : List Value).length from Try.irE)
                go_wp2_with ((with_reducible refine at_ld 84 ?_); refine wpList_load_mid rfl 162 (.tmp 83) rfl wo.heap.size 5 rfl [t0, t1, t2, t3] _ R5.out Try.underlying162 rfl IT.out ?_)
                refine (K3.out _ _ ?_ ?_).mono ?_
                · exact bl_al (bl_tr (bl1 _ _) HB3.out) _
                · exact bk_new _ _ _ _ rfl
                rintro e w5 ⟨rfl, hb5⟩
                have HB5 : Hid (Below (wo.alloc (.cells #[.int .i64 k, .int .i64 a, .string s, (.slice A3 nv cv), (.slice A4 nc cc), t0, t1, t2, t3, vp, b0, b1, b2, b3, b4, b5, b6, b7] 164)).heap.size (wo.alloc (.cells #[.int .i64 k, .int .i64 a, .string s, (.slice A3 nv cv), (.slice A4 nc cc), t0, t1, t2, t3, vp, b0, b1, b2, b3, b4, b5, b6, b7] 164)) w5) := Lib.hid (by refine bl_tr ?_ hb5; exact bl_al HB3.out _)
                clear hb5 hcA R5 hbk
                have hcA := (bcell HB5.out).1
                go_wp2_with fail
                refine (K4.out _ (bl_tr (bl1 _ _) HB5.out)).mono ?_
                rintro e w6 ⟨rfl, hb6⟩
                have HB6 : Hid (Below (wo.alloc (.cells #[.int .i64 k, .int .i64 a, .string s, (.slice A3 nv cv), (.slice A4 nc cc), t0, t1, t2, t3, vp, b0, b1, b2, b3, b4, b5, b6, b7] 164)).heap.size (wo.alloc (.cells #[.int .i64 k, .int .i64 a, .string s, (.slice A3 nv cv), (.slice A4 nc cc), t0, t1, t2, t3, vp, b0, b1, b2, b3, b4, b5, b6, b7] 164)) w6) := Lib.hid (bl_tr HB5.out hb6)
                clear hb6 hcA
                have hbk := bk_below (bk_new wo 164 #[.int .i64 k, .int .i64 a, .string s, (.slice A3 nv cv), (.slice A4 nc cc), t0, t1, t2, t3, vp, b0, b1, b2, b3, b4, b5, b6, b7] _ rfl) HB6.out
                have R10 := Lib.hid (show w6.rangeAt wo.heap.size 10 [b0, b1, b2, b3, b4, b5, b6, b7] from rg_right (a := [.int .i64 k, .int .i64 a, .string s, .slice A3 nv cv, .slice A4 nc cc, t0, t1, t2, t3, vp]) (n := 10) (o := 0) (fun j v hv => by rw [Nat.zero_add, cell_of_row w6 _ _ _ _ _ hbk, List.getElem?_toArray]; exact hv) rfl)
                have hcA := (bcell HB6.out).1
                go_wp2_with ((with_reducible refine at_ld 93 ?_); refine wpList_load_mid rfl 86 (.tmp 92) rfl wo.heap.size 10 rfl [b0, b1, b2, b3, b4, b5, b6, b7] _ R10.out Try.underlying86 rfl IE.out ?_)
                refine (K5.out _ _ ?_ ?_).mono ?_
                · exact bl_al (bl_tr (bl1 _ _) HB6.out) _
                · exact bk_new _ _ _ _ rfl
                rintro e w7 ⟨rfl, hb7⟩
                have HB7 : Hid (Below wo.heap.size wo w7) := Lib.hid (by refine bl_tr ?_ hb7; exact bl_al (bl_tr (bl1 _ _) HB6.out) _)
                clear hb7 hcA hbk R10
                go_wp2_with fail
                go_roundg (n1 - (q + 1))
                case measure => omega
                case rel => exact ⟨q + 1, y5, by omega, rfl, by go_num, rfl, hy5l, Lib.hid (bl_tr HBR.out HB7.out), Lib.hid (by rw [← HF.out, HST.out])⟩
    · obtain rfl : q = n1 := by omega
      go_wp2_with fail
      go_ret
      exact ⟨ret_i (by
        rw [← HF.out, HN.out, List.drop_length]
        rw [fewDes]), HBR.out⟩
end Go.Proofs.Ytfeghobfkgimfaa
