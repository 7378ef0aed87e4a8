/- What expressions may be. -/
import Derived.Test.YtfeghobfkgimfaaRigC
namespace Go.Proofs.Ytfeghobfkgimfaa
set_option linter.unusedSimpArgs false
set_option linter.unusedVariables false
open Go.RowKit Go.Shelf

set_option maxRecDepth 100000 in
set_option maxHeartbeats 4000000 in
theorem cl_Expr (C : List Value) (hC : Ok 8 C) (b : Nat) (left : Int) (r : Bool) (w : World) (hl : 1 ≤ left ∧ left ≤ 400) (hb : w.cell? ⟨b, 0, none⟩ = some (.int .i64 left))
    (hcall : ∀ W, Below w.heap.size w W → Calls Try.prog 78 #[.agg C.toArray, .int .i64 (left - 1)] W (RightV r W)) : Calls Try.prog 102 #[.agg C.toArray, .pointer (some ⟨b, 0, none⟩)] w (RightV r w) := by
  have IE := Lib.hid (show (Try.prog.info? 93).map (·.size) = some C.length from by rw [hC.1]; kernel_rfl)
  have RR := Lib.hid (range_new w 93 C)
  have hb2 : ∀ o, (w.alloc o).cell? ⟨b, 0, none⟩ = some (.int .i64 left) := fun o => ((bl1 w o).cell (p := ⟨b, 0, none⟩) (cell_lt hb)).trans hb
  have wz : IntKind.i64.wrap (left - 1) = left - 1 := IntWalk.i64_in _ (by omega)
  have HC := Lib.hid hcall
  clear hcall hC
  go_enter Try.func102, Try.ntmps102
  go_wp2_with (((with_reducible refine at_ld 4 ?_); refine wpList_load_mid rfl 93 (.tmp 2) rfl w.heap.size 0 rfl C _ RR.out Try.underlying93 rfl IE.out ?_))
  refine (HC.out _ (bl1 w _)).mono ?_
  rintro e w2 ⟨rfl, hb3⟩
  have HB := Lib.hid (bl_tr (bl1 w _) hb3)
  clear hb3
  go_wp2_with fail
  go_ret
  exact ⟨rfl, HB.out⟩
theorem enters_rightExpr1 : Enters Try.prog 102 := enters_any Try.func102 (by kernel_rfl) (by kernel_rfl)

def exK2 (k : Int) (s : ByteArray) (n : Int) (bare : Bool) (a p l d : Int) : Bool :=
  if k == 1 then (wordB s || opB s) && n == 0 && (a == 0 && p == 0 && l == 0 && d == 0)
  else if k == 2 then conB s && n == 0 && (a == 0 && p == 0 && l == 0 && d == 0)
  else if k == 3 || k == 4 || k == 5 then litB k s n && (a == 0 && p == 0 && l == 0 && d == 0)
  else if k == 6 then bare && (a == 2 && p == 0 && l == 0 && d == 0)
  else if k == 7 then bare && (a == 1 && l == 0 && d == 0) && decide (1 ≤ p) && decide (p ≤ 16)
  else if k == 8 then bare && (a == 1 && p == 0 && l == 0)
  else if k == 9 then bare && (a == 3 && p == 0 && l == 0 && d == 0)
  else k == 10 && bare && (a == 1 && p == 0 && d == 0) && decide (1 ≤ l) && decide (l ≤ 512)

set_option maxRecDepth 100000 in
set_option maxHeartbeats 4000000 in
theorem cl_Alt (D : Al) (C : List Value) (b : Nat) (left : Int) (w : World) (hC : AlC (mem w) D C) (hl : 1 ≤ left ∧ left ≤ 400) (hb : w.cell? ⟨b, 0, none⟩ = some (.int .i64 left))
    (hcall : ∀ cs W, ExC (mem W) D.body cs → Calls Try.prog 78 #[.agg cs.toArray, .int .i64 (left - 1)] W (RightV (rEx D.body (left - 1)) W)) : Calls Try.prog 104 #[.agg C.toArray, .pointer (some ⟨b, 0, none⟩)] w (RightV (rAl D (left - 1)) w) := by
  obtain ⟨p, bd⟩ := D
  obtain ⟨cp, cb, rfl, hp, hbd⟩ := hC.inv
  have HP := Lib.hid (fun (W : World) (hW : Below w.heap.size w W) => RightPat_any p cp W (hp.mono (mem_below hW)))
  have HE := Lib.hid (fun (W : World) (hW : Below w.heap.size w W) => hcall cb W (hbd.mono (mem_below hW)))
  simp only [Al.body] at HE
  have HD : Hid (rAl (.mk p bd) (left - 1) = (rPt p 400 && rEx bd (left - 1))) := Lib.hid rfl
  obtain ⟨p0, p1, p2, p3, p4, rfl⟩ := len5 hp.len
  obtain ⟨b0, b1, b2, b3, b4, b5, b6, b7, rfl⟩ := len8 hbd.len
  have hb2 : ∀ W, Below (w.alloc (.cells #[p0, p1, p2, p3, p4, b0, b1, b2, b3, b4, b5, b6, b7] 135)).heap.size (w.alloc (.cells #[p0, p1, p2, p3, p4, b0, b1, b2, b3, b4, b5, b6, b7] 135)) W → W.cell? ⟨b, 0, none⟩ = some (.int .i64 left) := fun W hW => ((bl_tr (bl1 w _) hW).cell (p := ⟨b, 0, none⟩) (cell_lt hb)).trans hb
  have HL := Lib.hid hb2
  have HK := Lib.hid (bk_new w 135 #[p0, p1, p2, p3, p4, b0, b1, b2, b3, b4, b5, b6, b7] _ rfl)
  have wz : IntKind.i64.wrap (left - 1) = left - 1 := IntWalk.i64_in _ (by omega)
  have IP := Lib.hid (show (Try.prog.info? 128).map (·.size) = some ([p0, p1, p2, p3, p4] : List Value).length from Try.riPat)
  have RR := Lib.hid (rg_left (a := [p0, p1, p2, p3, p4]) (b := [b0, b1, b2, b3, b4, b5, b6, b7]) (range_new w 135 [p0, p1, p2, p3, p4, b0, b1, b2, b3, b4, b5, b6, b7]))
  clear hcall hb2 hp hbd hC
  simp only [List.cons_append, List.nil_append]
  go_enter Try.func104, Try.ntmps104
  go_wp2_with (((with_reducible refine at_ld 5 ?_); refine wpList_load_mid rfl 128 (.tmp 4) rfl w.heap.size 0 rfl [p0, p1, p2, p3, p4] _ RR.out Try.underlying128 rfl IP.out ?_))
  refine (HP.out _ (bl1 w _)).mono ?_
  rintro e w2 ⟨rfl, hb3⟩
  have HB := Lib.hid (bl_tr (bl1 w _) hb3)
  have hl2 := HL.out w2 hb3
  have g0 : w2.cell? ⟨w.heap.size, 5, none⟩ = some b0 := (cell_of_row _ _ 5 _ _ _ (bk_below HK.out hb3)).trans rfl
  have g1 : w2.cell? ⟨w.heap.size, 6, none⟩ = some b1 := (cell_of_row _ _ 6 _ _ _ (bk_below HK.out hb3)).trans rfl
  have g2 : w2.cell? ⟨w.heap.size, 7, none⟩ = some b2 := (cell_of_row _ _ 7 _ _ _ (bk_below HK.out hb3)).trans rfl
  have g3 : w2.cell? ⟨w.heap.size, 8, none⟩ = some b3 := (cell_of_row _ _ 8 _ _ _ (bk_below HK.out hb3)).trans rfl
  have g4 : w2.cell? ⟨w.heap.size, 9, none⟩ = some b4 := (cell_of_row _ _ 9 _ _ _ (bk_below HK.out hb3)).trans rfl
  have g5 : w2.cell? ⟨w.heap.size, 10, none⟩ = some b5 := (cell_of_row _ _ 10 _ _ _ (bk_below HK.out hb3)).trans rfl
  have g6 : w2.cell? ⟨w.heap.size, 11, none⟩ = some b6 := (cell_of_row _ _ 11 _ _ _ (bk_below HK.out hb3)).trans rfl
  have g7 : w2.cell? ⟨w.heap.size, 12, none⟩ = some b7 := (cell_of_row _ _ 12 _ _ _ (bk_below HK.out hb3)).trans rfl
  clear hb3
  cases hq : rPt p 400 with
  | false =>
    go_wp2_with fail
    go_ret
    exact ⟨ret_b (by rw [HD.out, hq]; rfl), HB.out⟩
  | true =>
    go_wp2_with fail
    refine (HE.out _ HB.out).mono ?_
    rintro e w3 ⟨rfl, hb4⟩
    have HB4 := Lib.hid (bl_tr HB.out hb4)
    clear hb4
    go_wp2_with fail
    go_ret
    exact ⟨ret_b (by rw [HD.out, hq]; simp), HB4.out⟩
theorem enters_rightExpr2 : Enters Try.prog 104 := enters_any Try.func104 (by kernel_rfl) (by kernel_rfl)

def HasV (n1 n2 n3 n4 : Nat) (w : World) (e : Ending) (w' : World) : Prop := e = .returned (.agg #[.int .i64 n1, .int .i64 n2, .int .i64 n3, .int .i64 n4]) ∧ Below w.heap.size w w'
theorem Try.irH : (Try.prog.info? 187).map (·.size) = some 4 := by kernel_rfl
set_option maxRecDepth 100000 in
set_option maxHeartbeats 4000000 in
theorem has_any (k a : Int) (s : ByteArray) (m : Int) (A1 A2 A3 A4 : Option Addr) (n1 n2 n3 n4 c1 c2 c3 c4 : Nat) (w : World) : Calls Try.prog 105 #[.agg #[.int .i64 k, .int .i64 a, .string s, .int .i64 m, .slice A1 n1 c1, .slice A2 n2 c2, .slice A3 n3 c3, .slice A4 n4 c4]] w (HasV n1 n2 n3 n4 w) := by
  go_enter Try.func105, Try.ntmps105
  go_wp2_with fail
  refine bodyPost_ret (v := .agg #[.int .i64 n1, .int .i64 n2, .int .i64 n3, .int .i64 n4]) (results_cell_row (p := 2) (ty := 187) rfl _ _ (w.heap.size + 1) 187 #[.int .i64 n1, .int .i64 n2, .int .i64 n3, .int .i64 n4] (0, 0) _ rfl (bk_new _ _ _ _ (by simp)) Try.underlying187 rfl Try.irH) rfl ⟨rfl, bl2 w _ _⟩

set_option maxRecDepth 100000 in
set_option maxHeartbeats 16000000 in
theorem rightExpr_of (D : Ex) (cs : List Value) (left : Int) (w : World) (hl : 0 ≤ left ∧ left ≤ 400) (hcnt : cntEx D ≤ 100000) (hD : ExC (mem w) D cs)
    (ih : ∀ D', SizeOf.sizeOf (D' : Ex) < SizeOf.sizeOf D → cntEx D' ≤ 100000 → ∀ cs' left' W, 0 ≤ left' ∧ left' ≤ 400 → ExC (mem W) D' cs' → Calls Try.prog 78 #[.agg cs'.toArray, .int .i64 left'] W (RightV (rEx D' left') W)) :
    Calls Try.prog 78 #[.agg cs.toArray, .int .i64 left] w (RightV (rEx D left) w) := by
  obtain ⟨k, a, s, m, args, pats, alts, decls⟩ := D
  have hs := hD.size
  obtain ⟨v1, v2, v3, v4, rfl, h1, h2, h3, h4⟩ := hD.inv
  simp only [cntEx] at hcnt
  have hdef : rEx (.mk k a s m args pats alts decls) left = (!decide (left < 1) && rPts pats 400 && (decide ((decls.length : Int) ≤ 512) && rDes decls (left - 1)) && rExs args (left - 1) && rAls alts (left - 1) && exK k s m args.length pats.length alts.length decls.length) := by rw [rEx]
  have hW1 := bl2 w (.cells #[.int .i64 k, .int .i64 a, .string s, .int .i64 m, v1, v2, v3, v4] 93) (.cells #[.int .i64 left] 3)
  have hk1 : Blk ((w.alloc (.cells #[.int .i64 k, .int .i64 a, .string s, .int .i64 m, v1, v2, v3, v4] 93)).alloc (.cells #[.int .i64 left] 3)) w.heap.size 93 #[.int .i64 k, .int .i64 a, .string s, .int .i64 m, v1, v2, v3, v4] := bk_alloc (bk_new _ _ _ _ rfl) _
  have hk2 : Blk ((w.alloc (.cells #[.int .i64 k, .int .i64 a, .string s, .int .i64 m, v1, v2, v3, v4] 93)).alloc (.cells #[.int .i64 left] 3)) (w.heap.size + 1) 3 #[.int .i64 left] := bk_new _ _ _ _ (by simp)
  obtain ⟨W1, eW1⟩ : ∃ W1, ((w.alloc (.cells #[.int .i64 k, .int .i64 a, .string s, .int .i64 m, v1, v2, v3, v4] 93)).alloc (.cells #[.int .i64 left] 3)) = W1 := ⟨_, rfl⟩
  rw [eW1] at hW1 hk1 hk2
  have HPT := Lib.hid (fun (W : World) (hW : Below W1.heap.size W1 W) => everyPt pats v2 W (h2.mono (mem_below (bl_tr hW1 hW))))
  have HDE := Lib.hid (fun (hl1 : 1 ≤ left) (W : World) (hW : Below W1.heap.size W1 W) => rightDecls_of decls v4 (left - 1) W (by omega) (h4.mono (mem_below (bl_tr hW1 hW))) (fun D' hD' cs' W' hC => ih (De.body D') (by
    have := List.sizeOf_lt_of_mem hD'
    obtain ⟨k', a', s', vars, cons, ty, pats', b⟩ := D'
    simp [De.body] at this ⊢; omega) (by
    obtain ⟨k', a', s', vars, cons, ty, pats', b⟩ := D'
    have := cntDes_mem hD'
    simp only [De.body]; omega) cs' (left - 1) W' ⟨by omega, by omega⟩ hC))
  obtain ⟨A1, c1, C1, rfl, hc1, hA1, hC1⟩ := h1
  obtain ⟨A3, c3, C3, rfl, hc3, hA3, hC3⟩ := h3
  have har := fun (hl1 : 1 ≤ left) (W : World) (hW : Below W1.heap.size W1 W) => every_Expr C1 A1 args.length c1 (fun i => if h : i < args.length then rEx args[i] (left - 1) else true) 102 #[.pointer (some ⟨w.heap.size + 1, 0, none⟩)] W enters_rightExpr1 (le_of hc1) (hA1.mono (mem_below (bl_tr hW1 hW)) (fun i hi => (hC1 i hi).len)) (fun i hi => (hC1 i hi).ok)
    (fun i hi W2 hW2 => by
      have h := cl_Expr (C1 i) (hC1 i hi).ok (w.heap.size + 1) left (if h : i < args.length then rEx args[i] (left - 1) else true) W2 ⟨hl1, hl.2⟩ ((cell_of_row _ _ 0 _ _ _ (bk_below (bk_below hk2 hW) hW2)).trans rfl) (fun W3 hW3 => by
        rw [dif_pos hi]
        exact ih args[i] (by have := List.sizeOf_lt_of_mem (List.getElem_mem hi); simp; omega) (by have := cntExs_mem (List.getElem_mem hi); omega) (C1 i) (left - 1) W3 ⟨by omega, by omega⟩ ((hC1 i hi).mono (mem_below (bl_tr (bl_tr (bl_tr hW1 hW) hW2) hW3))))
      simpa using h)
  rw [allB_list args (fun d => rEx d (left - 1)) _ (fun i hi => dif_pos hi), ← rExs_all] at har
  have hal := fun (hl1 : 1 ≤ left) (W : World) (hW : Below W1.heap.size W1 W) => every_Alt C3 A3 alts.length c3 (fun i => if h : i < alts.length then rAl alts[i] (left - 1) else true) 104 #[.pointer (some ⟨w.heap.size + 1, 0, none⟩)] W enters_rightExpr2 (le_of hc3) (hA3.mono (mem_below (bl_tr hW1 hW)) (fun i hi => (hC3 i hi).len)) (fun i hi => (hC3 i hi).ok)
    (fun i hi W2 hW2 => by
      have h := cl_Alt alts[i] (C3 i) (w.heap.size + 1) left W2 ((hC3 i hi).mono (mem_below (bl_tr (bl_tr hW1 hW) hW2))) ⟨hl1, hl.2⟩ ((cell_of_row _ _ 0 _ _ _ (bk_below (bk_below hk2 hW) hW2)).trans rfl) (fun cs' W3 hC => by
        have hm := List.getElem_mem hi
        obtain ⟨p', b', e'⟩ : ∃ p b, alts[i] = Al.mk p b := ⟨alts[i].pat, alts[i].body, by cases alts[i]; rfl⟩
        rw [e'] at hm hC ⊢
        exact ih b' (by have := List.sizeOf_lt_of_mem hm; simp at this ⊢; omega) (by have := cntAls_mem hm; omega) cs' (left - 1) W3 ⟨by omega, by omega⟩ hC)
      rw [dif_pos hi]
      simpa using h)
  rw [allB_list alts (fun d => rAl d (left - 1)) _ (fun i hi => dif_pos hi), ← rAls_all] at hal
  obtain ⟨A2, c2, C2, rfl, hc2, _⟩ := h2
  obtain ⟨A4, c4, C4, rfl, hc4, _⟩ := h4
  have HAR := Lib.hid har; have HAL := Lib.hid hal; have HS := Lib.hid hs
  obtain ⟨n1, hn1⟩ : ∃ n, n = args.length := ⟨_, rfl⟩
  obtain ⟨n2, hn2⟩ : ∃ n, n = pats.length := ⟨_, rfl⟩
  obtain ⟨n3, hn3⟩ : ∃ n, n = alts.length := ⟨_, rfl⟩
  obtain ⟨n4, hn4⟩ : ∃ n, n = decls.length := ⟨_, rfl⟩
  rw [← hn1] at HAR eW1 hk1 hdef; rw [← hn2] at HPT eW1 hk1 hdef; rw [← hn3] at HAL eW1 hk1 hdef; rw [← hn4] at HDE eW1 hk1 hdef
  rw [← hn1, ← hn2, ← hn3, ← hn4]
  obtain ⟨rp, hrp⟩ : ∃ r, r = rPts pats 400 := ⟨_, rfl⟩
  obtain ⟨rd, hrd⟩ : ∃ r, r = (decide ((n4 : Int) ≤ 512) && rDes decls (left - 1)) := ⟨_, rfl⟩
  obtain ⟨ra, hra⟩ : ∃ r, r = rExs args (left - 1) := ⟨_, rfl⟩
  obtain ⟨rl, hrl⟩ : ∃ r, r = rAls alts (left - 1) := ⟨_, rfl⟩
  rw [← hrp] at HPT hdef; rw [← hrd] at HDE hdef; rw [← hra] at HAR hdef; rw [← hrl] at HAL hdef
  obtain ⟨RE, hRE⟩ : ∃ r, r = rEx (.mk k a s m args pats alts decls) left := ⟨_, rfl⟩
  rw [← hRE] at hdef ⊢
  clear hRE
  have HD0 := Lib.hid hdef
  have HW1 := Lib.hid hW1; have HK1 := Lib.hid hk1; have HK2 := Lib.hid hk2
  have HSZ : Hid (W1.heap.size = w.heap.size + 2) := Lib.hid (by rw [← eW1]; simp)
  have HR : Hid (∀ w', Below W1.heap.size W1 w' → Blk w' w.heap.size 93 #[.int .i64 k, .int .i64 a, .string s, .int .i64 m, .slice A1 n1 c1, .slice A2 n2 c2, .slice A3 n3 c3, .slice A4 n4 c4]) := Lib.hid (fun w' hw' => bk_below HK1.out hw')
  have HL : Hid (∀ w', Below W1.heap.size W1 w' → Blk w' (w.heap.size + 1) 3 #[.int .i64 left]) := Lib.hid (fun w' hw' => bk_below HK2.out hw')
  have IE := Lib.hid (show (Try.prog.info? 93).map (·.size) = some ([.int .i64 k, .int .i64 a, .string s, .int .i64 m, .slice A1 n1 c1, .slice A2 n2 c2, .slice A3 n3 c3, .slice A4 n4 c4] : List Value).length from Try.riExpr)
  clear hW1 hk1 hk2 hdef hrp hrd hra hrl hn1 hn2 hn3 hn4 har hal hD ih hcnt hs hc1 hc2 hc3 hc4 hA1 hA3 hC1 hC3
  have HB1 : Hid (Below W1.heap.size W1 W1) := Lib.hid (Below.refl _ _)
  have eW1_0 : W1.cell? ⟨w.heap.size, 0, none⟩ = some (.int .i64 k) := (cell_of_row _ _ 0 _ _ _ (HR.out W1 HB1.out)).trans rfl
  have eW1_2 : W1.cell? ⟨w.heap.size, 2, none⟩ = some (.string s) := (cell_of_row _ _ 2 _ _ _ (HR.out W1 HB1.out)).trans rfl
  have eW1_3 : W1.cell? ⟨w.heap.size, 3, none⟩ = some (.int .i64 m) := (cell_of_row _ _ 3 _ _ _ (HR.out W1 HB1.out)).trans rfl
  have eW1_4 : W1.cell? ⟨w.heap.size, 4, none⟩ = some (.slice A1 n1 c1) := (cell_of_row _ _ 4 _ _ _ (HR.out W1 HB1.out)).trans rfl
  have eW1_5 : W1.cell? ⟨w.heap.size, 5, none⟩ = some (.slice A2 n2 c2) := (cell_of_row _ _ 5 _ _ _ (HR.out W1 HB1.out)).trans rfl
  have eW1_6 : W1.cell? ⟨w.heap.size, 6, none⟩ = some (.slice A3 n3 c3) := (cell_of_row _ _ 6 _ _ _ (HR.out W1 HB1.out)).trans rfl
  have eW1_7 : W1.cell? ⟨w.heap.size, 7, none⟩ = some (.slice A4 n4 c4) := (cell_of_row _ _ 7 _ _ _ (HR.out W1 HB1.out)).trans rfl
  have eW1_l : W1.cell? ⟨w.heap.size + 1, 0, none⟩ = some (.int .i64 left) := (cell_of_row _ _ 0 _ _ _ (HL.out W1 HB1.out)).trans rfl
  by_cases h1 : left < 1
  · have h1b : decide (left < 1) = true := by simp [h1]
    go_enter Try.func78, Try.ntmps78
    go_wp2_with fail
    go_ret
    exact ⟨ret_b (by rw [HD0.out]; simp [h1]), HW1.out⟩
  have h1b : decide (left < 1) = false := by simp [h1]
  have h1c : 1 ≤ left := by omega
  have wz : IntKind.i64.wrap (left - 1) = left - 1 := IntWalk.i64_in _ (by omega)
  go_enter Try.func78, Try.ntmps78
  go_wp2_with fail
  refine (HPT.out _ HB1.out).mono ?_
  rintro e w2 ⟨rfl, hbq⟩
  have HB2 : Hid (Below W1.heap.size W1 w2) := Lib.hid (bl_tr HB1.out hbq)
  clear hbq
  have ew2_0 : w2.cell? ⟨w.heap.size, 0, none⟩ = some (.int .i64 k) := (cell_of_row _ _ 0 _ _ _ (HR.out w2 HB2.out)).trans rfl
  have ew2_2 : w2.cell? ⟨w.heap.size, 2, none⟩ = some (.string s) := (cell_of_row _ _ 2 _ _ _ (HR.out w2 HB2.out)).trans rfl
  have ew2_3 : w2.cell? ⟨w.heap.size, 3, none⟩ = some (.int .i64 m) := (cell_of_row _ _ 3 _ _ _ (HR.out w2 HB2.out)).trans rfl
  have ew2_4 : w2.cell? ⟨w.heap.size, 4, none⟩ = some (.slice A1 n1 c1) := (cell_of_row _ _ 4 _ _ _ (HR.out w2 HB2.out)).trans rfl
  have ew2_5 : w2.cell? ⟨w.heap.size, 5, none⟩ = some (.slice A2 n2 c2) := (cell_of_row _ _ 5 _ _ _ (HR.out w2 HB2.out)).trans rfl
  have ew2_6 : w2.cell? ⟨w.heap.size, 6, none⟩ = some (.slice A3 n3 c3) := (cell_of_row _ _ 6 _ _ _ (HR.out w2 HB2.out)).trans rfl
  have ew2_7 : w2.cell? ⟨w.heap.size, 7, none⟩ = some (.slice A4 n4 c4) := (cell_of_row _ _ 7 _ _ _ (HR.out w2 HB2.out)).trans rfl
  have ew2_l : w2.cell? ⟨w.heap.size + 1, 0, none⟩ = some (.int .i64 left) := (cell_of_row _ _ 0 _ _ _ (HL.out w2 HB2.out)).trans rfl
  cases rp with
  | false =>
    go_wp2_with fail
    go_ret
    exact ⟨ret_b (by rw [HD0.out]; simp), bl_tr HW1.out HB2.out⟩
  | true =>
    go_wp2_with fail
    refine (HDE.out h1c _ HB2.out).mono ?_
    rintro e w3 ⟨rfl, hbq⟩
    have HB3 : Hid (Below W1.heap.size W1 w3) := Lib.hid (bl_tr HB2.out hbq)
    clear hbq
    have ew3_0 : w3.cell? ⟨w.heap.size, 0, none⟩ = some (.int .i64 k) := (cell_of_row _ _ 0 _ _ _ (HR.out w3 HB3.out)).trans rfl
    have ew3_2 : w3.cell? ⟨w.heap.size, 2, none⟩ = some (.string s) := (cell_of_row _ _ 2 _ _ _ (HR.out w3 HB3.out)).trans rfl
    have ew3_3 : w3.cell? ⟨w.heap.size, 3, none⟩ = some (.int .i64 m) := (cell_of_row _ _ 3 _ _ _ (HR.out w3 HB3.out)).trans rfl
    have ew3_4 : w3.cell? ⟨w.heap.size, 4, none⟩ = some (.slice A1 n1 c1) := (cell_of_row _ _ 4 _ _ _ (HR.out w3 HB3.out)).trans rfl
    have ew3_5 : w3.cell? ⟨w.heap.size, 5, none⟩ = some (.slice A2 n2 c2) := (cell_of_row _ _ 5 _ _ _ (HR.out w3 HB3.out)).trans rfl
    have ew3_6 : w3.cell? ⟨w.heap.size, 6, none⟩ = some (.slice A3 n3 c3) := (cell_of_row _ _ 6 _ _ _ (HR.out w3 HB3.out)).trans rfl
    have ew3_7 : w3.cell? ⟨w.heap.size, 7, none⟩ = some (.slice A4 n4 c4) := (cell_of_row _ _ 7 _ _ _ (HR.out w3 HB3.out)).trans rfl
    have ew3_l : w3.cell? ⟨w.heap.size + 1, 0, none⟩ = some (.int .i64 left) := (cell_of_row _ _ 0 _ _ _ (HL.out w3 HB3.out)).trans rfl
    cases rd with
    | false =>
      go_wp2_with fail
      go_ret
      exact ⟨ret_b (by rw [HD0.out]; simp), bl_tr HW1.out HB3.out⟩
    | true =>
      go_wp2_with fail
      refine (HAR.out h1c _ HB3.out).mono ?_
      rintro e w4 ⟨rfl, hbq⟩
      have HB4 : Hid (Below W1.heap.size W1 w4) := Lib.hid (bl_tr HB3.out hbq)
      clear hbq
      have ew4_0 : w4.cell? ⟨w.heap.size, 0, none⟩ = some (.int .i64 k) := (cell_of_row _ _ 0 _ _ _ (HR.out w4 HB4.out)).trans rfl
      have ew4_2 : w4.cell? ⟨w.heap.size, 2, none⟩ = some (.string s) := (cell_of_row _ _ 2 _ _ _ (HR.out w4 HB4.out)).trans rfl
      have ew4_3 : w4.cell? ⟨w.heap.size, 3, none⟩ = some (.int .i64 m) := (cell_of_row _ _ 3 _ _ _ (HR.out w4 HB4.out)).trans rfl
      have ew4_4 : w4.cell? ⟨w.heap.size, 4, none⟩ = some (.slice A1 n1 c1) := (cell_of_row _ _ 4 _ _ _ (HR.out w4 HB4.out)).trans rfl
      have ew4_5 : w4.cell? ⟨w.heap.size, 5, none⟩ = some (.slice A2 n2 c2) := (cell_of_row _ _ 5 _ _ _ (HR.out w4 HB4.out)).trans rfl
      have ew4_6 : w4.cell? ⟨w.heap.size, 6, none⟩ = some (.slice A3 n3 c3) := (cell_of_row _ _ 6 _ _ _ (HR.out w4 HB4.out)).trans rfl
      have ew4_7 : w4.cell? ⟨w.heap.size, 7, none⟩ = some (.slice A4 n4 c4) := (cell_of_row _ _ 7 _ _ _ (HR.out w4 HB4.out)).trans rfl
      have ew4_l : w4.cell? ⟨w.heap.size + 1, 0, none⟩ = some (.int .i64 left) := (cell_of_row _ _ 0 _ _ _ (HL.out w4 HB4.out)).trans rfl
      cases ra with
      | false =>
        go_wp2_with fail
        go_ret
        exact ⟨ret_b (by rw [HD0.out]; simp), bl_tr HW1.out HB4.out⟩
      | true =>
        go_wp2_with fail
        refine (HAL.out h1c _ HB4.out).mono ?_
        rintro e w5 ⟨rfl, hbq⟩
        have HB5 : Hid (Below W1.heap.size W1 w5) := Lib.hid (bl_tr HB4.out hbq)
        clear hbq
        have ew5_0 : w5.cell? ⟨w.heap.size, 0, none⟩ = some (.int .i64 k) := (cell_of_row _ _ 0 _ _ _ (HR.out w5 HB5.out)).trans rfl
        have ew5_2 : w5.cell? ⟨w.heap.size, 2, none⟩ = some (.string s) := (cell_of_row _ _ 2 _ _ _ (HR.out w5 HB5.out)).trans rfl
        have ew5_3 : w5.cell? ⟨w.heap.size, 3, none⟩ = some (.int .i64 m) := (cell_of_row _ _ 3 _ _ _ (HR.out w5 HB5.out)).trans rfl
        have ew5_4 : w5.cell? ⟨w.heap.size, 4, none⟩ = some (.slice A1 n1 c1) := (cell_of_row _ _ 4 _ _ _ (HR.out w5 HB5.out)).trans rfl
        have ew5_5 : w5.cell? ⟨w.heap.size, 5, none⟩ = some (.slice A2 n2 c2) := (cell_of_row _ _ 5 _ _ _ (HR.out w5 HB5.out)).trans rfl
        have ew5_6 : w5.cell? ⟨w.heap.size, 6, none⟩ = some (.slice A3 n3 c3) := (cell_of_row _ _ 6 _ _ _ (HR.out w5 HB5.out)).trans rfl
        have ew5_7 : w5.cell? ⟨w.heap.size, 7, none⟩ = some (.slice A4 n4 c4) := (cell_of_row _ _ 7 _ _ _ (HR.out w5 HB5.out)).trans rfl
        have ew5_l : w5.cell? ⟨w.heap.size + 1, 0, none⟩ = some (.int .i64 left) := (cell_of_row _ _ 0 _ _ _ (HL.out w5 HB5.out)).trans rfl
        cases rl with
        | false =>
          go_wp2_with fail
          go_ret
          exact ⟨ret_b (by rw [HD0.out]; simp), bl_tr HW1.out HB5.out⟩
        | true =>
          have HD : Hid (RE = exK k s m n1 n2 n3 n4) := Lib.hid (by rw [HD0.out, h1b]; simp)
          have RR := Lib.hid (show w5.rangeAt w.heap.size 0 [.int .i64 k, .int .i64 a, .string s, .int .i64 m, .slice A1 n1 c1, .slice A2 n2 c2, .slice A3 n3 c3, .slice A4 n4 c4] from fun j v hv => by rw [Nat.zero_add, cell_of_row w5 _ _ _ _ _ (HR.out w5 HB5.out), List.getElem?_toArray]; exact hv)
          go_wp2_with (((with_reducible refine at_ld 35 ?_); refine wpList_load_mid rfl 93 (.tmp 2) rfl w.heap.size 0 rfl [.int .i64 k, .int .i64 a, .string s, .int .i64 m, .slice A1 n1 c1, .slice A2 n2 c2, .slice A3 n3 c3, .slice A4 n4 c4] _ RR.out Try.underlying93 rfl IE.out ?_))
          refine (has_any k a s m A1 A2 A3 A4 n1 n2 n3 n4 c1 c2 c3 c4 _).mono ?_
          rintro e w6 ⟨rfl, hbq⟩
          have HB6 : Hid (Below W1.heap.size W1 w6) := Lib.hid (bl_tr HB5.out hbq)
          clear hbq
          obtain ⟨Wh, eWh⟩ : ∃ Wh, w6.alloc (.cells #[.int .i64 n1, .int .i64 n2, .int .i64 n3, .int .i64 n4] 187) = Wh := ⟨_, rfl⟩
          have HBH : Hid (Below W1.heap.size W1 Wh) := Lib.hid (by rw [← eWh]; exact bl_al HB6.out _)
          have HH : Hid (∀ w', Below Wh.heap.size Wh w' → Blk w' w6.heap.size 187 #[.int .i64 n1, .int .i64 n2, .int .i64 n3, .int .i64 n4]) := Lib.hid (fun w' hw' => bk_below (by rw [← eWh]; exact bk_new _ _ _ _ rfl) hw')
          have HWH : Hid (Below Wh.heap.size Wh Wh) := Lib.hid (Below.refl _ _)
          clear HPT HDE HAR HAL HD0 RR IE wz h1c h1b h1
          clear eW1_0 eW1_2 eW1_3 eW1_4 eW1_5 eW1_6 eW1_7 eW1_l ew2_0 ew2_2 ew2_3 ew2_4 ew2_5 ew2_6 ew2_7 ew2_l ew3_0 ew3_2 ew3_3 ew3_4 ew3_5 ew3_6 ew3_7 ew3_l ew4_0 ew4_2 ew4_3 ew4_4 ew4_5 ew4_6 ew4_7 ew4_l ew5_0 ew5_2 ew5_3 ew5_4 ew5_5 ew5_6 ew5_7 ew5_l
          go_upto_region 6 with fail
          try rw [eWh]
          clear eWh
          have eWh_0 : Wh.cell? ⟨w.heap.size, 0, none⟩ = some (.int .i64 k) := (cell_of_row _ _ 0 _ _ _ (HR.out Wh HBH.out)).trans rfl
          have eWh_2 : Wh.cell? ⟨w.heap.size, 2, none⟩ = some (.string s) := (cell_of_row _ _ 2 _ _ _ (HR.out Wh HBH.out)).trans rfl
          have eWh_3 : Wh.cell? ⟨w.heap.size, 3, none⟩ = some (.int .i64 m) := (cell_of_row _ _ 3 _ _ _ (HR.out Wh HBH.out)).trans rfl
          have hWh_0 : Wh.cell? ⟨w6.heap.size, 0, none⟩ = some (.int .i64 n1) := (cell_of_row _ _ 0 _ _ _ (HH.out Wh HWH.out)).trans rfl
          have hWh_1 : Wh.cell? ⟨w6.heap.size, 1, none⟩ = some (.int .i64 n2) := (cell_of_row _ _ 1 _ _ _ (HH.out Wh HWH.out)).trans rfl
          have hWh_2 : Wh.cell? ⟨w6.heap.size, 2, none⟩ = some (.int .i64 n3) := (cell_of_row _ _ 2 _ _ _ (HH.out Wh HWH.out)).trans rfl
          have hWh_3 : Wh.cell? ⟨w6.heap.size, 3, none⟩ = some (.int .i64 n4) := (cell_of_row _ _ 3 _ _ _ (HH.out Wh HWH.out)).trans rfl
          go_cut [6] (fun s6 wc => s6 = .bool (s.toList == [] && m == 0) ∧ Wh = wc)
          case first =>
            cases hb0 : s.toList == [] with
            | false =>
              have hb0p : ¬ s.toList = [] := by simpa using hb0
              go_wp2_with fail
              go_meet
              case rel => exact ⟨by simp [*], rfl⟩
            | true =>
              have hb0p : s.toList = [] := by simpa using hb0
              cases hm0 : m == 0 with
              | false =>
                have hm0p : ¬ m = 0 := by simpa using hm0
                go_wp2_with fail
                go_meet
                case rel => exact ⟨by simp [*], rfl⟩
              | true =>
                have hm0p : m = 0 := by simpa using hm0
                go_wp2_with fail
                go_meet
                case rel => exact ⟨by simp [*], rfl⟩
          case rest =>
            obtain ⟨hbare, rfl⟩ := hcut
            obtain ⟨bare, hba⟩ : ∃ b, b = (s.toList == [] && m == 0) := ⟨_, rfl⟩
            rw [← hba] at hbare
            subst hbare
            have HD2 : Hid (RE = exK2 k s m bare n1 n2 n3 n4) := Lib.hid (by rw [HD.out, hba]; rfl)
            clear hba HD
            cases hk1 : k == 1 with
            | false =>
              have hk1p : ¬ k = 1 := by simpa using hk1
              cases hk2 : k == 2 with
              | false =>
                have hk2p : ¬ k = 2 := by simpa using hk2
                cases hk3 : k == 3 with
                | false =>
                  have hk3p : ¬ k = 3 := by simpa using hk3
                  cases hk4 : k == 4 with
                  | false =>
                    have hk4p : ¬ k = 4 := by simpa using hk4
                    cases hk5 : k == 5 with
                    | false =>
                      have hk5p : ¬ k = 5 := by simpa using hk5
                      cases hk6 : k == 6 with
                      | false =>
                        have hk6p : ¬ k = 6 := by simpa using hk6
                        cases hk7 : k == 7 with
                        | false =>
                          have hk7p : ¬ k = 7 := by simpa using hk7
                          cases hk8 : k == 8 with
                          | false =>
                            have hk8p : ¬ k = 8 := by simpa using hk8
                            cases hk9 : k == 9 with
                            | false =>
                              have hk9p : ¬ k = 9 := by simpa using hk9
                              cases hk10 : k == 10 with
                              | false =>
                                have hk10p : ¬ k = 10 := by simpa using hk10
                                go_wp2_with fail
                                all_goals (go_ret; refine ⟨ret_b ?_, bl_tr HW1.out HBH.out⟩; rw [HD2.out]; first | (simp [exK2, *]; done) | (simp [exK2, *]; intros; omega))
                              | true =>
                                have hk10p : k = 10 := by simpa using hk10
                                cases hbr : bare with
                                | false =>
                                  go_wp2_with fail
                                  all_goals (go_ret; refine ⟨ret_b ?_, bl_tr HW1.out HBH.out⟩; rw [HD2.out]; first | (simp [exK2, *]; done) | (simp [exK2, *]; intros; omega))
                                | true =>
                                  go_wp2_with fail
                                  all_goals (go_ret; refine ⟨ret_b ?_, bl_tr HW1.out HBH.out⟩; rw [HD2.out]; first | (simp [exK2, *]; done) | (simp [exK2, *]; intros; omega))
                            | true =>
                              have hk9p : k = 9 := by simpa using hk9
                              cases hbr : bare with
                              | false =>
                                go_wp2_with fail
                                all_goals (go_ret; refine ⟨ret_b ?_, bl_tr HW1.out HBH.out⟩; rw [HD2.out]; first | (simp [exK2, *]; done) | (simp [exK2, *]; intros; omega))
                              | true =>
                                go_wp2_with fail
                                all_goals (go_ret; refine ⟨ret_b ?_, bl_tr HW1.out HBH.out⟩; rw [HD2.out]; first | (simp [exK2, *]; done) | (simp [exK2, *]; intros; omega))
                          | true =>
                            have hk8p : k = 8 := by simpa using hk8
                            cases hbr : bare with
                            | false =>
                              go_wp2_with fail
                              all_goals (go_ret; refine ⟨ret_b ?_, bl_tr HW1.out HBH.out⟩; rw [HD2.out]; first | (simp [exK2, *]; done) | (simp [exK2, *]; intros; omega))
                            | true =>
                              go_wp2_with fail
                              all_goals (go_ret; refine ⟨ret_b ?_, bl_tr HW1.out HBH.out⟩; rw [HD2.out]; first | (simp [exK2, *]; done) | (simp [exK2, *]; intros; omega))
                        | true =>
                          have hk7p : k = 7 := by simpa using hk7
                          cases hbr : bare with
                          | false =>
                            go_wp2_with fail
                            all_goals (go_ret; refine ⟨ret_b ?_, bl_tr HW1.out HBH.out⟩; rw [HD2.out]; first | (simp [exK2, *]; done) | (simp [exK2, *]; intros; omega))
                          | true =>
                            go_wp2_with fail
                            all_goals (go_ret; refine ⟨ret_b ?_, bl_tr HW1.out HBH.out⟩; rw [HD2.out]; first | (simp [exK2, *]; done) | (simp [exK2, *]; intros; omega))
                      | true =>
                        have hk6p : k = 6 := by simpa using hk6
                        cases hbr : bare with
                        | false =>
                          go_wp2_with fail
                          all_goals (go_ret; refine ⟨ret_b ?_, bl_tr HW1.out HBH.out⟩; rw [HD2.out]; first | (simp [exK2, *]; done) | (simp [exK2, *]; intros; omega))
                        | true =>
                          go_wp2_with fail
                          all_goals (go_ret; refine ⟨ret_b ?_, bl_tr HW1.out HBH.out⟩; rw [HD2.out]; first | (simp [exK2, *]; done) | (simp [exK2, *]; intros; omega))
                    | true =>
                      have hk5p : k = 5 := by simpa using hk5
                      go_wp2_with fail
                      refine (lit_any 5 s m _).mono ?_
                      rintro e w7 ⟨rfl, hbq⟩
                      have HW7 : Hid (Below Wh.heap.size Wh w7) := Lib.hid hbq
                      have HB7 : Hid (Below W1.heap.size W1 w7) := Lib.hid (bl_tr HBH.out hbq)
                      clear hbq
                      have ew7_0 : w7.cell? ⟨w.heap.size, 0, none⟩ = some (.int .i64 k) := (cell_of_row _ _ 0 _ _ _ (HR.out w7 HB7.out)).trans rfl
                      have ew7_2 : w7.cell? ⟨w.heap.size, 2, none⟩ = some (.string s) := (cell_of_row _ _ 2 _ _ _ (HR.out w7 HB7.out)).trans rfl
                      have ew7_3 : w7.cell? ⟨w.heap.size, 3, none⟩ = some (.int .i64 m) := (cell_of_row _ _ 3 _ _ _ (HR.out w7 HB7.out)).trans rfl
                      have hw7_0 : w7.cell? ⟨w6.heap.size, 0, none⟩ = some (.int .i64 n1) := (cell_of_row _ _ 0 _ _ _ (HH.out w7 HW7.out)).trans rfl
                      have hw7_1 : w7.cell? ⟨w6.heap.size, 1, none⟩ = some (.int .i64 n2) := (cell_of_row _ _ 1 _ _ _ (HH.out w7 HW7.out)).trans rfl
                      have hw7_2 : w7.cell? ⟨w6.heap.size, 2, none⟩ = some (.int .i64 n3) := (cell_of_row _ _ 2 _ _ _ (HH.out w7 HW7.out)).trans rfl
                      have hw7_3 : w7.cell? ⟨w6.heap.size, 3, none⟩ = some (.int .i64 n4) := (cell_of_row _ _ 3 _ _ _ (HH.out w7 HW7.out)).trans rfl
                      cases hw : litB 5 s m with
                      | false =>
                        go_wp2_with fail
                        all_goals (go_ret; refine ⟨ret_b ?_, bl_tr HW1.out HB7.out⟩; rw [HD2.out]; first | (simp [exK2, *]; done) | (simp [exK2, *]; intros; omega))
                      | true =>
                        go_wp2_with fail
                        all_goals (go_ret; refine ⟨ret_b ?_, bl_tr HW1.out HB7.out⟩; rw [HD2.out]; first | (simp [exK2, *]; done) | (simp [exK2, *]; intros; omega))
                  | true =>
                    have hk4p : k = 4 := by simpa using hk4
                    go_wp2_with fail
                    refine (lit_any 4 s m _).mono ?_
                    rintro e w7 ⟨rfl, hbq⟩
                    have HW7 : Hid (Below Wh.heap.size Wh w7) := Lib.hid hbq
                    have HB7 : Hid (Below W1.heap.size W1 w7) := Lib.hid (bl_tr HBH.out hbq)
                    clear hbq
                    have ew7_0 : w7.cell? ⟨w.heap.size, 0, none⟩ = some (.int .i64 k) := (cell_of_row _ _ 0 _ _ _ (HR.out w7 HB7.out)).trans rfl
                    have ew7_2 : w7.cell? ⟨w.heap.size, 2, none⟩ = some (.string s) := (cell_of_row _ _ 2 _ _ _ (HR.out w7 HB7.out)).trans rfl
                    have ew7_3 : w7.cell? ⟨w.heap.size, 3, none⟩ = some (.int .i64 m) := (cell_of_row _ _ 3 _ _ _ (HR.out w7 HB7.out)).trans rfl
                    have hw7_0 : w7.cell? ⟨w6.heap.size, 0, none⟩ = some (.int .i64 n1) := (cell_of_row _ _ 0 _ _ _ (HH.out w7 HW7.out)).trans rfl
                    have hw7_1 : w7.cell? ⟨w6.heap.size, 1, none⟩ = some (.int .i64 n2) := (cell_of_row _ _ 1 _ _ _ (HH.out w7 HW7.out)).trans rfl
                    have hw7_2 : w7.cell? ⟨w6.heap.size, 2, none⟩ = some (.int .i64 n3) := (cell_of_row _ _ 2 _ _ _ (HH.out w7 HW7.out)).trans rfl
                    have hw7_3 : w7.cell? ⟨w6.heap.size, 3, none⟩ = some (.int .i64 n4) := (cell_of_row _ _ 3 _ _ _ (HH.out w7 HW7.out)).trans rfl
                    cases hw : litB 4 s m with
                    | false =>
                      go_wp2_with fail
                      all_goals (go_ret; refine ⟨ret_b ?_, bl_tr HW1.out HB7.out⟩; rw [HD2.out]; first | (simp [exK2, *]; done) | (simp [exK2, *]; intros; omega))
                    | true =>
                      go_wp2_with fail
                      all_goals (go_ret; refine ⟨ret_b ?_, bl_tr HW1.out HB7.out⟩; rw [HD2.out]; first | (simp [exK2, *]; done) | (simp [exK2, *]; intros; omega))
                | true =>
                  have hk3p : k = 3 := by simpa using hk3
                  go_wp2_with fail
                  refine (lit_any 3 s m _).mono ?_
                  rintro e w7 ⟨rfl, hbq⟩
                  have HW7 : Hid (Below Wh.heap.size Wh w7) := Lib.hid hbq
                  have HB7 : Hid (Below W1.heap.size W1 w7) := Lib.hid (bl_tr HBH.out hbq)
                  clear hbq
                  have ew7_0 : w7.cell? ⟨w.heap.size, 0, none⟩ = some (.int .i64 k) := (cell_of_row _ _ 0 _ _ _ (HR.out w7 HB7.out)).trans rfl
                  have ew7_2 : w7.cell? ⟨w.heap.size, 2, none⟩ = some (.string s) := (cell_of_row _ _ 2 _ _ _ (HR.out w7 HB7.out)).trans rfl
                  have ew7_3 : w7.cell? ⟨w.heap.size, 3, none⟩ = some (.int .i64 m) := (cell_of_row _ _ 3 _ _ _ (HR.out w7 HB7.out)).trans rfl
                  have hw7_0 : w7.cell? ⟨w6.heap.size, 0, none⟩ = some (.int .i64 n1) := (cell_of_row _ _ 0 _ _ _ (HH.out w7 HW7.out)).trans rfl
                  have hw7_1 : w7.cell? ⟨w6.heap.size, 1, none⟩ = some (.int .i64 n2) := (cell_of_row _ _ 1 _ _ _ (HH.out w7 HW7.out)).trans rfl
                  have hw7_2 : w7.cell? ⟨w6.heap.size, 2, none⟩ = some (.int .i64 n3) := (cell_of_row _ _ 2 _ _ _ (HH.out w7 HW7.out)).trans rfl
                  have hw7_3 : w7.cell? ⟨w6.heap.size, 3, none⟩ = some (.int .i64 n4) := (cell_of_row _ _ 3 _ _ _ (HH.out w7 HW7.out)).trans rfl
                  cases hw : litB 3 s m with
                  | false =>
                    go_wp2_with fail
                    all_goals (go_ret; refine ⟨ret_b ?_, bl_tr HW1.out HB7.out⟩; rw [HD2.out]; first | (simp [exK2, *]; done) | (simp [exK2, *]; intros; omega))
                  | true =>
                    go_wp2_with fail
                    all_goals (go_ret; refine ⟨ret_b ?_, bl_tr HW1.out HB7.out⟩; rw [HD2.out]; first | (simp [exK2, *]; done) | (simp [exK2, *]; intros; omega))
              | true =>
                have hk2p : k = 2 := by simpa using hk2
                go_wp2_with fail
                refine (con_any s _ HS.out).mono ?_
                rintro e w7 ⟨rfl, hbq⟩
                have HW7 : Hid (Below Wh.heap.size Wh w7) := Lib.hid hbq
                have HB7 : Hid (Below W1.heap.size W1 w7) := Lib.hid (bl_tr HBH.out hbq)
                clear hbq
                have ew7_0 : w7.cell? ⟨w.heap.size, 0, none⟩ = some (.int .i64 k) := (cell_of_row _ _ 0 _ _ _ (HR.out w7 HB7.out)).trans rfl
                have ew7_2 : w7.cell? ⟨w.heap.size, 2, none⟩ = some (.string s) := (cell_of_row _ _ 2 _ _ _ (HR.out w7 HB7.out)).trans rfl
                have ew7_3 : w7.cell? ⟨w.heap.size, 3, none⟩ = some (.int .i64 m) := (cell_of_row _ _ 3 _ _ _ (HR.out w7 HB7.out)).trans rfl
                have hw7_0 : w7.cell? ⟨w6.heap.size, 0, none⟩ = some (.int .i64 n1) := (cell_of_row _ _ 0 _ _ _ (HH.out w7 HW7.out)).trans rfl
                have hw7_1 : w7.cell? ⟨w6.heap.size, 1, none⟩ = some (.int .i64 n2) := (cell_of_row _ _ 1 _ _ _ (HH.out w7 HW7.out)).trans rfl
                have hw7_2 : w7.cell? ⟨w6.heap.size, 2, none⟩ = some (.int .i64 n3) := (cell_of_row _ _ 2 _ _ _ (HH.out w7 HW7.out)).trans rfl
                have hw7_3 : w7.cell? ⟨w6.heap.size, 3, none⟩ = some (.int .i64 n4) := (cell_of_row _ _ 3 _ _ _ (HH.out w7 HW7.out)).trans rfl
                cases hw : conB s with
                | false =>
                  go_wp2_with fail
                  all_goals (go_ret; refine ⟨ret_b ?_, bl_tr HW1.out HB7.out⟩; rw [HD2.out]; first | (simp [exK2, *]; done) | (simp [exK2, *]; intros; omega))
                | true =>
                  go_wp2_with fail
                  all_goals (go_ret; refine ⟨ret_b ?_, bl_tr HW1.out HB7.out⟩; rw [HD2.out]; first | (simp [exK2, *]; done) | (simp [exK2, *]; intros; omega))
            | true =>
              have hk1p : k = 1 := by simpa using hk1
              go_wp2_with fail
              refine (word_any s _ HS.out).mono ?_
              rintro e w7 ⟨rfl, hbq⟩
              have HW7 : Hid (Below Wh.heap.size Wh w7) := Lib.hid hbq
              have HB7 : Hid (Below W1.heap.size W1 w7) := Lib.hid (bl_tr HBH.out hbq)
              clear hbq
              have ew7_0 : w7.cell? ⟨w.heap.size, 0, none⟩ = some (.int .i64 k) := (cell_of_row _ _ 0 _ _ _ (HR.out w7 HB7.out)).trans rfl
              have ew7_2 : w7.cell? ⟨w.heap.size, 2, none⟩ = some (.string s) := (cell_of_row _ _ 2 _ _ _ (HR.out w7 HB7.out)).trans rfl
              have ew7_3 : w7.cell? ⟨w.heap.size, 3, none⟩ = some (.int .i64 m) := (cell_of_row _ _ 3 _ _ _ (HR.out w7 HB7.out)).trans rfl
              have hw7_0 : w7.cell? ⟨w6.heap.size, 0, none⟩ = some (.int .i64 n1) := (cell_of_row _ _ 0 _ _ _ (HH.out w7 HW7.out)).trans rfl
              have hw7_1 : w7.cell? ⟨w6.heap.size, 1, none⟩ = some (.int .i64 n2) := (cell_of_row _ _ 1 _ _ _ (HH.out w7 HW7.out)).trans rfl
              have hw7_2 : w7.cell? ⟨w6.heap.size, 2, none⟩ = some (.int .i64 n3) := (cell_of_row _ _ 2 _ _ _ (HH.out w7 HW7.out)).trans rfl
              have hw7_3 : w7.cell? ⟨w6.heap.size, 3, none⟩ = some (.int .i64 n4) := (cell_of_row _ _ 3 _ _ _ (HH.out w7 HW7.out)).trans rfl
              cases hw : wordB s with
              | false =>
                go_wp2_with fail
                refine (op_any s _).mono ?_
                rintro e w8 ⟨rfl, hbq⟩
                have HW8 : Hid (Below Wh.heap.size Wh w8) := Lib.hid (bl_tr HW7.out hbq)
                have HB8 : Hid (Below W1.heap.size W1 w8) := Lib.hid (bl_tr HB7.out hbq)
                clear hbq
                have ew8_0 : w8.cell? ⟨w.heap.size, 0, none⟩ = some (.int .i64 k) := (cell_of_row _ _ 0 _ _ _ (HR.out w8 HB8.out)).trans rfl
                have ew8_2 : w8.cell? ⟨w.heap.size, 2, none⟩ = some (.string s) := (cell_of_row _ _ 2 _ _ _ (HR.out w8 HB8.out)).trans rfl
                have ew8_3 : w8.cell? ⟨w.heap.size, 3, none⟩ = some (.int .i64 m) := (cell_of_row _ _ 3 _ _ _ (HR.out w8 HB8.out)).trans rfl
                have hw8_0 : w8.cell? ⟨w6.heap.size, 0, none⟩ = some (.int .i64 n1) := (cell_of_row _ _ 0 _ _ _ (HH.out w8 HW8.out)).trans rfl
                have hw8_1 : w8.cell? ⟨w6.heap.size, 1, none⟩ = some (.int .i64 n2) := (cell_of_row _ _ 1 _ _ _ (HH.out w8 HW8.out)).trans rfl
                have hw8_2 : w8.cell? ⟨w6.heap.size, 2, none⟩ = some (.int .i64 n3) := (cell_of_row _ _ 2 _ _ _ (HH.out w8 HW8.out)).trans rfl
                have hw8_3 : w8.cell? ⟨w6.heap.size, 3, none⟩ = some (.int .i64 n4) := (cell_of_row _ _ 3 _ _ _ (HH.out w8 HW8.out)).trans rfl
                cases ho : opB s with
                | false =>
                  go_wp2_with fail
                  all_goals (go_ret; refine ⟨ret_b ?_, bl_tr HW1.out HB8.out⟩; rw [HD2.out]; first | (simp [exK2, *]; done) | (simp [exK2, *]; intros; omega))
                | true =>
                  go_wp2_with fail
                  all_goals (go_ret; refine ⟨ret_b ?_, bl_tr HW1.out HB8.out⟩; rw [HD2.out]; first | (simp [exK2, *]; done) | (simp [exK2, *]; intros; omega))
              | true =>
                go_wp2_with fail
                all_goals (go_ret; refine ⟨ret_b ?_, bl_tr HW1.out HB7.out⟩; rw [HD2.out]; first | (simp [exK2, *]; done) | (simp [exK2, *]; intros; omega))
theorem rightExpr_any (D : Ex) (cs : List Value) (left : Int) (w : World) (hl : 0 ≤ left ∧ left ≤ 400) (hcnt : cntEx D ≤ 100000) (hD : ExC (mem w) D cs) : Calls Try.prog 78 #[.agg cs.toArray, .int .i64 left] w (RightV (rEx D left) w) := by
  have h : ∀ m : Nat, ∀ (D : Ex) (cs : List Value) (left : Int) (w : World), SizeOf.sizeOf D < m → 0 ≤ left ∧ left ≤ 400 → cntEx D ≤ 100000 → ExC (mem w) D cs → Calls Try.prog 78 #[.agg cs.toArray, .int .i64 left] w (RightV (rEx D left) w) := fun m => by
    induction m with
    | zero => intro D cs left w h; omega
    | succ m ih => exact fun D cs left w hm hl hc hD => rightExpr_of D cs left w hl hc hD (fun D' hD' hc' cs' left' W hl' hC => ih D' cs' left' W (by omega) hl' hc' hC)
  exact h _ D cs left w (Nat.lt_succ_self _) hl hcnt hD

set_option maxRecDepth 100000 in
set_option maxHeartbeats 4000000 in
theorem RightExpr_any (D : Ex) (cs : List Value) (w : World) (hcnt : cntEx D ≤ 100000) (hD : ExC (mem w) D cs) : Calls Try.prog 40 #[.agg cs.toArray] w (RightV (rEx D 400) w) := by
  have hC := hD.ok
  have IE := Lib.hid (show (Try.prog.info? 93).map (·.size) = some cs.length from by rw [hC.1]; kernel_rfl)
  have RR := Lib.hid (range_new w 93 cs)
  have HC := Lib.hid (fun (W : World) (hW : Below w.heap.size w W) => rightExpr_any D cs 400 W (by omega) hcnt (hD.mono (mem_below hW)))
  clear hD hC
  go_enter Try.func40, Try.ntmps40
  go_wp2_with (((with_reducible refine at_ld 3 ?_); refine wpList_load_mid rfl 93 (.tmp 1) rfl w.heap.size 0 rfl cs _ RR.out Try.underlying93 rfl IE.out ?_))
  refine (HC.out _ (bl1 w _)).mono ?_
  rintro e w2 ⟨rfl, hb3⟩
  have HB := Lib.hid (bl_tr (bl1 w _) hb3)
  clear hb3
  go_wp2_with fail
  go_ret
  exact ⟨rfl, HB.out⟩
theorem enters_RightExpr : Enters Try.prog 40 := enters_any Try.func40 (by kernel_rfl) (by kernel_rfl)
end Go.Proofs.Ytfeghobfkgimfaa
