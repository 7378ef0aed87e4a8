/- What declarations that stand within an expression may be. -/
import Derived.Test.YtfeghobfkgimfaaRigB
namespace Go.Proofs.Ytfeghobfkgimfaa
set_option linter.unusedSimpArgs false
set_option linter.unusedVariables false
open Go.RowKit Go.Shelf

def zTy : Ty := .mk 0 0 ⟨#[]⟩ []
def zEx : Ex := .mk 0 0 ⟨#[]⟩ 0 [] [] [] []
theorem zTy_c (m : Mem) : TyC m zTy [.int .i64 0, .int .i64 0, .string { data := #[] }, .slice none 0 0] := TyC.of ⟨none, 0, fun _ => [], rfl, ⟨Nat.le_refl _, Nat.zero_le _⟩, fun h => absurd h (by simp), fun i h => absurd h (by simp)⟩ (Nat.zero_le _)
theorem zEx_c (m : Mem) : ExC m zEx [.int .i64 0, .int .i64 0, .string { data := #[] }, .int .i64 0, .slice none 0 0, .slice none 0 0, .slice none 0 0, .slice none 0 0] :=
  ExC.of ⟨none, 0, fun _ => [], rfl, ⟨Nat.le_refl _, Nat.zero_le _⟩, fun h => absurd h (by simp), fun i h => absurd h (by simp)⟩ ⟨none, 0, fun _ => [], rfl, ⟨Nat.le_refl _, Nat.zero_le _⟩, fun h => absurd h (by simp), fun i h => absurd h (by simp)⟩
    ⟨none, 0, fun _ => [], rfl, ⟨Nat.le_refl _, Nat.zero_le _⟩, fun h => absurd h (by simp), fun i h => absurd h (by simp)⟩ ⟨none, 0, fun _ => [], rfl, ⟨Nat.le_refl _, Nat.zero_le _⟩, fun h => absurd h (by simp), fun i h => absurd h (by simp)⟩ (Nat.zero_le _)
def deK (k : Int) (s : ByteArray) (bare rt nb nt : Bool) (np : Int) (rp re : Bool) : Bool := if k == 1 then false else if k == 2 then bare && wordB s && rt && nb && np == 0 else k == 3 && bare && wordB s && nt && decide (np ≤ 16) && rp && re
def exK (k : Int) (s : ByteArray) (n a p l d : Int) : Bool :=
  if k == 1 then (wordB s || opB s) && n == 0 && (a == 0 && p == 0 && l == 0 && d == 0)
  else if k == 2 then conB s && n == 0 && (a == 0 && p == 0 && l == 0 && d == 0)
  else if k == 3 || k == 4 || k == 5 then litB k s n && (a == 0 && p == 0 && l == 0 && d == 0)
  else if k == 6 then (s.toList == [] && n == 0) && (a == 2 && p == 0 && l == 0 && d == 0)
  else if k == 7 then (s.toList == [] && n == 0) && (a == 1 && l == 0 && d == 0) && decide (1 ≤ p) && decide (p ≤ 16)
  else if k == 8 then (s.toList == [] && n == 0) && (a == 1 && p == 0 && l == 0)
  else if k == 9 then (s.toList == [] && n == 0) && (a == 3 && p == 0 && l == 0 && d == 0)
  else k == 10 && (s.toList == [] && n == 0) && (a == 1 && p == 0 && d == 0) && decide (1 ≤ l) && decide (l ≤ 512)
mutual
def rEx : Ex → Int → Bool
  | .mk k _ s n args pats alts decls, left => !decide (left < 1) && rPts pats 400 && (decide ((decls.length : Int) ≤ 512) && rDes decls (left - 1)) && rExs args (left - 1) && rAls alts (left - 1) && exK k s n args.length pats.length alts.length decls.length
def rExs : List Ex → Int → Bool
  | [], _ => true
  | e :: l, left => rEx e left && rExs l left
def rAls : List Al → Int → Bool
  | [], _ => true
  | .mk p b :: l, left => (rPt p 400 && rEx b left) && rAls l left
def rDes : List De → Int → Bool
  | [], _ => true
  | .mk k _ s vars cons ty pats body :: l, left => deK k s ((vars.length : Int) + (cons.length : Int) == 0) (rTy ty 400) (sameEx body zEx) (sameTy ty zTy) pats.length (rPts pats 400) (rEx body left) && rDes l left
end
def rDe (D : De) (left : Int) : Bool := rDes [D] left
def rAl (D : Al) (left : Int) : Bool := rPt D.pat 400 && rEx D.body left
theorem rDe_mk (k a : Int) (s : ByteArray) (vars : List ByteArray) (cons : List Co) (ty : Ty) (pats : List Pt) (body : Ex) (left : Int) :
    rDe (.mk k a s vars cons ty pats body) left = deK k s ((vars.length : Int) + (cons.length : Int) == 0) (rTy ty 400) (sameEx body zEx) (sameTy ty zTy) pats.length (rPts pats 400) (rEx body left) := by
  rw [rDe, rDes, rDes, Bool.and_true]
theorem rDes_all (l : List De) (left : Int) : rDes l left = l.all (fun d => rDe d left) := by
  induction l with
  | nil => rfl
  | cons x l ih => obtain ⟨k, a, s, vars, cons, ty, pats, body⟩ := x; rw [rDes, List.all_cons, ih, rDe_mk]
theorem rExs_all (l : List Ex) (left : Int) : rExs l left = l.all (fun d => rEx d left) := by
  induction l with
  | nil => rfl
  | cons x l ih => rw [rExs, List.all_cons, ih]
theorem rAls_all (l : List Al) (left : Int) : rAls l left = l.all (fun d => rAl d left) := by
  induction l with
  | nil => rfl
  | cons x l ih => obtain ⟨p, b⟩ := x; rw [rAls, List.all_cons, ih]; rfl

def De.cons : De → List Co
  | .mk _ _ _ _ c _ _ _ => c
set_option maxRecDepth 100000 in
set_option maxHeartbeats 8000000 in
theorem rightDecl_of (D : De) (cs : List Value) (left : Int) (w : World) (hnc0 : D.cons.length ≤ 100000) (hD : DeC (mem w) D cs)
    (ihE : ∀ cs' W, ExC (mem W) D.body cs' → Calls Try.prog 78 #[.agg cs'.toArray, .int .i64 left] W (RightV (rEx D.body left) W)) :
    Calls Try.prog 124 #[.agg cs.toArray, .bool false, .int .i64 left] w (RightV (rDe D left) w) := by
  obtain ⟨k, a, s, vars, cons, ty, pats, body⟩ := D
  obtain ⟨vv, vc, vp, ct, cb, rfl, hv, ⟨hs1, hs2, hs3, hs4⟩, hcs, ht, hp, hb⟩ := hD.inv
  have hdef := rDe_mk k a s vars cons ty pats body left
  obtain ⟨t0, t1, t2, t3, rfl⟩ := len4 ht.len
  obtain ⟨b0, b1, b2, b3, b4, b5, b6, b7, rfl⟩ := len8 hb.len
  have hW0 := bl1 w (.cells ([.int .i64 k, .int .i64 a, .string s, vv, vc] ++ [t0, t1, t2, t3] ++ [vp] ++ [b0, b1, b2, b3, b4, b5, b6, b7]).toArray 171)
  obtain ⟨W0, eW0⟩ : ∃ W0, w.alloc (.cells ([.int .i64 k, .int .i64 a, .string s, vv, vc] ++ [t0, t1, t2, t3] ++ [vp] ++ [b0, b1, b2, b3, b4, b5, b6, b7]).toArray 171) = W0 := ⟨_, rfl⟩
  have hk0 := bk_new w 171 ([.int .i64 k, .int .i64 a, .string s, vv, vc] ++ [t0, t1, t2, t3] ++ [vp] ++ [b0, b1, b2, b3, b4, b5, b6, b7]).toArray _ rfl
  rw [eW0] at hW0 hk0
  have HON := Lib.hid (fun (W : World) (hW : Below W0.heap.size W0 W) => once_any vars vv W (hv.mono (mem_below (bl_tr hW0 hW))) hs2 hs3)
  have HWD := Lib.hid (fun (W : World) (hW : Below W0.heap.size W0 W) => everyStr vars vv W hs3 (hv.mono (mem_below (bl_tr hW0 hW))))
  have HEC := Lib.hid (fun (W : World) (hW : Below W0.heap.size W0 W) => everyCo cons vc W hs4 (hcs.mono (mem_below (bl_tr hW0 hW))))
  have HRT := Lib.hid (fun (W : World) (hW : Below W0.heap.size W0 W) => RightType_any ty _ W (ht.mono (mem_below (bl_tr hW0 hW))))
  have HRP := Lib.hid (fun (W : World) (hW : Below W0.heap.size W0 W) => everyPt pats vp W (hp.mono (mem_below (bl_tr hW0 hW))))
  have HRE := Lib.hid (fun (W : World) (hW : Below W0.heap.size W0 W) => ihE _ W (hb.mono (mem_below (bl_tr hW0 hW))))
  have HST := Lib.hid (fun (W : World) (hW : Below W0.heap.size W0 W) => sameTy_any _ ty zTy _ _ W (Nat.lt_succ_self _) (ht.mono (mem_below (bl_tr hW0 hW))) (zTy_c _))
  have HSE := Lib.hid (fun (W : World) (hW : Below W0.heap.size W0 W) => sameEx_any body zEx _ _ W (hb.mono (mem_below (bl_tr hW0 hW))) (zEx_c _))
  have hok := hD.ok
  obtain ⟨A3, cv, rfl, hvc, _⟩ := hv
  obtain ⟨A4, cc, _, rfl, hcc, _⟩ := hcs
  obtain ⟨A5, cp, _, rfl, hpc, _⟩ := hp
  have HS := Lib.hid hs1
  simp only [De.body] at HRE
  obtain ⟨nv, hnv⟩ : ∃ n, n = vars.length := ⟨_, rfl⟩
  obtain ⟨nc, hnc⟩ : ∃ n, n = cons.length := ⟨_, rfl⟩
  obtain ⟨np, hnp⟩ : ∃ n, n = pats.length := ⟨_, rfl⟩
  have hnv1 : nv ≤ 9223372036854775807 / 2 := by omega
  have hnc1 : nc ≤ 100000 := by simp only [De.cons] at hnc0; omega
  clear hnc0
  rw [← hnv] at HON HWD eW0 hk0 hdef; rw [← hnc] at HEC eW0 hk0 hdef; rw [← hnp] at HRP eW0 hk0 hdef
  rw [← hnv, ← hnc, ← hnp]
  obtain ⟨rt, hrt⟩ : ∃ r, r = rTy ty 400 := ⟨_, rfl⟩
  obtain ⟨nb, hnb⟩ : ∃ r, r = sameEx body zEx := ⟨_, rfl⟩
  obtain ⟨nt, hnt⟩ : ∃ r, r = sameTy ty zTy := ⟨_, rfl⟩
  obtain ⟨rp, hrp⟩ : ∃ r, r = rPts pats 400 := ⟨_, rfl⟩
  obtain ⟨re, hre⟩ : ∃ r, r = rEx body left := ⟨_, rfl⟩
  rw [← hrt] at HRT hdef; rw [← hnb] at HSE hdef; rw [← hnt] at HST hdef; rw [← hrp] at HRP hdef; rw [← hre] at HRE hdef
  have HD := Lib.hid hdef
  simp only [List.cons_append, List.nil_append] at eW0 hk0
  have HW0 := Lib.hid hW0; have HK0 := Lib.hid hk0
  have HSZ : Hid (W0.heap.size = w.heap.size + 1) := Lib.hid (by rw [← eW0]; simp)
  have HR : Hid (∀ w', Below W0.heap.size W0 w' → Blk w' w.heap.size 171 #[.int .i64 k, .int .i64 a, .string s, .slice A3 nv cv, .slice A4 nc cc, t0, t1, t2, t3, .slice A5 np cp, b0, b1, b2, b3, b4, b5, b6, b7]) := Lib.hid (fun w' hw' => bk_below HK0.out hw')
  have R5 : Hid (∀ w', Below W0.heap.size W0 w' → w'.rangeAt w.heap.size 5 [t0, t1, t2, t3]) := Lib.hid (fun w' hw' => rg_left (b := [.slice A5 np cp, b0, b1, b2, b3, b4, b5, b6, b7]) (rg_right (a := [.int .i64 k, .int .i64 a, .string s, .slice A3 nv cv, .slice A4 nc cc]) (n := 5) (o := 0) (fun j v hv => by rw [Nat.zero_add, cell_of_row w' _ _ _ _ _ (HR.out w' hw'), List.getElem?_toArray]; exact hv) rfl))
  have R10 : Hid (∀ w', Below W0.heap.size W0 w' → w'.rangeAt w.heap.size 10 [b0, b1, b2, b3, b4, b5, b6, b7]) := Lib.hid (fun w' hw' => rg_right (a := [.int .i64 k, .int .i64 a, .string s, .slice A3 nv cv, .slice A4 nc cc, t0, t1, t2, t3, .slice A5 np cp]) (n := 10) (o := 0) (fun j v hv => by rw [Nat.zero_add, cell_of_row w' _ _ _ _ _ (HR.out w' hw'), List.getElem?_toArray]; exact hv) rfl)
  have IT := Lib.hid (show (Try.prog.info? 167).map (·.size) = some ([t0, t1, t2, t3] : List Value).length from Try.riType)
  have IE := Lib.hid (show (Try.prog.info? 93).map (·.size) = some ([b0, b1, b2, b3, b4, b5, b6, b7] : List Value).length from Try.riExpr)
  have wz : IntKind.i64.wrap ((nv : Int) + (nc : Int)) = (nv : Int) + (nc : Int) := IntWalk.i64_in _ (by omega)
  clear hW0 hk0 hdef hrt hnb hnt hrp hre hnv hnc hnp hD ihE ht hb hok hs1 hs2 hs3 hs4 hvc hcc hpc
  simp only [List.cons_append, List.nil_append]
  go_enter Try.func124, Try.ntmps124
  go_wp2_with fail
  try rw [eW0]
  clear eW0
  refine wp_region_held_drew (S := fun w' => Below W0.heap.size W0 w') (by kernel_rfl) (Below.drew (Below.refl _ _)) (fun hHeld => ?_)
  refine wpAnyH_take (i := 0) (v := ?_) rfl (by kernel_rfl) (by kernel_rfl) (by kernel_rfl) (fun _ _ _ h => h) (Or.inl ⟨by rfl, ?_⟩) hHeld ?_
  rotate_left
  · (intro wS hSw; (try dsimp only at hSw); go_simp; try with_reducible rfl)
  (try simp only [Act.put, List.getElem_toArray, List.getElem_cons_zero, List.getElem_cons_succ, List.setIfInBounds_toArray, List.set_cons_zero, List.set_cons_succ])
  refine wpAnyH_take (i := 1) rfl (by kernel_rfl) (by kernel_rfl) (by kernel_rfl) (fun _ _ _ h => h) (yieldsIf_load_mid (by rfl) 167 (.tmp 12) rfl w.heap.size (5) rfl ([t0, t1, t2, t3]) _ R5.out Try.underlying167 rfl IT.out) hHeld ?_
  (try simp only [Act.put, List.getElem_toArray, List.getElem_cons_zero, List.getElem_cons_succ, List.setIfInBounds_toArray, List.set_cons_zero, List.set_cons_succ])
  refine wpAnyH_take (i := 2) (v := ?_) rfl (by kernel_rfl) (by kernel_rfl) (by kernel_rfl) (fun _ _ _ h => h) (Or.inl ⟨by rfl, ?_⟩) hHeld ?_
  rotate_left
  · (intro wS hSw; (try dsimp only at hSw); go_simp; try with_reducible rfl)
  (try simp only [Act.put, List.getElem_toArray, List.getElem_cons_zero, List.getElem_cons_succ, List.setIfInBounds_toArray, List.set_cons_zero, List.set_cons_succ])
  refine wpAnyH_take (i := 4) (v := ?_) rfl (by kernel_rfl) (by kernel_rfl) (by kernel_rfl) (fun _ _ _ h => h) (Or.inl ⟨by rfl, ?_⟩) hHeld ?_
  rotate_left
  · (intro wS hSw; (try dsimp only at hSw); go_simp; try with_reducible rfl)
  (try simp only [Act.put, List.getElem_toArray, List.getElem_cons_zero, List.getElem_cons_succ, List.setIfInBounds_toArray, List.set_cons_zero, List.set_cons_succ])
  refine wpAnyH_take (i := 5) rfl (by kernel_rfl) (by kernel_rfl) (by kernel_rfl) (fun _ _ _ h => h) (yieldsIf_load_mid (by rfl) 93 (.tmp 16) rfl w.heap.size (10) rfl ([b0, b1, b2, b3, b4, b5, b6, b7]) _ R10.out Try.underlying93 rfl IE.out) hHeld ?_
  (try simp only [Act.put, List.getElem_toArray, List.getElem_cons_zero, List.getElem_cons_succ, List.setIfInBounds_toArray, List.set_cons_zero, List.set_cons_succ])
  refine wpAnyH_take (i := 6) (v := ?_) rfl (by kernel_rfl) (by kernel_rfl) (by kernel_rfl) (fun _ _ _ h => h) (Or.inl ⟨by rfl, ?_⟩) hHeld ?_
  rotate_left
  · (intro wS hSw; (try dsimp only at hSw); go_simp; try with_reducible rfl)
  (try simp only [Act.put, List.getElem_toArray, List.getElem_cons_zero, List.getElem_cons_succ, List.setIfInBounds_toArray, List.set_cons_zero, List.set_cons_succ])
  refine wpAnyH_ready (rs := [3]) (by kernel_rfl) (by simp) ?_
  refine AllReadyH.cons rfl (fun K hK => ?_) AllReadyH.nil
  (try simp only [List.getElem_toArray, List.getElem_cons_zero, List.getElem_cons_succ, List.setIfInBounds_toArray, List.set_cons_zero, List.set_cons_succ])
  try go_simp
  refine (HST.out _ (Below.drew (Below.refl _ _))).mono ?_; rintro e w2 ⟨rfl, hbq⟩; have HB2 : Hid (Below W0.heap.size W0 w2) := Lib.hid (bl_tr (Below.drew (Below.refl _ _)) hbq); clear hbq
  try go_simp
  refine hK.out _ _ ?_ (fun hHeld => ?_)
  · exact HB2.out
  (try simp only [Act.put, List.getElem_toArray, List.getElem_cons_zero, List.getElem_cons_succ, List.setIfInBounds_toArray, List.set_cons_zero, List.set_cons_succ])
  refine wpAnyH_ready (rs := [7]) (by kernel_rfl) (by simp) ?_
  refine AllReadyH.cons rfl (fun K hK => ?_) AllReadyH.nil
  (try simp only [List.getElem_toArray, List.getElem_cons_zero, List.getElem_cons_succ, List.setIfInBounds_toArray, List.set_cons_zero, List.set_cons_succ])
  try go_simp
  refine (HSE.out _ (HB2.out)).mono ?_; rintro e w3 ⟨rfl, hbq⟩; have HB3 : Hid (Below W0.heap.size W0 w3) := Lib.hid (bl_tr (HB2.out) hbq); clear hbq
  try go_simp
  refine hK.out _ _ ?_ (fun hHeld => ?_)
  · exact HB3.out
  (try simp only [Act.put, List.getElem_toArray, List.getElem_cons_zero, List.getElem_cons_succ, List.setIfInBounds_toArray, List.set_cons_zero, List.set_cons_succ])
  refine wpAnyH_take (i := 8) (v := ?_) rfl (by kernel_rfl) (by kernel_rfl) (by kernel_rfl) (fun _ _ _ h => h) (Or.inl ⟨by rfl, ?_⟩) hHeld ?_
  rotate_left
  · (intro wS hSw; (try dsimp only at hSw); go_simp; try with_reducible rfl)
  (try simp only [Act.put, List.getElem_toArray, List.getElem_cons_zero, List.getElem_cons_succ, List.setIfInBounds_toArray, List.set_cons_zero, List.set_cons_succ])
  refine wpAnyH_take (i := 9) (v := ?_) rfl (by kernel_rfl) (by kernel_rfl) (by kernel_rfl) (fun _ _ _ h => h) (Or.inl ⟨by rfl, ?_⟩) hHeld ?_
  rotate_left
  · (intro wS hSw; (try dsimp only at hSw); go_simp; try with_reducible rfl)
  (try simp only [Act.put, List.getElem_toArray, List.getElem_cons_zero, List.getElem_cons_succ, List.setIfInBounds_toArray, List.set_cons_zero, List.set_cons_succ])
  refine wpAnyH_done (by kernel_rfl) ?_ _
  have f1_0 : w3.cell? ⟨w.heap.size, 0, none⟩ = some (.int .i64 k) := (cell_of_row _ _ 0 _ _ _ (HR.out w3 HB3.out)).trans rfl
  have f1_2 : w3.cell? ⟨w.heap.size, 2, none⟩ = some (.string s) := (cell_of_row _ _ 2 _ _ _ (HR.out w3 HB3.out)).trans rfl
  have f1_3 : w3.cell? ⟨w.heap.size, 3, none⟩ = some (.slice A3 nv cv) := (cell_of_row _ _ 3 _ _ _ (HR.out w3 HB3.out)).trans rfl
  have f1_4 : w3.cell? ⟨w.heap.size, 4, none⟩ = some (.slice A4 nc cc) := (cell_of_row _ _ 4 _ _ _ (HR.out w3 HB3.out)).trans rfl
  have f1_9 : w3.cell? ⟨w.heap.size, 9, none⟩ = some (.slice A5 np cp) := (cell_of_row _ _ 9 _ _ _ (HR.out w3 HB3.out)).trans rfl
  cases h1 : k == 1 with
  | false =>
    cases h2 : k == 2 with
    | false =>
      cases h3 : k == 3 with
      | false =>
        go_wp2_with fail
        go_ret
        exact ⟨ret_b (by rw [HD.out]; simp [deK, *]), bl_tr HW0.out HB3.out⟩
      | true =>
        cases hbare : ((nv : Int) + (nc : Int) == 0) with
        | false =>
          go_wp2_with fail
          go_ret
          exact ⟨ret_b (by rw [HD.out]; simp [deK, *]), bl_tr HW0.out HB3.out⟩
        | true =>
          go_wp2_with fail
          refine (word_any s _ HS.out).mono ?_
          rintro e w4 ⟨rfl, hbq⟩
          have HB4 : Hid (Below W0.heap.size W0 w4) := Lib.hid (bl_tr HB3.out hbq)
          clear hbq
          have f15_0 : w4.cell? ⟨w.heap.size, 0, none⟩ = some (.int .i64 k) := (cell_of_row _ _ 0 _ _ _ (HR.out w4 HB4.out)).trans rfl
          have f15_2 : w4.cell? ⟨w.heap.size, 2, none⟩ = some (.string s) := (cell_of_row _ _ 2 _ _ _ (HR.out w4 HB4.out)).trans rfl
          have f15_3 : w4.cell? ⟨w.heap.size, 3, none⟩ = some (.slice A3 nv cv) := (cell_of_row _ _ 3 _ _ _ (HR.out w4 HB4.out)).trans rfl
          have f15_4 : w4.cell? ⟨w.heap.size, 4, none⟩ = some (.slice A4 nc cc) := (cell_of_row _ _ 4 _ _ _ (HR.out w4 HB4.out)).trans rfl
          have f15_9 : w4.cell? ⟨w.heap.size, 9, none⟩ = some (.slice A5 np cp) := (cell_of_row _ _ 9 _ _ _ (HR.out w4 HB4.out)).trans rfl
          cases hwd : wordB s with
          | false =>
            go_wp2_with fail
            go_ret
            exact ⟨ret_b (by rw [HD.out]; simp [deK, *]), bl_tr HW0.out HB4.out⟩
          | true =>
            cases hnt : nt with
            | false =>
              go_wp2_with fail
              go_ret
              exact ⟨ret_b (by rw [HD.out]; simp [deK, *]), bl_tr HW0.out HB4.out⟩
            | true =>
              by_cases hnp : (np : Int) ≤ 16
              · have hnpb : decide ((np : Int) ≤ 16) = true := by simp only [hnp, decide_true]
                go_wp2_with fail
                refine (HRP.out _ HB4.out).mono ?_
                rintro e w5 ⟨rfl, hbq⟩
                have HB5 : Hid (Below W0.heap.size W0 w5) := Lib.hid (bl_tr HB4.out hbq)
                clear hbq
                have f14_0 : w5.cell? ⟨w.heap.size, 0, none⟩ = some (.int .i64 k) := (cell_of_row _ _ 0 _ _ _ (HR.out w5 HB5.out)).trans rfl
                have f14_2 : w5.cell? ⟨w.heap.size, 2, none⟩ = some (.string s) := (cell_of_row _ _ 2 _ _ _ (HR.out w5 HB5.out)).trans rfl
                have f14_3 : w5.cell? ⟨w.heap.size, 3, none⟩ = some (.slice A3 nv cv) := (cell_of_row _ _ 3 _ _ _ (HR.out w5 HB5.out)).trans rfl
                have f14_4 : w5.cell? ⟨w.heap.size, 4, none⟩ = some (.slice A4 nc cc) := (cell_of_row _ _ 4 _ _ _ (HR.out w5 HB5.out)).trans rfl
                have f14_9 : w5.cell? ⟨w.heap.size, 9, none⟩ = some (.slice A5 np cp) := (cell_of_row _ _ 9 _ _ _ (HR.out w5 HB5.out)).trans rfl
                cases hrp : rp with
                | false =>
                  go_wp2_with fail
                  go_ret
                  exact ⟨ret_b (by rw [HD.out]; simp [deK, *]), bl_tr HW0.out HB5.out⟩
                | true =>
                  have f12_10 : w5.cell? ⟨w.heap.size, 10, none⟩ = some (b0) := (cell_of_row _ _ 10 _ _ _ (HR.out w5 HB5.out)).trans rfl
                  have f12_11 : w5.cell? ⟨w.heap.size, 11, none⟩ = some (b1) := (cell_of_row _ _ 11 _ _ _ (HR.out w5 HB5.out)).trans rfl
                  have f12_12 : w5.cell? ⟨w.heap.size, 12, none⟩ = some (b2) := (cell_of_row _ _ 12 _ _ _ (HR.out w5 HB5.out)).trans rfl
                  have f12_13 : w5.cell? ⟨w.heap.size, 13, none⟩ = some (b3) := (cell_of_row _ _ 13 _ _ _ (HR.out w5 HB5.out)).trans rfl
                  have f12_14 : w5.cell? ⟨w.heap.size, 14, none⟩ = some (b4) := (cell_of_row _ _ 14 _ _ _ (HR.out w5 HB5.out)).trans rfl
                  have f12_15 : w5.cell? ⟨w.heap.size, 15, none⟩ = some (b5) := (cell_of_row _ _ 15 _ _ _ (HR.out w5 HB5.out)).trans rfl
                  have f12_16 : w5.cell? ⟨w.heap.size, 16, none⟩ = some (b6) := (cell_of_row _ _ 16 _ _ _ (HR.out w5 HB5.out)).trans rfl
                  have f12_17 : w5.cell? ⟨w.heap.size, 17, none⟩ = some (b7) := (cell_of_row _ _ 17 _ _ _ (HR.out w5 HB5.out)).trans rfl
                  go_wp2_with fail
                  refine (HRE.out _ HB5.out).mono ?_
                  rintro e w6 ⟨rfl, hbq⟩
                  have HB6 : Hid (Below W0.heap.size W0 w6) := Lib.hid (bl_tr HB5.out hbq)
                  clear hbq
                  have f13_0 : w6.cell? ⟨w.heap.size, 0, none⟩ = some (.int .i64 k) := (cell_of_row _ _ 0 _ _ _ (HR.out w6 HB6.out)).trans rfl
                  have f13_2 : w6.cell? ⟨w.heap.size, 2, none⟩ = some (.string s) := (cell_of_row _ _ 2 _ _ _ (HR.out w6 HB6.out)).trans rfl
                  have f13_3 : w6.cell? ⟨w.heap.size, 3, none⟩ = some (.slice A3 nv cv) := (cell_of_row _ _ 3 _ _ _ (HR.out w6 HB6.out)).trans rfl
                  have f13_4 : w6.cell? ⟨w.heap.size, 4, none⟩ = some (.slice A4 nc cc) := (cell_of_row _ _ 4 _ _ _ (HR.out w6 HB6.out)).trans rfl
                  have f13_9 : w6.cell? ⟨w.heap.size, 9, none⟩ = some (.slice A5 np cp) := (cell_of_row _ _ 9 _ _ _ (HR.out w6 HB6.out)).trans rfl
                  go_wp2_with fail
                  go_ret
                  exact ⟨ret_b (by rw [HD.out]; simp [deK, *]), bl_tr HW0.out HB6.out⟩
              · have hnpb : decide ((np : Int) ≤ 16) = false := by simp only [hnp, decide_false]
                have hnpc : 16 < (np : Int) := by omega
                go_wp2_with fail
                go_ret
                exact ⟨ret_b (by rw [HD.out]; simp [deK, *]), bl_tr HW0.out HB4.out⟩
    | true =>
      cases hbare : ((nv : Int) + (nc : Int) == 0) with
      | false =>
        go_wp2_with fail
        go_ret
        exact ⟨ret_b (by rw [HD.out]; simp [deK, *]), bl_tr HW0.out HB3.out⟩
      | true =>
        go_wp2_with fail
        refine (word_any s _ HS.out).mono ?_
        rintro e w4 ⟨rfl, hbq⟩
        have HB4 : Hid (Below W0.heap.size W0 w4) := Lib.hid (bl_tr HB3.out hbq)
        clear hbq
        have f11_0 : w4.cell? ⟨w.heap.size, 0, none⟩ = some (.int .i64 k) := (cell_of_row _ _ 0 _ _ _ (HR.out w4 HB4.out)).trans rfl
        have f11_2 : w4.cell? ⟨w.heap.size, 2, none⟩ = some (.string s) := (cell_of_row _ _ 2 _ _ _ (HR.out w4 HB4.out)).trans rfl
        have f11_3 : w4.cell? ⟨w.heap.size, 3, none⟩ = some (.slice A3 nv cv) := (cell_of_row _ _ 3 _ _ _ (HR.out w4 HB4.out)).trans rfl
        have f11_4 : w4.cell? ⟨w.heap.size, 4, none⟩ = some (.slice A4 nc cc) := (cell_of_row _ _ 4 _ _ _ (HR.out w4 HB4.out)).trans rfl
        have f11_9 : w4.cell? ⟨w.heap.size, 9, none⟩ = some (.slice A5 np cp) := (cell_of_row _ _ 9 _ _ _ (HR.out w4 HB4.out)).trans rfl
        cases hwd : wordB s with
        | false =>
          go_wp2_with fail
          go_ret
          exact ⟨ret_b (by rw [HD.out]; simp [deK, *]), bl_tr HW0.out HB4.out⟩
        | true =>
          have f9_5 : w4.cell? ⟨w.heap.size, 5, none⟩ = some (t0) := (cell_of_row _ _ 5 _ _ _ (HR.out w4 HB4.out)).trans rfl
          have f9_6 : w4.cell? ⟨w.heap.size, 6, none⟩ = some (t1) := (cell_of_row _ _ 6 _ _ _ (HR.out w4 HB4.out)).trans rfl
          have f9_7 : w4.cell? ⟨w.heap.size, 7, none⟩ = some (t2) := (cell_of_row _ _ 7 _ _ _ (HR.out w4 HB4.out)).trans rfl
          have f9_8 : w4.cell? ⟨w.heap.size, 8, none⟩ = some (t3) := (cell_of_row _ _ 8 _ _ _ (HR.out w4 HB4.out)).trans rfl
          go_wp2_with fail
          refine (HRT.out _ HB4.out).mono ?_
          rintro e w5 ⟨rfl, hbq⟩
          have HB5 : Hid (Below W0.heap.size W0 w5) := Lib.hid (bl_tr HB4.out hbq)
          clear hbq
          have f10_0 : w5.cell? ⟨w.heap.size, 0, none⟩ = some (.int .i64 k) := (cell_of_row _ _ 0 _ _ _ (HR.out w5 HB5.out)).trans rfl
          have f10_2 : w5.cell? ⟨w.heap.size, 2, none⟩ = some (.string s) := (cell_of_row _ _ 2 _ _ _ (HR.out w5 HB5.out)).trans rfl
          have f10_3 : w5.cell? ⟨w.heap.size, 3, none⟩ = some (.slice A3 nv cv) := (cell_of_row _ _ 3 _ _ _ (HR.out w5 HB5.out)).trans rfl
          have f10_4 : w5.cell? ⟨w.heap.size, 4, none⟩ = some (.slice A4 nc cc) := (cell_of_row _ _ 4 _ _ _ (HR.out w5 HB5.out)).trans rfl
          have f10_9 : w5.cell? ⟨w.heap.size, 9, none⟩ = some (.slice A5 np cp) := (cell_of_row _ _ 9 _ _ _ (HR.out w5 HB5.out)).trans rfl
          cases hrt : rt with
          | false =>
            go_wp2_with fail
            go_ret
            exact ⟨ret_b (by rw [HD.out]; simp [deK, *]), bl_tr HW0.out HB5.out⟩
          | true =>
            cases hnb : nb with
            | false =>
              go_wp2_with fail
              go_ret
              exact ⟨ret_b (by rw [HD.out]; simp [deK, *]), bl_tr HW0.out HB5.out⟩
            | true =>
              go_wp2_with fail
              go_ret
              exact ⟨ret_b (by rw [HD.out]; simp [deK, *]), bl_tr HW0.out HB5.out⟩
  | true =>
    by_cases hc1 : 1 ≤ (nc : Int)
    · have hc1b : decide (1 ≤ (nc : Int)) = true := by simp only [hc1, decide_true]
      by_cases hc2 : (nc : Int) ≤ 32
      · have hc2b : decide ((nc : Int) ≤ 32) = true := by simp only [hc2, decide_true]
        go_wp2_with fail
        refine (HEC.out _ HB3.out).mono ?_
        rintro e w4 ⟨rfl, hbq⟩
        have HB4 : Hid (Below W0.heap.size W0 w4) := Lib.hid (bl_tr HB3.out hbq)
        clear hbq
        have f2_0 : w4.cell? ⟨w.heap.size, 0, none⟩ = some (.int .i64 k) := (cell_of_row _ _ 0 _ _ _ (HR.out w4 HB4.out)).trans rfl
        have f2_2 : w4.cell? ⟨w.heap.size, 2, none⟩ = some (.string s) := (cell_of_row _ _ 2 _ _ _ (HR.out w4 HB4.out)).trans rfl
        have f2_3 : w4.cell? ⟨w.heap.size, 3, none⟩ = some (.slice A3 nv cv) := (cell_of_row _ _ 3 _ _ _ (HR.out w4 HB4.out)).trans rfl
        have f2_4 : w4.cell? ⟨w.heap.size, 4, none⟩ = some (.slice A4 nc cc) := (cell_of_row _ _ 4 _ _ _ (HR.out w4 HB4.out)).trans rfl
        have f2_9 : w4.cell? ⟨w.heap.size, 9, none⟩ = some (.slice A5 np cp) := (cell_of_row _ _ 9 _ _ _ (HR.out w4 HB4.out)).trans rfl
        by_cases hv1 : (nv : Int) ≤ 16
        · have hv1b : decide ((nv : Int) ≤ 16) = true := by simp only [hv1, decide_true]
          go_wp2_with fail
          refine (HON.out _ HB4.out).mono ?_
          rintro e v1 ⟨r1, rfl, hbq⟩
          have HV1 : Hid (Below W0.heap.size W0 v1) := Lib.hid (bl_tr HB4.out hbq)
          clear hbq
          have f3_0 : v1.cell? ⟨w.heap.size, 0, none⟩ = some (.int .i64 k) := (cell_of_row _ _ 0 _ _ _ (HR.out v1 HV1.out)).trans rfl
          have f3_2 : v1.cell? ⟨w.heap.size, 2, none⟩ = some (.string s) := (cell_of_row _ _ 2 _ _ _ (HR.out v1 HV1.out)).trans rfl
          have f3_3 : v1.cell? ⟨w.heap.size, 3, none⟩ = some (.slice A3 nv cv) := (cell_of_row _ _ 3 _ _ _ (HR.out v1 HV1.out)).trans rfl
          have f3_4 : v1.cell? ⟨w.heap.size, 4, none⟩ = some (.slice A4 nc cc) := (cell_of_row _ _ 4 _ _ _ (HR.out v1 HV1.out)).trans rfl
          have f3_9 : v1.cell? ⟨w.heap.size, 9, none⟩ = some (.slice A5 np cp) := (cell_of_row _ _ 9 _ _ _ (HR.out v1 HV1.out)).trans rfl
          cases r1 with
          | false =>
            go_wp2_with fail
            go_ret
            exact ⟨ret_b (by rw [HD.out]; simp [deK, *]), bl_tr HW0.out HV1.out⟩
          | true =>
            go_wp2_with fail
            refine (HWD.out _ HV1.out).mono ?_
            rintro e u1 ⟨rfl, hbq⟩
            have HU1 : Hid (Below W0.heap.size W0 u1) := Lib.hid (bl_tr HV1.out hbq)
            clear hbq
            have f4_0 : u1.cell? ⟨w.heap.size, 0, none⟩ = some (.int .i64 k) := (cell_of_row _ _ 0 _ _ _ (HR.out u1 HU1.out)).trans rfl
            have f4_2 : u1.cell? ⟨w.heap.size, 2, none⟩ = some (.string s) := (cell_of_row _ _ 2 _ _ _ (HR.out u1 HU1.out)).trans rfl
            have f4_3 : u1.cell? ⟨w.heap.size, 3, none⟩ = some (.slice A3 nv cv) := (cell_of_row _ _ 3 _ _ _ (HR.out u1 HU1.out)).trans rfl
            have f4_4 : u1.cell? ⟨w.heap.size, 4, none⟩ = some (.slice A4 nc cc) := (cell_of_row _ _ 4 _ _ _ (HR.out u1 HU1.out)).trans rfl
            have f4_9 : u1.cell? ⟨w.heap.size, 9, none⟩ = some (.slice A5 np cp) := (cell_of_row _ _ 9 _ _ _ (HR.out u1 HU1.out)).trans rfl
            go_wp2_with fail
            go_ret
            exact ⟨ret_b (by rw [HD.out]; simp [deK, *]), bl_tr HW0.out HU1.out⟩
        · have hv1b : decide ((nv : Int) ≤ 16) = false := by simp only [hv1, decide_false]
          have hv1c : 16 < (nv : Int) := by omega
          go_wp2_with fail
          go_ret
          exact ⟨ret_b (by rw [HD.out]; simp [deK, *]), bl_tr HW0.out HB4.out⟩
      · have hc2b : decide ((nc : Int) ≤ 32) = false := by simp only [hc2, decide_false]
        have hc2c : 32 < (nc : Int) := by omega
        by_cases hv2 : (nv : Int) ≤ 16
        · have hv2b : decide ((nv : Int) ≤ 16) = true := by simp only [hv2, decide_true]
          go_wp2_with fail
          refine (HON.out _ HB3.out).mono ?_
          rintro e v2 ⟨r2, rfl, hbq⟩
          have HV2 : Hid (Below W0.heap.size W0 v2) := Lib.hid (bl_tr HB3.out hbq)
          clear hbq
          have f5_0 : v2.cell? ⟨w.heap.size, 0, none⟩ = some (.int .i64 k) := (cell_of_row _ _ 0 _ _ _ (HR.out v2 HV2.out)).trans rfl
          have f5_2 : v2.cell? ⟨w.heap.size, 2, none⟩ = some (.string s) := (cell_of_row _ _ 2 _ _ _ (HR.out v2 HV2.out)).trans rfl
          have f5_3 : v2.cell? ⟨w.heap.size, 3, none⟩ = some (.slice A3 nv cv) := (cell_of_row _ _ 3 _ _ _ (HR.out v2 HV2.out)).trans rfl
          have f5_4 : v2.cell? ⟨w.heap.size, 4, none⟩ = some (.slice A4 nc cc) := (cell_of_row _ _ 4 _ _ _ (HR.out v2 HV2.out)).trans rfl
          have f5_9 : v2.cell? ⟨w.heap.size, 9, none⟩ = some (.slice A5 np cp) := (cell_of_row _ _ 9 _ _ _ (HR.out v2 HV2.out)).trans rfl
          cases r2 with
          | false =>
            go_wp2_with fail
            go_ret
            exact ⟨ret_b (by rw [HD.out]; simp [deK, *]), bl_tr HW0.out HV2.out⟩
          | true =>
            go_wp2_with fail
            refine (HWD.out _ HV2.out).mono ?_
            rintro e u2 ⟨rfl, hbq⟩
            have HU2 : Hid (Below W0.heap.size W0 u2) := Lib.hid (bl_tr HV2.out hbq)
            clear hbq
            have f6_0 : u2.cell? ⟨w.heap.size, 0, none⟩ = some (.int .i64 k) := (cell_of_row _ _ 0 _ _ _ (HR.out u2 HU2.out)).trans rfl
            have f6_2 : u2.cell? ⟨w.heap.size, 2, none⟩ = some (.string s) := (cell_of_row _ _ 2 _ _ _ (HR.out u2 HU2.out)).trans rfl
            have f6_3 : u2.cell? ⟨w.heap.size, 3, none⟩ = some (.slice A3 nv cv) := (cell_of_row _ _ 3 _ _ _ (HR.out u2 HU2.out)).trans rfl
            have f6_4 : u2.cell? ⟨w.heap.size, 4, none⟩ = some (.slice A4 nc cc) := (cell_of_row _ _ 4 _ _ _ (HR.out u2 HU2.out)).trans rfl
            have f6_9 : u2.cell? ⟨w.heap.size, 9, none⟩ = some (.slice A5 np cp) := (cell_of_row _ _ 9 _ _ _ (HR.out u2 HU2.out)).trans rfl
            go_wp2_with fail
            go_ret
            exact ⟨ret_b (by rw [HD.out]; simp [deK, *]), bl_tr HW0.out HU2.out⟩
        · have hv2b : decide ((nv : Int) ≤ 16) = false := by simp only [hv2, decide_false]
          have hv2c : 16 < (nv : Int) := by omega
          go_wp2_with fail
          go_ret
          exact ⟨ret_b (by rw [HD.out]; simp [deK, *]), bl_tr HW0.out HB3.out⟩
    · have hc1b : decide (1 ≤ (nc : Int)) = false := by simp only [hc1, decide_false]
      have hc1c : (nc : Int) < 1 := by omega
      by_cases hv3 : (nv : Int) ≤ 16
      · have hv3b : decide ((nv : Int) ≤ 16) = true := by simp only [hv3, decide_true]
        go_wp2_with fail
        refine (HON.out _ HB3.out).mono ?_
        rintro e v3 ⟨r3, rfl, hbq⟩
        have HV3 : Hid (Below W0.heap.size W0 v3) := Lib.hid (bl_tr HB3.out hbq)
        clear hbq
        have f7_0 : v3.cell? ⟨w.heap.size, 0, none⟩ = some (.int .i64 k) := (cell_of_row _ _ 0 _ _ _ (HR.out v3 HV3.out)).trans rfl
        have f7_2 : v3.cell? ⟨w.heap.size, 2, none⟩ = some (.string s) := (cell_of_row _ _ 2 _ _ _ (HR.out v3 HV3.out)).trans rfl
        have f7_3 : v3.cell? ⟨w.heap.size, 3, none⟩ = some (.slice A3 nv cv) := (cell_of_row _ _ 3 _ _ _ (HR.out v3 HV3.out)).trans rfl
        have f7_4 : v3.cell? ⟨w.heap.size, 4, none⟩ = some (.slice A4 nc cc) := (cell_of_row _ _ 4 _ _ _ (HR.out v3 HV3.out)).trans rfl
        have f7_9 : v3.cell? ⟨w.heap.size, 9, none⟩ = some (.slice A5 np cp) := (cell_of_row _ _ 9 _ _ _ (HR.out v3 HV3.out)).trans rfl
        cases r3 with
        | false =>
          go_wp2_with fail
          go_ret
          exact ⟨ret_b (by rw [HD.out]; simp [deK, *]), bl_tr HW0.out HV3.out⟩
        | true =>
          go_wp2_with fail
          refine (HWD.out _ HV3.out).mono ?_
          rintro e u3 ⟨rfl, hbq⟩
          have HU3 : Hid (Below W0.heap.size W0 u3) := Lib.hid (bl_tr HV3.out hbq)
          clear hbq
          have f8_0 : u3.cell? ⟨w.heap.size, 0, none⟩ = some (.int .i64 k) := (cell_of_row _ _ 0 _ _ _ (HR.out u3 HU3.out)).trans rfl
          have f8_2 : u3.cell? ⟨w.heap.size, 2, none⟩ = some (.string s) := (cell_of_row _ _ 2 _ _ _ (HR.out u3 HU3.out)).trans rfl
          have f8_3 : u3.cell? ⟨w.heap.size, 3, none⟩ = some (.slice A3 nv cv) := (cell_of_row _ _ 3 _ _ _ (HR.out u3 HU3.out)).trans rfl
          have f8_4 : u3.cell? ⟨w.heap.size, 4, none⟩ = some (.slice A4 nc cc) := (cell_of_row _ _ 4 _ _ _ (HR.out u3 HU3.out)).trans rfl
          have f8_9 : u3.cell? ⟨w.heap.size, 9, none⟩ = some (.slice A5 np cp) := (cell_of_row _ _ 9 _ _ _ (HR.out u3 HU3.out)).trans rfl
          go_wp2_with fail
          go_ret
          exact ⟨ret_b (by rw [HD.out]; simp [deK, *]), bl_tr HW0.out HU3.out⟩
      · have hv3b : decide ((nv : Int) ≤ 16) = false := by simp only [hv3, decide_false]
        have hv3c : 16 < (nv : Int) := by omega
        go_wp2_with fail
        go_ret
        exact ⟨ret_b (by rw [HD.out]; simp [deK, *]), bl_tr HW0.out HB3.out⟩

set_option maxRecDepth 100000 in
set_option maxHeartbeats 4000000 in
theorem cl_Decl (C : List Value) (hC : Ok 18 C) (b1 b2 : Nat) (left : Int) (r : Bool) (w : World) (hb1 : w.cell? ⟨b1, 0, none⟩ = some (.bool false)) (hb2 : w.cell? ⟨b2, 0, none⟩ = some (.int .i64 left))
    (hcall : ∀ W, Below w.heap.size w W → Calls Try.prog 124 #[.agg C.toArray, .bool false, .int .i64 left] W (RightV r W)) : Calls Try.prog 123 #[.agg C.toArray, .pointer (some ⟨b1, 0, none⟩), .pointer (some ⟨b2, 0, none⟩)] w (RightV r w) := by
  have IE := Lib.hid (show (Try.prog.info? 171).map (·.size) = some C.length from by rw [hC.1]; kernel_rfl)
  have RR := Lib.hid (range_new w 171 C)
  have hc1 : ∀ o, (w.alloc o).cell? ⟨b1, 0, none⟩ = some (.bool false) := fun o => ((bl1 w o).cell (p := ⟨b1, 0, none⟩) (cell_lt hb1)).trans hb1
  have hc2 : ∀ o, (w.alloc o).cell? ⟨b2, 0, none⟩ = some (.int .i64 left) := fun o => ((bl1 w o).cell (p := ⟨b2, 0, none⟩) (cell_lt hb2)).trans hb2
  have HC := Lib.hid hcall
  clear hcall hC
  go_enter Try.func123, Try.ntmps123
  go_wp2_with (((with_reducible refine at_ld 5 ?_); refine wpList_load_mid rfl 171 (.tmp 3) rfl w.heap.size 0 rfl C _ RR.out Try.underlying171 rfl IE.out ?_))
  refine (HC.out _ (bl1 w _)).mono ?_
  rintro e w2 ⟨rfl, hb3⟩
  have HB := Lib.hid (bl_tr (bl1 w _) hb3)
  clear hb3
  go_wp2_with fail
  go_ret
  exact ⟨rfl, HB.out⟩
theorem enters_rightDecls1 : Enters Try.prog 123 := enters_any Try.func123 (by kernel_rfl) (by kernel_rfl)
theorem cons_le {D : De} {l : List De} (h : D ∈ l) (hc : cntDes l ≤ 100000) : D.cons.length ≤ 100000 := by
  obtain ⟨k, a, s, vars, cons, ty, pats, body⟩ := D
  have h1 := cntDes_mem h
  have h2 := len_cntCos cons
  simp only [De.cons]; omega
set_option maxRecDepth 100000 in
set_option maxHeartbeats 4000000 in
theorem rightDecls_of (l : List De) (v : Value) (left : Int) (w : World) (hcnt : cntDes l ≤ 100000) (hv : DesV (mem w) l v)
    (ihE : ∀ D ∈ l, ∀ cs' W, ExC (mem W) (De.body D) cs' → Calls Try.prog 78 #[.agg cs'.toArray, .int .i64 left] W (RightV (rEx (De.body D) left) W)) :
    Calls Try.prog 100 #[v, .bool false, .int .i64 left] w (RightV (decide ((l.length : Int) ≤ 512) && rDes l left) w) := by
  obtain ⟨A, c, C, rfl, hc, hA, hC⟩ := hv
  have hW0 := bl2 w (.cells #[.bool false] 4) (.cells #[.int .i64 left] 3)
  have hk1 : Blk ((w.alloc (.cells #[.bool false] 4)).alloc (.cells #[.int .i64 left] 3)) w.heap.size 4 #[.bool false] := bk_alloc (bk_new _ _ _ _ rfl) _
  have hk2 : Blk ((w.alloc (.cells #[.bool false] 4)).alloc (.cells #[.int .i64 left] 3)) (w.heap.size + 1) 3 #[.int .i64 left] := bk_new _ _ _ _ (by simp)
  have hev := every_Decl C A l.length c (fun i => if h : i < l.length then rDe l[i] left else true) 123 #[.pointer (some ⟨w.heap.size, 0, none⟩), .pointer (some ⟨w.heap.size + 1, 0, none⟩)] ((w.alloc (.cells #[.bool false] 4)).alloc (.cells #[.int .i64 left] 3)) enters_rightDecls1 (le_of hc) (hA.mono (mem_below hW0) (fun i hi => (hC i hi).len)) (fun i hi => (hC i hi).ok)
    (fun i hi W hW => by
      have h := cl_Decl (C i) (hC i hi).ok w.heap.size (w.heap.size + 1) left (if h : i < l.length then rDe l[i] left else true) W ((cell_of_row _ _ 0 _ _ _ (bk_below hk1 hW)).trans rfl) ((cell_of_row _ _ 0 _ _ _ (bk_below hk2 hW)).trans rfl) (fun W2 hW2 => by
        rw [dif_pos hi]
        exact rightDecl_of l[i] (C i) left W2 (cons_le (List.getElem_mem hi) hcnt) ((hC i hi).mono (mem_below (bl_tr (bl_tr hW0 hW) hW2))) (ihE l[i] (List.getElem_mem hi)))
      simpa using h)
  rw [allB_list l (fun d => rDe d left) _ (fun i hi => dif_pos hi), ← rDes_all] at hev
  have HEV := Lib.hid hev; have HW0 := Lib.hid hW0
  clear hev hW0 hk1 hk2 hA hC hc ihE
  obtain ⟨n, hn⟩ : ∃ n, n = l.length := ⟨_, rfl⟩
  rw [← hn] at HEV ⊢
  clear hn
  by_cases h1 : (n : Int) ≤ 512
  · go_enter Try.func100, Try.ntmps100
    go_wp2_with fail
    refine HEV.out.mono ?_
    rintro e w2 ⟨rfl, hb⟩
    have HB := Lib.hid (bl_tr HW0.out hb)
    clear hb
    go_wp2_with fail
    go_ret
    exact ⟨ret_b (by simp [h1]), HB.out⟩
  · have h1b : decide ((n : Int) ≤ 512) = false := by simp only [h1, decide_false]
    have h1c : 512 < (n : Int) := by omega
    go_enter Try.func100, Try.ntmps100
    go_wp2_with fail
    go_ret
    exact ⟨ret_b (by first | rfl | simp [h1b]), HW0.out⟩
end Go.Proofs.Ytfeghobfkgimfaa
