/- TreeSames answers true. -/
import Derived.Test.YtfeghobfkgimfaaGreatKnoA
import Derived.Test.YtfeghobfkgimfaaGreatTreeI
namespace Go.Proofs.YtfeghobfkgimfaaGreat
set_option linter.unusedSimpArgs false
set_option linter.unusedVariables false
open Go.RowKit Go.Shelf

/-- An expression that holds declarations alone. -/
def zD (l : List De) : Ex := .mk 0 0 ⟨#[]⟩ 0 [] [] [] l
theorem zD_c {m : Mem} {l : List De} {v : Value} (h : DesV m l v) : ExC m (zD l) [.int .i64 0, .int .i64 0, .string { data := #[] }, .int .i64 0, .slice none 0 0, .slice none 0 0, .slice none 0 0, v] := ExC.of (nilE m) (nilP m) (nilA m) h sz0
theorem row_of {W : World} {g : Nat} {t : TypeId} {sz : Nat} (Cs : List (List Value)) (hl : ∀ c ∈ Cs, c.length = sz) (h : W.heap[g]? = some (.cells Cs.flatten.toArray t (0, 0))) : SlAt (mem W) sz (some ⟨g, 0, none⟩) Cs.length (fun i => Cs.getD i []) := fun h0 => by
  have e1 : flat Cs.length (fun i => Cs.getD i []) = Cs.flatten := by
    unfold flat
    congr 1
    apply List.ext_getElem
    · simp
    · intro i h1 h2; simp [h2]
  refine ⟨g, 0, rfl, fun i hi j hj => ?_⟩
  have hl2 : ∀ i, i < Cs.length → ((fun i => Cs.getD i []) i).length = sz := fun i hi => by
    have e : Cs.getD i [] = Cs[i] := by simp [hi]
    show (Cs.getD i []).length = sz
    rw [e]; exact hl _ (List.getElem_mem hi)
  show W.cell? ⟨g, 0 + i * sz + j, none⟩ = _
  rw [cell_of_row W g _ _ _ _ h, Nat.zero_add, List.getElem?_toArray, ← e1]
  exact flat_at hl2 i j hi hj
theorem memX_le' {w : World} {X : Nat → Prop} : (memX w X).le (mem w) := memX_le
theorem TyC.own {w : World} {X : Nat → Prop} {D : Ty} {cs : List Value} (h : TyC (memX w X) D cs) : TyC (mem w) D cs := h.mono memX_le
theorem fewTys_two (T U : Ty) (z : Int) : fewTys [T, U] 600 = z → z ≤ 600 := fun h => h ▸ (fewTys_g [T, U] 600).1

set_option maxRecDepth 100000 in
set_option maxHeartbeats 16000000 in
theorem sames_any (T U : Ty) (Ee Ff : Ex) (L M : List De) (tc uc ec fc : List Value) (vl vm : Value) (w : World) (hT : TyC (mem w) T tc) (hU : TyC (mem w) U uc) (hE : ExC (mem w) Ee ec) (hF : ExC (mem w) Ff fc) (hL : DesV (mem w) L vl) (hM : DesV (mem w) M vm) :
    Calls Tryz.prog 3 #[.agg tc.toArray, .agg uc.toArray, .agg ec.toArray, .agg fc.toArray, vl, vm] w (RightV true w) := by
  obtain ⟨t0, t1, t2, t3, rfl⟩ := len4 hT.len
  obtain ⟨u0, u1, u2, u3, rfl⟩ := len4 hU.len
  have hE0 := hE; have hF0 := hF
  obtain ⟨ek, ea, es, en, eargs, epats, ealts, edecls, rfl⟩ : ∃ k a s n x p y z, Ee = .mk k a s n x p y z := by cases Ee; exact ⟨_, _, _, _, _, _, _, _, rfl⟩
  obtain ⟨fk, fa, fs, fn, fargs, fpats, falts, fdecls, rfl⟩ : ∃ k a s n x p y z, Ff = .mk k a s n x p y z := by cases Ff; exact ⟨_, _, _, _, _, _, _, _, rfl⟩
  obtain ⟨e4, e5, e6, e7, rfl, _, hEP, _, _⟩ := hE.inv
  obtain ⟨f4, f5, f6, f7, rfl, _, hFP, _, _⟩ := hF.inv
  obtain ⟨Ee, hEe⟩ : ∃ x, x = Ex.mk ek ea es en eargs epats ealts edecls := ⟨_, rfl⟩
  obtain ⟨Ff, hFf⟩ : ∃ x, x = Ex.mk fk fa fs fn fargs fpats falts fdecls := ⟨_, rfl⟩
  obtain ⟨nl, hnl⟩ : ∃ n, n = L.length := ⟨_, rfl⟩
  obtain ⟨nm, hnm⟩ : ∃ n, n = M.length := ⟨_, rfl⟩
  obtain ⟨Al, cl, rfl⟩ : ∃ A c, vl = .slice A L.length c := by obtain ⟨A, c, _, e, _⟩ := hL; exact ⟨A, c, e⟩
  obtain ⟨Am, cm, rfl⟩ : ∃ A c, vm = .slice A M.length c := by obtain ⟨A, c, _, e, _⟩ := hM; exact ⟨A, c, e⟩
  rw [← hnl] at hL ⊢; rw [← hnm] at hM ⊢
  clear hnl hnm
  have hpe : cntPts epats ≤ cntEx Ee := by rw [hEe, cntEx]; omega
  have hpf : cntPts fpats ≤ cntEx Ff := by rw [hFf, cntEx]; omega
  rw [← hEe] at hE hE0; rw [← hFf] at hF hF0
  clear hEe hFf hE0 hF0
  obtain ⟨Ae, ce, Ce, rfl, hce, hAe, hCe⟩ := hEP
  obtain ⟨Af, cf, Cf, rfl, hcf, hAf, hCf⟩ := hFP
  have hokE := hE.ok; have hokF := hF.ok; have hokT := hT.ok; have hokU := hU.ok
  obtain ⟨ne, hne⟩ : ∃ n, n = epats.length := ⟨_, rfl⟩
  obtain ⟨nf, hnf⟩ : ∃ n, n = fpats.length := ⟨_, rfl⟩
  have hAe' := hAe; have hAf' := hAf
  rw [← hne] at hAe' hE hokE hce ⊢; rw [← hnf] at hAf' hF hokF hcf ⊢
  have HNE := Lib.hid hne; have HNF := Lib.hid hnf
  have HAE := Lib.hid hAe'; have HAF := Lib.hid hAf'; have HCE := Lib.hid hCe; have HCF := Lib.hid hCf
  have O1 : Hid (∀ i, i < ne → (Ce i).length = 5) := Lib.hid (fun i hi => (hCe i (by rw [← hne]; exact hi)).len)
  have O2 : Hid (∀ i, i < nf → (Cf i).length = 5) := Lib.hid (fun i hi => (hCf i (by rw [← hnf]; exact hi)).len)
  have hne1 := le_of hce; have hnf1 := le_of hcf
  unfold maxLen at hne1 hnf1
  clear hAe hAf hAe' hAf' hCe hCf hce hcf hne hnf
  have hW1 := bl_al (bl_al (bl_al (bl1 w (.cells #[t0, t1, t2, t3] 24)) (.cells #[u0, u1, u2, u3] 24)) (.cells #[.int .i64 ek, .int .i64 ea, .string es, .int .i64 en, e4, .slice Ae ne ce, e6, e7] 30)) (.cells #[.int .i64 fk, .int .i64 fa, .string fs, .int .i64 fn, f4, .slice Af nf cf, f6, f7] 30)
  obtain ⟨W1, eW1⟩ : ∃ W1, ((((w.alloc (.cells #[t0, t1, t2, t3] 24)).alloc (.cells #[u0, u1, u2, u3] 24)).alloc (.cells #[.int .i64 ek, .int .i64 ea, .string es, .int .i64 en, e4, .slice Ae ne ce, e6, e7] 30)).alloc (.cells #[.int .i64 fk, .int .i64 fa, .string fs, .int .i64 fn, f4, .slice Af nf cf, f6, f7] 30)) = W1 := ⟨_, rfl⟩
  have k0 : Blk W1 (w.heap.size) 24 #[t0, t1, t2, t3] := by rw [← eW1]; exact bk_alloc (bk_alloc (bk_alloc (bk_new _ _ _ _ rfl) _) _) _
  have k1 : Blk W1 (w.heap.size + 1) 24 #[u0, u1, u2, u3] := by rw [← eW1]; exact bk_alloc (bk_alloc (bk_new _ _ _ _ (by simp)) _) _
  have k2 : Blk W1 (w.heap.size + 1 + 1) 30 #[.int .i64 ek, .int .i64 ea, .string es, .int .i64 en, e4, .slice Ae ne ce, e6, e7] := by rw [← eW1]; exact bk_alloc (bk_new _ _ _ _ (by simp)) _
  have k3 : Blk W1 (w.heap.size + 1 + 1 + 1) 30 #[.int .i64 fk, .int .i64 fa, .string fs, .int .i64 fn, f4, .slice Af nf cf, f6, f7] := by rw [← eW1]; exact bk_new _ _ _ _ (by simp)
  have HSZ : Hid (W1.heap.size = w.heap.size + 4) := Lib.hid (by rw [← eW1]; simp)
  rw [eW1] at hW1
  have HW1 := Lib.hid hW1; have HEW := Lib.hid eW1
  have HK0 : Hid (∀ w', Below W1.heap.size W1 w' → Blk w' (w.heap.size) 24 #[t0, t1, t2, t3]) := Lib.hid (fun w' hw' => bk_below k0 hw')
  have HK1 : Hid (∀ w', Below W1.heap.size W1 w' → Blk w' (w.heap.size + 1) 24 #[u0, u1, u2, u3]) := Lib.hid (fun w' hw' => bk_below k1 hw')
  have HK2 : Hid (∀ w', Below W1.heap.size W1 w' → Blk w' (w.heap.size + 1 + 1) 30 #[.int .i64 ek, .int .i64 ea, .string es, .int .i64 en, e4, .slice Ae ne ce, e6, e7]) := Lib.hid (fun w' hw' => bk_below k2 hw')
  have HK3 : Hid (∀ w', Below W1.heap.size W1 w' → Blk w' (w.heap.size + 1 + 1 + 1) 30 #[.int .i64 fk, .int .i64 fa, .string fs, .int .i64 fn, f4, .slice Af nf cf, f6, f7]) := Lib.hid (fun w' hw' => bk_below k3 hw')
  have GT : Hid (∀ w', Below W1.heap.size W1 w' → TyC (mem w') T [t0, t1, t2, t3]) := Lib.hid (fun w' hw' => hT.mono (mem_below (bl_tr hW1 hw')))
  have GU : Hid (∀ w', Below W1.heap.size W1 w' → TyC (mem w') U [u0, u1, u2, u3]) := Lib.hid (fun w' hw' => hU.mono (mem_below (bl_tr hW1 hw')))
  have GE : Hid (∀ w', Below W1.heap.size W1 w' → ExC (mem w') Ee [.int .i64 ek, .int .i64 ea, .string es, .int .i64 en, e4, .slice Ae ne ce, e6, e7]) := Lib.hid (fun w' hw' => hE.mono (mem_below (bl_tr hW1 hw')))
  have GF : Hid (∀ w', Below W1.heap.size W1 w' → ExC (mem w') Ff [.int .i64 fk, .int .i64 fa, .string fs, .int .i64 fn, f4, .slice Af nf cf, f6, f7]) := Lib.hid (fun w' hw' => hF.mono (mem_below (bl_tr hW1 hw')))
  have GL : Hid (∀ w', Below W1.heap.size W1 w' → DesV (mem w') L (.slice Al nl cl)) := Lib.hid (fun w' hw' => hL.mono (mem_below (bl_tr hW1 hw')))
  have GM : Hid (∀ w', Below W1.heap.size W1 w' → DesV (mem w') M (.slice Am nm cm)) := Lib.hid (fun w' hw' => hM.mono (mem_below (bl_tr hW1 hw')))
  have RR2 := Lib.hid (show W1.rangeAt (w.heap.size + 1 + 1) 0 [.int .i64 ek, .int .i64 ea, .string es, .int .i64 en, e4, .slice Ae ne ce, e6, e7] from fun j v hv => by rw [Nat.zero_add, cell_of_row W1 _ _ _ _ _ k2, List.getElem?_toArray]; exact hv)
  have RR3 := Lib.hid (show W1.rangeAt (w.heap.size + 1 + 1 + 1) 0 [.int .i64 fk, .int .i64 fa, .string fs, .int .i64 fn, f4, .slice Af nf cf, f6, f7] from fun j v hv => by rw [Nat.zero_add, cell_of_row W1 _ _ _ _ _ k3, List.getElem?_toArray]; exact hv)
  have IT := Lib.hid (show (Tryz.prog.info? 24).map (·.size) = some ([t0, t1, t2, t3] : List Value).length from Tryz.irT)
  have IU := Lib.hid (show (Tryz.prog.info? 24).map (·.size) = some ([u0, u1, u2, u3] : List Value).length from Tryz.irT)
  have IE := Lib.hid (show (Tryz.prog.info? 30).map (·.size) = some ([.int .i64 ek, .int .i64 ea, .string es, .int .i64 en, e4, .slice Ae ne ce, e6, e7] : List Value).length from Tryz.irE)
  have IF := Lib.hid (show (Tryz.prog.info? 30).map (·.size) = some ([.int .i64 fk, .int .i64 fa, .string fs, .int .i64 fn, f4, .slice Af nf cf, f6, f7] : List Value).length from Tryz.irE)
  -- the row that light looks at
  have hW2 := bl1 W1 (.cells #[.int .i64 ek, .int .i64 ea, .string es, .int .i64 en, e4, .slice Ae ne ce, e6, e7, .int .i64 fk, .int .i64 fa, .string fs, .int .i64 fn, f4, .slice Af nf cf, f6, f7, .int .i64 0, .int .i64 0, .string { data := #[] }, .int .i64 0, .slice none 0 0, .slice none 0 0, .slice none 0 0, .slice Al nl cl, .int .i64 0, .int .i64 0, .string { data := #[] }, .int .i64 0, .slice none 0 0, .slice none 0 0, .slice none 0 0, .slice Am nm cm] 30)
  have hrow : ExsV (mem (W1.alloc (.cells #[.int .i64 ek, .int .i64 ea, .string es, .int .i64 en, e4, .slice Ae ne ce, e6, e7, .int .i64 fk, .int .i64 fa, .string fs, .int .i64 fn, f4, .slice Af nf cf, f6, f7, .int .i64 0, .int .i64 0, .string { data := #[] }, .int .i64 0, .slice none 0 0, .slice none 0 0, .slice none 0 0, .slice Al nl cl, .int .i64 0, .int .i64 0, .string { data := #[] }, .int .i64 0, .slice none 0 0, .slice none 0 0, .slice none 0 0, .slice Am nm cm] 30))) [Ee, Ff, zD L, zD M] (.slice (some ⟨W1.heap.size, 0, none⟩) 4 4) := by
    refine ⟨_, 4, fun i => ([[.int .i64 ek, .int .i64 ea, .string es, .int .i64 en, e4, .slice Ae ne ce, e6, e7], [.int .i64 fk, .int .i64 fa, .string fs, .int .i64 fn, f4, .slice Af nf cf, f6, f7], [.int .i64 0, .int .i64 0, .string { data := #[] }, .int .i64 0, .slice none 0 0, .slice none 0 0, .slice none 0 0, .slice Al nl cl], [.int .i64 0, .int .i64 0, .string { data := #[] }, .int .i64 0, .slice none 0 0, .slice none 0 0, .slice none 0 0, .slice Am nm cm]] : List (List Value)).getD i [], rfl, ⟨Nat.le_refl _, by unfold maxLen; decide⟩, row_of (t := 30) [[.int .i64 ek, .int .i64 ea, .string es, .int .i64 en, e4, .slice Ae ne ce, e6, e7], [.int .i64 fk, .int .i64 fa, .string fs, .int .i64 fn, f4, .slice Af nf cf, f6, f7], [.int .i64 0, .int .i64 0, .string { data := #[] }, .int .i64 0, .slice none 0 0, .slice none 0 0, .slice none 0 0, .slice Al nl cl], [.int .i64 0, .int .i64 0, .string { data := #[] }, .int .i64 0, .slice none 0 0, .slice none 0 0, .slice none 0 0, .slice Am nm cm]] (by simp) (heap_alloc_new W1 _), fun i hi => ?_⟩
    match i, hi with
    | 0, _ => exact GE.out _ hW2
    | 1, _ => exact GF.out _ hW2
    | 2, _ => exact zD_c (GL.out _ hW2)
    | 3, _ => exact zD_c (GM.out _ hW2)
  have HLT := Lib.hid (light_any _ _ _ hrow)
  have hgone := fewExs_gone [Ee, Ff, zD L, zD M] 600
  obtain ⟨z1, hz1⟩ : ∃ z, z = fewExs [Ee, Ff, zD L, zD M] 600 := ⟨_, rfl⟩
  rw [← hz1] at HLT hgone
  have hbig : 0 ≤ z1 → cntEx Ee ≤ 600 ∧ cntEx Ff ≤ 600 ∧ cntDes L ≤ 600 ∧ cntDes M ≤ 600 := fun h0 => by
    have h1 := hgone.2 h0
    simp only [cntExs, zD, cntEx, cntPts, cntAls] at h1
    omega
  have HBIG := Lib.hid hbig
  have htg := fewTys_g [T, U] 600
  have htb : 0 ≤ fewTys [T, U] 600 → cntTys [T] ≤ 600 ∧ cntTys [U] ≤ 600 := fun h0 => by
    have h1 := htg.2 h0
    obtain ⟨_, _, _, _⟩ := T; obtain ⟨_, _, _, _⟩ := U
    simp only [cntTys] at h1 ⊢
    omega
  have hokR : ∀ v ∈ [.int .i64 ek, .int .i64 ea, .string es, .int .i64 en, e4, .slice Ae ne ce, e6, e7, .int .i64 fk, .int .i64 fa, .string fs, .int .i64 fn, f4, .slice Af nf cf, f6, f7, .int .i64 0, .int .i64 0, .string { data := #[] }, .int .i64 0, .slice none 0 0, .slice none 0 0, .slice none 0 0, .slice Al nl cl, .int .i64 0, .int .i64 0, .string { data := #[] }, .int .i64 0, .slice none 0 0, .slice none 0 0, .slice none 0 0, .slice Am nm cm], v.oneCell' = true := fun v hv => by
    have h3 : Ok 8 [.int .i64 0, .int .i64 0, .string { data := #[] }, .int .i64 0, .slice none 0 0, .slice none 0 0, .slice none 0 0, .slice Al nl cl] := (zD_c (GL.out _ (Below.refl _ _))).ok
    have h4 : Ok 8 [.int .i64 0, .int .i64 0, .string { data := #[] }, .int .i64 0, .slice none 0 0, .slice none 0 0, .slice none 0 0, .slice Am nm cm] := (zD_c (GM.out _ (Below.refl _ _))).ok
    exact (((hokE.app hokF).app h3).app h4).2 v (by simpa using hv)
  have HOKR := Lib.hid hokR
  clear hW1 k0 k1 k2 k3 hT hU hE hF hL hM hrow hgone hbig hz1 hokR hokE hokF hokT hokU eW1 htg hW2
  have HTB := Lib.hid htb
  have HPE := Lib.hid hpe; have HPF := Lib.hid hpf
  clear htb hpe hpf
  go_enter Tryz.func3, Tryz.ntmps3
  go_wp2_with (first | ((with_reducible refine at_ld 14 ?_); rw [HEW.out]; refine wpList_load_mid rfl 30 (.tmp 8) rfl (w.heap.size + 1 + 1) 0 rfl [.int .i64 ek, .int .i64 ea, .string es, .int .i64 en, e4, .slice Ae ne ce, e6, e7] _ RR2.out Tryz.underlying30 rfl IE.out ?_) | ((with_reducible refine at_ld 15 ?_); refine wpList_load_mid rfl 30 (.tmp 9) rfl (w.heap.size + 1 + 1 + 1) 0 rfl [.int .i64 fk, .int .i64 fa, .string fs, .int .i64 fn, f4, .slice Af nf cf, f6, f7] _ RR3.out Tryz.underlying30 rfl IF.out ?_))
  refine HLT.out.mono ?_
  rintro e w2 ⟨rfl, hb2⟩
  have HB2 : Hid (Below W1.heap.size W1 w2) := Lib.hid (bl_tr (bl1 W1 _) hb2)
  clear hb2
  have c0_0 : w2.cell? ⟨w.heap.size, 0, none⟩ = some t0 := (cell_of_row _ _ 0 _ _ _ (HK0.out w2 HB2.out)).trans rfl
  have c0_1 : w2.cell? ⟨w.heap.size, 1, none⟩ = some t1 := (cell_of_row _ _ 1 _ _ _ (HK0.out w2 HB2.out)).trans rfl
  have c0_2 : w2.cell? ⟨w.heap.size, 2, none⟩ = some t2 := (cell_of_row _ _ 2 _ _ _ (HK0.out w2 HB2.out)).trans rfl
  have c0_3 : w2.cell? ⟨w.heap.size, 3, none⟩ = some t3 := (cell_of_row _ _ 3 _ _ _ (HK0.out w2 HB2.out)).trans rfl
  have c1_0 : w2.cell? ⟨w.heap.size + 1, 0, none⟩ = some u0 := (cell_of_row _ _ 0 _ _ _ (HK1.out w2 HB2.out)).trans rfl
  have c1_1 : w2.cell? ⟨w.heap.size + 1, 1, none⟩ = some u1 := (cell_of_row _ _ 1 _ _ _ (HK1.out w2 HB2.out)).trans rfl
  have c1_2 : w2.cell? ⟨w.heap.size + 1, 2, none⟩ = some u2 := (cell_of_row _ _ 2 _ _ _ (HK1.out w2 HB2.out)).trans rfl
  have c1_3 : w2.cell? ⟨w.heap.size + 1, 3, none⟩ = some u3 := (cell_of_row _ _ 3 _ _ _ (HK1.out w2 HB2.out)).trans rfl
  cases hq : decide (0 ≤ z1) with
  | false =>
    go_wp2_with fail
    refine (knows_any _).mono ?_
    rintro e wk ⟨rfl, hbk⟩
    have HBK := Lib.hid (bl_tr HW1.out (bl_tr HB2.out hbk))
    clear hbk
    go_wp2_with fail
    go_ret
    exact ⟨rfl, HBK.out⟩
  | true =>
    have hz : 0 ≤ z1 := by simpa using hq
    have hbig := HBIG.out hz
    have HLim := Lib.hid hbig
    clear hbig
    have hr2 : TysV (mem (w2.alloc (.cells #[t0, t1, t2, t3, u0, u1, u2, u3] 24))) [T, U] (.slice (some ⟨w2.heap.size, 0, none⟩) 2 2) := by
      have hbb := bl_tr HB2.out (bl1 w2 (.cells #[t0, t1, t2, t3, u0, u1, u2, u3] 24))
      refine ⟨_, 2, fun i => ([[t0, t1, t2, t3], [u0, u1, u2, u3]] : List (List Value)).getD i [], rfl, ⟨Nat.le_refl _, by unfold maxLen; decide⟩, row_of (t := 24) [[t0, t1, t2, t3], [u0, u1, u2, u3]] (by simp) (heap_alloc_new w2 _), fun i hi => ?_⟩
      match i, hi with
      | 0, _ => exact GT.out _ hbb
      | 1, _ => exact GU.out _ hbb
    have HFT := Lib.hid (fewTys_any _ [T, U] (.slice (some ⟨w2.heap.size, 0, none⟩) 2 2) 600 _ (Nat.lt_succ_self _) (by decide) hr2)
    clear hr2
    obtain ⟨z2, hz2⟩ : ∃ z, z = fewTys [T, U] 600 := ⟨_, rfl⟩
    rw [← hz2] at HFT HTB
    clear hz2 hq
    go_wp2_with fail
    refine HFT.out.mono ?_
    rintro e w3 ⟨rfl, hb3⟩
    have HB3 : Hid (Below W1.heap.size W1 w3) := Lib.hid (bl_tr (bl_tr HB2.out (bl1 w2 _)) hb3)
    clear hb3 c0_0 c0_1 c0_2 c0_3 c1_0 c1_1 c1_2 c1_3
    by_cases hz2 : z2 < 0
    · have hz2b : decide (z2 < 0) = true := by simp [hz2]
      go_wp2_with fail
      refine (knows_any _).mono ?_
      rintro e wk ⟨rfl, hbk⟩
      have HBK := Lib.hid (bl_tr HW1.out (bl_tr HB3.out hbk))
      clear hbk
      go_wp2_with fail
      go_ret
      exact ⟨rfl, HBK.out⟩
    have hz2b : decide (z2 < 0) = false := by simp [hz2]
    have HTL := Lib.hid (HTB.out (by omega))
    have KT := Lib.hid (fun (W : World) (hW : Below W1.heap.size W1 W) => ownTy_any T [t0, t1, t2, t3] W (by have := HTL.out; omega) (GT.out W hW))
    have KU := Lib.hid (fun (W : World) (hW : Below W1.heap.size W1 W) => ownTy_any U [u0, u1, u2, u3] W (by have := HTL.out; omega) (GU.out W hW))
    have KE := Lib.hid (fun (W : World) (hW : Below W1.heap.size W1 W) => ownEx_any Ee [.int .i64 ek, .int .i64 ea, .string es, .int .i64 en, e4, .slice Ae ne ce, e6, e7] W (by have := HLim.out; omega) (GE.out W hW))
    have KF := Lib.hid (fun (W : World) (hW : Below W1.heap.size W1 W) => ownEx_any Ff [.int .i64 fk, .int .i64 fa, .string fs, .int .i64 fn, f4, .slice Af nf cf, f6, f7] W (by have := HLim.out; omega) (GF.out W hW))
    have KL := Lib.hid (fun (W : World) (hW : Below W1.heap.size W1 W) => ownDes_any L (.slice Al nl cl) W (by have := HLim.out; omega) (GL.out W hW))
    have KM := Lib.hid (fun (W : World) (hW : Below W1.heap.size W1 W) => ownDes_any M (.slice Am nm cm) W (by have := HLim.out; omega) (GM.out W hW))
    go_wp2_with fail
    go_loopg [13] ne (fun gk i wr => ∃ (j : Nat), j ≤ ne ∧ j ≤ nf ∧ gk = ne - j ∧ i = .int .i64 j ∧ Hid (Below W1.heap.size W1 wr))
    case atStart => exact ⟨0, Nat.zero_le _, Nat.zero_le _, rfl, rfl, HB3⟩
    case round =>
      obtain ⟨j, hj1, hj2, rfl, rfl, HBR⟩ := hrel
      have b2 : ∀ w', Below wr.heap.size wr w' → w'.cell? ⟨w.heap.size + 1 + 1, 5, none⟩ = some (.slice Ae ne ce) := fun w' hw' => (cell_of_row _ _ 5 _ _ _ (HK2.out w' (bl_tr HBR.out hw'))).trans rfl
      have b3 : ∀ w', Below wr.heap.size wr w' → w'.cell? ⟨w.heap.size + 1 + 1 + 1, 5, none⟩ = some (.slice Af nf cf) := fun w' hw' => (cell_of_row _ _ 5 _ _ _ (HK3.out w' (bl_tr HBR.out hw'))).trans rfl
      have d2 := b2 wr (Below.refl _ _)
      have d3 := b3 wr (Below.refl _ _)
      have hj0 : (0 : Int) ≤ (j : Int) := by omega
      by_cases h1 : j < ne
      · by_cases h2 : j < nf
        · have h1i : (j : Int) < (ne : Int) := by omega
          have h2i : (j : Int) < (nf : Int) := by omega
          obtain ⟨g, o, rfl, hc1⟩ := HAE.out (by omega)
          obtain ⟨g2, o2, rfl, hc2⟩ := HAF.out (by omega)
          have hjl : j < epats.length := by rw [← HNE.out]; exact h1
          have hjm : j < fpats.length := by rw [← HNF.out]; exact h2
          have hcp := HCE.out j hjl
          have hcq := HCF.out j hjm
          have r1 : ∀ w', Below wr.heap.size wr w' → w'.rangeAt g (o + j * 5) (Ce j) := fun w' hw' => range_at (bl_tr HW1.out (bl_tr HBR.out hw')) hc1 h1 (O1.out j h1)
          have r2 : ∀ w', Below wr.heap.size wr w' → w'.rangeAt g2 (o2 + j * 5) (Cf j) := fun w' hw' => range_at (bl_tr HW1.out (bl_tr HBR.out hw')) hc2 h2 (O2.out j h2)
          have hmp := cntPts_mem (List.getElem_mem hjl)
          have hmq := cntPts_mem (List.getElem_mem hjm)
          obtain ⟨px, hpx⟩ : ∃ x, x = epats[j] := ⟨_, rfl⟩
          obtain ⟨qx, hqx⟩ : ∃ x, x = fpats[j] := ⟨_, rfl⟩
          rw [← hpx] at hcp hmp; rw [← hqx] at hcq hmq
          obtain ⟨p0, p1, p2, p3, p4, ep⟩ := len5 hcp.len
          obtain ⟨q0, q1, q2, q3, q4, eq⟩ := len5 hcq.len
          rw [ep] at r1 hcp; rw [eq] at r2 hcq
          have hlim := HLim.out; have hpe := HPE.out; have hpf := HPF.out
          have HPX : Hid (PtC (mem wr) px [p0, p1, p2, p3, p4]) := Lib.hid (hcp.mono (mem_below (bl_tr HW1.out HBR.out)))
          have HQX : Hid (PtC (mem wr) qx [q0, q1, q2, q3, q4]) := Lib.hid (hcq.mono (mem_below (bl_tr HW1.out HBR.out)))
          have KP1 := Lib.hid (fun (W : World) (hW : Below wr.heap.size wr W) => ownPt_any px [p0, p1, p2, p3, p4] W (by omega) (HPX.out.mono (mem_below hW)))
          have KP2 := Lib.hid (fun (W : World) (hW : Below wr.heap.size wr W) => ownPt_any qx [q0, q1, q2, q3, q4] W (by omega) (HQX.out.mono (mem_below hW)))
          have RP1 := Lib.hid r1; have RP2 := Lib.hid r2
          have IP := Lib.hid (show (Tryz.prog.info? 40).map (·.size) = some ([p0, p1, p2, p3, p4] : List Value).length from Tryz.irP)
          have IQ := Lib.hid (show (Tryz.prog.info? 40).map (·.size) = some ([q0, q1, q2, q3, q4] : List Value).length from Tryz.irP)
          clear hc1 hc2 hcp hcq r1 r2 hmp hmq hpx hqx ep eq hlim hpe hpf
          go_wp2_with fail
          refine wp_region_held_drew (S := fun w' => Below wr.heap.size wr w') (by kernel_rfl) (Below.drew (Below.refl _ _)) (fun hHeld => ?_)
          refine wpAnyH_take (i := 0) (v := ?_) rfl (by kernel_rfl) (by kernel_rfl) (by kernel_rfl) (fun _ _ _ h => h) (Or.inl ⟨by rfl, ?_⟩) hHeld ?_
          rotate_left
          · (intro wS hSw; (try dsimp only at hSw); go_simp; try with_reducible rfl)
          (try simp only [Act.put, List.getElem_toArray, List.getElem_cons_zero, List.getElem_cons_succ, List.setIfInBounds_toArray, List.set_cons_zero, List.set_cons_succ])
          refine wpAnyH_take (i := 1) (v := ?_) rfl (by kernel_rfl) (by kernel_rfl) (by kernel_rfl) (fun _ _ _ h => h) (Or.inl ⟨by rfl, ?_⟩) hHeld ?_
          rotate_left
          · (intro wS hSw; (try dsimp only at hSw); go_simp; try with_reducible rfl)
          (try simp only [Act.put, List.getElem_toArray, List.getElem_cons_zero, List.getElem_cons_succ, List.setIfInBounds_toArray, List.set_cons_zero, List.set_cons_succ])
          refine wpAnyH_take (i := 2) (v := ?_) rfl (by kernel_rfl) (by kernel_rfl) (by kernel_rfl) (fun _ _ _ h => h) (Or.inl ⟨by rfl, ?_⟩) hHeld ?_
          rotate_left
          · (intro wS hSw; (try dsimp only at hSw); go_simp; try with_reducible rfl)
          (try simp only [Act.put, List.getElem_toArray, List.getElem_cons_zero, List.getElem_cons_succ, List.setIfInBounds_toArray, List.set_cons_zero, List.set_cons_succ])
          refine wpAnyH_take (i := 3) (v := ?_) rfl (by kernel_rfl) (by kernel_rfl) (by kernel_rfl) (fun _ _ _ h => h) (Or.inl ⟨by rfl, ?_⟩) hHeld ?_
          rotate_left
          · (intro wS hSw; (try dsimp only at hSw); go_simp; try with_reducible rfl)
          (try simp only [Act.put, List.getElem_toArray, List.getElem_cons_zero, List.getElem_cons_succ, List.setIfInBounds_toArray, List.set_cons_zero, List.set_cons_succ])
          refine wpAnyH_take (i := 4) rfl (by kernel_rfl) (by kernel_rfl) (by kernel_rfl) (fun _ _ _ h => h) (yieldsIf_load_mid (by rfl) 40 (.tmp 48) rfl g (o + j * 5) rfl ([p0, p1, p2, p3, p4]) _ RP1.out Tryz.underlying40 rfl IP.out) hHeld ?_
          (try simp only [Act.put, List.getElem_toArray, List.getElem_cons_zero, List.getElem_cons_succ, List.setIfInBounds_toArray, List.set_cons_zero, List.set_cons_succ])
          refine wpAnyH_take (i := 6) (v := ?_) rfl (by kernel_rfl) (by kernel_rfl) (by kernel_rfl) (fun _ _ _ h => h) (Or.inl ⟨by rfl, ?_⟩) hHeld ?_
          rotate_left
          · (intro wS hSw; (try dsimp only at hSw); go_simp; try with_reducible rfl)
          (try simp only [Act.put, List.getElem_toArray, List.getElem_cons_zero, List.getElem_cons_succ, List.setIfInBounds_toArray, List.set_cons_zero, List.set_cons_succ])
          refine wpAnyH_take (i := 7) (v := ?_) rfl (by kernel_rfl) (by kernel_rfl) (by kernel_rfl) (fun _ _ _ h => h) (Or.inl ⟨by rfl, ?_⟩) hHeld ?_
          rotate_left
          · (intro wS hSw; (try dsimp only at hSw); go_simp; try with_reducible rfl)
          (try simp only [Act.put, List.getElem_toArray, List.getElem_cons_zero, List.getElem_cons_succ, List.setIfInBounds_toArray, List.set_cons_zero, List.set_cons_succ])
          refine wpAnyH_take (i := 8) (v := ?_) rfl (by kernel_rfl) (by kernel_rfl) (by kernel_rfl) (fun _ _ _ h => h) (Or.inl ⟨by rfl, ?_⟩) hHeld ?_
          rotate_left
          · (intro wS hSw; (try dsimp only at hSw); go_simp; try with_reducible rfl)
          (try simp only [Act.put, List.getElem_toArray, List.getElem_cons_zero, List.getElem_cons_succ, List.setIfInBounds_toArray, List.set_cons_zero, List.set_cons_succ])
          refine wpAnyH_take (i := 9) (v := ?_) rfl (by kernel_rfl) (by kernel_rfl) (by kernel_rfl) (fun _ _ _ h => h) (Or.inl ⟨by rfl, ?_⟩) hHeld ?_
          rotate_left
          · (intro wS hSw; (try dsimp only at hSw); go_simp; try with_reducible rfl)
          (try simp only [Act.put, List.getElem_toArray, List.getElem_cons_zero, List.getElem_cons_succ, List.setIfInBounds_toArray, List.set_cons_zero, List.set_cons_succ])
          refine wpAnyH_take (i := 10) rfl (by kernel_rfl) (by kernel_rfl) (by kernel_rfl) (fun _ _ _ h => h) (yieldsIf_load_mid (by rfl) 40 (.tmp 54) rfl g2 (o2 + j * 5) rfl ([q0, q1, q2, q3, q4]) _ RP2.out Tryz.underlying40 rfl IQ.out) hHeld ?_
          (try simp only [Act.put, List.getElem_toArray, List.getElem_cons_zero, List.getElem_cons_succ, List.setIfInBounds_toArray, List.set_cons_zero, List.set_cons_succ])
          refine wpAnyH_take (i := 13) (v := ?_) rfl (by kernel_rfl) (by kernel_rfl) (by kernel_rfl) (fun _ _ _ h => h) (Or.inl ⟨by rfl, ?_⟩) hHeld ?_
          rotate_left
          · (intro wS hSw; (try dsimp only at hSw); go_simp; try with_reducible rfl)
          (try simp only [Act.put, List.getElem_toArray, List.getElem_cons_zero, List.getElem_cons_succ, List.setIfInBounds_toArray, List.set_cons_zero, List.set_cons_succ])
          refine wpAnyH_take (i := 14) (v := ?_) rfl (by kernel_rfl) (by kernel_rfl) (by kernel_rfl) (fun _ _ _ h => h) (Or.inl ⟨by rfl, ?_⟩) hHeld ?_
          rotate_left
          · (intro wS hSw; (try dsimp only at hSw); go_simp; try with_reducible rfl)
          (try simp only [Act.put, List.getElem_toArray, List.getElem_cons_zero, List.getElem_cons_succ, List.setIfInBounds_toArray, List.set_cons_zero, List.set_cons_succ])
          refine wpAnyH_take (i := 15) (v := ?_) rfl (by kernel_rfl) (by kernel_rfl) (by kernel_rfl) (fun _ _ _ h => h) (Or.inl ⟨by rfl, ?_⟩) hHeld ?_
          rotate_left
          · (intro wS hSw; (try dsimp only at hSw); go_simp; try with_reducible rfl)
          (try simp only [Act.put, List.getElem_toArray, List.getElem_cons_zero, List.getElem_cons_succ, List.setIfInBounds_toArray, List.set_cons_zero, List.set_cons_succ])
          refine wpAnyH_take (i := 16) (v := ?_) rfl (by kernel_rfl) (by kernel_rfl) (by kernel_rfl) (fun _ _ _ h => h) (Or.inl ⟨by rfl, ?_⟩) hHeld ?_
          rotate_left
          · (intro wS hSw; (try dsimp only at hSw); go_simp; try with_reducible rfl)
          (try simp only [Act.put, List.getElem_toArray, List.getElem_cons_zero, List.getElem_cons_succ, List.setIfInBounds_toArray, List.set_cons_zero, List.set_cons_succ])
          refine wpAnyH_take (i := 17) rfl (by kernel_rfl) (by kernel_rfl) (by kernel_rfl) (fun _ _ _ h => h) (yieldsIf_load_mid (by rfl) 40 (.tmp 61) rfl g (o + j * 5) rfl ([p0, p1, p2, p3, p4]) _ RP1.out Tryz.underlying40 rfl IP.out) hHeld ?_
          (try simp only [Act.put, List.getElem_toArray, List.getElem_cons_zero, List.getElem_cons_succ, List.setIfInBounds_toArray, List.set_cons_zero, List.set_cons_succ])
          refine wpAnyH_take (i := 18) (v := ?_) rfl (by kernel_rfl) (by kernel_rfl) (by kernel_rfl) (fun _ _ _ h => h) (Or.inl ⟨by rfl, ?_⟩) hHeld ?_
          rotate_left
          · (intro wS hSw; (try dsimp only at hSw); go_simp; try with_reducible rfl)
          (try simp only [Act.put, List.getElem_toArray, List.getElem_cons_zero, List.getElem_cons_succ, List.setIfInBounds_toArray, List.set_cons_zero, List.set_cons_succ])
          refine wpAnyH_take (i := 19) (v := ?_) rfl (by kernel_rfl) (by kernel_rfl) (by kernel_rfl) (fun _ _ _ h => h) (Or.inl ⟨by rfl, ?_⟩) hHeld ?_
          rotate_left
          · (intro wS hSw; (try dsimp only at hSw); go_simp; try with_reducible rfl)
          (try simp only [Act.put, List.getElem_toArray, List.getElem_cons_zero, List.getElem_cons_succ, List.setIfInBounds_toArray, List.set_cons_zero, List.set_cons_succ])
          refine wpAnyH_take (i := 20) (v := ?_) rfl (by kernel_rfl) (by kernel_rfl) (by kernel_rfl) (fun _ _ _ h => h) (Or.inl ⟨by rfl, ?_⟩) hHeld ?_
          rotate_left
          · (intro wS hSw; (try dsimp only at hSw); go_simp; try with_reducible rfl)
          (try simp only [Act.put, List.getElem_toArray, List.getElem_cons_zero, List.getElem_cons_succ, List.setIfInBounds_toArray, List.set_cons_zero, List.set_cons_succ])
          refine wpAnyH_take (i := 21) (v := ?_) rfl (by kernel_rfl) (by kernel_rfl) (by kernel_rfl) (fun _ _ _ h => h) (Or.inl ⟨by rfl, ?_⟩) hHeld ?_
          rotate_left
          · (intro wS hSw; (try dsimp only at hSw); go_simp; try with_reducible rfl)
          (try simp only [Act.put, List.getElem_toArray, List.getElem_cons_zero, List.getElem_cons_succ, List.setIfInBounds_toArray, List.set_cons_zero, List.set_cons_succ])
          refine wpAnyH_take (i := 22) rfl (by kernel_rfl) (by kernel_rfl) (by kernel_rfl) (fun _ _ _ h => h) (yieldsIf_load_mid (by rfl) 40 (.tmp 66) rfl g2 (o2 + j * 5) rfl ([q0, q1, q2, q3, q4]) _ RP2.out Tryz.underlying40 rfl IQ.out) hHeld ?_
          (try simp only [Act.put, List.getElem_toArray, List.getElem_cons_zero, List.getElem_cons_succ, List.setIfInBounds_toArray, List.set_cons_zero, List.set_cons_succ])
          refine wpAnyH_ready (rs := [5]) (by kernel_rfl) (by simp) ?_
          refine AllReadyH.cons rfl (fun K hK => ?_) AllReadyH.nil
          (try simp only [List.getElem_toArray, List.getElem_cons_zero, List.getElem_cons_succ, List.setIfInBounds_toArray, List.set_cons_zero, List.set_cons_succ])
          try go_simp
          refine (KP1.out _ (Below.drew (Below.refl _ _))).mono ?_; rintro e w2 ⟨cw2, rfl, hbq, hT⟩; have HB2 : Hid (Below wr.heap.size wr w2) := Lib.hid (bl_tr (Below.drew (Below.refl _ _)) hbq); have HT2 := Lib.hid hT; have HB2s : Hid ((wr.drew).heap.size ≤ w2.heap.size) := Lib.hid hbq.size; clear hbq hT
          try go_simp
          refine hK.out _ _ ?_ (fun hHeld => ?_)
          · exact HB2.out
          (try simp only [Act.put, List.getElem_toArray, List.getElem_cons_zero, List.getElem_cons_succ, List.setIfInBounds_toArray, List.set_cons_zero, List.set_cons_succ])
          refine wpAnyH_ready (rs := [11]) (by kernel_rfl) (by simp) ?_
          refine AllReadyH.cons rfl (fun K hK => ?_) AllReadyH.nil
          (try simp only [List.getElem_toArray, List.getElem_cons_zero, List.getElem_cons_succ, List.setIfInBounds_toArray, List.set_cons_zero, List.set_cons_succ])
          try go_simp
          refine (KP2.out _ (HB2.out)).mono ?_; rintro e w3 ⟨cw3, rfl, hbq, hT⟩; have HB3 : Hid (Below wr.heap.size wr w3) := Lib.hid (bl_tr (HB2.out) hbq); have HB23 : Hid (Below w2.heap.size w2 w3) := Lib.hid hbq; have HT3 := Lib.hid hT; have HB3s : Hid ((w2).heap.size ≤ w3.heap.size) := Lib.hid hbq.size; clear hbq hT
          try go_simp
          refine hK.out _ _ ?_ (fun hHeld => ?_)
          · exact HB3.out
          (try simp only [Act.put, List.getElem_toArray, List.getElem_cons_zero, List.getElem_cons_succ, List.setIfInBounds_toArray, List.set_cons_zero, List.set_cons_succ])
          refine wpAnyH_ready (rs := [12]) (by kernel_rfl) (by simp) ?_
          refine AllReadyH.cons rfl (fun K hK => ?_) AllReadyH.nil
          (try simp only [List.getElem_toArray, List.getElem_cons_zero, List.getElem_cons_succ, List.setIfInBounds_toArray, List.set_cons_zero, List.set_cons_succ])
          try go_simp
          refine (samePt_any _ px qx cw2 cw3 w3 (Nat.lt_succ_self _) ((HT2.out.mono memX_le).mono (mem_below HB23.out)) (HT3.out.mono memX_le)).mono ?_; rintro e w4 ⟨rfl, hbq⟩; have HB4 : Hid (Below wr.heap.size wr w4) := Lib.hid (bl_tr HB3.out hbq); clear hbq
          try go_simp
          refine hK.out _ _ ?_ (fun hHeld => ?_)
          · exact HB4.out
          (try simp only [Act.put, List.getElem_toArray, List.getElem_cons_zero, List.getElem_cons_succ, List.setIfInBounds_toArray, List.set_cons_zero, List.set_cons_succ])
          refine wpAnyH_ready (rs := [23]) (by kernel_rfl) (by simp) ?_
          refine AllReadyH.cons rfl (fun K hK => ?_) AllReadyH.nil
          (try simp only [List.getElem_toArray, List.getElem_cons_zero, List.getElem_cons_succ, List.setIfInBounds_toArray, List.set_cons_zero, List.set_cons_succ])
          try go_simp
          refine (rsPt_any _ px qx _ _ w4 (Nat.lt_succ_self _) (HPX.out.mono (mem_below HB4.out)) (HQX.out.mono (mem_below HB4.out))).mono ?_; rintro e w5 ⟨rfl, hbq⟩; have HB5 : Hid (Below wr.heap.size wr w5) := Lib.hid (bl_tr HB4.out hbq); clear hbq
          try go_simp
          refine hK.out _ _ ?_ (fun hHeld => ?_)
          · exact HB5.out
          (try simp only [Act.put, List.getElem_toArray, List.getElem_cons_zero, List.getElem_cons_succ, List.setIfInBounds_toArray, List.set_cons_zero, List.set_cons_succ])
          refine wpAnyH_take (i := 24) (v := ?_) rfl (by kernel_rfl) (by kernel_rfl) (by kernel_rfl) (fun _ _ _ h => h) (Or.inl ⟨by rfl, ?_⟩) hHeld ?_
          rotate_left
          · (intro wS hSw; (try dsimp only at hSw); go_simp; try with_reducible rfl)
          (try simp only [Act.put, List.getElem_toArray, List.getElem_cons_zero, List.getElem_cons_succ, List.setIfInBounds_toArray, List.set_cons_zero, List.set_cons_succ])
          refine wpAnyH_done (by kernel_rfl) ?_ _
          go_wp2_with fail
          go_roundg (ne - (j + 1))
          case measure => omega
          case rel => exact ⟨j + 1, by omega, by omega, rfl, by go_num, Lib.hid (bl_tr HBR.out HB5.out)⟩
        · have h1i : (j : Int) < (ne : Int) := by omega
          have h2i : (nf : Int) ≤ (j : Int) := by omega
          have R0 : Hid (∀ w', Below wr.heap.size wr w' → w'.rangeAt (w.heap.size) 0 [t0, t1, t2, t3]) := Lib.hid (fun w' hw' j v hv => by rw [Nat.zero_add, cell_of_row w' _ _ _ _ _ (HK0.out w' (bl_tr HBR.out hw')), List.getElem?_toArray]; exact hv)
          have R1 : Hid (∀ w', Below wr.heap.size wr w' → w'.rangeAt (w.heap.size + 1) 0 [u0, u1, u2, u3]) := Lib.hid (fun w' hw' j v hv => by rw [Nat.zero_add, cell_of_row w' _ _ _ _ _ (HK1.out w' (bl_tr HBR.out hw')), List.getElem?_toArray]; exact hv)
          have R2 : Hid (∀ w', Below wr.heap.size wr w' → w'.rangeAt (w.heap.size + 1 + 1) 0 [.int .i64 ek, .int .i64 ea, .string es, .int .i64 en, e4, .slice Ae ne ce, e6, e7]) := Lib.hid (fun w' hw' j v hv => by rw [Nat.zero_add, cell_of_row w' _ _ _ _ _ (HK2.out w' (bl_tr HBR.out hw')), List.getElem?_toArray]; exact hv)
          have R3 : Hid (∀ w', Below wr.heap.size wr w' → w'.rangeAt (w.heap.size + 1 + 1 + 1) 0 [.int .i64 fk, .int .i64 fa, .string fs, .int .i64 fn, f4, .slice Af nf cf, f6, f7]) := Lib.hid (fun w' hw' j v hv => by rw [Nat.zero_add, cell_of_row w' _ _ _ _ _ (HK3.out w' (bl_tr HBR.out hw')), List.getElem?_toArray]; exact hv)
          have CT : Hid (∀ w', Below wr.heap.size wr w' → TyC (mem w') T [t0, t1, t2, t3]) := Lib.hid (fun w' hw' => GT.out w' (bl_tr HBR.out hw'))
          have CU : Hid (∀ w', Below wr.heap.size wr w' → TyC (mem w') U [u0, u1, u2, u3]) := Lib.hid (fun w' hw' => GU.out w' (bl_tr HBR.out hw'))
          have CE : Hid (∀ w', Below wr.heap.size wr w' → ExC (mem w') Ee [.int .i64 ek, .int .i64 ea, .string es, .int .i64 en, e4, .slice Ae ne ce, e6, e7]) := Lib.hid (fun w' hw' => GE.out w' (bl_tr HBR.out hw'))
          have CF : Hid (∀ w', Below wr.heap.size wr w' → ExC (mem w') Ff [.int .i64 fk, .int .i64 fa, .string fs, .int .i64 fn, f4, .slice Af nf cf, f6, f7]) := Lib.hid (fun w' hw' => GF.out w' (bl_tr HBR.out hw'))
          have CL : Hid (∀ w', Below wr.heap.size wr w' → DesV (mem w') L (.slice Al nl cl)) := Lib.hid (fun w' hw' => GL.out w' (bl_tr HBR.out hw'))
          have CM : Hid (∀ w', Below wr.heap.size wr w' → DesV (mem w') M (.slice Am nm cm)) := Lib.hid (fun w' hw' => GM.out w' (bl_tr HBR.out hw'))
          obtain ⟨b1, hb1⟩ : ∃ b, b = sameTy T U := ⟨_, rfl⟩
          clear b2 b3
          go_wp2_with fail
          clear d2 d3
          refine wp_region_held_drew (S := fun w' => Below wr.heap.size wr w') (by kernel_rfl) (Below.drew (Below.refl _ _)) (fun hHeld => ?_)
          refine wpAnyH_take (i := 0) rfl (by kernel_rfl) (by kernel_rfl) (by kernel_rfl) (fun _ _ _ h => h) (yieldsIf_load_mid (by rfl) 24 (.tmp 6) rfl (w.heap.size) (0) rfl ([t0, t1, t2, t3]) _ R0.out Tryz.underlying24 rfl IT.out) hHeld ?_
          (try simp only [Act.put, List.getElem_toArray, List.getElem_cons_zero, List.getElem_cons_succ, List.setIfInBounds_toArray, List.set_cons_zero, List.set_cons_succ])
          refine wpAnyH_take (i := 2) rfl (by kernel_rfl) (by kernel_rfl) (by kernel_rfl) (fun _ _ _ h => h) (yieldsIf_load_mid (by rfl) 24 (.tmp 7) rfl (w.heap.size + 1) (0) rfl ([u0, u1, u2, u3]) _ R1.out Tryz.underlying24 rfl IU.out) hHeld ?_
          (try simp only [Act.put, List.getElem_toArray, List.getElem_cons_zero, List.getElem_cons_succ, List.setIfInBounds_toArray, List.set_cons_zero, List.set_cons_succ])
          refine wpAnyH_take (i := 5) rfl (by kernel_rfl) (by kernel_rfl) (by kernel_rfl) (fun _ _ _ h => h) (yieldsIf_load_mid (by rfl) 24 (.tmp 6) rfl (w.heap.size) (0) rfl ([t0, t1, t2, t3]) _ R0.out Tryz.underlying24 rfl IT.out) hHeld ?_
          (try simp only [Act.put, List.getElem_toArray, List.getElem_cons_zero, List.getElem_cons_succ, List.setIfInBounds_toArray, List.set_cons_zero, List.set_cons_succ])
          refine wpAnyH_take (i := 6) rfl (by kernel_rfl) (by kernel_rfl) (by kernel_rfl) (fun _ _ _ h => h) (yieldsIf_load_mid (by rfl) 24 (.tmp 7) rfl (w.heap.size + 1) (0) rfl ([u0, u1, u2, u3]) _ R1.out Tryz.underlying24 rfl IU.out) hHeld ?_
          (try simp only [Act.put, List.getElem_toArray, List.getElem_cons_zero, List.getElem_cons_succ, List.setIfInBounds_toArray, List.set_cons_zero, List.set_cons_succ])
          refine wpAnyH_ready (rs := [1]) (by kernel_rfl) (by simp) ?_
          refine AllReadyH.cons rfl (fun K hK => ?_) AllReadyH.nil
          (try simp only [List.getElem_toArray, List.getElem_cons_zero, List.getElem_cons_succ, List.setIfInBounds_toArray, List.set_cons_zero, List.set_cons_succ])
          try go_simp
          refine (KT.out _ (bl_tr HBR.out (Below.drew (Below.refl _ _)))).mono ?_; rintro e w2 ⟨cw2, rfl, hbq, hT⟩; have HB2 : Hid (Below wr.heap.size wr w2) := Lib.hid (bl_tr (Below.drew (Below.refl _ _)) hbq); have HT2 := Lib.hid (hT.mono memX_le); have HB2x := Lib.hid hbq; clear hbq hT
          try go_simp
          refine hK.out _ _ ?_ (fun hHeld => ?_)
          · exact HB2.out
          (try simp only [Act.put, List.getElem_toArray, List.getElem_cons_zero, List.getElem_cons_succ, List.setIfInBounds_toArray, List.set_cons_zero, List.set_cons_succ])
          refine wpAnyH_ready (rs := [3]) (by kernel_rfl) (by simp) ?_
          refine AllReadyH.cons rfl (fun K hK => ?_) AllReadyH.nil
          (try simp only [List.getElem_toArray, List.getElem_cons_zero, List.getElem_cons_succ, List.setIfInBounds_toArray, List.set_cons_zero, List.set_cons_succ])
          try go_simp
          refine (KU.out _ (bl_tr HBR.out (HB2.out))).mono ?_; rintro e w3 ⟨cw3, rfl, hbq, hT⟩; have HB3 : Hid (Below wr.heap.size wr w3) := Lib.hid (bl_tr (HB2.out) hbq); have HT3 := Lib.hid (hT.mono memX_le); have HB3x := Lib.hid hbq; clear hbq hT
          try go_simp
          refine hK.out _ _ ?_ (fun hHeld => ?_)
          · exact HB3.out
          (try simp only [Act.put, List.getElem_toArray, List.getElem_cons_zero, List.getElem_cons_succ, List.setIfInBounds_toArray, List.set_cons_zero, List.set_cons_succ])
          refine wpAnyH_ready (rs := [4]) (by kernel_rfl) (by simp) ?_
          refine AllReadyH.cons rfl (fun K hK => ?_) AllReadyH.nil
          (try simp only [List.getElem_toArray, List.getElem_cons_zero, List.getElem_cons_succ, List.setIfInBounds_toArray, List.set_cons_zero, List.set_cons_succ])
          try go_simp
          refine (sameTy_any _ T U cw2 cw3 w3 (Nat.lt_succ_self _) (HT2.out.mono (mem_below HB3x.out)) HT3.out).mono ?_; rintro e w4 ⟨rfl, hbq⟩; have HB4 : Hid (Below wr.heap.size wr w4) := Lib.hid (bl_tr HB3.out hbq); clear hbq
          try go_simp
          refine hK.out _ _ ?_ (fun hHeld => ?_)
          · exact HB4.out
          (try simp only [Act.put, List.getElem_toArray, List.getElem_cons_zero, List.getElem_cons_succ, List.setIfInBounds_toArray, List.set_cons_zero, List.set_cons_succ])
          refine wpAnyH_ready (rs := [7]) (by kernel_rfl) (by simp) ?_
          refine AllReadyH.cons rfl (fun K hK => ?_) AllReadyH.nil
          (try simp only [List.getElem_toArray, List.getElem_cons_zero, List.getElem_cons_succ, List.setIfInBounds_toArray, List.set_cons_zero, List.set_cons_succ])
          try go_simp
          refine (rsTy_any _ T U _ _ w4 (Nat.lt_succ_self _) (CT.out _ HB4.out) (CU.out _ HB4.out)).mono ?_; rintro e w5 ⟨rfl, hbq⟩; have HB5 : Hid (Below wr.heap.size wr w5) := Lib.hid (bl_tr HB4.out hbq); clear hbq
          try go_simp
          refine hK.out _ _ ?_ (fun hHeld => ?_)
          · exact HB5.out
          (try simp only [Act.put, List.getElem_toArray, List.getElem_cons_zero, List.getElem_cons_succ, List.setIfInBounds_toArray, List.set_cons_zero, List.set_cons_succ])
          refine wpAnyH_take (i := 8) (v := ?_) rfl (by kernel_rfl) (by kernel_rfl) (by kernel_rfl) (fun _ _ _ h => h) (Or.inl ⟨by rfl, ?_⟩) hHeld ?_
          rotate_left
          · (intro wS hSw; (try dsimp only at hSw); go_simp; try with_reducible rfl)
          (try simp only [Act.put, List.getElem_toArray, List.getElem_cons_zero, List.getElem_cons_succ, List.setIfInBounds_toArray, List.set_cons_zero, List.set_cons_succ])
          refine wpAnyH_take (i := 9) (v := ?_) rfl (by kernel_rfl) (by kernel_rfl) (by kernel_rfl) (fun _ _ _ h => h) (Or.inl ⟨by rfl, ?_⟩) hHeld ?_
          rotate_left
          · (intro wS hSw; (try dsimp only at hSw); go_simp; try with_reducible rfl)
          (try simp only [Act.put, List.getElem_toArray, List.getElem_cons_zero, List.getElem_cons_succ, List.setIfInBounds_toArray, List.set_cons_zero, List.set_cons_succ])
          refine wpAnyH_take (i := 10) rfl (by kernel_rfl) (by kernel_rfl) (by kernel_rfl) (fun _ _ _ h => h) (yieldsIf_load_mid (by rfl) 30 (.tmp 8) rfl (w.heap.size + 1 + 1) (0) rfl ([.int .i64 ek, .int .i64 ea, .string es, .int .i64 en, e4, .slice Ae ne ce, e6, e7]) _ R2.out Tryz.underlying30 rfl IE.out) hHeld ?_
          (try simp only [Act.put, List.getElem_toArray, List.getElem_cons_zero, List.getElem_cons_succ, List.setIfInBounds_toArray, List.set_cons_zero, List.set_cons_succ])
          refine wpAnyH_take (i := 12) rfl (by kernel_rfl) (by kernel_rfl) (by kernel_rfl) (fun _ _ _ h => h) (yieldsIf_load_mid (by rfl) 30 (.tmp 9) rfl (w.heap.size + 1 + 1 + 1) (0) rfl ([.int .i64 fk, .int .i64 fa, .string fs, .int .i64 fn, f4, .slice Af nf cf, f6, f7]) _ R3.out Tryz.underlying30 rfl IF.out) hHeld ?_
          (try simp only [Act.put, List.getElem_toArray, List.getElem_cons_zero, List.getElem_cons_succ, List.setIfInBounds_toArray, List.set_cons_zero, List.set_cons_succ])
          refine wpAnyH_take (i := 15) rfl (by kernel_rfl) (by kernel_rfl) (by kernel_rfl) (fun _ _ _ h => h) (yieldsIf_load_mid (by rfl) 30 (.tmp 8) rfl (w.heap.size + 1 + 1) (0) rfl ([.int .i64 ek, .int .i64 ea, .string es, .int .i64 en, e4, .slice Ae ne ce, e6, e7]) _ R2.out Tryz.underlying30 rfl IE.out) hHeld ?_
          (try simp only [Act.put, List.getElem_toArray, List.getElem_cons_zero, List.getElem_cons_succ, List.setIfInBounds_toArray, List.set_cons_zero, List.set_cons_succ])
          refine wpAnyH_take (i := 16) rfl (by kernel_rfl) (by kernel_rfl) (by kernel_rfl) (fun _ _ _ h => h) (yieldsIf_load_mid (by rfl) 30 (.tmp 9) rfl (w.heap.size + 1 + 1 + 1) (0) rfl ([.int .i64 fk, .int .i64 fa, .string fs, .int .i64 fn, f4, .slice Af nf cf, f6, f7]) _ R3.out Tryz.underlying30 rfl IF.out) hHeld ?_
          (try simp only [Act.put, List.getElem_toArray, List.getElem_cons_zero, List.getElem_cons_succ, List.setIfInBounds_toArray, List.set_cons_zero, List.set_cons_succ])
          refine wpAnyH_ready (rs := [11]) (by kernel_rfl) (by simp) ?_
          refine AllReadyH.cons rfl (fun K hK => ?_) AllReadyH.nil
          (try simp only [List.getElem_toArray, List.getElem_cons_zero, List.getElem_cons_succ, List.setIfInBounds_toArray, List.set_cons_zero, List.set_cons_succ])
          try go_simp
          refine (KE.out _ (bl_tr HBR.out (HB5.out))).mono ?_; rintro e w6 ⟨cw6, rfl, hbq, hT⟩; have HB6 : Hid (Below wr.heap.size wr w6) := Lib.hid (bl_tr (HB5.out) hbq); have HT6 := Lib.hid (hT.mono memX_le); have HB6x := Lib.hid hbq; clear hbq hT
          try go_simp
          refine hK.out _ _ ?_ (fun hHeld => ?_)
          · exact HB6.out
          (try simp only [Act.put, List.getElem_toArray, List.getElem_cons_zero, List.getElem_cons_succ, List.setIfInBounds_toArray, List.set_cons_zero, List.set_cons_succ])
          refine wpAnyH_ready (rs := [13]) (by kernel_rfl) (by simp) ?_
          refine AllReadyH.cons rfl (fun K hK => ?_) AllReadyH.nil
          (try simp only [List.getElem_toArray, List.getElem_cons_zero, List.getElem_cons_succ, List.setIfInBounds_toArray, List.set_cons_zero, List.set_cons_succ])
          try go_simp
          refine (KF.out _ (bl_tr HBR.out (HB6.out))).mono ?_; rintro e w7 ⟨cw7, rfl, hbq, hT⟩; have HB7 : Hid (Below wr.heap.size wr w7) := Lib.hid (bl_tr (HB6.out) hbq); have HT7 := Lib.hid (hT.mono memX_le); have HB7x := Lib.hid hbq; clear hbq hT
          try go_simp
          refine hK.out _ _ ?_ (fun hHeld => ?_)
          · exact HB7.out
          (try simp only [Act.put, List.getElem_toArray, List.getElem_cons_zero, List.getElem_cons_succ, List.setIfInBounds_toArray, List.set_cons_zero, List.set_cons_succ])
          refine wpAnyH_ready (rs := [14]) (by kernel_rfl) (by simp) ?_
          refine AllReadyH.cons rfl (fun K hK => ?_) AllReadyH.nil
          (try simp only [List.getElem_toArray, List.getElem_cons_zero, List.getElem_cons_succ, List.setIfInBounds_toArray, List.set_cons_zero, List.set_cons_succ])
          try go_simp
          refine (sameEx_any Ee Ff cw6 cw7 w7 (HT6.out.mono (mem_below HB7x.out)) HT7.out).mono ?_; rintro e w8 ⟨rfl, hbq⟩; have HB8 : Hid (Below wr.heap.size wr w8) := Lib.hid (bl_tr HB7.out hbq); clear hbq
          try go_simp
          refine hK.out _ _ ?_ (fun hHeld => ?_)
          · exact HB8.out
          (try simp only [Act.put, List.getElem_toArray, List.getElem_cons_zero, List.getElem_cons_succ, List.setIfInBounds_toArray, List.set_cons_zero, List.set_cons_succ])
          refine wpAnyH_ready (rs := [17]) (by kernel_rfl) (by simp) ?_
          refine AllReadyH.cons rfl (fun K hK => ?_) AllReadyH.nil
          (try simp only [List.getElem_toArray, List.getElem_cons_zero, List.getElem_cons_succ, List.setIfInBounds_toArray, List.set_cons_zero, List.set_cons_succ])
          try go_simp
          refine (rsEx_any Ee Ff _ _ w8 (CE.out _ HB8.out) (CF.out _ HB8.out)).mono ?_; rintro e w9 ⟨rfl, hbq⟩; have HB9 : Hid (Below wr.heap.size wr w9) := Lib.hid (bl_tr HB8.out hbq); clear hbq
          try go_simp
          refine hK.out _ _ ?_ (fun hHeld => ?_)
          · exact HB9.out
          (try simp only [Act.put, List.getElem_toArray, List.getElem_cons_zero, List.getElem_cons_succ, List.setIfInBounds_toArray, List.set_cons_zero, List.set_cons_succ])
          refine wpAnyH_take (i := 18) (v := ?_) rfl (by kernel_rfl) (by kernel_rfl) (by kernel_rfl) (fun _ _ _ h => h) (Or.inl ⟨by rfl, ?_⟩) hHeld ?_
          rotate_left
          · (intro wS hSw; (try dsimp only at hSw); go_simp; try with_reducible rfl)
          (try simp only [Act.put, List.getElem_toArray, List.getElem_cons_zero, List.getElem_cons_succ, List.setIfInBounds_toArray, List.set_cons_zero, List.set_cons_succ])
          refine wpAnyH_take (i := 19) (v := ?_) rfl (by kernel_rfl) (by kernel_rfl) (by kernel_rfl) (fun _ _ _ h => h) (Or.inl ⟨by rfl, ?_⟩) hHeld ?_
          rotate_left
          · (intro wS hSw; (try dsimp only at hSw); go_simp; try with_reducible rfl)
          (try simp only [Act.put, List.getElem_toArray, List.getElem_cons_zero, List.getElem_cons_succ, List.setIfInBounds_toArray, List.set_cons_zero, List.set_cons_succ])
          refine wpAnyH_take (i := 20) (v := ?_) rfl (by kernel_rfl) (by kernel_rfl) (by kernel_rfl) (fun _ _ _ h => h) (Or.inl ⟨by rfl, ?_⟩) hHeld ?_
          rotate_left
          · (intro wS hSw; (try dsimp only at hSw); go_simp; try with_reducible rfl)
          (try simp only [Act.put, List.getElem_toArray, List.getElem_cons_zero, List.getElem_cons_succ, List.setIfInBounds_toArray, List.set_cons_zero, List.set_cons_succ])
          refine wpAnyH_take (i := 21) (v := ?_) rfl (by kernel_rfl) (by kernel_rfl) (by kernel_rfl) (fun _ _ _ h => h) (Or.inl ⟨by rfl, ?_⟩) hHeld ?_
          rotate_left
          · (intro wS hSw; (try dsimp only at hSw); go_simp; try with_reducible rfl)
          (try simp only [Act.put, List.getElem_toArray, List.getElem_cons_zero, List.getElem_cons_succ, List.setIfInBounds_toArray, List.set_cons_zero, List.set_cons_succ])
          refine wpAnyH_take (i := 23) (v := ?_) rfl (by kernel_rfl) (by kernel_rfl) (by kernel_rfl) (fun _ _ _ h => h) (Or.inl ⟨by rfl, ?_⟩) hHeld ?_
          rotate_left
          · (intro wS hSw; (try dsimp only at hSw); go_simp; try with_reducible rfl)
          (try simp only [Act.put, List.getElem_toArray, List.getElem_cons_zero, List.getElem_cons_succ, List.setIfInBounds_toArray, List.set_cons_zero, List.set_cons_succ])
          refine wpAnyH_take (i := 26) (v := ?_) rfl (by kernel_rfl) (by kernel_rfl) (by kernel_rfl) (fun _ _ _ h => h) (Or.inl ⟨by rfl, ?_⟩) hHeld ?_
          rotate_left
          · (intro wS hSw; (try dsimp only at hSw); go_simp; try with_reducible rfl)
          (try simp only [Act.put, List.getElem_toArray, List.getElem_cons_zero, List.getElem_cons_succ, List.setIfInBounds_toArray, List.set_cons_zero, List.set_cons_succ])
          refine wpAnyH_take (i := 27) (v := ?_) rfl (by kernel_rfl) (by kernel_rfl) (by kernel_rfl) (fun _ _ _ h => h) (Or.inl ⟨by rfl, ?_⟩) hHeld ?_
          rotate_left
          · (intro wS hSw; (try dsimp only at hSw); go_simp; try with_reducible rfl)
          (try simp only [Act.put, List.getElem_toArray, List.getElem_cons_zero, List.getElem_cons_succ, List.setIfInBounds_toArray, List.set_cons_zero, List.set_cons_succ])
          refine wpAnyH_ready (rs := [22]) (by kernel_rfl) (by simp) ?_
          refine AllReadyH.cons rfl (fun K hK => ?_) AllReadyH.nil
          (try simp only [List.getElem_toArray, List.getElem_cons_zero, List.getElem_cons_succ, List.setIfInBounds_toArray, List.set_cons_zero, List.set_cons_succ])
          try go_simp
          refine (KL.out _ (bl_tr HBR.out (HB9.out))).mono ?_; rintro e wa ⟨cwa, rfl, hbq, hT⟩; have HBa : Hid (Below wr.heap.size wr wa) := Lib.hid (bl_tr (HB9.out) hbq); have HTa := Lib.hid (hT.mono memX_le); have HBax := Lib.hid hbq; clear hbq hT
          try go_simp
          refine hK.out _ _ ?_ (fun hHeld => ?_)
          · exact HBa.out
          (try simp only [Act.put, List.getElem_toArray, List.getElem_cons_zero, List.getElem_cons_succ, List.setIfInBounds_toArray, List.set_cons_zero, List.set_cons_succ])
          refine wpAnyH_ready (rs := [24]) (by kernel_rfl) (by simp) ?_
          refine AllReadyH.cons rfl (fun K hK => ?_) AllReadyH.nil
          (try simp only [List.getElem_toArray, List.getElem_cons_zero, List.getElem_cons_succ, List.setIfInBounds_toArray, List.set_cons_zero, List.set_cons_succ])
          try go_simp
          refine (KM.out _ (bl_tr HBR.out (HBa.out))).mono ?_; rintro e wb ⟨cwb, rfl, hbq, hT⟩; have HBb : Hid (Below wr.heap.size wr wb) := Lib.hid (bl_tr (HBa.out) hbq); have HTb := Lib.hid (hT.mono memX_le); have HBbx := Lib.hid hbq; clear hbq hT
          try go_simp
          refine hK.out _ _ ?_ (fun hHeld => ?_)
          · exact HBb.out
          (try simp only [Act.put, List.getElem_toArray, List.getElem_cons_zero, List.getElem_cons_succ, List.setIfInBounds_toArray, List.set_cons_zero, List.set_cons_succ])
          refine wpAnyH_ready (rs := [25]) (by kernel_rfl) (by simp) ?_
          refine AllReadyH.cons rfl (fun K hK => ?_) AllReadyH.nil
          (try simp only [List.getElem_toArray, List.getElem_cons_zero, List.getElem_cons_succ, List.setIfInBounds_toArray, List.set_cons_zero, List.set_cons_succ])
          try go_simp
          refine (sameDes_any L M cwa cwb wb (HTa.out.mono (mem_below HBbx.out)) HTb.out).mono ?_; rintro e wc ⟨rfl, hbq⟩; have HBc : Hid (Below wr.heap.size wr wc) := Lib.hid (bl_tr HBb.out hbq); clear hbq
          try go_simp
          refine hK.out _ _ ?_ (fun hHeld => ?_)
          · exact HBc.out
          (try simp only [Act.put, List.getElem_toArray, List.getElem_cons_zero, List.getElem_cons_succ, List.setIfInBounds_toArray, List.set_cons_zero, List.set_cons_succ])
          refine wpAnyH_ready (rs := [28]) (by kernel_rfl) (by simp) ?_
          refine AllReadyH.cons rfl (fun K hK => ?_) AllReadyH.nil
          (try simp only [List.getElem_toArray, List.getElem_cons_zero, List.getElem_cons_succ, List.setIfInBounds_toArray, List.set_cons_zero, List.set_cons_succ])
          try go_simp
          refine (rsDes_any L M _ _ wc (CL.out _ HBc.out) (CM.out _ HBc.out)).mono ?_; rintro e wd ⟨rfl, hbq⟩; have HBd : Hid (Below wr.heap.size wr wd) := Lib.hid (bl_tr HBc.out hbq); clear hbq
          try go_simp
          refine hK.out _ _ ?_ (fun hHeld => ?_)
          · exact HBd.out
          (try simp only [Act.put, List.getElem_toArray, List.getElem_cons_zero, List.getElem_cons_succ, List.setIfInBounds_toArray, List.set_cons_zero, List.set_cons_succ])
          refine wpAnyH_take (i := 29) (v := ?_) rfl (by kernel_rfl) (by kernel_rfl) (by kernel_rfl) (fun _ _ _ h => h) (Or.inl ⟨by rfl, ?_⟩) hHeld ?_
          rotate_left
          · (intro wS hSw; (try dsimp only at hSw); go_simp; try with_reducible rfl)
          (try simp only [Act.put, List.getElem_toArray, List.getElem_cons_zero, List.getElem_cons_succ, List.setIfInBounds_toArray, List.set_cons_zero, List.set_cons_succ])
          refine wpAnyH_take (i := 30) (v := ?_) rfl (by kernel_rfl) (by kernel_rfl) (by kernel_rfl) (fun _ _ _ h => h) (Or.inl ⟨by rfl, ?_⟩) hHeld ?_
          rotate_left
          · (intro wS hSw; (try dsimp only at hSw); go_simp; try with_reducible rfl)
          (try simp only [Act.put, List.getElem_toArray, List.getElem_cons_zero, List.getElem_cons_succ, List.setIfInBounds_toArray, List.set_cons_zero, List.set_cons_succ])
          refine wpAnyH_take (i := 31) (v := ?_) rfl (by kernel_rfl) (by kernel_rfl) (by kernel_rfl) (fun _ _ _ h => h) (Or.inl ⟨by rfl, ?_⟩) hHeld ?_
          rotate_left
          · (intro wS hSw; (try dsimp only at hSw); go_simp; try with_reducible rfl)
          (try simp only [Act.put, List.getElem_toArray, List.getElem_cons_zero, List.getElem_cons_succ, List.setIfInBounds_toArray, List.set_cons_zero, List.set_cons_succ])
          refine wpAnyH_ready (rs := [32]) (by kernel_rfl) (by simp) ?_
          refine AllReadyH.cons rfl (fun K hK => ?_) AllReadyH.nil
          (try simp only [List.getElem_toArray, List.getElem_cons_zero, List.getElem_cons_succ, List.setIfInBounds_toArray, List.set_cons_zero, List.set_cons_succ])
          try go_simp
          refine (knows_any wd).mono ?_; rintro e we ⟨rfl, hbq⟩; have HBe : Hid (Below wr.heap.size wr we) := Lib.hid (bl_tr HBd.out hbq); clear hbq
          try go_simp
          refine hK.out _ _ ?_ (fun hHeld => ?_)
          · exact HBe.out
          (try simp only [Act.put, List.getElem_toArray, List.getElem_cons_zero, List.getElem_cons_succ, List.setIfInBounds_toArray, List.set_cons_zero, List.set_cons_succ])
          refine wpAnyH_take (i := 33) (v := ?_) rfl (by kernel_rfl) (by kernel_rfl) (by kernel_rfl) (fun _ _ _ h => h) (Or.inl ⟨by rfl, ?_⟩) hHeld ?_
          rotate_left
          · (intro wS hSw; (try dsimp only at hSw); go_simp; try with_reducible rfl)
          (try simp only [Act.put, List.getElem_toArray, List.getElem_cons_zero, List.getElem_cons_succ, List.setIfInBounds_toArray, List.set_cons_zero, List.set_cons_succ])
          refine wpAnyH_take (i := 34) (v := ?_) rfl (by kernel_rfl) (by kernel_rfl) (by kernel_rfl) (fun _ _ _ h => h) (Or.inl ⟨by rfl, ?_⟩) hHeld ?_
          rotate_left
          · (intro wS hSw; (try dsimp only at hSw); go_simp; try with_reducible rfl)
          (try simp only [Act.put, List.getElem_toArray, List.getElem_cons_zero, List.getElem_cons_succ, List.setIfInBounds_toArray, List.set_cons_zero, List.set_cons_succ])
          refine wpAnyH_done (by kernel_rfl) ?_ _
          go_wp2_with fail
          go_ret
          exact ⟨ret_b (by simp), bl_tr HW1.out (bl_tr HBR.out HBe.out)⟩
      · have h1i : (ne : Int) ≤ (j : Int) := by omega
        have R0 : Hid (∀ w', Below wr.heap.size wr w' → w'.rangeAt (w.heap.size) 0 [t0, t1, t2, t3]) := Lib.hid (fun w' hw' j v hv => by rw [Nat.zero_add, cell_of_row w' _ _ _ _ _ (HK0.out w' (bl_tr HBR.out hw')), List.getElem?_toArray]; exact hv)
        have R1 : Hid (∀ w', Below wr.heap.size wr w' → w'.rangeAt (w.heap.size + 1) 0 [u0, u1, u2, u3]) := Lib.hid (fun w' hw' j v hv => by rw [Nat.zero_add, cell_of_row w' _ _ _ _ _ (HK1.out w' (bl_tr HBR.out hw')), List.getElem?_toArray]; exact hv)
        have R2 : Hid (∀ w', Below wr.heap.size wr w' → w'.rangeAt (w.heap.size + 1 + 1) 0 [.int .i64 ek, .int .i64 ea, .string es, .int .i64 en, e4, .slice Ae ne ce, e6, e7]) := Lib.hid (fun w' hw' j v hv => by rw [Nat.zero_add, cell_of_row w' _ _ _ _ _ (HK2.out w' (bl_tr HBR.out hw')), List.getElem?_toArray]; exact hv)
        have R3 : Hid (∀ w', Below wr.heap.size wr w' → w'.rangeAt (w.heap.size + 1 + 1 + 1) 0 [.int .i64 fk, .int .i64 fa, .string fs, .int .i64 fn, f4, .slice Af nf cf, f6, f7]) := Lib.hid (fun w' hw' j v hv => by rw [Nat.zero_add, cell_of_row w' _ _ _ _ _ (HK3.out w' (bl_tr HBR.out hw')), List.getElem?_toArray]; exact hv)
        have CT : Hid (∀ w', Below wr.heap.size wr w' → TyC (mem w') T [t0, t1, t2, t3]) := Lib.hid (fun w' hw' => GT.out w' (bl_tr HBR.out hw'))
        have CU : Hid (∀ w', Below wr.heap.size wr w' → TyC (mem w') U [u0, u1, u2, u3]) := Lib.hid (fun w' hw' => GU.out w' (bl_tr HBR.out hw'))
        have CE : Hid (∀ w', Below wr.heap.size wr w' → ExC (mem w') Ee [.int .i64 ek, .int .i64 ea, .string es, .int .i64 en, e4, .slice Ae ne ce, e6, e7]) := Lib.hid (fun w' hw' => GE.out w' (bl_tr HBR.out hw'))
        have CF : Hid (∀ w', Below wr.heap.size wr w' → ExC (mem w') Ff [.int .i64 fk, .int .i64 fa, .string fs, .int .i64 fn, f4, .slice Af nf cf, f6, f7]) := Lib.hid (fun w' hw' => GF.out w' (bl_tr HBR.out hw'))
        have CL : Hid (∀ w', Below wr.heap.size wr w' → DesV (mem w') L (.slice Al nl cl)) := Lib.hid (fun w' hw' => GL.out w' (bl_tr HBR.out hw'))
        have CM : Hid (∀ w', Below wr.heap.size wr w' → DesV (mem w') M (.slice Am nm cm)) := Lib.hid (fun w' hw' => GM.out w' (bl_tr HBR.out hw'))
        obtain ⟨b1, hb1⟩ : ∃ b, b = sameTy T U := ⟨_, rfl⟩
        clear b2 b3
        go_wp2_with fail
        clear d2 d3
        refine wp_region_held_drew (S := fun w' => Below wr.heap.size wr w') (by kernel_rfl) (Below.drew (Below.refl _ _)) (fun hHeld => ?_)
        refine wpAnyH_take (i := 0) rfl (by kernel_rfl) (by kernel_rfl) (by kernel_rfl) (fun _ _ _ h => h) (yieldsIf_load_mid (by rfl) 24 (.tmp 6) rfl (w.heap.size) (0) rfl ([t0, t1, t2, t3]) _ R0.out Tryz.underlying24 rfl IT.out) hHeld ?_
        (try simp only [Act.put, List.getElem_toArray, List.getElem_cons_zero, List.getElem_cons_succ, List.setIfInBounds_toArray, List.set_cons_zero, List.set_cons_succ])
        refine wpAnyH_take (i := 2) rfl (by kernel_rfl) (by kernel_rfl) (by kernel_rfl) (fun _ _ _ h => h) (yieldsIf_load_mid (by rfl) 24 (.tmp 7) rfl (w.heap.size + 1) (0) rfl ([u0, u1, u2, u3]) _ R1.out Tryz.underlying24 rfl IU.out) hHeld ?_
        (try simp only [Act.put, List.getElem_toArray, List.getElem_cons_zero, List.getElem_cons_succ, List.setIfInBounds_toArray, List.set_cons_zero, List.set_cons_succ])
        refine wpAnyH_take (i := 5) rfl (by kernel_rfl) (by kernel_rfl) (by kernel_rfl) (fun _ _ _ h => h) (yieldsIf_load_mid (by rfl) 24 (.tmp 6) rfl (w.heap.size) (0) rfl ([t0, t1, t2, t3]) _ R0.out Tryz.underlying24 rfl IT.out) hHeld ?_
        (try simp only [Act.put, List.getElem_toArray, List.getElem_cons_zero, List.getElem_cons_succ, List.setIfInBounds_toArray, List.set_cons_zero, List.set_cons_succ])
        refine wpAnyH_take (i := 6) rfl (by kernel_rfl) (by kernel_rfl) (by kernel_rfl) (fun _ _ _ h => h) (yieldsIf_load_mid (by rfl) 24 (.tmp 7) rfl (w.heap.size + 1) (0) rfl ([u0, u1, u2, u3]) _ R1.out Tryz.underlying24 rfl IU.out) hHeld ?_
        (try simp only [Act.put, List.getElem_toArray, List.getElem_cons_zero, List.getElem_cons_succ, List.setIfInBounds_toArray, List.set_cons_zero, List.set_cons_succ])
        refine wpAnyH_ready (rs := [1]) (by kernel_rfl) (by simp) ?_
        refine AllReadyH.cons rfl (fun K hK => ?_) AllReadyH.nil
        (try simp only [List.getElem_toArray, List.getElem_cons_zero, List.getElem_cons_succ, List.setIfInBounds_toArray, List.set_cons_zero, List.set_cons_succ])
        try go_simp
        refine (KT.out _ (bl_tr HBR.out (Below.drew (Below.refl _ _)))).mono ?_; rintro e w2 ⟨cw2, rfl, hbq, hT⟩; have HB2 : Hid (Below wr.heap.size wr w2) := Lib.hid (bl_tr (Below.drew (Below.refl _ _)) hbq); have HT2 := Lib.hid (hT.mono memX_le); have HB2x := Lib.hid hbq; clear hbq hT
        try go_simp
        refine hK.out _ _ ?_ (fun hHeld => ?_)
        · exact HB2.out
        (try simp only [Act.put, List.getElem_toArray, List.getElem_cons_zero, List.getElem_cons_succ, List.setIfInBounds_toArray, List.set_cons_zero, List.set_cons_succ])
        refine wpAnyH_ready (rs := [3]) (by kernel_rfl) (by simp) ?_
        refine AllReadyH.cons rfl (fun K hK => ?_) AllReadyH.nil
        (try simp only [List.getElem_toArray, List.getElem_cons_zero, List.getElem_cons_succ, List.setIfInBounds_toArray, List.set_cons_zero, List.set_cons_succ])
        try go_simp
        refine (KU.out _ (bl_tr HBR.out (HB2.out))).mono ?_; rintro e w3 ⟨cw3, rfl, hbq, hT⟩; have HB3 : Hid (Below wr.heap.size wr w3) := Lib.hid (bl_tr (HB2.out) hbq); have HT3 := Lib.hid (hT.mono memX_le); have HB3x := Lib.hid hbq; clear hbq hT
        try go_simp
        refine hK.out _ _ ?_ (fun hHeld => ?_)
        · exact HB3.out
        (try simp only [Act.put, List.getElem_toArray, List.getElem_cons_zero, List.getElem_cons_succ, List.setIfInBounds_toArray, List.set_cons_zero, List.set_cons_succ])
        refine wpAnyH_ready (rs := [4]) (by kernel_rfl) (by simp) ?_
        refine AllReadyH.cons rfl (fun K hK => ?_) AllReadyH.nil
        (try simp only [List.getElem_toArray, List.getElem_cons_zero, List.getElem_cons_succ, List.setIfInBounds_toArray, List.set_cons_zero, List.set_cons_succ])
        try go_simp
        refine (sameTy_any _ T U cw2 cw3 w3 (Nat.lt_succ_self _) (HT2.out.mono (mem_below HB3x.out)) HT3.out).mono ?_; rintro e w4 ⟨rfl, hbq⟩; have HB4 : Hid (Below wr.heap.size wr w4) := Lib.hid (bl_tr HB3.out hbq); clear hbq
        try go_simp
        refine hK.out _ _ ?_ (fun hHeld => ?_)
        · exact HB4.out
        (try simp only [Act.put, List.getElem_toArray, List.getElem_cons_zero, List.getElem_cons_succ, List.setIfInBounds_toArray, List.set_cons_zero, List.set_cons_succ])
        refine wpAnyH_ready (rs := [7]) (by kernel_rfl) (by simp) ?_
        refine AllReadyH.cons rfl (fun K hK => ?_) AllReadyH.nil
        (try simp only [List.getElem_toArray, List.getElem_cons_zero, List.getElem_cons_succ, List.setIfInBounds_toArray, List.set_cons_zero, List.set_cons_succ])
        try go_simp
        refine (rsTy_any _ T U _ _ w4 (Nat.lt_succ_self _) (CT.out _ HB4.out) (CU.out _ HB4.out)).mono ?_; rintro e w5 ⟨rfl, hbq⟩; have HB5 : Hid (Below wr.heap.size wr w5) := Lib.hid (bl_tr HB4.out hbq); clear hbq
        try go_simp
        refine hK.out _ _ ?_ (fun hHeld => ?_)
        · exact HB5.out
        (try simp only [Act.put, List.getElem_toArray, List.getElem_cons_zero, List.getElem_cons_succ, List.setIfInBounds_toArray, List.set_cons_zero, List.set_cons_succ])
        refine wpAnyH_take (i := 8) (v := ?_) rfl (by kernel_rfl) (by kernel_rfl) (by kernel_rfl) (fun _ _ _ h => h) (Or.inl ⟨by rfl, ?_⟩) hHeld ?_
        rotate_left
        · (intro wS hSw; (try dsimp only at hSw); go_simp; try with_reducible rfl)
        (try simp only [Act.put, List.getElem_toArray, List.getElem_cons_zero, List.getElem_cons_succ, List.setIfInBounds_toArray, List.set_cons_zero, List.set_cons_succ])
        refine wpAnyH_take (i := 9) (v := ?_) rfl (by kernel_rfl) (by kernel_rfl) (by kernel_rfl) (fun _ _ _ h => h) (Or.inl ⟨by rfl, ?_⟩) hHeld ?_
        rotate_left
        · (intro wS hSw; (try dsimp only at hSw); go_simp; try with_reducible rfl)
        (try simp only [Act.put, List.getElem_toArray, List.getElem_cons_zero, List.getElem_cons_succ, List.setIfInBounds_toArray, List.set_cons_zero, List.set_cons_succ])
        refine wpAnyH_take (i := 10) rfl (by kernel_rfl) (by kernel_rfl) (by kernel_rfl) (fun _ _ _ h => h) (yieldsIf_load_mid (by rfl) 30 (.tmp 8) rfl (w.heap.size + 1 + 1) (0) rfl ([.int .i64 ek, .int .i64 ea, .string es, .int .i64 en, e4, .slice Ae ne ce, e6, e7]) _ R2.out Tryz.underlying30 rfl IE.out) hHeld ?_
        (try simp only [Act.put, List.getElem_toArray, List.getElem_cons_zero, List.getElem_cons_succ, List.setIfInBounds_toArray, List.set_cons_zero, List.set_cons_succ])
        refine wpAnyH_take (i := 12) rfl (by kernel_rfl) (by kernel_rfl) (by kernel_rfl) (fun _ _ _ h => h) (yieldsIf_load_mid (by rfl) 30 (.tmp 9) rfl (w.heap.size + 1 + 1 + 1) (0) rfl ([.int .i64 fk, .int .i64 fa, .string fs, .int .i64 fn, f4, .slice Af nf cf, f6, f7]) _ R3.out Tryz.underlying30 rfl IF.out) hHeld ?_
        (try simp only [Act.put, List.getElem_toArray, List.getElem_cons_zero, List.getElem_cons_succ, List.setIfInBounds_toArray, List.set_cons_zero, List.set_cons_succ])
        refine wpAnyH_take (i := 15) rfl (by kernel_rfl) (by kernel_rfl) (by kernel_rfl) (fun _ _ _ h => h) (yieldsIf_load_mid (by rfl) 30 (.tmp 8) rfl (w.heap.size + 1 + 1) (0) rfl ([.int .i64 ek, .int .i64 ea, .string es, .int .i64 en, e4, .slice Ae ne ce, e6, e7]) _ R2.out Tryz.underlying30 rfl IE.out) hHeld ?_
        (try simp only [Act.put, List.getElem_toArray, List.getElem_cons_zero, List.getElem_cons_succ, List.setIfInBounds_toArray, List.set_cons_zero, List.set_cons_succ])
        refine wpAnyH_take (i := 16) rfl (by kernel_rfl) (by kernel_rfl) (by kernel_rfl) (fun _ _ _ h => h) (yieldsIf_load_mid (by rfl) 30 (.tmp 9) rfl (w.heap.size + 1 + 1 + 1) (0) rfl ([.int .i64 fk, .int .i64 fa, .string fs, .int .i64 fn, f4, .slice Af nf cf, f6, f7]) _ R3.out Tryz.underlying30 rfl IF.out) hHeld ?_
        (try simp only [Act.put, List.getElem_toArray, List.getElem_cons_zero, List.getElem_cons_succ, List.setIfInBounds_toArray, List.set_cons_zero, List.set_cons_succ])
        refine wpAnyH_ready (rs := [11]) (by kernel_rfl) (by simp) ?_
        refine AllReadyH.cons rfl (fun K hK => ?_) AllReadyH.nil
        (try simp only [List.getElem_toArray, List.getElem_cons_zero, List.getElem_cons_succ, List.setIfInBounds_toArray, List.set_cons_zero, List.set_cons_succ])
        try go_simp
        refine (KE.out _ (bl_tr HBR.out (HB5.out))).mono ?_; rintro e w6 ⟨cw6, rfl, hbq, hT⟩; have HB6 : Hid (Below wr.heap.size wr w6) := Lib.hid (bl_tr (HB5.out) hbq); have HT6 := Lib.hid (hT.mono memX_le); have HB6x := Lib.hid hbq; clear hbq hT
        try go_simp
        refine hK.out _ _ ?_ (fun hHeld => ?_)
        · exact HB6.out
        (try simp only [Act.put, List.getElem_toArray, List.getElem_cons_zero, List.getElem_cons_succ, List.setIfInBounds_toArray, List.set_cons_zero, List.set_cons_succ])
        refine wpAnyH_ready (rs := [13]) (by kernel_rfl) (by simp) ?_
        refine AllReadyH.cons rfl (fun K hK => ?_) AllReadyH.nil
        (try simp only [List.getElem_toArray, List.getElem_cons_zero, List.getElem_cons_succ, List.setIfInBounds_toArray, List.set_cons_zero, List.set_cons_succ])
        try go_simp
        refine (KF.out _ (bl_tr HBR.out (HB6.out))).mono ?_; rintro e w7 ⟨cw7, rfl, hbq, hT⟩; have HB7 : Hid (Below wr.heap.size wr w7) := Lib.hid (bl_tr (HB6.out) hbq); have HT7 := Lib.hid (hT.mono memX_le); have HB7x := Lib.hid hbq; clear hbq hT
        try go_simp
        refine hK.out _ _ ?_ (fun hHeld => ?_)
        · exact HB7.out
        (try simp only [Act.put, List.getElem_toArray, List.getElem_cons_zero, List.getElem_cons_succ, List.setIfInBounds_toArray, List.set_cons_zero, List.set_cons_succ])
        refine wpAnyH_ready (rs := [14]) (by kernel_rfl) (by simp) ?_
        refine AllReadyH.cons rfl (fun K hK => ?_) AllReadyH.nil
        (try simp only [List.getElem_toArray, List.getElem_cons_zero, List.getElem_cons_succ, List.setIfInBounds_toArray, List.set_cons_zero, List.set_cons_succ])
        try go_simp
        refine (sameEx_any Ee Ff cw6 cw7 w7 (HT6.out.mono (mem_below HB7x.out)) HT7.out).mono ?_; rintro e w8 ⟨rfl, hbq⟩; have HB8 : Hid (Below wr.heap.size wr w8) := Lib.hid (bl_tr HB7.out hbq); clear hbq
        try go_simp
        refine hK.out _ _ ?_ (fun hHeld => ?_)
        · exact HB8.out
        (try simp only [Act.put, List.getElem_toArray, List.getElem_cons_zero, List.getElem_cons_succ, List.setIfInBounds_toArray, List.set_cons_zero, List.set_cons_succ])
        refine wpAnyH_ready (rs := [17]) (by kernel_rfl) (by simp) ?_
        refine AllReadyH.cons rfl (fun K hK => ?_) AllReadyH.nil
        (try simp only [List.getElem_toArray, List.getElem_cons_zero, List.getElem_cons_succ, List.setIfInBounds_toArray, List.set_cons_zero, List.set_cons_succ])
        try go_simp
        refine (rsEx_any Ee Ff _ _ w8 (CE.out _ HB8.out) (CF.out _ HB8.out)).mono ?_; rintro e w9 ⟨rfl, hbq⟩; have HB9 : Hid (Below wr.heap.size wr w9) := Lib.hid (bl_tr HB8.out hbq); clear hbq
        try go_simp
        refine hK.out _ _ ?_ (fun hHeld => ?_)
        · exact HB9.out
        (try simp only [Act.put, List.getElem_toArray, List.getElem_cons_zero, List.getElem_cons_succ, List.setIfInBounds_toArray, List.set_cons_zero, List.set_cons_succ])
        refine wpAnyH_take (i := 18) (v := ?_) rfl (by kernel_rfl) (by kernel_rfl) (by kernel_rfl) (fun _ _ _ h => h) (Or.inl ⟨by rfl, ?_⟩) hHeld ?_
        rotate_left
        · (intro wS hSw; (try dsimp only at hSw); go_simp; try with_reducible rfl)
        (try simp only [Act.put, List.getElem_toArray, List.getElem_cons_zero, List.getElem_cons_succ, List.setIfInBounds_toArray, List.set_cons_zero, List.set_cons_succ])
        refine wpAnyH_take (i := 19) (v := ?_) rfl (by kernel_rfl) (by kernel_rfl) (by kernel_rfl) (fun _ _ _ h => h) (Or.inl ⟨by rfl, ?_⟩) hHeld ?_
        rotate_left
        · (intro wS hSw; (try dsimp only at hSw); go_simp; try with_reducible rfl)
        (try simp only [Act.put, List.getElem_toArray, List.getElem_cons_zero, List.getElem_cons_succ, List.setIfInBounds_toArray, List.set_cons_zero, List.set_cons_succ])
        refine wpAnyH_take (i := 20) (v := ?_) rfl (by kernel_rfl) (by kernel_rfl) (by kernel_rfl) (fun _ _ _ h => h) (Or.inl ⟨by rfl, ?_⟩) hHeld ?_
        rotate_left
        · (intro wS hSw; (try dsimp only at hSw); go_simp; try with_reducible rfl)
        (try simp only [Act.put, List.getElem_toArray, List.getElem_cons_zero, List.getElem_cons_succ, List.setIfInBounds_toArray, List.set_cons_zero, List.set_cons_succ])
        refine wpAnyH_take (i := 21) (v := ?_) rfl (by kernel_rfl) (by kernel_rfl) (by kernel_rfl) (fun _ _ _ h => h) (Or.inl ⟨by rfl, ?_⟩) hHeld ?_
        rotate_left
        · (intro wS hSw; (try dsimp only at hSw); go_simp; try with_reducible rfl)
        (try simp only [Act.put, List.getElem_toArray, List.getElem_cons_zero, List.getElem_cons_succ, List.setIfInBounds_toArray, List.set_cons_zero, List.set_cons_succ])
        refine wpAnyH_take (i := 23) (v := ?_) rfl (by kernel_rfl) (by kernel_rfl) (by kernel_rfl) (fun _ _ _ h => h) (Or.inl ⟨by rfl, ?_⟩) hHeld ?_
        rotate_left
        · (intro wS hSw; (try dsimp only at hSw); go_simp; try with_reducible rfl)
        (try simp only [Act.put, List.getElem_toArray, List.getElem_cons_zero, List.getElem_cons_succ, List.setIfInBounds_toArray, List.set_cons_zero, List.set_cons_succ])
        refine wpAnyH_take (i := 26) (v := ?_) rfl (by kernel_rfl) (by kernel_rfl) (by kernel_rfl) (fun _ _ _ h => h) (Or.inl ⟨by rfl, ?_⟩) hHeld ?_
        rotate_left
        · (intro wS hSw; (try dsimp only at hSw); go_simp; try with_reducible rfl)
        (try simp only [Act.put, List.getElem_toArray, List.getElem_cons_zero, List.getElem_cons_succ, List.setIfInBounds_toArray, List.set_cons_zero, List.set_cons_succ])
        refine wpAnyH_take (i := 27) (v := ?_) rfl (by kernel_rfl) (by kernel_rfl) (by kernel_rfl) (fun _ _ _ h => h) (Or.inl ⟨by rfl, ?_⟩) hHeld ?_
        rotate_left
        · (intro wS hSw; (try dsimp only at hSw); go_simp; try with_reducible rfl)
        (try simp only [Act.put, List.getElem_toArray, List.getElem_cons_zero, List.getElem_cons_succ, List.setIfInBounds_toArray, List.set_cons_zero, List.set_cons_succ])
        refine wpAnyH_ready (rs := [22]) (by kernel_rfl) (by simp) ?_
        refine AllReadyH.cons rfl (fun K hK => ?_) AllReadyH.nil
        (try simp only [List.getElem_toArray, List.getElem_cons_zero, List.getElem_cons_succ, List.setIfInBounds_toArray, List.set_cons_zero, List.set_cons_succ])
        try go_simp
        refine (KL.out _ (bl_tr HBR.out (HB9.out))).mono ?_; rintro e wa ⟨cwa, rfl, hbq, hT⟩; have HBa : Hid (Below wr.heap.size wr wa) := Lib.hid (bl_tr (HB9.out) hbq); have HTa := Lib.hid (hT.mono memX_le); have HBax := Lib.hid hbq; clear hbq hT
        try go_simp
        refine hK.out _ _ ?_ (fun hHeld => ?_)
        · exact HBa.out
        (try simp only [Act.put, List.getElem_toArray, List.getElem_cons_zero, List.getElem_cons_succ, List.setIfInBounds_toArray, List.set_cons_zero, List.set_cons_succ])
        refine wpAnyH_ready (rs := [24]) (by kernel_rfl) (by simp) ?_
        refine AllReadyH.cons rfl (fun K hK => ?_) AllReadyH.nil
        (try simp only [List.getElem_toArray, List.getElem_cons_zero, List.getElem_cons_succ, List.setIfInBounds_toArray, List.set_cons_zero, List.set_cons_succ])
        try go_simp
        refine (KM.out _ (bl_tr HBR.out (HBa.out))).mono ?_; rintro e wb ⟨cwb, rfl, hbq, hT⟩; have HBb : Hid (Below wr.heap.size wr wb) := Lib.hid (bl_tr (HBa.out) hbq); have HTb := Lib.hid (hT.mono memX_le); have HBbx := Lib.hid hbq; clear hbq hT
        try go_simp
        refine hK.out _ _ ?_ (fun hHeld => ?_)
        · exact HBb.out
        (try simp only [Act.put, List.getElem_toArray, List.getElem_cons_zero, List.getElem_cons_succ, List.setIfInBounds_toArray, List.set_cons_zero, List.set_cons_succ])
        refine wpAnyH_ready (rs := [25]) (by kernel_rfl) (by simp) ?_
        refine AllReadyH.cons rfl (fun K hK => ?_) AllReadyH.nil
        (try simp only [List.getElem_toArray, List.getElem_cons_zero, List.getElem_cons_succ, List.setIfInBounds_toArray, List.set_cons_zero, List.set_cons_succ])
        try go_simp
        refine (sameDes_any L M cwa cwb wb (HTa.out.mono (mem_below HBbx.out)) HTb.out).mono ?_; rintro e wc ⟨rfl, hbq⟩; have HBc : Hid (Below wr.heap.size wr wc) := Lib.hid (bl_tr HBb.out hbq); clear hbq
        try go_simp
        refine hK.out _ _ ?_ (fun hHeld => ?_)
        · exact HBc.out
        (try simp only [Act.put, List.getElem_toArray, List.getElem_cons_zero, List.getElem_cons_succ, List.setIfInBounds_toArray, List.set_cons_zero, List.set_cons_succ])
        refine wpAnyH_ready (rs := [28]) (by kernel_rfl) (by simp) ?_
        refine AllReadyH.cons rfl (fun K hK => ?_) AllReadyH.nil
        (try simp only [List.getElem_toArray, List.getElem_cons_zero, List.getElem_cons_succ, List.setIfInBounds_toArray, List.set_cons_zero, List.set_cons_succ])
        try go_simp
        refine (rsDes_any L M _ _ wc (CL.out _ HBc.out) (CM.out _ HBc.out)).mono ?_; rintro e wd ⟨rfl, hbq⟩; have HBd : Hid (Below wr.heap.size wr wd) := Lib.hid (bl_tr HBc.out hbq); clear hbq
        try go_simp
        refine hK.out _ _ ?_ (fun hHeld => ?_)
        · exact HBd.out
        (try simp only [Act.put, List.getElem_toArray, List.getElem_cons_zero, List.getElem_cons_succ, List.setIfInBounds_toArray, List.set_cons_zero, List.set_cons_succ])
        refine wpAnyH_take (i := 29) (v := ?_) rfl (by kernel_rfl) (by kernel_rfl) (by kernel_rfl) (fun _ _ _ h => h) (Or.inl ⟨by rfl, ?_⟩) hHeld ?_
        rotate_left
        · (intro wS hSw; (try dsimp only at hSw); go_simp; try with_reducible rfl)
        (try simp only [Act.put, List.getElem_toArray, List.getElem_cons_zero, List.getElem_cons_succ, List.setIfInBounds_toArray, List.set_cons_zero, List.set_cons_succ])
        refine wpAnyH_take (i := 30) (v := ?_) rfl (by kernel_rfl) (by kernel_rfl) (by kernel_rfl) (fun _ _ _ h => h) (Or.inl ⟨by rfl, ?_⟩) hHeld ?_
        rotate_left
        · (intro wS hSw; (try dsimp only at hSw); go_simp; try with_reducible rfl)
        (try simp only [Act.put, List.getElem_toArray, List.getElem_cons_zero, List.getElem_cons_succ, List.setIfInBounds_toArray, List.set_cons_zero, List.set_cons_succ])
        refine wpAnyH_take (i := 31) (v := ?_) rfl (by kernel_rfl) (by kernel_rfl) (by kernel_rfl) (fun _ _ _ h => h) (Or.inl ⟨by rfl, ?_⟩) hHeld ?_
        rotate_left
        · (intro wS hSw; (try dsimp only at hSw); go_simp; try with_reducible rfl)
        (try simp only [Act.put, List.getElem_toArray, List.getElem_cons_zero, List.getElem_cons_succ, List.setIfInBounds_toArray, List.set_cons_zero, List.set_cons_succ])
        refine wpAnyH_ready (rs := [32]) (by kernel_rfl) (by simp) ?_
        refine AllReadyH.cons rfl (fun K hK => ?_) AllReadyH.nil
        (try simp only [List.getElem_toArray, List.getElem_cons_zero, List.getElem_cons_succ, List.setIfInBounds_toArray, List.set_cons_zero, List.set_cons_succ])
        try go_simp
        refine (knows_any wd).mono ?_; rintro e we ⟨rfl, hbq⟩; have HBe : Hid (Below wr.heap.size wr we) := Lib.hid (bl_tr HBd.out hbq); clear hbq
        try go_simp
        refine hK.out _ _ ?_ (fun hHeld => ?_)
        · exact HBe.out
        (try simp only [Act.put, List.getElem_toArray, List.getElem_cons_zero, List.getElem_cons_succ, List.setIfInBounds_toArray, List.set_cons_zero, List.set_cons_succ])
        refine wpAnyH_take (i := 33) (v := ?_) rfl (by kernel_rfl) (by kernel_rfl) (by kernel_rfl) (fun _ _ _ h => h) (Or.inl ⟨by rfl, ?_⟩) hHeld ?_
        rotate_left
        · (intro wS hSw; (try dsimp only at hSw); go_simp; try with_reducible rfl)
        (try simp only [Act.put, List.getElem_toArray, List.getElem_cons_zero, List.getElem_cons_succ, List.setIfInBounds_toArray, List.set_cons_zero, List.set_cons_succ])
        refine wpAnyH_take (i := 34) (v := ?_) rfl (by kernel_rfl) (by kernel_rfl) (by kernel_rfl) (fun _ _ _ h => h) (Or.inl ⟨by rfl, ?_⟩) hHeld ?_
        rotate_left
        · (intro wS hSw; (try dsimp only at hSw); go_simp; try with_reducible rfl)
        (try simp only [Act.put, List.getElem_toArray, List.getElem_cons_zero, List.getElem_cons_succ, List.setIfInBounds_toArray, List.set_cons_zero, List.set_cons_succ])
        refine wpAnyH_done (by kernel_rfl) ?_ _
        go_wp2_with fail
        go_ret
        exact ⟨ret_b (by simp), bl_tr HW1.out (bl_tr HBR.out HBe.out)⟩
end Go.Proofs.YtfeghobfkgimfaaGreat
