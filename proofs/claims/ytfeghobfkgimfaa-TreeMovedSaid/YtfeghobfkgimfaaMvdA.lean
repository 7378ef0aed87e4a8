/- TreeMoved answers true. -/
import Derived.Test.YtfeghobfkgimfaaMovA
namespace Go.Proofs.Ytfeghobfkgimfaa
set_option linter.unusedSimpArgs false
set_option linter.unusedVariables false
open Go.RowKit Go.Shelf

theorem row_of {W : World} {g : Nat} {t : TypeId} {sz : Nat} (Cs : List (List Value)) (hl : ∀ c ∈ Cs, c.length = sz) (h : W.heap[g]? = some (.cells Cs.flatten.toArray t (0, 0))) : SlAt (mem W) sz (some ⟨g, 0, none⟩) Cs.length (fun i => Cs.getD i []) := fun h0 => by
  have e1 : flat Cs.length (fun i => Cs.getD i []) = Cs.flatten := by
    unfold flat
    congr 1
    apply List.ext_getElem
    · simp
    · intro i h1 h2; simp [h2]
  refine ⟨g, 0, rfl, fun i hi j hj => ?_⟩
  have hl2 : ∀ i, i < Cs.length → ((fun i => Cs.getD i []) i).length = sz := fun i hi => by
    have e : Cs.getD i [] = Cs[i] := by simp [hi]
    show (Cs.getD i []).length = sz
    rw [e]; exact hl _ (List.getElem_mem hi)
  show W.cell? ⟨g, 0 + i * sz + j, none⟩ = _
  rw [cell_of_row W g _ _ _ _ h, Nat.zero_add, List.getElem?_toArray, ← e1]
  exact flat_at hl2 i j hi hj
theorem mem_true (w : World) : (mem w).le (memX w (fun _ => True)) := mem_le_X fun g _ => ⟨trivial, rfl⟩

set_option maxRecDepth 100000 in
set_option maxHeartbeats 16000000 in
theorem moves_any (Ee Ff : Ex) (ec fc : List Value) (by_ : Int) (w : World) (hE : ExC (mem w) Ee ec) (hF : ExC (mem w) Ff fc) :
    Calls Try.prog 8 #[.agg ec.toArray, .agg fc.toArray, .int .i64 by_] w (RightV true w) := by
  obtain ⟨e0, e1, e2, e3, e4, e5, e6, e7, rfl⟩ := len8 hE.len
  obtain ⟨f0, f1, f2, f3, f4, f5, f6, f7, rfl⟩ := len8 hF.len
  have hokE := hE.ok; have hokF := hF.ok
  have hW1 := bl_al (bl1 w (.cells #[e0, e1, e2, e3, e4, e5, e6, e7] 86)) (.cells #[f0, f1, f2, f3, f4, f5, f6, f7] 86)
  obtain ⟨W1, eW1⟩ : ∃ W1, (w.alloc (.cells #[e0, e1, e2, e3, e4, e5, e6, e7] 86)).alloc (.cells #[f0, f1, f2, f3, f4, f5, f6, f7] 86) = W1 := ⟨_, rfl⟩
  have k0 : Blk W1 w.heap.size 86 #[e0, e1, e2, e3, e4, e5, e6, e7] := by rw [← eW1]; exact bk_alloc (bk_new _ _ _ _ rfl) _
  have k1 : Blk W1 (w.heap.size + 1) 86 #[f0, f1, f2, f3, f4, f5, f6, f7] := by rw [← eW1]; exact bk_new _ _ _ _ (by simp)
  rw [eW1] at hW1
  have HW1 := Lib.hid hW1; have HEW := Lib.hid eW1
  have RE0 : Hid (∀ w', Below W1.heap.size W1 w' → w'.rangeAt w.heap.size 0 [e0, e1, e2, e3, e4, e5, e6, e7]) := Lib.hid (fun w' hw' j v hv => by rw [Nat.zero_add, cell_of_row w' _ _ _ _ _ (bk_below k0 hw'), List.getElem?_toArray]; exact hv)
  have RF0 : Hid (∀ w', Below W1.heap.size W1 w' → w'.rangeAt (w.heap.size + 1) 0 [f0, f1, f2, f3, f4, f5, f6, f7]) := Lib.hid (fun w' hw' j v hv => by rw [Nat.zero_add, cell_of_row w' _ _ _ _ _ (bk_below k1 hw'), List.getElem?_toArray]; exact hv)
  have GE : Hid (∀ w', Below W1.heap.size W1 w' → ExC (mem w') Ee [e0, e1, e2, e3, e4, e5, e6, e7]) := Lib.hid (fun w' hw' => hE.mono (mem_below (bl_tr hW1 hw')))
  have GF : Hid (∀ w', Below W1.heap.size W1 w' → ExC (mem w') Ff [f0, f1, f2, f3, f4, f5, f6, f7]) := Lib.hid (fun w' hw' => hF.mono (mem_below (bl_tr hW1 hw')))
  have IE := Lib.hid (show (Try.prog.info? 86).map (·.size) = some ([e0, e1, e2, e3, e4, e5, e6, e7] : List Value).length from Try.irE)
  have IF := Lib.hid (show (Try.prog.info? 86).map (·.size) = some ([f0, f1, f2, f3, f4, f5, f6, f7] : List Value).length from Try.irE)
  have hrow : ExsV (mem (W1.alloc (.cells #[e0, e1, e2, e3, e4, e5, e6, e7, f0, f1, f2, f3, f4, f5, f6, f7] 86))) [Ee, Ff] (.slice (some ⟨W1.heap.size, 0, none⟩) 2 2) := by
    refine ⟨_, 2, fun i => ([[e0, e1, e2, e3, e4, e5, e6, e7], [f0, f1, f2, f3, f4, f5, f6, f7]] : List (List Value)).getD i [], rfl, ⟨Nat.le_refl _, by unfold maxLen; decide⟩, row_of (t := 86) [[e0, e1, e2, e3, e4, e5, e6, e7], [f0, f1, f2, f3, f4, f5, f6, f7]] (by simp) (heap_alloc_new W1 _), fun i hi => ?_⟩
    match i, hi with
    | 0, _ => exact GE.out _ (bl1 W1 _)
    | 1, _ => exact GF.out _ (bl1 W1 _)
  have HLT := Lib.hid (light_any _ _ _ hrow)
  have hgone := fewExs_gone [Ee, Ff] 600
  obtain ⟨z1, hz1⟩ : ∃ z, z = fewExs [Ee, Ff] 600 := ⟨_, rfl⟩
  rw [← hz1] at HLT hgone
  have hbig : 0 ≤ z1 → cntEx Ee ≤ 600 ∧ cntEx Ff ≤ 600 := fun h0 => by
    have h1 := hgone.2 h0
    simp only [cntExs] at h1
    omega
  have HBIG := Lib.hid hbig
  clear hW1 k0 k1 hE hF hrow hgone hbig hz1 hokE hokF eW1
  go_enter Try.func8, Try.ntmps8
  go_wp2_with (first | ((with_reducible refine at_ld 10 ?_); rw [HEW.out]; refine wpList_load_mid rfl 86 (.tmp 3) rfl w.heap.size 0 rfl [e0, e1, e2, e3, e4, e5, e6, e7] _ (RE0.out _ (Below.refl _ _)) Try.underlying86 rfl IE.out ?_) | ((with_reducible refine at_ld 11 ?_); refine wpList_load_mid rfl 86 (.tmp 4) rfl (w.heap.size + 1) 0 rfl [f0, f1, f2, f3, f4, f5, f6, f7] _ (RF0.out _ (Below.refl _ _)) Try.underlying86 rfl IF.out ?_))
  refine HLT.out.mono ?_
  rintro e w2 ⟨rfl, hb2⟩
  have HB2 : Hid (Below W1.heap.size W1 w2) := Lib.hid (bl_tr (bl1 W1 _) hb2)
  clear hb2
  cases hq : decide (0 ≤ z1) with
  | false =>
    go_wp2_with fail
    refine (knows_any _).mono ?_
    rintro e wk ⟨rfl, hbk⟩
    have HBK := Lib.hid (bl_tr HW1.out (bl_tr HB2.out hbk))
    clear hbk
    go_wp2_with fail
    go_ret
    exact ⟨rfl, HBK.out⟩
  | true =>
  have hz : 0 ≤ z1 := by simpa using hq
  have HLim := Lib.hid (HBIG.out hz)
  clear hq hz
  go_wp2_with (((with_reducible refine at_ld 16 ?_); refine wpList_load_mid rfl 86 (.tmp 3) rfl w.heap.size 0 rfl [e0, e1, e2, e3, e4, e5, e6, e7] _ (RE0.out _ HB2.out) Try.underlying86 rfl IE.out ?_))
  refine (ownEx_any Ee [e0, e1, e2, e3, e4, e5, e6, e7] w2 (by have := HLim.out; omega) (GE.out w2 HB2.out)).mono ?_
  rintro e w3 ⟨ca, rfl, hb3, hTa⟩
  have hoka := hTa.ok
  obtain ⟨a0, a1, a2, a3, a4, a5, a6, a7, rfl⟩ := len8 hTa.len
  have HB3 : Hid (Below W1.heap.size W1 w3) := Lib.hid (bl_tr HB2.out hb3)
  obtain ⟨ga, hga⟩ : ∃ g, g = w3.heap.size := ⟨_, rfl⟩
  obtain ⟨W4, eW4⟩ : ∃ W4, w3.alloc (.cells #[a0, a1, a2, a3, a4, a5, a6, a7] 93) = W4 := ⟨_, rfl⟩
  have HB34 : Hid (Below w3.heap.size w3 W4) := Lib.hid (by rw [← eW4]; exact bl1 w3 _)
  have HKA : Hid (Blk W4 ga 93 #[a0, a1, a2, a3, a4, a5, a6, a7]) := Lib.hid (by rw [← eW4, hga]; exact bk_new _ _ _ _ rfl)
  have HTA : Hid (ExC (mem W4) Ee [a0, a1, a2, a3, a4, a5, a6, a7]) := Lib.hid ((hTa.mono memX_le).mono (mem_below HB34.out))
  have HB4 : Hid (Below W1.heap.size W1 W4) := Lib.hid (bl_tr HB3.out HB34.out)
  have HE4 := Lib.hid eW4; have HGA := Lib.hid hga; have HOKA := Lib.hid hoka.arr
  have ITE := Lib.hid Try.riExpr
  clear hb3 hTa eW4 hga hoka
  go_wp2_with (first | ((with_reducible refine at_st 7 17 ?_); refine wpList_store_new rfl 93 (.tmp 7) (.tmp 17) rfl w3.heap.size rfl rfl #[a0, a1, a2, a3, a4, a5, a6, a7] rfl #[.int .i64 0, .int .i64 0, .string { data := #[] }, .int .i64 0, .slice none 0 0, .slice none 0 0, .slice none 0 0, .slice none 0 0] ITE.out rfl HOKA.out ?_; rw [HE4.out, ← HGA.out]) | ((with_reducible refine at_ld 18 ?_); refine wpList_load_mid rfl 86 (.tmp 4) rfl (w.heap.size + 1) 0 rfl [f0, f1, f2, f3, f4, f5, f6, f7] _ (RF0.out _ HB4.out) Try.underlying86 rfl IF.out ?_))
  refine (ownEx_any Ff [f0, f1, f2, f3, f4, f5, f6, f7] W4 (by have := HLim.out; omega) (GF.out W4 HB4.out)).mono ?_
  rintro e w5 ⟨cb, rfl, hb5, hTb⟩
  have hokb := hTb.ok
  obtain ⟨b0, b1, b2, b3, b4, b5, b6, b7, rfl⟩ := len8 hTb.len
  have HB45 : Hid (Below W4.heap.size W4 w5) := Lib.hid hb5
  obtain ⟨gb, hgb⟩ : ∃ g, g = w5.heap.size := ⟨_, rfl⟩
  obtain ⟨W6, eW6⟩ : ∃ W6, w5.alloc (.cells #[b0, b1, b2, b3, b4, b5, b6, b7] 93) = W6 := ⟨_, rfl⟩
  have HB56 : Hid (Below w5.heap.size w5 W6) := Lib.hid (by rw [← eW6]; exact bl1 w5 _)
  have HKB : Hid (Blk W6 gb 93 #[b0, b1, b2, b3, b4, b5, b6, b7]) := Lib.hid (by rw [← eW6, hgb]; exact bk_new _ _ _ _ rfl)
  have HTB : Hid (ExC (mem W6) Ff [b0, b1, b2, b3, b4, b5, b6, b7]) := Lib.hid ((hTb.mono memX_le).mono (mem_below HB56.out))
  have HB46 : Hid (Below W4.heap.size W4 W6) := Lib.hid (bl_tr HB45.out HB56.out)
  have HE6 := Lib.hid eW6; have HGB := Lib.hid hgb; have HOKB := Lib.hid hokb.arr
  have RA6 : Hid (W6.rangeAt ga 0 [a0, a1, a2, a3, a4, a5, a6, a7]) := Lib.hid (fun j v hv => by rw [Nat.zero_add, cell_of_row W6 _ _ _ _ _ (bk_below HKA.out HB46.out), List.getElem?_toArray]; exact hv)
  clear hb5 hTb eW6 hgb hokb
  go_wp2_with (first | ((with_reducible refine at_st 8 19 ?_); refine wpList_store_new rfl 93 (.tmp 8) (.tmp 19) rfl w5.heap.size rfl rfl #[b0, b1, b2, b3, b4, b5, b6, b7] rfl #[.int .i64 0, .int .i64 0, .string { data := #[] }, .int .i64 0, .slice none 0 0, .slice none 0 0, .slice none 0 0, .slice none 0 0] ITE.out rfl HOKB.out ?_; rw [HE6.out, ← HGB.out]) | ((with_reducible refine at_ld 20 ?_); refine wpList_load_mid rfl 93 (.tmp 7) rfl ga 0 rfl [a0, a1, a2, a3, a4, a5, a6, a7] _ RA6.out Try.underlying93 rfl Try.riExpr ?_))
  refine (moved_any Ee [a0, a1, a2, a3, a4, a5, a6, a7] by_ (fun _ => True) W6 (by have := HLim.out; omega) ((HTA.out.mono (mem_below HB46.out)).mono (mem_true W6))).mono ?_
  rintro e w7 ⟨Dc, cc, rfl, hb7, hmv, hTc⟩
  have hokc := hTc.ok
  obtain ⟨c0, c1, c2, c3, c4, c5, c6, c7, rfl⟩ := len8 hTc.len
  have HB67 : Hid (Below W6.heap.size W6 w7) := Lib.hid hb7
  obtain ⟨gc, hgc⟩ : ∃ g, g = w7.heap.size := ⟨_, rfl⟩
  obtain ⟨W8, eW8⟩ : ∃ W8, w7.alloc (.cells #[c0, c1, c2, c3, c4, c5, c6, c7] 93) = W8 := ⟨_, rfl⟩
  have HB78 : Hid (Below w7.heap.size w7 W8) := Lib.hid (by rw [← eW8]; exact bl1 w7 _)
  have HKC : Hid (Blk W8 gc 93 #[c0, c1, c2, c3, c4, c5, c6, c7]) := Lib.hid (by rw [← eW8, hgc]; exact bk_new _ _ _ _ rfl)
  have HB68 : Hid (Below W6.heap.size W6 W8) := Lib.hid (bl_tr HB67.out HB78.out)
  have HB48 : Hid (Below W4.heap.size W4 W8) := Lib.hid (bl_tr HB46.out HB68.out)
  have HB18 : Hid (Below W1.heap.size W1 W8) := Lib.hid (bl_tr HB4.out HB48.out)
  have TA : Hid (∀ w', Below W8.heap.size W8 w' → ExC (mem w') Ee [a0, a1, a2, a3, a4, a5, a6, a7]) := Lib.hid (fun w' hw' => HTA.out.mono (mem_below (bl_tr HB48.out hw')))
  have TB : Hid (∀ w', Below W8.heap.size W8 w' → ExC (mem w') Ff [b0, b1, b2, b3, b4, b5, b6, b7]) := Lib.hid (fun w' hw' => HTB.out.mono (mem_below (bl_tr HB68.out hw')))
  have TC : Hid (∀ w', Below W8.heap.size W8 w' → ExC (mem w') Dc [c0, c1, c2, c3, c4, c5, c6, c7]) := Lib.hid (fun w' hw' => (hTc.mono memX_le).mono (mem_below (bl_tr HB78.out hw')))
  have hlaw := alike_all hmv.1 Ff
  have hsz := size_le Ee
  have hca : cntEx Ee ≤ 100000 := by have := HLim.out; omega
  have hcb : cntEx Ff ≤ 100000 := by have := HLim.out; omega
  have hcc : cntEx Dc ≤ 100000 := by rw [hmv.2]; exact hca
  obtain ⟨l1, l2, l3, l4, l5, l6, l7, l8⟩ := hlaw
  obtain ⟨sb, hsb⟩ : ∃ s, s = sameEx Ee Ff := ⟨_, rfl⟩
  obtain ⟨n, hn⟩ : ∃ s, s = sizeEx Ee := ⟨_, rfl⟩
  obtain ⟨d, hd⟩ : ∃ s, s = deepEx Ee := ⟨_, rfl⟩
  obtain ⟨r, hr⟩ : ∃ s, s = rEx Ee 400 := ⟨_, rfl⟩
  have KAC := Lib.hid (fun (W : World) (hW : Below W8.heap.size W8 W) => (by have h := sameEx_any Ee Dc _ _ W (TA.out W hW) (TC.out W hW); rw [l1] at h; exact h : Calls Try.prog 37 #[.agg ([a0, a1, a2, a3, a4, a5, a6, a7] : List Value).toArray, .agg ([c0, c1, c2, c3, c4, c5, c6, c7] : List Value).toArray] W (RightV true W)))
  have KCA := Lib.hid (fun (W : World) (hW : Below W8.heap.size W8 W) => (by have h := sameEx_any Dc Ee _ _ W (TC.out W hW) (TA.out W hW); rw [l2] at h; exact h : Calls Try.prog 37 #[.agg ([c0, c1, c2, c3, c4, c5, c6, c7] : List Value).toArray, .agg ([a0, a1, a2, a3, a4, a5, a6, a7] : List Value).toArray] W (RightV true W)))
  have KAB := Lib.hid (fun (W : World) (hW : Below W8.heap.size W8 W) => (by have h := sameEx_any Ee Ff _ _ W (TA.out W hW) (TB.out W hW); rw [← hsb] at h; exact h : Calls Try.prog 37 #[.agg ([a0, a1, a2, a3, a4, a5, a6, a7] : List Value).toArray, .agg ([b0, b1, b2, b3, b4, b5, b6, b7] : List Value).toArray] W (RightV sb W)))
  have KCB := Lib.hid (fun (W : World) (hW : Below W8.heap.size W8 W) => (by have h := sameEx_any Dc Ff _ _ W (TC.out W hW) (TB.out W hW); rw [← l3, ← hsb] at h; exact h : Calls Try.prog 37 #[.agg ([c0, c1, c2, c3, c4, c5, c6, c7] : List Value).toArray, .agg ([b0, b1, b2, b3, b4, b5, b6, b7] : List Value).toArray] W (RightV sb W)))
  have KBA := Lib.hid (fun (W : World) (hW : Below W8.heap.size W8 W) => (by have h := sameEx_any Ff Ee _ _ W (TB.out W hW) (TA.out W hW); rw [← l4, ← hsb] at h; exact h : Calls Try.prog 37 #[.agg ([b0, b1, b2, b3, b4, b5, b6, b7] : List Value).toArray, .agg ([a0, a1, a2, a3, a4, a5, a6, a7] : List Value).toArray] W (RightV sb W)))
  have KNO := Lib.hid (fun (W : World) (_ : Below W8.heap.size W8 W) => knows_any W)
  have ZA := Lib.hid (fun (W : World) (hW : Below W8.heap.size W8 W) => (by have h := size_any Ee _ W hca (TA.out W hW); rw [← hn] at h; exact h : Calls Try.prog 38 #[.agg ([a0, a1, a2, a3, a4, a5, a6, a7] : List Value).toArray] W (NumV n W)))
  have ZC := Lib.hid (fun (W : World) (hW : Below W8.heap.size W8 W) => (by have h := size_any Dc _ W hcc (TC.out W hW); rw [← l5, ← hn] at h; exact h : Calls Try.prog 38 #[.agg ([c0, c1, c2, c3, c4, c5, c6, c7] : List Value).toArray] W (NumV n W)))
  have DA := Lib.hid (fun (W : World) (hW : Below W8.heap.size W8 W) => (by have h := deep_any Ee _ W hca (TA.out W hW); rw [← hd] at h; exact h : Calls Try.prog 39 #[.agg ([a0, a1, a2, a3, a4, a5, a6, a7] : List Value).toArray] W (NumV d W)))
  have DC := Lib.hid (fun (W : World) (hW : Below W8.heap.size W8 W) => (by have h := deep_any Dc _ W hcc (TC.out W hW); rw [← l6, ← hd] at h; exact h : Calls Try.prog 39 #[.agg ([c0, c1, c2, c3, c4, c5, c6, c7] : List Value).toArray] W (NumV d W)))
  have TAr := Lib.hid (fun (W : World) (hW : Below W8.heap.size W8 W) => (by have h := RightExpr_any Ee _ W hca (TA.out W hW); rw [← hr] at h; exact h : Calls Try.prog 40 #[.agg ([a0, a1, a2, a3, a4, a5, a6, a7] : List Value).toArray] W (RightV r W)))
  have TCr := Lib.hid (fun (W : World) (hW : Below W8.heap.size W8 W) => (by have h := RightExpr_any Dc _ W hcc (TC.out W hW); rw [← l7, ← hr] at h; exact h : Calls Try.prog 40 #[.agg ([c0, c1, c2, c3, c4, c5, c6, c7] : List Value).toArray] W (RightV r W)))
  have ZB := Lib.hid (fun (hs : sb = true) (W : World) (hW : Below W8.heap.size W8 W) => (by have h := size_any Ff _ W hcb (TB.out W hW); rw [← (l8 (by rw [← hsb]; exact hs)).1, ← hn] at h; exact h : Calls Try.prog 38 #[.agg ([b0, b1, b2, b3, b4, b5, b6, b7] : List Value).toArray] W (NumV n W)))
  have TBr := Lib.hid (fun (hs : sb = true) (W : World) (hW : Below W8.heap.size W8 W) => (by have h := RightExpr_any Ff _ W hcb (TB.out W hW); rw [← (l8 (by rw [← hsb]; exact hs)).2, ← hr] at h; exact h : Calls Try.prog 40 #[.agg ([b0, b1, b2, b3, b4, b5, b6, b7] : List Value).toArray] W (RightV r W)))
  have hdn : d ≤ n := by rw [hd, hn]; exact hsz.2.2.2
  have hd1 : 1 ≤ d := by rw [hd]; exact hsz.2.2.1
  have RA : Hid (∀ w', Below W8.heap.size W8 w' → w'.rangeAt ga 0 [a0, a1, a2, a3, a4, a5, a6, a7]) := Lib.hid (fun w' hw' j v hv => by rw [Nat.zero_add, cell_of_row w' _ _ _ _ _ (bk_below HKA.out (bl_tr HB48.out hw')), List.getElem?_toArray]; exact hv)
  have RB : Hid (∀ w', Below W8.heap.size W8 w' → w'.rangeAt gb 0 [b0, b1, b2, b3, b4, b5, b6, b7]) := Lib.hid (fun w' hw' j v hv => by rw [Nat.zero_add, cell_of_row w' _ _ _ _ _ (bk_below HKB.out (bl_tr HB68.out hw')), List.getElem?_toArray]; exact hv)
  have RC : Hid (∀ w', Below W8.heap.size W8 w' → w'.rangeAt gc 0 [c0, c1, c2, c3, c4, c5, c6, c7]) := Lib.hid (fun w' hw' j v hv => by rw [Nat.zero_add, cell_of_row w' _ _ _ _ _ (bk_below HKC.out hw'), List.getElem?_toArray]; exact hv)
  have IA := Lib.hid (show (Try.prog.info? 93).map (·.size) = some ([a0, a1, a2, a3, a4, a5, a6, a7] : List Value).length from Try.riExpr)
  have IB := Lib.hid (show (Try.prog.info? 93).map (·.size) = some ([b0, b1, b2, b3, b4, b5, b6, b7] : List Value).length from Try.riExpr)
  have IC := Lib.hid (show (Try.prog.info? 93).map (·.size) = some ([c0, c1, c2, c3, c4, c5, c6, c7] : List Value).length from Try.riExpr)
  have HE8 := Lib.hid eW8; have HGC := Lib.hid hgc; have HOKC := Lib.hid hokc.arr
  clear hb7 hTc eW8 hgc hokc hmv hsz l1 l2 l3 l4 l5 l6 l7 l8 hsb hn hd hr hca hcb hcc
  go_wp2_with ((with_reducible refine at_st 9 22 ?_); refine wpList_store_new rfl 93 (.tmp 9) (.tmp 22) rfl w7.heap.size rfl rfl #[c0, c1, c2, c3, c4, c5, c6, c7] rfl #[.int .i64 0, .int .i64 0, .string { data := #[] }, .int .i64 0, .slice none 0 0, .slice none 0 0, .slice none 0 0, .slice none 0 0] ITE.out rfl HOKC.out ?_; rw [HE8.out, ← HGC.out])
  refine wp_region_held_drew (S := fun w' => Below W8.heap.size W8 w') (by kernel_rfl) (Below.drew (Below.refl _ _)) (fun hHeld => ?_)
  refine wpAnyH_take (i := 0) rfl (by kernel_rfl) (by kernel_rfl) (by kernel_rfl) (fun _ _ _ h => h) (yieldsIf_load_mid (by rfl) 93 (.tmp 7) rfl ga (0) rfl ([a0, a1, a2, a3, a4, a5, a6, a7]) _ RA.out Try.underlying93 rfl IA.out) hHeld ?_
  (try simp only [Act.put, List.getElem_toArray, List.getElem_cons_zero, List.getElem_cons_succ, List.setIfInBounds_toArray, List.set_cons_zero, List.set_cons_succ])
  refine wpAnyH_take (i := 1) rfl (by kernel_rfl) (by kernel_rfl) (by kernel_rfl) (fun _ _ _ h => h) (yieldsIf_load_mid (by rfl) 93 (.tmp 9) rfl gc (0) rfl ([c0, c1, c2, c3, c4, c5, c6, c7]) _ RC.out Try.underlying93 rfl IC.out) hHeld ?_
  (try simp only [Act.put, List.getElem_toArray, List.getElem_cons_zero, List.getElem_cons_succ, List.setIfInBounds_toArray, List.set_cons_zero, List.set_cons_succ])
  refine wpAnyH_ready (rs := [2]) (by kernel_rfl) (by simp) ?_
  refine AllReadyH.cons rfl (fun K hK => ?_) AllReadyH.nil
  (try simp only [List.getElem_toArray, List.getElem_cons_zero, List.getElem_cons_succ, List.setIfInBounds_toArray, List.set_cons_zero, List.set_cons_succ])
  try go_simp
  refine (KAC.out _ (Below.drew (Below.refl _ _))).mono ?_; rintro e x1 ⟨rfl, hbq⟩; have HX1 : Hid (Below W8.heap.size W8 x1) := Lib.hid (bl_tr (Below.drew (Below.refl _ _)) hbq); clear hbq
  try go_simp
  refine hK.out _ _ ?_ (fun hHeld => ?_)
  · exact HX1.out
  (try simp only [Act.put, List.getElem_toArray, List.getElem_cons_zero, List.getElem_cons_succ, List.setIfInBounds_toArray, List.set_cons_zero, List.set_cons_succ])
  refine wpAnyH_take (i := 3) (v := ?_) rfl (by kernel_rfl) (by kernel_rfl) (by kernel_rfl) (fun _ _ _ h => h) (Or.inl ⟨by rfl, ?_⟩) hHeld ?_
  rotate_left
  · (intro wS hSw; (try dsimp only at hSw); go_simp; try with_reducible rfl)
  (try simp only [Act.put, List.getElem_toArray, List.getElem_cons_zero, List.getElem_cons_succ, List.setIfInBounds_toArray, List.set_cons_zero, List.set_cons_succ])
  refine wpAnyH_take (i := 4) (v := ?_) rfl (by kernel_rfl) (by kernel_rfl) (by kernel_rfl) (fun _ _ _ h => h) (Or.inl ⟨by rfl, ?_⟩) hHeld ?_
  rotate_left
  · (intro wS hSw; (try dsimp only at hSw); go_simp; try with_reducible rfl)
  (try simp only [Act.put, List.getElem_toArray, List.getElem_cons_zero, List.getElem_cons_succ, List.setIfInBounds_toArray, List.set_cons_zero, List.set_cons_succ])
  refine wpAnyH_take (i := 5) rfl (by kernel_rfl) (by kernel_rfl) (by kernel_rfl) (fun _ _ _ h => h) (yieldsIf_load_mid (by rfl) 93 (.tmp 9) rfl gc (0) rfl ([c0, c1, c2, c3, c4, c5, c6, c7]) _ RC.out Try.underlying93 rfl IC.out) hHeld ?_
  (try simp only [Act.put, List.getElem_toArray, List.getElem_cons_zero, List.getElem_cons_succ, List.setIfInBounds_toArray, List.set_cons_zero, List.set_cons_succ])
  refine wpAnyH_take (i := 6) rfl (by kernel_rfl) (by kernel_rfl) (by kernel_rfl) (fun _ _ _ h => h) (yieldsIf_load_mid (by rfl) 93 (.tmp 7) rfl ga (0) rfl ([a0, a1, a2, a3, a4, a5, a6, a7]) _ RA.out Try.underlying93 rfl IA.out) hHeld ?_
  (try simp only [Act.put, List.getElem_toArray, List.getElem_cons_zero, List.getElem_cons_succ, List.setIfInBounds_toArray, List.set_cons_zero, List.set_cons_succ])
  refine wpAnyH_ready (rs := [7]) (by kernel_rfl) (by simp) ?_
  refine AllReadyH.cons rfl (fun K hK => ?_) AllReadyH.nil
  (try simp only [List.getElem_toArray, List.getElem_cons_zero, List.getElem_cons_succ, List.setIfInBounds_toArray, List.set_cons_zero, List.set_cons_succ])
  try go_simp
  refine (KCA.out _ (HX1.out)).mono ?_; rintro e x2 ⟨rfl, hbq⟩; have HX2 : Hid (Below W8.heap.size W8 x2) := Lib.hid (bl_tr (HX1.out) hbq); clear hbq
  try go_simp
  refine hK.out _ _ ?_ (fun hHeld => ?_)
  · exact HX2.out
  (try simp only [Act.put, List.getElem_toArray, List.getElem_cons_zero, List.getElem_cons_succ, List.setIfInBounds_toArray, List.set_cons_zero, List.set_cons_succ])
  refine wpAnyH_take (i := 8) (v := ?_) rfl (by kernel_rfl) (by kernel_rfl) (by kernel_rfl) (fun _ _ _ h => h) (Or.inl ⟨by rfl, ?_⟩) hHeld ?_
  rotate_left
  · (intro wS hSw; (try dsimp only at hSw); go_simp; try with_reducible rfl)
  (try simp only [Act.put, List.getElem_toArray, List.getElem_cons_zero, List.getElem_cons_succ, List.setIfInBounds_toArray, List.set_cons_zero, List.set_cons_succ])
  refine wpAnyH_take (i := 9) (v := ?_) rfl (by kernel_rfl) (by kernel_rfl) (by kernel_rfl) (fun _ _ _ h => h) (Or.inl ⟨by rfl, ?_⟩) hHeld ?_
  rotate_left
  · (intro wS hSw; (try dsimp only at hSw); go_simp; try with_reducible rfl)
  (try simp only [Act.put, List.getElem_toArray, List.getElem_cons_zero, List.getElem_cons_succ, List.setIfInBounds_toArray, List.set_cons_zero, List.set_cons_succ])
  refine wpAnyH_take (i := 10) (v := ?_) rfl (by kernel_rfl) (by kernel_rfl) (by kernel_rfl) (fun _ _ _ h => h) (Or.inl ⟨by rfl, ?_⟩) hHeld ?_
  rotate_left
  · (intro wS hSw; (try dsimp only at hSw); go_simp; try with_reducible rfl)
  (try simp only [Act.put, List.getElem_toArray, List.getElem_cons_zero, List.getElem_cons_succ, List.setIfInBounds_toArray, List.set_cons_zero, List.set_cons_succ])
  refine wpAnyH_take (i := 11) rfl (by kernel_rfl) (by kernel_rfl) (by kernel_rfl) (fun _ _ _ h => h) (yieldsIf_load_mid (by rfl) 93 (.tmp 7) rfl ga (0) rfl ([a0, a1, a2, a3, a4, a5, a6, a7]) _ RA.out Try.underlying93 rfl IA.out) hHeld ?_
  (try simp only [Act.put, List.getElem_toArray, List.getElem_cons_zero, List.getElem_cons_succ, List.setIfInBounds_toArray, List.set_cons_zero, List.set_cons_succ])
  refine wpAnyH_take (i := 12) rfl (by kernel_rfl) (by kernel_rfl) (by kernel_rfl) (fun _ _ _ h => h) (yieldsIf_load_mid (by rfl) 93 (.tmp 8) rfl gb (0) rfl ([b0, b1, b2, b3, b4, b5, b6, b7]) _ RB.out Try.underlying93 rfl IB.out) hHeld ?_
  (try simp only [Act.put, List.getElem_toArray, List.getElem_cons_zero, List.getElem_cons_succ, List.setIfInBounds_toArray, List.set_cons_zero, List.set_cons_succ])
  refine wpAnyH_take (i := 14) rfl (by kernel_rfl) (by kernel_rfl) (by kernel_rfl) (fun _ _ _ h => h) (yieldsIf_load_mid (by rfl) 93 (.tmp 9) rfl gc (0) rfl ([c0, c1, c2, c3, c4, c5, c6, c7]) _ RC.out Try.underlying93 rfl IC.out) hHeld ?_
  (try simp only [Act.put, List.getElem_toArray, List.getElem_cons_zero, List.getElem_cons_succ, List.setIfInBounds_toArray, List.set_cons_zero, List.set_cons_succ])
  refine wpAnyH_take (i := 15) rfl (by kernel_rfl) (by kernel_rfl) (by kernel_rfl) (fun _ _ _ h => h) (yieldsIf_load_mid (by rfl) 93 (.tmp 8) rfl gb (0) rfl ([b0, b1, b2, b3, b4, b5, b6, b7]) _ RB.out Try.underlying93 rfl IB.out) hHeld ?_
  (try simp only [Act.put, List.getElem_toArray, List.getElem_cons_zero, List.getElem_cons_succ, List.setIfInBounds_toArray, List.set_cons_zero, List.set_cons_succ])
  refine wpAnyH_ready (rs := [13]) (by kernel_rfl) (by simp) ?_
  refine AllReadyH.cons rfl (fun K hK => ?_) AllReadyH.nil
  (try simp only [List.getElem_toArray, List.getElem_cons_zero, List.getElem_cons_succ, List.setIfInBounds_toArray, List.set_cons_zero, List.set_cons_succ])
  try go_simp
  refine (KAB.out _ (HX2.out)).mono ?_; rintro e x3 ⟨rfl, hbq⟩; have HX3 : Hid (Below W8.heap.size W8 x3) := Lib.hid (bl_tr (HX2.out) hbq); clear hbq
  try go_simp
  refine hK.out _ _ ?_ (fun hHeld => ?_)
  · exact HX3.out
  (try simp only [Act.put, List.getElem_toArray, List.getElem_cons_zero, List.getElem_cons_succ, List.setIfInBounds_toArray, List.set_cons_zero, List.set_cons_succ])
  refine wpAnyH_ready (rs := [16]) (by kernel_rfl) (by simp) ?_
  refine AllReadyH.cons rfl (fun K hK => ?_) AllReadyH.nil
  (try simp only [List.getElem_toArray, List.getElem_cons_zero, List.getElem_cons_succ, List.setIfInBounds_toArray, List.set_cons_zero, List.set_cons_succ])
  try go_simp
  refine (KCB.out _ (HX3.out)).mono ?_; rintro e x4 ⟨rfl, hbq⟩; have HX4 : Hid (Below W8.heap.size W8 x4) := Lib.hid (bl_tr (HX3.out) hbq); clear hbq
  try go_simp
  refine hK.out _ _ ?_ (fun hHeld => ?_)
  · exact HX4.out
  (try simp only [Act.put, List.getElem_toArray, List.getElem_cons_zero, List.getElem_cons_succ, List.setIfInBounds_toArray, List.set_cons_zero, List.set_cons_succ])
  refine wpAnyH_take (i := 17) (v := ?_) rfl (by kernel_rfl) (by kernel_rfl) (by kernel_rfl) (fun _ _ _ h => h) (Or.inl ⟨by rfl, ?_⟩) hHeld ?_
  rotate_left
  · (intro wS hSw; (try dsimp only at hSw); go_simp; try with_reducible rfl)
  (try simp only [Act.put, List.getElem_toArray, List.getElem_cons_zero, List.getElem_cons_succ, List.setIfInBounds_toArray, List.set_cons_zero, List.set_cons_succ])
  refine wpAnyH_take (i := 18) (v := ?_) rfl (by kernel_rfl) (by kernel_rfl) (by kernel_rfl) (fun _ _ _ h => h) (Or.inl ⟨by rfl, ?_⟩) hHeld ?_
  rotate_left
  · (intro wS hSw; (try dsimp only at hSw); go_simp; try with_reducible rfl)
  (try simp only [Act.put, List.getElem_toArray, List.getElem_cons_zero, List.getElem_cons_succ, List.setIfInBounds_toArray, List.set_cons_zero, List.set_cons_succ])
  refine wpAnyH_take (i := 19) (v := ?_) rfl (by kernel_rfl) (by kernel_rfl) (by kernel_rfl) (fun _ _ _ h => h) (Or.inl ⟨by rfl, ?_⟩) hHeld ?_
  rotate_left
  · (intro wS hSw; (try dsimp only at hSw); go_simp; try with_reducible rfl)
  (try simp only [Act.put, List.getElem_toArray, List.getElem_cons_zero, List.getElem_cons_succ, List.setIfInBounds_toArray, List.set_cons_zero, List.set_cons_succ])
  refine wpAnyH_take (i := 20) rfl (by kernel_rfl) (by kernel_rfl) (by kernel_rfl) (fun _ _ _ h => h) (yieldsIf_load_mid (by rfl) 93 (.tmp 7) rfl ga (0) rfl ([a0, a1, a2, a3, a4, a5, a6, a7]) _ RA.out Try.underlying93 rfl IA.out) hHeld ?_
  (try simp only [Act.put, List.getElem_toArray, List.getElem_cons_zero, List.getElem_cons_succ, List.setIfInBounds_toArray, List.set_cons_zero, List.set_cons_succ])
  refine wpAnyH_take (i := 21) rfl (by kernel_rfl) (by kernel_rfl) (by kernel_rfl) (fun _ _ _ h => h) (yieldsIf_load_mid (by rfl) 93 (.tmp 8) rfl gb (0) rfl ([b0, b1, b2, b3, b4, b5, b6, b7]) _ RB.out Try.underlying93 rfl IB.out) hHeld ?_
  (try simp only [Act.put, List.getElem_toArray, List.getElem_cons_zero, List.getElem_cons_succ, List.setIfInBounds_toArray, List.set_cons_zero, List.set_cons_succ])
  refine wpAnyH_take (i := 23) rfl (by kernel_rfl) (by kernel_rfl) (by kernel_rfl) (fun _ _ _ h => h) (yieldsIf_load_mid (by rfl) 93 (.tmp 8) rfl gb (0) rfl ([b0, b1, b2, b3, b4, b5, b6, b7]) _ RB.out Try.underlying93 rfl IB.out) hHeld ?_
  (try simp only [Act.put, List.getElem_toArray, List.getElem_cons_zero, List.getElem_cons_succ, List.setIfInBounds_toArray, List.set_cons_zero, List.set_cons_succ])
  refine wpAnyH_take (i := 24) rfl (by kernel_rfl) (by kernel_rfl) (by kernel_rfl) (fun _ _ _ h => h) (yieldsIf_load_mid (by rfl) 93 (.tmp 7) rfl ga (0) rfl ([a0, a1, a2, a3, a4, a5, a6, a7]) _ RA.out Try.underlying93 rfl IA.out) hHeld ?_
  (try simp only [Act.put, List.getElem_toArray, List.getElem_cons_zero, List.getElem_cons_succ, List.setIfInBounds_toArray, List.set_cons_zero, List.set_cons_succ])
  refine wpAnyH_ready (rs := [22]) (by kernel_rfl) (by simp) ?_
  refine AllReadyH.cons rfl (fun K hK => ?_) AllReadyH.nil
  (try simp only [List.getElem_toArray, List.getElem_cons_zero, List.getElem_cons_succ, List.setIfInBounds_toArray, List.set_cons_zero, List.set_cons_succ])
  try go_simp
  refine (KAB.out _ (HX4.out)).mono ?_; rintro e x5 ⟨rfl, hbq⟩; have HX5 : Hid (Below W8.heap.size W8 x5) := Lib.hid (bl_tr (HX4.out) hbq); clear hbq
  try go_simp
  refine hK.out _ _ ?_ (fun hHeld => ?_)
  · exact HX5.out
  (try simp only [Act.put, List.getElem_toArray, List.getElem_cons_zero, List.getElem_cons_succ, List.setIfInBounds_toArray, List.set_cons_zero, List.set_cons_succ])
  refine wpAnyH_ready (rs := [25]) (by kernel_rfl) (by simp) ?_
  refine AllReadyH.cons rfl (fun K hK => ?_) AllReadyH.nil
  (try simp only [List.getElem_toArray, List.getElem_cons_zero, List.getElem_cons_succ, List.setIfInBounds_toArray, List.set_cons_zero, List.set_cons_succ])
  try go_simp
  refine (KBA.out _ (HX5.out)).mono ?_; rintro e x6 ⟨rfl, hbq⟩; have HX6 : Hid (Below W8.heap.size W8 x6) := Lib.hid (bl_tr (HX5.out) hbq); clear hbq
  try go_simp
  refine hK.out _ _ ?_ (fun hHeld => ?_)
  · exact HX6.out
  (try simp only [Act.put, List.getElem_toArray, List.getElem_cons_zero, List.getElem_cons_succ, List.setIfInBounds_toArray, List.set_cons_zero, List.set_cons_succ])
  refine wpAnyH_take (i := 26) (v := ?_) rfl (by kernel_rfl) (by kernel_rfl) (by kernel_rfl) (fun _ _ _ h => h) (Or.inl ⟨by rfl, ?_⟩) hHeld ?_
  rotate_left
  · (intro wS hSw; (try dsimp only at hSw); go_simp; try with_reducible rfl)
  (try simp only [Act.put, List.getElem_toArray, List.getElem_cons_zero, List.getElem_cons_succ, List.setIfInBounds_toArray, List.set_cons_zero, List.set_cons_succ])
  refine wpAnyH_take (i := 27) (v := ?_) rfl (by kernel_rfl) (by kernel_rfl) (by kernel_rfl) (fun _ _ _ h => h) (Or.inl ⟨by rfl, ?_⟩) hHeld ?_
  rotate_left
  · (intro wS hSw; (try dsimp only at hSw); go_simp; try with_reducible rfl)
  (try simp only [Act.put, List.getElem_toArray, List.getElem_cons_zero, List.getElem_cons_succ, List.setIfInBounds_toArray, List.set_cons_zero, List.set_cons_succ])
  refine wpAnyH_take (i := 28) (v := ?_) rfl (by kernel_rfl) (by kernel_rfl) (by kernel_rfl) (fun _ _ _ h => h) (Or.inl ⟨by rfl, ?_⟩) hHeld ?_
  rotate_left
  · (intro wS hSw; (try dsimp only at hSw); go_simp; try with_reducible rfl)
  (try simp only [Act.put, List.getElem_toArray, List.getElem_cons_zero, List.getElem_cons_succ, List.setIfInBounds_toArray, List.set_cons_zero, List.set_cons_succ])
  refine wpAnyH_ready (rs := [29]) (by kernel_rfl) (by simp) ?_
  refine AllReadyH.cons rfl (fun K hK => ?_) AllReadyH.nil
  (try simp only [List.getElem_toArray, List.getElem_cons_zero, List.getElem_cons_succ, List.setIfInBounds_toArray, List.set_cons_zero, List.set_cons_succ])
  try go_simp
  refine (KNO.out _ (HX6.out)).mono ?_; rintro e x7 ⟨rfl, hbq⟩; have HX7 : Hid (Below W8.heap.size W8 x7) := Lib.hid (bl_tr (HX6.out) hbq); clear hbq
  try go_simp
  refine hK.out _ _ ?_ (fun hHeld => ?_)
  · exact HX7.out
  (try simp only [Act.put, List.getElem_toArray, List.getElem_cons_zero, List.getElem_cons_succ, List.setIfInBounds_toArray, List.set_cons_zero, List.set_cons_succ])
  refine wpAnyH_take (i := 30) (v := ?_) rfl (by kernel_rfl) (by kernel_rfl) (by kernel_rfl) (fun _ _ _ h => h) (Or.inl ⟨by rfl, ?_⟩) hHeld ?_
  rotate_left
  · (intro wS hSw; (try dsimp only at hSw); go_simp; try with_reducible rfl)
  (try simp only [Act.put, List.getElem_toArray, List.getElem_cons_zero, List.getElem_cons_succ, List.setIfInBounds_toArray, List.set_cons_zero, List.set_cons_succ])
  refine wpAnyH_take (i := 31) (v := ?_) rfl (by kernel_rfl) (by kernel_rfl) (by kernel_rfl) (fun _ _ _ h => h) (Or.inl ⟨by rfl, ?_⟩) hHeld ?_
  rotate_left
  · (intro wS hSw; (try dsimp only at hSw); go_simp; try with_reducible rfl)
  (try simp only [Act.put, List.getElem_toArray, List.getElem_cons_zero, List.getElem_cons_succ, List.setIfInBounds_toArray, List.set_cons_zero, List.set_cons_succ])
  refine wpAnyH_done (by kernel_rfl) ?_ _
  go_wp2_with fail
  cases hsb : sb with
  | true =>
    subst hsb
    have ZB := Lib.hid (ZB.out rfl); have TBr := Lib.hid (TBr.out rfl)
    refine wp_region_held_drew (S := fun w' => Below W8.heap.size W8 w') (by kernel_rfl) (Below.drew HX7.out) (fun hHeld => ?_)
    refine wpAnyH_take (i := 0) rfl (by kernel_rfl) (by kernel_rfl) (by kernel_rfl) (fun _ _ _ h => h) (yieldsIf_load_mid (by rfl) 93 (.tmp 7) rfl ga (0) rfl ([a0, a1, a2, a3, a4, a5, a6, a7]) _ RA.out Try.underlying93 rfl IA.out) hHeld ?_
    (try simp only [Act.put, List.getElem_toArray, List.getElem_cons_zero, List.getElem_cons_succ, List.setIfInBounds_toArray, List.set_cons_zero, List.set_cons_succ])
    refine wpAnyH_take (i := 2) rfl (by kernel_rfl) (by kernel_rfl) (by kernel_rfl) (fun _ _ _ h => h) (yieldsIf_load_mid (by rfl) 93 (.tmp 9) rfl gc (0) rfl ([c0, c1, c2, c3, c4, c5, c6, c7]) _ RC.out Try.underlying93 rfl IC.out) hHeld ?_
    (try simp only [Act.put, List.getElem_toArray, List.getElem_cons_zero, List.getElem_cons_succ, List.setIfInBounds_toArray, List.set_cons_zero, List.set_cons_succ])
    refine wpAnyH_ready (rs := [1]) (by kernel_rfl) (by simp) ?_
    refine AllReadyH.cons rfl (fun K hK => ?_) AllReadyH.nil
    (try simp only [List.getElem_toArray, List.getElem_cons_zero, List.getElem_cons_succ, List.setIfInBounds_toArray, List.set_cons_zero, List.set_cons_succ])
    try go_simp
    refine (ZA.out _ (Below.drew HX7.out)).mono ?_; rintro e x8 ⟨rfl, hbq⟩; have HX8 : Hid (Below W8.heap.size W8 x8) := Lib.hid (bl_tr (Below.drew HX7.out) hbq); clear hbq
    try go_simp
    refine hK.out _ _ ?_ (fun hHeld => ?_)
    · exact HX8.out
    (try simp only [Act.put, List.getElem_toArray, List.getElem_cons_zero, List.getElem_cons_succ, List.setIfInBounds_toArray, List.set_cons_zero, List.set_cons_succ])
    refine wpAnyH_ready (rs := [3]) (by kernel_rfl) (by simp) ?_
    refine AllReadyH.cons rfl (fun K hK => ?_) AllReadyH.nil
    (try simp only [List.getElem_toArray, List.getElem_cons_zero, List.getElem_cons_succ, List.setIfInBounds_toArray, List.set_cons_zero, List.set_cons_succ])
    try go_simp
    refine (ZC.out _ (HX8.out)).mono ?_; rintro e x9 ⟨rfl, hbq⟩; have HX9 : Hid (Below W8.heap.size W8 x9) := Lib.hid (bl_tr (HX8.out) hbq); clear hbq
    try go_simp
    refine hK.out _ _ ?_ (fun hHeld => ?_)
    · exact HX9.out
    (try simp only [Act.put, List.getElem_toArray, List.getElem_cons_zero, List.getElem_cons_succ, List.setIfInBounds_toArray, List.set_cons_zero, List.set_cons_succ])
    refine wpAnyH_take (i := 4) (v := ?_) rfl (by kernel_rfl) (by kernel_rfl) (by kernel_rfl) (fun _ _ _ h => h) (Or.inl ⟨by rfl, ?_⟩) hHeld ?_
    rotate_left
    · (intro wS hSw; (try dsimp only at hSw); go_simp; try with_reducible rfl)
    (try simp only [Act.put, List.getElem_toArray, List.getElem_cons_zero, List.getElem_cons_succ, List.setIfInBounds_toArray, List.set_cons_zero, List.set_cons_succ])
    refine wpAnyH_take (i := 5) (v := ?_) rfl (by kernel_rfl) (by kernel_rfl) (by kernel_rfl) (fun _ _ _ h => h) (Or.inl ⟨by rfl, ?_⟩) hHeld ?_
    rotate_left
    · (intro wS hSw; (try dsimp only at hSw); go_simp; try with_reducible rfl)
    (try simp only [Act.put, List.getElem_toArray, List.getElem_cons_zero, List.getElem_cons_succ, List.setIfInBounds_toArray, List.set_cons_zero, List.set_cons_succ])
    refine wpAnyH_take (i := 6) rfl (by kernel_rfl) (by kernel_rfl) (by kernel_rfl) (fun _ _ _ h => h) (yieldsIf_load_mid (by rfl) 93 (.tmp 7) rfl ga (0) rfl ([a0, a1, a2, a3, a4, a5, a6, a7]) _ RA.out Try.underlying93 rfl IA.out) hHeld ?_
    (try simp only [Act.put, List.getElem_toArray, List.getElem_cons_zero, List.getElem_cons_succ, List.setIfInBounds_toArray, List.set_cons_zero, List.set_cons_succ])
    refine wpAnyH_take (i := 8) rfl (by kernel_rfl) (by kernel_rfl) (by kernel_rfl) (fun _ _ _ h => h) (yieldsIf_load_mid (by rfl) 93 (.tmp 9) rfl gc (0) rfl ([c0, c1, c2, c3, c4, c5, c6, c7]) _ RC.out Try.underlying93 rfl IC.out) hHeld ?_
    (try simp only [Act.put, List.getElem_toArray, List.getElem_cons_zero, List.getElem_cons_succ, List.setIfInBounds_toArray, List.set_cons_zero, List.set_cons_succ])
    refine wpAnyH_ready (rs := [7]) (by kernel_rfl) (by simp) ?_
    refine AllReadyH.cons rfl (fun K hK => ?_) AllReadyH.nil
    (try simp only [List.getElem_toArray, List.getElem_cons_zero, List.getElem_cons_succ, List.setIfInBounds_toArray, List.set_cons_zero, List.set_cons_succ])
    try go_simp
    refine (DA.out _ (HX9.out)).mono ?_; rintro e x10 ⟨rfl, hbq⟩; have HX10 : Hid (Below W8.heap.size W8 x10) := Lib.hid (bl_tr (HX9.out) hbq); clear hbq
    try go_simp
    refine hK.out _ _ ?_ (fun hHeld => ?_)
    · exact HX10.out
    (try simp only [Act.put, List.getElem_toArray, List.getElem_cons_zero, List.getElem_cons_succ, List.setIfInBounds_toArray, List.set_cons_zero, List.set_cons_succ])
    refine wpAnyH_ready (rs := [9]) (by kernel_rfl) (by simp) ?_
    refine AllReadyH.cons rfl (fun K hK => ?_) AllReadyH.nil
    (try simp only [List.getElem_toArray, List.getElem_cons_zero, List.getElem_cons_succ, List.setIfInBounds_toArray, List.set_cons_zero, List.set_cons_succ])
    try go_simp
    refine (DC.out _ (HX10.out)).mono ?_; rintro e x11 ⟨rfl, hbq⟩; have HX11 : Hid (Below W8.heap.size W8 x11) := Lib.hid (bl_tr (HX10.out) hbq); clear hbq
    try go_simp
    refine hK.out _ _ ?_ (fun hHeld => ?_)
    · exact HX11.out
    (try simp only [Act.put, List.getElem_toArray, List.getElem_cons_zero, List.getElem_cons_succ, List.setIfInBounds_toArray, List.set_cons_zero, List.set_cons_succ])
    refine wpAnyH_take (i := 10) (v := ?_) rfl (by kernel_rfl) (by kernel_rfl) (by kernel_rfl) (fun _ _ _ h => h) (Or.inl ⟨by rfl, ?_⟩) hHeld ?_
    rotate_left
    · (intro wS hSw; (try dsimp only at hSw); go_simp; try with_reducible rfl)
    (try simp only [Act.put, List.getElem_toArray, List.getElem_cons_zero, List.getElem_cons_succ, List.setIfInBounds_toArray, List.set_cons_zero, List.set_cons_succ])
    refine wpAnyH_take (i := 11) (v := ?_) rfl (by kernel_rfl) (by kernel_rfl) (by kernel_rfl) (fun _ _ _ h => h) (Or.inl ⟨by rfl, ?_⟩) hHeld ?_
    rotate_left
    · (intro wS hSw; (try dsimp only at hSw); go_simp; try with_reducible rfl)
    (try simp only [Act.put, List.getElem_toArray, List.getElem_cons_zero, List.getElem_cons_succ, List.setIfInBounds_toArray, List.set_cons_zero, List.set_cons_succ])
    refine wpAnyH_take (i := 12) (v := ?_) rfl (by kernel_rfl) (by kernel_rfl) (by kernel_rfl) (fun _ _ _ h => h) (Or.inl ⟨by rfl, ?_⟩) hHeld ?_
    rotate_left
    · (intro wS hSw; (try dsimp only at hSw); go_simp; try with_reducible rfl)
    (try simp only [Act.put, List.getElem_toArray, List.getElem_cons_zero, List.getElem_cons_succ, List.setIfInBounds_toArray, List.set_cons_zero, List.set_cons_succ])
    refine wpAnyH_take (i := 13) rfl (by kernel_rfl) (by kernel_rfl) (by kernel_rfl) (fun _ _ _ h => h) (yieldsIf_load_mid (by rfl) 93 (.tmp 7) rfl ga (0) rfl ([a0, a1, a2, a3, a4, a5, a6, a7]) _ RA.out Try.underlying93 rfl IA.out) hHeld ?_
    (try simp only [Act.put, List.getElem_toArray, List.getElem_cons_zero, List.getElem_cons_succ, List.setIfInBounds_toArray, List.set_cons_zero, List.set_cons_succ])
    refine wpAnyH_take (i := 15) rfl (by kernel_rfl) (by kernel_rfl) (by kernel_rfl) (fun _ _ _ h => h) (yieldsIf_load_mid (by rfl) 93 (.tmp 9) rfl gc (0) rfl ([c0, c1, c2, c3, c4, c5, c6, c7]) _ RC.out Try.underlying93 rfl IC.out) hHeld ?_
    (try simp only [Act.put, List.getElem_toArray, List.getElem_cons_zero, List.getElem_cons_succ, List.setIfInBounds_toArray, List.set_cons_zero, List.set_cons_succ])
    refine wpAnyH_ready (rs := [14]) (by kernel_rfl) (by simp) ?_
    refine AllReadyH.cons rfl (fun K hK => ?_) AllReadyH.nil
    (try simp only [List.getElem_toArray, List.getElem_cons_zero, List.getElem_cons_succ, List.setIfInBounds_toArray, List.set_cons_zero, List.set_cons_succ])
    try go_simp
    refine (TAr.out _ (HX11.out)).mono ?_; rintro e x12 ⟨rfl, hbq⟩; have HX12 : Hid (Below W8.heap.size W8 x12) := Lib.hid (bl_tr (HX11.out) hbq); clear hbq
    try go_simp
    refine hK.out _ _ ?_ (fun hHeld => ?_)
    · exact HX12.out
    (try simp only [Act.put, List.getElem_toArray, List.getElem_cons_zero, List.getElem_cons_succ, List.setIfInBounds_toArray, List.set_cons_zero, List.set_cons_succ])
    refine wpAnyH_ready (rs := [16]) (by kernel_rfl) (by simp) ?_
    refine AllReadyH.cons rfl (fun K hK => ?_) AllReadyH.nil
    (try simp only [List.getElem_toArray, List.getElem_cons_zero, List.getElem_cons_succ, List.setIfInBounds_toArray, List.set_cons_zero, List.set_cons_succ])
    try go_simp
    refine (TCr.out _ (HX12.out)).mono ?_; rintro e x13 ⟨rfl, hbq⟩; have HX13 : Hid (Below W8.heap.size W8 x13) := Lib.hid (bl_tr (HX12.out) hbq); clear hbq
    try go_simp
    refine hK.out _ _ ?_ (fun hHeld => ?_)
    · exact HX13.out
    (try simp only [Act.put, List.getElem_toArray, List.getElem_cons_zero, List.getElem_cons_succ, List.setIfInBounds_toArray, List.set_cons_zero, List.set_cons_succ])
    refine wpAnyH_take (i := 17) (v := ?_) rfl (by kernel_rfl) (by kernel_rfl) (by kernel_rfl) (fun _ _ _ h => h) (Or.inl ⟨by rfl, ?_⟩) hHeld ?_
    rotate_left
    · (intro wS hSw; (try dsimp only at hSw); go_simp; try with_reducible rfl)
    (try simp only [Act.put, List.getElem_toArray, List.getElem_cons_zero, List.getElem_cons_succ, List.setIfInBounds_toArray, List.set_cons_zero, List.set_cons_succ])
    refine wpAnyH_take (i := 18) (v := ?_) rfl (by kernel_rfl) (by kernel_rfl) (by kernel_rfl) (fun _ _ _ h => h) (Or.inl ⟨by rfl, ?_⟩) hHeld ?_
    rotate_left
    · (intro wS hSw; (try dsimp only at hSw); go_simp; try with_reducible rfl)
    (try simp only [Act.put, List.getElem_toArray, List.getElem_cons_zero, List.getElem_cons_succ, List.setIfInBounds_toArray, List.set_cons_zero, List.set_cons_succ])
    refine wpAnyH_take (i := 19) (v := ?_) rfl (by kernel_rfl) (by kernel_rfl) (by kernel_rfl) (fun _ _ _ h => h) (Or.inl ⟨by rfl, ?_⟩) hHeld ?_
    rotate_left
    · (intro wS hSw; (try dsimp only at hSw); go_simp; try with_reducible rfl)
    (try simp only [Act.put, List.getElem_toArray, List.getElem_cons_zero, List.getElem_cons_succ, List.setIfInBounds_toArray, List.set_cons_zero, List.set_cons_succ])
    refine wpAnyH_take (i := 20) rfl (by kernel_rfl) (by kernel_rfl) (by kernel_rfl) (fun _ _ _ h => h) (yieldsIf_load_mid (by rfl) 93 (.tmp 7) rfl ga (0) rfl ([a0, a1, a2, a3, a4, a5, a6, a7]) _ RA.out Try.underlying93 rfl IA.out) hHeld ?_
    (try simp only [Act.put, List.getElem_toArray, List.getElem_cons_zero, List.getElem_cons_succ, List.setIfInBounds_toArray, List.set_cons_zero, List.set_cons_succ])
    refine wpAnyH_take (i := 22) rfl (by kernel_rfl) (by kernel_rfl) (by kernel_rfl) (fun _ _ _ h => h) (yieldsIf_load_mid (by rfl) 93 (.tmp 7) rfl ga (0) rfl ([a0, a1, a2, a3, a4, a5, a6, a7]) _ RA.out Try.underlying93 rfl IA.out) hHeld ?_
    (try simp only [Act.put, List.getElem_toArray, List.getElem_cons_zero, List.getElem_cons_succ, List.setIfInBounds_toArray, List.set_cons_zero, List.set_cons_succ])
    refine wpAnyH_ready (rs := [21]) (by kernel_rfl) (by simp) ?_
    refine AllReadyH.cons rfl (fun K hK => ?_) AllReadyH.nil
    (try simp only [List.getElem_toArray, List.getElem_cons_zero, List.getElem_cons_succ, List.setIfInBounds_toArray, List.set_cons_zero, List.set_cons_succ])
    try go_simp
    refine (DA.out _ (HX13.out)).mono ?_; rintro e x14 ⟨rfl, hbq⟩; have HX14 : Hid (Below W8.heap.size W8 x14) := Lib.hid (bl_tr (HX13.out) hbq); clear hbq
    try go_simp
    refine hK.out _ _ ?_ (fun hHeld => ?_)
    · exact HX14.out
    (try simp only [Act.put, List.getElem_toArray, List.getElem_cons_zero, List.getElem_cons_succ, List.setIfInBounds_toArray, List.set_cons_zero, List.set_cons_succ])
    refine wpAnyH_ready (rs := [23]) (by kernel_rfl) (by simp) ?_
    refine AllReadyH.cons rfl (fun K hK => ?_) AllReadyH.nil
    (try simp only [List.getElem_toArray, List.getElem_cons_zero, List.getElem_cons_succ, List.setIfInBounds_toArray, List.set_cons_zero, List.set_cons_succ])
    try go_simp
    refine (ZA.out _ (HX14.out)).mono ?_; rintro e x15 ⟨rfl, hbq⟩; have HX15 : Hid (Below W8.heap.size W8 x15) := Lib.hid (bl_tr (HX14.out) hbq); clear hbq
    try go_simp
    refine hK.out _ _ ?_ (fun hHeld => ?_)
    · exact HX15.out
    (try simp only [Act.put, List.getElem_toArray, List.getElem_cons_zero, List.getElem_cons_succ, List.setIfInBounds_toArray, List.set_cons_zero, List.set_cons_succ])
    refine wpAnyH_take (i := 24) (v := ?_) rfl (by kernel_rfl) (by kernel_rfl) (by kernel_rfl) (fun _ _ _ h => h) (Or.inl ⟨by rfl, ?_⟩) hHeld ?_
    rotate_left
    · (intro wS hSw; (try dsimp only at hSw); go_simp; try with_reducible rfl)
    (try simp only [Act.put, List.getElem_toArray, List.getElem_cons_zero, List.getElem_cons_succ, List.setIfInBounds_toArray, List.set_cons_zero, List.set_cons_succ])
    refine wpAnyH_take (i := 25) (v := ?_) rfl (by kernel_rfl) (by kernel_rfl) (by kernel_rfl) (fun _ _ _ h => h) (Or.inl ⟨by rfl, ?_⟩) hHeld ?_
    rotate_left
    · (intro wS hSw; (try dsimp only at hSw); go_simp; try with_reducible rfl)
    (try simp only [Act.put, List.getElem_toArray, List.getElem_cons_zero, List.getElem_cons_succ, List.setIfInBounds_toArray, List.set_cons_zero, List.set_cons_succ])
    refine wpAnyH_take (i := 26) (v := ?_) rfl (by kernel_rfl) (by kernel_rfl) (by kernel_rfl) (fun _ _ _ h => h) (Or.inl ⟨by rfl, ?_⟩) hHeld ?_
    rotate_left
    · (intro wS hSw; (try dsimp only at hSw); go_simp; try with_reducible rfl)
    (try simp only [Act.put, List.getElem_toArray, List.getElem_cons_zero, List.getElem_cons_succ, List.setIfInBounds_toArray, List.set_cons_zero, List.set_cons_succ])
    refine wpAnyH_take (i := 27) rfl (by kernel_rfl) (by kernel_rfl) (by kernel_rfl) (fun _ _ _ h => h) (yieldsIf_load_mid (by rfl) 93 (.tmp 7) rfl ga (0) rfl ([a0, a1, a2, a3, a4, a5, a6, a7]) _ RA.out Try.underlying93 rfl IA.out) hHeld ?_
    (try simp only [Act.put, List.getElem_toArray, List.getElem_cons_zero, List.getElem_cons_succ, List.setIfInBounds_toArray, List.set_cons_zero, List.set_cons_succ])
    refine wpAnyH_ready (rs := [28]) (by kernel_rfl) (by simp) ?_
    refine AllReadyH.cons rfl (fun K hK => ?_) AllReadyH.nil
    (try simp only [List.getElem_toArray, List.getElem_cons_zero, List.getElem_cons_succ, List.setIfInBounds_toArray, List.set_cons_zero, List.set_cons_succ])
    try go_simp
    refine (DA.out _ (HX15.out)).mono ?_; rintro e x16 ⟨rfl, hbq⟩; have HX16 : Hid (Below W8.heap.size W8 x16) := Lib.hid (bl_tr (HX15.out) hbq); clear hbq
    try go_simp
    refine hK.out _ _ ?_ (fun hHeld => ?_)
    · exact HX16.out
    (try simp only [Act.put, List.getElem_toArray, List.getElem_cons_zero, List.getElem_cons_succ, List.setIfInBounds_toArray, List.set_cons_zero, List.set_cons_succ])
    refine wpAnyH_take (i := 29) (v := ?_) rfl (by kernel_rfl) (by kernel_rfl) (by kernel_rfl) (fun _ _ _ h => h) (Or.inl ⟨by rfl, ?_⟩) hHeld ?_
    rotate_left
    · (intro wS hSw; (try dsimp only at hSw); go_simp; try with_reducible rfl)
    (try simp only [Act.put, List.getElem_toArray, List.getElem_cons_zero, List.getElem_cons_succ, List.setIfInBounds_toArray, List.set_cons_zero, List.set_cons_succ])
    refine wpAnyH_take (i := 30) (v := ?_) rfl (by kernel_rfl) (by kernel_rfl) (by kernel_rfl) (fun _ _ _ h => h) (Or.inl ⟨by rfl, ?_⟩) hHeld ?_
    rotate_left
    · (intro wS hSw; (try dsimp only at hSw); go_simp; try with_reducible rfl)
    (try simp only [Act.put, List.getElem_toArray, List.getElem_cons_zero, List.getElem_cons_succ, List.setIfInBounds_toArray, List.set_cons_zero, List.set_cons_succ])
    refine wpAnyH_take (i := 31) (v := ?_) rfl (by kernel_rfl) (by kernel_rfl) (by kernel_rfl) (fun _ _ _ h => h) (Or.inl ⟨by rfl, ?_⟩) hHeld ?_
    rotate_left
    · (intro wS hSw; (try dsimp only at hSw); go_simp; try with_reducible rfl)
    (try simp only [Act.put, List.getElem_toArray, List.getElem_cons_zero, List.getElem_cons_succ, List.setIfInBounds_toArray, List.set_cons_zero, List.set_cons_succ])
    refine wpAnyH_take (i := 32) rfl (by kernel_rfl) (by kernel_rfl) (by kernel_rfl) (fun _ _ _ h => h) (yieldsIf_load_mid (by rfl) 93 (.tmp 7) rfl ga (0) rfl ([a0, a1, a2, a3, a4, a5, a6, a7]) _ RA.out Try.underlying93 rfl IA.out) hHeld ?_
    (try simp only [Act.put, List.getElem_toArray, List.getElem_cons_zero, List.getElem_cons_succ, List.setIfInBounds_toArray, List.set_cons_zero, List.set_cons_succ])
    refine wpAnyH_take (i := 33) rfl (by kernel_rfl) (by kernel_rfl) (by kernel_rfl) (fun _ _ _ h => h) (yieldsIf_load_mid (by rfl) 93 (.tmp 8) rfl gb (0) rfl ([b0, b1, b2, b3, b4, b5, b6, b7]) _ RB.out Try.underlying93 rfl IB.out) hHeld ?_
    (try simp only [Act.put, List.getElem_toArray, List.getElem_cons_zero, List.getElem_cons_succ, List.setIfInBounds_toArray, List.set_cons_zero, List.set_cons_succ])
    refine wpAnyH_ready (rs := [34]) (by kernel_rfl) (by simp) ?_
    refine AllReadyH.cons rfl (fun K hK => ?_) AllReadyH.nil
    (try simp only [List.getElem_toArray, List.getElem_cons_zero, List.getElem_cons_succ, List.setIfInBounds_toArray, List.set_cons_zero, List.set_cons_succ])
    try go_simp
    refine (KAB.out _ (HX16.out)).mono ?_; rintro e x17 ⟨rfl, hbq⟩; have HX17 : Hid (Below W8.heap.size W8 x17) := Lib.hid (bl_tr (HX16.out) hbq); clear hbq
    try go_simp
    refine hK.out _ _ ?_ (fun hHeld => ?_)
    · exact HX17.out
    (try simp only [Act.put, List.getElem_toArray, List.getElem_cons_zero, List.getElem_cons_succ, List.setIfInBounds_toArray, List.set_cons_zero, List.set_cons_succ])
    refine wpAnyH_take (i := 35) (v := ?_) rfl (by kernel_rfl) (by kernel_rfl) (by kernel_rfl) (fun _ _ _ h => h) (Or.inl ⟨by rfl, ?_⟩) hHeld ?_
    rotate_left
    · (intro wS hSw; (try dsimp only at hSw); go_simp; try with_reducible rfl)
    (try simp only [Act.put, List.getElem_toArray, List.getElem_cons_zero, List.getElem_cons_succ, List.setIfInBounds_toArray, List.set_cons_zero, List.set_cons_succ])
    refine wpAnyH_take (i := 36) (v := ?_) rfl (by kernel_rfl) (by kernel_rfl) (by kernel_rfl) (fun _ _ _ h => h) (Or.inl ⟨by rfl, ?_⟩) hHeld ?_
    rotate_left
    · (intro wS hSw; (try dsimp only at hSw); go_simp; try with_reducible rfl)
    (try simp only [Act.put, List.getElem_toArray, List.getElem_cons_zero, List.getElem_cons_succ, List.setIfInBounds_toArray, List.set_cons_zero, List.set_cons_succ])
    refine wpAnyH_take (i := 37) rfl (by kernel_rfl) (by kernel_rfl) (by kernel_rfl) (fun _ _ _ h => h) (yieldsIf_load_mid (by rfl) 93 (.tmp 7) rfl ga (0) rfl ([a0, a1, a2, a3, a4, a5, a6, a7]) _ RA.out Try.underlying93 rfl IA.out) hHeld ?_
    (try simp only [Act.put, List.getElem_toArray, List.getElem_cons_zero, List.getElem_cons_succ, List.setIfInBounds_toArray, List.set_cons_zero, List.set_cons_succ])
    refine wpAnyH_take (i := 39) rfl (by kernel_rfl) (by kernel_rfl) (by kernel_rfl) (fun _ _ _ h => h) (yieldsIf_load_mid (by rfl) 93 (.tmp 8) rfl gb (0) rfl ([b0, b1, b2, b3, b4, b5, b6, b7]) _ RB.out Try.underlying93 rfl IB.out) hHeld ?_
    (try simp only [Act.put, List.getElem_toArray, List.getElem_cons_zero, List.getElem_cons_succ, List.setIfInBounds_toArray, List.set_cons_zero, List.set_cons_succ])
    refine wpAnyH_ready (rs := [38]) (by kernel_rfl) (by simp) ?_
    refine AllReadyH.cons rfl (fun K hK => ?_) AllReadyH.nil
    (try simp only [List.getElem_toArray, List.getElem_cons_zero, List.getElem_cons_succ, List.setIfInBounds_toArray, List.set_cons_zero, List.set_cons_succ])
    try go_simp
    refine (ZA.out _ (HX17.out)).mono ?_; rintro e x18 ⟨rfl, hbq⟩; have HX18 : Hid (Below W8.heap.size W8 x18) := Lib.hid (bl_tr (HX17.out) hbq); clear hbq
    try go_simp
    refine hK.out _ _ ?_ (fun hHeld => ?_)
    · exact HX18.out
    (try simp only [Act.put, List.getElem_toArray, List.getElem_cons_zero, List.getElem_cons_succ, List.setIfInBounds_toArray, List.set_cons_zero, List.set_cons_succ])
    refine wpAnyH_ready (rs := [40]) (by kernel_rfl) (by simp) ?_
    refine AllReadyH.cons rfl (fun K hK => ?_) AllReadyH.nil
    (try simp only [List.getElem_toArray, List.getElem_cons_zero, List.getElem_cons_succ, List.setIfInBounds_toArray, List.set_cons_zero, List.set_cons_succ])
    try go_simp
    refine (ZB.out _ (HX18.out)).mono ?_; rintro e x19 ⟨rfl, hbq⟩; have HX19 : Hid (Below W8.heap.size W8 x19) := Lib.hid (bl_tr (HX18.out) hbq); clear hbq
    try go_simp
    refine hK.out _ _ ?_ (fun hHeld => ?_)
    · exact HX19.out
    (try simp only [Act.put, List.getElem_toArray, List.getElem_cons_zero, List.getElem_cons_succ, List.setIfInBounds_toArray, List.set_cons_zero, List.set_cons_succ])
    refine wpAnyH_take (i := 41) (v := ?_) rfl (by kernel_rfl) (by kernel_rfl) (by kernel_rfl) (fun _ _ _ h => h) (Or.inl ⟨by rfl, ?_⟩) hHeld ?_
    rotate_left
    · (intro wS hSw; (try dsimp only at hSw); go_simp; try with_reducible rfl)
    (try simp only [Act.put, List.getElem_toArray, List.getElem_cons_zero, List.getElem_cons_succ, List.setIfInBounds_toArray, List.set_cons_zero, List.set_cons_succ])
    refine wpAnyH_take (i := 42) (v := ?_) rfl (by kernel_rfl) (by kernel_rfl) (by kernel_rfl) (fun _ _ _ h => h) (Or.inl ⟨by rfl, ?_⟩) hHeld ?_
    rotate_left
    · (intro wS hSw; (try dsimp only at hSw); go_simp; try with_reducible rfl)
    (try simp only [Act.put, List.getElem_toArray, List.getElem_cons_zero, List.getElem_cons_succ, List.setIfInBounds_toArray, List.set_cons_zero, List.set_cons_succ])
    refine wpAnyH_take (i := 43) rfl (by kernel_rfl) (by kernel_rfl) (by kernel_rfl) (fun _ _ _ h => h) (yieldsIf_load_mid (by rfl) 93 (.tmp 7) rfl ga (0) rfl ([a0, a1, a2, a3, a4, a5, a6, a7]) _ RA.out Try.underlying93 rfl IA.out) hHeld ?_
    (try simp only [Act.put, List.getElem_toArray, List.getElem_cons_zero, List.getElem_cons_succ, List.setIfInBounds_toArray, List.set_cons_zero, List.set_cons_succ])
    refine wpAnyH_take (i := 45) rfl (by kernel_rfl) (by kernel_rfl) (by kernel_rfl) (fun _ _ _ h => h) (yieldsIf_load_mid (by rfl) 93 (.tmp 8) rfl gb (0) rfl ([b0, b1, b2, b3, b4, b5, b6, b7]) _ RB.out Try.underlying93 rfl IB.out) hHeld ?_
    (try simp only [Act.put, List.getElem_toArray, List.getElem_cons_zero, List.getElem_cons_succ, List.setIfInBounds_toArray, List.set_cons_zero, List.set_cons_succ])
    refine wpAnyH_ready (rs := [44]) (by kernel_rfl) (by simp) ?_
    refine AllReadyH.cons rfl (fun K hK => ?_) AllReadyH.nil
    (try simp only [List.getElem_toArray, List.getElem_cons_zero, List.getElem_cons_succ, List.setIfInBounds_toArray, List.set_cons_zero, List.set_cons_succ])
    try go_simp
    refine (TAr.out _ (HX19.out)).mono ?_; rintro e x20 ⟨rfl, hbq⟩; have HX20 : Hid (Below W8.heap.size W8 x20) := Lib.hid (bl_tr (HX19.out) hbq); clear hbq
    try go_simp
    refine hK.out _ _ ?_ (fun hHeld => ?_)
    · exact HX20.out
    (try simp only [Act.put, List.getElem_toArray, List.getElem_cons_zero, List.getElem_cons_succ, List.setIfInBounds_toArray, List.set_cons_zero, List.set_cons_succ])
    refine wpAnyH_ready (rs := [46]) (by kernel_rfl) (by simp) ?_
    refine AllReadyH.cons rfl (fun K hK => ?_) AllReadyH.nil
    (try simp only [List.getElem_toArray, List.getElem_cons_zero, List.getElem_cons_succ, List.setIfInBounds_toArray, List.set_cons_zero, List.set_cons_succ])
    try go_simp
    refine (TBr.out _ (HX20.out)).mono ?_; rintro e x21 ⟨rfl, hbq⟩; have HX21 : Hid (Below W8.heap.size W8 x21) := Lib.hid (bl_tr (HX20.out) hbq); clear hbq
    try go_simp
    refine hK.out _ _ ?_ (fun hHeld => ?_)
    · exact HX21.out
    (try simp only [Act.put, List.getElem_toArray, List.getElem_cons_zero, List.getElem_cons_succ, List.setIfInBounds_toArray, List.set_cons_zero, List.set_cons_succ])
    refine wpAnyH_take (i := 47) (v := ?_) rfl (by kernel_rfl) (by kernel_rfl) (by kernel_rfl) (fun _ _ _ h => h) (Or.inl ⟨by rfl, ?_⟩) hHeld ?_
    rotate_left
    · (intro wS hSw; (try dsimp only at hSw); go_simp; try with_reducible rfl)
    (try simp only [Act.put, List.getElem_toArray, List.getElem_cons_zero, List.getElem_cons_succ, List.setIfInBounds_toArray, List.set_cons_zero, List.set_cons_succ])
    refine wpAnyH_take (i := 48) (v := ?_) rfl (by kernel_rfl) (by kernel_rfl) (by kernel_rfl) (fun _ _ _ h => h) (Or.inl ⟨by rfl, ?_⟩) hHeld ?_
    rotate_left
    · (intro wS hSw; (try dsimp only at hSw); go_simp; try with_reducible rfl)
    (try simp only [Act.put, List.getElem_toArray, List.getElem_cons_zero, List.getElem_cons_succ, List.setIfInBounds_toArray, List.set_cons_zero, List.set_cons_succ])
    refine wpAnyH_take (i := 49) (v := ?_) rfl (by kernel_rfl) (by kernel_rfl) (by kernel_rfl) (fun _ _ _ h => h) (Or.inl ⟨by rfl, ?_⟩) hHeld ?_
    rotate_left
    · (intro wS hSw; (try dsimp only at hSw); go_simp; try with_reducible rfl)
    (try simp only [Act.put, List.getElem_toArray, List.getElem_cons_zero, List.getElem_cons_succ, List.setIfInBounds_toArray, List.set_cons_zero, List.set_cons_succ])
    refine wpAnyH_take (i := 50) (v := ?_) rfl (by kernel_rfl) (by kernel_rfl) (by kernel_rfl) (fun _ _ _ h => h) (Or.inl ⟨by rfl, ?_⟩) hHeld ?_
    rotate_left
    · (intro wS hSw; (try dsimp only at hSw); go_simp; try with_reducible rfl)
    (try simp only [Act.put, List.getElem_toArray, List.getElem_cons_zero, List.getElem_cons_succ, List.setIfInBounds_toArray, List.set_cons_zero, List.set_cons_succ])
    refine wpAnyH_take (i := 51) (v := ?_) rfl (by kernel_rfl) (by kernel_rfl) (by kernel_rfl) (fun _ _ _ h => h) (Or.inl ⟨by rfl, ?_⟩) hHeld ?_
    rotate_left
    · (intro wS hSw; (try dsimp only at hSw); go_simp; try with_reducible rfl)
    (try simp only [Act.put, List.getElem_toArray, List.getElem_cons_zero, List.getElem_cons_succ, List.setIfInBounds_toArray, List.set_cons_zero, List.set_cons_succ])
    refine wpAnyH_done (by kernel_rfl) ?_ _
    go_wp2_with fail
    go_ret
    exact ⟨ret_b (by simp [*]), bl_tr HW1.out (bl_tr HB18.out HX21.out)⟩
  | false =>
    subst hsb
    refine wp_region_held_drew (S := fun w' => Below W8.heap.size W8 w') (by kernel_rfl) (Below.drew HX7.out) (fun hHeld => ?_)
    refine wpAnyH_take (i := 0) rfl (by kernel_rfl) (by kernel_rfl) (by kernel_rfl) (fun _ _ _ h => h) (yieldsIf_load_mid (by rfl) 93 (.tmp 7) rfl ga (0) rfl ([a0, a1, a2, a3, a4, a5, a6, a7]) _ RA.out Try.underlying93 rfl IA.out) hHeld ?_
    (try simp only [Act.put, List.getElem_toArray, List.getElem_cons_zero, List.getElem_cons_succ, List.setIfInBounds_toArray, List.set_cons_zero, List.set_cons_succ])
    refine wpAnyH_take (i := 2) rfl (by kernel_rfl) (by kernel_rfl) (by kernel_rfl) (fun _ _ _ h => h) (yieldsIf_load_mid (by rfl) 93 (.tmp 9) rfl gc (0) rfl ([c0, c1, c2, c3, c4, c5, c6, c7]) _ RC.out Try.underlying93 rfl IC.out) hHeld ?_
    (try simp only [Act.put, List.getElem_toArray, List.getElem_cons_zero, List.getElem_cons_succ, List.setIfInBounds_toArray, List.set_cons_zero, List.set_cons_succ])
    refine wpAnyH_ready (rs := [1]) (by kernel_rfl) (by simp) ?_
    refine AllReadyH.cons rfl (fun K hK => ?_) AllReadyH.nil
    (try simp only [List.getElem_toArray, List.getElem_cons_zero, List.getElem_cons_succ, List.setIfInBounds_toArray, List.set_cons_zero, List.set_cons_succ])
    try go_simp
    refine (ZA.out _ (Below.drew HX7.out)).mono ?_; rintro e x8 ⟨rfl, hbq⟩; have HX8 : Hid (Below W8.heap.size W8 x8) := Lib.hid (bl_tr (Below.drew HX7.out) hbq); clear hbq
    try go_simp
    refine hK.out _ _ ?_ (fun hHeld => ?_)
    · exact HX8.out
    (try simp only [Act.put, List.getElem_toArray, List.getElem_cons_zero, List.getElem_cons_succ, List.setIfInBounds_toArray, List.set_cons_zero, List.set_cons_succ])
    refine wpAnyH_ready (rs := [3]) (by kernel_rfl) (by simp) ?_
    refine AllReadyH.cons rfl (fun K hK => ?_) AllReadyH.nil
    (try simp only [List.getElem_toArray, List.getElem_cons_zero, List.getElem_cons_succ, List.setIfInBounds_toArray, List.set_cons_zero, List.set_cons_succ])
    try go_simp
    refine (ZC.out _ (HX8.out)).mono ?_; rintro e x9 ⟨rfl, hbq⟩; have HX9 : Hid (Below W8.heap.size W8 x9) := Lib.hid (bl_tr (HX8.out) hbq); clear hbq
    try go_simp
    refine hK.out _ _ ?_ (fun hHeld => ?_)
    · exact HX9.out
    (try simp only [Act.put, List.getElem_toArray, List.getElem_cons_zero, List.getElem_cons_succ, List.setIfInBounds_toArray, List.set_cons_zero, List.set_cons_succ])
    refine wpAnyH_take (i := 4) (v := ?_) rfl (by kernel_rfl) (by kernel_rfl) (by kernel_rfl) (fun _ _ _ h => h) (Or.inl ⟨by rfl, ?_⟩) hHeld ?_
    rotate_left
    · (intro wS hSw; (try dsimp only at hSw); go_simp; try with_reducible rfl)
    (try simp only [Act.put, List.getElem_toArray, List.getElem_cons_zero, List.getElem_cons_succ, List.setIfInBounds_toArray, List.set_cons_zero, List.set_cons_succ])
    refine wpAnyH_take (i := 5) (v := ?_) rfl (by kernel_rfl) (by kernel_rfl) (by kernel_rfl) (fun _ _ _ h => h) (Or.inl ⟨by rfl, ?_⟩) hHeld ?_
    rotate_left
    · (intro wS hSw; (try dsimp only at hSw); go_simp; try with_reducible rfl)
    (try simp only [Act.put, List.getElem_toArray, List.getElem_cons_zero, List.getElem_cons_succ, List.setIfInBounds_toArray, List.set_cons_zero, List.set_cons_succ])
    refine wpAnyH_take (i := 6) rfl (by kernel_rfl) (by kernel_rfl) (by kernel_rfl) (fun _ _ _ h => h) (yieldsIf_load_mid (by rfl) 93 (.tmp 7) rfl ga (0) rfl ([a0, a1, a2, a3, a4, a5, a6, a7]) _ RA.out Try.underlying93 rfl IA.out) hHeld ?_
    (try simp only [Act.put, List.getElem_toArray, List.getElem_cons_zero, List.getElem_cons_succ, List.setIfInBounds_toArray, List.set_cons_zero, List.set_cons_succ])
    refine wpAnyH_take (i := 8) rfl (by kernel_rfl) (by kernel_rfl) (by kernel_rfl) (fun _ _ _ h => h) (yieldsIf_load_mid (by rfl) 93 (.tmp 9) rfl gc (0) rfl ([c0, c1, c2, c3, c4, c5, c6, c7]) _ RC.out Try.underlying93 rfl IC.out) hHeld ?_
    (try simp only [Act.put, List.getElem_toArray, List.getElem_cons_zero, List.getElem_cons_succ, List.setIfInBounds_toArray, List.set_cons_zero, List.set_cons_succ])
    refine wpAnyH_ready (rs := [7]) (by kernel_rfl) (by simp) ?_
    refine AllReadyH.cons rfl (fun K hK => ?_) AllReadyH.nil
    (try simp only [List.getElem_toArray, List.getElem_cons_zero, List.getElem_cons_succ, List.setIfInBounds_toArray, List.set_cons_zero, List.set_cons_succ])
    try go_simp
    refine (DA.out _ (HX9.out)).mono ?_; rintro e x10 ⟨rfl, hbq⟩; have HX10 : Hid (Below W8.heap.size W8 x10) := Lib.hid (bl_tr (HX9.out) hbq); clear hbq
    try go_simp
    refine hK.out _ _ ?_ (fun hHeld => ?_)
    · exact HX10.out
    (try simp only [Act.put, List.getElem_toArray, List.getElem_cons_zero, List.getElem_cons_succ, List.setIfInBounds_toArray, List.set_cons_zero, List.set_cons_succ])
    refine wpAnyH_ready (rs := [9]) (by kernel_rfl) (by simp) ?_
    refine AllReadyH.cons rfl (fun K hK => ?_) AllReadyH.nil
    (try simp only [List.getElem_toArray, List.getElem_cons_zero, List.getElem_cons_succ, List.setIfInBounds_toArray, List.set_cons_zero, List.set_cons_succ])
    try go_simp
    refine (DC.out _ (HX10.out)).mono ?_; rintro e x11 ⟨rfl, hbq⟩; have HX11 : Hid (Below W8.heap.size W8 x11) := Lib.hid (bl_tr (HX10.out) hbq); clear hbq
    try go_simp
    refine hK.out _ _ ?_ (fun hHeld => ?_)
    · exact HX11.out
    (try simp only [Act.put, List.getElem_toArray, List.getElem_cons_zero, List.getElem_cons_succ, List.setIfInBounds_toArray, List.set_cons_zero, List.set_cons_succ])
    refine wpAnyH_take (i := 10) (v := ?_) rfl (by kernel_rfl) (by kernel_rfl) (by kernel_rfl) (fun _ _ _ h => h) (Or.inl ⟨by rfl, ?_⟩) hHeld ?_
    rotate_left
    · (intro wS hSw; (try dsimp only at hSw); go_simp; try with_reducible rfl)
    (try simp only [Act.put, List.getElem_toArray, List.getElem_cons_zero, List.getElem_cons_succ, List.setIfInBounds_toArray, List.set_cons_zero, List.set_cons_succ])
    refine wpAnyH_take (i := 11) (v := ?_) rfl (by kernel_rfl) (by kernel_rfl) (by kernel_rfl) (fun _ _ _ h => h) (Or.inl ⟨by rfl, ?_⟩) hHeld ?_
    rotate_left
    · (intro wS hSw; (try dsimp only at hSw); go_simp; try with_reducible rfl)
    (try simp only [Act.put, List.getElem_toArray, List.getElem_cons_zero, List.getElem_cons_succ, List.setIfInBounds_toArray, List.set_cons_zero, List.set_cons_succ])
    refine wpAnyH_take (i := 12) (v := ?_) rfl (by kernel_rfl) (by kernel_rfl) (by kernel_rfl) (fun _ _ _ h => h) (Or.inl ⟨by rfl, ?_⟩) hHeld ?_
    rotate_left
    · (intro wS hSw; (try dsimp only at hSw); go_simp; try with_reducible rfl)
    (try simp only [Act.put, List.getElem_toArray, List.getElem_cons_zero, List.getElem_cons_succ, List.setIfInBounds_toArray, List.set_cons_zero, List.set_cons_succ])
    refine wpAnyH_take (i := 13) rfl (by kernel_rfl) (by kernel_rfl) (by kernel_rfl) (fun _ _ _ h => h) (yieldsIf_load_mid (by rfl) 93 (.tmp 7) rfl ga (0) rfl ([a0, a1, a2, a3, a4, a5, a6, a7]) _ RA.out Try.underlying93 rfl IA.out) hHeld ?_
    (try simp only [Act.put, List.getElem_toArray, List.getElem_cons_zero, List.getElem_cons_succ, List.setIfInBounds_toArray, List.set_cons_zero, List.set_cons_succ])
    refine wpAnyH_take (i := 15) rfl (by kernel_rfl) (by kernel_rfl) (by kernel_rfl) (fun _ _ _ h => h) (yieldsIf_load_mid (by rfl) 93 (.tmp 9) rfl gc (0) rfl ([c0, c1, c2, c3, c4, c5, c6, c7]) _ RC.out Try.underlying93 rfl IC.out) hHeld ?_
    (try simp only [Act.put, List.getElem_toArray, List.getElem_cons_zero, List.getElem_cons_succ, List.setIfInBounds_toArray, List.set_cons_zero, List.set_cons_succ])
    refine wpAnyH_ready (rs := [14]) (by kernel_rfl) (by simp) ?_
    refine AllReadyH.cons rfl (fun K hK => ?_) AllReadyH.nil
    (try simp only [List.getElem_toArray, List.getElem_cons_zero, List.getElem_cons_succ, List.setIfInBounds_toArray, List.set_cons_zero, List.set_cons_succ])
    try go_simp
    refine (TAr.out _ (HX11.out)).mono ?_; rintro e x12 ⟨rfl, hbq⟩; have HX12 : Hid (Below W8.heap.size W8 x12) := Lib.hid (bl_tr (HX11.out) hbq); clear hbq
    try go_simp
    refine hK.out _ _ ?_ (fun hHeld => ?_)
    · exact HX12.out
    (try simp only [Act.put, List.getElem_toArray, List.getElem_cons_zero, List.getElem_cons_succ, List.setIfInBounds_toArray, List.set_cons_zero, List.set_cons_succ])
    refine wpAnyH_ready (rs := [16]) (by kernel_rfl) (by simp) ?_
    refine AllReadyH.cons rfl (fun K hK => ?_) AllReadyH.nil
    (try simp only [List.getElem_toArray, List.getElem_cons_zero, List.getElem_cons_succ, List.setIfInBounds_toArray, List.set_cons_zero, List.set_cons_succ])
    try go_simp
    refine (TCr.out _ (HX12.out)).mono ?_; rintro e x13 ⟨rfl, hbq⟩; have HX13 : Hid (Below W8.heap.size W8 x13) := Lib.hid (bl_tr (HX12.out) hbq); clear hbq
    try go_simp
    refine hK.out _ _ ?_ (fun hHeld => ?_)
    · exact HX13.out
    (try simp only [Act.put, List.getElem_toArray, List.getElem_cons_zero, List.getElem_cons_succ, List.setIfInBounds_toArray, List.set_cons_zero, List.set_cons_succ])
    refine wpAnyH_take (i := 17) (v := ?_) rfl (by kernel_rfl) (by kernel_rfl) (by kernel_rfl) (fun _ _ _ h => h) (Or.inl ⟨by rfl, ?_⟩) hHeld ?_
    rotate_left
    · (intro wS hSw; (try dsimp only at hSw); go_simp; try with_reducible rfl)
    (try simp only [Act.put, List.getElem_toArray, List.getElem_cons_zero, List.getElem_cons_succ, List.setIfInBounds_toArray, List.set_cons_zero, List.set_cons_succ])
    refine wpAnyH_take (i := 18) (v := ?_) rfl (by kernel_rfl) (by kernel_rfl) (by kernel_rfl) (fun _ _ _ h => h) (Or.inl ⟨by rfl, ?_⟩) hHeld ?_
    rotate_left
    · (intro wS hSw; (try dsimp only at hSw); go_simp; try with_reducible rfl)
    (try simp only [Act.put, List.getElem_toArray, List.getElem_cons_zero, List.getElem_cons_succ, List.setIfInBounds_toArray, List.set_cons_zero, List.set_cons_succ])
    refine wpAnyH_take (i := 19) (v := ?_) rfl (by kernel_rfl) (by kernel_rfl) (by kernel_rfl) (fun _ _ _ h => h) (Or.inl ⟨by rfl, ?_⟩) hHeld ?_
    rotate_left
    · (intro wS hSw; (try dsimp only at hSw); go_simp; try with_reducible rfl)
    (try simp only [Act.put, List.getElem_toArray, List.getElem_cons_zero, List.getElem_cons_succ, List.setIfInBounds_toArray, List.set_cons_zero, List.set_cons_succ])
    refine wpAnyH_take (i := 20) rfl (by kernel_rfl) (by kernel_rfl) (by kernel_rfl) (fun _ _ _ h => h) (yieldsIf_load_mid (by rfl) 93 (.tmp 7) rfl ga (0) rfl ([a0, a1, a2, a3, a4, a5, a6, a7]) _ RA.out Try.underlying93 rfl IA.out) hHeld ?_
    (try simp only [Act.put, List.getElem_toArray, List.getElem_cons_zero, List.getElem_cons_succ, List.setIfInBounds_toArray, List.set_cons_zero, List.set_cons_succ])
    refine wpAnyH_take (i := 22) rfl (by kernel_rfl) (by kernel_rfl) (by kernel_rfl) (fun _ _ _ h => h) (yieldsIf_load_mid (by rfl) 93 (.tmp 7) rfl ga (0) rfl ([a0, a1, a2, a3, a4, a5, a6, a7]) _ RA.out Try.underlying93 rfl IA.out) hHeld ?_
    (try simp only [Act.put, List.getElem_toArray, List.getElem_cons_zero, List.getElem_cons_succ, List.setIfInBounds_toArray, List.set_cons_zero, List.set_cons_succ])
    refine wpAnyH_ready (rs := [21]) (by kernel_rfl) (by simp) ?_
    refine AllReadyH.cons rfl (fun K hK => ?_) AllReadyH.nil
    (try simp only [List.getElem_toArray, List.getElem_cons_zero, List.getElem_cons_succ, List.setIfInBounds_toArray, List.set_cons_zero, List.set_cons_succ])
    try go_simp
    refine (DA.out _ (HX13.out)).mono ?_; rintro e x14 ⟨rfl, hbq⟩; have HX14 : Hid (Below W8.heap.size W8 x14) := Lib.hid (bl_tr (HX13.out) hbq); clear hbq
    try go_simp
    refine hK.out _ _ ?_ (fun hHeld => ?_)
    · exact HX14.out
    (try simp only [Act.put, List.getElem_toArray, List.getElem_cons_zero, List.getElem_cons_succ, List.setIfInBounds_toArray, List.set_cons_zero, List.set_cons_succ])
    refine wpAnyH_ready (rs := [23]) (by kernel_rfl) (by simp) ?_
    refine AllReadyH.cons rfl (fun K hK => ?_) AllReadyH.nil
    (try simp only [List.getElem_toArray, List.getElem_cons_zero, List.getElem_cons_succ, List.setIfInBounds_toArray, List.set_cons_zero, List.set_cons_succ])
    try go_simp
    refine (ZA.out _ (HX14.out)).mono ?_; rintro e x15 ⟨rfl, hbq⟩; have HX15 : Hid (Below W8.heap.size W8 x15) := Lib.hid (bl_tr (HX14.out) hbq); clear hbq
    try go_simp
    refine hK.out _ _ ?_ (fun hHeld => ?_)
    · exact HX15.out
    (try simp only [Act.put, List.getElem_toArray, List.getElem_cons_zero, List.getElem_cons_succ, List.setIfInBounds_toArray, List.set_cons_zero, List.set_cons_succ])
    refine wpAnyH_take (i := 24) (v := ?_) rfl (by kernel_rfl) (by kernel_rfl) (by kernel_rfl) (fun _ _ _ h => h) (Or.inl ⟨by rfl, ?_⟩) hHeld ?_
    rotate_left
    · (intro wS hSw; (try dsimp only at hSw); go_simp; try with_reducible rfl)
    (try simp only [Act.put, List.getElem_toArray, List.getElem_cons_zero, List.getElem_cons_succ, List.setIfInBounds_toArray, List.set_cons_zero, List.set_cons_succ])
    refine wpAnyH_take (i := 25) (v := ?_) rfl (by kernel_rfl) (by kernel_rfl) (by kernel_rfl) (fun _ _ _ h => h) (Or.inl ⟨by rfl, ?_⟩) hHeld ?_
    rotate_left
    · (intro wS hSw; (try dsimp only at hSw); go_simp; try with_reducible rfl)
    (try simp only [Act.put, List.getElem_toArray, List.getElem_cons_zero, List.getElem_cons_succ, List.setIfInBounds_toArray, List.set_cons_zero, List.set_cons_succ])
    refine wpAnyH_take (i := 26) (v := ?_) rfl (by kernel_rfl) (by kernel_rfl) (by kernel_rfl) (fun _ _ _ h => h) (Or.inl ⟨by rfl, ?_⟩) hHeld ?_
    rotate_left
    · (intro wS hSw; (try dsimp only at hSw); go_simp; try with_reducible rfl)
    (try simp only [Act.put, List.getElem_toArray, List.getElem_cons_zero, List.getElem_cons_succ, List.setIfInBounds_toArray, List.set_cons_zero, List.set_cons_succ])
    refine wpAnyH_take (i := 27) rfl (by kernel_rfl) (by kernel_rfl) (by kernel_rfl) (fun _ _ _ h => h) (yieldsIf_load_mid (by rfl) 93 (.tmp 7) rfl ga (0) rfl ([a0, a1, a2, a3, a4, a5, a6, a7]) _ RA.out Try.underlying93 rfl IA.out) hHeld ?_
    (try simp only [Act.put, List.getElem_toArray, List.getElem_cons_zero, List.getElem_cons_succ, List.setIfInBounds_toArray, List.set_cons_zero, List.set_cons_succ])
    refine wpAnyH_ready (rs := [28]) (by kernel_rfl) (by simp) ?_
    refine AllReadyH.cons rfl (fun K hK => ?_) AllReadyH.nil
    (try simp only [List.getElem_toArray, List.getElem_cons_zero, List.getElem_cons_succ, List.setIfInBounds_toArray, List.set_cons_zero, List.set_cons_succ])
    try go_simp
    refine (DA.out _ (HX15.out)).mono ?_; rintro e x16 ⟨rfl, hbq⟩; have HX16 : Hid (Below W8.heap.size W8 x16) := Lib.hid (bl_tr (HX15.out) hbq); clear hbq
    try go_simp
    refine hK.out _ _ ?_ (fun hHeld => ?_)
    · exact HX16.out
    (try simp only [Act.put, List.getElem_toArray, List.getElem_cons_zero, List.getElem_cons_succ, List.setIfInBounds_toArray, List.set_cons_zero, List.set_cons_succ])
    refine wpAnyH_take (i := 29) (v := ?_) rfl (by kernel_rfl) (by kernel_rfl) (by kernel_rfl) (fun _ _ _ h => h) (Or.inl ⟨by rfl, ?_⟩) hHeld ?_
    rotate_left
    · (intro wS hSw; (try dsimp only at hSw); go_simp; try with_reducible rfl)
    (try simp only [Act.put, List.getElem_toArray, List.getElem_cons_zero, List.getElem_cons_succ, List.setIfInBounds_toArray, List.set_cons_zero, List.set_cons_succ])
    refine wpAnyH_take (i := 30) (v := ?_) rfl (by kernel_rfl) (by kernel_rfl) (by kernel_rfl) (fun _ _ _ h => h) (Or.inl ⟨by rfl, ?_⟩) hHeld ?_
    rotate_left
    · (intro wS hSw; (try dsimp only at hSw); go_simp; try with_reducible rfl)
    (try simp only [Act.put, List.getElem_toArray, List.getElem_cons_zero, List.getElem_cons_succ, List.setIfInBounds_toArray, List.set_cons_zero, List.set_cons_succ])
    refine wpAnyH_take (i := 31) (v := ?_) rfl (by kernel_rfl) (by kernel_rfl) (by kernel_rfl) (fun _ _ _ h => h) (Or.inl ⟨by rfl, ?_⟩) hHeld ?_
    rotate_left
    · (intro wS hSw; (try dsimp only at hSw); go_simp; try with_reducible rfl)
    (try simp only [Act.put, List.getElem_toArray, List.getElem_cons_zero, List.getElem_cons_succ, List.setIfInBounds_toArray, List.set_cons_zero, List.set_cons_succ])
    refine wpAnyH_take (i := 32) rfl (by kernel_rfl) (by kernel_rfl) (by kernel_rfl) (fun _ _ _ h => h) (yieldsIf_load_mid (by rfl) 93 (.tmp 7) rfl ga (0) rfl ([a0, a1, a2, a3, a4, a5, a6, a7]) _ RA.out Try.underlying93 rfl IA.out) hHeld ?_
    (try simp only [Act.put, List.getElem_toArray, List.getElem_cons_zero, List.getElem_cons_succ, List.setIfInBounds_toArray, List.set_cons_zero, List.set_cons_succ])
    refine wpAnyH_take (i := 33) rfl (by kernel_rfl) (by kernel_rfl) (by kernel_rfl) (fun _ _ _ h => h) (yieldsIf_load_mid (by rfl) 93 (.tmp 8) rfl gb (0) rfl ([b0, b1, b2, b3, b4, b5, b6, b7]) _ RB.out Try.underlying93 rfl IB.out) hHeld ?_
    (try simp only [Act.put, List.getElem_toArray, List.getElem_cons_zero, List.getElem_cons_succ, List.setIfInBounds_toArray, List.set_cons_zero, List.set_cons_succ])
    refine wpAnyH_ready (rs := [34]) (by kernel_rfl) (by simp) ?_
    refine AllReadyH.cons rfl (fun K hK => ?_) AllReadyH.nil
    (try simp only [List.getElem_toArray, List.getElem_cons_zero, List.getElem_cons_succ, List.setIfInBounds_toArray, List.set_cons_zero, List.set_cons_succ])
    try go_simp
    refine (KAB.out _ (HX16.out)).mono ?_; rintro e x17 ⟨rfl, hbq⟩; have HX17 : Hid (Below W8.heap.size W8 x17) := Lib.hid (bl_tr (HX16.out) hbq); clear hbq
    try go_simp
    refine hK.out _ _ ?_ (fun hHeld => ?_)
    · exact HX17.out
    (try simp only [Act.put, List.getElem_toArray, List.getElem_cons_zero, List.getElem_cons_succ, List.setIfInBounds_toArray, List.set_cons_zero, List.set_cons_succ])
    refine wpAnyH_take (i := 35) (v := ?_) rfl (by kernel_rfl) (by kernel_rfl) (by kernel_rfl) (fun _ _ _ h => h) (Or.inl ⟨by rfl, ?_⟩) hHeld ?_
    rotate_left
    · (intro wS hSw; (try dsimp only at hSw); go_simp; try with_reducible rfl)
    (try simp only [Act.put, List.getElem_toArray, List.getElem_cons_zero, List.getElem_cons_succ, List.setIfInBounds_toArray, List.set_cons_zero, List.set_cons_succ])
    refine wpAnyH_take (i := 36) (v := ?_) rfl (by kernel_rfl) (by kernel_rfl) (by kernel_rfl) (fun _ _ _ h => h) (Or.inl ⟨by rfl, ?_⟩) hHeld ?_
    rotate_left
    · (intro wS hSw; (try dsimp only at hSw); go_simp; try with_reducible rfl)
    (try simp only [Act.put, List.getElem_toArray, List.getElem_cons_zero, List.getElem_cons_succ, List.setIfInBounds_toArray, List.set_cons_zero, List.set_cons_succ])
    refine wpAnyH_take (i := 37) (v := undef) rfl (by kernel_rfl) (by kernel_rfl) (by kernel_rfl) (fun _ _ _ h => h) (Or.inr ⟨by rfl, rfl⟩) hHeld ?_
    (try simp only [Act.put, List.getElem_toArray, List.getElem_cons_zero, List.getElem_cons_succ, List.setIfInBounds_toArray, List.set_cons_zero, List.set_cons_succ])
    refine wpAnyH_take (i := 38) (v := undef) rfl (by kernel_rfl) (by kernel_rfl) (by kernel_rfl) (fun _ _ _ h => h) (Or.inr ⟨by rfl, rfl⟩) hHeld ?_
    (try simp only [Act.put, List.getElem_toArray, List.getElem_cons_zero, List.getElem_cons_succ, List.setIfInBounds_toArray, List.set_cons_zero, List.set_cons_succ])
    refine wpAnyH_take (i := 39) (v := undef) rfl (by kernel_rfl) (by kernel_rfl) (by kernel_rfl) (fun _ _ _ h => h) (Or.inr ⟨by rfl, rfl⟩) hHeld ?_
    (try simp only [Act.put, List.getElem_toArray, List.getElem_cons_zero, List.getElem_cons_succ, List.setIfInBounds_toArray, List.set_cons_zero, List.set_cons_succ])
    refine wpAnyH_take (i := 40) (v := undef) rfl (by kernel_rfl) (by kernel_rfl) (by kernel_rfl) (fun _ _ _ h => h) (Or.inr ⟨by rfl, rfl⟩) hHeld ?_
    (try simp only [Act.put, List.getElem_toArray, List.getElem_cons_zero, List.getElem_cons_succ, List.setIfInBounds_toArray, List.set_cons_zero, List.set_cons_succ])
    refine wpAnyH_take (i := 41) (v := undef) rfl (by kernel_rfl) (by kernel_rfl) (by kernel_rfl) (fun _ _ _ h => h) (Or.inr ⟨by rfl, rfl⟩) hHeld ?_
    (try simp only [Act.put, List.getElem_toArray, List.getElem_cons_zero, List.getElem_cons_succ, List.setIfInBounds_toArray, List.set_cons_zero, List.set_cons_succ])
    refine wpAnyH_take (i := 42) (v := undef) rfl (by kernel_rfl) (by kernel_rfl) (by kernel_rfl) (fun _ _ _ h => h) (Or.inr ⟨by rfl, rfl⟩) hHeld ?_
    (try simp only [Act.put, List.getElem_toArray, List.getElem_cons_zero, List.getElem_cons_succ, List.setIfInBounds_toArray, List.set_cons_zero, List.set_cons_succ])
    refine wpAnyH_take (i := 43) (v := undef) rfl (by kernel_rfl) (by kernel_rfl) (by kernel_rfl) (fun _ _ _ h => h) (Or.inr ⟨by rfl, rfl⟩) hHeld ?_
    (try simp only [Act.put, List.getElem_toArray, List.getElem_cons_zero, List.getElem_cons_succ, List.setIfInBounds_toArray, List.set_cons_zero, List.set_cons_succ])
    refine wpAnyH_take (i := 44) (v := undef) rfl (by kernel_rfl) (by kernel_rfl) (by kernel_rfl) (fun _ _ _ h => h) (Or.inr ⟨by rfl, rfl⟩) hHeld ?_
    (try simp only [Act.put, List.getElem_toArray, List.getElem_cons_zero, List.getElem_cons_succ, List.setIfInBounds_toArray, List.set_cons_zero, List.set_cons_succ])
    refine wpAnyH_take (i := 45) (v := undef) rfl (by kernel_rfl) (by kernel_rfl) (by kernel_rfl) (fun _ _ _ h => h) (Or.inr ⟨by rfl, rfl⟩) hHeld ?_
    (try simp only [Act.put, List.getElem_toArray, List.getElem_cons_zero, List.getElem_cons_succ, List.setIfInBounds_toArray, List.set_cons_zero, List.set_cons_succ])
    refine wpAnyH_take (i := 46) (v := undef) rfl (by kernel_rfl) (by kernel_rfl) (by kernel_rfl) (fun _ _ _ h => h) (Or.inr ⟨by rfl, rfl⟩) hHeld ?_
    (try simp only [Act.put, List.getElem_toArray, List.getElem_cons_zero, List.getElem_cons_succ, List.setIfInBounds_toArray, List.set_cons_zero, List.set_cons_succ])
    refine wpAnyH_take (i := 47) (v := undef) rfl (by kernel_rfl) (by kernel_rfl) (by kernel_rfl) (fun _ _ _ h => h) (Or.inr ⟨by rfl, rfl⟩) hHeld ?_
    (try simp only [Act.put, List.getElem_toArray, List.getElem_cons_zero, List.getElem_cons_succ, List.setIfInBounds_toArray, List.set_cons_zero, List.set_cons_succ])
    refine wpAnyH_take (i := 48) (v := undef) rfl (by kernel_rfl) (by kernel_rfl) (by kernel_rfl) (fun _ _ _ h => h) (Or.inr ⟨by rfl, rfl⟩) hHeld ?_
    (try simp only [Act.put, List.getElem_toArray, List.getElem_cons_zero, List.getElem_cons_succ, List.setIfInBounds_toArray, List.set_cons_zero, List.set_cons_succ])
    refine wpAnyH_take (i := 49) (v := ?_) rfl (by kernel_rfl) (by kernel_rfl) (by kernel_rfl) (fun _ _ _ h => h) (Or.inl ⟨by rfl, ?_⟩) hHeld ?_
    rotate_left
    · (intro wS hSw; (try dsimp only at hSw); go_simp; try with_reducible rfl)
    (try simp only [Act.put, List.getElem_toArray, List.getElem_cons_zero, List.getElem_cons_succ, List.setIfInBounds_toArray, List.set_cons_zero, List.set_cons_succ])
    refine wpAnyH_take (i := 50) (v := ?_) rfl (by kernel_rfl) (by kernel_rfl) (by kernel_rfl) (fun _ _ _ h => h) (Or.inl ⟨by rfl, ?_⟩) hHeld ?_
    rotate_left
    · (intro wS hSw; (try dsimp only at hSw); go_simp; try with_reducible rfl)
    (try simp only [Act.put, List.getElem_toArray, List.getElem_cons_zero, List.getElem_cons_succ, List.setIfInBounds_toArray, List.set_cons_zero, List.set_cons_succ])
    refine wpAnyH_take (i := 51) (v := ?_) rfl (by kernel_rfl) (by kernel_rfl) (by kernel_rfl) (fun _ _ _ h => h) (Or.inl ⟨by rfl, ?_⟩) hHeld ?_
    rotate_left
    · (intro wS hSw; (try dsimp only at hSw); go_simp; try with_reducible rfl)
    (try simp only [Act.put, List.getElem_toArray, List.getElem_cons_zero, List.getElem_cons_succ, List.setIfInBounds_toArray, List.set_cons_zero, List.set_cons_succ])
    refine wpAnyH_done (by kernel_rfl) ?_ _
    go_wp2_with fail
    go_ret
    exact ⟨ret_b (by simp [*]), bl_tr HW1.out (bl_tr HB18.out HX17.out)⟩
end Go.Proofs.Ytfeghobfkgimfaa
