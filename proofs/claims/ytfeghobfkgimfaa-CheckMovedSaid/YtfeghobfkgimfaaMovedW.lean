/- CheckMoved, walked. -/
import Derived.Test.YtfeghobfkgimfaaMovedT
import Derived.Test.YtfeghobfkgimfaaKnowsL
namespace Go.Proofs.Ytfeghobfkgimfaa
open Go.RowKit Go.Shelf

theorem cell_set_far {w : World} {b i k j : Nat} {u : Value} (h : k ≠ b) : (w.setCell ⟨b, i, none⟩ u).cell? ⟨k, j, none⟩ = w.cell? ⟨k, j, none⟩ := World.cell?_of_block (w := w) (a := ⟨k, j, none⟩) (Below.heap_setCell w ⟨b, i, none⟩ u k h)

/-- A code's slices, its own copy's, and all that is known of it: as the calls want them. -/
structure CallsOf (w : World) (C : CodeD) (v : Value) : Prop where
  light : ∀ W, Below w.heap.size w W → Calls Try.prog 12 #[v] W (LightV C W)
  own : SmallC C → ∀ W, Below w.heap.size w W → Calls Try.prog 14 #[v] W fun e W' =>
      ∃ G' gc' I' ic', e = .returned (.agg #[.slice G' C.gl gc', .slice I' C.ni ic']) ∧ Below W.heap.size W W' ∧ CodeIn W' C G' gc' I' ic'
theorem callsOf {w : World} {C : CodeD} {G I : Option Addr} {gc ic : Nat} (hC : CodeAt w C G gc I ic) (hR : RoomC w C G) : CallsOf w C (.agg #[.slice G C.gl gc, .slice I C.ni ic]) := by
  refine ⟨fun W hb => light_any C G I gc ic W (hC.on hb) ⟨hR.gl, hR.ni, fun g o hG i hi s hs => ?_, hR.tl⟩, fun hS W hb => ?_⟩
  · obtain ⟨g', o', hG', hg, hc⟩ := hC.gs (by omega)
    rw [hG] at hG'
    injection hG' with hG'
    injection hG' with q1 q2
    subst q1 q2
    exact hR.nm g o hG i hi s (by rw [← hb.cell (p := ⟨g, o + i * 3, none⟩) hg]; exact hs)
  · obtain ⟨h1, h2, h3⟩ := hS
    refine (ownC_any C G I gc ic W (hC.on hb) (fun i hi => by have := h3 i hi; omega) (by omega) (by omega)).mono ?_
    rintro e W' ⟨G', gc', I', ic', he, hb', hC'⟩
    exact ⟨G', gc', I', ic', he, hb', hC', fun i hi => by have := h3 i hi; omega, by omega, by omega⟩

set_option maxRecDepth 100000 in
set_option maxHeartbeats 8000000 in
theorem moved_any (A B : CodeD) (G1 I1 G2 I2 : Option Addr) (gc1 ic1 gc2 ic2 : Nat) (w : World) (hA : CodeAt w A G1 gc1 I1 ic1) (hRA : RoomC w A G1) (hB : CodeAt w B G2 gc2 I2 ic2) (hRB : RoomC w B G2) :
    Calls Try.prog 4 #[.agg #[.slice G1 A.gl gc1, .slice I1 A.ni ic1], .agg #[.slice G2 B.gl gc2, .slice I2 B.ni ic2]] w (RightV true w) := by
  obtain ⟨gi0, hgi, hgz0, hgzs, hgzb⟩ := info_parts Try.info44
  obtain ⟨ii0, hii, hiz0, hizs, hizb⟩ := info_parts Try.info45
  obtain ⟨ti0, hti, htz0, htzs, htzb⟩ := info_parts Try.info46
  obtain ⟨S, hnG⟩ := hA.newsG
  obtain ⟨f, hfT, hnI⟩ := hA.newsI
  have hlG := rowsL_length (g := gRow A S) (m := 3) (fun _ => rfl) A.gl
  have hlI := rowsL_length (g := iRow A f) (m := 4) (fun _ => rfl) A.ni
  have hcA := callsOf hA hRA
  have hcB := callsOf hB hRB
  obtain ⟨an, han⟩ : ∃ n, n = A.ni := ⟨_, rfl⟩
  obtain ⟨ag, hag⟩ : ∃ n, n = A.gl := ⟨_, rfl⟩
  obtain ⟨bn, hbn⟩ : ∃ n, n = B.ni := ⟨_, rfl⟩
  obtain ⟨bg, hbg⟩ : ∃ n, n = B.gl := ⟨_, rfl⟩
  rw [← han, ← hag] at hcA ⊢; rw [← hbn, ← hbg] at hcB ⊢; rw [← hag] at hlG hnG; rw [← han] at hlI hnI
  have HLG := Lib.hid hlG; have HLI := Lib.hid hlI; have HNG := Lib.hid hnG; have HNI := Lib.hid hnI; have HFT := Lib.hid hfT
  clear hlG hlI hnG hnI hfT
  have HAN := Lib.hid han; have HAG := Lib.hid hag; have HBN := Lib.hid hbn; have HBG := Lib.hid hbg
  have HA := Lib.hid hA; have HB := Lib.hid hB; have HCA := Lib.hid hcA; have HCB := Lib.hid hcB
  clear han hag hbn hbg hA hB hcA hcB hRA hRB
  have hb0 := below2 (w := w) (.cells #[.slice G1 ag gc1, .slice I1 an ic1] 39) (.cells #[.slice G2 bg gc2, .slice I2 bn ic2] 39)
  have BA := (Blk.new w 39 #[.slice G1 ag gc1, .slice I1 an ic1]).alloc (.cells #[.slice G2 bg gc2, .slice I2 bn ic2] 39)
  have BB := Blk.new (w.alloc (.cells #[.slice G1 ag gc1, .slice I1 an ic1] 39)) 39 #[.slice G2 bg gc2, .slice I2 bn ic2]
  simp only [World.size_alloc] at BB
  have HB0 := Lib.hid hb0; have HBA := Lib.hid BA; have HBB := Lib.hid BB
  clear hb0 BA BB
  go_enter Try.func4, Try.ntmps4
  go_wp2_with fail
  refine (HCA.out.light _ HB0.out).mono ?_
  rintro e W1 ⟨la, rfl, hb1, hla⟩
  have ba1 := HBA.out.below hb1 HBA.out.lt
  have bb1 := HBB.out.below hb1 HBB.out.lt
  have HB1 := Lib.hid (HB0.out.trans (hb1.mono HB0.out.size))
  have c0 := bb1.cell 0; have c1 := bb1.cell 1
  simp at c0 c1
  have HBA1 := Lib.hid ba1; have HBB1 := Lib.hid bb1; have HLA := Lib.hid hla
  clear hb1 ba1 bb1 hla
  cases la with
  | false =>
    go_wp2_with fail
    refine (knows22_any _).mono ?_
    rintro e W2 ⟨rfl, hb2⟩
    have HB2 := Lib.hid (HB1.out.trans (hb2.mono HB1.out.size))
    clear hb2 c0 c1
    go_wp2_with fail
    go_ret
    exact ⟨rfl, HB2.out⟩
  | true =>
    go_wp2_with fail
    refine (HCB.out.light _ HB1.out).mono ?_
    rintro e W2 ⟨lb, rfl, hb2, hlb⟩
    have ba2 := HBA1.out.below hb2 HBA1.out.lt
    have bb2 := HBB1.out.below hb2 HBB1.out.lt
    have HB2 := Lib.hid (HB1.out.trans (hb2.mono HB1.out.size))
    clear c0 c1
    have c0 := ba2.cell 0; have c1 := ba2.cell 1
    simp at c0 c1
    have HBA2 := Lib.hid ba2; have HBB2 := Lib.hid bb2; have HLB := Lib.hid hlb
    clear hb2 ba2 bb2 hlb
    cases lb with
    | false =>
      go_wp2_with fail
      refine (knows22_any _).mono ?_
      rintro e W3 ⟨rfl, hb3⟩
      have HB3 := Lib.hid (HB2.out.trans (hb3.mono HB2.out.size))
      clear hb3 c0 c1
      go_wp2_with fail
      go_ret
      exact ⟨rfl, HB3.out⟩
    | true =>
      go_wp2_with fail
      refine (HCA.out.own (HLA.out trivial) _ HB2.out).mono ?_
      rintro e W3 ⟨GA, gca, IA, ica, rfl, hb3, hin⟩
      have ba3 := HBA2.out.below hb3 HBA2.out.lt
      have bb3 := HBB2.out.below hb3 HBB2.out.lt
      have HB3 := Lib.hid (HB2.out.trans (hb3.mono HB2.out.size))
      have hsf := safe_any A GA IA gca ica W3 hin
      have HSF := Lib.hid hsf
      have HBA3 := Lib.hid ba3; have HBB3 := Lib.hid bb3
      clear hb3 ba3 bb3 c0 c1 hin hsf
      go_wp2_with fail
      refine HSF.out.mono ?_
      rintro e W4 ⟨rfl, hb4⟩
      have ba4 := HBA3.out.below hb4 HBA3.out.lt
      have bb4 := HBB3.out.below hb4 HBB3.out.lt
      have HB4 := Lib.hid (HB3.out.trans (hb4.mono HB3.out.size))
      have c0 := bb4.cell 0; have c1 := bb4.cell 1
      simp at c0 c1
      have HBA4 := Lib.hid ba4; have HBB4 := Lib.hid bb4
      clear hb4 ba4 bb4
      cases hoA : okB A with
      | false =>
        go_wp2_with fail
        refine (knows22_any _).mono ?_
        rintro e W5 ⟨rfl, hb5⟩
        have HB5 := Lib.hid (HB4.out.trans (hb5.mono HB4.out.size))
        clear hb5 c0 c1
        go_wp2_with fail
        go_ret
        exact ⟨rfl, HB5.out⟩
      | true =>
        have HOA := Lib.hid hoA
        clear hoA
        go_wp2_with fail
        refine (HCB.out.own (HLB.out trivial) _ HB4.out).mono ?_
        rintro e W5 ⟨GB, gcb, IB, icb, rfl, hb5, hin⟩
        have ba5 := HBA4.out.below hb5 HBA4.out.lt
        have bb5 := HBB4.out.below hb5 HBB4.out.lt
        have HB5 := Lib.hid (HB4.out.trans (hb5.mono HB4.out.size))
        have hsf := safe_any B GB IB gcb icb W5 hin
        have HSF2 := Lib.hid hsf
        have HBA5 := Lib.hid ba5; have HBB5 := Lib.hid bb5
        clear hb5 ba5 bb5 c0 c1 hin hsf
        go_wp2_with fail
        refine HSF2.out.mono ?_
        rintro e W6 ⟨rfl, hb6⟩
        have ba6 := HBA5.out.below hb6 HBA5.out.lt
        have bb6 := HBB5.out.below hb6 HBB5.out.lt
        have HB6 := Lib.hid (HB5.out.trans (hb6.mono HB5.out.size))
        have HBA6 := Lib.hid ba6; have HBB6 := Lib.hid bb6
        clear hb6 ba6 bb6
        cases hoB : okB B with
        | false =>
          go_wp2_with fail
          refine (knows22_any _).mono ?_
          rintro e W7 ⟨rfl, hb7⟩
          have HB7 := Lib.hid (HB6.out.trans (hb7.mono HB6.out.size))
          clear hb7
          go_wp2_with fail
          go_ret
          exact ⟨rfl, HB7.out⟩
        | true =>
          have HOB := Lib.hid hoB
          clear hoB HBA5 HBB5 HBA4 HBB4 HBA3 HBB3 HBA2 HBB2 HBA1 HBB1 HB5 HB4 HB3 HB2 HB1
          have ba6 := HBA6.out
          have c0 := ba6.cell 0; have c1 := ba6.cell 1
          simp at c0 c1
          have hz6 : w.heap.size + 2 ≤ W6.heap.size := HBB6.out.lt
          have lz6 : w.heap.size < W6.heap.size := HBA6.out.lt
          have lz6b : w.heap.size + 1 < W6.heap.size := HBB6.out.lt
          have hsA := HLA.out trivial
          have hag60 : ag ≤ 60 := by rw [HAG.out]; exact hsA.1
          have han200 : an ≤ 200 := by rw [HAN.out]; exact hsA.2.1
          have HTA := Lib.hid hsA.2.2
          clear ba6 hsA
          go_upto_region 3 with fail
          go_cut [5] (fun s5 wc => ∃ bc v1 v2, s5 = .pointer (some ⟨bc, 0, none⟩) ∧ Hid (MvI w #[.slice G1 ag gc1, .slice I1 an ic1] #[.slice G2 bg gc2, .slice I2 bn ic2] (movC A B (fun _ => 0)) wc bc v1 v2 ag an))
          case first =>
            clear HCA HCB HB HSF HSF2 HLA HLB HBN HBG HOA HOB HBA HBB HB0
            go_region_held3 (fun w' => w'.cell? ⟨w.heap.size, 0, none⟩ = some (.slice G1 ag gc1) ∧ w'.cell? ⟨w.heap.size, 1, none⟩ = some (.slice I1 an ic1))
              (first | exact ⟨d20, d21⟩ | exact ⟨d10, d11⟩ | exact ⟨((by repeat (with_reducible first | exact Below.refl _ _ | exact HL1.out | exact HL2.out | refine Below.drew ?_ | refine bl_al ?_ _ | refine bl_st ?_ (by omega) _) : Below W6.heap.size W6 _).cell (p := ⟨w.heap.size, 0, none⟩) lz6).trans c0, ((by repeat (with_reducible first | exact Below.refl _ _ | exact HL1.out | exact HL2.out | refine Below.drew ?_ | refine bl_al ?_ _ | refine bl_st ?_ (by omega) _) : Below W6.heap.size W6 _).cell (p := ⟨w.heap.size, 1, none⟩) lz6).trans c1⟩ | ((try go_split_ands); refine ⟨?_, ?_⟩ <;> (rw [cell_set_far (by omega), cell_set_far (by omega)]; first | exact d20 | exact d21)) | go_keep)
              (first
              | (refine step_append_copy (by rfl) (.tmp 41) (.tmp 43) 36 (by rfl) (w.heap.size + 2) 44 gi0 (.agg #[.string { data := #[] }, .int .i64 0, .int .i64 0]) 3 32 Try.underlying36 hgi hgz0 hgzs hgzb rfl (by decide) ?_ G1 ag gc1 (rowsL (gRow A S) ag) (by rfl) HLG.out (HNG.out _ ?_) rowsG_one (by unfold maxLen; omega) (by omega) (by (try simp); omega) ?_; (next => refine ⟨_, rfl, ?_, by (try simp); omega⟩; (show Blk _ _ _ _); repeat (with_reducible first | exact bk_new _ _ _ _ (by simp) | exact bk_new _ _ _ _ rfl | refine Blk.drew ?_ | refine bk_alloc ?_ _ | refine bk_below ?_ HW1.out)); (next => repeat (with_reducible first | exact HB6.out | refine Below.drew ?_ | refine bl_al ?_ _ | refine bl_tr ?_ HW1.out)); intro A1 cap1 w1 ho1 hw1; have hz1 : W6.heap.size ≤ w1.heap.size := (by have := hw1.size; (try simp at this); omega); have hL1 : Below W6.heap.size W6 w1 := (by refine bl_tr ?_ hw1; repeat (with_reducible first | exact Below.refl _ _ | exact HL1.out | refine Below.drew ?_ | refine bl_al ?_ _)); have d10 := (hL1.cell (p := ⟨w.heap.size, 0, none⟩) lz6).trans c0; have d11 := (hL1.cell (p := ⟨w.heap.size, 1, none⟩) lz6).trans c1; have l1z : w.heap.size < w1.heap.size := (by omega); (try (with_reducible first | have hbc := bk_below (Blk.drew (bk_new _ 39 #[.slice none 0 0, .slice none 0 0] _ rfl)) hw1 | have hbc := bk_below (Blk.drew (bk_alloc (bk_new _ 39 #[.slice none 0 0, .slice none 0 0] _ rfl) _)) hw1 | have hbc := bk_below (Blk.drew (bk_alloc (bk_alloc (bk_new _ 39 #[.slice none 0 0, .slice none 0 0] _ rfl) _) _)) hw1 | have hbc := bk_below (bk_new _ 39 #[.slice none 0 0, .slice none 0 0] _ rfl) hw1 | have hbc := bk_below (bk_alloc (bk_new _ 39 #[.slice none 0 0, .slice none 0 0] _ rfl) _) hw1); (try simp only [World.size_alloc] at hbc); have e10 := hbc.cell 0; have e11 := hbc.cell 1; have f10 := hbc.frozen 0; have f11 := hbc.frozen 1; simp at e10 e11; have HBC1 := Lib.hid hbc; clear hbc); have HL1 := Lib.hid hL1; have HO1 := Lib.hid ho1; have HW1 := Lib.hid hw1; clear ho1 hw1 hL1)
              | (refine step_append_copy (by rfl) (.tmp 45) (.tmp 47) 37 (by rfl) (w.heap.size + 2) 45 ii0 (.agg #[.int .i64 0, .int .i64 0, .int .i64 0, .slice none 0 0]) 4 48 Try.underlying37 hii hiz0 hizs hizb rfl (by decide) ?_ I1 an ic1 (rowsL (iRow A f) an) (by rfl) HLI.out (HNI.out _ ?_) rowsI_one (by unfold maxLen; omega) (by omega) (by (try simp); omega) ?_; (next => refine ⟨_, rfl, ?_, by (try simp); omega⟩; (show Blk _ _ _ _); repeat (with_reducible first | exact bk_new _ _ _ _ (by simp) | exact bk_new _ _ _ _ rfl | refine Blk.drew ?_ | refine bk_alloc ?_ _ | refine bk_below ?_ HW1.out)); (next => repeat (with_reducible first | exact HB6.out | refine Below.drew ?_ | refine bl_al ?_ _ | refine bl_tr ?_ HW1.out)); intro A2 cap2 w2 ho2 hw2; have hz2 : W6.heap.size ≤ w2.heap.size := (by have := hw2.size; (try simp at this); omega); have hL2 : Below W6.heap.size W6 w2 := (by refine bl_tr ?_ hw2; repeat (with_reducible first | exact Below.refl _ _ | exact HL1.out | refine Below.drew ?_ | refine bl_al ?_ _)); have d20 := (hL2.cell (p := ⟨w.heap.size, 0, none⟩) lz6).trans c0; have d21 := (hL2.cell (p := ⟨w.heap.size, 1, none⟩) lz6).trans c1; have l2z : w.heap.size < w2.heap.size := (by omega); (try (with_reducible first | have hbc := bk_below HBC1.out hw2 | have hbc := bk_below (bk_alloc HBC1.out _) hw2 | have hbc := bk_below (Blk.drew (bk_new _ 39 #[.slice none 0 0, .slice none 0 0] _ rfl)) hw2 | have hbc := bk_below (Blk.drew (bk_alloc (bk_new _ 39 #[.slice none 0 0, .slice none 0 0] _ rfl) _)) hw2 | have hbc := bk_below (Blk.drew (bk_alloc (bk_alloc (bk_new _ 39 #[.slice none 0 0, .slice none 0 0] _ rfl) _) _)) hw2 | have hbc := bk_below (bk_new _ 39 #[.slice none 0 0, .slice none 0 0] _ rfl) hw2 | have hbc := bk_below (bk_alloc (bk_new _ 39 #[.slice none 0 0, .slice none 0 0] _ rfl) _) hw2); (try simp only [World.size_alloc] at hbc); have e20 := hbc.cell 0; have e21 := hbc.cell 1; have f20 := hbc.frozen 0; have f21 := hbc.frozen 1; simp at e20 e21; have HBC2 := Lib.hid hbc; clear hbc); have HL2 := Lib.hid hL2; have HO2 := Lib.hid ho2; have HW2 := Lib.hid hw2; clear ho2 hw2 hL2) | fail)
            all_goals
              go_wp2_with fail
              go_meet
              refine ⟨_, .slice A1 ag cap1, .slice A2 an cap2, rfl, ?_⟩
              refine Lib.hid ?_
              refine MvI.start (S := S) (f := f) HAG.out HAN.out HB6.out HBA6.out HBB6.out ?_ ?_ ?_ HFT.out ?_ ?_
              · repeat (with_reducible first | exact Below.refl _ _ | exact HL1.out | exact HL2.out | refine Below.drew ?_ | refine bl_al ?_ _ | refine bl_st ?_ (by omega) _)
              · repeat (with_reducible first | exact HO1.out | refine own_bel ?_ HW2.out | refine World.ownsRow.alloc ?_ _ | refine own_blk ?_ HBC2.out (by decide) _ | refine own_blk ?_ (HBC2.out.set_ _ _) (by decide) _)
              · repeat (with_reducible first | exact HO2.out | refine World.ownsRow.alloc ?_ _ | refine own_blk ?_ HBC2.out (by decide) _ | refine own_blk ?_ (HBC2.out.set_ _ _) (by decide) _)
              · first | (with_reducible exact bk_new _ _ _ _ rfl) | exact (HBC2.out.set_ 0 _).set_ 1 _
              · (try simp); omega
          case rest =>
            obtain ⟨bc, v1, v2, rfl, HM⟩ := hcut
            have hsB := HLB.out trivial
            have hbg60 : bg ≤ 60 := by rw [HBG.out]; exact hsB.1
            have hbn200 : bn ≤ 200 := by rw [HBN.out]; exact hsB.2.1
            have HTL := Lib.hid hsB.2.2
            clear HBA6 HBB6 HB6 c0 c1 hz6 lz6 lz6b hsB
            have hM := HM.out
            have a0 := hM.ba.cell 0; have a1 := hM.ba.cell 1
            have lz := hM.ba.lt
            simp at a0 a1
            clear hM
            go_wp2_with fail
            clear a0 a1 lz
            go_loopg [7] bg (fun gk i wr => ∃ (k : Nat) (v1 : Value), k ≤ bg ∧ gk = bg - k ∧ i = .int .i64 k ∧ Hid (MvI w #[.slice G1 ag gc1, .slice I1 an ic1] #[.slice G2 bg gc2, .slice I2 bn ic2] (movC A B (fun _ => 0)) wr bc v1 v2 (ag + k) an))
            case atStart => exact ⟨0, v1, Nat.zero_le _, rfl, rfl, HM⟩
            case round =>
              obtain ⟨k, v1, hk, rfl, rfl, HV⟩ := hrel
              have hI := HV.out
              have b0 : wr.cell? ⟨w.heap.size + 1, 0, none⟩ = some (.slice G2 bg gc2) := (hI.bb.cell 0).trans rfl
              have b1 : wr.cell? ⟨w.heap.size + 1, 1, none⟩ = some (.slice I2 bn ic2) := (hI.bb.cell 1).trans rfl
              obtain ⟨S1, o1⟩ := hI.co.o1
              obtain ⟨A1, c1, rfl⟩ := own_slice o1
              have y0 : wr.cell? ⟨bc, 0, none⟩ = some (.slice A1 (ag + k) c1) := (hI.bc_.cell 0).trans rfl
              have y1 : wr.cell? ⟨bc, 1, none⟩ = some v2 := (hI.bc_.cell 1).trans rfl
              have fy0 := hI.bc_.frozen 0
              have lzc := hI.bc_.lt
              have lzb := hI.bb.lt
              have hlb := hI.lb
              by_cases hlt : k < bg
              · obtain ⟨g, o, rfl, hgw, hcs⟩ := HB.out.gs (by have := HBG.out; omega)
                obtain ⟨s, e0, e1, e2⟩ := hcs k (by rw [← HBG.out]; exact hlt)
                have g0 := (hI.bl.cell (p := ⟨g, o + k * 3, none⟩) hgw).trans e0
                have g1 := (hI.bl.cell (p := ⟨g, o + k * 3 + 1, none⟩) hgw).trans e1
                have g2 := (hI.bl.cell (p := ⟨g, o + k * 3 + 2, none⟩) hgw).trans e2
                have hent : 0 ≤ B.en k ∧ B.en k < (B.ni : Int) := by
                  obtain ⟨_, _, _, D, hD⟩ := okB_true.1 HOB.out
                  exact Least.ent hD k (by rw [← HBG.out]; exact hlt)
                rw [← HBN.out] at hent
                obtain ⟨hen1, hen2⟩ := hent
                obtain ⟨ar, har⟩ : ∃ a, a = B.ar k := ⟨_, rfl⟩
                obtain ⟨en, hen⟩ : ∃ a, a = B.en k := ⟨_, rfl⟩
                rw [← har] at g1; rw [← hen] at g2 hen1 hen2
                have HAR := Lib.hid har; have HEN := Lib.hid hen; have HO1 := Lib.hid o1
                have hk1 : (k : Int) < (bg : Int) := by omega
                clear hI o1 hcs e0 e1 e2 har hen
                go_wp2_with (at_builtin; refine wpList_append_lies _ rfl (.tmp 71) (.tmp 73) 36 rfl (w.heap.size + 2) 44 gi0 (.agg #[.string { data := #[] }, .int .i64 0, .int .i64 0]) 3 32 Try.underlying36 hgi hgz0 hgzs hgzb rfl (by decide) (.slice A1 (ag + k) c1) (ag + k) (rowsL (gRow (movC A B (fun _ => 0)) S1) (ag + k)) rfl ((HO1.out.alloc _).alloc _) ⟨wr.heap.size + 1, 0, none⟩ 1 1 [.string s, .int .i64 ar, .int .i64 (en + an)] rfl rfl (World.news_of_block (cs := #[.string s, .int .i64 ar, .int .i64 (en + an)]) (t := 44) (fr := (0, 0)) (blk_two _ _ _ _)) (by simp [Value.oneCell']) (by decide) (by unfold maxLen; omega) (by omega) (by simp; omega) (wr.heap.size + 1 + 1) (by simp) ?_; intro g3 cap3 w3 hown3 hgrow3 hat3 hglt3; have hb3 := ((HV.out.bc_.alloc (.cells #[.string s, .int .i64 ar, .int .i64 (en + an)] 44)).alloc (.cells #[.string s, .int .i64 ar, .int .i64 (en + an)] 44)).grown hgrow3 (fun e => own_blk_ne HO1.out HV.out.bc_ (by decide) e.symm); have z0 := hb3.cell 0; have z1 := hb3.cell 1; have f0 := hb3.frozen 0; simp at z0 z1; have HB3 := Lib.hid hb3; have HOW := Lib.hid hown3; have HGR := Lib.hid hgrow3; have HAT := Lib.hid hat3; clear hb3 hown3 hgrow3 hat3)
                go_roundg (bg - (k + 1))
                case measure => omega
                case rel =>
                  refine ⟨k + 1, .slice (some ⟨g3, 0, none⟩) (ag + k + 1) cap3, by omega, rfl, by go_num, Lib.hid ?_⟩
                  have ea : (movC A B (fun _ => 0)).ar (ag + k) = ar := by (simp [movC, HAG.out, HAR.out]; try (intro h; omega))
                  have ee : (movC A B (fun _ => 0)).en (ag + k) = en + an := by (simp [movC, HAG.out, HEN.out, HAN.out]; try (intro h; omega))
                  have hbb := bl_al (bl_al (Below.refl wr.heap.size wr) (.cells #[.string s, .int .i64 ar, .int .i64 (en + an)] 44)) (.cells #[.string s, .int .i64 ar, .int .i64 (en + an)] 44)
                  exact (HV.out.below hbb).moreG (own_bel HO1.out hbb) HGR.out (by rw [ea, ee]; exact HOW.out)
              · obtain rfl : k = bg := by omega
                have HV0 : Hid (MvI w #[.slice G1 ag gc1, .slice I1 an ic1] #[.slice G2 k gc2, .slice I2 bn ic2] (movC A B (fun _ => 0)) wr bc (.slice A1 (ag + k) c1) v2 (ag + k) an) := HV
                clear HV hI o1 y0 y1 fy0 lzc hlb hlt hk HM
                go_wp2_with fail
                refine (HCB.out.own (HLB.out trivial) _ HV0.out.bl).mono ?_
                rintro e W7 ⟨GB2, gcb2, IB2, icb2, rfl, hb7, hin⟩
                have HV7 := Lib.hid (HV0.out.below hb7)
                have hdp := hin.depths
                rw [← HBN.out, ← HBG.out] at hdp
                have HDP := Lib.hid hdp
                clear hb7 hin hdp b0 b1 lzb
                rw [← HBN.out, ← HBG.out]
                go_wp2_with fail
                refine HDP.out.mono ?_
                rintro e W8 hd
                obtain ⟨hb8, ⟨_, db, D, rfl, hdb, hrow, hleast⟩ | ⟨hno, _⟩⟩ := hd
                · rw [← HBN.out]
                  have HM8 : Hid (MvI w #[.slice G1 ag gc1, .slice I1 an ic1] #[.slice G2 k gc2, .slice I2 bn ic2] (movC A B D) W8 bc (.slice A1 (ag + k) c1) v2 (ag + k) an) := Lib.hid (by
                    have h := HV7.out.below hb8
                    have hco := h.co
                    rw [HAN.out] at hco
                    have hco2 := hco.reD (D' := D)
                    rw [← HAN.out] at hco2
                    exact ⟨h.bl, h.ba, h.bb, h.bc_, hco2, h.lb⟩)
                  have HRW := Lib.hid hrow; have HLS := Lib.hid hleast
                  have hdbl : w.heap.size + 2 ≤ db := by have := HV7.out.bc_.lt; have := HV7.out.lb; omega
                  clear hrow hleast hb8 hdb HDP HV7 HV0
                  go_wp2_with fail
                  clear HLA HLB HCA HNG HNI HLG HLI HB0
                  have hag60' := hag60
                  go_loopg [12] bn (fun gk i wr => ∃ (k2 : Nat) (v2 : Value), k2 ≤ bn ∧ gk = bn - k2 ∧ i = .int .i64 k2 ∧ Hid (MvI w #[.slice G1 ag gc1, .slice I1 an ic1] #[.slice G2 k gc2, .slice I2 bn ic2] (movC A B D) wr bc (.slice A1 (ag + k) c1) v2 (ag + k) (an + k2)) ∧ Hid (wr.rowIs db 3 bn (fun i => .int .i64 (D i))))
                  case atStart => exact ⟨0, v2, Nat.zero_le _, rfl, rfl, HM8, by rw [HBN.out]; exact HRW⟩
                  case round =>
                    obtain ⟨k2, v2, hk2, rfl, rfl, HV, HR⟩ := hrel
                    obtain ⟨wo, rfl⟩ : ∃ wo : World, wo = wr := ⟨_, rfl⟩
                    have hI := HV.out
                    have b0 : wo.cell? ⟨w.heap.size + 1, 0, none⟩ = some (.slice G2 k gc2) := (hI.bb.cell 0).trans rfl
                    have b1 : wo.cell? ⟨w.heap.size + 1, 1, none⟩ = some (.slice I2 bn ic2) := (hI.bb.cell 1).trans rfl
                    have lzb := hI.bb.lt
                    by_cases hlt : k2 < bn
                    · obtain ⟨g, o, rfl, hgw, hcs⟩ := HB.out.is (by have := HBN.out; omega)
                      obtain ⟨T, tc, e0, e1, e2, e3, ht⟩ := hcs k2 (by rw [← HBN.out]; exact hlt)
                      obtain ⟨x, hx⟩ : ∃ x, x = B.ins k2 := ⟨_, rfl⟩
                      rw [← hx] at e0 e1 e2 e3 ht
                      have HX := Lib.hid hx
                      obtain ⟨op, a, b, t⟩ := x
                      simp only at e0 e1 e2 e3 ht
                      have i0 := (hI.bl.cell (p := ⟨g, o + k2 * 4, none⟩) hgw).trans e0
                      have i1 := (hI.bl.cell (p := ⟨g, o + k2 * 4 + 1, none⟩) hgw).trans e1
                      have i2 := (hI.bl.cell (p := ⟨g, o + k2 * 4 + 2, none⟩) hgw).trans e2
                      have i3 := (hI.bl.cell (p := ⟨g, o + k2 * 4 + 3, none⟩) hgw).trans e3
                      obtain ⟨X, hX⟩ : ∃ X, X = t.length := ⟨_, rfl⟩
                      rw [← hX] at i3
                      have HLX := Lib.hid hX
                      obtain ⟨d, hd⟩ : ∃ d, d = D k2 := ⟨_, rfl⟩
                      have d0 : wo.cell? ⟨db, k2, none⟩ = some (.int .i64 d) := by rw [hd]; exact HR.out.cell hlt
                      have ldb := HR.out.lt
                      have HD := Lib.hid hd
                      have HT := Lib.hid (TabSl.below ht hI.bl)
                      have hk21 : (k2 : Int) < (bn : Int) := by omega
                      clear hI hcs e0 e1 e2 e3 ht hx hX hd
                      have h01 : 0 ≤ d ∨ d < 0 := by omega
                      go_upto_if 99 with fail
                      go_cut [100] (fun _ wc => ∃ (op1 a1 b1 : Int) (t1 : List (Int × Int)) (T1 : Option Addr) (n1 c1' : Nat), wc = wo.alloc (.cells #[.int .i64 op1, .int .i64 a1, .int .i64 b1, .slice T1 n1 c1'] 45) ∧ Hid ((⟨op1, a1, b1, t1⟩ : InsD) = (if d = 0 then ⟨15, 0, 0, []⟩ else ⟨op, a, b, t⟩) ∧ n1 = t1.length ∧ TabSl wo T1 c1' t1))
                      case first =>
                        by_cases hd0 : d = 0
                        · subst hd0
                          go_wp2_with fail
                          go_meet
                          exact ⟨15, 0, 0, [], none, 0, 0, rfl, Lib.hid ⟨by simp, rfl, ⟨Nat.le_refl _, fun h => absurd h (by simp)⟩⟩⟩
                        · have hd1 : (d == 0) = false := by simp [hd0]
                          go_wp2_with fail
                          go_meet
                          exact ⟨op, a, b, t, T, X, tc, rfl, Lib.hid ⟨by rw [if_neg hd0], HLX.out, HT.out⟩⟩
                      case rest =>
                        obtain ⟨op1, a1, bz, t1, T1, n1, c1', rfl, H1⟩ := hcut
                        have hfacts : ((op1 = 16 ∨ op1 = 1) → 0 ≤ a1 ∧ a1 ≤ 65536) ∧ (∀ q ∈ t1, 0 ≤ q.2 ∧ q.2 ≤ 65536) ∧ t1.length ≤ 400 := by
                          have h1 := H1.out.1
                          by_cases hd0 : d = 0
                          · rw [if_pos hd0] at h1
                            injection h1 with q1 q2 q3 q4
                            subst q1 q2 q3 q4
                            exact ⟨(fun h => by omega), (fun q hq => absurd hq (by simp)), (by simp)⟩
                          · rw [if_neg hd0, HX.out] at h1
                            have hr := (HLS.out.cl.nexts k2 (by rw [← HBN.out]; exact hlt) (by rw [← HD.out]; exact hd0)).1.1
                            rw [← h1] at hr
                            have hl := HTL.out k2 (by rw [← HBN.out]; exact hlt)
                            rw [← h1] at hl
                            exact ⟨fun h => right_a hr h, right_t hr, hl⟩
                        have HF := Lib.hid hfacts
                        have hn1 : n1 ≤ 400 := by rw [H1.out.2.1]; exact hfacts.2.2
                        clear i0 i1 i2 i3 d0 hfacts h01 b0 b1 lzb
                        go_upto_if 103 with fail
                        go_cut [107] (fun _ wc => ∃ a2 : Int, wc = wo.alloc (.cells #[.int .i64 op1, .int .i64 a2, .int .i64 bz, .slice T1 n1 c1'] 45) ∧ Hid (a2 = if op1 = 16 then a1 + an else a1))
                        case first =>
                          by_cases h16 : op1 = 16
                          · have hb := HF.out.1 (.inl h16)
                            obtain ⟨hb1, hb2⟩ := hb
                            subst h16
                            go_wp2_with fail
                            go_meet
                            exact ⟨a1 + an, rfl, Lib.hid (by simp)⟩
                          · have hd1 : (op1 == 16) = false := by simp [h16]
                            go_wp2_with fail
                            go_meet
                            exact ⟨a1, rfl, Lib.hid (by rw [if_neg h16])⟩
                        case rest =>
                          obtain ⟨a2, rfl, H2⟩ := hcut
                          go_upto_if 111 with fail
                          go_cut [117] (fun _ wc => ∃ a3 : Int, wc = wo.alloc (.cells #[.int .i64 op1, .int .i64 a3, .int .i64 bz, .slice T1 n1 c1'] 45) ∧ Hid (a3 = if op1 = 1 then a2 + ag else a2))
                          case first =>
                            by_cases h1 : op1 = 1
                            · have hb := HF.out.1 (.inr h1)
                              obtain ⟨hb1, hb2⟩ := hb
                              have e2 : a2 = a1 := by rw [H2.out, if_neg (by omega)]
                              have a0 := (HV.out.ba.cell 0).trans (rfl : _ = some (Value.slice G1 ag gc1))
                              have lz := HV.out.ba.lt
                              subst h1 e2
                              go_wp2_with fail
                              go_meet
                              exact ⟨a2 + ag, rfl, Lib.hid (by simp)⟩
                            · have hd1 : (op1 == 1) = false := by simp [h1]
                              go_wp2_with fail
                              go_meet
                              exact ⟨a2, rfl, Lib.hid (by rw [if_neg h1])⟩
                          case rest =>
                            obtain ⟨a3, rfl, H3⟩ := hcut
                            have HMV := Lib.hid (movI_of (ag := ag) (an := an) H1.out.1 H2.out H3.out)
                            have hl1 : ((flat t1).map (Value.int .i64)).length = n1 * 2 := by rw [List.length_map, flat_length, H1.out.2.1]
                            have hN1 := fun (h : 0 < n1) => (H1.out.2.2.below (below2 (.cells #[.int .i64 op1, .int .i64 a3, .int .i64 bz, .slice T1 n1 c1'] 45) (.cells #[] 46))).news2 (by rw [← H1.out.2.1]; exact h)
                            have hXB := (Blk.new wo 45 #[.int .i64 op1, .int .i64 a3, .int .i64 bz, .slice T1 n1 c1']).alloc (.cells #[] 46)
                            have HL1 := Lib.hid hl1; have HN1 := Lib.hid hN1; have HXB := Lib.hid hXB
                            have HLN := Lib.hid H1.out.2.1; have HTB := Lib.hid HF.out.2.1
                            have x3 : (wo.alloc (.cells #[.int .i64 op1, .int .i64 a3, .int .i64 bz, .slice T1 n1 c1'] 45)).cell? ⟨wo.heap.size, 3, none⟩ = some (.slice T1 n1 c1') := ((Blk.new wo 45 #[.int .i64 op1, .int .i64 a3, .int .i64 bz, .slice T1 n1 c1']).cell 3).trans rfl
                            clear hl1 hN1 hXB H1 H2 H3 HF
                            go_wp2_with (at_builtin; refine wpList_append_copy rfl (.tmp 119) (.tmp 121) 30 rfl (wo.heap.size + 1) 46 ti0 (.agg #[.int .i64 0, .int .i64 0]) 2 16 Try.underlying30 hti htz0 htzs htzb rfl (by decide) ⟨wo.heap.size + 1, rfl, blk_two _ _ _ _, Nat.le_refl _⟩ T1 n1 c1' ((flat t1).map (Value.int .i64)) rfl HL1.out HN1.out (flat_one t1) (by unfold maxLen; omega) (by omega) (by simp) ?_; intro A6 cap6 w6 ho6 hb6; have HO6 := Lib.hid ho6; have HB6' := Lib.hid hb6; clear ho6 hb6)
                            have hbl := bl_tr (bl_al (bl_al (Below.refl wo.heap.size wo) (.cells #[.int .i64 op1, .int .i64 a3, .int .i64 bz, .slice T1 n1 c1'] 45)) (.cells #[] 46)) HB6'.out
                            have hcp : n1 ≤ cap6 := own_cap HO6.out
                            have HBL := Lib.hid hbl
                            have HX6 := Lib.hid (bk_below HXB.out HB6'.out)
                            have HT6 := Lib.hid (TabI.start (an := an) HLN.out HO6.out)
                            clear hbl HXB HN1 HL1 HB6' HO6 x3
                            go_loopg [15] n1 (fun gk i wr => ∃ (k3 : Nat), k3 ≤ n1 ∧ gk = n1 - k3 ∧ i = .int .i64 k3 ∧ Hid (Below wo.heap.size wo wr) ∧ Hid (Blk wr wo.heap.size 45 #[.int .i64 op1, .int .i64 a3, .int .i64 bz, .slice T1 n1 c1']) ∧ Hid (TabI wr (wo.heap.size + 1) A6 t1 an k3))
                            case atStart => exact ⟨0, Nat.zero_le _, rfl, rfl, HBL, HX6, HT6⟩
                            case round =>
                              obtain ⟨k3, hk3, rfl, rfl, HBk, HXk, HTk⟩ := hrel
                              clear HBL HX6 HT6
                              by_cases hl3 : k3 < n1
                              · have hkt : k3 < t1.length := by rw [← HLN.out]; exact hl3
                                obtain ⟨g6, cur, rfl, hlo, hbk, hcur⟩ := HTk.out (by omega)
                                obtain ⟨z, hz⟩ : ∃ z, z = t1[k3].2 := ⟨_, rfl⟩
                                have y1 : wr.cell? ⟨g6, k3 * 2 + 1, none⟩ = some (.int .i64 z) := by
                                  rw [hbk.cell, (hcur k3 hkt).2, hz]; simp
                                have fy := hbk.frozen (k3 * 2 + 1)
                                have hzb : 0 ≤ z ∧ z ≤ 65536 := by rw [hz]; exact HTB.out _ (List.getElem_mem hkt)
                                obtain ⟨hz1, hz2⟩ := hzb
                                have HZ := Lib.hid hz
                                have hk31 : (k3 : Int) < (n1 : Int) := by omega
                                have hk30 : (0 : Int) ≤ (k3 : Int) := by omega
                                clear hz hcur hbk
                                go_wp2_with fail
                                go_region
                                go_wp2_with fail
                                go_roundg (n1 - (k3 + 1))
                                case measure => omega
                                case rel =>
                                  refine ⟨k3 + 1, by omega, rfl, by go_num, Lib.hid ?_, Lib.hid ?_, Lib.hid ?_⟩
                                  · exact below_set HBk.out.drew (by omega) _
                                  · exact HXk.out.drew.far (by omega) _
                                  · have := HTk.out.drew.step hkt
                                    rw [← HZ.out] at this
                                    exact this
                              · obtain rfl : k3 = n1 := by omega
                                obtain ⟨f2, o2, ht2⟩ := HV.out.co.o2
                                obtain ⟨A2, c2, rfl⟩ := own_slice o2
                                have hB9 : Below wo.heap.size wo (wr.setCell ⟨wo.heap.size, 3, none⟩ (.slice A6 k3 cap6)) := bl_st HBk.out (Nat.le_refl _) _
                                have hbc := bk_below HV.out.bc_ HBk.out
                                have q1 : wr.cell? ⟨bc, 1, none⟩ = some (.slice A2 (an + k2) c2) := (hbc.cell 1).trans rfl
                                have fq1 := hbc.frozen 1
                                have p0 : wr.cell? ⟨wo.heap.size, 0, none⟩ = some (.int .i64 op1) := (HXk.out.cell 0).trans rfl
                                have p1 : wr.cell? ⟨wo.heap.size, 1, none⟩ = some (.int .i64 a3) := (HXk.out.cell 1).trans rfl
                                have p2 : wr.cell? ⟨wo.heap.size, 2, none⟩ = some (.int .i64 bz) := (HXk.out.cell 2).trans rfl
                                have p3 : wr.cell? ⟨wo.heap.size, 3, none⟩ = some (.slice T1 k3 c1') := (HXk.out.cell 3).trans rfl
                                have fp3 := HXk.out.frozen 3
                                have lx := HXk.out.lt
                                have lbo : bc < wo.heap.size := HV.out.bc_.lt
                                have lbr : bc < wr.heap.size := hbc.lt
                                have nbx : bc ≠ wo.heap.size := by omega
                                have hlb := HV.out.lb
                                have hO9 := own_bel o2 hB9
                                have HO2 := Lib.hid o2; have HT2 := Lib.hid ht2; have HB9 := Lib.hid hB9; have HO9 := Lib.hid hO9
                                clear o2 ht2 hB9 hbc hO9
                                go_wp2_with (at_builtin; refine wpList_append_lies _ rfl (.tmp 143) (.tmp 145) 37 rfl (w.heap.size + 2) 45 ii0 (.agg #[.int .i64 0, .int .i64 0, .int .i64 0, .slice none 0 0]) 4 48 Try.underlying37 hii hiz0 hizs hizb rfl (by decide) (.slice A2 (an + k2) c2) (an + k2) (rowsL (iRow (movC A B D) f2) (an + k2)) rfl (HO9.out.alloc _) ⟨wr.heap.size, 0, none⟩ 1 1 [.int .i64 op1, .int .i64 a3, .int .i64 bz, .slice A6 k3 cap6] rfl rfl (World.news_of_block (cs := #[.int .i64 op1, .int .i64 a3, .int .i64 bz, .slice A6 k3 cap6]) (t := 45) (fr := (0, 0)) (bk_new _ _ _ _ (size_set _ _ _))) (by simp [Value.oneCell']) (by decide) (by unfold maxLen; omega) (by omega) (by simp; omega) (wr.heap.size + 1) (by simp) ?_; intro g3 cap3 w3 hown3 hgrow3 hat3 hglt3; have hb3 := ((bk_below HV.out.bc_ HB9.out).alloc (.cells #[.int .i64 op1, .int .i64 a3, .int .i64 bz, .slice A6 k3 cap6] 45)).grown hgrow3 (fun e => own_blk_ne HO2.out HV.out.bc_ (by decide) e.symm); have z0 := hb3.cell 0; have z1 := hb3.cell 1; have f1 := hb3.frozen 1; simp at z0 z1; have HB3 := Lib.hid hb3; have HOW := Lib.hid hown3; have HGR := Lib.hid hgrow3; clear hb3 hown3 hgrow3 hat3)
                                go_roundg (bn - (k2 + 1))
                                case measure => omega
                                case rel =>
                                  have hB10 := bl_al HB9.out (.cells #[.int .i64 op1, .int .i64 a3, .int .i64 bz, .slice A6 k3 cap6] 45)
                                  have eI : (movC A B D).ins (an + k2) = ⟨op1, a3, bz, t1.map fun q => (q.1, q.2 + (an : Int))⟩ := by
                                    have e1 : (movC A B D).ins (an + k2) = movI A.gl A.ni (D k2) (B.ins k2) := by
                                      have h1 : ¬ an + k2 < A.ni := by rw [HAN.out]; omega
                                      have h2 : an + k2 - A.ni = k2 := by rw [HAN.out]; omega
                                      show (if an + k2 < A.ni then _ else _) = _
                                      rw [if_neg h1, h2]
                                    rw [e1, ← HX.out, ← HD.out, ← HAG.out, ← HAN.out]
                                    exact HMV.out
                                  refine ⟨k2 + 1, .slice (some ⟨g3, 0, none⟩) (an + k2 + 1) cap3, by omega, rfl, by go_num, Lib.hid ?_, Lib.hid ?_⟩
                                  · refine MvI.moreI (k2 := an + k2) (T := A6) (c := cap6) (HV.out.below hB10) (own_bel HO2.out hB10) (fun i hi => (HT2.out i hi).below hB10) ?_ HGR.out ?_
                                    · rw [eI]
                                      refine TabI.tab (lo := wo.heap.size + 1) ?_ (by rw [← HLN.out]; exact hcp)
                                      rw [← HLN.out]
                                      exact (HTk.out.far (Nat.lt_succ_self _) _).alloc _
                                    · rw [eI]
                                      simp only [List.length_map]
                                      rw [← HLN.out]
                                      exact HOW.out
                                  · have hr1 := row_of_block HR.out (hB10.block db HR.out.lt)
                                    have hr2 := row_of_block hr1 (HGR.out.block db hr1.lt (row_ne_own (own_bel HO2.out hB10) hr1 (by decide)))
                                    exact row_of_block hr2 (Below.heap_setCell _ _ _ _ (fun e => Blk.row_ne HB3.out hr2 (by decide) e.symm))
                    · obtain rfl : k2 = bn := by omega
                      obtain ⟨f2, o2, _⟩ := hI.co.o2
                      obtain ⟨A2, c2, rfl⟩ := own_slice o2
                      have q0 : wo.cell? ⟨bc, 0, none⟩ = some (.slice A1 (ag + k) c1) := (hI.bc_.cell 0).trans rfl
                      have q1 : wo.cell? ⟨bc, 1, none⟩ = some (.slice A2 (an + k2) c2) := (hI.bc_.cell 1).trans rfl
                      have hgl : (movC A B D).gl = ag + k := by rw [HAG.out, HBG.out]; rfl
                      have hni : (movC A B D).ni = an + k2 := by rw [HAN.out, HBN.out]; rfl
                      have hat : CodeAt wo (movC A B D) A1 c1 A2 c2 := by
                        have hco := hI.co
                        rw [← hgl, ← hni] at hco
                        exact hco.at
                      have hts : ∀ i, i < (movC A B D).ni → ((movC A B D).ins i).t.length ≤ 1000000 := fun i hi => by
                        show (if i < A.ni then A.ins i else movI A.gl A.ni (D (i - A.ni)) (B.ins (i - A.ni))).t.length ≤ 1000000
                        split
                        · rename_i h; have := HTA.out i h; omega
                        · rename_i h
                          have h2 : i - A.ni < B.ni := by have h3 : i < A.ni + B.ni := hi; omega
                          have := HTL.out _ h2
                          unfold movI
                          split
                          · simp
                          · simp only [List.length_map]; omega
                      have hown := ownC_any (movC A B D) A1 A2 c1 c2 wo hat hts (by omega) (by omega)
                      rw [hgl, hni] at hown
                      have HOWN := Lib.hid hown; have HGL := Lib.hid hgl; have HNI2 := Lib.hid hni; have HTS := Lib.hid hts
                      clear hI o2 hat hts hown hgl hni hk2 hlt
                      go_wp2_with fail
                      refine HOWN.out.mono ?_
                      rintro e W11 ⟨G', gc', I', ic', rfl, hb11, hat11⟩
                      have hdp := (CodeIn.mk hat11 (fun i hi => by have := HTS.out i hi; omega) (by have := HNI2.out; omega) (by have := HGL.out; omega)).depths
                      rw [HGL.out, HNI2.out] at hdp
                      have HDP2 := Lib.hid hdp; have HB11 := Lib.hid hb11
                      clear hdp hb11 hat11 q0 q1 b0 b1 lzb
                      go_wp2_with fail
                      refine HDP2.out.mono ?_
                      rintro e W12 ⟨hb12, hd⟩
                      obtain ⟨_, _, haA, DA, hDA⟩ := okB_true.1 HOA.out
                      obtain ⟨_, _, haB, _⟩ := okB_true.1 HOB.out
                      have hsum : A.ni + B.ni ≤ 65536 ∧ A.gl + B.gl ≤ 65536 := by rw [← HAN.out, ← HBN.out, ← HAG.out, ← HBG.out]; omega
                      rcases hd with ⟨_, eb, E, rfl, heb, hrowE, hleE⟩ | ⟨hno, _⟩
                      · have heq : ∀ i, i < k2 → E (an + i) = D i := fun i hi => by
                          rw [HAN.out]
                          exact moved_depths hDA haA HLS.out haB hsum.1 hsum.2 hleE i (by rw [← HBN.out]; exact hi)
                        have HB12 := Lib.hid (HV.out.bl.trans ((HB11.out.mono HV.out.bl.size).trans (hb12.mono (Nat.le_trans HV.out.bl.size HB11.out.size))))
                        have HRD := Lib.hid (row_of_block (row_of_block HR.out (HB11.out.block db HR.out.lt)) (hb12.block db (Nat.lt_of_lt_of_le HR.out.lt HB11.out.size)))
                        rw [HNI2.out] at hrowE
                        have HRE := Lib.hid hrowE; have HEQ := Lib.hid heq
                        clear hb12 haA haB hDA hsum heb hrowE hleE heq
                        rw [HNI2.out]
                        go_wp2_with fail
                        refine (num22_any _ _).mono ?_
                        rintro e W13 ⟨rfl, rfl⟩
                        go_wp2_with fail
                        obtain ⟨Wl, hWl⟩ : ∃ Wl : World, Wl = W13 := ⟨_, rfl⟩
                        rw [← hWl] at HB12 HRD HRE ⊢
                        clear hWl
                        go_loopg [19] k2 (fun gk i wr => ∃ (k4 : Nat), k4 ≤ k2 ∧ gk = k2 - k4 ∧ i = .int .i64 k4 ∧ Hid (Below Wl.heap.size Wl wr))
                        case atStart => exact ⟨0, Nat.zero_le _, rfl, rfl, Lib.hid (Below.refl _ _)⟩
                        case round =>
                          obtain ⟨k4, hk4, rfl, rfl, HB4⟩ := hrel
                          by_cases hl4 : k4 < k2
                          · obtain ⟨z, hz⟩ : ∃ z, z = D k4 := ⟨_, rfl⟩
                            have y1 : wr.cell? ⟨db, k4, none⟩ = some (.int .i64 z) := by
                              rw [HB4.out.cell (p := ⟨db, k4, none⟩) HRD.out.lt, hz]; exact HRD.out.cell hl4
                            have y2 : wr.cell? ⟨eb, an + k4, none⟩ = some (.int .i64 z) := by
                              rw [HB4.out.cell (p := ⟨eb, an + k4, none⟩) HRE.out.lt, hz, ← HEQ.out k4 hl4]; exact HRE.out.cell (by omega)
                            have hk40 : (0 : Int) ≤ (k4 : Int) := by omega
                            have hk41 : (k4 : Int) < (k2 : Int) := by omega
                            have hs1 : ((an : Int) + (k4 : Int)) < (an : Int) + (k2 : Int) := by omega
                            have hs0 : (0 : Int) ≤ (an : Int) + (k4 : Int) := by omega
                            clear hz
                            go_wp2_with fail
                            go_region
                            all_goals
                              go_wp2_with fail
                              go_roundg (k2 - (k4 + 1))
                              case measure => omega
                              case rel => exact ⟨k4 + 1, by omega, rfl, by go_num, Lib.hid HB4.out.drew⟩
                          · obtain rfl : k4 = k2 := by omega
                            go_wp2_with fail
                            refine (knows22_any _).mono ?_
                            rintro e W15 ⟨rfl, hb15⟩
                            have HB15 := Lib.hid (HB12.out.trans ((HB4.out.mono HB12.out.size).trans (hb15.mono (Nat.le_trans HB12.out.size HB4.out.size))))
                            clear hb15
                            go_wp2_with fail
                            go_ret
                            exact ⟨rfl, HB15.out⟩
                      · have : okB (movC A B D) = true := okB_true.2 ⟨hsum.1, hsum.2, fun g hg => by
                          show 0 ≤ (if g < A.gl then A.ar g else B.ar (g - A.gl)) ∧ (if g < A.gl then A.ar g else B.ar (g - A.gl)) ≤ 255
                          have hg2 : g < A.gl + B.gl := hg
                          split
                          · exact haA g ‹_›
                          · exact haB _ (by omega), _, moved_closed hDA HLS.out hsum.1 hsum.2⟩
                        rw [this] at hno; cases hno
                · rw [HOB.out] at hno; cases hno
end Go.Proofs.Ytfeghobfkgimfaa
