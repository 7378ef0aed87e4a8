/- pairs: may a table be? Printed by genPairs.py. -/
import Derived.Test.YtfeghobfkgimfaaInstrA
import Derived.IntWalk
namespace Go.Proofs.Ytfeghobfkgimfaa
open Go.RowKit

/-- A slice of pairs as its cells. -/
def TabSl (w : World) (A : Option Addr) (cap : Nat) (t : List (Int × Int)) : Prop :=
  t.length ≤ cap ∧ (0 < t.length → ∃ g o, A = some ⟨g, o, none⟩ ∧ g < w.heap.size ∧ ∀ i (h : i < t.length), w.cell? ⟨g, o + i * 2, none⟩ = some (.int .i64 t[i].1) ∧ w.cell? ⟨g, o + i * 2 + 1, none⟩ = some (.int .i64 t[i].2))

open Classical in
noncomputable def pairsB (op : Int) (t : List (Int × Int)) : Bool := decide (pairsOk op t)
theorem pairsB_true {op : Int} {t : List (Int × Int)} (h : pairsOk op t) : pairsB op t = true := by simp [pairsB, h]
theorem pairsB_false {op : Int} {t : List (Int × Int)} (h : ¬ pairsOk op t) : pairsB op t = false := by simp [pairsB, h]
theorem within_q (lo n hi : Int) (w : World) : Calls Try.prog 111 #[.int .i64 lo, .int .i64 n, .int .i64 hi] w fun e w' => e = .returned (.bool (wthB lo n hi)) ∧ w' = w := (within_any lo n hi w).mono fun _ _ ⟨h1, h2⟩ => ⟨h1, h2.symm⟩
theorem ret_bool {a b : Bool} (h : b = a) : Ending.returned (.bool a) = .returned (.bool b) := by rw [h]
theorem all_succ {P : Nat → Prop} {j : Nat} (h : ∀ k, k < j → P k) (hj : P j) : ∀ k, k < j + 1 → P k := fun k hk => by
  by_cases e : k = j
  · rw [e]; exact hj
  · exact h k (by omega)
theorem cell_lt_ {w : World} {g o : Nat} {v : Value} (h : w.cell? ⟨g, o, none⟩ = some v) : g < w.heap.size := World.block_lt_of_cell? w ⟨g, o, none⟩ h
theorem below1' {w : World} (o : Obj) : Below w.heap.size w (w.alloc o) := (Below.refl _ _).alloc (Nat.le_refl _) _

set_option maxRecDepth 100000 in
set_option maxHeartbeats 4000000 in
theorem pairs_case (op a b : Int) (A : Option Addr) (cap : Nat) (t : List (Int × Int)) (w : World) (h11 : op = 11) (h : TabSl w A cap t) (hlen : t.length ≤ 1000000000) :
    Calls Try.prog 110 #[.agg #[.int .i64 op, .int .i64 a, .int .i64 b, .slice A t.length cap]] w fun e w' => e = .returned (.bool (pairsB op t)) ∧ Below w.heap.size w w' := by
  have hb11 : (op == 11) = true := by simp [h11]
  have HOP := Lib.hid h11
  have HT := Lib.hid h
  obtain ⟨X, hX⟩ : ∃ X, X = t.length := ⟨_, rfl⟩
  rw [← hX] at hlen ⊢
  have HX := Lib.hid hX
  clear h h11 hX
  obtain ⟨RES, hRES⟩ : ∃ R, R = pairsB op t := ⟨_, rfl⟩
  rw [← hRES]
  have HRES := Lib.hid hRES; clear hRES
  by_cases hw1 : 1 ≤ X ∧ X ≤ 257
  · have hwb : wthB 1 (X : Int) 257 = true := by unfold wthB; simp; omega
    have hc0 : ∃ g o z, A = some ⟨g, o, none⟩ ∧ w.cell? ⟨g, o, none⟩ = some (.int .i64 z) ∧ z = (t.getD 0 (0, 0)).1 := by
      have h0 := HX.out
      obtain ⟨g, o, hA, _, hc⟩ := HT.out.2 (by omega)
      refine ⟨g, o, _, hA, (hc 0 (by omega)).1, ?_⟩
      simp [List.getD_eq_getElem?_getD, List.getElem?_eq_getElem (show 0 < t.length by omega)]
    obtain ⟨g, o, z0, rfl, c0, hz0⟩ := hc0
    have HZ0 := Lib.hid hz0; clear hz0
    have hgl : g < w.heap.size := (cell_lt_ c0)
    have hX0 : (0 : Int) < (X : Int) := by omega
    by_cases h13 : op = 13 ∧ z0 ≠ -1
    · skip
      exact absurd h13.1 (by have := HOP.out; omega)
    · have h13c : (op ≠ 13) ∨ (op = 13 ∧ z0 = -1) := by omega
      have H13 : Hid (op = 13 → (t.getD 0 (0, 0)).1 = -1) := Lib.hid (fun e => by rw [← HZ0.out]; omega)
      have HW1 := Lib.hid hw1
      clear h13
      have hb1 : Below w.heap.size w (w.alloc (.cells #[.int .i64 op, .int .i64 a, .int .i64 b, .slice (some ⟨g, o, none⟩) X cap] 32)) := below1' _
      obtain ⟨W1, hW1⟩ : ∃ W1, W1 = w.alloc (.cells #[.int .i64 op, .int .i64 a, .int .i64 b, .slice (some ⟨g, o, none⟩) X cap] 32) := ⟨_, rfl⟩
      have hbox : Blk W1 w.heap.size 32 #[.int .i64 op, .int .i64 a, .int .i64 b, .slice (some ⟨g, o, none⟩) X cap] := by rw [hW1]; exact Blk.new _ _ _
      rw [← hW1] at hb1
      have HW := Lib.hid hW1; have HB1 := Lib.hid hb1; have HBOX := Lib.hid hbox
      have hz1 := hb1.size
      have hzz : w.heap.size < W1.heap.size := hbox.lt
      clear hW1 hb1 hbox
      have e13 : (op == 13) = false := by have := HOP.out; simp [this]
      clear h13c
      all_goals
        go_enter Try.func110, Try.ntmps110
        go_wp2_with (go_at_call 111; refine (within_any _ _ _ _).mono ?_; rintro e w1 ⟨rfl, rfl⟩)
        rw [← HW.out]
        go_loopg [31] X (fun gk i wr => ∃ j : Nat, j ≤ X ∧ gk = X - j ∧ i = .int .i64 j ∧ Hid (∀ k, k < j → pairOk op t k) ∧ Below W1.heap.size W1 wr)
        case atStart => exact ⟨0, Nat.zero_le _, rfl, rfl, Lib.hid (fun k hk => absurd hk (by omega)), Below.refl _ _⟩
        case round =>
          obtain ⟨j, hj, rfl, rfl, HALL, hbr⟩ := hrel
          have HBR := Lib.hid hbr
          have hzr := hbr.size
          clear hbr
          by_cases hlt : j < X
          · have helt : ∃ z1 z2, W1.cell? ⟨g, o + j * 2, none⟩ = some (.int .i64 z1) ∧ W1.cell? ⟨g, o + j * 2 + 1, none⟩ = some (.int .i64 z2) ∧ t.getD j (0, 0) = (z1, z2) := by
              have h0 := HX.out
              obtain ⟨g', o', hA, hg', hc⟩ := HT.out.2 (by omega)
              injection hA with hA; injection hA with e1 e2; subst e1 e2
              have := hc j (by omega)
              exact ⟨_, _, (HB1.out.cell (p := ⟨g, o + j * 2, none⟩) hg').trans this.1, (HB1.out.cell (p := ⟨g, o + j * 2 + 1, none⟩) hg').trans this.2, by simp [List.getD_eq_getElem?_getD, List.getElem?_eq_getElem (show j < t.length by omega)]⟩
            obtain ⟨z1, z2, d1', d2', hzt⟩ := helt
            have hgW : g < W1.heap.size := Nat.lt_of_lt_of_le hgl hz1
            have d1 := (HBR.out.cell (p := ⟨g, o + j * 2, none⟩) hgW).trans d1'
            have d2 := (HBR.out.cell (p := ⟨g, o + j * 2 + 1, none⟩) hgW).trans d2'
            have hbx := HBOX.out.below HBR.out HBOX.out.lt
            have x0 : wr.cell? ⟨w.heap.size, 0, none⟩ = some (.int .i64 op) := (hbx.cell 0).trans rfl
            have hgr : g < wr.heap.size := Nat.lt_of_lt_of_le hgW hzr
            have hwr : w.heap.size < wr.heap.size := Nat.lt_of_lt_of_le hzz hzr
            have HZT := Lib.hid hzt
            have HJ : Hid (j < X) := Lib.hid hlt
            have HBE : Hid (Below w.heap.size w (wr.alloc (.cells #[.int .i64 z1, .int .i64 z2] 46))) := Lib.hid ((HB1.out.trans (HBR.out.mono hz1)).alloc (by omega) _)
            have HBN : Hid (Below W1.heap.size W1 (wr.alloc (.cells #[.int .i64 z1, .int .i64 z2] 46))) := Lib.hid (HBR.out.alloc hzr _)
            have hi1 : (j : Int) < (X : Int) := by omega
            have hj0 : (0 : Int) ≤ (j : Int) := Int.natCast_nonneg _
            clear hzt d1' d2' hbx
            by_cases hw2 : 0 ≤ z2 ∧ z2 ≤ 65536
            · have hw2b : wthB 0 z2 65536 = true := by unfold wthB; simp; omega
              by_cases hd : z1 = -1
              · have hdb : (z1 == -1) = true := by simp [hd]
                by_cases hj1 : 0 < j
                · have HBAD : Hid (RES = false) := Lib.hid (by
                    rw [HRES.out]; refine pairsB_false (fun hp => ?_)
                    have := (hp.2.2.2 j (by have := HX.out; omega)).2
                    rw [HZT.out] at this
                    simp [hd] at this; omega)
                  have hj1' : (0 : Int) < (j : Int) := by omega
                  clear hd hw2 HZT
                  go_wp2_with (go_at_call 111; refine (within_any _ _ _ _).mono ?_; rintro e w1 ⟨rfl, rfl⟩)
                  go_ret
                  exact ⟨ret_bool (by rw [HBAD.out]), HBE.out⟩
                · have HOK : Hid (pairOk op t j) := Lib.hid (by unfold pairOk; rw [HZT.out]; exact ⟨hw2, by simp [hd]; omega⟩)
                  have hj1' : ¬ (0 : Int) < (j : Int) := by omega
                  clear hd hw2 HZT
                  go_wp2_with (go_at_call 111; refine (within_any _ _ _ _).mono ?_; rintro e w1 ⟨rfl, rfl⟩)
                  go_roundg (X - (j + 1))
                  case measure => omega
                  case rel => exact ⟨j + 1, by omega, rfl, by go_num, Lib.hid (all_succ HALL.out HOK.out), HBN.out⟩
              · have hdb : (z1 == -1) = false := by simp [hd]
                have y1 : (wr.alloc (.cells #[.int .i64 z1, .int .i64 z2] 46)).cell? ⟨wr.heap.size, 0, none⟩ = some (.int .i64 z1) := (Blk.new _ _ _).cell 0
                have y2 : (wr.alloc (.cells #[.int .i64 z1, .int .i64 z2] 46)).cell? ⟨w.heap.size, 0, none⟩ = some (.int .i64 op) := (cell_old1 hwr).trans x0
                by_cases hz : 0 ≤ z1 ∧ z1 ≤ 255
                · have hzw : wthB 0 z1 255 = true := by unfold wthB; simp; omega
                  by_cases hj1 : 0 < j
                  · have hj1' : (0 : Int) < (j : Int) := by omega
                    have hprev : ∃ pv, (wr.alloc (.cells #[.int .i64 z1, .int .i64 z2] 46)).cell? ⟨g, o + (j - 1) * 2, none⟩ = some (.int .i64 pv) ∧ (t.getD (j - 1) (0, 0)).1 = pv := by
                      have h0 := HX.out
                      obtain ⟨g', o', hA, hg', hc⟩ := HT.out.2 (by omega)
                      injection hA with hA; injection hA with e1 e2; subst e1 e2
                      have := hc (j - 1) (by omega)
                      refine ⟨_, (cell_old1 hgr).trans ((HBR.out.cell (p := ⟨g, o + (j - 1) * 2, none⟩) hgW).trans ((HB1.out.cell (p := ⟨g, o + (j - 1) * 2, none⟩) hg').trans this.1)), ?_⟩
                      simp [List.getD_eq_getElem?_getD, List.getElem?_eq_getElem (show j - 1 < t.length by omega)]
                    obtain ⟨pv, y3, hpv⟩ := hprev
                    have HPV := Lib.hid hpv; clear hpv
                    obtain ⟨i1, hi1e⟩ : ∃ i1 : Nat, i1 = j - 1 := ⟨_, rfl⟩
                    rw [← hi1e] at y3 HPV
                    have hsub : IntKind.i64.wrap ((j : Int) - 1) = (i1 : Int) := by rw [IntWalk.i64_in _ (by omega)]; omega
                    have hi1a : (0 : Int) ≤ (i1 : Int) := Int.natCast_nonneg _
                    have hi1b : (i1 : Int) < (X : Int) := by omega
                    have HI1 := Lib.hid hi1e; clear hi1e
                    have HSUB := Lib.hid hsub; clear hsub
                    by_cases hp1 : pv = -1
                    · have hpb : (pv != -1) = false := by simp [hp1]
                      have HP1 : Hid (pv = -1) := Lib.hid hp1
                      clear hp1
                      have HOK : Hid (pairOk op t j) := Lib.hid (by unfold pairOk; rw [HZT.out]; exact ⟨hw2, by rw [if_neg hd]; exact ⟨fun _ => hz, fun _ h => absurd (by rw [← HI1.out, HPV.out]; exact HP1.out) h⟩⟩)
                      clear hd hw2 HZT
                      have hsub := HSUB.out
                      go_upto_region 15 with (go_at_call 111; refine (within_any _ _ _ _).mono ?_; rintro e w1 ⟨rfl, rfl⟩)
                      go_quiet ((go_at_call 111; exact Calls.quiet_of_same (within_q _ _ _ _)))
                      go_wp2_with fail
                      go_roundg (X - (j + 1))
                      case measure => omega
                      case rel => exact ⟨j + 1, by omega, rfl, by go_num, Lib.hid (all_succ HALL.out HOK.out), below_drewN HBN.out _⟩
                    · have hpb : (pv != -1) = true := by simp [hp1]
                      by_cases hge : z1 ≤ pv
                      · have hgd : decide (z1 ≤ pv) = true := by simpa using hge
                        have HBAD : Hid (RES = false) := Lib.hid (by
                          rw [HRES.out]; refine pairsB_false (fun hp => ?_)
                          have hq := (hp.2.2.2 j (by have := HX.out; omega)).2
                          rw [HZT.out, if_neg hd] at hq
                          have hq2 := hq.2 hj1 (by rw [← HI1.out, HPV.out]; exact hp1)
                          rw [← HI1.out, HPV.out] at hq2
                          have hq3 : pv < z1 := hq2
                          omega)
                        clear hd hw2 HZT
                        have hsub := HSUB.out
                        go_upto_region 15 with (go_at_call 111; refine (within_any _ _ _ _).mono ?_; rintro e w1 ⟨rfl, rfl⟩)
                        go_quiet ((go_at_call 111; exact Calls.quiet_of_same (within_q _ _ _ _)))
                        go_wp2_with fail
                        go_ret
                        exact ⟨ret_bool (by rw [HBAD.out]), below_drewN HBE.out _⟩
                      · have hgd : decide (z1 ≤ pv) = false := by simpa using hge
                        have HGE : Hid (pv < z1) := Lib.hid (by omega)
                        have HOK : Hid (pairOk op t j) := Lib.hid (by unfold pairOk; rw [HZT.out]; exact ⟨hw2, by rw [if_neg hd]; exact ⟨fun _ => hz, fun _ _ => by rw [← HI1.out, HPV.out]; exact HGE.out⟩⟩)
                        clear hd hw2 HZT
                        have hsub := HSUB.out
                        go_upto_region 15 with (go_at_call 111; refine (within_any _ _ _ _).mono ?_; rintro e w1 ⟨rfl, rfl⟩)
                        go_quiet ((go_at_call 111; exact Calls.quiet_of_same (within_q _ _ _ _)))
                        go_wp2_with fail
                        go_roundg (X - (j + 1))
                        case measure => omega
                        case rel => exact ⟨j + 1, by omega, rfl, by go_num, Lib.hid (all_succ HALL.out HOK.out), below_drewN HBN.out _⟩
                  · have hj1' : ¬ (0 : Int) < (j : Int) := by omega
                    have hj1d : decide ((0 : Int) < (j : Int)) = false := by simpa using hj1'
                    have HOK : Hid (pairOk op t j) := Lib.hid (by unfold pairOk; rw [HZT.out]; exact ⟨hw2, by rw [if_neg hd]; exact ⟨fun _ => hz, fun h => absurd h hj1⟩⟩)
                    clear hd hw2 HZT
                    go_upto_region 15 with (go_at_call 111; refine (within_any _ _ _ _).mono ?_; rintro e w1 ⟨rfl, rfl⟩)
                    go_quiet ((go_at_call 111; exact Calls.quiet_of_same (within_q _ _ _ _)))
                    go_wp2_with fail
                    go_roundg (X - (j + 1))
                    case measure => omega
                    case rel => exact ⟨j + 1, by omega, rfl, by go_num, Lib.hid (all_succ HALL.out HOK.out), below_drewN HBN.out _⟩
                · have hzw : wthB 0 z1 255 = false := by unfold wthB; simp; omega
                  have HBAD : Hid (RES = false) := Lib.hid (by
                    rw [HRES.out]; refine pairsB_false (fun hp => ?_)
                    have hq := (hp.2.2.2 j (by have := HX.out; omega)).2
                    rw [HZT.out, if_neg hd] at hq
                    exact hz (hq.1 HOP.out))
                  clear hd hw2 HZT
                  go_upto_region 15 with (go_at_call 111; refine (within_any _ _ _ _).mono ?_; rintro e w1 ⟨rfl, rfl⟩)
                  go_quiet ((go_at_call 111; exact Calls.quiet_of_same (within_q _ _ _ _)))
                  go_wp2_with fail
                  go_ret
                  exact ⟨ret_bool (by rw [HBAD.out]), below_drewN HBE.out _⟩
            · have hw2b : wthB 0 z2 65536 = false := by unfold wthB; simp; omega
              have HBAD : Hid (RES = false) := Lib.hid (by
                rw [HRES.out]; refine pairsB_false (fun hp => ?_)
                have := (hp.2.2.2 j (by have := HX.out; omega)).1
                rw [HZT.out] at this
                exact hw2 this)
              clear hw2 HZT
              go_wp2_with (go_at_call 111; refine (within_any _ _ _ _).mono ?_; rintro e w1 ⟨rfl, rfl⟩)
              go_ret
              exact ⟨ret_bool (by rw [HBAD.out]), HBE.out⟩
          · have HGOOD : Hid (RES = true) := Lib.hid (by
              rw [HRES.out]
              have h0 := HX.out
              exact pairsB_true ⟨by have := HW1.out; omega, by unfold mostPairs; rw [if_pos HOP.out]; have := HW1.out; omega, H13.out, fun i hi => HALL.out i (by omega)⟩)
            have hi1 : ¬ (j : Int) < (X : Int) := by omega
            go_wp2_with fail
            go_ret
            exact ⟨ret_bool (by rw [HGOOD.out]), HB1.out.trans (HBR.out.mono hz1)⟩
  · have hwb : wthB 1 (X : Int) 257 = false := by unfold wthB; simp; omega
    have HBAD : Hid (RES = false) := Lib.hid (by
      rw [HRES.out]; refine pairsB_false (fun hp => ?_)
      have h1 := hp.1; have h2 := hp.2.1; have h0 := HX.out
      unfold mostPairs at h2; rw [if_pos HOP.out] at h2; omega)
    clear hw1
    go_enter Try.func110, Try.ntmps110
    go_wp2_with (go_at_call 111; refine (within_any _ _ _ _).mono ?_; rintro e w1 ⟨rfl, rfl⟩)
    go_ret
    exact ⟨ret_bool (by rw [HBAD.out]), below1' _⟩

set_option maxRecDepth 100000 in
set_option maxHeartbeats 4000000 in
theorem pairs_other (op a b : Int) (A : Option Addr) (cap : Nat) (t : List (Int × Int)) (w : World) (h11 : op ≠ 11) (h : TabSl w A cap t) (hlen : t.length ≤ 1000000000) :
    Calls Try.prog 110 #[.agg #[.int .i64 op, .int .i64 a, .int .i64 b, .slice A t.length cap]] w fun e w' => e = .returned (.bool (pairsB op t)) ∧ Below w.heap.size w w' := by
  have hb11 : (op == 11) = false := by simp [h11]
  have HOP := Lib.hid h11
  have HT := Lib.hid h
  obtain ⟨X, hX⟩ : ∃ X, X = t.length := ⟨_, rfl⟩
  rw [← hX] at hlen ⊢
  have HX := Lib.hid hX
  clear h h11 hX
  obtain ⟨RES, hRES⟩ : ∃ R, R = pairsB op t := ⟨_, rfl⟩
  rw [← hRES]
  have HRES := Lib.hid hRES; clear hRES
  by_cases hw1 : 1 ≤ X ∧ X ≤ 65536
  · have hwb : wthB 1 (X : Int) 65536 = true := by unfold wthB; simp; omega
    have hc0 : ∃ g o z, A = some ⟨g, o, none⟩ ∧ w.cell? ⟨g, o, none⟩ = some (.int .i64 z) ∧ z = (t.getD 0 (0, 0)).1 := by
      have h0 := HX.out
      obtain ⟨g, o, hA, _, hc⟩ := HT.out.2 (by omega)
      refine ⟨g, o, _, hA, (hc 0 (by omega)).1, ?_⟩
      simp [List.getD_eq_getElem?_getD, List.getElem?_eq_getElem (show 0 < t.length by omega)]
    obtain ⟨g, o, z0, rfl, c0, hz0⟩ := hc0
    have HZ0 := Lib.hid hz0; clear hz0
    have hgl : g < w.heap.size := (cell_lt_ c0)
    have hX0 : (0 : Int) < (X : Int) := by omega
    by_cases h13 : op = 13 ∧ z0 ≠ -1
    · skip
      have e13 : (op == 13) = true := by simp [h13.1]
      have ez : (z0 != -1) = true := by simp [h13.2]
      have HBAD : Hid (RES = false) := Lib.hid (by rw [HRES.out]; exact pairsB_false (fun hp => h13.2 (HZ0.out.trans (hp.2.2.1 h13.1))))
      clear h13
      go_enter Try.func110, Try.ntmps110
      go_wp2_with (go_at_call 111; refine (within_any _ _ _ _).mono ?_; rintro e w1 ⟨rfl, rfl⟩)
      go_ret
      exact ⟨ret_bool (by rw [HBAD.out]), below1' _⟩
    · have h13c : (op ≠ 13) ∨ (op = 13 ∧ z0 = -1) := by omega
      have H13 : Hid (op = 13 → (t.getD 0 (0, 0)).1 = -1) := Lib.hid (fun e => by rw [← HZ0.out]; omega)
      have HW1 := Lib.hid hw1
      clear h13
      have hb1 : Below w.heap.size w (w.alloc (.cells #[.int .i64 op, .int .i64 a, .int .i64 b, .slice (some ⟨g, o, none⟩) X cap] 32)) := below1' _
      obtain ⟨W1, hW1⟩ : ∃ W1, W1 = w.alloc (.cells #[.int .i64 op, .int .i64 a, .int .i64 b, .slice (some ⟨g, o, none⟩) X cap] 32) := ⟨_, rfl⟩
      have hbox : Blk W1 w.heap.size 32 #[.int .i64 op, .int .i64 a, .int .i64 b, .slice (some ⟨g, o, none⟩) X cap] := by rw [hW1]; exact Blk.new _ _ _
      rw [← hW1] at hb1
      have HW := Lib.hid hW1; have HB1 := Lib.hid hb1; have HBOX := Lib.hid hbox
      have hz1 := hb1.size
      have hzz : w.heap.size < W1.heap.size := hbox.lt
      clear hW1 hb1 hbox
      have hwps : (op ≠ 13 ∧ (op == 13) = false) ∨ ((op == 13) = true ∧ (z0 != -1) = false) := by
        rcases h13c with h | ⟨h, h'⟩
        · exact .inl ⟨h, by simp [h]⟩
        · exact .inr ⟨by simp [h], by simp [h']⟩
      clear h13c
      rcases hwps with ⟨_, e13⟩ | ⟨e13, ez⟩
      all_goals
        go_enter Try.func110, Try.ntmps110
        go_wp2_with (go_at_call 111; refine (within_any _ _ _ _).mono ?_; rintro e w1 ⟨rfl, rfl⟩)
        rw [← HW.out]
        go_loopg [31] X (fun gk i wr => ∃ j : Nat, j ≤ X ∧ gk = X - j ∧ i = .int .i64 j ∧ Hid (∀ k, k < j → pairOk op t k) ∧ Below W1.heap.size W1 wr)
        case atStart => exact ⟨0, Nat.zero_le _, rfl, rfl, Lib.hid (fun k hk => absurd hk (by omega)), Below.refl _ _⟩
        case round =>
          obtain ⟨j, hj, rfl, rfl, HALL, hbr⟩ := hrel
          have HBR := Lib.hid hbr
          have hzr := hbr.size
          clear hbr
          by_cases hlt : j < X
          · have helt : ∃ z1 z2, W1.cell? ⟨g, o + j * 2, none⟩ = some (.int .i64 z1) ∧ W1.cell? ⟨g, o + j * 2 + 1, none⟩ = some (.int .i64 z2) ∧ t.getD j (0, 0) = (z1, z2) := by
              have h0 := HX.out
              obtain ⟨g', o', hA, hg', hc⟩ := HT.out.2 (by omega)
              injection hA with hA; injection hA with e1 e2; subst e1 e2
              have := hc j (by omega)
              exact ⟨_, _, (HB1.out.cell (p := ⟨g, o + j * 2, none⟩) hg').trans this.1, (HB1.out.cell (p := ⟨g, o + j * 2 + 1, none⟩) hg').trans this.2, by simp [List.getD_eq_getElem?_getD, List.getElem?_eq_getElem (show j < t.length by omega)]⟩
            obtain ⟨z1, z2, d1', d2', hzt⟩ := helt
            have hgW : g < W1.heap.size := Nat.lt_of_lt_of_le hgl hz1
            have d1 := (HBR.out.cell (p := ⟨g, o + j * 2, none⟩) hgW).trans d1'
            have d2 := (HBR.out.cell (p := ⟨g, o + j * 2 + 1, none⟩) hgW).trans d2'
            have hbx := HBOX.out.below HBR.out HBOX.out.lt
            have x0 : wr.cell? ⟨w.heap.size, 0, none⟩ = some (.int .i64 op) := (hbx.cell 0).trans rfl
            have hgr : g < wr.heap.size := Nat.lt_of_lt_of_le hgW hzr
            have hwr : w.heap.size < wr.heap.size := Nat.lt_of_lt_of_le hzz hzr
            have HZT := Lib.hid hzt
            have HJ : Hid (j < X) := Lib.hid hlt
            have HBE : Hid (Below w.heap.size w (wr.alloc (.cells #[.int .i64 z1, .int .i64 z2] 46))) := Lib.hid ((HB1.out.trans (HBR.out.mono hz1)).alloc (by omega) _)
            have HBN : Hid (Below W1.heap.size W1 (wr.alloc (.cells #[.int .i64 z1, .int .i64 z2] 46))) := Lib.hid (HBR.out.alloc hzr _)
            have hi1 : (j : Int) < (X : Int) := by omega
            have hj0 : (0 : Int) ≤ (j : Int) := Int.natCast_nonneg _
            clear hzt d1' d2' hbx
            by_cases hw2 : 0 ≤ z2 ∧ z2 ≤ 65536
            · have hw2b : wthB 0 z2 65536 = true := by unfold wthB; simp; omega
              by_cases hd : z1 = -1
              · have hdb : (z1 == -1) = true := by simp [hd]
                by_cases hj1 : 0 < j
                · have HBAD : Hid (RES = false) := Lib.hid (by
                    rw [HRES.out]; refine pairsB_false (fun hp => ?_)
                    have := (hp.2.2.2 j (by have := HX.out; omega)).2
                    rw [HZT.out] at this
                    simp [hd] at this; omega)
                  have hj1' : (0 : Int) < (j : Int) := by omega
                  clear hd hw2 HZT
                  go_wp2_with (go_at_call 111; refine (within_any _ _ _ _).mono ?_; rintro e w1 ⟨rfl, rfl⟩)
                  go_ret
                  exact ⟨ret_bool (by rw [HBAD.out]), HBE.out⟩
                · have HOK : Hid (pairOk op t j) := Lib.hid (by unfold pairOk; rw [HZT.out]; exact ⟨hw2, by simp [hd]; omega⟩)
                  have hj1' : ¬ (0 : Int) < (j : Int) := by omega
                  clear hd hw2 HZT
                  go_wp2_with (go_at_call 111; refine (within_any _ _ _ _).mono ?_; rintro e w1 ⟨rfl, rfl⟩)
                  go_roundg (X - (j + 1))
                  case measure => omega
                  case rel => exact ⟨j + 1, by omega, rfl, by go_num, Lib.hid (all_succ HALL.out HOK.out), HBN.out⟩
              · have hdb : (z1 == -1) = false := by simp [hd]
                have y1 : (wr.alloc (.cells #[.int .i64 z1, .int .i64 z2] 46)).cell? ⟨wr.heap.size, 0, none⟩ = some (.int .i64 z1) := (Blk.new _ _ _).cell 0
                have y2 : (wr.alloc (.cells #[.int .i64 z1, .int .i64 z2] 46)).cell? ⟨w.heap.size, 0, none⟩ = some (.int .i64 op) := (cell_old1 hwr).trans x0
                by_cases hj1 : 0 < j
                · have hj1' : (0 : Int) < (j : Int) := by omega
                  have hprev : ∃ pv, (wr.alloc (.cells #[.int .i64 z1, .int .i64 z2] 46)).cell? ⟨g, o + (j - 1) * 2, none⟩ = some (.int .i64 pv) ∧ (t.getD (j - 1) (0, 0)).1 = pv := by
                    have h0 := HX.out
                    obtain ⟨g', o', hA, hg', hc⟩ := HT.out.2 (by omega)
                    injection hA with hA; injection hA with e1 e2; subst e1 e2
                    have := hc (j - 1) (by omega)
                    refine ⟨_, (cell_old1 hgr).trans ((HBR.out.cell (p := ⟨g, o + (j - 1) * 2, none⟩) hgW).trans ((HB1.out.cell (p := ⟨g, o + (j - 1) * 2, none⟩) hg').trans this.1)), ?_⟩
                    simp [List.getD_eq_getElem?_getD, List.getElem?_eq_getElem (show j - 1 < t.length by omega)]
                  obtain ⟨pv, y3, hpv⟩ := hprev
                  have HPV := Lib.hid hpv; clear hpv
                  obtain ⟨i1, hi1e⟩ : ∃ i1 : Nat, i1 = j - 1 := ⟨_, rfl⟩
                  rw [← hi1e] at y3 HPV
                  have hsub : IntKind.i64.wrap ((j : Int) - 1) = (i1 : Int) := by rw [IntWalk.i64_in _ (by omega)]; omega
                  have hi1a : (0 : Int) ≤ (i1 : Int) := Int.natCast_nonneg _
                  have hi1b : (i1 : Int) < (X : Int) := by omega
                  have HI1 := Lib.hid hi1e; clear hi1e
                  have HSUB := Lib.hid hsub; clear hsub
                  by_cases hp1 : pv = -1
                  · have hpb : (pv != -1) = false := by simp [hp1]
                    have HP1 : Hid (pv = -1) := Lib.hid hp1
                    clear hp1
                    have HOK : Hid (pairOk op t j) := Lib.hid (by unfold pairOk; rw [HZT.out]; exact ⟨hw2, by rw [if_neg hd]; exact ⟨fun e => absurd e HOP.out, fun _ h => absurd (by rw [← HI1.out, HPV.out]; exact HP1.out) h⟩⟩)
                    clear hd hw2 HZT
                    have hsub := HSUB.out
                    go_upto_region 15 with (go_at_call 111; refine (within_any _ _ _ _).mono ?_; rintro e w1 ⟨rfl, rfl⟩)
                    go_quiet ((go_at_call 111; exact Calls.quiet_of_same (within_q _ _ _ _)))
                    go_wp2_with fail
                    go_roundg (X - (j + 1))
                    case measure => omega
                    case rel => exact ⟨j + 1, by omega, rfl, by go_num, Lib.hid (all_succ HALL.out HOK.out), below_drewN HBN.out _⟩
                  · have hpb : (pv != -1) = true := by simp [hp1]
                    by_cases hge : z1 ≤ pv
                    · have hgd : decide (z1 ≤ pv) = true := by simpa using hge
                      have HBAD : Hid (RES = false) := Lib.hid (by
                        rw [HRES.out]; refine pairsB_false (fun hp => ?_)
                        have hq := (hp.2.2.2 j (by have := HX.out; omega)).2
                        rw [HZT.out, if_neg hd] at hq
                        have hq2 := hq.2 hj1 (by rw [← HI1.out, HPV.out]; exact hp1)
                        rw [← HI1.out, HPV.out] at hq2
                        have hq3 : pv < z1 := hq2
                        omega)
                      clear hd hw2 HZT
                      have hsub := HSUB.out
                      go_upto_region 15 with (go_at_call 111; refine (within_any _ _ _ _).mono ?_; rintro e w1 ⟨rfl, rfl⟩)
                      go_quiet ((go_at_call 111; exact Calls.quiet_of_same (within_q _ _ _ _)))
                      go_wp2_with fail
                      go_ret
                      exact ⟨ret_bool (by rw [HBAD.out]), below_drewN HBE.out _⟩
                    · have hgd : decide (z1 ≤ pv) = false := by simpa using hge
                      have HGE : Hid (pv < z1) := Lib.hid (by omega)
                      have HOK : Hid (pairOk op t j) := Lib.hid (by unfold pairOk; rw [HZT.out]; exact ⟨hw2, by rw [if_neg hd]; exact ⟨fun e => absurd e HOP.out, fun _ _ => by rw [← HI1.out, HPV.out]; exact HGE.out⟩⟩)
                      clear hd hw2 HZT
                      have hsub := HSUB.out
                      go_upto_region 15 with (go_at_call 111; refine (within_any _ _ _ _).mono ?_; rintro e w1 ⟨rfl, rfl⟩)
                      go_quiet ((go_at_call 111; exact Calls.quiet_of_same (within_q _ _ _ _)))
                      go_wp2_with fail
                      go_roundg (X - (j + 1))
                      case measure => omega
                      case rel => exact ⟨j + 1, by omega, rfl, by go_num, Lib.hid (all_succ HALL.out HOK.out), below_drewN HBN.out _⟩
                · have hj1' : ¬ (0 : Int) < (j : Int) := by omega
                  have hj1d : decide ((0 : Int) < (j : Int)) = false := by simpa using hj1'
                  have HOK : Hid (pairOk op t j) := Lib.hid (by unfold pairOk; rw [HZT.out]; exact ⟨hw2, by rw [if_neg hd]; exact ⟨fun e => absurd e HOP.out, fun h => absurd h hj1⟩⟩)
                  clear hd hw2 HZT
                  go_upto_region 15 with (go_at_call 111; refine (within_any _ _ _ _).mono ?_; rintro e w1 ⟨rfl, rfl⟩)
                  go_quiet ((go_at_call 111; exact Calls.quiet_of_same (within_q _ _ _ _)))
                  go_wp2_with fail
                  go_roundg (X - (j + 1))
                  case measure => omega
                  case rel => exact ⟨j + 1, by omega, rfl, by go_num, Lib.hid (all_succ HALL.out HOK.out), below_drewN HBN.out _⟩
            · have hw2b : wthB 0 z2 65536 = false := by unfold wthB; simp; omega
              have HBAD : Hid (RES = false) := Lib.hid (by
                rw [HRES.out]; refine pairsB_false (fun hp => ?_)
                have := (hp.2.2.2 j (by have := HX.out; omega)).1
                rw [HZT.out] at this
                exact hw2 this)
              clear hw2 HZT
              go_wp2_with (go_at_call 111; refine (within_any _ _ _ _).mono ?_; rintro e w1 ⟨rfl, rfl⟩)
              go_ret
              exact ⟨ret_bool (by rw [HBAD.out]), HBE.out⟩
          · have HGOOD : Hid (RES = true) := Lib.hid (by
              rw [HRES.out]
              have h0 := HX.out
              exact pairsB_true ⟨by have := HW1.out; omega, by unfold mostPairs; rw [if_neg HOP.out]; have := HW1.out; omega, H13.out, fun i hi => HALL.out i (by omega)⟩)
            have hi1 : ¬ (j : Int) < (X : Int) := by omega
            go_wp2_with fail
            go_ret
            exact ⟨ret_bool (by rw [HGOOD.out]), HB1.out.trans (HBR.out.mono hz1)⟩
  · have hwb : wthB 1 (X : Int) 65536 = false := by unfold wthB; simp; omega
    have HBAD : Hid (RES = false) := Lib.hid (by
      rw [HRES.out]; refine pairsB_false (fun hp => ?_)
      have h1 := hp.1; have h2 := hp.2.1; have h0 := HX.out
      unfold mostPairs at h2; rw [if_neg HOP.out] at h2; omega)
    clear hw1
    go_enter Try.func110, Try.ntmps110
    go_wp2_with (go_at_call 111; refine (within_any _ _ _ _).mono ?_; rintro e w1 ⟨rfl, rfl⟩)
    go_ret
    exact ⟨ret_bool (by rw [HBAD.out]), below1' _⟩

end Go.Proofs.Ytfeghobfkgimfaa
