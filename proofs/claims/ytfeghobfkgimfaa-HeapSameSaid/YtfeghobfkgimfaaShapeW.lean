/- shape: the heap's shape from its roots, as a list of ints. -/
import Derived.Test.YtfeghobfkgimfaaShapeP
import Derived.Test.YtfeghobfkgimfaaKnows
namespace Go.Proofs.Ytfeghobfkgimfaa
open Go.RowKit

/-- shape's answer. -/
def ShapeV (xs : List Int) (w : World) (e : Ending) (w' : World) : Prop :=
  ∃ v, e = .returned v ∧ xs.length ≤ 200000000 ∧ Below w.heap.size w w' ∧ w'.ownsRow w.heap.size 3 1 v xs.length (xs.map (Value.int .i64))

set_option maxRecDepth 100000 in
set_option maxHeartbeats 4000000 in
theorem shape_any (W : World) (b cb gb n u : Nat) (L : List Nat) (sz lk : Nat → Nat) (nd : Nat → Nd) (hp : Hp W b cb gb n u L sz lk nd) (hn0 : 1 ≤ n) (hn : n ≤ 1048576) (S : Nat → Prop) (A : Option Addr) (cap : Nat) (rs : List Nat)
    (hA : IntSl S W A cap (ints rs)) (hrs : ∀ p ∈ rs, p ∈ L) (hrl : rs.length ≤ 100000) (ix M0 M : List Nat) (acc : List (List Nat)) (h0 : meetAll [] (rs.map lk) = (ix, M0)) (hb : bfs lk (argsOf nd) (L.length + 1) 0 M0 [] = (M, acc)) :
    Calls Try.prog 24 #[.pointer (some ⟨b, 0, none⟩), .slice A rs.length cap] W (ShapeV (shapeOf nd ix M acc) W) := by
  obtain ⟨i0, hi, hz0, hzs, hzb⟩ := info_parts Try.info3
  have hL : L.length ≤ 600000 := by have := hp.len2; have := hp.hu; omega
  have hixl : ix.length ≤ 100000 := by have h1 := meetAll_length [] (rs.map lk); rw [h0] at h1; simp at h1; omega
  obtain ⟨R, hR⟩ : ∃ R, R = rs.length := ⟨_, rfl⟩
  rw [← hR] at hrl ⊢
  have HP := Lib.hid hp; have HA := Lib.hid hA; have HRS := Lib.hid hrs; have H0 := Lib.hid h0; have HB := Lib.hid hb; have HR := Lib.hid hR; have HL := Lib.hid hL; have HIX := Lib.hid hixl
  clear hp hA hrs h0 hb hR hL hixl
  go_enter Try.func24, Try.ntmps24
  go_wp2_with fail
  go_loopg [5, 6, 7] R (fun gk vo vm i wr => ∃ k : Nat, k ≤ R ∧ gk = R - k ∧ i = .int .i64 k ∧ Sh1 W wr lk rs k vo vm)
  case atStart => exact ⟨0, Nat.zero_le _, rfl, rfl, Sh1.start W lk rs⟩
  case round =>
    obtain ⟨k, hk, rfl, rfl, hsh⟩ := hrel
    by_cases hlt : k < R
    · have helt : ∃ g o p, A = some ⟨g, o, none⟩ ∧ wr.cell? ⟨g, o + k, none⟩ = some (.int .i64 (p : Nat)) ∧ rs[k]? = some p := by
        have h0 := HR.out
        obtain ⟨g, o, hA, hg, _, h1⟩ := HA.out.2 (by rw [ints_length]; omega)
        refine ⟨g, o, rs[k]'(by omega), hA, ?_, List.getElem?_eq_getElem _⟩
        rw [hsh.bl.cell (p := ⟨g, o + k, none⟩) hg, h1 k (by rw [ints_length]; omega)]; simp [ints]
      obtain ⟨g, o, p, rfl, c1, hq⟩ := helt
      have hpL := HRS.out p (List.mem_of_getElem? hq)
      have hlook := (HP.out.below hsh.bl).look (by exact hn0) hn hpL
      have hi1 : (k : Int) < (R : Int) := by omega
      have HQ := Lib.hid hq; have HSH := Lib.hid hsh; have HLK := Lib.hid hlook
      clear hq hsh hpL hlook
      go_wp2_with fail
      refine HLK.out.mono ?_
      rintro e w1 ⟨rfl, hb1⟩
      have HB1 := Lib.hid hb1; clear hb1
      have hsm := HSH.out.small (by rw [← HR.out]; exact hrl)
      have hmt := meet_any W.heap.size _ _ _ _ (lk p) w1 (HSH.out.pr.below HB1.out) (Nat.le_trans HSH.out.bl.size HB1.out.size) hsm.1 hsm.2
      have HM := Lib.hid hmt; clear hmt hsm
      go_wp2_with (first | (go_at_call 18; refine (num23_any _ _).mono ?_; rintro e w7 ⟨rfl, rfl⟩) | (go_at_call 55; refine HM.out.mono ?_; rintro e w2 hV; obtain ⟨vo', vm', rfl, hst⟩ := HSH.out.step HQ.out HB1.out hV; have HST := Lib.hid hst; clear hV hst))
      go_roundg (R - (k + 1))
      case measure => omega
      case rel => exact ⟨k + 1, by omega, rfl, by go_num, HST.out⟩
    · have hkR : k = rs.length := by have := HR.out; omega
      have hs2 := Sh2.start (hkR ▸ hsh) H0.out HRS.out HP.out.lkin HB.out
      have HS2 := Lib.hid hs2
      have hi1 : ¬ (k : Int) < (R : Int) := by omega
      clear hs2 hsh hkR
      go_wp2_with fail
      go_loopg [5, 6, 10] L.length (fun gk vo vm i wr => ∃ (j : Nat) (Mi : List Nat) (acci : List (List Nat)), gk = L.length - j ∧ i = .int .i64 j ∧ Sh2 W wr lk nd L ix M acc j Mi acci vo vm)
      case atStart => exact ⟨0, M0, [], rfl, rfl, HS2.out⟩
      case round =>
        obtain ⟨j, Mi, acci, rfl, rfl, hs⟩ := hrel
        obtain ⟨Am, cm, rfl⟩ := own_slice hs.pr.rm
        have hsm := hs.small HIX.out HL.out
        by_cases hlt : j < Mi.length
        · obtain ⟨Ao, co, rfl⟩ := own_slice hs.pr.ro
          obtain ⟨p, hq⟩ : ∃ p, Mi[j]? = some p := ⟨_, List.getElem?_eq_getElem hlt⟩
          have hpL := hs.inL p (List.mem_of_getElem? hq)
          obtain ⟨g, rfl, hg, _, c1⟩ := own_elt (xs := ints Mi) hs.pr.rm (j := j) (z := (p : Int)) (by simp [ints, hq])
          have hget := (HP.out.below hs.bl).get (by exact hn0) hn hpL.1 hpL.2
          have hargs := HP.out.argsin p hpL.1 hpL.2
          have hok := HP.out.oknd p hpL.1 hpL.2
          have hal : (nd p).2.2.length ≤ 255 := by
            rcases hok with ⟨_, h⟩ | ⟨_, _, h⟩ | ⟨_, _, h⟩ | ⟨_, _, h⟩ | ⟨_, _, _, h⟩
            · have := congrArg List.length h; rw [ints_length] at this; simp at this; simp [this]
            · have := congrArg List.length h; rw [ints_length] at this; simp at this; simp [this]
            · have := congrArg List.length h; rw [ints_length] at this; simp at this; simp [this]
            · rw [ints_length] at h; omega
            · rw [ints_length] at h; exact h
          have hi1 : (j : Int) < (Mi.length : Int) := by omega
          obtain ⟨kd, hkd⟩ : ∃ kd, kd = (nd p).1 := ⟨_, rfl⟩
          obtain ⟨m, hm⟩ : ∃ m, m = (nd p).2.1 := ⟨_, rfl⟩
          obtain ⟨X, hX⟩ : ∃ X, X = (nd p).2.2.length := ⟨_, rfl⟩
          obtain ⟨Y, hY⟩ : ∃ Y, Y = (ints ix ++ rows nd Mi acci j).length := ⟨_, rfl⟩
          rw [← hY]
          have hro : wr.ownsRow W.heap.size 3 1 (.slice Ao Y co) Y ((ints ix ++ rows nd Mi acci j).map (Value.int .i64)) := by rw [hY]; exact hs.pr.ro
          have hY2 : Y ≤ 200000000 := by rw [hY]; exact hsm.1
          have hX2 : X ≤ 255 := by rw [hX]; exact hal
          have hMl : Mi.length ≤ 600000 := hsm.2
          have HS := Lib.hid hs; have HQ := Lib.hid hq; have HG := Lib.hid hget; have HAR := Lib.hid hargs; have HAL := Lib.hid hal; have HSM := Lib.hid hsm; have HKD := Lib.hid hkd; have HMM := Lib.hid hm; have HX := Lib.hid hX; have HY := Lib.hid hY; have HRO := Lib.hid hro; have HPL := Lib.hid hpL
          have hz := hs.bl.size
          clear hs hq hget hargs hok hal hsm hkd hm hX hY hro hpL
          go_wp2_with fail
          refine HG.out.mono ?_
          rintro e w1 ⟨A1, cap1, rfl, hsl, hb1⟩
          rw [ints_length, ← HKD.out, ← HMM.out, ← HX.out]
          have hz1 := hb1.size
          have HB1 := Lib.hid hb1; have HSL := Lib.hid hsl
          clear hb1 hsl
          go_upto_region 14 with fail
          obtain ⟨W2, hW2⟩ : ∃ W2, W2 = w1.alloc (.cells #[.int .i64 kd, .int .i64 m, .slice A1 X cap1] 54) := ⟨_, rfl⟩
          rw [← hW2]
          have hb2 : Below w1.heap.size w1 W2 := by rw [hW2]; exact below1 _
          have hz2 : W2.heap.size = w1.heap.size + 1 := by rw [hW2]; simp
          have x0 : W2.cell? ⟨w1.heap.size, 0, none⟩ = some (.int .i64 kd) := by rw [hW2]; exact (Blk.new _ _ _).cell 0
          have x1 : W2.cell? ⟨w1.heap.size, 1, none⟩ = some (.int .i64 m) := by rw [hW2]; exact (Blk.new _ _ _).cell 1
          have hro2 : W2.ownsRow W.heap.size 3 1 (.slice Ao Y co) Y ((ints ix ++ rows nd Mi acci j).map (Value.int .i64)) := own_turns HRO.out (Turns.of_below (HB1.out.trans (hb2.mono HB1.out.size)) (S := fun _ => False)) (fun _ _ x => x)
          have hz3 : W.heap.size ≤ W2.heap.size := by omega
          have HRO2 := Lib.hid hro2; have HW2 := Lib.hid hW2; have HZ2 := Lib.hid hz2
          clear hro2 hW2 hb2 hz2
          go_wp2_with (at_builtin; refine wpList_append_lies _ rfl (.tmp 56) (.tmp 61) 22 rfl W.heap.size 3 i0 (.int .i64 0) 1 8 Try.underlying22 hi hz0 hzs hzb rfl (by decide) (.slice Ao Y co) Y ((ints ix ++ rows nd Mi acci j).map (Value.int .i64)) rfl (HRO2.out.alloc _) ⟨W2.heap.size, 0, none⟩ 3 3 [.int .i64 (-1), .int .i64 kd, .int .i64 m] rfl rfl (World.news_of_block (cs := #[.int .i64 (-1), .int .i64 kd, .int .i64 m]) (t := 3) (fr := (0, 0)) (heap_alloc_new W2 _)) (by simp [Value.oneCell']) (by decide) (by unfold maxLen; omega) (by omega) (by simp; omega) (W2.heap.size + 1) (by simp) ?_; intro g2 cap2 w3 hown hgrow hat hglt; have HOW := Lib.hid hown; have HGR := Lib.hid hgrow; have HAT := Lib.hid hat; clear hown hgrow hat)
          have hs3 : Sh3 W w3 lk (ints ix ++ rows nd Mi acci j ++ [-1, (nd p).1, (nd p).2.1]) Mi (nd p).2.2 w1.heap.size (nd p).1 (nd p).2.1 A1 cap1 0 (.slice (some ⟨g2, 0, none⟩) (Y + 3) cap2) (.slice (some ⟨g, 0, none⟩) Mi.length cm) := by
            have hy := HY.out; have ho := HOW.out; have hw2 := HW2.out; have hgr := HGR.out; have hat := HAT.out
            rw [hy] at ho hgr hat ⊢
            rw [HKD.out, HMM.out, HX.out] at hw2
            rw [HKD.out, HMM.out] at ho
            exact Sh3.start HS.out HB1.out HSL.out hw2 (below1 _) (by simp) ho hgr hat
          have HS3 := Lib.hid hs3
          have hjL : j < L.length := Nat.lt_of_lt_of_le hlt HS.out.mle
          clear hs3 x0 x1 c1
          go_loopg [5, 6, 13] X (fun gk vo vm i wz => ∃ q : Nat, q ≤ X ∧ gk = X - q ∧ i = .int .i64 q ∧ Sh3 W wz lk (ints ix ++ rows nd Mi acci j ++ [-1, (nd p).1, (nd p).2.1]) Mi (nd p).2.2 w1.heap.size (nd p).1 (nd p).2.1 A1 cap1 q vo vm)
          case atStart => exact ⟨0, Nat.zero_le _, rfl, rfl, HS3.out⟩
          case round =>
            obtain ⟨q, hq, rfl, rfl, hs⟩ := hrel
            have bc := hs.cell
            rw [← HX.out] at bc
            by_cases hlt2 : q < X
            · have helt : ∃ g' o y, A1 = some ⟨g', o, none⟩ ∧ wr.cell? ⟨g', o + q, none⟩ = some (.int .i64 (y : Nat)) ∧ (nd p).2.2[q]? = some y := by
                have h0 := HX.out
                obtain ⟨g', o, hA, hg, _, h1⟩ := hs.sl.2 (by rw [ints_length]; omega)
                exact ⟨g', o, (nd p).2.2[q]'(by omega), hA, by rw [h1 q (by rw [ints_length]; omega)]; simp [ints], List.getElem?_eq_getElem _⟩
              obtain ⟨g', o, y, rfl, c2, hy⟩ := helt
              have hlook := (HP.out.below hs.bl).look (by exact hn0) hn (HAR.out y (List.mem_of_getElem? hy))
              have hi2 : (q : Int) < (X : Int) := by omega
              have HYY := Lib.hid hy; have HSH := Lib.hid hs; have HLK := Lib.hid hlook
              clear hy hs hlook
              go_wp2_with fail
              refine HLK.out.mono ?_
              rintro e w4 ⟨rfl, hb4⟩
              have hs4 := HSH.out.next hb4
              have hsm := hs4.small (by have := HSM.out.1; rw [List.length_append]; simp at this ⊢; omega) HSM.out.2 HAL.out
              have hmt := meet_any W.heap.size _ _ _ _ (lk y) w4 hs4.pr hs4.bl.size hsm.1 hsm.2
              have HM := Lib.hid hmt; have HS4 := Lib.hid hs4
              clear hmt hsm hb4 hs4 c2 bc
              go_wp2_with fail
              refine HM.out.mono ?_
              rintro e w5 hV
              obtain ⟨vo', vm', rfl, hst⟩ := HS4.out.step HYY.out hV
              have HST := Lib.hid hst; clear hV hst
              go_wp2_with fail
              go_roundg (X - (q + 1))
              case measure => omega
              case rel => exact ⟨q + 1, by omega, rfl, by go_num, HST.out⟩
            · have hqX : q = (nd p).2.2.length := by have := HX.out; omega
              have hfin := Sh3.fin HS.out HQ.out HP.out.lkin HAR.out HAL.out (hqX ▸ hs)
              have HF := Lib.hid hfin
              have hi2 : ¬ (q : Int) < (X : Int) := by omega
              clear hfin hs hqX
              go_wp2_with fail
              go_roundg (L.length - (j + 1))
              case measure => omega
              case rel => exact ⟨j + 1, _, _, rfl, by go_num, HF.out⟩
        · have hi1 : ¬ (j : Int) < (Mi.length : Int) := by omega
          have hfin := hs.fin (by omega) hsm.1
          have HF := Lib.hid hfin
          clear hfin hs hsm
          go_wp2_with fail
          go_ret
          exact ⟨_, rfl, HF.out⟩
end Go.Proofs.Ytfeghobfkgimfaa
