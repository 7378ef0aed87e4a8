/- HeapSame: it answers true. -/
import Derived.Test.YtfeghobfkgimfaaBuildW
import Derived.Test.YtfeghobfkgimfaaSameP
import Derived.Test.YtfeghobfkgimfaaIntsW
namespace Go.Proofs.Ytfeghobfkgimfaa
open Go.RowKit Go.Shelf

/-- The roots: places of those that are there. -/
def RtR (W : World) (L : List Nat) (k : Nat) (v : Value) (wr : World) : Prop :=
  ∃ rs : List Nat, rs.length = k ∧ (∀ p ∈ rs, p ∈ L) ∧ Below W.heap.size W wr ∧ wr.ownsRow W.heap.size 3 1 v rs.length ((ints rs).map (Value.int .i64))

set_option maxRecDepth 100000 in
set_option maxHeartbeats 4000000 in
theorem same_any (z : Int) (A : Option Addr) (cap : Nat) (l : List ActD) (A2 : Option Addr) (cap2 : Nat) (xs : List Int) (w : World) (hl : ActsSl w A cap l) (hx : IntSl (fun _ => False) w A2 cap2 xs) (hxm : xs.length ≤ maxLen) :
    Calls Try.prog 6 #[.int .i64 z, .slice A l.length cap, .slice A2 xs.length cap2] w fun e w' => e = .returned (.bool true) ∧ Below w.heap.size w w' := by
  obtain ⟨i0, hi, hz0, hzs, hzb⟩ := info_parts Try.info3
  have HL := Lib.hid (light_any A cap l w hl)
  have H := Lib.hid hl
  have hm : l.length ≤ maxLen := hl.2.1
  obtain ⟨R, hR⟩ : ∃ R, R = l.length := ⟨_, rfl⟩
  obtain ⟨N, hN⟩ : ∃ N, N = xs.length := ⟨_, rfl⟩
  rw [← hN] at hxm ⊢
  rw [← hR] at hm HL ⊢
  have HR := Lib.hid hR; have HN := Lib.hid hN; have HX := Lib.hid hx
  clear hl hx hR hN
  unfold maxLen at hm hxm
  go_enter Try.func6, Try.ntmps6
  go_wp2_with fail
  refine HL.out.mono ?_
  rintro e w1 ⟨bb, rfl, hbb, q, rfl⟩
  have HBB := Lib.hid hbb; clear hbb
  have hkn : ∀ W, Below w.heap.size w W → Calls Try.prog 16 #[] W fun e w' => e = .returned (.bool true) ∧ Below w.heap.size w w' := fun W hW => (knows_any W).mono fun e w' ⟨h1, h2⟩ => ⟨h1, hW.trans (h2.mono hW.size)⟩
  have HK := Lib.hid hkn; clear hkn
  have hb0 : Below w.heap.size w (w.drewN q) := below_drewN (Below.refl _ _) q
  have HB0 := Lib.hid hb0; clear hb0
  cases bb with
  | false =>
    go_wp2_with fail
    refine (HK.out _ HB0.out).mono ?_
    rintro e w2 ⟨rfl, hb⟩
    have HB := Lib.hid hb; clear hb
    go_wp2_with fail
    go_ret
    exact ⟨rfl, HB.out⟩
  | true =>
    by_cases hN20 : 20 < N
    · have hN1 : (20 : Int) < (N : Int) := by omega
      go_wp2_with fail
      refine (HK.out _ HB0.out).mono ?_
      rintro e w2 ⟨rfl, hb⟩
      have HB := Lib.hid hb; clear hb
      go_wp2_with fail
      go_ret
      exact ⟨rfl, HB.out⟩
    · have hN1 : ¬ (20 : Int) < (N : Int) := by omega
      go_wp2_with fail
      refine (HK.out _ HB0.out).mono ?_
      rintro e w2 ⟨rfl, hb2⟩
      have HB2 := Lib.hid hb2; clear hb2
      obtain ⟨n0, hn, hn1⟩ := pick_mod z 400 (by decide) (by decide)
      obtain ⟨n, hn', hn0, hn2⟩ : ∃ n : Nat, wrap64 ((wrap64 (z.tmod 400 + 400)).tmod 400 + 4) = (n : Int) ∧ 1 ≤ n ∧ n ≤ 403 := ⟨n0 + 4, by rw [hn, wrap_small (by omega)]; omega, by omega, by omega⟩
      clear hn hn1
      have HNN := Lib.hid hn'; clear hn'
      have HNew := Lib.hid (new_any n w2 hn0 (by omega))
      go_upto_region 4 with fail
      rw [HNN.out]
      go_upto_region 5 with (go_at_call 17; refine HNew.out.mono ?_; intro e w3 hN; obtain ⟨b, cb, gb, rfl, hb, hcb, hgb, hB3, hp3⟩ := hN.hp; clear hN; have HB3 := Lib.hid hB3; have HP3 := Lib.hid hp3; have hs3 := hB3.size; clear hB3 hp3)
      have hs2 := HB2.out.size
      have HB4 : Hid (Below w.heap.size w w3) := Lib.hid (HB2.out.trans (HB3.out.mono hs2))
      have hs4 := HB4.out.size
      have hlts := HP3.out.lts
      have hrl := HBB.out trivial
      have hbd := build_any w w3 b cb gb n A cap l HB4.out H.out (by omega) (by omega) (by omega) 0 _ _ _ HP3.out hn0 (by omega) (by rw [← HR.out]; omega)
      rw [← HR.out] at hbd
      have HBD := Lib.hid hbd; clear hbd
      go_wp2_with (go_at_call 18; refine (num23_any _ _).mono ?_; rintro e w4 ⟨rfl, rfl⟩)
      refine HBD.out.mono ?_
      rintro e w4 ⟨v, rfl, L, sz, lk, nd, u, hp, ht, hown, hLR⟩
      obtain ⟨Av, cv, rfl⟩ := own_slice hown
      obtain ⟨X, hX⟩ : ∃ X, X = L.length := ⟨_, rfl⟩
      have HB5 : Hid (Below w.heap.size w w4) := Lib.hid (below_w00 HB4.out (by omega) (by omega) (by omega) ht)
      have hz4 := ht.size
      have hown4 : w4.ownsRow w3.heap.size 3 1 (.slice Av X cv) X ((ints L).map (Value.int .i64)) := by rw [hX]; exact hown
      rw [← hX] at hLR ⊢
      have HP := Lib.hid hp; have HO := Lib.hid hown4; have HLX := Lib.hid hX
      clear hp ht hown hown4 hX HBD HNew HP3 HB3 HB2 HBB HL
      by_cases hX0 : X = 0
      · have hX1 : ((X : Int) == 0) = true := by simp [hX0]
        clear hX0
        go_wp2_with fail
        go_ret
        exact ⟨rfl, HB5.out⟩
      · have hX1 : ((X : Int) == 0) = false := by simp [hX0]
        have hX2 : (0 : Int) < (X : Int) := by omega
        go_wp2_with fail
        go_loopg [10, 11] N (fun gk v i wr => ∃ k : Nat, k ≤ N ∧ gk = N - k ∧ i = .int .i64 k ∧ RtR w4 L k v wr)
        case atStart => exact ⟨0, Nat.zero_le _, rfl, rfl, [], rfl, fun p hp => by simp at hp, Below.refl _ _, World.ownsRow_nil _ _ _ _⟩
        case round =>
          obtain ⟨k, hk, rfl, rfl, rs, hrl, hrs, hbr, hro⟩ := hrel
          obtain ⟨Ar, cr, rfl⟩ := own_slice hro
          have hz5 := hbr.size
          by_cases hlt : k < N
          · rw [hrl] at hro ⊢
            have HBR := Lib.hid hbr; have HRO := Lib.hid hro; have HRL := Lib.hid hrl; have HRS := Lib.hid hrs
            clear hbr hro hrl hrs
            have helt : ∃ g o y, A2 = some ⟨g, o, none⟩ ∧ wr.cell? ⟨g, o + k, none⟩ = some (.int .i64 y) := by
              have h0 := HN.out
              obtain ⟨g, o, hA, hg, _, h1⟩ := HX.out.2 (by omega)
              refine ⟨g, o, xs[k]'(by omega), hA, ?_⟩
              rw [(HB5.out.trans (HBR.out.mono HB5.out.size)).cell (p := ⟨g, o + k, none⟩) hg]
              exact h1 k (by omega)
            obtain ⟨g, o, y, rfl, c1⟩ := helt
            obtain ⟨na, hna, hna2⟩ := pick_mod y X (by omega) (by omega)
            have hxl := HLX.out
            obtain ⟨g2, hAv, hg2, hg3, ca0⟩ := own_elt (xs := ints L) HO.out (j := na) (z := (L[na]'(by omega) : Nat)) (by simp [ints]; exact ⟨_, List.getElem?_eq_getElem _, rfl⟩)
            subst hAv
            have ca := (HBR.out.cell (p := ⟨g2, na, none⟩) hg2).trans ca0
            obtain ⟨a, ha⟩ : ∃ a, a = L[na]'(by omega) := ⟨_, rfl⟩
            rw [← ha] at ca
            have HAL : Hid (a ∈ L) := Lib.hid (by rw [ha]; exact List.getElem_mem _)
            have hi1 : (k : Int) < (N : Int) := by omega
            have HRO2 : Hid (wr.ownsRow w4.heap.size 3 1 (.slice Ar k cr) k ((ints rs).map (Value.int .i64))) := Lib.hid HRO.out
            clear ha hxl ca0
            go_wp2_with (at_builtin; refine wpList_append_lies _ rfl (.tmp 56) (.tmp 73) 22 rfl w4.heap.size 3 i0 (.int .i64 0) 1 8 Try.underlying22 hi hz0 hzs hzb rfl (by decide) (.slice Ar k cr) k ((ints rs).map (Value.int .i64)) rfl (HRO2.out.alloc _) ⟨wr.heap.size, 0, none⟩ 1 1 [.int .i64 (a : Int)] rfl rfl (cell_one_new _ _ _) (by simp [Value.oneCell']) (by decide) (by unfold maxLen; omega) (by omega) (by simp; omega) (wr.heap.size + 1) (by simp) ?_; intro g5 cap5 w5 hown5 hgrow5 hat5 hglt5; have HOW := Lib.hid hown5; have HGR := Lib.hid hgrow5; clear hown5 hgrow5 hat5)
            go_roundg (N - (k + 1))
            case measure => omega
            case rel =>
              refine ⟨k + 1, by omega, rfl, by go_num, rs ++ [a], by simp [HRL.out], ?_, ?_, ?_⟩
              · intro p hp
                rcases List.mem_append.1 hp with h | h
                · exact HRS.out p h
                · simp at h; subst h; exact HAL.out
              · exact below_grown (HBR.out.alloc hz5 _) HGR.out (fun x hx => (HRO.out.lt x hx).1) (by simp; omega)
              · rw [List.length_append, HRL.out]; simpa [ints] using HOW.out
          · have hkN : k = N := by omega
            subst hrl
            have hi1 : ¬ ((rs.length : Nat) : Int) < (N : Int) := by omega
            have HBR := Lib.hid hbr; have HRS := Lib.hid hrs
            obtain ⟨A5, c5, he, hsl⟩ := own_arg (b := b) (cb := cb) (gb := gb) hro (by rw [ints_length]) (by omega) (by omega) (by omega)
            injection he with e1 e3 e2
            subst e1 e2
            clear e3
            have HSL := Lib.hid hsl
            have hrn : rs.length ≤ 20 := by omega
            clear hbr hrs hro hsl hkN
            obtain ⟨ix, M0, h0⟩ : ∃ ix M0, meetAll [] (rs.map lk) = (ix, M0) := ⟨_, _, rfl⟩
            obtain ⟨M, acc, hbf⟩ : ∃ M acc, bfs lk (argsOf nd) (L.length + 1) 0 M0 [] = (M, acc) := ⟨_, _, rfl⟩
            obtain ⟨S, hS⟩ : ∃ S, S = shapeOf nd ix M acc := ⟨_, rfl⟩
            have hp5 := HP.out.below HBR.out
            have hsh := shape_any wr b cb gb n u L sz lk nd hp5 hn0 (by omega) _ _ _ rs HSL.out HRS.out (by omega) ix M0 M acc h0 hbf
            rw [← hS] at hsh
            have HSH := Lib.hid hsh; have HP5 := Lib.hid hp5; have H0 := Lib.hid h0; have HBF := Lib.hid hbf; have HS := Lib.hid hS
            clear hsh hp5 h0 hbf hS
            go_wp2_with fail
            refine HSH.out.mono ?_
            rintro e w6 ⟨v6, rfl, hSl, hb6, hown6⟩
            obtain ⟨A6, c6, rfl, hsl6⟩ := own_arg (b := b) (cb := cb) (gb := gb) hown6 rfl (by omega) (by omega) (by omega)
            have hp6 := HP5.out.below hb6
            have hcol := hp6.collect hn0 (by omega) (HSL.out.below hb6) HRS.out (by omega)
            have HSL6 := Lib.hid hsl6; have HP6 := Lib.hid hp6; have HC := Lib.hid hcol; have HU := Lib.hid (hp6.used hn0)
            have hz6 := hb6.size
            have HB6 : Hid (Below w.heap.size w w6) := Lib.hid (HB5.out.trans ((HBR.out.trans (hb6.mono hz5)).mono HB5.out.size))
            clear hsl6 hp6 hcol hb6 hown6 HSH
            go_wp2_with (go_at_call 20; refine HU.out.mono ?_; rintro e w7 ⟨rfl, rfl⟩)
            refine HC.out.mono ?_
            rintro e w7 ⟨out, M', acc', u2, rfl, ht7, hown7, hu2, hl, hbb, hnd, hin, h3, h4, hp7⟩
            rw [H0.out] at hown7 hbb h4
            have hMe : (M, acc) = (M', acc') := by rw [← HBF.out]; exact hbb
            injection hMe with e1 e2
            subst e1 e2
            have hh2 : ∀ p ∈ M, 2 ≤ sz p := fun p hp => HP6.out.tiles.two p (hin p hp).1
            have hone := coll_once hh2 H0.out hl HBF.out h3
            rw [← HS.out] at hone
            rw [adrs_AX h4] at hown7
            obtain ⟨rs2, hr2⟩ : ∃ rs2, rs2 = ix.map (AX sz M) := ⟨_, rfl⟩
            have hixl : ix.length = rs.length := by have := meetAll_length [] (rs.map lk); rw [H0.out] at this; simpa using this
            have hr2l : rs2.length = rs.length := by rw [hr2, List.length_map, hixl]
            rw [← hr2] at hone hown7
            have hr2L : ∀ p ∈ rs2, p ∈ newL sz M := by rw [hr2]; exact AX_newL h4
            obtain ⟨A7, c7, rfl, hsl7⟩ := own_arg (b := b) (cb := cb) (gb := gb) hown7 (by rw [ints_length]; exact hr2l.symm) (by omega) (by omega) (by omega)
            rw [ints_length, hr2l]
            obtain ⟨L2, hL2⟩ : ∃ L2, L2 = newL sz M := ⟨_, rfl⟩
            obtain ⟨sz2, hsz2⟩ : ∃ sz2, sz2 = newSz sz M := ⟨_, rfl⟩
            obtain ⟨nd2, hnd2⟩ : ∃ nd2, nd2 = newNd sz nd M acc := ⟨_, rfl⟩
            have hL2l : L2.length = M.length := by rw [hL2, newL_length]
            have hh2' : ∀ p ∈ L2, 2 ≤ sz2 p := by rw [hL2, hsz2]; exact new_two hh2
            have hadr : adrs sz2 L2 ix = ints rs2 := by rw [hL2, hsz2, adrs_new hh2, hr2, adrs_AX h4]
            rw [← hL2, ← hnd2] at hone
            rw [← hL2] at hr2L
            rw [← hL2, ← hsz2, ← hnd2] at hp7
            obtain ⟨M02, hM02⟩ : ∃ M02, M02 = nums (AX sz M) M0.length := ⟨_, rfl⟩
            rw [← hM02] at hone
            obtain ⟨k1, k2, k3⟩ := hone
            have ht7s := ht7.size
            have hsl67 := HSL6.out.step ht7 (S' := In3 b cb gb) (fun g hg => .inl hg)
            have hsh := shape_any w7 b cb gb n u2 L2 sz2 id nd2 hp7 hn0 (by omega) _ _ _ rs2 hsl7 hr2L (by omega) ix M02 L2 acc k1 k2
            rw [k3, hr2l] at hsh
            have HSH := Lib.hid hsh; have HP7 := Lib.hid hp7; have HSL67 := Lib.hid hsl67; have HSL7 := Lib.hid hsl7; have HK1 := Lib.hid k1; have HK2 := Lib.hid k2; have HK3 := Lib.hid k3; have HR2L := Lib.hid hr2L; have HRL2 := Lib.hid hr2l; have HADR := Lib.hid hadr; have HH2 := Lib.hid hh2'; have HIXL := Lib.hid hixl; have HLL := Lib.hid hL2l
            have H4 : Hid (∀ x ∈ ix, x < L2.length) := Lib.hid (by rw [hL2l]; exact h4)
            have H3 : Hid (∀ l ∈ acc, ∀ x ∈ l, x < L2.length) := Lib.hid (by rw [hL2l]; exact h3)
            have HL3 : Hid (acc.length = L2.length) := Lib.hid (by rw [hL2l]; exact hl)
            have HB7 : Hid (Below w.heap.size w w7) := Lib.hid (below_w00 HB6.out (by omega) (by omega) (by omega) ht7)
            clear hsh hp7 hsl67 hsl7 k1 k2 k3 hr2L hr2l hadr hh2' hh2 hixl hL2l h4 h3 hl hnd hin hown7 hbb ht7 hr2 hL2 hsz2 hnd2 hM02
            go_wp2_with (go_at_call 18; refine (num23_any _ _).mono ?_; rintro e w4 ⟨rfl, rfl⟩)
            refine HSH.out.mono ?_
            rintro e w8 ⟨v8, rfl, _, hb8, hown8⟩
            obtain ⟨A8, c8, rfl, hsl8⟩ := own_arg (b := b) (cb := cb) (gb := gb) hown8 rfl (by omega) (by omega) (by omega)
            have hin8 := ints_same _ _ A8 A6 c8 c6 S w8 hsl8 (HSL67.out.below hb8) (by omega)
            have HI8 := Lib.hid hin8; have HB8 := Lib.hid hb8
            clear hin8 hsl8 hown8 hb8
            go_wp2_with fail
            refine HI8.out.mono ?_
            rintro e w9 ⟨rfl, q2, rfl⟩
            have hb9 := below_drewN HB8.out q2
            have hp9 := HP7.out.below hb9
            have hu3 : ¬ (u : Int) < (u2 : Int) := by omega
            have hcol := hp9.collect hn0 (by omega) (HSL7.out.below hb9) HR2L.out (by have := HRL2.out; omega)
            rw [HRL2.out] at hcol
            have hz9 := hb9.size
            have HP9 := Lib.hid hp9; have HC9 := Lib.hid hcol; have HU9 := Lib.hid (hp9.used hn0)
            have HSL9 := Lib.hid (HSL7.out.below hb9); have HSL69 := Lib.hid (HSL67.out.below hb9)
            have HB9 : Hid (Below w.heap.size w (w8.drewN q2)) := Lib.hid (HB7.out.trans (hb9.mono HB7.out.size))
            clear hp9 hcol hb9 HI8 HSH
            go_wp2_with (go_at_call 20; refine HU9.out.mono ?_; rintro e w10 ⟨rfl, rfl⟩)
            refine HC9.out.mono ?_
            rintro e w10 ⟨out2, M2, acc2, u3, rfl, ht10, hown10, hu4, hl2, hbb2, _, hin2, h32, h42, hp10⟩
            rw [HK1.out] at hown10 hbb2 h42
            have hMe : (L2, acc) = (M2, acc2) := by rw [← HK2.out]; exact hbb2
            injection hMe with e1 e2
            subst e1 e2
            have htw := coll_once HH2.out HK1.out HL3.out HK2.out H3.out
            rw [HK3.out] at htw
            have hu5 : u3 = u2 := by
              have t1 := hp10.tiles.total
              rw [newSz_map HH2.out, HP9.out.tiles.total] at t1
              exact t1.symm
            subst hu5
            obtain ⟨rs3, hr3⟩ : ∃ rs3, rs3 = ix.map (AX sz2 L2) := ⟨_, rfl⟩
            have hr3i : ints rs3 = ints rs2 := by rw [hr3, ← adrs_AX H4.out, HADR.out]
            have hr3l : rs3.length = rs.length := by rw [hr3, List.length_map, HIXL.out]
            have hr3L : ∀ p ∈ rs3, p ∈ newL sz2 L2 := by rw [hr3]; exact AX_newL H4.out
            rw [← hr3] at htw
            rw [adrs_AX H4.out, ← hr3, hr3i] at hown10
            obtain ⟨A10, c10, rfl, hsl10⟩ := own_arg (b := b) (cb := cb) (gb := gb) hown10 (by rw [ints_length]) (by omega) (by omega) (by omega)
            rw [ints_length, HRL2.out]
            obtain ⟨k1, k2, k3⟩ := htw
            have ht10s := ht10.size
            have hin10 := ints_same _ _ A7 A10 c7 c10 (ints rs2) w10 (HSL9.out.step ht10 (S' := In3 b cb gb) (fun g hg => .inl hg)) hsl10 (by rw [ints_length, HRL2.out]; omega)
            rw [ints_length, HRL2.out] at hin10
            have hsl6a := HSL69.out.step ht10 (S' := In3 b cb gb) (fun g hg => .inl hg)
            have HI10 := Lib.hid hin10; have HSL10 := Lib.hid hsl10; have HSL6A := Lib.hid hsl6a; have HP10 := Lib.hid hp10; have HK1b := Lib.hid k1; have HK2b := Lib.hid k2; have HK3b := Lib.hid k3; have HR3I := Lib.hid hr3i; have HR3L := Lib.hid hr3L; have HR3LL := Lib.hid hr3l
            have HB10 : Hid (Below w.heap.size w w10) := Lib.hid (below_w00 HB9.out (by omega) (by omega) (by omega) ht10)
            clear hin10 hsl10 hsl6a hp10 k1 k2 k3 hr3 hr3i hr3l hr3L hown10 hbb2 hin2 h32 h42 hl2 ht10 HC9 HU9
            go_wp2_with (go_at_call 18; refine (num23_any _ _).mono ?_; rintro e w4 ⟨rfl, rfl⟩)
            refine HI10.out.mono ?_
            rintro e w11 ⟨rfl, q3, rfl⟩
            have hb11 : Below w10.heap.size w10 (w10.drewN q3) := below_drewN (Below.refl _ _) q3
            have hp11 := HP10.out.below hb11
            have hsh := shape_any (w10.drewN q3) b cb gb n u3 _ _ id _ hp11 hn0 (by omega) _ A10 c10 rs3 (by have := HSL10.out.below hb11; rw [← HR3I.out] at this; exact this) HR3L.out (by have := HR3LL.out; omega) ix _ _ acc HK1b.out HK2b.out
            rw [HK3b.out, HR3LL.out] at hsh
            have HSH := Lib.hid hsh; have HU11 := Lib.hid (hp11.used hn0); have HSL6B := Lib.hid (HSL6A.out.below hb11)
            have HB11 : Hid (Below w.heap.size w (w10.drewN q3)) := Lib.hid (below_drewN HB10.out q3)
            clear hsh hp11 hb11
            go_wp2_with (go_at_call 20; refine HU11.out.mono ?_; rintro e w12 ⟨rfl, rfl⟩)
            refine HSH.out.mono ?_
            rintro e w12 ⟨v12, rfl, _, hb12, hown12⟩
            obtain ⟨A12, c12, rfl, hsl12⟩ := own_arg (b := b) (cb := cb) (gb := gb) hown12 rfl (by show _ < w10.heap.size; omega) (by show _ < w10.heap.size; omega) (by show _ < w10.heap.size; omega)
            have hin12 := ints_same _ _ A12 A6 c12 c6 S w12 hsl12 (HSL6B.out.below hb12) (by omega)
            have HI12 := Lib.hid hin12
            have HB12 : Hid (Below w.heap.size w w12) := Lib.hid (HB11.out.trans (hb12.mono HB11.out.size))
            clear hin12 hsl12 hown12 hb12
            go_wp2_with fail
            refine HI12.out.mono ?_
            rintro e w13 ⟨rfl, q4, rfl⟩
            go_wp2_with fail
            go_ret
            exact ⟨rfl, below_drewN HB12.out q4⟩
end Go.Proofs.Ytfeghobfkgimfaa
