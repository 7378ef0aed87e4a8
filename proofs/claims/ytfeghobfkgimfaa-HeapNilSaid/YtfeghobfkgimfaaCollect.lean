import Derived.Test.YtfeghobfkgimfaaCollE
import Derived.Deep.CutBlock
import Derived.Lib.SliceRun
namespace Go.Proofs.Ytfeghobfkgimfaa
open Go.RowKit

theorem run_clear_none {P : Program} (w : World) (t e ty : TypeId) (z : Value) (ht : P.underlying t = some (.slice e)) (hv : ∀ w, (zeroValue e).run P w = .ok z w) (a : Addr) (c : Nat) :
    (Builtin.clear_ #[t] ty #[.slice (some a) 0 c]).run P w = .ok (.tuple #[]) w := by
  simp [Builtin.clear_, run_underlying ht, hv]

set_option maxRecDepth 100000 in
set_option maxHeartbeats 4000000 in
theorem collect_any (w0 w : World) (b cb gb n o1 u1 c1 o2 : Nat) (C : Nat → Int) (G : Nat → Bool) (L : List Nat) (sz lk : Nat → Nat) (nd : Nat → Nd) (A : Option Addr) (cap : Nat) (rs : List Nat) (hn0 : 1 ≤ n) (hn : n ≤ 1048576)
    (ho : (o1 = 0 ∧ o2 = n) ∨ (o1 = n ∧ o2 = 0)) (hR : Room n o1 u1 C G L sz lk nd) (h2 : ∀ x, x < n → G (o2 + x) = false)
    (hr : HRows w0 w b cb gb (2 * n) (topV cb gb n o1 u1 c1 o2 0 0) C G) (hA : IntSl (In3 b cb gb) w A cap (ints rs)) (hrs : ∀ p ∈ rs, p ∈ L) (hrl : rs.length ≤ 100000) :
    Calls Try.prog 25 #[.pointer (some ⟨b, 0, none⟩), .slice A rs.length cap] w (CollV w0 w b cb gb n o1 u1 o2 L sz lk nd rs) := by
  have hcst := hR.cst hn ho
  obtain ⟨ib, hib, hzb, _, _⟩ := info_parts Try.info4
  have l1 := hr.rb.lt; have l2 := hr.rc.lt; have l3 := hr.rg.lt
  obtain ⟨i0, hi, hz0, hz1, hz2⟩ := info_parts Try.info3
  obtain ⟨W1, hW1⟩ : ∃ W1, W1 = w.alloc (.cells #[.pointer (some ⟨b, 0, none⟩)] 50) := ⟨_, rfl⟩
  have hbel : Below w.heap.size w W1 := by rw [hW1]; exact below1 _
  have HB1 := Lib.hid ((hr.below hbel).tu)
  have hr1 : HRows W1 W1 b cb gb (2 * n) (topV cb gb n o1 u1 c1 o2 0 0) C G := (hr.below hbel).start
  have hbox : Blk W1 w.heap.size 50 #[.pointer (some ⟨b, 0, none⟩)] := by rw [hW1]; exact Blk.new _ _ _
  have hsz : W1.heap.size = w.heap.size + 1 := by rw [hW1]; simp
  have hA1 := hA.below hbel
  have hnone : Calls Try.prog 50 #[.pointer (some ⟨b, 0, none⟩)] W1 fun e w' => e = .returned (.bool false) ∧ W1 = w' := none_at b n (by omega) W1 hr1.t8
  have hcont : Calls Try.prog 51 #[.slice A rs.length cap, .func (.func 56) #[] #[.pointer (some ⟨w.heap.size, 0, none⟩)]] W1 fun e w' => e = .returned (.bool false) ∧ W1 = w' := by
    have h := contains_56 W1 b w.heap.size n o1 u1 gb G A cap (ints rs) (In3 b cb gb) (by rw [ints_length]; omega) hA1 hn hR.hu (hbox.cell 0) hr1.t2 hr1.t1 (fun k hk => hr1.rg.cell (by rcases ho with ⟨rfl, rfl⟩ | ⟨rfl, rfl⟩ <;> omega)) (fun x hx => by
      obtain ⟨p, hp, rfl⟩ := List.mem_map.1 hx
      have hpL := hrs p hp
      have := hR.tiles.fit p hpL; have := hR.tiles.two p hpL; have := hR.hu
      exact ⟨p, rfl, by omega, (hR.mark p (by omega)).2 hpL⟩)
    rw [ints_length] at h
    exact h
  have hloop := Loop1.begin (W1 := W1) (c1 := c1) (b := b) (cb := cb) (gb := gb) (rs := rs) hR h2 hr1
  have HN := Lib.hid hnone; have HC := Lib.hid hcont; have HR := Lib.hid hR; have HL := Lib.hid hloop; have HA := Lib.hid hA1; have HRS := Lib.hid hrs; have HBOX := Lib.hid hbox; have HCST := Lib.hid hcst
  have b0 := hbox.cell 0
  simp at b0
  have lb1 : b < W1.heap.size := by omega
  have lc1 : cb < W1.heap.size := by omega
  have lg1 : gb < W1.heap.size := by omega
  obtain ⟨R, hRl⟩ : ∃ R, R = rs.length := ⟨_, rfl⟩
  rw [← hRl] at hrl HC ⊢
  have HRL := Lib.hid hRl; clear hRl
  have HSZ := Lib.hid hsz
  clear hnone hcont hR hloop hA1 hrs hbox hcst hr hr1 hA h2 ho hbel hsz
  go_enter Try.func25, Try.ntmps25
  go_upto_region 1 with fail
  rw [← hW1]
  have HW := Lib.hid hW1; clear hW1
  go_wp2_with (first | (go_at_call 50; refine HN.out.mono ?_; rintro e w1 ⟨rfl, rfl⟩) | (go_at_call 51; refine HC.out.mono ?_; rintro e w1 ⟨rfl, rfl⟩))
  go_loopg [6, 24] R (fun gk out i wr => ∃ k : Nat, k ≤ R ∧ gk = R - k ∧ i = .int .i64 k ∧ Loop1 W1 n o1 o2 u1 c1 b cb gb L sz lk nd rs k out wr)
  case atStart => exact ⟨0, Nat.zero_le _, rfl, rfl, HL.out⟩
  case round =>
    obtain ⟨k, hk, rfl, rfl, hrelL⟩ := hrel
    obtain ⟨C', G', u2', hch, hr', hown⟩ := id hrelL
    have bx : wr.cell? ⟨w.heap.size, 0, none⟩ = some (.pointer (some ⟨b, 0, none⟩)) := (hr'.tu.cell (p := ⟨w.heap.size, 0, none⟩) (by rw [HSZ.out]; exact Nat.lt_succ_self _) (by rintro (e | e | e) <;> simp at e <;> omega)).trans b0
    have hwz : W1.heap.size ≤ wr.heap.size := hr'.tu.size
    by_cases hlt : k < R
    · have helt : ∃ (g o : Nat) (p : Nat), A = some ⟨g, o, none⟩ ∧ wr.cell? ⟨g, o + k, none⟩ = some (.int .i64 (p : Int)) ∧ rs[k]? = some p := by
        have hRL := HRL.out
        obtain ⟨g, o, hA, hg, hs, hx⟩ := HA.out.2 (by rw [ints_length]; omega)
        refine ⟨g, o, rs[k]'(by omega), hA, ?_, List.getElem?_eq_getElem (by omega)⟩
        rw [hr'.tu.cell (p := ⟨g, o + k, none⟩) hg hs, hx k (by rw [ints_length]; omega)]
        simp [ints]
      obtain ⟨g, o, p, rfl, hcell, hp⟩ := helt
      have hpL : p ∈ L := HRS.out p (List.mem_of_getElem? hp)
      have hfw := forward_chey wr wr b cb gb c1 p HCST.out hch hr'.start hpL
      have hi1 : (k : Int) < (R : Int) := by omega
      have HREL := Lib.hid hrelL; have HF := Lib.hid hfw; have HO := Lib.hid hown; have HP := Lib.hid hp; have HR' := Lib.hid hr'
      clear hrelL hfw hown hch hr' hp hpL
      go_wp2_with (first | (go_at_call 57; refine HF.out.mono ?_; rintro e w1 hV; obtain ⟨q, rfl⟩ := hV.int; have HV := Lib.hid hV; clear hV; have ho1 := own_turns HO.out HV.out.turns (fun x hx => by have := (HO.out.lt x hx).1; rintro (e | e | e) <;> omega); have hw1 := HV.out.turns.size) | (at_builtin; refine wpList_append_own _ rfl _ _ 22 rfl W1.heap.size 3 i0 (.int .i64 0) 1 8 Try.underlying22 hi hz0 hz1 hz2 rfl (by decide) _ _ _ rfl (ho1.alloc _) ⟨w1.heap.size, 0, none⟩ 1 1 [.int .i64 q] rfl rfl (cell_one_new _ _ _) (by simp [Value.oneCell']) (by unfold maxLen; omega) (by omega) (by simp; omega) ?_; intro v' w2 hown' hgrow _))
      go_roundg (R - (k + 1))
      case measure => omega
      case rel =>
        refine ⟨k + 1, by omega, rfl, by go_num, ?_⟩
        have hRL := HRL.out
        have hp : p = rs[k]'(by omega) := by have := HP.out; rw [List.getElem?_eq_getElem (by omega)] at this; injection this with this; exact this.symm
        have hV := HV.out
        rw [hp] at hV
        exact Loop1.step (by omega) HREL.out lb1 lc1 lg1 hV rfl hown' hgrow
    · have hkR : k = rs.length := by have := HRL.out; omega
      have hl2 := Loop2.begin (hkR ▸ hrelL)
      have hlk : R = rs.length := HRL.out
      obtain ⟨OUT, hOUT⟩ : ∃ O, O = ((adrs sz (meetAll [] (rs.map lk)).2 (meetAll [] (rs.map lk)).1).map (Value.int .i64)) := ⟨_, rfl⟩
      obtain ⟨M0, hM0⟩ : ∃ O, O = (meetAll [] (rs.map lk)).2 := ⟨_, rfl⟩
      rw [← hOUT, ← hM0] at hl2
      have HL2 := Lib.hid hl2; have HOUT := Lib.hid hOUT; have HM0 := Lib.hid hM0
      obtain ⟨out, hout⟩ : ∃ O, O = u6 := ⟨_, rfl⟩
      clear hl2 hOUT hM0 hrelL hch hr' hown hlk hout hkR HL
      go_wp2_with fail
      go_loopg [10] L.length (fun gk at_ wr => ∃ (i a : Nat) (M : List Nat) (acc : List (List Nat)), gk = L.length - i ∧ at_ = .int .i64 a ∧ Loop2 W1 n o1 o2 u1 c1 b cb gb L sz lk nd M0 u6 rs.length OUT i a M acc wr)
      case atStart => exact ⟨0, 0, M0, [], rfl, rfl, HL2.out⟩
      case round =>
        obtain ⟨i, a, M, acc, rfl, rfl, hl⟩ := hrel
        obtain ⟨hs, hat, cont, C2, G2, u2, h1, h2, hch, hr2, hown⟩ := id hl
        have hle := hch.le HCST.out
        have hll := hch.lenle
        have hu := HCST.out.hu
        have t4 := hr2.t4; have t6 := hr2.t6
        have bx2 : wr.cell? ⟨w.heap.size, 0, none⟩ = some (.pointer (some ⟨b, 0, none⟩)) := (hr2.tu.cell (p := ⟨w.heap.size, 0, none⟩) (by rw [HSZ.out]; exact Nat.lt_succ_self _) (by rintro (e | e | e) <;> simp at e <;> omega)).trans b0
        by_cases hi : i < M.length
        · have ht0 : M[i]? = some M[i] := List.getElem?_eq_getElem hi
          obtain ⟨t0, hM⟩ : ∃ t0, M[i]? = some t0 := ⟨_, ht0⟩
          have hMi : M[i] = t0 := by rw [ht0] at hM; injection hM
          have hN := (hch.new i hi).1
          have hNl := (hch.new i hi).2
          rw [hMi] at hN hNl
          have ht0L := hch.inL M[i] (List.getElem_mem hi)
          rw [hMi] at ht0L
          have hlen : (enc (nd t0).1 (nd t0).2.1 (cont i)).length = sz t0 := by
            rw [enc_len (show (cont i).length = (ints (nd t0).2.2).length from by rw [hNl, ints_length])]; exact HCST.out.len t0 ht0L.1 ht0L.2
          have hadr := Adr_lt sz M i M.length hi (Nat.le_refl _)
          rw [Adr_all, ← hch.used, ← hat, hMi] at hadr
          have htwo := HCST.out.tiles.two t0 ht0L.1
          have hl3 := Loop3.begin hi hM hl
          rw [← hat] at hN
          have e0 := hr2.rc.cell (i := o2 + a) (by rcases HCST.out.ho with ⟨rfl, rfl⟩ | ⟨rfl, rfl⟩ <;> omega)
          rw [hN.kind] at e0
          have hargs := args_any b 4 cb o2 n a (nd t0).1 (nd t0).2.1 (cont i) C2 wr hn (by omega) t4 (fun x hx => hr2.rc.cell (by rcases HCST.out.ho with ⟨rfl, rfl⟩ | ⟨rfl, rfl⟩ <;> omega)) hN
          rw [hNl] at hargs
          have hok := hN.1
          have HARGS := Lib.hid hargs; have HL3 := Lib.hid hl3; have HLOOP := Lib.hid hl; have HS := Lib.hid hs; have HLEN := Lib.hid hlen; have HAT := Lib.hid hat; have HM := Lib.hid hM; have HOK := Lib.hid hok; have HNL := Lib.hid hNl; have HT := Lib.hid ht0L
          have hlt1 : (a : Int) < (u2 : Int) := by omega
          have hlt2 : (a : Int) < (n : Int) := by omega
          clear hargs hl3 hl hs hlen hM hMi hN hch hr2 hown h1 h2 ht0 hok hNl ht0L hat
          obtain ⟨kd, hkd⟩ : ∃ kd, kd = (nd t0).1 := ⟨_, rfl⟩
          rw [← hkd] at e0
          have HKD := Lib.hid hkd; clear hkd
          go_upto_block 5 with (go_at_call 58; refine HARGS.out.mono ?_; rintro e w1 ⟨A2, rfl, hA2, q, rfl⟩; have HA2 := Lib.hid hA2; clear hA2)
          have bi0 : (sz t0 = 2 ∧ kd ≠ 2 ∧ kd ≠ 4) ∨ (sz t0 = 3 ∧ kd = 2) ∨ (sz t0 = 3 + (nd t0).2.2.length ∧ kd = 4 ∧ (nd t0).2.2.length ≤ 255) := by
            have h1 := HLEN.out; have h2 := HOK.out; have h3 := HNL.out; have h4 := HKD.out
            rw [← h4] at h1 h2
            rw [← h1, ← h3]
            rcases h2 with ⟨rfl, h⟩ | ⟨rfl, _, h⟩ | ⟨rfl, _, h⟩ | ⟨rfl, _, h⟩ | ⟨rfl, _, _, h⟩
            · left; simp [enc]
            · left; simp [enc]
            · left; simp [enc]
            · right; left; simp [enc, h]
            · right; right; simp [enc]; omega
          have HB0 := Lib.hid bi0; clear bi0
          go_cut [11] (fun s11 wc => s11 = .int .i64 (sz t0 : Int) ∧ wc = wr.drewN q)
          case first =>
            rcases HB0.out with ⟨h1, h2, h3⟩ | ⟨h1, h2⟩ | ⟨h1, h2, h3⟩
            · have hb1 : (kd == 2) = false := by simp [h2]
              have hb2 : (kd == 4) = false := by simp [h3]
              have H1 := Lib.hid h1; clear h1
              go_wp2_with fail
              go_meet
              exact ⟨by rw [H1.out]; rfl, rfl⟩
            · have hb1 : (kd == 2) = true := by simp [h2]
              have H1 := Lib.hid h1; clear h1 h2
              go_wp2_with fail
              go_meet
              exact ⟨by rw [H1.out]; rfl, rfl⟩
            · have hb1 : (kd == 2) = false := by simp [h2]
              have hb2 : (kd == 4) = true := by simp [h2]
              have H1 := Lib.hid h1; clear h1 h2
              go_wp2_with fail
              go_meet
              exact ⟨by rw [H1.out]; go_num, rfl⟩
          case rest =>
            obtain ⟨rfl, rfl⟩ := hcut
            obtain ⟨X, hX⟩ : ∃ X, X = (nd t0).2.2.length := ⟨_, rfl⟩
            rw [← hX]
            have HX := Lib.hid hX; clear hX
            go_upto_region 22 with fail
            go_loopg [63] X (fun gk jv wz => ∃ j : Nat, j ≤ X ∧ gk = X - j ∧ jv = .int .i64 j ∧ Loop3 W1 n o1 o2 u1 c1 b cb gb L sz lk nd u6 rs.length OUT t0 i M acc j wz)
            case atStart => exact ⟨0, Nat.zero_le _, rfl, rfl, Loop3.drewN HL3.out q⟩
            case round =>
              obtain ⟨j, hj, rfl, rfl, hl3⟩ := hrel
              have bx3 : wr.cell? ⟨w.heap.size, 0, none⟩ = some (.pointer (some ⟨b, 0, none⟩)) := by
                obtain ⟨_, _, _, _, _, _, _, _, hr3, _⟩ := id hl3
                exact (hr3.tu.cell (p := ⟨w.heap.size, 0, none⟩) (by rw [HSZ.out]; exact Nat.lt_succ_self _) (by rintro (e | e | e) <;> simp at e <;> omega)).trans b0
              by_cases hlt : j < X
              · have hjl : j < (argsOf nd t0).length := by rw [← HX.out]; exact hlt
                have ha2 := HA2.out (by rw [← HX.out]; omega)
                obtain ⟨P, hP⟩ : ∃ P, P = o2 + a + argOff (nd t0).1 := ⟨_, rfl⟩
                rw [← hP] at ha2
                obtain ⟨cont3, C3, G3, u3, g1, g2, g3, hch3, hr3, hown3⟩ := id hl3
                obtain ⟨r3, hpre3⟩ := meetAll_prefix M (((argsOf nd t0).take j).map lk)
                have hi3 : i < (meetAll M (((argsOf nd t0).take j).map lk)).2.length := by rw [hpre3]; simp; omega
                have hMe : (meetAll M (((argsOf nd t0).take j).map lk)).2[i] = t0 := by
                  have hx : (meetAll M (((argsOf nd t0).take j).map lk)).2[i]? = M[i]? := by rw [hpre3, List.getElem?_append_left hi]
                  rw [List.getElem?_eq_getElem hi3, HM.out] at hx; injection hx
                have hN3 := (hch3.new i hi3).1
                have hNl3 := (hch3.new i hi3).2
                rw [hMe] at hN3 hNl3
                have hea := enc_arg hN3.1 j (by rw [hNl3]; exact hjl)
                have hlen3 : (enc (nd t0).1 (nd t0).2.1 (cont3 i)).length = sz t0 := by
                  rw [enc_len (show (cont3 i).length = (ints (nd t0).2.2).length from by rw [hNl3, ints_length])]; exact HCST.out.len t0 HT.out.1 HT.out.2
                have hea1 := hea.1; rw [hlen3] at hea1
                have hPj : P + j < 2 * n := by
                  have := HCST.out.hu
                  rcases HCST.out.ho with ⟨e1, e2⟩ | ⟨e1, e2⟩ <;> omega
                have hadr3 : Adr sz (meetAll M (((argsOf nd t0).take j).map lk)).2 i = a := by rw [hpre3, Adr_ext sz M r3 i (by omega)]; exact HAT.out.symm
                have hcell : wr.cell? ⟨cb, P + j, none⟩ = some (.int .i64 ((argsOf nd t0)[j] : Nat)) := by
                  rw [hr3.rc.cell hPj]
                  have h1 := hN3.2 (argOff (nd t0).1 + j) hea.1
                  rw [hea.2] at h1
                  rw [hadr3, show o2 + a + (argOff (nd t0).1 + j) = P + j from by omega] at h1
                  rw [h1]
                  have hx : (cont3 i)[j]? = (ints (argsOf nd t0))[j]? := by
                    rw [g2, List.getElem?_append_right (by rw [adrs_length, meetAll_length]; simp; omega), adrs_length, meetAll_length]
                    simp only [List.length_map, List.length_take]
                    rw [Nat.min_eq_left (by omega), Nat.sub_self, List.getElem?_drop, Nat.add_zero]
                  rw [List.getElem?_eq_getElem (by rw [hNl3]; exact hjl), List.getElem?_eq_getElem (by rw [ints_length]; exact hjl)] at hx
                  injection hx with hx
                  rw [hx]; simp [ints]
                have hpL : (argsOf nd t0)[j] ∈ L := HCST.out.args t0 HT.out.1 HT.out.2 _ (List.getElem_mem hjl)
                have hfw := forward_chey wr wr b cb gb c1 (argsOf nd t0)[j] HCST.out hch3 hr3.start hpL
                have hj1 : (j : Int) < (X : Int) := by omega
                have hjn : j ≤ 2097152 := by omega
                obtain ⟨y, hy⟩ : ∃ y, y = (argsOf nd t0)[j] := ⟨_, rfl⟩
                rw [← hy] at hcell
                have hfw' : Calls Try.prog 57 #[.pointer (some ⟨b, 0, none⟩), .int .i64 y] wr (FwdV wr n o1 o2 u1 c1 b cb gb L sz lk nd (meetAll M (((argsOf nd t0).take j).map lk)).2 cont3 (lk (argsOf nd t0)[j])) := by rw [hy]; exact hfw
                have HF := Lib.hid hfw'; have HY := Lib.hid hy; have HP := Lib.hid hP; have HG1 := Lib.hid g1; have HG2 := Lib.hid g2; have HG3 := Lib.hid g3; have HCH := Lib.hid hch3; have HR3 := Lib.hid hr3; have HO := Lib.hid hown3
                have HPJ := Lib.hid hPj
                subst ha2
                clear hfw hfw' hy hP g1 g2 g3 hch3 hr3 hown3 hpre3 hi3 hMe hN3 hNl3 hea hea1 hlen3 hadr3 hpL hl3 hPj
                go_wp2_with (go_at_call 57; refine HF.out.mono ?_; rintro e w1 hV; obtain ⟨q3, rfl⟩ := hV.int; obtain ⟨qs, hsc⟩ := hV.cell HPJ.out; have hfr := hV.frozen (P + j); have HV := Lib.hid hV; clear hV)
                go_roundg (X - (j + 1))
                case measure => (have h9 : j < (nd t0).2.2.length := hjl; rw [← HX.out] at h9; omega)
                case rel =>
                  have h9 : j < (nd t0).2.2.length := hjl
                  rw [← HX.out] at h9
                  refine ⟨j + 1, by omega, rfl, by go_num, ?_⟩
                  have hstep := Loop3.step HCST.out hi HM.out hjl HG1.out HG2.out HG3.out HCH.out HR3.out HO.out lb1 lc1 lg1 HV.out rfl
                  rw [← HAT.out, ← HP.out] at hstep
                  exact hstep
              · obtain rfl : j = X := by omega
                have hfin := Loop3.fin hi HM.out (by have := HLOOP.out; omega) HS.out HAT.out (by rw [← HX.out]; exact hl3)
                have HFIN := Lib.hid hfin; clear hfin hl3
                go_wp2_with fail
                go_roundg (L.length - (i + 1))
                case measure => omega
                case rel => exact ⟨i + 1, a + sz t0, _, _, rfl, by go_num, HFIN.out⟩
        · have hiM : i = M.length := by have := hs.le; omega
          have HI := Lib.hid hiM
          have hau : a = u2 := by rw [hat, hiM, Adr_all, ← hch.used]
          subst hau
          have t1 := hr2.t1; have t2 := hr2.t2; have t0 := hr2.t0; have t3 := hr2.t3; have t5 := hr2.t5; have t7 := hr2.t7
          have HR2 := Lib.hid hr2; have HS := Lib.hid hs; have HAT := Lib.hid hat; have HCH := Lib.hid hch; have HO := Lib.hid hown; have H1 := Lib.hid h1
          clear hr2 hs hat hch hown h1 h2 hl hiM
          have hclr : ∀ ty, (Builtin.clear_ #[75] ty #[.slice (some ⟨gb, o1, none⟩) u1 n]).run Try.prog wr.drew = .ok (.tuple #[]) (wr.drew.setCells gb o1 (List.replicate u1 (.bool false))) := fun ty =>
            by
            by_cases hu0 : 0 < u1
            · exact Lib.run_clear_slice wr.drew 75 4 ty (.bool false) Try.underlying75 (fun w => zero_run hib hzb w) rfl rfl gb o1 u1 n hu0 (fun j hj => by have := HR2.out.drew.rg.cell (i := o1 + j) (by rcases HCST.out.ho with ⟨rfl, rfl⟩ | ⟨rfl, rfl⟩ <;> omega); rw [this]; rfl) (fun j _ => HR2.out.drew.rg.frozen _)
            · obtain rfl : u1 = 0 := by omega
              exact run_clear_none wr.drew 75 4 ty (.bool false) Try.underlying75 (fun w => zero_run hib hzb w) _ _
          go_upto_region 27 with fail
          go_region
          have hr4 := HRows.clear u1 o1 _ _ HR2.out.drew
          have hown4 : (wr.drew.setCells gb o1 (List.replicate u1 (.bool false))).ownsRow W1.heap.size 3 1 u6 rs.length OUT := own_turns (own_drew HO.out) (turns_cells gb _ _ _) (fun k hk => by have := (HO.out.lt k hk).1; intro e; have e : k = gb := e; omega)
          obtain ⟨wa, hwa⟩ : ∃ wa, wa = wr.drew.setCells gb o1 (List.replicate u1 (.bool false)) := ⟨_, rfl⟩
          rw [← hwa] at hr4 hown4 ⊢
          have t2 := hr4.t2; have t0 := hr4.t0; have t3 := hr4.t3; have t1 := hr4.t1; have t4 := hr4.t4; have t5 := hr4.t5; have t6 := hr4.t6; have t7 := hr4.t7
          have bx4 : wa.cell? ⟨w.heap.size, 0, none⟩ = some (.pointer (some ⟨b, 0, none⟩)) := (hr4.tu.cell (p := ⟨w.heap.size, 0, none⟩) (by rw [HSZ.out]; exact Nat.lt_succ_self _) (by rintro (e | e | e) <;> simp at e <;> omega)).trans b0
          have fb4 := hr4.rb.frozen 2
          have fb5 := hr4.rb.frozen 3
          have HWA := Lib.hid hwa; have HR4 := Lib.hid hr4; have HO4 := Lib.hid hown4; clear hwa hr4 hown4 hclr
          go_upto_region 28 with fail
          go_region
          have hr5 : HRows W1 ((wa.setCell ⟨b, 2, none⟩ (.int .i64 0)).setCell ⟨b, 3, none⟩ (.int .i64 0)) b cb gb (2 * n) (topV cb gb n o1 0 0 o2 a M.length) C2 (cleared G2 o1 u1) :=
            ((HR4.out.setB 2 _).setB 3 _).congr (fun i _ => topV_main i) (fun _ _ => rfl) (fun _ _ => rfl)
          have hown5 : ((wa.setCell ⟨b, 2, none⟩ (.int .i64 0)).setCell ⟨b, 3, none⟩ (.int .i64 0)).ownsRow W1.heap.size 3 1 u6 rs.length OUT := own_set (own_set HO4.out lb1 _) lb1 _
          clear t0 t1 t2 t3 t4 t5 t6 t7 fb4 fb5 bx4
          go_upto_region 29 with fail
          obtain ⟨wb, hwb⟩ : ∃ wb, wb = (wa.setCell ⟨b, 2, none⟩ (.int .i64 0)).setCell ⟨b, 3, none⟩ (.int .i64 0) := ⟨_, rfl⟩
          rw [← hwb] at hr5 hown5 ⊢
          have t2 := hr5.t2; have t0 := hr5.t0; have t3 := hr5.t3; have t1 := hr5.t1; have t4 := hr5.t4; have t5 := hr5.t5; have t6 := hr5.t6; have t7 := hr5.t7
          have bx4 : wb.cell? ⟨w.heap.size, 0, none⟩ = some (.pointer (some ⟨b, 0, none⟩)) := (hr5.tu.cell (p := ⟨w.heap.size, 0, none⟩) (by rw [HSZ.out]; exact Nat.lt_succ_self _) (by rintro (e | e | e) <;> simp at e <;> omega)).trans b0
          have f0 := hr5.rb.frozen 0; have f1 := hr5.rb.frozen 1; have f2 := hr5.rb.frozen 2; have f3 := hr5.rb.frozen 3; have f4 := hr5.rb.frozen 4; have f5 := hr5.rb.frozen 5; have f6 := hr5.rb.frozen 6; have f7 := hr5.rb.frozen 7
          have HWB := Lib.hid hwb; have HR5 := Lib.hid hr5; have HO5 := Lib.hid hown5; clear hwb hr5 hown5
          go_region
          go_upto_region 30 with fail
          go_wp2_with fail
          go_ret2
          exact coll_fin HCST.out HCH.out HS.out HI.out H1.out HM0.out HOUT.out HR5.out HO5.out lb1 HSZ.out HB1.out
end Go.Proofs.Ytfeghobfkgimfaa
